/-
  Several texts in one, in their build order: WP, WP2, WP3, Wa, Wb, Shelf, Rdr, Wd, DbX, Rdr2.
-/
import Derived.Deep.DeepMust
import Derived.Shelf.SlGeneric
import Derived.Shelf.SlSortCmp.WholeK
import Derived.Ground.SlsfProg
import Derived.Shelf.Spec.SlicesGrow
import Derived.Shelf.Strings.Builder1
import Derived.Shelf.Strings.Builder2
import Derived.Shelf.Strings.Trim
import Derived.Shelf.Small.Utf8
import Derived.Shelf.Small.Bits
import Derived.Shelf.Small.Strs
import Derived.Shelf.Strings.BuilderF
import Derived.Shelf.Strings.BuilderK
import Derived.Shelf.Strconv.Itoa0
import Derived.Shelf.Strings.Search1
import Derived.Shelf.Strings.Search2
import Derived.Shelf.Strings.Search3
import Derived.Shelf.Strings.Count
import Derived.Shelf.LaysM
import Derived.Shelf.Strings.Shaped
import Derived.Shelf.Strings.Prefix
import Derived.Shelf.Strings.Split
import Derived.Shelf.Strings.Replace
import Derived.Shelf.Strings.SplitShaped
import Derived.Shelf.Unicode.Latin
import Derived.Shelf.Strings.Runes
import Derived.Shelf.Strings.AsciiSet
import Derived.Shelf.Bits.Mul64
import Derived.Shelf.Unicode.DecodeSlow
import Derived.Shelf.Unicode.DecodeAny
import Derived.Shelf.Unicode.CaseLookup
import Derived.Shelf.Unicode.CaseConvert
import Derived.Shelf.Unicode.CaseTo
import Derived.Shelf.Unicode.CaseLaid
import Derived.Test.YtejccafolfeabaaGreatDoorProg
import Derived.Lib.RuneCountTail
import Derived.Shelf.Strings.SlTrimAscii
import Derived.Test.YtejccafolfeabaaGreatDoorZ1
/-
  PLAIN, for the walks of props: a rune in quotes by the reader's word; a name byte by byte; the place of a byte outside of quotes, step by step.
-/
namespace Go.Proofs.YtejccafolfeabaaGreatDoor

theorem qtS_cons (c : UInt8) (r : List UInt8) : qtL (c :: r) = if c = 39 ∧ (runeAt (bytesOf (c :: r)) 1).2 ≠ 0 ∧ r[(runeAt (bytesOf (c :: r)) 1).2]? = some 39 then some ((runeAt (bytesOf (c :: r)) 1).2 + 2) else none := by
  rw [qtL_cons, show (1 : Nat) = 0 + 1 from rfl, runeAt_sh]
  by_cases hr : r = []
  · subst hr
    rw [if_neg (by simp), if_neg (fun h => by simp at h)]
  · have hb := decL_bd hr
    have e : runeAt (bytesOf r) 0 = Utf8.decode (bytesOf r) 0 := by
      unfold runeAt
      rw [if_pos (by rw [bytesOf_size]; omega)]
    rw [e]
    by_cases h : c = 39 ∧ r[(Utf8.decode (bytesOf r) 0).2]? = some 39
    · rw [if_pos ⟨h.1, hr, h.2⟩, if_pos ⟨h.1, by omega, h.2⟩]
    · rw [if_neg (fun k => h ⟨k.1, k.2.2⟩), if_neg (fun k => h ⟨k.1, k.2.2⟩)]
theorem bytes_is (s : ByteArray) : bytesOf s.data.toList = s := bytesOf_data s
theorem rest_eq (s : ByteArray) (p : Nat) : (rest s p).head? = s.data.toList[p]? := by unfold rest; rw [List.head?_drop]
/-- What stands at a string's beginning: no rune in quotes. -/
theorem qt_no {s : ByteArray} (h : ∀ h0 : 0 < s.size, s[0]'h0 ≠ 39) : qtL s.data.toList = none := by
  cases hl : s.data.toList with
  | nil => rfl
  | cons c r =>
    have h0 : 0 < s.size := by rw [← size_data, hl]; simp
    have : s[0]'h0 = c := by
      have h1 : s.data.toList[0]? = some (s[0]'h0) := List.getElem?_eq_getElem (by simpa using h0)
      rw [hl] at h1; simpa using h1.symm
    rw [qtS_cons, if_neg (fun k => h h0 (by rw [this, k.1]))]
theorem qt_zero {s : ByteArray} (h : (runeAt s 1).2 = 0) : qtL s.data.toList = none := by
  cases hl : s.data.toList with
  | nil => rfl
  | cons c r =>
    have hs : s = bytesOf (c :: r) := by rw [← hl, bytesOf_data]
    rw [qtS_cons, ← hs, if_neg (fun k => k.2.1 h)]
theorem qt_open {s : ByteArray} (h : s.data.toList[(runeAt s 1).2 + 1]? ≠ some 39) : qtL s.data.toList = none := by
  cases hl : s.data.toList with
  | nil => rfl
  | cons c r =>
    have hs : s = bytesOf (c :: r) := by rw [← hl, bytesOf_data]
    rw [qtS_cons, ← hs, if_neg (fun k => h (by rw [hl]; exact k.2.2))]
theorem qt_ok {s : ByteArray} (h0 : 0 < s.size) (h1 : s[0]'h0 = 39) (h2 : (runeAt s 1).2 ≠ 0) (h3 : s.data.toList[(runeAt s 1).2 + 1]? = some 39) : qtL s.data.toList = some ((runeAt s 1).2 + 2) := by
  cases hl : s.data.toList with
  | nil => rw [← size_data, hl] at h0; simp at h0
  | cons c r =>
    have hs : s = bytesOf (c :: r) := by rw [← hl, bytesOf_data]
    have hc : s[0]'h0 = c := by
      have h1 : s.data.toList[0]? = some (s[0]'h0) := List.getElem?_eq_getElem (by simpa using h0)
      rw [hl] at h1; simpa using h1.symm
    rw [qtS_cons, ← hs, if_pos ⟨by rw [← hc, h1], h2, by rw [hl] at h3; exact h3⟩]

/-- A name as far as it has been read. -/
def nameU : List UInt8 → Bool
  | [] => true
  | c :: r => letB c && r.all partB
theorem nameL_eq (l : List UInt8) : nameL l = (nameU l && decide (1 ≤ l.length ∧ l.length ≤ 32)) := by
  cases l with
  | nil => rfl
  | cons c r => 
    simp only [nameL, nameU, List.length_cons]
    congr 1
    rw [decide_eq_decide]; omega
theorem nameU_first (c : UInt8) : nameU [c] = letB c := by simp [nameU]
theorem nameU_snoc {l : List UInt8} (h : l ≠ []) (c : UInt8) : nameU (l ++ [c]) = (nameU l && partB c) := by
  cases l with
  | nil => exact absurd rfl h
  | cons a r => simp [nameU, List.all_append, Bool.and_assoc]
theorem nameU_take {l : List UInt8} {k : Nat} (h : nameU (l.take k) = false) : nameU l = false := by
  cases l with
  | nil => simpa using h
  | cons c r =>
    cases k with
    | zero => simp [nameU] at h
    | succ k =>
      simp only [List.take_succ_cons, nameU] at h ⊢
      cases hc : letB c with
      | false => rfl
      | true =>
        rw [hc] at h
        simp only [Bool.true_and] at h ⊢
        rw [List.all_eq_false] at h ⊢
        obtain ⟨x, hx, h2⟩ := h
        exact ⟨x, List.mem_of_mem_take hx, h2⟩
theorem nameU_next {l : List UInt8} {k : Nat} {c : UInt8} (h : l[k]? = some c) (hk : nameU (l.take k) = true) : nameU (l.take (k + 1)) = if k = 0 then letB c else partB c := by
  have hs : l.take (k + 1) = l.take k ++ [c] := by rw [List.take_add_one, h]; rfl
  have hlt := (List.getElem?_eq_some_iff.1 h).1
  rw [hs]
  split
  · rename_i h0; subst h0; rw [List.take_zero, List.nil_append, nameU_first]
  · rw [nameU_snoc (by intro e; have h1 := congrArg List.length e; rw [List.length_take] at h1; simp only [List.length_nil] at h1; omega), hk, Bool.true_and]

/-- How far find has come. -/
def FindAt (c : UInt8) (l : List UInt8) (i : Nat) : Prop := i ≤ l.length ∧ findP c l = (findP c (l.drop i)).map (· + i)
theorem findAt_first (c : UInt8) (l : List UInt8) : FindAt c l 0 := ⟨by omega, by rw [List.drop_zero]; cases findP c l <;> rfl⟩
theorem findAt_qt {c : UInt8} {l : List UInt8} {i k : Nat} (h : FindAt c l i) (hq : qtL (l.drop i) = some k) : FindAt c l (i + k) := by
  have hk := (qtL_some hq).2.2.1
  rw [List.length_drop] at hk
  have := h.1
  refine ⟨by have := (qtL_some hq).1; omega, ?_⟩
  rw [h.2, findP_qt hq, List.drop_drop]
  cases findP c (l.drop (i + k)) with
  | none => rfl
  | some j => simp; omega
theorem findAt_byte {c x : UInt8} {l : List UInt8} {i : Nat} (h : FindAt c l i) (hx : l[i]? = some x) (hq : qtL (l.drop i) = none) (hne : x ≠ c) : FindAt c l (i + 1) := by
  have hlt := (List.getElem?_eq_some_iff.1 hx).1
  have hd : l.drop i = x :: l.drop (i + 1) := by
    have := (List.getElem?_eq_some_iff.1 hx).2
    rw [List.drop_eq_getElem_cons hlt, this]
  refine ⟨by omega, ?_⟩
  rw [h.2, hd, findP_cons (by rw [← hd]; exact hq), if_neg hne]
  cases findP c (l.drop (i + 1)) with
  | none => rfl
  | some j => simp; omega
theorem findAt_hit {c : UInt8} {l : List UInt8} {i : Nat} (h : FindAt c l i) (hx : l[i]? = some c) (hq : qtL (l.drop i) = none) : findP c l = some i := by
  have hlt := (List.getElem?_eq_some_iff.1 hx).1
  have hd : l.drop i = c :: l.drop (i + 1) := by
    have := (List.getElem?_eq_some_iff.1 hx).2
    rw [List.drop_eq_getElem_cons hlt, this]
  rw [h.2, hd, findP_cons (by rw [← hd]; exact hq), if_pos rfl]; simp
theorem findAt_end {c : UInt8} {l : List UInt8} {i : Nat} (h : FindAt c l i) (hi : ¬ i < l.length) : findP c l = none := by
  rw [h.2, List.drop_of_length_le (by omega)]; rfl
/-- A place, or -1. -/
def fv : Option Nat → Int
  | none => -1
  | some i => i
end Go.Proofs.YtejccafolfeabaaGreatDoor

/-
  PLAIN, for the walks of props: two sets that meet, step by step; what a line adds, in the program's order; the clash, set by set.
-/
namespace Go.Proofs.YtejccafolfeabaaGreatDoor

def MeetAt (a b : List (Int × Int)) (i j : Nat) : Prop := i ≤ a.length ∧ j ≤ b.length ∧ meetB a b = meetB (a.drop i) (b.drop j)
theorem meetAt_first (a b : List (Int × Int)) : MeetAt a b 0 0 := ⟨by omega, by omega, by rw [List.drop_zero, List.drop_zero]⟩
theorem Nf_drop {l : List (Int × Int)} (k : Nat) (h : Nf l) : Nf (l.drop k) := by
  rw [← List.take_append_drop k l] at h
  exact ((Nf_append _ _).1 h).2.1
theorem drop_at {α : Type} {l : List α} {i : Nat} {x : α} (h : l[i]? = some x) : l.drop i = x :: l.drop (i + 1) := by
  obtain ⟨hlt, e⟩ := List.getElem?_eq_some_iff.1 h
  rw [List.drop_eq_getElem_cons hlt, e]
theorem meetAt_left {a b : List (Int × Int)} {i j : Nat} {x y : Int × Int} (h : MeetAt a b i j) (hb : Nf b) (hx : a[i]? = some x) (hy : b[j]? = some y) (hlt : x.2 < y.1) : MeetAt a b (i + 1) j := by
  have h1 := (List.getElem?_eq_some_iff.1 hx).1
  refine ⟨h1, h.2.1, ?_⟩
  rw [h.2.2, drop_at hx, drop_at hy]
  exact meetB_left (by rw [← drop_at hy]; exact Nf_drop j hb) hlt
theorem meetAt_right {a b : List (Int × Int)} {i j : Nat} {x y : Int × Int} (h : MeetAt a b i j) (ha : Nf a) (hx : a[i]? = some x) (hy : b[j]? = some y) (hlt : y.2 < x.1) : MeetAt a b i (j + 1) := by
  have h1 := (List.getElem?_eq_some_iff.1 hy).1
  refine ⟨h.1, h1, ?_⟩
  rw [h.2.2, drop_at hx, drop_at hy]
  exact meetB_right (by rw [← drop_at hx]; exact Nf_drop i ha) hlt
theorem meetAt_here {a b : List (Int × Int)} {i j : Nat} {x y : Int × Int} (h : MeetAt a b i j) (hx : a[i]? = some x) (hy : b[j]? = some y) (h1 : ¬ x.2 < y.1) (h2 : ¬ y.2 < x.1) : meetB a b = true := by
  rw [h.2.2, drop_at hx, drop_at hy]
  exact meetB_here h1 h2
theorem meetAt_end {a b : List (Int × Int)} {i j : Nat} (h : MeetAt a b i j) (hij : ¬ i < a.length ∨ ¬ j < b.length) : meetB a b = false := by
  rw [h.2.2]
  rcases hij with hi | hj
  · rw [List.drop_of_length_le (by omega)]; exact meetB_nil_left _
  · rw [List.drop_of_length_le (l := b) (by omega)]; exact meetB_nil_right _

/-- How far the clash has been looked for. -/
def ClashAt (d : DbP) (c : Nat) (l : List (Int × Int)) (k : Nat) : Prop := ∀ q, q < k → q ≠ c → meetB (d.sets.getD q []) l = false
theorem clashAt_first (d : DbP) (c : Nat) (l : List (Int × Int)) : ClashAt d c l 0 := fun q hq => by omega
theorem clashAt_next {d : DbP} {c : Nat} {l s : List (Int × Int)} {k : Nat} (h : ClashAt d c l k) (hs : d.sets[k]? = some s) (hk : k = c ∨ meetB s l = false) : ClashAt d c l (k + 1) := fun q hq hqc => by
  rcases Nat.lt_or_ge q k with hlt | hge
  · exact h q hlt hqc
  · obtain rfl : q = k := by omega
    rcases hk with e | e
    · exact absurd e hqc
    · rw [List.getD_eq_getElem?_getD, hs]; exact e
theorem clashAt_end {d : DbP} {c : Nat} {l : List (Int × Int)} {k : Nat} (h : ClashAt d c l k) (hk : ¬ k < d.sets.length) : d.clash c l = false := by
  unfold DbP.clash
  rw [List.any_eq_false]
  intro q hq
  have := List.mem_range.1 hq
  by_cases e : q = c
  · simp [e]
  · rw [h q (by omega) e]; simp
theorem clash_here {d : DbP} {c : Nat} {l s : List (Int × Int)} {k : Nat} (hs : d.sets[k]? = some s) (hk : k ≠ c) (h : meetB s l = true) : d.clash c l = true := by
  unfold DbP.clash
  rw [List.any_eq_true]
  refine ⟨k, List.mem_range.2 (List.getElem?_eq_some_iff.1 hs).1, ?_⟩
  rw [List.getD_eq_getElem?_getD, hs]
  simp [hk, h]

/-- What the program's add does with a line that says something. -/
def addS (d : DbP) (u : List UInt8) : Except Int DbP :=
  match findP 59 u with
  | none => .error 42
  | some j => addL d (trimL (u.drop (j + 1))) (u.take j)
/-- The line as the program trims it. -/
def lineU (l : List UInt8) : List UInt8 := trimL (l.take (hashP l))
theorem step_nil {d : DbP} {l : List UInt8} (h : lineU l = []) : stepL d l = .ok d := by
  unfold stepL lineP
  simp only [show trimL (l.take (hashP l)) = [] from h, if_true]
theorem step_add {d : DbP} {l : List UInt8} (h : lineU l ≠ []) : stepL d l = addS d (lineU l) := by
  unfold stepL lineP addS
  simp only [show trimL (l.take (hashP l)) = lineU l from rfl, if_neg h]
  cases findP 59 (lineU l) with
  | none => rfl
  | some j => rfl
/-- A name's number: the old one, or a new one; or there are too many. -/
def nbrP (d : DbP) (n : List UInt8) : Except Int Nat := match d.num n with
  | some c => .ok c
  | none => if 64 ≤ d.names.length then .error 6 else .ok d.names.length
/-- The database with a set more. -/
def putP (d : DbP) (n : List UInt8) (c : Nat) (l : List (Int × Int)) : DbP :=
  if c = d.names.length then ⟨d.names ++ [n], d.sets ++ [orR [] l]⟩ else ⟨d.names, d.sets.set c (orR (d.sets.getD c []) l)⟩
theorem addS_none {d : DbP} {u : List UInt8} (h : findP 59 u = none) : addS d u = .error 42 := by unfold addS; rw [h]
section
variable {d : DbP} {u : List UInt8} {j : Nat} (h : findP 59 u = some j)
include h
theorem addS_name (hn : nameL (trimL (u.drop (j + 1))) = false ∨ trimL (u.drop (j + 1)) = otherL) : addS d u = .error 40 := by
  unfold addS addL; rw [h]; simp only [if_pos hn]
theorem addS_parse (hn : ¬ (nameL (trimL (u.drop (j + 1))) = false ∨ trimL (u.drop (j + 1)) = otherL)) {e : Int} (hp : parseE (spcL (u.take j)) = .error e) : addS d u = .error e := by
  unfold addS addL; rw [h]; simp only [if_neg hn, hp]
theorem addS_many (hn : ¬ (nameL (trimL (u.drop (j + 1))) = false ∨ trimL (u.drop (j + 1)) = otherL)) {l : List (Int × Int)} (hp : parseE (spcL (u.take j)) = .ok l) {e : Int} (hm : nbrP d (trimL (u.drop (j + 1))) = .error e) : addS d u = .error e := by
  unfold addS addL; rw [h]; simp only [if_neg hn, hp]
  unfold nbrP at hm
  cases hq : d.num (trimL (u.drop (j + 1))) with
  | some c => rw [hq] at hm; cases hm
  | none =>
    rw [hq] at hm
    simp only at hm ⊢
    split at hm
    · rename_i h6; rw [if_pos h6]; injection hm with hm; rw [hm]
    · cases hm
theorem addS_clash (hn : ¬ (nameL (trimL (u.drop (j + 1))) = false ∨ trimL (u.drop (j + 1)) = otherL)) {l : List (Int × Int)} (hp : parseE (spcL (u.take j)) = .ok l) {c : Nat} (hm : nbrP d (trimL (u.drop (j + 1))) = .ok c) (hc : d.clash c (normR l) = true) : addS d u = .error 41 := by
  unfold addS addL; rw [h]; simp only [if_neg hn, hp]
  unfold nbrP at hm
  cases hq : d.num (trimL (u.drop (j + 1))) with
  | some c' => rw [hq] at hm; injection hm with hm; subst hm; simp only [hc, if_true]
  | none =>
    rw [hq] at hm
    simp only at hm ⊢
    split at hm
    · cases hm
    · rename_i h6; rw [if_neg h6]; injection hm with hm; subst hm; simp only [hc, if_true]
theorem addS_ok (hn : ¬ (nameL (trimL (u.drop (j + 1))) = false ∨ trimL (u.drop (j + 1)) = otherL)) {l : List (Int × Int)} (hp : parseE (spcL (u.take j)) = .ok l) {c : Nat} (hm : nbrP d (trimL (u.drop (j + 1))) = .ok c) (hc : d.clash c (normR l) = false) : addS d u = .ok (putP d (trimL (u.drop (j + 1))) c (normR l)) := by
  unfold addS addL; rw [h]; simp only [if_neg hn, hp]
  unfold nbrP at hm
  cases hq : d.num (trimL (u.drop (j + 1))) with
  | some c' =>
    rw [hq] at hm; injection hm with hm; subst hm
    have := (List.getElem?_eq_some_iff.1 (idxOf?_some (show d.names.idxOf? _ = some c' from hq))).1
    simp only [hc, putP, if_neg (show ¬ c' = d.names.length by omega)]
    rfl
  | none =>
    rw [hq] at hm
    simp only at hm ⊢
    split at hm
    · cases hm
    · rename_i h6; rw [if_neg h6]; injection hm with hm; subst hm; simp only [hc, putP, if_true]; rfl
end
theorem nbrP_le {d : DbP} {n : List UInt8} {c : Nat} (h : nbrP d n = .ok c) : c ≤ d.names.length := by
  unfold nbrP at h
  cases hq : d.num n with
  | some c' =>
    rw [hq] at h; injection h with h; subst h
    exact Nat.le_of_lt (List.getElem?_eq_some_iff.1 (idxOf?_some (show d.names.idxOf? _ = some c' from hq))).1
  | none =>
    rw [hq] at h; simp only at h
    split at h
    · cases h
    · injection h with h; omega
end Go.Proofs.YtejccafolfeabaaGreatDoor

/-
  PLAIN, for the walks of props: all ranges gathered; the binary search; the lines one by one; the text class by class.
-/
namespace Go.Proofs.YtejccafolfeabaaGreatDoor

/-- What close has gathered: of the sets ahead of number c + 1 all, of the next one the first k. -/
def gotR (S : List (List (Int × Int))) (c k : Nat) : List (Int × Int × Nat) := entG 1 (S.take c) ++ ((S.getD c []).take k).map fun x => (x.1, x.2, c + 1)
theorem gotR_first (S : List (List (Int × Int))) : gotR S 0 0 = [] := by simp [gotR, entG]
theorem gotR_in {S : List (List (Int × Int))} {c k : Nat} {s : List (Int × Int)} {x : Int × Int} (hs : S[c]? = some s) (hx : s[k]? = some x) : gotR S c (k + 1) = gotR S c k ++ [(x.1, x.2, c + 1)] := by
  unfold gotR
  rw [List.getD_eq_getElem?_getD, hs, Option.getD_some, List.take_add_one, hx, Option.toList_some, List.map_append, List.append_assoc]; rfl
theorem gotR_out {S : List (List (Int × Int))} {c k : Nat} {s : List (Int × Int)} (hs : S[c]? = some s) (hk : ¬ k < s.length) : gotR S c k = gotR S (c + 1) 0 := by
  unfold gotR
  rw [List.getD_eq_getElem?_getD, hs, Option.getD_some, List.take_of_length_le (l := s) (i := k) (by omega), List.take_zero, List.map_nil, List.append_nil, List.take_add_one, hs, Option.toList_some, entG_append]
  have hlt := (List.getElem?_eq_some_iff.1 hs).1
  rw [List.length_take, Nat.min_eq_left (Nat.le_of_lt hlt)]
  simp [entG, Nat.add_comm]
theorem gotR_end {S : List (List (Int × Int))} {c : Nat} (hc : ¬ c < S.length) : gotR S c 0 = entG 1 S := by
  unfold gotR
  rw [List.take_of_length_le (by omega), List.take_zero, List.map_nil, List.append_nil]
theorem flat_next {S : List (List (Int × Int))} {c : Nat} {s : List (Int × Int)} (hs : S[c]? = some s) : (S.take (c + 1)).flatten = (S.take c).flatten ++ s := by
  rw [List.take_add_one, hs, Option.toList_some, List.flatten_append]; simp
theorem gotR_len {S : List (List (Int × Int))} {c k : Nat} : (gotR S c k).length ≤ lenS S := by
  unfold gotR
  rw [List.length_append, List.length_map, entG_len, List.length_take]
  rcases Nat.lt_or_ge c S.length with h | h
  · have hd : S = S.take c ++ S[c] :: S.drop (c + 1) := by rw [← List.drop_eq_getElem_cons h, List.take_append_drop]
    have h2 : lenS S = lenS (S.take c) + lenS (S[c] :: S.drop (c + 1)) := by
      conv => lhs; rw [hd]
      exact lenS_append _ _
    rw [List.getD_eq_getElem?_getD, List.getElem?_eq_getElem h, Option.getD_some, h2]
    have : lenS (S[c] :: S.drop (c + 1)) = S[c].length + lenS (S.drop (c + 1)) := rfl
    omega
  · rw [List.getD_eq_getElem?_getD, List.getElem?_eq_none h, List.take_of_length_le h]; simp
theorem flat_le (S : List (List (Int × Int))) (c : Nat) : (S.take c).flatten.length ≤ lenS S := by
  rw [lenS_flat]
  have h2 : lenS S = lenS (S.take c) + lenS (S.drop c) := by
    conv => lhs; rw [← List.take_append_drop c S]
    exact lenS_append _ _
  omega

/-- How far the binary search has come. -/
structure BinAt (l : List (Int × Int × Nat)) (r : Int) (i j : Nat) : Prop where
  le : i ≤ j
  len : j ≤ l.length
  lo : ∀ t x, t < i → l[t]? = some x → x.2.1 < r
  hi : ∀ t x, j ≤ t → l[t]? = some x → ¬ x.2.1 < r
theorem binAt_first (l : List (Int × Int × Nat)) (r : Int) : BinAt l r 0 l.length := ⟨by omega, by omega, fun t x h => by omega, fun t x h hx => by have := (List.getElem?_eq_some_iff.1 hx).1; omega⟩
theorem hi_rise {l : List (Int × Int × Nat)} (hp : l.Pairwise fun a b => a.2.1 < b.1) (hl : ∀ y ∈ l, y.1 ≤ y.2.1) {t h : Nat} {x y : Int × Int × Nat} (hth : t < h) (hx : l[t]? = some x) (hy : l[h]? = some y) : x.2.1 < y.2.1 := by
  obtain ⟨h1, e1⟩ := List.getElem?_eq_some_iff.1 hx
  obtain ⟨h2, e2⟩ := List.getElem?_eq_some_iff.1 hy
  have := List.pairwise_iff_getElem.1 hp t h h1 h2 hth
  have := hl y (List.mem_of_getElem? hy)
  rw [e1, e2] at *
  omega
theorem binAt_left {l : List (Int × Int × Nat)} {r : Int} {i j h : Nat} {y : Int × Int × Nat} (hb : BinAt l r i j) (hp : l.Pairwise fun a b => a.2.1 < b.1) (hl : ∀ y ∈ l, y.1 ≤ y.2.1) (h2 : h < j) (hy : l[h]? = some y) (hlt : y.2.1 < r) : BinAt l r (h + 1) j :=
  ⟨h2, hb.len, fun t x ht hx => by
    rcases Nat.lt_or_ge t h with h3 | h3
    · have := hi_rise hp hl h3 hx hy; omega
    · obtain rfl : t = h := by omega
      rw [hy] at hx; injection hx with hx; subst hx; exact hlt, hb.hi⟩
theorem binAt_right {l : List (Int × Int × Nat)} {r : Int} {i j h : Nat} {y : Int × Int × Nat} (hb : BinAt l r i j) (hp : l.Pairwise fun a b => a.2.1 < b.1) (hl : ∀ y ∈ l, y.1 ≤ y.2.1) (h1 : i ≤ h) (h2 : h < j) (hy : l[h]? = some y) (hlt : ¬ y.2.1 < r) : BinAt l r i h :=
  ⟨h1, by have := hb.len; omega, hb.lo, fun t x ht hx => by
    rcases Nat.lt_or_ge h t with h3 | h3
    · have := hi_rise hp hl h3 hy hx; omega
    · obtain rfl : t = h := by omega
      rw [hy] at hx; injection hx with hx; subst hx; exact hlt⟩
theorem binAt_end {l : List (Int × Int × Nat)} {r : Int} {i j : Nat} (hb : BinAt l r i j) (h : ¬ i < j) : l.countP (endB r) = i := by
  obtain rfl : i = j := by have := hb.le; omega
  exact count_place hb.len hb.lo hb.hi
theorem findC_in {l : List (Int × Int × Nat)} {r : Int} {x : Int × Int × Nat} (h : l[l.countP (endB r)]? = some x) : findC l r = if x.1 ≤ r then x.2.2 else 0 := by unfold findC; rw [h]
theorem findC_out {l : List (Int × Int × Nat)} {r : Int} (h : ¬ l.countP (endB r) < l.length) : findC l r = 0 := by unfold findC; rw [List.getElem?_eq_none (by omega)]

/-- How far the lines have been read. -/
def NewAt (L : List (List UInt8)) (i : Nat) (d : DbP) : Prop := i ≤ L.length ∧ linesGo DbP.first L 0 = linesGo d (L.drop i) i ∧ d.Ok ∧ Apart d.sets
theorem newAt_first (L : List (List UInt8)) : NewAt L 0 DbP.first := ⟨by omega, by rw [List.drop_zero], DbP.first_ok, apart_first⟩
theorem stepL_apart {d d' : DbP} {l : List UInt8} (h : d.Ok) (ha : Apart d.sets) (hs : stepL d l = .ok d') : Apart d'.sets := by
  have h1 : linesGo d [l] 0 = .ok d' := by simp only [linesGo, hs]
  exact linesGo_apart h ha h1
theorem newAt_next {L : List (List UInt8)} {i : Nat} {d d' : DbP} {l : List UInt8} (h : NewAt L i d) (hl : L[i]? = some l) (hs : stepL d l = .ok d') : NewAt L (i + 1) d' :=
  ⟨(List.getElem?_eq_some_iff.1 hl).1, by rw [h.2.1, drop_at hl]; simp only [linesGo, hs], stepL_ok h.2.2.1 hs, stepL_apart h.2.2.1 h.2.2.2 hs⟩
theorem newAt_err {L : List (List UInt8)} {i : Nat} {d : DbP} {l : List UInt8} {e : Int} (h : NewAt L i d) (hl : L[i]? = some l) (hs : stepL d l = .error e) : linesGo DbP.first L 0 = .error (e, i + 1) := by
  rw [h.2.1, drop_at hl]; simp only [linesGo, hs]
theorem newAt_end {L : List (List UInt8)} {i : Nat} {d : DbP} (h : NewAt L i d) (hi : ¬ i < L.length) : linesGo DbP.first L 0 = .ok d := by
  rw [h.2.1, List.drop_of_length_le (by omega)]; rfl
theorem newP_long {t : List UInt8} (h : 65536 < t.length) : newP t = .error (1, 0) := if_pos h
theorem newP_go {t : List UInt8} (h : ¬ 65536 < t.length) : newP t = linesGo DbP.first (splitL t) 0 := if_neg h

theorem textG_take : ∀ (N : List (List UInt8)) (S : List (List (Int × Int))) (k : Nat) (n : List UInt8) (s : List (Int × Int)), N[k]? = some n → S[k]? = some s → textG (N.take (k + 1)) (S.take (k + 1)) = textG (N.take k) (S.take k) ++ (lineT s n ++ [10])
  | [], S, k, n, s, h, _ => by simp at h
  | a :: N, [], k, n, s, _, h => by simp at h
  | a :: N, b :: S, 0, n, s, h1, h2 => by simp at h1 h2; subst h1; subst h2; simp [textG]
  | a :: N, b :: S, k + 1, n, s, h1, h2 => by
    have ih := textG_take N S k n s (by simpa using h1) (by simpa using h2)
    simp only [List.take_succ_cons, textG] at ih ⊢
    rw [ih]; simp
theorem full_tail (d : DbP) : d.full.tail = d.sets.tail := rfl
theorem full_get {d : DbP} {k : Nat} : d.full[k + 1]? = d.sets.tail[k]? := rfl
theorem full_first (d : DbP) : d.full[0]? = some d.rest := rfl
theorem full_set {d : DbP} (h : d.Ok) : d.sets.set 0 d.rest = d.full := by
  have := h.head; have := h.len
  unfold DbP.full
  cases hs : d.sets with
  | nil =>
    have h1 := h.len; have h2 := h.head
    rw [hs] at h1
    cases hn : d.names with
    | nil => rw [hn] at h2; cases h2
    | cons a b => rw [hn] at h1; simp at h1
  | cons a b => rw [show d.rest = DbP.rest d from rfl]; simp
end Go.Proofs.YtejccafolfeabaaGreatDoor

/-
  props: Name, meet, number, Class, walked.
-/
namespace Go.Proofs.YtejccafolfeabaaGreatDoor
open Go.RowKit Go.Maps

theorem letB_t {c : UInt8} (h : (65 ≤ c.toNat ∧ c.toNat ≤ 90) ∨ (97 ≤ c.toNat ∧ c.toNat ≤ 122)) : letB c = true := by simpa [letB] using h
theorem letB_f {c : UInt8} (h : ¬ ((65 ≤ c.toNat ∧ c.toNat ≤ 90) ∨ (97 ≤ c.toNat ∧ c.toNat ≤ 122))) : letB c = false := by
  cases hb : letB c with
  | false => rfl
  | true => exact absurd (by simpa [letB] using hb) h
theorem u8_eq {c : UInt8} {n : Nat} (hn : n < 256) : c = UInt8.ofNat n ↔ c.toNat = n := by
  constructor
  · rintro rfl; simp; omega
  · intro h; rw [← UInt8.toNat_inj, h]; simp; omega
theorem partB_t {c : UInt8} (h : (65 ≤ c.toNat ∧ c.toNat ≤ 90) ∨ (97 ≤ c.toNat ∧ c.toNat ≤ 122) ∨ (48 ≤ c.toNat ∧ c.toNat ≤ 57) ∨ c.toNat = 95) : partB c = true := by
  have h95 : c = 95 ↔ c.toNat = 95 := u8_eq (n := 95) (by omega)
  simp only [partB, letB, Bool.or_eq_true, decide_eq_true_eq, beq_iff_eq, h95]; omega
theorem partB_f {c : UInt8} (h : ¬ ((65 ≤ c.toNat ∧ c.toNat ≤ 90) ∨ (97 ≤ c.toNat ∧ c.toNat ≤ 122) ∨ (48 ≤ c.toNat ∧ c.toNat ≤ 57) ∨ c.toNat = 95)) : partB c = false := by
  have h95 : c = 95 ↔ c.toNat = 95 := u8_eq (n := 95) (by omega)
  cases hb : partB c with
  | false => rfl
  | true =>
    refine absurd ?_ h
    simp only [partB, letB, Bool.or_eq_true, decide_eq_true_eq, beq_iff_eq, h95] at hb; omega

set_option maxRecDepth 100000 in
set_option maxHeartbeats 4000000 in
theorem wName_any (l : List UInt8) (w : World) (hs : l.length ≤ 9223372036854775807) : Calls Tryz.prog 10 #[.string (bytesOf l)] w fun e w' => e = .returned (.bool (nameL l)) ∧ Below w.heap.size w w' := by
  have hcv := fun W => Lib.run_convert_string_bytes (P := Tryz.prog) W 9 66 5 (bytesOf l) Tryz.underlying9 Tryz.underlying66 Tryz.underlying5
  have hsz : (bytesOf l).size = l.length := bytesOf_size l
  go_enter Tryz.func10, Tryz.ntmps10
  go_wp2
  have hcell := fun j hj => Lib.bytesWorld_cell w 5 (bytesOf l) j hj
  have hbw := below_bytesWorld w 5 (bytesOf l)
  generalize Lib.bytesWorld w 5 (bytesOf l) = w1 at hcell hbw ⊢
  have Hcell := Lib.hid hcell
  clear hcell hcv
  go_loop [9] (fun i => ∃ k : Nat, i = .int .i64 k ∧ k ≤ l.length ∧ Hid (nameU (l.take k) = true)) (fun i => l.length - (intOf i).toNat)
  case atStart => exact ⟨0, rfl, by omega, rfl⟩
  case round =>
    obtain ⟨k, rfl, hk, Hm⟩ := hrel
    by_cases hlt : k < l.length
    · obtain ⟨c, Hc⟩ : ∃ c, Hid (l[k]? = some c) := ⟨_, Lib.hid (List.getElem?_eq_getElem hlt)⟩
      have hc := Hcell.out k (by rw [bytesOf_size]; exact hlt)
      rw [bytesOf_list, List.getD_eq_getElem?_getD, Hc.out, Option.getD_some] at hc
      have HN := Lib.hid (nameU_next Hc.out Hm.out)
      have HE : Hid (nameU (l.take (k + 1)) = false → nameL l = false) := Lib.hid (fun h => by rw [nameL_eq, nameU_take h, Bool.false_and])
      have hc0 : 0 ≤ (c.toNat : Int) := by omega
      have hc255 : (c.toNat : Int) ≤ 255 := by have := c.toNat_lt; omega
      have HLT : Hid ((65 ≤ (c.toNat : Int) ∧ (c.toNat : Int) ≤ 90) ∨ (97 ≤ (c.toNat : Int) ∧ (c.toNat : Int) ≤ 122) → letB c = true ∧ partB c = true) := Lib.hid (fun h => ⟨letB_t (by omega), partB_t (by omega)⟩)
      have HLF : Hid (¬ ((65 ≤ (c.toNat : Int) ∧ (c.toNat : Int) ≤ 90) ∨ (97 ≤ (c.toNat : Int) ∧ (c.toNat : Int) ≤ 122)) → letB c = false) := Lib.hid (fun h => letB_f (by omega))
      have HPT : Hid ((48 ≤ (c.toNat : Int) ∧ (c.toNat : Int) ≤ 57) ∨ (c.toNat : Int) = 95 → partB c = true) := Lib.hid (fun h => partB_t (by omega))
      have HPF : Hid (¬ ((65 ≤ (c.toNat : Int) ∧ (c.toNat : Int) ≤ 90) ∨ (97 ≤ (c.toNat : Int) ∧ (c.toNat : Int) ≤ 122) ∨ (48 ≤ (c.toNat : Int) ∧ (c.toNat : Int) ≤ 57) ∨ (c.toNat : Int) = 95) → partB c = false) := Lib.hid (fun h => partB_f (by omega))
      generalize (c.toNat : Int) = z at hc hc0 hc255 HLT HLF HPT HPF
      rcases Nat.eq_zero_or_pos k with rfl | h0
      · rcases (by omega : (65 ≤ z ∧ z ≤ 90) ∨ (97 ≤ z ∧ z ≤ 122) ∨ (z < 65 ∨ (90 < z ∧ z < 97) ∨ 122 < z)) with ⟨hq, hq'⟩ | ⟨hq, hq'⟩ | hq
        iterate 2
          · have HV : Hid (nameU (l.take (0 + 1)) = true) := Lib.hid (by rw [HN.out, if_pos rfl]; exact (HLT.out (by omega)).1)
            clear HLT HLF HPT HPF HN HE
            try first | (have d65 : decide (65 ≤ z) = true := decide_eq_true (by omega)) | (have d65 : decide (65 ≤ z) = false := decide_eq_false (by omega))
            try first | (have d90 : decide (z ≤ 90) = true := decide_eq_true (by omega)) | (have d90 : decide (z ≤ 90) = false := decide_eq_false (by omega))
            try first | (have d97 : decide (97 ≤ z) = true := decide_eq_true (by omega)) | (have d97 : decide (97 ≤ z) = false := decide_eq_false (by omega))
            try first | (have d122 : decide (z ≤ 122) = true := decide_eq_true (by omega)) | (have d122 : decide (z ≤ 122) = false := decide_eq_false (by omega))
            try first | (have d48 : decide (48 ≤ z) = true := decide_eq_true (by omega)) | (have d48 : decide (48 ≤ z) = false := decide_eq_false (by omega))
            try first | (have d57 : decide (z ≤ 57) = true := decide_eq_true (by omega)) | (have d57 : decide (z ≤ 57) = false := decide_eq_false (by omega))
            try first | (have d95 : (z == 95) = true := beq_iff_eq.2 (by omega)) | (have d95 : (z == 95) = false := beq_eq_false_iff_ne.2 (by omega))
            go_wp2
            refine ⟨⟨0 + 1, by go_num, by omega, HV⟩, ?_⟩
            simp [intOf]; omega
        · have HV : Hid (nameL l = false) := Lib.hid (HE.out (by rw [HN.out, if_pos rfl]; exact HLF.out (by omega)))
          clear HLT HLF HPT HPF HN HE
          rcases hq with hq | ⟨hq, hq'⟩ | hq
          all_goals
            try first | (have d65 : decide (65 ≤ z) = true := decide_eq_true (by omega)) | (have d65 : decide (65 ≤ z) = false := decide_eq_false (by omega))
            try first | (have d90 : decide (z ≤ 90) = true := decide_eq_true (by omega)) | (have d90 : decide (z ≤ 90) = false := decide_eq_false (by omega))
            try first | (have d97 : decide (97 ≤ z) = true := decide_eq_true (by omega)) | (have d97 : decide (97 ≤ z) = false := decide_eq_false (by omega))
            try first | (have d122 : decide (z ≤ 122) = true := decide_eq_true (by omega)) | (have d122 : decide (z ≤ 122) = false := decide_eq_false (by omega))
            try first | (have d48 : decide (48 ≤ z) = true := decide_eq_true (by omega)) | (have d48 : decide (48 ≤ z) = false := decide_eq_false (by omega))
            try first | (have d57 : decide (z ≤ 57) = true := decide_eq_true (by omega)) | (have d57 : decide (z ≤ 57) = false := decide_eq_false (by omega))
            try first | (have d95 : (z == 95) = true := beq_iff_eq.2 (by omega)) | (have d95 : (z == 95) = false := beq_eq_false_iff_ne.2 (by omega))
            go_wp2
            go_ret
            exact ⟨by rw [HV.out]; rfl, hbw⟩
      · have hk0 : ((k : Int) == 0) = false := beq_eq_false_iff_ne.2 (by omega)
        rcases (by omega : (65 ≤ z ∧ z ≤ 90) ∨ (97 ≤ z ∧ z ≤ 122) ∨ (48 ≤ z ∧ z ≤ 57) ∨ z = 95 ∨ (z < 48 ∨ (57 < z ∧ z < 65) ∨ (90 < z ∧ z < 95) ∨ z = 96 ∨ 122 < z)) with ⟨hq, hq'⟩ | ⟨hq, hq'⟩ | ⟨hq, hq'⟩ | hq | hq
        iterate 4
          · have HV : Hid (nameU (l.take (k + 1)) = true) := Lib.hid (by rw [HN.out, if_neg (by omega)]; first | exact (HLT.out (by omega)).2 | exact HPT.out (by omega))
            clear HLT HLF HPT HPF HN HE
            try first | (have d65 : decide (65 ≤ z) = true := decide_eq_true (by omega)) | (have d65 : decide (65 ≤ z) = false := decide_eq_false (by omega))
            try first | (have d90 : decide (z ≤ 90) = true := decide_eq_true (by omega)) | (have d90 : decide (z ≤ 90) = false := decide_eq_false (by omega))
            try first | (have d97 : decide (97 ≤ z) = true := decide_eq_true (by omega)) | (have d97 : decide (97 ≤ z) = false := decide_eq_false (by omega))
            try first | (have d122 : decide (z ≤ 122) = true := decide_eq_true (by omega)) | (have d122 : decide (z ≤ 122) = false := decide_eq_false (by omega))
            try first | (have d48 : decide (48 ≤ z) = true := decide_eq_true (by omega)) | (have d48 : decide (48 ≤ z) = false := decide_eq_false (by omega))
            try first | (have d57 : decide (z ≤ 57) = true := decide_eq_true (by omega)) | (have d57 : decide (z ≤ 57) = false := decide_eq_false (by omega))
            try first | (have d95 : (z == 95) = true := beq_iff_eq.2 (by omega)) | (have d95 : (z == 95) = false := beq_eq_false_iff_ne.2 (by omega))
            go_wp2
            refine ⟨⟨k + 1, by go_num, by omega, HV⟩, ?_⟩
            simp [intOf]; omega
        · have HV : Hid (nameL l = false) := Lib.hid (HE.out (by rw [HN.out, if_neg (by omega)]; exact HPF.out (by omega)))
          clear HLT HLF HPT HPF HN HE
          rcases hq with hq | ⟨hq, hq'⟩ | ⟨hq, hq'⟩ | hq | hq
          all_goals
            try first | (have d65 : decide (65 ≤ z) = true := decide_eq_true (by omega)) | (have d65 : decide (65 ≤ z) = false := decide_eq_false (by omega))
            try first | (have d90 : decide (z ≤ 90) = true := decide_eq_true (by omega)) | (have d90 : decide (z ≤ 90) = false := decide_eq_false (by omega))
            try first | (have d97 : decide (97 ≤ z) = true := decide_eq_true (by omega)) | (have d97 : decide (97 ≤ z) = false := decide_eq_false (by omega))
            try first | (have d122 : decide (z ≤ 122) = true := decide_eq_true (by omega)) | (have d122 : decide (z ≤ 122) = false := decide_eq_false (by omega))
            try first | (have d48 : decide (48 ≤ z) = true := decide_eq_true (by omega)) | (have d48 : decide (48 ≤ z) = false := decide_eq_false (by omega))
            try first | (have d57 : decide (z ≤ 57) = true := decide_eq_true (by omega)) | (have d57 : decide (z ≤ 57) = false := decide_eq_false (by omega))
            try first | (have d95 : (z == 95) = true := beq_iff_eq.2 (by omega)) | (have d95 : (z == 95) = false := beq_eq_false_iff_ne.2 (by omega))
            go_wp2
            go_ret
            exact ⟨by rw [HV.out]; rfl, hbw⟩
    · have HE : Hid (nameL l = decide (1 ≤ l.length ∧ l.length ≤ 32)) := Lib.hid (by rw [nameL_eq, show nameU l = true by have := Hm.out; rwa [List.take_of_length_le (by omega)] at this, Bool.true_and])
      rcases (by omega : l.length = 0 ∨ (1 ≤ l.length ∧ l.length ≤ 32) ∨ 32 < l.length) with h | ⟨h, h'⟩ | h
      all_goals
        go_wp2
        go_ret
        exact ⟨ret_bool (by rw [HE.out]; first | exact (decide_eq_false (by omega)).symm | exact (decide_eq_true (by omega)).symm | (rw [decide_eq_decide]; omega)), hbw⟩

end Go.Proofs.YtejccafolfeabaaGreatDoor

/-
  props: meet, number, Class, slices.Clone (three), Names, Set, Ranged, walked.
-/
namespace Go.Proofs.YtejccafolfeabaaGreatDoor
open Go.RowKit Go.Maps

theorem info_cloneS : (Tryz.prog.info? 9).map (fun i => (i.zero, i.size, i.bytes)) = some (some (.string ByteArray.empty), 1, 16) := by kernel_rfl
theorem info_cloneR : (Tryz.prog.info? 80).map (fun i => (i.zero, i.size, i.bytes)) = some (some (.agg #[.int .i32 0, .int .i32 0]), 2, 8) := by kernel_rfl
theorem info_cloneD : (Tryz.prog.info? 82).map (fun i => (i.zero, i.size, i.bytes)) = some (some (.agg #[.int .i32 0, .int .i32 0, .int .i64 0]), 3, 16) := by kernel_rfl
theorem Rd.nextR {w : World} {A : Option Addr} {x : Int × Int} {l : List (Int × Int)} {b off : Nat} (h : Rd w 2 A ((x :: l).map encR)) (hA : A = some ⟨b, off, none⟩) : Rd w 2 (some ⟨b, off + 2, none⟩) (l.map encR) := by
  intro hn
  obtain ⟨b', off', e, hc⟩ := h (by simp)
  rw [hA] at e; injection e with e; injection e with e1 e2 _
  subst e1; subst e2
  refine ⟨b, off + 2, rfl, fun k j y u hy hu => ?_⟩
  have := hc (k + 1) j y u (by simpa using hy) hu
  rw [show off + (k + 1) * 2 + j = off + 2 + k * 2 + j by omega] at this
  exact this

theorem Rd.nextC {w : World} {x : Int × Int} {l : List (Int × Int)} {b off c : Nat} (h : Rd w 2 (some ⟨b, off, none⟩) ((x :: l).map encR)) (hc : l.length + 1 ≤ c) : Rd w 2 (if c = 1 then some ⟨b, off, none⟩ else some ⟨b, off + 2, none⟩) (l.map encR) := by
  by_cases e : c = 1
  · have : l = [] := List.eq_nil_of_length_eq_zero (by omega)
    subst this; exact Rd.nil_ _ _ _
  · rw [if_neg e]; exact h.nextR rfl

set_option maxRecDepth 100000 in
set_option maxHeartbeats 2000000 in
theorem wmeet_any (A B : Option Addr) (n c m e : Nat) (l q : List (Int × Int)) (w : World) (hA : Rd w 2 A (l.map encR)) (hB : Rd w 2 B (q.map encR)) (hl : l.length = n) (hq : q.length = m) (hn : n ≤ 4000000) (hm : m ≤ 4000000) (hc : n ≤ c) (he : m ≤ e) (h1 : Nf l) (h2 : Nf q) :
    Calls Tryz.prog 72 #[.slice A n c, .slice B m e] w fun e w' => e = .returned (.bool (meetB l q)) ∧ ∃ k, w' = w.drewN k := by
  have H1 := Lib.hid h1
  have H2 := Lib.hid h2
  have Hl := Lib.hid hl
  have Hq := Lib.hid hq
  clear h1 h2
  go_enter Tryz.func72, Tryz.ntmps72
  go_wp2
  go_loopw [0, 1] (fun u v wr => ∃ (i j k : Nat) (A1 B1 : Option Addr) (c1 e1 : Nat), u = .slice A1 (n - i) c1 ∧ v = .slice B1 (m - j) e1 ∧ n - i ≤ c1 ∧ m - j ≤ e1 ∧ Rd w 2 A1 ((l.drop i).map encR) ∧ Rd w 2 B1 ((q.drop j).map encR) ∧ i ≤ n ∧ j ≤ m ∧ Hid (MeetAt l q i j) ∧ wr = w.drewN k) (fun u v _ => (match u with | .slice _ n _ => n | _ => 0) + (match v with | .slice _ n _ => n | _ => 0))
  case atStart => exact ⟨0, 0, 0, A, B, c, e, rfl, rfl, hc, he, by rw [List.drop_zero]; exact hA, by rw [List.drop_zero]; exact hB, by omega, by omega, meetAt_first l q, rfl⟩
  case round =>
    obtain ⟨i, j, k, A1, B1, c1, e1, rfl, rfl, hc1, he1, hA1, hB1, hi, hj, HM, rfl⟩ := hrel
    by_cases hlt : i < n ∧ j < m
    · obtain ⟨hin, hjm⟩ := hlt
      obtain ⟨x, Hx⟩ : ∃ x, Hid (l[i]? = some x) := ⟨_, Lib.hid (List.getElem?_eq_getElem (show i < l.length by have := Hl.out; omega))⟩
      obtain ⟨y, Hy⟩ : ∃ y, Hid (q[j]? = some y) := ⟨_, Lib.hid (List.getElem?_eq_getElem (show j < q.length by have := Hq.out; omega))⟩
      have hA2 : Rd w 2 A1 ((x :: l.drop (i + 1)).map encR) := by rw [← drop_at Hx.out]; exact hA1
      have hB2 : Rd w 2 B1 ((y :: q.drop (j + 1)).map encR) := by rw [← drop_at Hy.out]; exact hB1
      obtain ⟨b, off, rfl, hcx⟩ := hA2 (by simp)
      obtain ⟨b', off', rfl, hcy⟩ := hB2 (by simp)
      have x1 := hcx 0 0 (encR x) (.int .i32 x.1) rfl rfl
      have x2 := hcx 0 1 (encR x) (.int .i32 x.2) rfl rfl
      have y1 := hcy 0 0 (encR y) (.int .i32 y.1) rfl rfl
      have y2 := hcy 0 1 (encR y) (.int .i32 y.2) rfl rfl
      simp only [Nat.zero_mul, Nat.add_zero] at x1 x2 y1 y2
      have HA3 := Lib.hid (hA2.nextC (c := c1) (by have := Hl.out; rw [List.length_drop]; omega))
      have HB3 := Lib.hid (hB2.nextC (c := e1) (by have := Hq.out; rw [List.length_drop]; omega))
      have HA2 := Lib.hid hA1
      have HB2 := Lib.hid hB1
      have HL := Lib.hid (fun h => meetAt_left HM.out H2.out Hx.out Hy.out h)
      have HR := Lib.hid (fun h => meetAt_right HM.out H1.out Hx.out Hy.out h)
      have HH := Lib.hid (fun h h' => meetAt_here HM.out Hx.out Hy.out h h')
      clear hcx hcy hA1 hB1 hA2 hB2
      have HD1 := Lib.hid (drop_at Hx.out)
      have HD2 := Lib.hid (drop_at Hy.out)
      by_cases hxy : x.2 < y.1
      · go_wp2_with fail
        go_quiet (fail)
        go_wp2
        go_roundw
        case rel => exact ⟨i + 1, j, _, _, _, c1 - 1, e1, by rw [show n - (i + 1) = n - i - 1 by omega], rfl, by omega, he1, HA3.out, HB2.out, by omega, by omega, Lib.hid (HL.out hxy), rfl⟩
        case measure => simp only []; omega
      · by_cases hyx : y.2 < x.1
        · go_wp2_with fail
          go_quiet (fail)
          go_wp2_with fail
          go_quiet (fail)
          go_wp2
          go_roundw
          case rel => exact ⟨i, j + 1, _, _, _, c1, e1 - 1, rfl, by rw [show m - (j + 1) = m - j - 1 by omega], hc1, by omega, HA2.out, HB3.out, by omega, by omega, Lib.hid (HR.out hyx), rfl⟩
          case measure => simp only []; omega
        · have HE := Lib.hid (HH.out hxy hyx)
          go_wp2_with fail
          go_quiet (fail)
          go_wp2_with fail
          go_quiet (fail)
          go_wp2
          go_ret
          exact ⟨by rw [HE.out]; rfl, _, by rw [World.drewN_drewN, World.drewN_drewN]⟩
    · have HE := Lib.hid (meetAt_end HM.out (by have := Hl.out; have := Hq.out; omega))
      rcases (by omega : ¬ i < n ∨ (i < n ∧ ¬ j < m)) with h | ⟨h, h'⟩
      all_goals
        go_wp2
        go_ret
        exact ⟨by rw [HE.out]; rfl, k, rfl⟩

/-- What number hands back. -/
def numV : Except Int Nat → Value
  | .ok c => .tuple #[.int .i64 c, .int .i64 0]
  | .error x => .tuple #[.int .i64 0, .int .i64 x]
set_option maxRecDepth 100000 in
set_option maxHeartbeats 1000000 in
theorem wnumber_any (p bm nm nn cn ns cs : Nat) (An As : Option Addr) (v3 : Value) (d : DbP) (D : DataW Unit) (n : List UInt8) (w : World) (hp : Blk w p 70 #[.slice An nn cn, .map (some bm), .slice As ns cs, v3])
    (hm : w.ownsMap Tryz.prog 9 (plainElem (H := Unit) Tryz.prog 3) bm nm D) (hD : MapIs D d.names) (hl : d.names.length = nn) (hd : d.names.Nodup) (hf : nn ≤ 64) (hn : n.length ≤ 1000000) :
    Calls Tryz.prog 71 #[.pointer (some ⟨p, 0, none⟩), .string (bytesOf n)] w fun e w' => e = .returned (numV (nbrP d n)) ∧ w' = w := by
  have c0 := hp.cell 0
  have c1 := hp.cell 1
  simp at c0 c1
  have HL := Lib.hid (hD.look hd n)
  have HK := Lib.hid (keyS hn)
  have HN : Hid (nbrP d n = match d.names.idxOf? n with | some c => .ok c | none => if 64 ≤ d.names.length then .error 6 else .ok d.names.length) := rfl
  cases hq : d.names.idxOf? n with
  | some c =>
    have HV : Hid (Maps.has D (.string n) = true) := Lib.hid (by rw [HL.out.2, hq]; rfl)
    have HA : Hid (D.atKey (.string n) (.lit (.int .i64 0)) = .lit (.int .i64 (c : Int))) := Lib.hid (by rw [HL.out.1, hq]; rfl)
    have HR : Hid (nbrP d n = .ok c) := Lib.hid (by rw [HN.out, hq])
    clear HL HN hq
    go_enter Tryz.func71, Tryz.ntmps71
    go_wp2_with (at_lookup; refine wpList_lookup_own_ok_int _ rfl _ _ 67 rfl 9 3 .i64 keyedS Tryz.underlying67 Tryz.underlying3 (zeroI _) bm nm D rfl hm _ (.string n) rfl HK.out ?_; intro z hz hw; rw [HA.out] at hz; injection hz with hz; injection hz with _ hz; subst hz; rw [HV.out])
    go_ret2
    exact ⟨by rw [HR.out]; rfl, rfl⟩
  | none =>
    have HV : Hid (Maps.has D (.string n) = false) := Lib.hid (by rw [HL.out.2, hq]; rfl)
    have HR : Hid (nbrP d n = if 64 ≤ nn then .error 6 else .ok nn) := Lib.hid (by rw [HN.out, hq, hl])
    clear HL HN hq
    by_cases h64 : nn = 64
    · have HR' : Hid (nbrP d n = .error 6) := Lib.hid (by rw [HR.out, if_pos (by omega)])
      go_enter Tryz.func71, Tryz.ntmps71
      go_wp2_with (at_lookup; refine wpList_lookup_own_ok_int _ rfl _ _ 67 rfl 9 3 .i64 keyedS Tryz.underlying67 Tryz.underlying3 (zeroI _) bm nm D rfl hm _ (.string n) rfl HK.out ?_; intro z hz hw; clear hz; rw [HV.out])
      go_ret2
      exact ⟨by rw [HR'.out]; rfl, rfl⟩
    · have HR' : Hid (nbrP d n = .ok nn) := Lib.hid (by rw [HR.out, if_neg (by omega)])
      have he : ((nn : Int) == 64) = false := beq_eq_false_iff_ne.2 (by omega)
      go_enter Tryz.func71, Tryz.ntmps71
      go_wp2_with (at_lookup; refine wpList_lookup_own_ok_int _ rfl _ _ 67 rfl 9 3 .i64 keyedS Tryz.underlying67 Tryz.underlying3 (zeroI _) bm nm D rfl hm _ (.string n) rfl HK.out ?_; intro z hz hw; clear hz; rw [HV.out])
      go_ret2
      exact ⟨by rw [HR'.out]; rfl, rfl⟩

set_option maxRecDepth 100000 in
set_option maxHeartbeats 1000000 in
theorem wClass_any (p : Nat) (d : DbP) (n : List UInt8) (w : World) (h : DbAt w p d) (ho : d.Ok) (hn : n.length ≤ 1000000) :
    Calls Tryz.prog 33 #[.pointer (some ⟨p, 0, none⟩), .string (bytesOf n)] w fun e w' => e = .returned (.tuple #[.int .i64 (((d.num n).getD 0 : Nat) : Int), .bool (d.num n).isSome]) ∧ w' = w := by
  obtain ⟨An, nn, cn, bm, nm, D, As, ns, cs, xs, Ar, nr, cr, hp, _, hm, hD, _⟩ := h.ex
  have c1 := hp.cell 1
  simp at c1
  have HL := Lib.hid (hD.look ho.nodup n)
  have HK := Lib.hid (keyS hn)
  have HN : Hid (d.num n = d.names.idxOf? n) := rfl
  go_enter Tryz.func33, Tryz.ntmps33
  go_wp2_with (at_lookup; refine wpList_lookup_own_ok_int _ rfl _ _ 67 rfl 9 3 .i64 keyedS Tryz.underlying67 Tryz.underlying3 (zeroI _) bm nm D rfl hm _ (.string n) rfl HK.out ?_; intro z hz hw; rw [HL.out.1] at hz; injection hz with hz; injection hz with _ hz; subst hz; rw [HL.out.2])
  go_ret2
  exact ⟨by rw [HN.out]; rfl, rfl⟩
set_option maxRecDepth 100000 in
theorem wClass_nil (v : Value) (w : World) : Calls Tryz.prog 33 #[.pointer none, v] w fun e w' => e = .returned (.tuple #[.int .i64 0, .bool false]) ∧ w' = w := by
  go_enter Tryz.func33, Tryz.ntmps33
  go_wp2
  go_ret2
  exact ⟨rfl, rfl⟩

set_option maxRecDepth 100000 in
set_option maxHeartbeats 1000000 in
theorem cloneS_any (A : Option Addr) (n c : Nat) (l : List (List UInt8)) (w : World) (hA : Rd w 1 A (l.map encNm)) (hl : l.length = n) (hn : n ≤ 4000000) :
    Calls Tryz.prog 47 #[.slice A n c] w fun e w' => ∃ A' c', e = .returned (.slice A' n c') ∧ Own w' w.heap.size 9 1 A' n c' (l.map encNm) ∧ Below w.heap.size w w' := by
  obtain ⟨i0, hi0, hz0, hz1, hz2⟩ := info_parts info_cloneS
  have q := fun (w : World) (a : Option Addr) (n c n' c' : Nat) => Lib.run_eql_slice_nil (P := Tryz.prog) w 35 _ a n c n' c' Tryz.underlying35
  cases A with
  | none =>
    have h0 : l = [] := by
      cases l with
      | nil => rfl
      | cons x r => obtain ⟨b, off, e, _⟩ := hA (by simp); cases e
    subst h0
    simp at hl; subst hl
    go_enter Tryz.func47, Tryz.ntmps47
    go_wp2
    go_ret
    exact ⟨none, 0, rfl, Own.nil_ _ _ _ _, Below.refl _ _⟩
  | some a =>
    have Hl := Lib.hid hl
    go_enter Tryz.func47, Tryz.ntmps47
    go_wp2_with (at_builtin; go_must (refine wpList_app rfl (.tmp 5) (.tmp 6) _ rfl w.heap.size 9 i0 _ 1 16 Tryz.underlying35 hi0 hz0 hz1 hz2 rfl (by omega) (some ⟨w.heap.size, 0, none⟩) 0 0 [] rfl (Own.lit w w.heap.size 9 1 (Nat.le_refl _)) (some a) n c (l.map encNm) rfl (by rw [List.length_map]; exact Hl.out) (hA.alloc _) (encNm_ok l) (by unfold maxLen; omega) (by omega) (by simp) ?_); intro A3 c3 w3 ho3 hg3 hA3)
    go_ret
    rw [Nat.zero_add] at ho3
    exact ⟨A3, c3, rfl, by simpa using ho3, below_app ((Below.refl _ _).alloc (Nat.le_refl _) _) hg3 (by simp) (fun a ha => by injection ha with ha; subst ha; exact Nat.le_refl _)⟩

set_option maxRecDepth 100000 in
set_option maxHeartbeats 1000000 in
theorem cloneR_any (A : Option Addr) (n c : Nat) (l : List (Int × Int)) (w : World) (hA : Rd w 2 A (l.map encR)) (hl : l.length = n) (hn : n ≤ 4000000) :
    Calls Tryz.prog 48 #[.slice A n c] w fun e w' => ∃ A' c', e = .returned (.slice A' n c') ∧ Own w' w.heap.size 80 2 A' n c' (l.map encR) ∧ Below w.heap.size w w' := by
  obtain ⟨i0, hi0, hz0, hz1, hz2⟩ := info_parts info_cloneR
  have q := fun (w : World) (a : Option Addr) (n c n' c' : Nat) => Lib.run_eql_slice_nil (P := Tryz.prog) w 37 _ a n c n' c' Tryz.underlying37
  cases A with
  | none =>
    have h0 : l = [] := by
      cases l with
      | nil => rfl
      | cons x r => obtain ⟨b, off, e, _⟩ := hA (by simp); cases e
    subst h0
    simp at hl; subst hl
    go_enter Tryz.func48, Tryz.ntmps48
    go_wp2
    go_ret
    exact ⟨none, 0, rfl, Own.nil_ _ _ _ _, Below.refl _ _⟩
  | some a =>
    have Hl := Lib.hid hl
    go_enter Tryz.func48, Tryz.ntmps48
    go_wp2_with (at_builtin; go_must (refine wpList_app rfl (.tmp 5) (.tmp 6) _ rfl w.heap.size 80 i0 _ 2 8 Tryz.underlying37 hi0 hz0 hz1 hz2 rfl (by omega) (some ⟨w.heap.size, 0, none⟩) 0 0 [] rfl (Own.lit w w.heap.size 80 2 (Nat.le_refl _)) (some a) n c (l.map encR) rfl (by rw [List.length_map]; exact Hl.out) (hA.alloc _) (encR_ok l) (by unfold maxLen; omega) (by omega) (by simp) ?_); intro A3 c3 w3 ho3 hg3 hA3)
    go_ret
    rw [Nat.zero_add] at ho3
    exact ⟨A3, c3, rfl, by simpa using ho3, below_app ((Below.refl _ _).alloc (Nat.le_refl _) _) hg3 (by simp) (fun a ha => by injection ha with ha; subst ha; exact Nat.le_refl _)⟩

set_option maxRecDepth 100000 in
set_option maxHeartbeats 1000000 in
theorem cloneD_any (A : Option Addr) (n c : Nat) (l : List (Int × Int × Nat)) (w : World) (hA : Rd w 3 A (l.map encD)) (hl : l.length = n) (hn : n ≤ 4000000) :
    Calls Tryz.prog 65 #[.slice A n c] w fun e w' => ∃ A' c', e = .returned (.slice A' n c') ∧ Own w' w.heap.size 82 3 A' n c' (l.map encD) ∧ Below w.heap.size w w' := by
  obtain ⟨i0, hi0, hz0, hz1, hz2⟩ := info_parts info_cloneD
  have q := fun (w : World) (a : Option Addr) (n c n' c' : Nat) => Lib.run_eql_slice_nil (P := Tryz.prog) w 64 _ a n c n' c' Tryz.underlying64
  cases A with
  | none =>
    have h0 : l = [] := by
      cases l with
      | nil => rfl
      | cons x r => obtain ⟨b, off, e, _⟩ := hA (by simp); cases e
    subst h0
    simp at hl; subst hl
    go_enter Tryz.func65, Tryz.ntmps65
    go_wp2
    go_ret
    exact ⟨none, 0, rfl, Own.nil_ _ _ _ _, Below.refl _ _⟩
  | some a =>
    have Hl := Lib.hid hl
    go_enter Tryz.func65, Tryz.ntmps65
    go_wp2_with (at_builtin; go_must (refine wpList_app rfl (.tmp 5) (.tmp 6) _ rfl w.heap.size 82 i0 _ 3 16 Tryz.underlying64 hi0 hz0 hz1 hz2 rfl (by omega) (some ⟨w.heap.size, 0, none⟩) 0 0 [] rfl (Own.lit w w.heap.size 82 3 (Nat.le_refl _)) (some a) n c (l.map encD) rfl (by rw [List.length_map]; exact Hl.out) (hA.alloc _) (encD_ok l) (by unfold maxLen; omega) (by omega) (by simp) ?_); intro A3 c3 w3 ho3 hg3 hA3)
    go_ret
    rw [Nat.zero_add] at ho3
    exact ⟨A3, c3, rfl, by simpa using ho3, below_app ((Below.refl _ _).alloc (Nat.le_refl _) _) hg3 (by simp) (fun a ha => by injection ha with ha; subst ha; exact Nat.le_refl _)⟩
end Go.Proofs.YtejccafolfeabaaGreatDoor

/- The contracts of the library's shelf at this seat's program, as the kit's own tools lay them; the remarks are struck. -/
namespace Go.Proofs
open Go.Shelf
def Tryz.lays170_ren : Go.Shelf.Ren := ⟨fun | 170 => 150 | n => n, fun | 70 => 88 | 3 => 3 | 0 => 0 | 72 => 90 | 37 => 66 | 5 => 5 | n => n, fun | n => n⟩
theorem Tryz.lays170 : Go.Proofs.Lays.n170 Tryz.prog Tryz.lays170_ren := {
  mixed := by kernel_rfl
  f170 := Tryz.func150.trans (congrArg some (by kernel_rfl))
  t0 := Tryz.underlying0
  a0 := Tryz.isAgg0
  z0 := Tryz.sizeOf0
  v0 := Tryz.zeroValue0
  t3 := Tryz.underlying3
  a3 := Tryz.isAgg3
  z3 := Tryz.sizeOf3
  v3 := Tryz.zeroValue3
  t37 := Tryz.underlying66
  a37 := Tryz.isAgg66
  z37 := Tryz.sizeOf66
  v37 := Tryz.zeroValue66
  t70 := Tryz.underlying88
  a70 := Tryz.isAgg88
  z70 := Tryz.sizeOf88
  v70 := Tryz.zeroValue88
  t72 := Tryz.underlying90
  a72 := Tryz.isAgg90
  z72 := Tryz.sizeOf90
  v72 := Tryz.zeroValue90 }
open Go.RowKit in

theorem Tryz.Builder_Len (B b : Nat) (bs : List Value) (w : World) (h : Lib.IsBuilder 90 5 B b bs w) :
    Calls Tryz.prog 150 #[.pointer (some ⟨b, 0, none⟩)] w fun e w' => e = .returned (.int .i64 bs.length) ∧ w' = w := Any.Builder_Len Tryz.lays170 B b bs w h
def Tryz.lays169_ren : Go.Shelf.Ren := ⟨fun | 169 => 55 | n => n, fun | 70 => 88 | 9 => 9 | 0 => 0 | 72 => 90 | 37 => 66 | 127 => 131 | 3 => 3 | 5 => 5 | n => n, fun | n => n⟩
theorem Tryz.lays169 : Go.Proofs.Lays.n169 Tryz.prog Tryz.lays169_ren := {
  mixed := by kernel_rfl
  f169 := Tryz.func55.trans (congrArg some (by kernel_rfl))
  t0 := Tryz.underlying0
  a0 := Tryz.isAgg0
  z0 := Tryz.sizeOf0
  v0 := Tryz.zeroValue0
  t3 := Tryz.underlying3
  a3 := Tryz.isAgg3
  z3 := Tryz.sizeOf3
  v3 := Tryz.zeroValue3
  t9 := Tryz.underlying9
  a9 := Tryz.isAgg9
  z9 := Tryz.sizeOf9
  v9 := Tryz.zeroValue9
  t37 := Tryz.underlying66
  a37 := Tryz.isAgg66
  z37 := Tryz.sizeOf66
  v37 := Tryz.zeroValue66
  t70 := Tryz.underlying88
  a70 := Tryz.isAgg88
  z70 := Tryz.sizeOf88
  v70 := Tryz.zeroValue88
  t72 := Tryz.underlying90
  a72 := Tryz.isAgg90
  z72 := Tryz.sizeOf90
  v72 := Tryz.zeroValue90
  t127 := Tryz.underlying131
  a127 := Tryz.isAgg131
  z127 := Tryz.sizeOf131
  v127 := Tryz.zeroValue131 }
theorem Tryz.Builder_Extra_169 : Builder.Extra Tryz.prog Tryz.lays169_ren := {
  sizeBuilder := by kernel_rfl
  liesBuilder := by kernel_rfl
  t5 := Tryz.underlying5
  a5 := Tryz.isAgg5
  z5 := Tryz.sizeOf5
  v5 := Tryz.zeroValue5
  infoByte := by kernel_rfl
  cellsByte := by kernel_rfl
  sizeByte := by kernel_rfl
  neB5 := by decide }
open Go.RowKit in

theorem Tryz.Builder_String (B b : Nat) (l : List UInt8) (w : World) (h : Lib.IsBuilder 90 5 B b (Lib.byteCells l) w) (h0 : l ≠ []) :
    Calls Tryz.prog 55 #[.pointer (some ⟨b, 0, none⟩)] w fun e w' => e = .returned (.string ⟨l.toArray⟩) ∧ Below B w w' := Any.Builder_String Tryz.lays169 Tryz.Builder_Extra_169 B b l w h h0
open Go.RowKit in

theorem Tryz.Builder_String_empty (B b : Nat) (w : World) (h : Lib.IsBuilder 90 5 B b [] w) (hBw : B ≤ w.heap.size) :
    Calls Tryz.prog 55 #[.pointer (some ⟨b, 0, none⟩)] w fun e w' => e = .returned (.string ⟨#[]⟩) ∧ Below B w w' := Any.Builder_String_empty Tryz.lays169 Tryz.Builder_Extra_169 B b w h hBw
open Go.RowKit in

theorem Tryz.Builder_String_any (B b : Nat) (l : List UInt8) (w : World) (h : Lib.IsBuilder 90 5 B b (Lib.byteCells l) w) (hBw : B ≤ w.heap.size) :
    Calls Tryz.prog 55 #[.pointer (some ⟨b, 0, none⟩)] w fun e w' => e = .returned (.string ⟨l.toArray⟩) ∧ Below B w w' := Any.Builder_String_any Tryz.lays169 Tryz.Builder_Extra_169 B b l w h hBw
def Tryz.lays241_ren : Go.Shelf.Ren := ⟨fun | 241 => 151 | 277 => 185 | n => n, fun | 70 => 88 | 3 => 3 | 0 => 0 | 72 => 90 | 37 => 66 | 5 => 5 | n => n, fun | n => n⟩
theorem Tryz.lays241 : Go.Proofs.Lays.n241 Tryz.prog Tryz.lays241_ren := {
  mixed := by kernel_rfl
  f241 := Tryz.func151.trans (congrArg some (by kernel_rfl))
  f277 := Tryz.func185.trans (congrArg some (by kernel_rfl))
  t0 := Tryz.underlying0
  a0 := Tryz.isAgg0
  z0 := Tryz.sizeOf0
  v0 := Tryz.zeroValue0
  t3 := Tryz.underlying3
  a3 := Tryz.isAgg3
  z3 := Tryz.sizeOf3
  v3 := Tryz.zeroValue3
  t37 := Tryz.underlying66
  a37 := Tryz.isAgg66
  z37 := Tryz.sizeOf66
  v37 := Tryz.zeroValue66
  t70 := Tryz.underlying88
  a70 := Tryz.isAgg88
  z70 := Tryz.sizeOf88
  v70 := Tryz.zeroValue88
  t72 := Tryz.underlying90
  a72 := Tryz.isAgg90
  z72 := Tryz.sizeOf90
  v72 := Tryz.zeroValue90 }
theorem Tryz.Builder_Extra_241 : Builder.Extra Tryz.prog Tryz.lays241_ren := {
  sizeBuilder := by kernel_rfl
  liesBuilder := by kernel_rfl
  t5 := Tryz.underlying5
  a5 := Tryz.isAgg5
  z5 := Tryz.sizeOf5
  v5 := Tryz.zeroValue5
  infoByte := by kernel_rfl
  cellsByte := by kernel_rfl
  sizeByte := by kernel_rfl
  neB5 := by decide }
open Go.RowKit in

theorem Tryz.Builder_grow_fresh (B b n : Nat) (w : World) (hB : B ≤ b) (hbk : w.heap[b]? = some (.cells #[.pointer (some ⟨b, 0, none⟩), .slice none 0 0] 90 (0, 0))) (hBw : B ≤ w.heap.size) (hn : n ≤ 281474976710656) :
    Calls Tryz.prog 151 #[.pointer (some ⟨b, 0, none⟩), .int .i64 n] w fun e w' => e = .returned (.tuple #[]) ∧ (Lib.BuilderAt 90 5 B b (.pointer (some ⟨b, 0, none⟩)) [] w' ∧ Below B w w') := Any.Builder_grow_fresh Tryz.lays241 Tryz.Builder_Extra_241 B b n w hB hbk hBw hn
def Tryz.lays165_ren : Go.Shelf.Ren := ⟨fun | 165 => 119 | 240 => 89 | 241 => 151 | 276 => 120 | 277 => 185 | n => n, fun | 70 => 88 | 3 => 3 | 0 => 0 | 4 => 4 | 9 => 9 | 20 => 20 | 72 => 90 | 37 => 66 | 164 => 164 | 5 => 5 | n => n, fun | n => n⟩
theorem Tryz.lays165 : Go.Proofs.Lays.n165 Tryz.prog Tryz.lays165_ren := {
  mixed := by kernel_rfl
  f165 := Tryz.func119.trans (congrArg some (by kernel_rfl))
  f240 := Tryz.func89.trans (congrArg some (by kernel_rfl))
  f241 := Tryz.func151.trans (congrArg some (by kernel_rfl))
  f276 := Tryz.func120.trans (congrArg some (by kernel_rfl))
  f277 := Tryz.func185.trans (congrArg some (by kernel_rfl))
  t0 := Tryz.underlying0
  a0 := Tryz.isAgg0
  z0 := Tryz.sizeOf0
  v0 := Tryz.zeroValue0
  t3 := Tryz.underlying3
  a3 := Tryz.isAgg3
  z3 := Tryz.sizeOf3
  v3 := Tryz.zeroValue3
  t4 := Tryz.underlying4
  a4 := Tryz.isAgg4
  z4 := Tryz.sizeOf4
  v4 := Tryz.zeroValue4
  t9 := Tryz.underlying9
  a9 := Tryz.isAgg9
  z9 := Tryz.sizeOf9
  v9 := Tryz.zeroValue9
  t20 := Tryz.underlying20
  a20 := Tryz.isAgg20
  z20 := Tryz.sizeOf20
  v20 := Tryz.zeroValue20
  t37 := Tryz.underlying66
  a37 := Tryz.isAgg66
  z37 := Tryz.sizeOf66
  v37 := Tryz.zeroValue66
  t70 := Tryz.underlying88
  a70 := Tryz.isAgg88
  z70 := Tryz.sizeOf88
  v70 := Tryz.zeroValue88
  t72 := Tryz.underlying90
  a72 := Tryz.isAgg90
  z72 := Tryz.sizeOf90
  v72 := Tryz.zeroValue90
  t164 := Tryz.underlying164
  a164 := Tryz.isAgg164
  z164 := Tryz.sizeOf164
  v164 := Tryz.zeroValue164 }
theorem Tryz.Builder_Extra_165 : Builder.Extra Tryz.prog Tryz.lays165_ren := {
  sizeBuilder := by kernel_rfl
  liesBuilder := by kernel_rfl
  t5 := Tryz.underlying5
  a5 := Tryz.isAgg5
  z5 := Tryz.sizeOf5
  v5 := Tryz.zeroValue5
  infoByte := by kernel_rfl
  cellsByte := by kernel_rfl
  sizeByte := by kernel_rfl
  neB5 := by decide }
open Go.RowKit in

theorem Tryz.Builder_Grow_fresh (B b n : Nat) (w : World) (hB : B ≤ b) (hbk : w.heap[b]? = some (.cells #[.pointer none, .slice none 0 0] 90 (0, 0))) (hBw : B ≤ w.heap.size) (hn : n ≤ 281474976710656) :
    Calls Tryz.prog 119 #[.pointer (some ⟨b, 0, none⟩), .int .i64 n] w fun e w' => e = .returned (.tuple #[]) ∧ (Lib.BuilderAt 90 5 B b (.pointer (some ⟨b, 0, none⟩)) [] w' ∧ Below B w w') := Any.Builder_Grow_fresh Tryz.lays165 Tryz.Builder_Extra_165 B b n w hB hbk hBw hn
def Tryz.lays231_ren : Go.Shelf.Ren := ⟨fun | 231 => 99 | n => n, fun | 9 => 9 | 5 => 5 | 3 => 3 | 4 => 4 | n => n, fun | n => n⟩
theorem Tryz.lays231 : Go.Proofs.Lays.n231 Tryz.prog Tryz.lays231_ren := {
  mixed := by kernel_rfl
  f231 := Tryz.func99.trans (congrArg some (by kernel_rfl))
  t3 := Tryz.underlying3
  a3 := Tryz.isAgg3
  z3 := Tryz.sizeOf3
  v3 := Tryz.zeroValue3
  t4 := Tryz.underlying4
  a4 := Tryz.isAgg4
  z4 := Tryz.sizeOf4
  v4 := Tryz.zeroValue4
  t5 := Tryz.underlying5
  a5 := Tryz.isAgg5
  z5 := Tryz.sizeOf5
  v5 := Tryz.zeroValue5
  t9 := Tryz.underlying9
  a9 := Tryz.isAgg9
  z9 := Tryz.sizeOf9
  v9 := Tryz.zeroValue9 }
open Go.RowKit in

theorem Tryz.strings_trimLeftByte (s : ByteArray) (c : UInt8) (w : World) :
    Calls Tryz.prog 99 #[.string s, .int .u8 c.toNat] w fun e w' => e = .returned (.string ⟨(Lib.trimLeftB s.data.toList c).toArray⟩) ∧ w' = w := Any.strings_trimLeftByte Tryz.lays231 s c w
def Tryz.lays232_ren : Go.Shelf.Ren := ⟨fun | 232 => 100 | n => n, fun | 9 => 9 | 5 => 5 | 3 => 3 | 4 => 4 | n => n, fun | n => n⟩
theorem Tryz.lays232 : Go.Proofs.Lays.n232 Tryz.prog Tryz.lays232_ren := {
  mixed := by kernel_rfl
  f232 := Tryz.func100.trans (congrArg some (by kernel_rfl))
  t3 := Tryz.underlying3
  a3 := Tryz.isAgg3
  z3 := Tryz.sizeOf3
  v3 := Tryz.zeroValue3
  t4 := Tryz.underlying4
  a4 := Tryz.isAgg4
  z4 := Tryz.sizeOf4
  v4 := Tryz.zeroValue4
  t5 := Tryz.underlying5
  a5 := Tryz.isAgg5
  z5 := Tryz.sizeOf5
  v5 := Tryz.zeroValue5
  t9 := Tryz.underlying9
  a9 := Tryz.isAgg9
  z9 := Tryz.sizeOf9
  v9 := Tryz.zeroValue9 }
open Go.RowKit in

theorem Tryz.strings_trimRightByte (s : ByteArray) (c : UInt8) (w : World) (hs : s.size ≤ 9223372036854775807) :
    Calls Tryz.prog 100 #[.string s, .int .u8 c.toNat] w fun e w' => e = .returned (.string ⟨(Lib.trimRightB s.data.toList c).toArray⟩) ∧ w' = w := Any.strings_trimRightByte Tryz.lays232 s c w hs
def Tryz.lays160_ren : Go.Shelf.Ren := ⟨fun | 160 => 68 | 232 => 100 | 231 => 99 | 227 => 101 | 234 => 103 | 233 => 102 | 236 => 105 | 235 => 104 | 228 => 127 | 271 => 129 | 151 => 128 | 197 => 124 | 120 => 166 | 152 => 165 | 260 => 160 | 137 => 191 | 119 => 192 | 224 => 163 | 225 => 162 | 217 => 161 | 266 => 189 | n => n, fun | 9 => 9 | 4 => 4 | 3 => 3 | 5 => 5 | 117 => 141 | 116 => 140 | 0 => 0 | 124 => 144 | 21 => 21 | 105 => 167 | 46 => 127 | 119 => 218 | 139 => 221 | 138 => 220 | n => n, fun | 3 => 1 | 4 => 2 | n => n⟩
theorem Tryz.lays160 : Go.Proofs.Lays.n160 Tryz.prog Tryz.lays160_ren := {
  mixed := by kernel_rfl
  f119 := Tryz.func192.trans (congrArg some (by kernel_rfl))
  f120 := Tryz.func166.trans (congrArg some (by kernel_rfl))
  f137 := Tryz.func191.trans (congrArg some (by kernel_rfl))
  f151 := Tryz.func128.trans (congrArg some (by kernel_rfl))
  f152 := Tryz.func165.trans (congrArg some (by kernel_rfl))
  f160 := Tryz.func68.trans (congrArg some (by kernel_rfl))
  f197 := Tryz.func124.trans (congrArg some (by kernel_rfl))
  f217 := Tryz.func161.trans (congrArg some (by kernel_rfl))
  f224 := Tryz.func163.trans (congrArg some (by kernel_rfl))
  f225 := Tryz.func162.trans (congrArg some (by kernel_rfl))
  f227 := Tryz.func101.trans (congrArg some (by kernel_rfl))
  f228 := Tryz.func127.trans (congrArg some (by kernel_rfl))
  f231 := Tryz.func99.trans (congrArg some (by kernel_rfl))
  f232 := Tryz.func100.trans (congrArg some (by kernel_rfl))
  f233 := Tryz.func102.trans (congrArg some (by kernel_rfl))
  f234 := Tryz.func103.trans (congrArg some (by kernel_rfl))
  f235 := Tryz.func104.trans (congrArg some (by kernel_rfl))
  f236 := Tryz.func105.trans (congrArg some (by kernel_rfl))
  f260 := Tryz.func160.trans (congrArg some (by kernel_rfl))
  f266 := Tryz.func189.trans (congrArg some (by kernel_rfl))
  f271 := Tryz.func129.trans (congrArg some (by kernel_rfl))
  t0 := Tryz.underlying0
  a0 := Tryz.isAgg0
  z0 := Tryz.sizeOf0
  v0 := Tryz.zeroValue0
  t3 := Tryz.underlying3
  a3 := Tryz.isAgg3
  z3 := Tryz.sizeOf3
  v3 := Tryz.zeroValue3
  t4 := Tryz.underlying4
  a4 := Tryz.isAgg4
  z4 := Tryz.sizeOf4
  v4 := Tryz.zeroValue4
  t5 := Tryz.underlying5
  a5 := Tryz.isAgg5
  z5 := Tryz.sizeOf5
  v5 := Tryz.zeroValue5
  t9 := Tryz.underlying9
  a9 := Tryz.isAgg9
  z9 := Tryz.sizeOf9
  v9 := Tryz.zeroValue9
  t21 := Tryz.underlying21
  a21 := Tryz.isAgg21
  z21 := Tryz.sizeOf21
  v21 := Tryz.zeroValue21
  t46 := Tryz.underlying127
  a46 := Tryz.isAgg127
  z46 := Tryz.sizeOf127
  v46 := Tryz.zeroValue127
  t105 := Tryz.underlying167
  a105 := Tryz.isAgg167
  z105 := Tryz.sizeOf167
  v105 := Tryz.zeroValue167
  t116 := Tryz.underlying140
  a116 := Tryz.isAgg140
  z116 := Tryz.sizeOf140
  t117 := Tryz.underlying141
  a117 := Tryz.isAgg141
  z117 := Tryz.sizeOf141
  v117 := Tryz.zeroValue141
  t119 := Tryz.underlying218
  a119 := Tryz.isAgg218
  z119 := Tryz.sizeOf218
  t124 := Tryz.underlying144
  a124 := Tryz.isAgg144
  z124 := Tryz.sizeOf144
  v124 := Tryz.zeroValue144
  t138 := Tryz.underlying220
  a138 := Tryz.isAgg220
  z138 := Tryz.sizeOf220
  v138 := Tryz.zeroValue220
  t139 := Tryz.underlying221
  a139 := Tryz.isAgg221
  z139 := Tryz.sizeOf221
  v139 := Tryz.zeroValue221
  g3 := by kernel_rfl
  g4 := by kernel_rfl }
open Go.RowKit in

theorem Tryz.strings_Trim_one (s : ByteArray) (c : UInt8) (hc : c.toNat < 128) (w : World) (hs : s.size ≤ 9223372036854775807) :
    Calls Tryz.prog 68 #[.string s, .string ⟨#[c]⟩] w fun e w' => e = .returned (.string ⟨(Lib.trimB s.data.toList c).toArray⟩) ∧ (w' = w ∨ w' = w.drew) := Any.strings_Trim_one Tryz.lays160 s c hc w hs
def Tryz.lays118_ren : Go.Shelf.Ren := ⟨fun | 118 => 174 | n => n, fun | 21 => 21 | 3 => 3 | 4 => 4 | n => n, fun | n => n⟩
theorem Tryz.lays118 : Go.Proofs.Lays.n118 Tryz.prog Tryz.lays118_ren := {
  mixed := by kernel_rfl
  f118 := Tryz.func174.trans (congrArg some (by kernel_rfl))
  t3 := Tryz.underlying3
  a3 := Tryz.isAgg3
  z3 := Tryz.sizeOf3
  v3 := Tryz.zeroValue3
  t4 := Tryz.underlying4
  a4 := Tryz.isAgg4
  z4 := Tryz.sizeOf4
  v4 := Tryz.zeroValue4
  t21 := Tryz.underlying21
  a21 := Tryz.isAgg21
  z21 := Tryz.sizeOf21
  v21 := Tryz.zeroValue21 }

theorem Tryz.utf8_RuneLen (r : Int) (w : World) :
    Calls Tryz.prog 174 #[.int .i32 r] w fun e w' => e = .returned (.int .i64 (Lib.runeLen r)) ∧ w' = w := Any.utf8_RuneLen Tryz.lays118 r w
def Tryz.lays119_ren : Go.Shelf.Ren := ⟨fun | 119 => 192 | n => n, fun | 21 => 21 | 4 => 4 | n => n, fun | n => n⟩
theorem Tryz.lays119 : Go.Proofs.Lays.n119 Tryz.prog Tryz.lays119_ren := {
  mixed := by kernel_rfl
  f119 := Tryz.func192.trans (congrArg some (by kernel_rfl))
  t4 := Tryz.underlying4
  a4 := Tryz.isAgg4
  z4 := Tryz.sizeOf4
  v4 := Tryz.zeroValue4
  t21 := Tryz.underlying21
  a21 := Tryz.isAgg21
  z21 := Tryz.sizeOf21
  v21 := Tryz.zeroValue21 }

theorem Tryz.utf8_ValidRune (r : Int) (w : World) :
    Calls Tryz.prog 192 #[.int .i32 r] w fun e w' => e = .returned (.bool (Lib.validRune r)) ∧ w' = w := Any.utf8_ValidRune Tryz.lays119 r w
def Tryz.lays120_ren : Go.Shelf.Ren := ⟨fun | 120 => 166 | n => n, fun | 5 => 5 | 4 => 4 | n => n, fun | n => n⟩
theorem Tryz.lays120 : Go.Proofs.Lays.n120 Tryz.prog Tryz.lays120_ren := {
  mixed := by kernel_rfl
  f120 := Tryz.func166.trans (congrArg some (by kernel_rfl))
  t4 := Tryz.underlying4
  a4 := Tryz.isAgg4
  z4 := Tryz.sizeOf4
  v4 := Tryz.zeroValue4
  t5 := Tryz.underlying5
  a5 := Tryz.isAgg5
  z5 := Tryz.sizeOf5
  v5 := Tryz.zeroValue5 }

theorem Tryz.utf8_RuneStart (b : Int) (w : World) (h0 : 0 ≤ b) (h1 : b < 256) :
    Calls Tryz.prog 166 #[.int .u8 b] w fun e w' => e = .returned (.bool (Lib.runeStart b)) ∧ w' = w := Any.utf8_RuneStart Tryz.lays120 b w h0 h1
def Tryz.lays128_ren : Go.Shelf.Ren := ⟨fun | 128 => 140 | n => n, fun | 51 => 180 | 3 => 3 | 4 => 4 | 46 => 127 | 5 => 5 | 9 => 9 | n => n, fun | n => n⟩
theorem Tryz.lays128 : Go.Proofs.Lays.n128 Tryz.prog Tryz.lays128_ren := {
  mixed := by kernel_rfl
  f128 := Tryz.func140.trans (congrArg some (by kernel_rfl))
  t3 := Tryz.underlying3
  a3 := Tryz.isAgg3
  z3 := Tryz.sizeOf3
  v3 := Tryz.zeroValue3
  t4 := Tryz.underlying4
  a4 := Tryz.isAgg4
  z4 := Tryz.sizeOf4
  v4 := Tryz.zeroValue4
  t5 := Tryz.underlying5
  a5 := Tryz.isAgg5
  z5 := Tryz.sizeOf5
  v5 := Tryz.zeroValue5
  t9 := Tryz.underlying9
  a9 := Tryz.isAgg9
  z9 := Tryz.sizeOf9
  v9 := Tryz.zeroValue9
  t46 := Tryz.underlying127
  a46 := Tryz.isAgg127
  z46 := Tryz.sizeOf127
  v46 := Tryz.zeroValue127
  t51 := Tryz.underlying180
  a51 := Tryz.isAgg180
  z51 := Tryz.sizeOf180
  v51 := Tryz.zeroValue180 }

theorem Tryz.bits_Len32 (x : Int) (w : World) (h0 : 0 ≤ x) (h1 : x ≤ 4294967295) :
    Calls Tryz.prog 140 #[.int .u32 x] w fun e w' => e = .returned (.int .i64 (Lib.bitLen x.toNat)) ∧ w' = w := Any.bits_Len32 Tryz.lays128 x w h0 h1
def Tryz.lays125_ren : Go.Shelf.Ren := ⟨fun | 125 => 111 | 128 => 140 | 129 => 141 | n => n, fun | 46 => 127 | 3 => 3 | 51 => 180 | 53 => 182 | 4 => 4 | 5 => 5 | 9 => 9 | n => n, fun | n => n⟩
theorem Tryz.lays125 : Go.Proofs.Lays.n125 Tryz.prog Tryz.lays125_ren := {
  mixed := by kernel_rfl
  f125 := Tryz.func111.trans (congrArg some (by kernel_rfl))
  f128 := Tryz.func140.trans (congrArg some (by kernel_rfl))
  f129 := Tryz.func141.trans (congrArg some (by kernel_rfl))
  t3 := Tryz.underlying3
  a3 := Tryz.isAgg3
  z3 := Tryz.sizeOf3
  v3 := Tryz.zeroValue3
  t4 := Tryz.underlying4
  a4 := Tryz.isAgg4
  z4 := Tryz.sizeOf4
  v4 := Tryz.zeroValue4
  t5 := Tryz.underlying5
  a5 := Tryz.isAgg5
  z5 := Tryz.sizeOf5
  v5 := Tryz.zeroValue5
  t9 := Tryz.underlying9
  a9 := Tryz.isAgg9
  z9 := Tryz.sizeOf9
  v9 := Tryz.zeroValue9
  t46 := Tryz.underlying127
  a46 := Tryz.isAgg127
  z46 := Tryz.sizeOf127
  v46 := Tryz.zeroValue127
  t51 := Tryz.underlying180
  a51 := Tryz.isAgg180
  z51 := Tryz.sizeOf180
  v51 := Tryz.zeroValue180
  t53 := Tryz.underlying182
  a53 := Tryz.isAgg182
  z53 := Tryz.sizeOf182
  v53 := Tryz.zeroValue182 }

theorem Tryz.bits_Len (x : Int) (w : World) (h0 : 0 ≤ x) (h1 : x ≤ 18446744073709551615) :
    Calls Tryz.prog 111 #[.int .u64 x] w fun e w' => e = .returned (.int .i64 (Lib.bitLen x.toNat)) ∧ w' = w := Any.bits_Len Tryz.lays125 x w h0 h1
def Tryz.lays137_ren : Go.Shelf.Ren := ⟨fun | 137 => 191 | 217 => 161 | 266 => 189 | n => n, fun | 9 => 9 | 5 => 5 | 3 => 3 | n => n, fun | n => n⟩
theorem Tryz.lays137 : Go.Proofs.Lays.n137 Tryz.prog Tryz.lays137_ren := {
  mixed := by kernel_rfl
  f137 := Tryz.func191.trans (congrArg some (by kernel_rfl))
  f217 := Tryz.func161.trans (congrArg some (by kernel_rfl))
  f266 := Tryz.func189.trans (congrArg some (by kernel_rfl))
  t3 := Tryz.underlying3
  a3 := Tryz.isAgg3
  z3 := Tryz.sizeOf3
  v3 := Tryz.zeroValue3
  t5 := Tryz.underlying5
  a5 := Tryz.isAgg5
  z5 := Tryz.sizeOf5
  v5 := Tryz.zeroValue5
  t9 := Tryz.underlying9
  a9 := Tryz.isAgg9
  z9 := Tryz.sizeOf9
  v9 := Tryz.zeroValue9 }
open Go.RowKit in

theorem Tryz.strings_IndexByte (s : ByteArray) (c : Int) (w : World) :
    Calls Tryz.prog 191 #[.string s, .int .u8 c] w fun e w' => e = .returned (.int .i64 (Lib.indexByte s.data.toList c.toNat.toUInt8)) ∧ w' = w := Any.strings_IndexByte Tryz.lays137 s c w
open Go.RowKit in

theorem Tryz.Builder_Len_f (B b : Nat) (bs : List Value) (w : World) (h : Lib.IsBuilderF 90 5 B b bs w) :
    Calls Tryz.prog 150 #[.pointer (some ⟨b, 0, none⟩)] w fun e w' => e = .returned (.int .i64 bs.length) ∧ w' = w := Any.Builder_Len_f Tryz.lays170 B b bs w h
open Go.RowKit in

theorem Tryz.Builder_String_f (B b : Nat) (l : List UInt8) (w : World) (h : Lib.IsBuilderF 90 5 B b (Lib.byteCells l) w) (h0 : l ≠ []) :
    Calls Tryz.prog 55 #[.pointer (some ⟨b, 0, none⟩)] w fun e w' => e = .returned (.string ⟨l.toArray⟩) ∧ (Lib.IsBuilderF 90 5 B b (Lib.byteCells l) w' ∧ Below B w w') := Any.Builder_String_f Tryz.lays169 Tryz.Builder_Extra_169 B b l w h h0
open Go.RowKit in

theorem Tryz.Builder_String_empty_f (B b : Nat) (w : World) (h : Lib.IsBuilderF 90 5 B b [] w) (hBw : B ≤ w.heap.size) :
    Calls Tryz.prog 55 #[.pointer (some ⟨b, 0, none⟩)] w fun e w' => e = .returned (.string ⟨#[]⟩) ∧ (Lib.IsBuilderF 90 5 B b [] w' ∧ Below B w w') := Any.Builder_String_empty_f Tryz.lays169 Tryz.Builder_Extra_169 B b w h hBw
open Go.RowKit in

theorem Tryz.Builder_String_any_f (B b : Nat) (l : List UInt8) (w : World) (h : Lib.IsBuilderF 90 5 B b (Lib.byteCells l) w) (hBw : B ≤ w.heap.size) :
    Calls Tryz.prog 55 #[.pointer (some ⟨b, 0, none⟩)] w fun e w' => e = .returned (.string ⟨l.toArray⟩) ∧ (Lib.IsBuilderF 90 5 B b (Lib.byteCells l) w' ∧ Below B w w') := Any.Builder_String_any_f Tryz.lays169 Tryz.Builder_Extra_169 B b l w h hBw
open Go.RowKit in

theorem Tryz.Builder_String_k (B b : Nat) (l : List UInt8) (w : World) (h : Lib.IsBuilderF 90 5 B b (Lib.byteCells l) w) (h0 : l ≠ []) :
    Calls Tryz.prog 55 #[.pointer (some ⟨b, 0, none⟩)] w fun e w' => e = .returned (.string ⟨l.toArray⟩) ∧ (Lib.IsBuilderF 90 5 B b (Lib.byteCells l) w' ∧ Below B w w' ∧ Lib.OthersKept 5 (some b) w w') := Any.Builder_String_k Tryz.lays169 Tryz.Builder_Extra_169 B b l w h h0
open Go.RowKit in

theorem Tryz.Builder_String_empty_k (B b : Nat) (w : World) (h : Lib.IsBuilderF 90 5 B b [] w) (hBw : B ≤ w.heap.size) :
    Calls Tryz.prog 55 #[.pointer (some ⟨b, 0, none⟩)] w fun e w' => e = .returned (.string ⟨#[]⟩) ∧ (Lib.IsBuilderF 90 5 B b [] w' ∧ Below B w w' ∧ Lib.OthersKept 5 (some b) w w') := Any.Builder_String_empty_k Tryz.lays169 Tryz.Builder_Extra_169 B b w h hBw
open Go.RowKit in

theorem Tryz.Builder_String_any_k (B b : Nat) (l : List UInt8) (w : World) (h : Lib.IsBuilderF 90 5 B b (Lib.byteCells l) w) (hBw : B ≤ w.heap.size) :
    Calls Tryz.prog 55 #[.pointer (some ⟨b, 0, none⟩)] w fun e w' => e = .returned (.string ⟨l.toArray⟩) ∧ (Lib.IsBuilderF 90 5 B b (Lib.byteCells l) w' ∧ Below B w w' ∧ Lib.OthersKept 5 (some b) w w') := Any.Builder_String_any_k Tryz.lays169 Tryz.Builder_Extra_169 B b l w h hBw
def Tryz.lays129_ren : Go.Shelf.Ren := ⟨fun | 129 => 141 | n => n, fun | 53 => 182 | 3 => 3 | 4 => 4 | 46 => 127 | 5 => 5 | 9 => 9 | n => n, fun | n => n⟩
theorem Tryz.lays129 : Go.Proofs.Lays.n129 Tryz.prog Tryz.lays129_ren := {
  mixed := by kernel_rfl
  f129 := Tryz.func141.trans (congrArg some (by kernel_rfl))
  t3 := Tryz.underlying3
  a3 := Tryz.isAgg3
  z3 := Tryz.sizeOf3
  v3 := Tryz.zeroValue3
  t4 := Tryz.underlying4
  a4 := Tryz.isAgg4
  z4 := Tryz.sizeOf4
  v4 := Tryz.zeroValue4
  t5 := Tryz.underlying5
  a5 := Tryz.isAgg5
  z5 := Tryz.sizeOf5
  v5 := Tryz.zeroValue5
  t9 := Tryz.underlying9
  a9 := Tryz.isAgg9
  z9 := Tryz.sizeOf9
  v9 := Tryz.zeroValue9
  t46 := Tryz.underlying127
  a46 := Tryz.isAgg127
  z46 := Tryz.sizeOf127
  v46 := Tryz.zeroValue127
  t53 := Tryz.underlying182
  a53 := Tryz.isAgg182
  z53 := Tryz.sizeOf182
  v53 := Tryz.zeroValue182 }

theorem Tryz.bits_Len64 (x : Int) (w : World) (h0 : 0 ≤ x) (h1 : x ≤ 18446744073709551615) :
    Calls Tryz.prog 141 #[.int .u64 x] w fun e w' => e = .returned (.int .i64 (Lib.bitLen x.toNat)) ∧ w' = w := Any.bits_Len64 Tryz.lays129 x w h0 h1
def Tryz.lays217_ren : Go.Shelf.Ren := ⟨fun | 217 => 161 | 266 => 189 | n => n, fun | 9 => 9 | 5 => 5 | 3 => 3 | n => n, fun | n => n⟩
theorem Tryz.lays217 : Go.Proofs.Lays.n217 Tryz.prog Tryz.lays217_ren := {
  mixed := by kernel_rfl
  f217 := Tryz.func161.trans (congrArg some (by kernel_rfl))
  f266 := Tryz.func189.trans (congrArg some (by kernel_rfl))
  t3 := Tryz.underlying3
  a3 := Tryz.isAgg3
  z3 := Tryz.sizeOf3
  v3 := Tryz.zeroValue3
  t5 := Tryz.underlying5
  a5 := Tryz.isAgg5
  z5 := Tryz.sizeOf5
  v5 := Tryz.zeroValue5
  t9 := Tryz.underlying9
  a9 := Tryz.isAgg9
  z9 := Tryz.sizeOf9
  v9 := Tryz.zeroValue9 }
open Go.RowKit Go.Lib in

theorem Tryz.stringslite_IndexByte (s : ByteArray) (c : Int) (w : World) :
    Calls Tryz.prog 161 #[.string s, .int .u8 c] w fun e w' => e = .returned (.int .i64 (Lib.indexByte s.data.toList c.toNat.toUInt8)) ∧ w' = w := Any.stringslite_IndexByte Tryz.lays217 s c w
def Tryz.lays224_ren : Go.Shelf.Ren := ⟨fun | 224 => 163 | n => n, fun | 3 => 3 | n => n, fun | n => n⟩
theorem Tryz.lays224 : Go.Proofs.Lays.n224 Tryz.prog Tryz.lays224_ren := {
  mixed := by kernel_rfl
  f224 := Tryz.func163.trans (congrArg some (by kernel_rfl))
  t3 := Tryz.underlying3
  a3 := Tryz.isAgg3
  z3 := Tryz.sizeOf3
  v3 := Tryz.zeroValue3 }
open Go.RowKit Go.Lib in

theorem Tryz.bytealg_Cutover (n : Int) (h0 : 0 ≤ n) (h1 : n < 4611686018427387904) (w : World) :
    Calls Tryz.prog 163 #[.int .i64 n] w fun e w' => e = .returned (.int .i64 ((n + 16) / 8)) ∧ w' = w := Any.bytealg_Cutover Tryz.lays224 n h0 h1 w
def Tryz.lays314_ren : Go.Shelf.Ren := ⟨fun | 314 => 190 | n => n, fun | 9 => 9 | 51 => 180 | 3 => 3 | 4 => 4 | 5 => 5 | 46 => 127 | n => n, fun | n => n⟩
theorem Tryz.lays314 : Go.Proofs.Lays.n314 Tryz.prog Tryz.lays314_ren := {
  mixed := by kernel_rfl
  f314 := Tryz.func190.trans (congrArg some (by kernel_rfl))
  t3 := Tryz.underlying3
  a3 := Tryz.isAgg3
  z3 := Tryz.sizeOf3
  v3 := Tryz.zeroValue3
  t4 := Tryz.underlying4
  a4 := Tryz.isAgg4
  z4 := Tryz.sizeOf4
  v4 := Tryz.zeroValue4
  t5 := Tryz.underlying5
  a5 := Tryz.isAgg5
  z5 := Tryz.sizeOf5
  v5 := Tryz.zeroValue5
  t9 := Tryz.underlying9
  a9 := Tryz.isAgg9
  z9 := Tryz.sizeOf9
  v9 := Tryz.zeroValue9
  t46 := Tryz.underlying127
  a46 := Tryz.isAgg127
  z46 := Tryz.sizeOf127
  v46 := Tryz.zeroValue127
  t51 := Tryz.underlying180
  a51 := Tryz.isAgg180
  z51 := Tryz.sizeOf180
  v51 := Tryz.zeroValue180 }
open Go.RowKit Go.Lib in

theorem Tryz.bytealg_hashStr (sep : ByteArray) (hs : sep.size < 4294967281) (w : World) :
    Calls Tryz.prog 190 #[.string sep] w fun e w' => e = .returned (.tuple #[.int .u32 (RK.H sep.data.toList % 4294967296), .int .u32 (16777619 ^ sep.size % 4294967296)]) ∧ w' = w := Any.bytealg_hashStr Tryz.lays314 sep hs w
def Tryz.lays267_ren : Go.Shelf.Ren := ⟨fun | 267 => 164 | 314 => 190 | n => n, fun | 9 => 9 | 3 => 3 | 146 => 211 | 51 => 180 | 4 => 4 | 5 => 5 | 46 => 127 | n => n, fun | n => n⟩
theorem Tryz.lays267 : Go.Proofs.Lays.n267 Tryz.prog Tryz.lays267_ren := {
  mixed := by kernel_rfl
  f267 := Tryz.func164.trans (congrArg some (by kernel_rfl))
  f314 := Tryz.func190.trans (congrArg some (by kernel_rfl))
  t3 := Tryz.underlying3
  a3 := Tryz.isAgg3
  z3 := Tryz.sizeOf3
  v3 := Tryz.zeroValue3
  t4 := Tryz.underlying4
  a4 := Tryz.isAgg4
  z4 := Tryz.sizeOf4
  v4 := Tryz.zeroValue4
  t5 := Tryz.underlying5
  a5 := Tryz.isAgg5
  z5 := Tryz.sizeOf5
  v5 := Tryz.zeroValue5
  t9 := Tryz.underlying9
  a9 := Tryz.isAgg9
  z9 := Tryz.sizeOf9
  v9 := Tryz.zeroValue9
  t46 := Tryz.underlying127
  a46 := Tryz.isAgg127
  z46 := Tryz.sizeOf127
  v46 := Tryz.zeroValue127
  t51 := Tryz.underlying180
  a51 := Tryz.isAgg180
  z51 := Tryz.sizeOf180
  v51 := Tryz.zeroValue180
  t146 := Tryz.underlying211
  a146 := Tryz.isAgg211
  z146 := Tryz.sizeOf211
  v146 := Tryz.zeroValue211 }
open Go.RowKit Go.Lib in
theorem Tryz.bytealg_IndexRabinKarp (s sep : ByteArray) (h1 : 1 ≤ sep.size) (h2 : sep.size ≤ s.size) (hs : s.size < 4294967281) (w : World) :
    Calls Tryz.prog 164 #[.string s, .string sep] w fun e w' => e = .returned (.int .i64 (Lib.index s.data.toList sep.data.toList)) ∧ w' = w := Any.bytealg_IndexRabinKarp Tryz.lays267 s sep h1 h2 hs w
def Tryz.lays219_ren : Go.Shelf.Ren := ⟨fun | 219 => 126 | 217 => 161 | 225 => 162 | 224 => 163 | 267 => 164 | 266 => 189 | 314 => 190 | n => n, fun | 9 => 9 | 3 => 3 | 4 => 4 | 5 => 5 | 46 => 127 | 146 => 211 | 51 => 180 | n => n, fun | 1 => 0 | n => n⟩
theorem Tryz.lays219 : Go.Proofs.Lays.n219 Tryz.prog Tryz.lays219_ren := {
  mixed := by kernel_rfl
  f217 := Tryz.func161.trans (congrArg some (by kernel_rfl))
  f219 := Tryz.func126.trans (congrArg some (by kernel_rfl))
  f224 := Tryz.func163.trans (congrArg some (by kernel_rfl))
  f225 := Tryz.func162.trans (congrArg some (by kernel_rfl))
  f266 := Tryz.func189.trans (congrArg some (by kernel_rfl))
  f267 := Tryz.func164.trans (congrArg some (by kernel_rfl))
  f314 := Tryz.func190.trans (congrArg some (by kernel_rfl))
  t3 := Tryz.underlying3
  a3 := Tryz.isAgg3
  z3 := Tryz.sizeOf3
  v3 := Tryz.zeroValue3
  t4 := Tryz.underlying4
  a4 := Tryz.isAgg4
  z4 := Tryz.sizeOf4
  v4 := Tryz.zeroValue4
  t5 := Tryz.underlying5
  a5 := Tryz.isAgg5
  z5 := Tryz.sizeOf5
  v5 := Tryz.zeroValue5
  t9 := Tryz.underlying9
  a9 := Tryz.isAgg9
  z9 := Tryz.sizeOf9
  v9 := Tryz.zeroValue9
  t46 := Tryz.underlying127
  a46 := Tryz.isAgg127
  z46 := Tryz.sizeOf127
  v46 := Tryz.zeroValue127
  t51 := Tryz.underlying180
  a51 := Tryz.isAgg180
  z51 := Tryz.sizeOf180
  v51 := Tryz.zeroValue180
  t146 := Tryz.underlying211
  a146 := Tryz.isAgg211
  z146 := Tryz.sizeOf211
  v146 := Tryz.zeroValue211
  g1 := by kernel_rfl }
open Go.RowKit Go.Lib in

theorem Tryz.stringslite_Index_one (s : ByteArray) (c : UInt8) (w : World) :
    Calls Tryz.prog 126 #[.string s, .string ⟨#[c]⟩] w fun e w' => e = .returned (.int .i64 (Lib.indexByte s.data.toList c)) ∧ w' = w := Any.stringslite_Index_one Tryz.lays219 s c w
open Go.RowKit Go.Lib in

theorem Tryz.stringslite_Index (s sub : ByteArray) (m : Int) (w : World) (hs : s.size < 4294967281) (hm : w.cell? ⟨0, 0, none⟩ = some (.int .i64 m)) :
    Calls Tryz.prog 126 #[.string s, .string sub] w fun e w' => e = .returned (.int .i64 (Lib.index s.data.toList sub.data.toList)) ∧ w' = w := Any.stringslite_Index Tryz.lays219 s sub m w hs hm
def Tryz.lays143_ren : Go.Shelf.Ren := ⟨fun | 143 => 97 | 219 => 126 | 217 => 161 | 225 => 162 | 224 => 163 | 267 => 164 | 266 => 189 | 314 => 190 | n => n, fun | 9 => 9 | 3 => 3 | 4 => 4 | 5 => 5 | 46 => 127 | 146 => 211 | 51 => 180 | n => n, fun | 1 => 0 | n => n⟩
theorem Tryz.lays143 : Go.Proofs.Lays.n143 Tryz.prog Tryz.lays143_ren := {
  mixed := by kernel_rfl
  f143 := Tryz.func97.trans (congrArg some (by kernel_rfl))
  f217 := Tryz.func161.trans (congrArg some (by kernel_rfl))
  f219 := Tryz.func126.trans (congrArg some (by kernel_rfl))
  f224 := Tryz.func163.trans (congrArg some (by kernel_rfl))
  f225 := Tryz.func162.trans (congrArg some (by kernel_rfl))
  f266 := Tryz.func189.trans (congrArg some (by kernel_rfl))
  f267 := Tryz.func164.trans (congrArg some (by kernel_rfl))
  f314 := Tryz.func190.trans (congrArg some (by kernel_rfl))
  t3 := Tryz.underlying3
  a3 := Tryz.isAgg3
  z3 := Tryz.sizeOf3
  v3 := Tryz.zeroValue3
  t4 := Tryz.underlying4
  a4 := Tryz.isAgg4
  z4 := Tryz.sizeOf4
  v4 := Tryz.zeroValue4
  t5 := Tryz.underlying5
  a5 := Tryz.isAgg5
  z5 := Tryz.sizeOf5
  v5 := Tryz.zeroValue5
  t9 := Tryz.underlying9
  a9 := Tryz.isAgg9
  z9 := Tryz.sizeOf9
  v9 := Tryz.zeroValue9
  t46 := Tryz.underlying127
  a46 := Tryz.isAgg127
  z46 := Tryz.sizeOf127
  v46 := Tryz.zeroValue127
  t51 := Tryz.underlying180
  a51 := Tryz.isAgg180
  z51 := Tryz.sizeOf180
  v51 := Tryz.zeroValue180
  t146 := Tryz.underlying211
  a146 := Tryz.isAgg211
  z146 := Tryz.sizeOf211
  v146 := Tryz.zeroValue211
  g1 := by kernel_rfl }
open Go.RowKit Go.Lib in

theorem Tryz.strings_Index_one (s : ByteArray) (c : UInt8) (w : World) :
    Calls Tryz.prog 97 #[.string s, .string ⟨#[c]⟩] w fun e w' => e = .returned (.int .i64 (Lib.indexByte s.data.toList c)) ∧ w' = w := Any.strings_Index_one Tryz.lays143 s c w
open Go.RowKit Go.Lib in

theorem Tryz.strings_Index (s sub : ByteArray) (m : Int) (w : World) (hs : s.size < 4294967281) (hm : w.cell? ⟨0, 0, none⟩ = some (.int .i64 m)) :
    Calls Tryz.prog 97 #[.string s, .string sub] w fun e w' => e = .returned (.int .i64 (Lib.index s.data.toList sub.data.toList)) ∧ w' = w := Any.strings_Index Tryz.lays143 s sub m w hs hm
def Tryz.lays138_ren : Go.Shelf.Ren := ⟨fun | 138 => 96 | 195 => 123 | 218 => 125 | 143 => 97 | 219 => 126 | 217 => 161 | 225 => 162 | 224 => 163 | 267 => 164 | 266 => 189 | 314 => 190 | n => n, fun | 9 => 9 | 3 => 3 | 4 => 4 | 5 => 5 | 0 => 0 | 46 => 127 | 146 => 211 | 51 => 180 | n => n, fun | 1 => 0 | n => n⟩
theorem Tryz.lays138 : Go.Proofs.Lays.n138 Tryz.prog Tryz.lays138_ren := {
  mixed := by kernel_rfl
  f138 := Tryz.func96.trans (congrArg some (by kernel_rfl))
  f143 := Tryz.func97.trans (congrArg some (by kernel_rfl))
  f195 := Tryz.func123.trans (congrArg some (by kernel_rfl))
  f217 := Tryz.func161.trans (congrArg some (by kernel_rfl))
  f218 := Tryz.func125.trans (congrArg some (by kernel_rfl))
  f219 := Tryz.func126.trans (congrArg some (by kernel_rfl))
  f224 := Tryz.func163.trans (congrArg some (by kernel_rfl))
  f225 := Tryz.func162.trans (congrArg some (by kernel_rfl))
  f266 := Tryz.func189.trans (congrArg some (by kernel_rfl))
  f267 := Tryz.func164.trans (congrArg some (by kernel_rfl))
  f314 := Tryz.func190.trans (congrArg some (by kernel_rfl))
  t0 := Tryz.underlying0
  a0 := Tryz.isAgg0
  z0 := Tryz.sizeOf0
  v0 := Tryz.zeroValue0
  t3 := Tryz.underlying3
  a3 := Tryz.isAgg3
  z3 := Tryz.sizeOf3
  v3 := Tryz.zeroValue3
  t4 := Tryz.underlying4
  a4 := Tryz.isAgg4
  z4 := Tryz.sizeOf4
  v4 := Tryz.zeroValue4
  t5 := Tryz.underlying5
  a5 := Tryz.isAgg5
  z5 := Tryz.sizeOf5
  v5 := Tryz.zeroValue5
  t9 := Tryz.underlying9
  a9 := Tryz.isAgg9
  z9 := Tryz.sizeOf9
  v9 := Tryz.zeroValue9
  t46 := Tryz.underlying127
  a46 := Tryz.isAgg127
  z46 := Tryz.sizeOf127
  v46 := Tryz.zeroValue127
  t51 := Tryz.underlying180
  a51 := Tryz.isAgg180
  z51 := Tryz.sizeOf180
  v51 := Tryz.zeroValue180
  t146 := Tryz.underlying211
  a146 := Tryz.isAgg211
  z146 := Tryz.sizeOf211
  v146 := Tryz.zeroValue211
  g1 := by kernel_rfl }
open Go.RowKit Go.Lib in

theorem Tryz.strings_Count_one (s : ByteArray) (c : UInt8) (w : World) :
    Calls Tryz.prog 96 #[.string s, .string ⟨#[c]⟩] w fun e w' => e = .returned (.int .i64 (Lib.countByte s.data.toList c)) ∧ w' = w := Any.strings_Count_one Tryz.lays138 s c w
open Go.RowKit Go.Lib in

theorem Tryz.strings_Count (s sub : ByteArray) (m : Int) (w : World) (hs : s.size < 4294967281) (hm : w.cell? ⟨0, 0, none⟩ = some (.int .i64 m)) (h2 : 2 ≤ sub.size) :
    Calls Tryz.prog 96 #[.string s, .string sub] w fun e w' => e = .returned (.int .i64 (Lib.countB s sub)) ∧ w' = w := Any.strings_Count Tryz.lays138 s sub m w hs hm h2
def Tryz.laysM219_ren : Go.Shelf.Ren := ⟨fun | 219 => 126 | 217 => 161 | 225 => 162 | 224 => 163 | 267 => 164 | 266 => 189 | 314 => 190 | n => n, fun | 9 => 9 | 3 => 3 | 4 => 4 | 5 => 5 | 46 => 127 | 146 => 211 | 51 => 180 | n => n, fun | 1 => 0 | n => n⟩
theorem Tryz.laysM219 : Go.Proofs.LaysM.n219 Tryz.prog Tryz.laysM219_ren := {
  mixed := by kernel_rfl
  f217 := Tryz.func161.trans (congrArg some (by kernel_rfl))
  f219 := Tryz.func126.trans (congrArg some (by kernel_rfl))
  f224 := Tryz.func163.trans (congrArg some (by kernel_rfl))
  f225 := Tryz.func162.trans (congrArg some (by kernel_rfl))
  f266 := Tryz.func189.trans (congrArg some (by kernel_rfl))
  f267 := Tryz.func164.trans (congrArg some (by kernel_rfl))
  f314 := Tryz.func190.trans (congrArg some (by kernel_rfl))
  t3 := Tryz.underlying3
  a3 := Tryz.isAgg3
  z3 := Tryz.sizeOf3
  v3 := Tryz.zeroValue3
  t4 := Tryz.underlying4
  a4 := Tryz.isAgg4
  z4 := Tryz.sizeOf4
  v4 := Tryz.zeroValue4
  t5 := Tryz.underlying5
  a5 := Tryz.isAgg5
  z5 := Tryz.sizeOf5
  v5 := Tryz.zeroValue5
  t9 := Tryz.underlying9
  a9 := Tryz.isAgg9
  z9 := Tryz.sizeOf9
  v9 := Tryz.zeroValue9
  t46 := Tryz.underlying127
  a46 := Tryz.isAgg127
  z46 := Tryz.sizeOf127
  v46 := Tryz.zeroValue127
  t51 := Tryz.underlying180
  a51 := Tryz.isAgg180
  z51 := Tryz.sizeOf180
  v51 := Tryz.zeroValue180
  t146 := Tryz.underlying211
  a146 := Tryz.isAgg211
  z146 := Tryz.sizeOf211
  v146 := Tryz.zeroValue211
  g1 := by kernel_rfl
  i3 := by kernel_rfl
  i4 := by kernel_rfl
  i5 := by kernel_rfl
  i9 := by kernel_rfl
  i46 := by kernel_rfl
  i51 := by kernel_rfl
  i146 := by kernel_rfl
  m1 := by kernel_rfl
  s1_3 := fun w h => Go.Proofs.cell_of_shapedOpen_int (zero := #[.int .i64 0]) (t := 3) h (of_decide_eq_true (by kernel_rfl)) (by kernel_rfl) rfl (by kernel_rfl) (by kernel_rfl) Tryz.underlying3 }
open Go.RowKit Go.Lib in
theorem Tryz.stringslite_Index_shaped (s sub : ByteArray) (w : World) (h : w.ShapedOpen Tryz.prog) (hs : s.size < 4294967281) :
    Calls Tryz.prog 126 #[.string s, .string sub] w fun e w' => e = .returned (.int .i64 (Lib.index s.data.toList sub.data.toList)) ∧ w' = w := Any.stringslite_Index_shaped Tryz.laysM219 s sub w h hs
def Tryz.laysM143_ren : Go.Shelf.Ren := ⟨fun | 143 => 97 | 219 => 126 | 217 => 161 | 225 => 162 | 224 => 163 | 267 => 164 | 266 => 189 | 314 => 190 | n => n, fun | 9 => 9 | 3 => 3 | 4 => 4 | 5 => 5 | 46 => 127 | 146 => 211 | 51 => 180 | n => n, fun | 1 => 0 | n => n⟩
theorem Tryz.laysM143 : Go.Proofs.LaysM.n143 Tryz.prog Tryz.laysM143_ren := {
  mixed := by kernel_rfl
  f143 := Tryz.func97.trans (congrArg some (by kernel_rfl))
  f217 := Tryz.func161.trans (congrArg some (by kernel_rfl))
  f219 := Tryz.func126.trans (congrArg some (by kernel_rfl))
  f224 := Tryz.func163.trans (congrArg some (by kernel_rfl))
  f225 := Tryz.func162.trans (congrArg some (by kernel_rfl))
  f266 := Tryz.func189.trans (congrArg some (by kernel_rfl))
  f267 := Tryz.func164.trans (congrArg some (by kernel_rfl))
  f314 := Tryz.func190.trans (congrArg some (by kernel_rfl))
  t3 := Tryz.underlying3
  a3 := Tryz.isAgg3
  z3 := Tryz.sizeOf3
  v3 := Tryz.zeroValue3
  t4 := Tryz.underlying4
  a4 := Tryz.isAgg4
  z4 := Tryz.sizeOf4
  v4 := Tryz.zeroValue4
  t5 := Tryz.underlying5
  a5 := Tryz.isAgg5
  z5 := Tryz.sizeOf5
  v5 := Tryz.zeroValue5
  t9 := Tryz.underlying9
  a9 := Tryz.isAgg9
  z9 := Tryz.sizeOf9
  v9 := Tryz.zeroValue9
  t46 := Tryz.underlying127
  a46 := Tryz.isAgg127
  z46 := Tryz.sizeOf127
  v46 := Tryz.zeroValue127
  t51 := Tryz.underlying180
  a51 := Tryz.isAgg180
  z51 := Tryz.sizeOf180
  v51 := Tryz.zeroValue180
  t146 := Tryz.underlying211
  a146 := Tryz.isAgg211
  z146 := Tryz.sizeOf211
  v146 := Tryz.zeroValue211
  g1 := by kernel_rfl
  i3 := by kernel_rfl
  i4 := by kernel_rfl
  i5 := by kernel_rfl
  i9 := by kernel_rfl
  i46 := by kernel_rfl
  i51 := by kernel_rfl
  i146 := by kernel_rfl
  m1 := by kernel_rfl
  s1_3 := fun w h => Go.Proofs.cell_of_shapedOpen_int (zero := #[.int .i64 0]) (t := 3) h (of_decide_eq_true (by kernel_rfl)) (by kernel_rfl) rfl (by kernel_rfl) (by kernel_rfl) Tryz.underlying3 }
open Go.RowKit Go.Lib in
theorem Tryz.strings_Index_shaped (s sub : ByteArray) (w : World) (h : w.ShapedOpen Tryz.prog) (hs : s.size < 4294967281) :
    Calls Tryz.prog 97 #[.string s, .string sub] w fun e w' => e = .returned (.int .i64 (Lib.index s.data.toList sub.data.toList)) ∧ w' = w := Any.strings_Index_shaped Tryz.laysM143 s sub w h hs
def Tryz.laysM138_ren : Go.Shelf.Ren := ⟨fun | 138 => 96 | 195 => 123 | 218 => 125 | 143 => 97 | 219 => 126 | 217 => 161 | 225 => 162 | 224 => 163 | 267 => 164 | 266 => 189 | 314 => 190 | n => n, fun | 9 => 9 | 3 => 3 | 4 => 4 | 5 => 5 | 0 => 0 | 46 => 127 | 146 => 211 | 51 => 180 | n => n, fun | 1 => 0 | n => n⟩
theorem Tryz.laysM138 : Go.Proofs.LaysM.n138 Tryz.prog Tryz.laysM138_ren := {
  mixed := by kernel_rfl
  f138 := Tryz.func96.trans (congrArg some (by kernel_rfl))
  f143 := Tryz.func97.trans (congrArg some (by kernel_rfl))
  f195 := Tryz.func123.trans (congrArg some (by kernel_rfl))
  f217 := Tryz.func161.trans (congrArg some (by kernel_rfl))
  f218 := Tryz.func125.trans (congrArg some (by kernel_rfl))
  f219 := Tryz.func126.trans (congrArg some (by kernel_rfl))
  f224 := Tryz.func163.trans (congrArg some (by kernel_rfl))
  f225 := Tryz.func162.trans (congrArg some (by kernel_rfl))
  f266 := Tryz.func189.trans (congrArg some (by kernel_rfl))
  f267 := Tryz.func164.trans (congrArg some (by kernel_rfl))
  f314 := Tryz.func190.trans (congrArg some (by kernel_rfl))
  t0 := Tryz.underlying0
  a0 := Tryz.isAgg0
  z0 := Tryz.sizeOf0
  v0 := Tryz.zeroValue0
  t3 := Tryz.underlying3
  a3 := Tryz.isAgg3
  z3 := Tryz.sizeOf3
  v3 := Tryz.zeroValue3
  t4 := Tryz.underlying4
  a4 := Tryz.isAgg4
  z4 := Tryz.sizeOf4
  v4 := Tryz.zeroValue4
  t5 := Tryz.underlying5
  a5 := Tryz.isAgg5
  z5 := Tryz.sizeOf5
  v5 := Tryz.zeroValue5
  t9 := Tryz.underlying9
  a9 := Tryz.isAgg9
  z9 := Tryz.sizeOf9
  v9 := Tryz.zeroValue9
  t46 := Tryz.underlying127
  a46 := Tryz.isAgg127
  z46 := Tryz.sizeOf127
  v46 := Tryz.zeroValue127
  t51 := Tryz.underlying180
  a51 := Tryz.isAgg180
  z51 := Tryz.sizeOf180
  v51 := Tryz.zeroValue180
  t146 := Tryz.underlying211
  a146 := Tryz.isAgg211
  z146 := Tryz.sizeOf211
  v146 := Tryz.zeroValue211
  g1 := by kernel_rfl
  i0 := by kernel_rfl
  i3 := by kernel_rfl
  i4 := by kernel_rfl
  i5 := by kernel_rfl
  i9 := by kernel_rfl
  i46 := by kernel_rfl
  i51 := by kernel_rfl
  i146 := by kernel_rfl
  m1 := by kernel_rfl
  s1_3 := fun w h => Go.Proofs.cell_of_shapedOpen_int (zero := #[.int .i64 0]) (t := 3) h (of_decide_eq_true (by kernel_rfl)) (by kernel_rfl) rfl (by kernel_rfl) (by kernel_rfl) Tryz.underlying3 }
open Go.RowKit Go.Lib in
theorem Tryz.strings_Count_shaped (s sub : ByteArray) (w : World) (h : w.ShapedOpen Tryz.prog) (hs : s.size < 4294967281) (h2 : 2 ≤ sub.size) :
    Calls Tryz.prog 96 #[.string s, .string sub] w fun e w' => e = .returned (.int .i64 (Lib.countB s sub)) ∧ w' = w := Any.strings_Count_shaped Tryz.laysM138 s sub w h hs h2
def Tryz.lays206_ren : Go.Shelf.Ren := ⟨fun | 206 => 184 | n => n, fun | 9 => 9 | 4 => 4 | 3 => 3 | n => n, fun | n => n⟩
theorem Tryz.lays206 : Go.Proofs.Lays.n206 Tryz.prog Tryz.lays206_ren := {
  mixed := by kernel_rfl
  f206 := Tryz.func184.trans (congrArg some (by kernel_rfl))
  t3 := Tryz.underlying3
  a3 := Tryz.isAgg3
  z3 := Tryz.sizeOf3
  v3 := Tryz.zeroValue3
  t4 := Tryz.underlying4
  a4 := Tryz.isAgg4
  z4 := Tryz.sizeOf4
  v4 := Tryz.zeroValue4
  t9 := Tryz.underlying9
  a9 := Tryz.isAgg9
  z9 := Tryz.sizeOf9
  v9 := Tryz.zeroValue9 }
open Go.RowKit Go.Lib in

theorem Tryz.stringslite_HasPrefix (s p : ByteArray) (w : World) :
    Calls Tryz.prog 184 #[.string s, .string p] w fun e w' => e = .returned (.bool (Lib.hasPrefix s.data.toList p.data.toList)) ∧ w' = w := Any.stringslite_HasPrefix Tryz.lays206 s p w
def Tryz.lays99_ren : Go.Shelf.Ren := ⟨fun | 99 => 149 | 206 => 184 | n => n, fun | 9 => 9 | 4 => 4 | 3 => 3 | n => n, fun | n => n⟩
theorem Tryz.lays99 : Go.Proofs.Lays.n99 Tryz.prog Tryz.lays99_ren := {
  mixed := by kernel_rfl
  f99 := Tryz.func149.trans (congrArg some (by kernel_rfl))
  f206 := Tryz.func184.trans (congrArg some (by kernel_rfl))
  t3 := Tryz.underlying3
  a3 := Tryz.isAgg3
  z3 := Tryz.sizeOf3
  v3 := Tryz.zeroValue3
  t4 := Tryz.underlying4
  a4 := Tryz.isAgg4
  z4 := Tryz.sizeOf4
  v4 := Tryz.zeroValue4
  t9 := Tryz.underlying9
  a9 := Tryz.isAgg9
  z9 := Tryz.sizeOf9
  v9 := Tryz.zeroValue9 }
open Go.RowKit Go.Lib in

theorem Tryz.strings_HasPrefix (s p : ByteArray) (w : World) :
    Calls Tryz.prog 149 #[.string s, .string p] w fun e w' => e = .returned (.bool (Lib.hasPrefix s.data.toList p.data.toList)) ∧ w' = w := Any.strings_HasPrefix Tryz.lays99 s p w
open Go.RowKit Go.Lib in

theorem Tryz.strings_Count_any (s sep : ByteArray) (m : Int) (w : World) (hs : s.size < 4294967281) (hm : w.cell? ⟨0, 0, none⟩ = some (.int .i64 m)) (h1 : 1 ≤ sep.size) :
    Calls Tryz.prog 96 #[.string s, .string sep] w fun e w' => e = .returned (.int .i64 (Lib.countB s sep)) ∧ w' = w := Any.strings_Count_any Tryz.lays138 s sep m w hs hm h1
def Tryz.lays221_ren : Go.Shelf.Ren := ⟨fun | 221 => 66 | 268 => 95 | 138 => 96 | 143 => 97 | 195 => 123 | 197 => 124 | 218 => 125 | 219 => 126 | 260 => 160 | 217 => 161 | 225 => 162 | 224 => 163 | 267 => 164 | 266 => 189 | 314 => 190 | n => n, fun | 9 => 9 | 3 => 3 | 31 => 35 | 4 => 4 | 0 => 0 | 105 => 167 | 21 => 21 | 5 => 5 | 46 => 127 | 119 => 218 | 139 => 221 | 138 => 220 | 146 => 211 | 51 => 180 | n => n, fun | 1 => 0 | 3 => 1 | 4 => 2 | n => n⟩
theorem Tryz.lays221 : Go.Proofs.Lays.n221 Tryz.prog Tryz.lays221_ren := {
  mixed := by kernel_rfl
  f138 := Tryz.func96.trans (congrArg some (by kernel_rfl))
  f143 := Tryz.func97.trans (congrArg some (by kernel_rfl))
  f195 := Tryz.func123.trans (congrArg some (by kernel_rfl))
  f197 := Tryz.func124.trans (congrArg some (by kernel_rfl))
  f217 := Tryz.func161.trans (congrArg some (by kernel_rfl))
  f218 := Tryz.func125.trans (congrArg some (by kernel_rfl))
  f219 := Tryz.func126.trans (congrArg some (by kernel_rfl))
  f221 := Tryz.func66.trans (congrArg some (by kernel_rfl))
  f224 := Tryz.func163.trans (congrArg some (by kernel_rfl))
  f225 := Tryz.func162.trans (congrArg some (by kernel_rfl))
  f260 := Tryz.func160.trans (congrArg some (by kernel_rfl))
  f266 := Tryz.func189.trans (congrArg some (by kernel_rfl))
  f267 := Tryz.func164.trans (congrArg some (by kernel_rfl))
  f268 := Tryz.func95.trans (congrArg some (by kernel_rfl))
  f314 := Tryz.func190.trans (congrArg some (by kernel_rfl))
  t0 := Tryz.underlying0
  a0 := Tryz.isAgg0
  z0 := Tryz.sizeOf0
  v0 := Tryz.zeroValue0
  t3 := Tryz.underlying3
  a3 := Tryz.isAgg3
  z3 := Tryz.sizeOf3
  v3 := Tryz.zeroValue3
  t4 := Tryz.underlying4
  a4 := Tryz.isAgg4
  z4 := Tryz.sizeOf4
  v4 := Tryz.zeroValue4
  t5 := Tryz.underlying5
  a5 := Tryz.isAgg5
  z5 := Tryz.sizeOf5
  v5 := Tryz.zeroValue5
  t9 := Tryz.underlying9
  a9 := Tryz.isAgg9
  z9 := Tryz.sizeOf9
  v9 := Tryz.zeroValue9
  t21 := Tryz.underlying21
  a21 := Tryz.isAgg21
  z21 := Tryz.sizeOf21
  v21 := Tryz.zeroValue21
  t31 := Tryz.underlying35
  a31 := Tryz.isAgg35
  z31 := Tryz.sizeOf35
  v31 := Tryz.zeroValue35
  t46 := Tryz.underlying127
  a46 := Tryz.isAgg127
  z46 := Tryz.sizeOf127
  v46 := Tryz.zeroValue127
  t51 := Tryz.underlying180
  a51 := Tryz.isAgg180
  z51 := Tryz.sizeOf180
  v51 := Tryz.zeroValue180
  t105 := Tryz.underlying167
  a105 := Tryz.isAgg167
  z105 := Tryz.sizeOf167
  v105 := Tryz.zeroValue167
  t119 := Tryz.underlying218
  a119 := Tryz.isAgg218
  z119 := Tryz.sizeOf218
  t138 := Tryz.underlying220
  a138 := Tryz.isAgg220
  z138 := Tryz.sizeOf220
  v138 := Tryz.zeroValue220
  t139 := Tryz.underlying221
  a139 := Tryz.isAgg221
  z139 := Tryz.sizeOf221
  v139 := Tryz.zeroValue221
  t146 := Tryz.underlying211
  a146 := Tryz.isAgg211
  z146 := Tryz.sizeOf211
  v146 := Tryz.zeroValue211
  g1 := by kernel_rfl
  g3 := by kernel_rfl
  g4 := by kernel_rfl }
open Go.RowKit Go.Lib in
theorem Tryz.strings_genSplit (s sep : ByteArray) (sv : Nat) (n : Int) (N : Nat) (m : Int) (w : World) (hs : s.size < 4294967281) (hm : w.cell? ⟨0, 0, none⟩ = some (.int .i64 m)) (h1 : 1 ≤ sep.size) (hsv : sv ≤ sep.size) (hn0 : n ≠ 0) (hn63 : n ≤ 9223372036854775807) (hN : (N : Int) = min (if n < 0 then (Lib.countB s sep : Int) + 1 else n) ((s.size : Int) + 1)) :
    Calls Tryz.prog 66 #[.string s, .string sep, .int .i64 sv, .int .i64 n] w fun e w' =>
      e = .returned (.slice (some ⟨w.heap.size, 0, none⟩) (Lib.splitB sep sv (N - 1) s).length N) ∧ w' = w.alloc (.cells (Lib.cellsOf (Lib.splitB sep sv (N - 1) s) N) 9) := Any.strings_genSplit Tryz.lays221 (by kernel_rfl) s sep sv n N m w hs hm h1 hsv hn0 hn63 hN
def Tryz.lays146_ren : Go.Shelf.Ren := ⟨fun | 146 => 35 | 221 => 66 | 268 => 95 | 138 => 96 | 143 => 97 | 195 => 123 | 197 => 124 | 218 => 125 | 219 => 126 | 260 => 160 | 217 => 161 | 225 => 162 | 224 => 163 | 267 => 164 | 266 => 189 | 314 => 190 | n => n, fun | 9 => 9 | 31 => 35 | 3 => 3 | 4 => 4 | 0 => 0 | 105 => 167 | 21 => 21 | 5 => 5 | 46 => 127 | 119 => 218 | 139 => 221 | 138 => 220 | 146 => 211 | 51 => 180 | n => n, fun | 1 => 0 | 3 => 1 | 4 => 2 | n => n⟩
theorem Tryz.lays146 : Go.Proofs.Lays.n146 Tryz.prog Tryz.lays146_ren := {
  mixed := by kernel_rfl
  f138 := Tryz.func96.trans (congrArg some (by kernel_rfl))
  f143 := Tryz.func97.trans (congrArg some (by kernel_rfl))
  f146 := Tryz.func35.trans (congrArg some (by kernel_rfl))
  f195 := Tryz.func123.trans (congrArg some (by kernel_rfl))
  f197 := Tryz.func124.trans (congrArg some (by kernel_rfl))
  f217 := Tryz.func161.trans (congrArg some (by kernel_rfl))
  f218 := Tryz.func125.trans (congrArg some (by kernel_rfl))
  f219 := Tryz.func126.trans (congrArg some (by kernel_rfl))
  f221 := Tryz.func66.trans (congrArg some (by kernel_rfl))
  f224 := Tryz.func163.trans (congrArg some (by kernel_rfl))
  f225 := Tryz.func162.trans (congrArg some (by kernel_rfl))
  f260 := Tryz.func160.trans (congrArg some (by kernel_rfl))
  f266 := Tryz.func189.trans (congrArg some (by kernel_rfl))
  f267 := Tryz.func164.trans (congrArg some (by kernel_rfl))
  f268 := Tryz.func95.trans (congrArg some (by kernel_rfl))
  f314 := Tryz.func190.trans (congrArg some (by kernel_rfl))
  t0 := Tryz.underlying0
  a0 := Tryz.isAgg0
  z0 := Tryz.sizeOf0
  v0 := Tryz.zeroValue0
  t3 := Tryz.underlying3
  a3 := Tryz.isAgg3
  z3 := Tryz.sizeOf3
  v3 := Tryz.zeroValue3
  t4 := Tryz.underlying4
  a4 := Tryz.isAgg4
  z4 := Tryz.sizeOf4
  v4 := Tryz.zeroValue4
  t5 := Tryz.underlying5
  a5 := Tryz.isAgg5
  z5 := Tryz.sizeOf5
  v5 := Tryz.zeroValue5
  t9 := Tryz.underlying9
  a9 := Tryz.isAgg9
  z9 := Tryz.sizeOf9
  v9 := Tryz.zeroValue9
  t21 := Tryz.underlying21
  a21 := Tryz.isAgg21
  z21 := Tryz.sizeOf21
  v21 := Tryz.zeroValue21
  t31 := Tryz.underlying35
  a31 := Tryz.isAgg35
  z31 := Tryz.sizeOf35
  v31 := Tryz.zeroValue35
  t46 := Tryz.underlying127
  a46 := Tryz.isAgg127
  z46 := Tryz.sizeOf127
  v46 := Tryz.zeroValue127
  t51 := Tryz.underlying180
  a51 := Tryz.isAgg180
  z51 := Tryz.sizeOf180
  v51 := Tryz.zeroValue180
  t105 := Tryz.underlying167
  a105 := Tryz.isAgg167
  z105 := Tryz.sizeOf167
  v105 := Tryz.zeroValue167
  t119 := Tryz.underlying218
  a119 := Tryz.isAgg218
  z119 := Tryz.sizeOf218
  t138 := Tryz.underlying220
  a138 := Tryz.isAgg220
  z138 := Tryz.sizeOf220
  v138 := Tryz.zeroValue220
  t139 := Tryz.underlying221
  a139 := Tryz.isAgg221
  z139 := Tryz.sizeOf221
  v139 := Tryz.zeroValue221
  t146 := Tryz.underlying211
  a146 := Tryz.isAgg211
  z146 := Tryz.sizeOf211
  v146 := Tryz.zeroValue211
  g1 := by kernel_rfl
  g3 := by kernel_rfl
  g4 := by kernel_rfl }
open Go.RowKit Go.Lib in

theorem Tryz.strings_Split (s sep : ByteArray) (m : Int) (w : World) (hs : s.size < 4294967281) (hm : w.cell? ⟨0, 0, none⟩ = some (.int .i64 m)) (h1 : 1 ≤ sep.size) :
    Calls Tryz.prog 35 #[.string s, .string sep] w fun e w' =>
      e = .returned (.slice (some ⟨w.heap.size, 0, none⟩) (Lib.countB s sep + 1) (Lib.countB s sep + 1)) ∧ w' = w.alloc (.cells ((Lib.splitB sep 0 (Lib.countB s sep) s).map Value.string).toArray 9) := Any.strings_Split Tryz.lays146 (by kernel_rfl) s sep m w hs hm h1
def Tryz.lays154_ren : Go.Shelf.Ren := ⟨fun | 154 => 108 | 138 => 96 | 165 => 119 | 143 => 97 | 166 => 54 | 197 => 124 | 169 => 55 | 195 => 123 | 218 => 125 | 240 => 89 | 241 => 151 | 219 => 126 | 260 => 160 | 276 => 120 | 277 => 185 | 217 => 161 | 225 => 162 | 224 => 163 | 267 => 164 | 266 => 189 | 314 => 190 | n => n, fun | 9 => 9 | 3 => 3 | 4 => 4 | 72 => 90 | 0 => 0 | 76 => 94 | 105 => 167 | 21 => 21 | 5 => 5 | 70 => 88 | 20 => 20 | 37 => 66 | 75 => 93 | 127 => 131 | 164 => 164 | 46 => 127 | 119 => 218 | 139 => 221 | 138 => 220 | 146 => 211 | 51 => 180 | 80 => 43 | n => n, fun | 1 => 0 | 3 => 1 | 4 => 2 | n => n⟩
theorem Tryz.lays154 : Go.Proofs.Lays.n154 Tryz.prog Tryz.lays154_ren := {
  mixed := by kernel_rfl
  f138 := Tryz.func96.trans (congrArg some (by kernel_rfl))
  f143 := Tryz.func97.trans (congrArg some (by kernel_rfl))
  f154 := Tryz.func108.trans (congrArg some (by kernel_rfl))
  f165 := Tryz.func119.trans (congrArg some (by kernel_rfl))
  f166 := Tryz.func54.trans (congrArg some (by kernel_rfl))
  f169 := Tryz.func55.trans (congrArg some (by kernel_rfl))
  f195 := Tryz.func123.trans (congrArg some (by kernel_rfl))
  f197 := Tryz.func124.trans (congrArg some (by kernel_rfl))
  f217 := Tryz.func161.trans (congrArg some (by kernel_rfl))
  f218 := Tryz.func125.trans (congrArg some (by kernel_rfl))
  f219 := Tryz.func126.trans (congrArg some (by kernel_rfl))
  f224 := Tryz.func163.trans (congrArg some (by kernel_rfl))
  f225 := Tryz.func162.trans (congrArg some (by kernel_rfl))
  f240 := Tryz.func89.trans (congrArg some (by kernel_rfl))
  f241 := Tryz.func151.trans (congrArg some (by kernel_rfl))
  f260 := Tryz.func160.trans (congrArg some (by kernel_rfl))
  f266 := Tryz.func189.trans (congrArg some (by kernel_rfl))
  f267 := Tryz.func164.trans (congrArg some (by kernel_rfl))
  f276 := Tryz.func120.trans (congrArg some (by kernel_rfl))
  f277 := Tryz.func185.trans (congrArg some (by kernel_rfl))
  f314 := Tryz.func190.trans (congrArg some (by kernel_rfl))
  t0 := Tryz.underlying0
  a0 := Tryz.isAgg0
  z0 := Tryz.sizeOf0
  v0 := Tryz.zeroValue0
  t3 := Tryz.underlying3
  a3 := Tryz.isAgg3
  z3 := Tryz.sizeOf3
  v3 := Tryz.zeroValue3
  t4 := Tryz.underlying4
  a4 := Tryz.isAgg4
  z4 := Tryz.sizeOf4
  v4 := Tryz.zeroValue4
  t5 := Tryz.underlying5
  a5 := Tryz.isAgg5
  z5 := Tryz.sizeOf5
  v5 := Tryz.zeroValue5
  t9 := Tryz.underlying9
  a9 := Tryz.isAgg9
  z9 := Tryz.sizeOf9
  v9 := Tryz.zeroValue9
  t20 := Tryz.underlying20
  a20 := Tryz.isAgg20
  z20 := Tryz.sizeOf20
  v20 := Tryz.zeroValue20
  t21 := Tryz.underlying21
  a21 := Tryz.isAgg21
  z21 := Tryz.sizeOf21
  v21 := Tryz.zeroValue21
  t37 := Tryz.underlying66
  a37 := Tryz.isAgg66
  z37 := Tryz.sizeOf66
  v37 := Tryz.zeroValue66
  t46 := Tryz.underlying127
  a46 := Tryz.isAgg127
  z46 := Tryz.sizeOf127
  v46 := Tryz.zeroValue127
  t51 := Tryz.underlying180
  a51 := Tryz.isAgg180
  z51 := Tryz.sizeOf180
  v51 := Tryz.zeroValue180
  t70 := Tryz.underlying88
  a70 := Tryz.isAgg88
  z70 := Tryz.sizeOf88
  v70 := Tryz.zeroValue88
  t72 := Tryz.underlying90
  a72 := Tryz.isAgg90
  z72 := Tryz.sizeOf90
  v72 := Tryz.zeroValue90
  t75 := Tryz.underlying93
  a75 := Tryz.isAgg93
  z75 := Tryz.sizeOf93
  v75 := Tryz.zeroValue93
  t76 := Tryz.underlying94
  a76 := Tryz.isAgg94
  z76 := Tryz.sizeOf94
  v76 := Tryz.zeroValue94
  t105 := Tryz.underlying167
  a105 := Tryz.isAgg167
  z105 := Tryz.sizeOf167
  v105 := Tryz.zeroValue167
  t119 := Tryz.underlying218
  a119 := Tryz.isAgg218
  z119 := Tryz.sizeOf218
  t127 := Tryz.underlying131
  a127 := Tryz.isAgg131
  z127 := Tryz.sizeOf131
  v127 := Tryz.zeroValue131
  t138 := Tryz.underlying220
  a138 := Tryz.isAgg220
  z138 := Tryz.sizeOf220
  v138 := Tryz.zeroValue220
  t139 := Tryz.underlying221
  a139 := Tryz.isAgg221
  z139 := Tryz.sizeOf221
  v139 := Tryz.zeroValue221
  t146 := Tryz.underlying211
  a146 := Tryz.isAgg211
  z146 := Tryz.sizeOf211
  v146 := Tryz.zeroValue211
  t164 := Tryz.underlying164
  a164 := Tryz.isAgg164
  z164 := Tryz.sizeOf164
  v164 := Tryz.zeroValue164
  g1 := by kernel_rfl
  g3 := by kernel_rfl
  g4 := by kernel_rfl }
theorem Tryz.Builder_Extra_154 : Builder.Extra Tryz.prog Tryz.lays154_ren := {
  sizeBuilder := by kernel_rfl
  liesBuilder := by kernel_rfl
  t5 := Tryz.underlying5
  a5 := Tryz.isAgg5
  z5 := Tryz.sizeOf5
  v5 := Tryz.zeroValue5
  infoByte := by kernel_rfl
  cellsByte := by kernel_rfl
  sizeByte := by kernel_rfl
  neB5 := by decide }
open Go.RowKit Go.Lib in

theorem Tryz.strings_Replace_some (s old new : ByteArray) (n : Int) (m : Int) (w : World) (hs : s.size < 4294967281) (hm : w.cell? ⟨0, 0, none⟩ = some (.int .i64 m)) (h1 : 1 ≤ old.size) (hne : old ≠ new) (hn0 : n ≠ 0) (hc0 : Lib.countB s old ≠ 0) (hlen : s.size + Lib.countB s old * new.size ≤ 140737488355328) :
    Calls Tryz.prog 108 #[.string s, .string old, .string new, .int .i64 n] w fun e w' =>
      e = .returned (.string ⟨(Lib.replaceK old.data.toList new.data.toList (Lib.replaceNum s.data.toList old.data.toList n) s.data.toList).toArray⟩) ∧ Below w.heap.size w w' := Any.strings_Replace_some Tryz.lays154 Tryz.Builder_Extra_154 s old new n m w hs hm h1 hne hn0 hc0 hlen
open Go.RowKit Go.Lib in

theorem Tryz.strings_Replace_none (s old new : ByteArray) (n : Int) (w : World) (h : old = new ∨ n = 0) :
    Calls Tryz.prog 108 #[.string s, .string old, .string new, .int .i64 n] w fun e w' => e = .returned (.string s) ∧ w' = w := Any.strings_Replace_none Tryz.lays154 s old new n w h
open Go.RowKit Go.Lib in

theorem Tryz.strings_Replace_absent (s old new : ByteArray) (n : Int) (m : Int) (w : World) (hs : s.size < 4294967281) (hm : w.cell? ⟨0, 0, none⟩ = some (.int .i64 m)) (h1 : 1 ≤ old.size) (hne : old ≠ new) (hn0 : n ≠ 0) (hc0 : Lib.countB s old = 0) :
    Calls Tryz.prog 108 #[.string s, .string old, .string new, .int .i64 n] w fun e w' => e = .returned (.string s) ∧ w' = w := Any.strings_Replace_absent Tryz.lays154 s old new n m w hs hm h1 hne hn0 hc0
open Go.RowKit Go.Lib in

theorem Tryz.strings_Replace (s old new : ByteArray) (n : Int) (m : Int) (w : World) (hs : s.size < 4294967281) (hm : w.cell? ⟨0, 0, none⟩ = some (.int .i64 m)) (h1 : 1 ≤ old.size) (hlen : s.size + Lib.countB s old * new.size ≤ 140737488355328) :
    Calls Tryz.prog 108 #[.string s, .string old, .string new, .int .i64 n] w fun e w' =>
      e = .returned (.string ⟨(Lib.replace s.data.toList old.data.toList new.data.toList n).toArray⟩) ∧ Below w.heap.size w w' := Any.strings_Replace Tryz.lays154 Tryz.Builder_Extra_154 s old new n m w hs hm h1 hlen
def Tryz.lays155_ren : Go.Shelf.Ren := ⟨fun | 155 => 70 | 154 => 108 | 138 => 96 | 165 => 119 | 143 => 97 | 166 => 54 | 197 => 124 | 169 => 55 | 195 => 123 | 218 => 125 | 240 => 89 | 241 => 151 | 219 => 126 | 260 => 160 | 276 => 120 | 277 => 185 | 217 => 161 | 225 => 162 | 224 => 163 | 267 => 164 | 266 => 189 | 314 => 190 | n => n, fun | 9 => 9 | 3 => 3 | 4 => 4 | 72 => 90 | 0 => 0 | 76 => 94 | 105 => 167 | 21 => 21 | 5 => 5 | 70 => 88 | 20 => 20 | 37 => 66 | 75 => 93 | 127 => 131 | 164 => 164 | 46 => 127 | 119 => 218 | 139 => 221 | 138 => 220 | 146 => 211 | 51 => 180 | 80 => 43 | n => n, fun | 1 => 0 | 3 => 1 | 4 => 2 | n => n⟩
theorem Tryz.lays155 : Go.Proofs.Lays.n155 Tryz.prog Tryz.lays155_ren := {
  mixed := by kernel_rfl
  f138 := Tryz.func96.trans (congrArg some (by kernel_rfl))
  f143 := Tryz.func97.trans (congrArg some (by kernel_rfl))
  f154 := Tryz.func108.trans (congrArg some (by kernel_rfl))
  f155 := Tryz.func70.trans (congrArg some (by kernel_rfl))
  f165 := Tryz.func119.trans (congrArg some (by kernel_rfl))
  f166 := Tryz.func54.trans (congrArg some (by kernel_rfl))
  f169 := Tryz.func55.trans (congrArg some (by kernel_rfl))
  f195 := Tryz.func123.trans (congrArg some (by kernel_rfl))
  f197 := Tryz.func124.trans (congrArg some (by kernel_rfl))
  f217 := Tryz.func161.trans (congrArg some (by kernel_rfl))
  f218 := Tryz.func125.trans (congrArg some (by kernel_rfl))
  f219 := Tryz.func126.trans (congrArg some (by kernel_rfl))
  f224 := Tryz.func163.trans (congrArg some (by kernel_rfl))
  f225 := Tryz.func162.trans (congrArg some (by kernel_rfl))
  f240 := Tryz.func89.trans (congrArg some (by kernel_rfl))
  f241 := Tryz.func151.trans (congrArg some (by kernel_rfl))
  f260 := Tryz.func160.trans (congrArg some (by kernel_rfl))
  f266 := Tryz.func189.trans (congrArg some (by kernel_rfl))
  f267 := Tryz.func164.trans (congrArg some (by kernel_rfl))
  f276 := Tryz.func120.trans (congrArg some (by kernel_rfl))
  f277 := Tryz.func185.trans (congrArg some (by kernel_rfl))
  f314 := Tryz.func190.trans (congrArg some (by kernel_rfl))
  t0 := Tryz.underlying0
  a0 := Tryz.isAgg0
  z0 := Tryz.sizeOf0
  v0 := Tryz.zeroValue0
  t3 := Tryz.underlying3
  a3 := Tryz.isAgg3
  z3 := Tryz.sizeOf3
  v3 := Tryz.zeroValue3
  t4 := Tryz.underlying4
  a4 := Tryz.isAgg4
  z4 := Tryz.sizeOf4
  v4 := Tryz.zeroValue4
  t5 := Tryz.underlying5
  a5 := Tryz.isAgg5
  z5 := Tryz.sizeOf5
  v5 := Tryz.zeroValue5
  t9 := Tryz.underlying9
  a9 := Tryz.isAgg9
  z9 := Tryz.sizeOf9
  v9 := Tryz.zeroValue9
  t20 := Tryz.underlying20
  a20 := Tryz.isAgg20
  z20 := Tryz.sizeOf20
  v20 := Tryz.zeroValue20
  t21 := Tryz.underlying21
  a21 := Tryz.isAgg21
  z21 := Tryz.sizeOf21
  v21 := Tryz.zeroValue21
  t37 := Tryz.underlying66
  a37 := Tryz.isAgg66
  z37 := Tryz.sizeOf66
  v37 := Tryz.zeroValue66
  t46 := Tryz.underlying127
  a46 := Tryz.isAgg127
  z46 := Tryz.sizeOf127
  v46 := Tryz.zeroValue127
  t51 := Tryz.underlying180
  a51 := Tryz.isAgg180
  z51 := Tryz.sizeOf180
  v51 := Tryz.zeroValue180
  t70 := Tryz.underlying88
  a70 := Tryz.isAgg88
  z70 := Tryz.sizeOf88
  v70 := Tryz.zeroValue88
  t72 := Tryz.underlying90
  a72 := Tryz.isAgg90
  z72 := Tryz.sizeOf90
  v72 := Tryz.zeroValue90
  t75 := Tryz.underlying93
  a75 := Tryz.isAgg93
  z75 := Tryz.sizeOf93
  v75 := Tryz.zeroValue93
  t76 := Tryz.underlying94
  a76 := Tryz.isAgg94
  z76 := Tryz.sizeOf94
  v76 := Tryz.zeroValue94
  t105 := Tryz.underlying167
  a105 := Tryz.isAgg167
  z105 := Tryz.sizeOf167
  v105 := Tryz.zeroValue167
  t119 := Tryz.underlying218
  a119 := Tryz.isAgg218
  z119 := Tryz.sizeOf218
  t127 := Tryz.underlying131
  a127 := Tryz.isAgg131
  z127 := Tryz.sizeOf131
  v127 := Tryz.zeroValue131
  t138 := Tryz.underlying220
  a138 := Tryz.isAgg220
  z138 := Tryz.sizeOf220
  v138 := Tryz.zeroValue220
  t139 := Tryz.underlying221
  a139 := Tryz.isAgg221
  z139 := Tryz.sizeOf221
  v139 := Tryz.zeroValue221
  t146 := Tryz.underlying211
  a146 := Tryz.isAgg211
  z146 := Tryz.sizeOf211
  v146 := Tryz.zeroValue211
  t164 := Tryz.underlying164
  a164 := Tryz.isAgg164
  z164 := Tryz.sizeOf164
  v164 := Tryz.zeroValue164
  g1 := by kernel_rfl
  g3 := by kernel_rfl
  g4 := by kernel_rfl }
theorem Tryz.Builder_Extra_155 : Builder.Extra Tryz.prog Tryz.lays155_ren := {
  sizeBuilder := by kernel_rfl
  liesBuilder := by kernel_rfl
  t5 := Tryz.underlying5
  a5 := Tryz.isAgg5
  z5 := Tryz.sizeOf5
  v5 := Tryz.zeroValue5
  infoByte := by kernel_rfl
  cellsByte := by kernel_rfl
  sizeByte := by kernel_rfl
  neB5 := by decide }
open Go.RowKit Go.Lib in

theorem Tryz.strings_ReplaceAll (s old new : ByteArray) (m : Int) (w : World) (hs : s.size < 4294967281) (hm : w.cell? ⟨0, 0, none⟩ = some (.int .i64 m)) (h1 : 1 ≤ old.size) (hlen : s.size + Lib.countB s old * new.size ≤ 140737488355328) :
    Calls Tryz.prog 70 #[.string s, .string old, .string new] w fun e w' =>
      e = .returned (.string ⟨(Lib.replaceAll s.data.toList old.data.toList new.data.toList).toArray⟩) ∧ Below w.heap.size w w' := Any.strings_ReplaceAll Tryz.lays155 Tryz.Builder_Extra_155 s old new m w hs hm h1 hlen
def Tryz.laysM146_ren : Go.Shelf.Ren := ⟨fun | 146 => 35 | 221 => 66 | 268 => 95 | 138 => 96 | 143 => 97 | 195 => 123 | 197 => 124 | 218 => 125 | 219 => 126 | 260 => 160 | 217 => 161 | 225 => 162 | 224 => 163 | 267 => 164 | 266 => 189 | 314 => 190 | n => n, fun | 9 => 9 | 31 => 35 | 3 => 3 | 4 => 4 | 0 => 0 | 105 => 167 | 21 => 21 | 5 => 5 | 46 => 127 | 119 => 218 | 139 => 221 | 138 => 220 | 146 => 211 | 51 => 180 | n => n, fun | 1 => 0 | 3 => 1 | 4 => 2 | n => n⟩
theorem Tryz.laysM146 : Go.Proofs.LaysM.n146 Tryz.prog Tryz.laysM146_ren := {
  mixed := by kernel_rfl
  f138 := Tryz.func96.trans (congrArg some (by kernel_rfl))
  f143 := Tryz.func97.trans (congrArg some (by kernel_rfl))
  f146 := Tryz.func35.trans (congrArg some (by kernel_rfl))
  f195 := Tryz.func123.trans (congrArg some (by kernel_rfl))
  f197 := Tryz.func124.trans (congrArg some (by kernel_rfl))
  f217 := Tryz.func161.trans (congrArg some (by kernel_rfl))
  f218 := Tryz.func125.trans (congrArg some (by kernel_rfl))
  f219 := Tryz.func126.trans (congrArg some (by kernel_rfl))
  f221 := Tryz.func66.trans (congrArg some (by kernel_rfl))
  f224 := Tryz.func163.trans (congrArg some (by kernel_rfl))
  f225 := Tryz.func162.trans (congrArg some (by kernel_rfl))
  f260 := Tryz.func160.trans (congrArg some (by kernel_rfl))
  f266 := Tryz.func189.trans (congrArg some (by kernel_rfl))
  f267 := Tryz.func164.trans (congrArg some (by kernel_rfl))
  f268 := Tryz.func95.trans (congrArg some (by kernel_rfl))
  f314 := Tryz.func190.trans (congrArg some (by kernel_rfl))
  t0 := Tryz.underlying0
  a0 := Tryz.isAgg0
  z0 := Tryz.sizeOf0
  v0 := Tryz.zeroValue0
  t3 := Tryz.underlying3
  a3 := Tryz.isAgg3
  z3 := Tryz.sizeOf3
  v3 := Tryz.zeroValue3
  t4 := Tryz.underlying4
  a4 := Tryz.isAgg4
  z4 := Tryz.sizeOf4
  v4 := Tryz.zeroValue4
  t5 := Tryz.underlying5
  a5 := Tryz.isAgg5
  z5 := Tryz.sizeOf5
  v5 := Tryz.zeroValue5
  t9 := Tryz.underlying9
  a9 := Tryz.isAgg9
  z9 := Tryz.sizeOf9
  v9 := Tryz.zeroValue9
  t21 := Tryz.underlying21
  a21 := Tryz.isAgg21
  z21 := Tryz.sizeOf21
  v21 := Tryz.zeroValue21
  t31 := Tryz.underlying35
  a31 := Tryz.isAgg35
  z31 := Tryz.sizeOf35
  v31 := Tryz.zeroValue35
  t46 := Tryz.underlying127
  a46 := Tryz.isAgg127
  z46 := Tryz.sizeOf127
  v46 := Tryz.zeroValue127
  t51 := Tryz.underlying180
  a51 := Tryz.isAgg180
  z51 := Tryz.sizeOf180
  v51 := Tryz.zeroValue180
  t105 := Tryz.underlying167
  a105 := Tryz.isAgg167
  z105 := Tryz.sizeOf167
  v105 := Tryz.zeroValue167
  t119 := Tryz.underlying218
  a119 := Tryz.isAgg218
  z119 := Tryz.sizeOf218
  t138 := Tryz.underlying220
  a138 := Tryz.isAgg220
  z138 := Tryz.sizeOf220
  v138 := Tryz.zeroValue220
  t139 := Tryz.underlying221
  a139 := Tryz.isAgg221
  z139 := Tryz.sizeOf221
  v139 := Tryz.zeroValue221
  t146 := Tryz.underlying211
  a146 := Tryz.isAgg211
  z146 := Tryz.sizeOf211
  v146 := Tryz.zeroValue211
  g1 := by kernel_rfl
  g3 := by kernel_rfl
  g4 := by kernel_rfl
  i0 := by kernel_rfl
  i3 := by kernel_rfl
  i4 := by kernel_rfl
  i5 := by kernel_rfl
  i9 := by kernel_rfl
  i21 := by kernel_rfl
  i31 := by kernel_rfl
  i46 := by kernel_rfl
  i51 := by kernel_rfl
  i105 := by kernel_rfl
  i138 := by kernel_rfl
  i139 := by kernel_rfl
  i146 := by kernel_rfl
  m1 := by kernel_rfl
  s1_3 := fun w h => Go.Proofs.cell_of_shapedOpen_int (zero := #[.int .i64 0]) (t := 3) h (of_decide_eq_true (by kernel_rfl)) (by kernel_rfl) rfl (by kernel_rfl) (by kernel_rfl) Tryz.underlying3
  m3 := by kernel_rfl
  m4 := by kernel_rfl }
open Go.RowKit Go.Lib in

theorem Tryz.strings_Split_shaped (s sep : ByteArray) (w : World) (h : w.ShapedOpen Tryz.prog) (hs : s.size < 4294967281) (h1 : 1 ≤ sep.size) :
    Calls Tryz.prog 35 #[.string s, .string sep] w fun e w' =>
      e = .returned (.slice (some ⟨w.heap.size, 0, none⟩) (Lib.countB s sep + 1) (Lib.countB s sep + 1)) ∧ w' = w.alloc (.cells ((Lib.splitB sep 0 (Lib.countB s sep) s).map Value.string).toArray 9) := Any.strings_Split_shaped Tryz.laysM146 s sep w h hs h1
def Tryz.laysM154_ren : Go.Shelf.Ren := ⟨fun | 154 => 108 | 138 => 96 | 165 => 119 | 143 => 97 | 166 => 54 | 197 => 124 | 169 => 55 | 195 => 123 | 218 => 125 | 240 => 89 | 241 => 151 | 219 => 126 | 260 => 160 | 276 => 120 | 277 => 185 | 217 => 161 | 225 => 162 | 224 => 163 | 267 => 164 | 266 => 189 | 314 => 190 | n => n, fun | 9 => 9 | 3 => 3 | 4 => 4 | 72 => 90 | 0 => 0 | 76 => 94 | 105 => 167 | 21 => 21 | 5 => 5 | 70 => 88 | 20 => 20 | 37 => 66 | 75 => 93 | 127 => 131 | 164 => 164 | 46 => 127 | 119 => 218 | 139 => 221 | 138 => 220 | 146 => 211 | 51 => 180 | 80 => 43 | n => n, fun | 1 => 0 | 3 => 1 | 4 => 2 | n => n⟩
theorem Tryz.laysM154 : Go.Proofs.LaysM.n154 Tryz.prog Tryz.laysM154_ren := {
  mixed := by kernel_rfl
  f138 := Tryz.func96.trans (congrArg some (by kernel_rfl))
  f143 := Tryz.func97.trans (congrArg some (by kernel_rfl))
  f154 := Tryz.func108.trans (congrArg some (by kernel_rfl))
  f165 := Tryz.func119.trans (congrArg some (by kernel_rfl))
  f166 := Tryz.func54.trans (congrArg some (by kernel_rfl))
  f169 := Tryz.func55.trans (congrArg some (by kernel_rfl))
  f195 := Tryz.func123.trans (congrArg some (by kernel_rfl))
  f197 := Tryz.func124.trans (congrArg some (by kernel_rfl))
  f217 := Tryz.func161.trans (congrArg some (by kernel_rfl))
  f218 := Tryz.func125.trans (congrArg some (by kernel_rfl))
  f219 := Tryz.func126.trans (congrArg some (by kernel_rfl))
  f224 := Tryz.func163.trans (congrArg some (by kernel_rfl))
  f225 := Tryz.func162.trans (congrArg some (by kernel_rfl))
  f240 := Tryz.func89.trans (congrArg some (by kernel_rfl))
  f241 := Tryz.func151.trans (congrArg some (by kernel_rfl))
  f260 := Tryz.func160.trans (congrArg some (by kernel_rfl))
  f266 := Tryz.func189.trans (congrArg some (by kernel_rfl))
  f267 := Tryz.func164.trans (congrArg some (by kernel_rfl))
  f276 := Tryz.func120.trans (congrArg some (by kernel_rfl))
  f277 := Tryz.func185.trans (congrArg some (by kernel_rfl))
  f314 := Tryz.func190.trans (congrArg some (by kernel_rfl))
  t0 := Tryz.underlying0
  a0 := Tryz.isAgg0
  z0 := Tryz.sizeOf0
  v0 := Tryz.zeroValue0
  t3 := Tryz.underlying3
  a3 := Tryz.isAgg3
  z3 := Tryz.sizeOf3
  v3 := Tryz.zeroValue3
  t4 := Tryz.underlying4
  a4 := Tryz.isAgg4
  z4 := Tryz.sizeOf4
  v4 := Tryz.zeroValue4
  t5 := Tryz.underlying5
  a5 := Tryz.isAgg5
  z5 := Tryz.sizeOf5
  v5 := Tryz.zeroValue5
  t9 := Tryz.underlying9
  a9 := Tryz.isAgg9
  z9 := Tryz.sizeOf9
  v9 := Tryz.zeroValue9
  t20 := Tryz.underlying20
  a20 := Tryz.isAgg20
  z20 := Tryz.sizeOf20
  v20 := Tryz.zeroValue20
  t21 := Tryz.underlying21
  a21 := Tryz.isAgg21
  z21 := Tryz.sizeOf21
  v21 := Tryz.zeroValue21
  t37 := Tryz.underlying66
  a37 := Tryz.isAgg66
  z37 := Tryz.sizeOf66
  v37 := Tryz.zeroValue66
  t46 := Tryz.underlying127
  a46 := Tryz.isAgg127
  z46 := Tryz.sizeOf127
  v46 := Tryz.zeroValue127
  t51 := Tryz.underlying180
  a51 := Tryz.isAgg180
  z51 := Tryz.sizeOf180
  v51 := Tryz.zeroValue180
  t70 := Tryz.underlying88
  a70 := Tryz.isAgg88
  z70 := Tryz.sizeOf88
  v70 := Tryz.zeroValue88
  t72 := Tryz.underlying90
  a72 := Tryz.isAgg90
  z72 := Tryz.sizeOf90
  v72 := Tryz.zeroValue90
  t75 := Tryz.underlying93
  a75 := Tryz.isAgg93
  z75 := Tryz.sizeOf93
  v75 := Tryz.zeroValue93
  t76 := Tryz.underlying94
  a76 := Tryz.isAgg94
  z76 := Tryz.sizeOf94
  v76 := Tryz.zeroValue94
  t105 := Tryz.underlying167
  a105 := Tryz.isAgg167
  z105 := Tryz.sizeOf167
  v105 := Tryz.zeroValue167
  t119 := Tryz.underlying218
  a119 := Tryz.isAgg218
  z119 := Tryz.sizeOf218
  t127 := Tryz.underlying131
  a127 := Tryz.isAgg131
  z127 := Tryz.sizeOf131
  v127 := Tryz.zeroValue131
  t138 := Tryz.underlying220
  a138 := Tryz.isAgg220
  z138 := Tryz.sizeOf220
  v138 := Tryz.zeroValue220
  t139 := Tryz.underlying221
  a139 := Tryz.isAgg221
  z139 := Tryz.sizeOf221
  v139 := Tryz.zeroValue221
  t146 := Tryz.underlying211
  a146 := Tryz.isAgg211
  z146 := Tryz.sizeOf211
  v146 := Tryz.zeroValue211
  t164 := Tryz.underlying164
  a164 := Tryz.isAgg164
  z164 := Tryz.sizeOf164
  v164 := Tryz.zeroValue164
  g1 := by kernel_rfl
  g3 := by kernel_rfl
  g4 := by kernel_rfl
  t80 := Tryz.underlying43
  a80 := Tryz.isAgg43
  z80 := Tryz.sizeOf43
  v80 := Tryz.zeroValue43
  i0 := by kernel_rfl
  i3 := by kernel_rfl
  i4 := by kernel_rfl
  i5 := by kernel_rfl
  i9 := by kernel_rfl
  i20 := by kernel_rfl
  i21 := by kernel_rfl
  i37 := by kernel_rfl
  i46 := by kernel_rfl
  i51 := by kernel_rfl
  i70 := by kernel_rfl
  i72 := by kernel_rfl
  i75 := by kernel_rfl
  i76 := by kernel_rfl
  i80 := by kernel_rfl
  i105 := by kernel_rfl
  i127 := by kernel_rfl
  i138 := by kernel_rfl
  i139 := by kernel_rfl
  i146 := by kernel_rfl
  i164 := by kernel_rfl
  m1 := by kernel_rfl
  s1_3 := fun w h => Go.Proofs.cell_of_shapedOpen_int (zero := #[.int .i64 0]) (t := 3) h (of_decide_eq_true (by kernel_rfl)) (by kernel_rfl) rfl (by kernel_rfl) (by kernel_rfl) Tryz.underlying3
  m3 := by kernel_rfl
  m4 := by kernel_rfl }
theorem Tryz.Builder_Extra_M154 : Builder.Extra Tryz.prog Tryz.laysM154_ren := {
  sizeBuilder := by kernel_rfl
  liesBuilder := by kernel_rfl
  t5 := Tryz.underlying5
  a5 := Tryz.isAgg5
  z5 := Tryz.sizeOf5
  v5 := Tryz.zeroValue5
  infoByte := by kernel_rfl
  cellsByte := by kernel_rfl
  sizeByte := by kernel_rfl
  neB5 := by decide }
open Go.RowKit Go.Lib in

theorem Tryz.strings_Replace_shaped (s old new : ByteArray) (n : Int) (w : World) (h : w.ShapedOpen Tryz.prog) (hs : s.size < 4294967281) (h1 : 1 ≤ old.size) (hlen : s.size + Lib.countB s old * new.size ≤ 140737488355328) :
    Calls Tryz.prog 108 #[.string s, .string old, .string new, .int .i64 n] w fun e w' =>
      e = .returned (.string ⟨(Lib.replace s.data.toList old.data.toList new.data.toList n).toArray⟩) ∧ Below w.heap.size w w' := Any.strings_Replace_shaped Tryz.laysM154 Tryz.Builder_Extra_M154 s old new n w h hs h1 hlen
def Tryz.laysM155_ren : Go.Shelf.Ren := ⟨fun | 155 => 70 | 154 => 108 | 138 => 96 | 165 => 119 | 143 => 97 | 166 => 54 | 197 => 124 | 169 => 55 | 195 => 123 | 218 => 125 | 240 => 89 | 241 => 151 | 219 => 126 | 260 => 160 | 276 => 120 | 277 => 185 | 217 => 161 | 225 => 162 | 224 => 163 | 267 => 164 | 266 => 189 | 314 => 190 | n => n, fun | 9 => 9 | 3 => 3 | 4 => 4 | 72 => 90 | 0 => 0 | 76 => 94 | 105 => 167 | 21 => 21 | 5 => 5 | 70 => 88 | 20 => 20 | 37 => 66 | 75 => 93 | 127 => 131 | 164 => 164 | 46 => 127 | 119 => 218 | 139 => 221 | 138 => 220 | 146 => 211 | 51 => 180 | 80 => 43 | n => n, fun | 1 => 0 | 3 => 1 | 4 => 2 | n => n⟩
theorem Tryz.laysM155 : Go.Proofs.LaysM.n155 Tryz.prog Tryz.laysM155_ren := {
  mixed := by kernel_rfl
  f138 := Tryz.func96.trans (congrArg some (by kernel_rfl))
  f143 := Tryz.func97.trans (congrArg some (by kernel_rfl))
  f154 := Tryz.func108.trans (congrArg some (by kernel_rfl))
  f155 := Tryz.func70.trans (congrArg some (by kernel_rfl))
  f165 := Tryz.func119.trans (congrArg some (by kernel_rfl))
  f166 := Tryz.func54.trans (congrArg some (by kernel_rfl))
  f169 := Tryz.func55.trans (congrArg some (by kernel_rfl))
  f195 := Tryz.func123.trans (congrArg some (by kernel_rfl))
  f197 := Tryz.func124.trans (congrArg some (by kernel_rfl))
  f217 := Tryz.func161.trans (congrArg some (by kernel_rfl))
  f218 := Tryz.func125.trans (congrArg some (by kernel_rfl))
  f219 := Tryz.func126.trans (congrArg some (by kernel_rfl))
  f224 := Tryz.func163.trans (congrArg some (by kernel_rfl))
  f225 := Tryz.func162.trans (congrArg some (by kernel_rfl))
  f240 := Tryz.func89.trans (congrArg some (by kernel_rfl))
  f241 := Tryz.func151.trans (congrArg some (by kernel_rfl))
  f260 := Tryz.func160.trans (congrArg some (by kernel_rfl))
  f266 := Tryz.func189.trans (congrArg some (by kernel_rfl))
  f267 := Tryz.func164.trans (congrArg some (by kernel_rfl))
  f276 := Tryz.func120.trans (congrArg some (by kernel_rfl))
  f277 := Tryz.func185.trans (congrArg some (by kernel_rfl))
  f314 := Tryz.func190.trans (congrArg some (by kernel_rfl))
  t0 := Tryz.underlying0
  a0 := Tryz.isAgg0
  z0 := Tryz.sizeOf0
  v0 := Tryz.zeroValue0
  t3 := Tryz.underlying3
  a3 := Tryz.isAgg3
  z3 := Tryz.sizeOf3
  v3 := Tryz.zeroValue3
  t4 := Tryz.underlying4
  a4 := Tryz.isAgg4
  z4 := Tryz.sizeOf4
  v4 := Tryz.zeroValue4
  t5 := Tryz.underlying5
  a5 := Tryz.isAgg5
  z5 := Tryz.sizeOf5
  v5 := Tryz.zeroValue5
  t9 := Tryz.underlying9
  a9 := Tryz.isAgg9
  z9 := Tryz.sizeOf9
  v9 := Tryz.zeroValue9
  t20 := Tryz.underlying20
  a20 := Tryz.isAgg20
  z20 := Tryz.sizeOf20
  v20 := Tryz.zeroValue20
  t21 := Tryz.underlying21
  a21 := Tryz.isAgg21
  z21 := Tryz.sizeOf21
  v21 := Tryz.zeroValue21
  t37 := Tryz.underlying66
  a37 := Tryz.isAgg66
  z37 := Tryz.sizeOf66
  v37 := Tryz.zeroValue66
  t46 := Tryz.underlying127
  a46 := Tryz.isAgg127
  z46 := Tryz.sizeOf127
  v46 := Tryz.zeroValue127
  t51 := Tryz.underlying180
  a51 := Tryz.isAgg180
  z51 := Tryz.sizeOf180
  v51 := Tryz.zeroValue180
  t70 := Tryz.underlying88
  a70 := Tryz.isAgg88
  z70 := Tryz.sizeOf88
  v70 := Tryz.zeroValue88
  t72 := Tryz.underlying90
  a72 := Tryz.isAgg90
  z72 := Tryz.sizeOf90
  v72 := Tryz.zeroValue90
  t75 := Tryz.underlying93
  a75 := Tryz.isAgg93
  z75 := Tryz.sizeOf93
  v75 := Tryz.zeroValue93
  t76 := Tryz.underlying94
  a76 := Tryz.isAgg94
  z76 := Tryz.sizeOf94
  v76 := Tryz.zeroValue94
  t105 := Tryz.underlying167
  a105 := Tryz.isAgg167
  z105 := Tryz.sizeOf167
  v105 := Tryz.zeroValue167
  t119 := Tryz.underlying218
  a119 := Tryz.isAgg218
  z119 := Tryz.sizeOf218
  t127 := Tryz.underlying131
  a127 := Tryz.isAgg131
  z127 := Tryz.sizeOf131
  v127 := Tryz.zeroValue131
  t138 := Tryz.underlying220
  a138 := Tryz.isAgg220
  z138 := Tryz.sizeOf220
  v138 := Tryz.zeroValue220
  t139 := Tryz.underlying221
  a139 := Tryz.isAgg221
  z139 := Tryz.sizeOf221
  v139 := Tryz.zeroValue221
  t146 := Tryz.underlying211
  a146 := Tryz.isAgg211
  z146 := Tryz.sizeOf211
  v146 := Tryz.zeroValue211
  t164 := Tryz.underlying164
  a164 := Tryz.isAgg164
  z164 := Tryz.sizeOf164
  v164 := Tryz.zeroValue164
  g1 := by kernel_rfl
  g3 := by kernel_rfl
  g4 := by kernel_rfl
  t80 := Tryz.underlying43
  a80 := Tryz.isAgg43
  z80 := Tryz.sizeOf43
  v80 := Tryz.zeroValue43
  i0 := by kernel_rfl
  i3 := by kernel_rfl
  i4 := by kernel_rfl
  i5 := by kernel_rfl
  i9 := by kernel_rfl
  i20 := by kernel_rfl
  i21 := by kernel_rfl
  i37 := by kernel_rfl
  i46 := by kernel_rfl
  i51 := by kernel_rfl
  i70 := by kernel_rfl
  i72 := by kernel_rfl
  i75 := by kernel_rfl
  i76 := by kernel_rfl
  i80 := by kernel_rfl
  i105 := by kernel_rfl
  i127 := by kernel_rfl
  i138 := by kernel_rfl
  i139 := by kernel_rfl
  i146 := by kernel_rfl
  i164 := by kernel_rfl
  m1 := by kernel_rfl
  s1_3 := fun w h => Go.Proofs.cell_of_shapedOpen_int (zero := #[.int .i64 0]) (t := 3) h (of_decide_eq_true (by kernel_rfl)) (by kernel_rfl) rfl (by kernel_rfl) (by kernel_rfl) Tryz.underlying3
  m3 := by kernel_rfl
  m4 := by kernel_rfl }
theorem Tryz.Builder_Extra_M155 : Builder.Extra Tryz.prog Tryz.laysM155_ren := {
  sizeBuilder := by kernel_rfl
  liesBuilder := by kernel_rfl
  t5 := Tryz.underlying5
  a5 := Tryz.isAgg5
  z5 := Tryz.sizeOf5
  v5 := Tryz.zeroValue5
  infoByte := by kernel_rfl
  cellsByte := by kernel_rfl
  sizeByte := by kernel_rfl
  neB5 := by decide }
open Go.RowKit Go.Lib in

theorem Tryz.strings_ReplaceAll_shaped (s old new : ByteArray) (w : World) (h : w.ShapedOpen Tryz.prog) (hs : s.size < 4294967281) (h1 : 1 ≤ old.size) (hlen : s.size + Lib.countB s old * new.size ≤ 140737488355328) :
    Calls Tryz.prog 70 #[.string s, .string old, .string new] w fun e w' =>
      e = .returned (.string ⟨(Lib.replaceAll s.data.toList old.data.toList new.data.toList).toArray⟩) ∧ Below w.heap.size w w' := Any.strings_ReplaceAll_shaped Tryz.laysM155 Tryz.Builder_Extra_M155 s old new w h hs h1 hlen
def Tryz.lays203_ren : Go.Shelf.Ren := ⟨fun | 203 => 146 | 262 => 177 | 313 => 197 | 274 => 206 | 275 => 207 | n => n, fun | 21 => 21 | 4 => 4 | 3 => 3 | 162 => 231 | 203 => 229 | 160 => 238 | 46 => 127 | 0 => 0 | 208 => 250 | 51 => 180 | 206 => 248 | n => n, fun | 13 => 3 | n => n⟩
theorem Tryz.lays203 : Go.Proofs.Lays.n203 Tryz.prog Tryz.lays203_ren := {
  mixed := by kernel_rfl
  f203 := Tryz.func146.trans (congrArg some (by kernel_rfl))
  f262 := Tryz.func177.trans (congrArg some (by kernel_rfl))
  f274 := Tryz.func206.trans (congrArg some (by kernel_rfl))
  f275 := Tryz.func207.trans (congrArg some (by kernel_rfl))
  f313 := Tryz.func197.trans (congrArg some (by kernel_rfl))
  t0 := Tryz.underlying0
  a0 := Tryz.isAgg0
  z0 := Tryz.sizeOf0
  v0 := Tryz.zeroValue0
  t3 := Tryz.underlying3
  a3 := Tryz.isAgg3
  z3 := Tryz.sizeOf3
  v3 := Tryz.zeroValue3
  t4 := Tryz.underlying4
  a4 := Tryz.isAgg4
  z4 := Tryz.sizeOf4
  v4 := Tryz.zeroValue4
  t21 := Tryz.underlying21
  a21 := Tryz.isAgg21
  z21 := Tryz.sizeOf21
  v21 := Tryz.zeroValue21
  t46 := Tryz.underlying127
  a46 := Tryz.isAgg127
  z46 := Tryz.sizeOf127
  v46 := Tryz.zeroValue127
  t51 := Tryz.underlying180
  a51 := Tryz.isAgg180
  z51 := Tryz.sizeOf180
  v51 := Tryz.zeroValue180
  t160 := Tryz.underlying238
  a160 := Tryz.isAgg238
  z160 := Tryz.sizeOf238
  v160 := Tryz.zeroValue238
  t162 := Tryz.underlying231
  a162 := Tryz.isAgg231
  z162 := Tryz.sizeOf231
  v162 := Tryz.zeroValue231
  t203 := Tryz.underlying229
  a203 := Tryz.isAgg229
  z203 := Tryz.sizeOf229
  v203 := Tryz.zeroValue229
  t206 := Tryz.underlying248
  a206 := Tryz.isAgg248
  z206 := Tryz.sizeOf248
  v206 := Tryz.zeroValue248
  t208 := Tryz.underlying250
  a208 := Tryz.isAgg250
  z208 := Tryz.sizeOf250
  v208 := Tryz.zeroValue250
  g13 := by kernel_rfl }
open Go.RowKit Go.Lib in
theorem Tryz.unicode_ToUpper (r : Int) (w : World) (h : r ≤ 127) :
    Calls Tryz.prog 146 #[.int .i32 r] w fun e w' => e = .returned (.int .i32 (Lib.toUpperR r)) ∧ w' = w := Any.unicode_ToUpper Tryz.lays203 r w h
def Tryz.lays152_ren : Go.Shelf.Ren := ⟨fun | 152 => 165 | 137 => 191 | 119 => 192 | 224 => 163 | 225 => 162 | 217 => 161 | 266 => 189 | n => n, fun | 9 => 9 | 21 => 21 | 3 => 3 | 4 => 4 | 5 => 5 | 0 => 0 | 46 => 127 | n => n, fun | n => n⟩
theorem Tryz.lays152 : Go.Proofs.Lays.n152 Tryz.prog Tryz.lays152_ren := {
  mixed := by kernel_rfl
  f119 := Tryz.func192.trans (congrArg some (by kernel_rfl))
  f137 := Tryz.func191.trans (congrArg some (by kernel_rfl))
  f152 := Tryz.func165.trans (congrArg some (by kernel_rfl))
  f217 := Tryz.func161.trans (congrArg some (by kernel_rfl))
  f224 := Tryz.func163.trans (congrArg some (by kernel_rfl))
  f225 := Tryz.func162.trans (congrArg some (by kernel_rfl))
  f266 := Tryz.func189.trans (congrArg some (by kernel_rfl))
  t0 := Tryz.underlying0
  a0 := Tryz.isAgg0
  z0 := Tryz.sizeOf0
  v0 := Tryz.zeroValue0
  t3 := Tryz.underlying3
  a3 := Tryz.isAgg3
  z3 := Tryz.sizeOf3
  v3 := Tryz.zeroValue3
  t4 := Tryz.underlying4
  a4 := Tryz.isAgg4
  z4 := Tryz.sizeOf4
  v4 := Tryz.zeroValue4
  t5 := Tryz.underlying5
  a5 := Tryz.isAgg5
  z5 := Tryz.sizeOf5
  v5 := Tryz.zeroValue5
  t9 := Tryz.underlying9
  a9 := Tryz.isAgg9
  z9 := Tryz.sizeOf9
  v9 := Tryz.zeroValue9
  t21 := Tryz.underlying21
  a21 := Tryz.isAgg21
  z21 := Tryz.sizeOf21
  v21 := Tryz.zeroValue21
  t46 := Tryz.underlying127
  a46 := Tryz.isAgg127
  z46 := Tryz.sizeOf127
  v46 := Tryz.zeroValue127 }
open Go.RowKit Go.Lib in
theorem Tryz.strings_IndexRune_ascii (s : ByteArray) (r : Int) (w : World) (h0 : 0 ≤ r) (h1 : r < 128) :
    Calls Tryz.prog 165 #[.string s, .int .i32 r] w fun e w' => e = .returned (.int .i64 (Lib.indexByte s.data.toList r.toNat.toUInt8)) ∧ w' = w := Any.strings_IndexRune_ascii Tryz.lays152 s r w h0 h1
def Tryz.lays151_ren : Go.Shelf.Ren := ⟨fun | 151 => 128 | 152 => 165 | 137 => 191 | 119 => 192 | 224 => 163 | 225 => 162 | 217 => 161 | 266 => 189 | n => n, fun | 9 => 9 | 21 => 21 | 4 => 4 | 3 => 3 | 5 => 5 | 0 => 0 | 46 => 127 | n => n, fun | n => n⟩
theorem Tryz.lays151 : Go.Proofs.Lays.n151 Tryz.prog Tryz.lays151_ren := {
  mixed := by kernel_rfl
  f119 := Tryz.func192.trans (congrArg some (by kernel_rfl))
  f137 := Tryz.func191.trans (congrArg some (by kernel_rfl))
  f151 := Tryz.func128.trans (congrArg some (by kernel_rfl))
  f152 := Tryz.func165.trans (congrArg some (by kernel_rfl))
  f217 := Tryz.func161.trans (congrArg some (by kernel_rfl))
  f224 := Tryz.func163.trans (congrArg some (by kernel_rfl))
  f225 := Tryz.func162.trans (congrArg some (by kernel_rfl))
  f266 := Tryz.func189.trans (congrArg some (by kernel_rfl))
  t0 := Tryz.underlying0
  a0 := Tryz.isAgg0
  z0 := Tryz.sizeOf0
  v0 := Tryz.zeroValue0
  t3 := Tryz.underlying3
  a3 := Tryz.isAgg3
  z3 := Tryz.sizeOf3
  v3 := Tryz.zeroValue3
  t4 := Tryz.underlying4
  a4 := Tryz.isAgg4
  z4 := Tryz.sizeOf4
  v4 := Tryz.zeroValue4
  t5 := Tryz.underlying5
  a5 := Tryz.isAgg5
  z5 := Tryz.sizeOf5
  v5 := Tryz.zeroValue5
  t9 := Tryz.underlying9
  a9 := Tryz.isAgg9
  z9 := Tryz.sizeOf9
  v9 := Tryz.zeroValue9
  t21 := Tryz.underlying21
  a21 := Tryz.isAgg21
  z21 := Tryz.sizeOf21
  v21 := Tryz.zeroValue21
  t46 := Tryz.underlying127
  a46 := Tryz.isAgg127
  z46 := Tryz.sizeOf127
  v46 := Tryz.zeroValue127 }
open Go.RowKit Go.Lib in
theorem Tryz.strings_ContainsRune_ascii (s : ByteArray) (r : Int) (w : World) (h0 : 0 ≤ r) (h1 : r < 128) :
    Calls Tryz.prog 128 #[.string s, .int .i32 r] w fun e w' => e = .returned (.bool (decide (0 ≤ Lib.indexByte s.data.toList r.toNat.toUInt8))) ∧ w' = w := Any.strings_ContainsRune_ascii Tryz.lays151 s r w h0 h1
def Tryz.lays227_ren : Go.Shelf.Ren := ⟨fun | 227 => 101 | n => n, fun | 9 => 9 | 116 => 140 | 4 => 4 | 0 => 0 | 3 => 3 | 5 => 5 | n => n, fun | n => n⟩
theorem Tryz.lays227 : Go.Proofs.Lays.n227 Tryz.prog Tryz.lays227_ren := {
  mixed := by kernel_rfl
  f227 := Tryz.func101.trans (congrArg some (by kernel_rfl))
  t0 := Tryz.underlying0
  a0 := Tryz.isAgg0
  z0 := Tryz.sizeOf0
  v0 := Tryz.zeroValue0
  t3 := Tryz.underlying3
  a3 := Tryz.isAgg3
  z3 := Tryz.sizeOf3
  v3 := Tryz.zeroValue3
  t4 := Tryz.underlying4
  a4 := Tryz.isAgg4
  z4 := Tryz.sizeOf4
  v4 := Tryz.zeroValue4
  t5 := Tryz.underlying5
  a5 := Tryz.isAgg5
  z5 := Tryz.sizeOf5
  v5 := Tryz.zeroValue5
  t9 := Tryz.underlying9
  a9 := Tryz.isAgg9
  z9 := Tryz.sizeOf9
  v9 := Tryz.zeroValue9
  t116 := Tryz.underlying140
  a116 := Tryz.isAgg140
  z116 := Tryz.sizeOf140 }
open Go.RowKit Go.Lib in
theorem Tryz.strings_makeASCIISet (hv116 : ∀ w, (zeroValue 140).run Tryz.prog w = .ok (.agg (Array.replicate 256 (.bool false))) w) (chars : ByteArray) (w : World) (hs : chars.size < 4294967281) (hascii : ∀ (j : Nat) b, chars.data.toList[j]? = some b → b.toNat < 128) :
    Calls Tryz.prog 101 #[.string chars] w fun e w' => e = .returned (.tuple #[.agg (Lib.setCells chars.data.toList), .bool true]) ∧ w' = w.alloc (.cells (Lib.setCells chars.data.toList) 140) := Any.strings_makeASCIISet Tryz.lays227 hv116 (by kernel_rfl) chars w hs hascii
def Tryz.lays228_ren : Go.Shelf.Ren := ⟨fun | 228 => 127 | n => n, fun | 124 => 144 | 5 => 5 | 4 => 4 | 0 => 0 | 116 => 140 | n => n, fun | n => n⟩
theorem Tryz.lays228 : Go.Proofs.Lays.n228 Tryz.prog Tryz.lays228_ren := {
  mixed := by kernel_rfl
  f228 := Tryz.func127.trans (congrArg some (by kernel_rfl))
  t0 := Tryz.underlying0
  a0 := Tryz.isAgg0
  z0 := Tryz.sizeOf0
  v0 := Tryz.zeroValue0
  t4 := Tryz.underlying4
  a4 := Tryz.isAgg4
  z4 := Tryz.sizeOf4
  v4 := Tryz.zeroValue4
  t5 := Tryz.underlying5
  a5 := Tryz.isAgg5
  z5 := Tryz.sizeOf5
  v5 := Tryz.zeroValue5
  t116 := Tryz.underlying140
  a116 := Tryz.isAgg140
  z116 := Tryz.sizeOf140
  t124 := Tryz.underlying144
  a124 := Tryz.isAgg144
  z124 := Tryz.sizeOf144
  v124 := Tryz.zeroValue144 }
open Go.RowKit Go.Lib in

theorem Tryz.asciiSet_contains (b : Nat) (x : UInt8) (v : Bool) (w : World) (hc : w.cell? ⟨b, x.toNat, none⟩ = some (.bool v)) :
    Calls Tryz.prog 127 #[.pointer (some ⟨b, 0, none⟩), .int .u8 x.toNat] w fun e w' => e = .returned (.bool v) ∧ w' = w := Any.asciiSet_contains Tryz.lays228 b x v w hc
def Tryz.lays264_ren : Go.Shelf.Ren := ⟨fun | 264 => 183 | n => n, fun | 53 => 182 | 46 => 127 | n => n, fun | n => n⟩
theorem Tryz.lays264 : Go.Proofs.Lays.n264 Tryz.prog Tryz.lays264_ren := {
  mixed := by kernel_rfl
  f264 := Tryz.func183.trans (congrArg some (by kernel_rfl))
  t46 := Tryz.underlying127
  a46 := Tryz.isAgg127
  z46 := Tryz.sizeOf127
  v46 := Tryz.zeroValue127
  t53 := Tryz.underlying182
  a53 := Tryz.isAgg182
  z53 := Tryz.sizeOf182
  v53 := Tryz.zeroValue182 }
open Go.RowKit Go.Lib in
theorem Tryz.bits_Mul64 (x y : Nat) (hx : x < 18446744073709551616) (hy : y < 18446744073709551616) (w : World) :
    Calls Tryz.prog 183 #[.int .u64 x, .int .u64 y] w fun e w' => e = .returned (.tuple #[.int .u64 ((x * y / 18446744073709551616 : Nat) : Int), .int .u64 ((x * y % 18446744073709551616 : Nat) : Int)]) ∧ w' = w := Any.bits_Mul64 Tryz.lays264 x y hx hy w
def Tryz.lays212_ren : Go.Shelf.Ren := ⟨fun | 212 => 148 | 263 => 182 | 264 => 183 | n => n, fun | 46 => 127 | 51 => 180 | 146 => 211 | 53 => 182 | 148 => 213 | n => n, fun | n => n⟩
theorem Tryz.lays212 : Go.Proofs.Lays.n212 Tryz.prog Tryz.lays212_ren := {
  mixed := by kernel_rfl
  f212 := Tryz.func148.trans (congrArg some (by kernel_rfl))
  f263 := Tryz.func182.trans (congrArg some (by kernel_rfl))
  f264 := Tryz.func183.trans (congrArg some (by kernel_rfl))
  t46 := Tryz.underlying127
  a46 := Tryz.isAgg127
  z46 := Tryz.sizeOf127
  v46 := Tryz.zeroValue127
  t51 := Tryz.underlying180
  a51 := Tryz.isAgg180
  z51 := Tryz.sizeOf180
  v51 := Tryz.zeroValue180
  t53 := Tryz.underlying182
  a53 := Tryz.isAgg182
  z53 := Tryz.sizeOf182
  v53 := Tryz.zeroValue182
  t146 := Tryz.underlying211
  a146 := Tryz.isAgg211
  z146 := Tryz.sizeOf211
  v146 := Tryz.zeroValue211
  t148 := Tryz.underlying213
  a148 := Tryz.isAgg213
  z148 := Tryz.sizeOf213
  v148 := Tryz.zeroValue213 }
open Go.RowKit Go.Lib in

theorem Tryz.bits_Mul (x y : Nat) (hx : x < 18446744073709551616) (hy : y < 18446744073709551616) (w : World) :
    Calls Tryz.prog 148 #[.int .u64 x, .int .u64 y] w fun e w' => e = .returned (.tuple #[.int .u64 ((x * y / 18446744073709551616 : Nat) : Int), .int .u64 ((x * y % 18446744073709551616 : Nat) : Int)]) ∧ w' = w := Any.bits_Mul Tryz.lays212 x y hx hy w
def Tryz.lays260_ren : Go.Shelf.Ren := ⟨fun | 260 => 160 | n => n, fun | 9 => 9 | 21 => 21 | 3 => 3 | 4 => 4 | 5 => 5 | 119 => 218 | 0 => 0 | 46 => 127 | 139 => 221 | 138 => 220 | n => n, fun | 3 => 1 | 4 => 2 | n => n⟩
theorem Tryz.lays260 : Go.Proofs.Lays.n260 Tryz.prog Tryz.lays260_ren := {
  mixed := by kernel_rfl
  f260 := Tryz.func160.trans (congrArg some (by kernel_rfl))
  t0 := Tryz.underlying0
  a0 := Tryz.isAgg0
  z0 := Tryz.sizeOf0
  v0 := Tryz.zeroValue0
  t3 := Tryz.underlying3
  a3 := Tryz.isAgg3
  z3 := Tryz.sizeOf3
  v3 := Tryz.zeroValue3
  t4 := Tryz.underlying4
  a4 := Tryz.isAgg4
  z4 := Tryz.sizeOf4
  v4 := Tryz.zeroValue4
  t5 := Tryz.underlying5
  a5 := Tryz.isAgg5
  z5 := Tryz.sizeOf5
  v5 := Tryz.zeroValue5
  t9 := Tryz.underlying9
  a9 := Tryz.isAgg9
  z9 := Tryz.sizeOf9
  v9 := Tryz.zeroValue9
  t21 := Tryz.underlying21
  a21 := Tryz.isAgg21
  z21 := Tryz.sizeOf21
  v21 := Tryz.zeroValue21
  t46 := Tryz.underlying127
  a46 := Tryz.isAgg127
  z46 := Tryz.sizeOf127
  v46 := Tryz.zeroValue127
  t119 := Tryz.underlying218
  a119 := Tryz.isAgg218
  z119 := Tryz.sizeOf218
  t138 := Tryz.underlying220
  a138 := Tryz.isAgg220
  z138 := Tryz.sizeOf220
  v138 := Tryz.zeroValue220
  t139 := Tryz.underlying221
  a139 := Tryz.isAgg221
  z139 := Tryz.sizeOf221
  v139 := Tryz.zeroValue221
  g3 := by kernel_rfl
  g4 := by kernel_rfl }
open Go.RowKit Go.Lib in
theorem Tryz.utf8_decodeRuneInStringSlow (s : ByteArray) (w : World) (hT : Lib.Utf8Tabs 1 2 w) :
    Calls Tryz.prog 160 #[.string s] w fun e w' => e = .returned (.tuple #[.int .i32 (Lib.decodeGo s).1, .int .i64 (Lib.decodeGo s).2]) ∧ Below w.heap.size w w' := Any.utf8_decodeRuneInStringSlow Tryz.lays260 s w hT
def Tryz.lays197_ren : Go.Shelf.Ren := ⟨fun | 197 => 124 | 260 => 160 | n => n, fun | 9 => 9 | 21 => 21 | 3 => 3 | 4 => 4 | 5 => 5 | 105 => 167 | 119 => 218 | 0 => 0 | 46 => 127 | 139 => 221 | 138 => 220 | n => n, fun | 3 => 1 | 4 => 2 | n => n⟩
theorem Tryz.lays197 : Go.Proofs.Lays.n197 Tryz.prog Tryz.lays197_ren := {
  mixed := by kernel_rfl
  f197 := Tryz.func124.trans (congrArg some (by kernel_rfl))
  f260 := Tryz.func160.trans (congrArg some (by kernel_rfl))
  t0 := Tryz.underlying0
  a0 := Tryz.isAgg0
  z0 := Tryz.sizeOf0
  v0 := Tryz.zeroValue0
  t3 := Tryz.underlying3
  a3 := Tryz.isAgg3
  z3 := Tryz.sizeOf3
  v3 := Tryz.zeroValue3
  t4 := Tryz.underlying4
  a4 := Tryz.isAgg4
  z4 := Tryz.sizeOf4
  v4 := Tryz.zeroValue4
  t5 := Tryz.underlying5
  a5 := Tryz.isAgg5
  z5 := Tryz.sizeOf5
  v5 := Tryz.zeroValue5
  t9 := Tryz.underlying9
  a9 := Tryz.isAgg9
  z9 := Tryz.sizeOf9
  v9 := Tryz.zeroValue9
  t21 := Tryz.underlying21
  a21 := Tryz.isAgg21
  z21 := Tryz.sizeOf21
  v21 := Tryz.zeroValue21
  t46 := Tryz.underlying127
  a46 := Tryz.isAgg127
  z46 := Tryz.sizeOf127
  v46 := Tryz.zeroValue127
  t105 := Tryz.underlying167
  a105 := Tryz.isAgg167
  z105 := Tryz.sizeOf167
  v105 := Tryz.zeroValue167
  t119 := Tryz.underlying218
  a119 := Tryz.isAgg218
  z119 := Tryz.sizeOf218
  t138 := Tryz.underlying220
  a138 := Tryz.isAgg220
  z138 := Tryz.sizeOf220
  v138 := Tryz.zeroValue220
  t139 := Tryz.underlying221
  a139 := Tryz.isAgg221
  z139 := Tryz.sizeOf221
  v139 := Tryz.zeroValue221
  g3 := by kernel_rfl
  g4 := by kernel_rfl }
open Go.RowKit Go.Lib in

theorem Tryz.utf8_DecodeRuneInString (s : ByteArray) (w : World) (hT : Lib.Utf8Tabs 1 2 w) :
    Calls Tryz.prog 124 #[.string s] w fun e w' => e = .returned (.tuple #[.int .i32 (Lib.decodeGo s).1, .int .i64 (Lib.decodeGo s).2]) ∧ Below w.heap.size w w' := Any.utf8_DecodeRuneInString Tryz.lays197 s w hT
def Tryz.lays274_ren : Go.Shelf.Ren := ⟨fun | 274 => 206 | n => n, fun | 21 => 21 | 162 => 231 | 160 => 238 | 3 => 3 | 4 => 4 | 46 => 127 | 0 => 0 | 208 => 250 | 51 => 180 | 206 => 248 | n => n, fun | n => n⟩
theorem Tryz.lays274 : Go.Proofs.Lays.n274 Tryz.prog Tryz.lays274_ren := {
  mixed := by kernel_rfl
  f274 := Tryz.func206.trans (congrArg some (by kernel_rfl))
  t0 := Tryz.underlying0
  a0 := Tryz.isAgg0
  z0 := Tryz.sizeOf0
  v0 := Tryz.zeroValue0
  t3 := Tryz.underlying3
  a3 := Tryz.isAgg3
  z3 := Tryz.sizeOf3
  v3 := Tryz.zeroValue3
  t4 := Tryz.underlying4
  a4 := Tryz.isAgg4
  z4 := Tryz.sizeOf4
  v4 := Tryz.zeroValue4
  t21 := Tryz.underlying21
  a21 := Tryz.isAgg21
  z21 := Tryz.sizeOf21
  v21 := Tryz.zeroValue21
  t46 := Tryz.underlying127
  a46 := Tryz.isAgg127
  z46 := Tryz.sizeOf127
  v46 := Tryz.zeroValue127
  t51 := Tryz.underlying180
  a51 := Tryz.isAgg180
  z51 := Tryz.sizeOf180
  v51 := Tryz.zeroValue180
  t160 := Tryz.underlying238
  a160 := Tryz.isAgg238
  z160 := Tryz.sizeOf238
  v160 := Tryz.zeroValue238
  t162 := Tryz.underlying231
  a162 := Tryz.isAgg231
  z162 := Tryz.sizeOf231
  v162 := Tryz.zeroValue231
  t208 := Tryz.underlying250
  a208 := Tryz.isAgg250
  z208 := Tryz.sizeOf250
  v208 := Tryz.zeroValue250 }
open Go.RowKit Go.Lib in
theorem Tryz.unicode_lookupCaseRange (T : Array CaseRow) (R oR cap : Nat) (r : Int) (w : World) (hT : CaseTab R oR T w) (hok : CaseOk T) (hn : T.size ≤ 1000000000) :
    Calls Tryz.prog 206 #[.int .i32 r, .slice (some ⟨R, oR, none⟩) T.size cap] w fun e w' =>
      e = .returned (match lookupIdx T r (T.size + 1) 0 T.size with | some i => .pointer (some ⟨R, oR + i * 5, none⟩) | none => .pointer none) ∧ w' = w := Any.unicode_lookupCaseRange Tryz.lays274 T R oR cap r w hT hok hn
def Tryz.lays275_ren : Go.Shelf.Ren := ⟨fun | 275 => 207 | n => n, fun | 3 => 3 | 21 => 21 | 160 => 238 | 0 => 0 | 208 => 250 | 206 => 248 | 4 => 4 | 51 => 180 | n => n, fun | n => n⟩
theorem Tryz.lays275 : Go.Proofs.Lays.n275 Tryz.prog Tryz.lays275_ren := {
  mixed := by kernel_rfl
  f275 := Tryz.func207.trans (congrArg some (by kernel_rfl))
  t0 := Tryz.underlying0
  a0 := Tryz.isAgg0
  z0 := Tryz.sizeOf0
  v0 := Tryz.zeroValue0
  t3 := Tryz.underlying3
  a3 := Tryz.isAgg3
  z3 := Tryz.sizeOf3
  v3 := Tryz.zeroValue3
  t4 := Tryz.underlying4
  a4 := Tryz.isAgg4
  z4 := Tryz.sizeOf4
  v4 := Tryz.zeroValue4
  t21 := Tryz.underlying21
  a21 := Tryz.isAgg21
  z21 := Tryz.sizeOf21
  v21 := Tryz.zeroValue21
  t51 := Tryz.underlying180
  a51 := Tryz.isAgg180
  z51 := Tryz.sizeOf180
  v51 := Tryz.zeroValue180
  t160 := Tryz.underlying238
  a160 := Tryz.isAgg238
  z160 := Tryz.sizeOf238
  v160 := Tryz.zeroValue238
  t206 := Tryz.underlying248
  a206 := Tryz.isAgg248
  z206 := Tryz.sizeOf248
  v206 := Tryz.zeroValue248
  t208 := Tryz.underlying250
  a208 := Tryz.isAgg250
  z208 := Tryz.sizeOf250
  v208 := Tryz.zeroValue250 }
open Go.RowKit Go.Lib in
theorem Tryz.unicode_convertCase (c : Nat) (hc : c < 3) (r : Int) (A o : Nat) (x : CaseRow) (w : World) (hlo : (x.1 : Int) ≤ r) (hhi : r ≤ (x.2.1 : Int)) (hH : x.2.1 < 2147483647) (c0 : w.cell? ⟨A, o, none⟩ = some (.int .u32 x.1)) (cD : w.cell? ⟨A, o + 2 + c, none⟩ = some (.int .i32 (x.delta c))) :
    Calls Tryz.prog 207 #[.int .i64 c, .int .i32 r, .pointer (some ⟨A, o, none⟩)] w fun e w' => e = .returned (.int .i32 (wrap32 (convertR c r x))) ∧ ∃ q, w' = w.drewN q := Any.unicode_convertCase Tryz.lays275 c hc r A o x w hlo hhi hH c0 cD
def Tryz.lays313_ren : Go.Shelf.Ren := ⟨fun | 313 => 197 | 274 => 206 | 275 => 207 | n => n, fun | 3 => 3 | 21 => 21 | 162 => 231 | 4 => 4 | 160 => 238 | 46 => 127 | 0 => 0 | 208 => 250 | 51 => 180 | 206 => 248 | n => n, fun | n => n⟩
theorem Tryz.lays313 : Go.Proofs.Lays.n313 Tryz.prog Tryz.lays313_ren := {
  mixed := by kernel_rfl
  f274 := Tryz.func206.trans (congrArg some (by kernel_rfl))
  f275 := Tryz.func207.trans (congrArg some (by kernel_rfl))
  f313 := Tryz.func197.trans (congrArg some (by kernel_rfl))
  t0 := Tryz.underlying0
  a0 := Tryz.isAgg0
  z0 := Tryz.sizeOf0
  v0 := Tryz.zeroValue0
  t3 := Tryz.underlying3
  a3 := Tryz.isAgg3
  z3 := Tryz.sizeOf3
  v3 := Tryz.zeroValue3
  t4 := Tryz.underlying4
  a4 := Tryz.isAgg4
  z4 := Tryz.sizeOf4
  v4 := Tryz.zeroValue4
  t21 := Tryz.underlying21
  a21 := Tryz.isAgg21
  z21 := Tryz.sizeOf21
  v21 := Tryz.zeroValue21
  t46 := Tryz.underlying127
  a46 := Tryz.isAgg127
  z46 := Tryz.sizeOf127
  v46 := Tryz.zeroValue127
  t51 := Tryz.underlying180
  a51 := Tryz.isAgg180
  z51 := Tryz.sizeOf180
  v51 := Tryz.zeroValue180
  t160 := Tryz.underlying238
  a160 := Tryz.isAgg238
  z160 := Tryz.sizeOf238
  v160 := Tryz.zeroValue238
  t162 := Tryz.underlying231
  a162 := Tryz.isAgg231
  z162 := Tryz.sizeOf231
  v162 := Tryz.zeroValue231
  t206 := Tryz.underlying248
  a206 := Tryz.isAgg248
  z206 := Tryz.sizeOf248
  v206 := Tryz.zeroValue248
  t208 := Tryz.underlying250
  a208 := Tryz.isAgg250
  z208 := Tryz.sizeOf250
  v208 := Tryz.zeroValue250 }
open Go.RowKit Go.Lib in
theorem Tryz.unicode_to (c : Nat) (hc : c < 3) (r : Int) (T : Array CaseRow) (R oR cap : Nat) (w : World) (hT : CaseTab R oR T w) (hok : CaseOk2 T) (hn : T.size ≤ 1000000000) :
    Calls Tryz.prog 197 #[.int .i64 c, .int .i32 r, .slice (some ⟨R, oR, none⟩) T.size cap] w fun e w' => e = .returned (.tuple #[.int .i32 (toW T c r), .bool (lookupIdx T r (T.size + 1) 0 T.size).isSome]) ∧ ∃ q, w' = w.drewN q := Any.unicode_to Tryz.lays313 c hc r T R oR cap w hT hok hn
def Tryz.lays262_ren : Go.Shelf.Ren := ⟨fun | 262 => 177 | 313 => 197 | 274 => 206 | 275 => 207 | n => n, fun | 3 => 3 | 21 => 21 | 162 => 231 | 203 => 229 | 4 => 4 | 160 => 238 | 46 => 127 | 0 => 0 | 208 => 250 | 51 => 180 | 206 => 248 | n => n, fun | 13 => 3 | n => n⟩
theorem Tryz.lays262 : Go.Proofs.Lays.n262 Tryz.prog Tryz.lays262_ren := {
  mixed := by kernel_rfl
  f262 := Tryz.func177.trans (congrArg some (by kernel_rfl))
  f274 := Tryz.func206.trans (congrArg some (by kernel_rfl))
  f275 := Tryz.func207.trans (congrArg some (by kernel_rfl))
  f313 := Tryz.func197.trans (congrArg some (by kernel_rfl))
  t0 := Tryz.underlying0
  a0 := Tryz.isAgg0
  z0 := Tryz.sizeOf0
  v0 := Tryz.zeroValue0
  t3 := Tryz.underlying3
  a3 := Tryz.isAgg3
  z3 := Tryz.sizeOf3
  v3 := Tryz.zeroValue3
  t4 := Tryz.underlying4
  a4 := Tryz.isAgg4
  z4 := Tryz.sizeOf4
  v4 := Tryz.zeroValue4
  t21 := Tryz.underlying21
  a21 := Tryz.isAgg21
  z21 := Tryz.sizeOf21
  v21 := Tryz.zeroValue21
  t46 := Tryz.underlying127
  a46 := Tryz.isAgg127
  z46 := Tryz.sizeOf127
  v46 := Tryz.zeroValue127
  t51 := Tryz.underlying180
  a51 := Tryz.isAgg180
  z51 := Tryz.sizeOf180
  v51 := Tryz.zeroValue180
  t160 := Tryz.underlying238
  a160 := Tryz.isAgg238
  z160 := Tryz.sizeOf238
  v160 := Tryz.zeroValue238
  t162 := Tryz.underlying231
  a162 := Tryz.isAgg231
  z162 := Tryz.sizeOf231
  v162 := Tryz.zeroValue231
  t203 := Tryz.underlying229
  a203 := Tryz.isAgg229
  z203 := Tryz.sizeOf229
  v203 := Tryz.zeroValue229
  t206 := Tryz.underlying248
  a206 := Tryz.isAgg248
  z206 := Tryz.sizeOf248
  v206 := Tryz.zeroValue248
  t208 := Tryz.underlying250
  a208 := Tryz.isAgg250
  z208 := Tryz.sizeOf250
  v208 := Tryz.zeroValue250
  g13 := by kernel_rfl }
open Go.RowKit Go.Lib in
theorem Tryz.unicode_To (c : Nat) (hc : c < 3) (r : Int) (T : Array CaseRow) (w : World) (hV : CaseVar 3 T w) (hok : CaseOk2 T) (hn : T.size ≤ 1000000000) :
    Calls Tryz.prog 177 #[.int .i64 c, .int .i32 r] w fun e w' => e = .returned (.int .i32 (toW T c r)) ∧ ∃ q, w' = w.drewN q := Any.unicode_To Tryz.lays262 c hc r T w hV hok hn
open Go.RowKit Go.Lib in
theorem Tryz.unicode_ToUpper_any (r : Int) (T : Array CaseRow) (w : World) (hV : CaseVar 3 T w) (hok : CaseOk2 T) (hn : T.size ≤ 1000000000) :
    Calls Tryz.prog 146 #[.int .i32 r] w fun e w' => e = .returned (.int .i32 (Lib.toUpperW T r)) ∧ ∃ q, w' = w.drewN q := Any.unicode_ToUpper_any Tryz.lays203 r T w hV hok hn
open Go.RowKit Go.Lib in
theorem Tryz.unicode_ToUpper_laid (r : Int) (w : World) (hV : CaseVar 3 caseA w) :
    Calls Tryz.prog 146 #[.int .i32 r] w fun e w' => e = .returned (.int .i32 (toUpperU r)) ∧ ∃ q, w' = w.drewN q := Any.unicode_ToUpper_laid Tryz.lays203 r w hV
def Tryz.sortR_ren : Go.Shelf.Ren := ⟨fun | 6 => 93 | 15 => 111 | 14 => 122 | 28 => 140 | 29 => 141 | 20 => 152 | 21 => 153 | 22 => 154 | 23 => 155 | 24 => 156 | 25 => 157 | 26 => 158 | 27 => 159 | 46 => 186 | 47 => 170 | 48 => 171 | 49 => 187 | 50 => 188 | 57 => 202 | n => n, fun | 22 => 37 | 24 => 80 | 25 => 135 | 3 => 3 | 39 => 127 | 0 => 0 | 53 => 180 | 55 => 182 | 4 => 4 | 46 => 174 | 45 => 173 | 50 => 62 | 5 => 5 | 9 => 9 | 66 => 198 | 70 => 202 | 76 => 225 | 77 => 226 | n => n, fun | n => n⟩
theorem Tryz.sortR : Go.Proofs.SlLaysF0.n6 Tryz.prog Tryz.sortR_ren := {
  mixed := by kernel_rfl
  f6 := ⟨Tryz.f93.name, by decide, Tryz.func93.trans (congrArg some (by kernel_rfl))⟩
  f14 := ⟨Tryz.f122.name, by decide, Tryz.func122.trans (congrArg some (by kernel_rfl))⟩
  f15 := Tryz.func111.trans (congrArg some (by kernel_rfl))
  f20 := ⟨Tryz.f152.name, by decide, Tryz.func152.trans (congrArg some (by kernel_rfl))⟩
  f21 := ⟨Tryz.f153.name, by decide, Tryz.func153.trans (congrArg some (by kernel_rfl))⟩
  f22 := ⟨Tryz.f154.name, by decide, Tryz.func154.trans (congrArg some (by kernel_rfl))⟩
  f23 := ⟨Tryz.f155.name, by decide, Tryz.func155.trans (congrArg some (by kernel_rfl))⟩
  f24 := ⟨Tryz.f156.name, by decide, Tryz.func156.trans (congrArg some (by kernel_rfl))⟩
  f25 := ⟨Tryz.f157.name, by decide, Tryz.func157.trans (congrArg some (by kernel_rfl))⟩
  f26 := ⟨Tryz.f158.name, by decide, Tryz.func158.trans (congrArg some (by kernel_rfl))⟩
  f27 := ⟨Tryz.f159.name, by decide, Tryz.func159.trans (congrArg some (by kernel_rfl))⟩
  f28 := Tryz.func140.trans (congrArg some (by kernel_rfl))
  f29 := Tryz.func141.trans (congrArg some (by kernel_rfl))
  f46 := ⟨Tryz.f186.name, by decide, Tryz.func186.trans (congrArg some (by kernel_rfl))⟩
  f47 := Tryz.func170.trans (congrArg some (by kernel_rfl))
  f48 := Tryz.func171.trans (congrArg some (by kernel_rfl))
  f49 := ⟨Tryz.f187.name, by decide, Tryz.func187.trans (congrArg some (by kernel_rfl))⟩
  f50 := ⟨Tryz.f188.name, by decide, Tryz.func188.trans (congrArg some (by kernel_rfl))⟩
  f57 := ⟨Tryz.f202.name, by decide, Tryz.func202.trans (congrArg some (by kernel_rfl))⟩
  t0 := Tryz.underlying0
  a0 := Tryz.isAgg0
  z0 := Tryz.sizeOf0
  v0 := Tryz.zeroValue0
  t3 := Tryz.underlying3
  a3 := Tryz.isAgg3
  z3 := Tryz.sizeOf3
  v3 := Tryz.zeroValue3
  t4 := Tryz.underlying4
  a4 := Tryz.isAgg4
  z4 := Tryz.sizeOf4
  v4 := Tryz.zeroValue4
  t5 := Tryz.underlying5
  a5 := Tryz.isAgg5
  z5 := Tryz.sizeOf5
  v5 := Tryz.zeroValue5
  t9 := Tryz.underlying9
  a9 := Tryz.isAgg9
  z9 := Tryz.sizeOf9
  v9 := Tryz.zeroValue9
  t22 := Tryz.underlying37
  a22 := Tryz.isAgg37
  z22 := Tryz.sizeOf37
  v22 := Tryz.zeroValue37
  t25 := Tryz.underlying135
  a25 := Tryz.isAgg135
  z25 := Tryz.sizeOf135
  v25 := Tryz.zeroValue135
  t39 := Tryz.underlying127
  a39 := Tryz.isAgg127
  z39 := Tryz.sizeOf127
  v39 := Tryz.zeroValue127
  t45 := Tryz.underlying173
  a45 := Tryz.isAgg173
  z45 := Tryz.sizeOf173
  v45 := Tryz.zeroValue173
  t46 := Tryz.underlying174
  a46 := Tryz.isAgg174
  z46 := Tryz.sizeOf174
  v46 := Tryz.zeroValue174
  t50 := Tryz.underlying62
  a50 := Tryz.isAgg62
  z50 := Tryz.sizeOf62
  v50 := Tryz.zeroValue62
  t53 := Tryz.underlying180
  a53 := Tryz.isAgg180
  z53 := Tryz.sizeOf180
  v53 := Tryz.zeroValue180
  t55 := Tryz.underlying182
  a55 := Tryz.isAgg182
  z55 := Tryz.sizeOf182
  v55 := Tryz.zeroValue182
  t66 := Tryz.underlying198
  a66 := Tryz.isAgg198
  z66 := Tryz.sizeOf198
  v66 := Tryz.zeroValue198
  t70 := Tryz.underlying202
  a70 := Tryz.isAgg202
  z70 := Tryz.sizeOf202
  v70 := Tryz.zeroValue202
  t76 := Tryz.underlying225
  a76 := Tryz.isAgg225
  z76 := Tryz.sizeOf225
  v76 := Tryz.zeroValue225
  t77 := Tryz.underlying226
  a77 := Tryz.isAgg226
  z77 := Tryz.sizeOf226
  v77 := Tryz.zeroValue226 }
def Tryz.sortRd_ren : Go.Shelf.Ren := ⟨fun | 6 => 74 | 15 => 111 | 14 => 110 | 28 => 140 | 29 => 141 | 20 => 132 | 21 => 133 | 22 => 134 | 23 => 135 | 24 => 136 | 25 => 137 | 26 => 138 | 27 => 139 | 46 => 169 | 47 => 170 | 48 => 171 | 49 => 172 | 50 => 173 | 57 => 195 | n => n, fun | 22 => 64 | 24 => 82 | 25 => 121 | 3 => 3 | 39 => 127 | 0 => 0 | 53 => 180 | 55 => 182 | 4 => 4 | 46 => 174 | 45 => 173 | 50 => 62 | 5 => 5 | 9 => 9 | 66 => 198 | 70 => 202 | 76 => 225 | 77 => 226 | n => n, fun | n => n⟩
theorem Tryz.sortRd : Go.Proofs.SlLaysF0.n6 Tryz.prog Tryz.sortRd_ren := {
  mixed := by kernel_rfl
  f6 := ⟨Tryz.f74.name, by decide, Tryz.func74.trans (congrArg some (by kernel_rfl))⟩
  f14 := ⟨Tryz.f110.name, by decide, Tryz.func110.trans (congrArg some (by kernel_rfl))⟩
  f15 := Tryz.func111.trans (congrArg some (by kernel_rfl))
  f20 := ⟨Tryz.f132.name, by decide, Tryz.func132.trans (congrArg some (by kernel_rfl))⟩
  f21 := ⟨Tryz.f133.name, by decide, Tryz.func133.trans (congrArg some (by kernel_rfl))⟩
  f22 := ⟨Tryz.f134.name, by decide, Tryz.func134.trans (congrArg some (by kernel_rfl))⟩
  f23 := ⟨Tryz.f135.name, by decide, Tryz.func135.trans (congrArg some (by kernel_rfl))⟩
  f24 := ⟨Tryz.f136.name, by decide, Tryz.func136.trans (congrArg some (by kernel_rfl))⟩
  f25 := ⟨Tryz.f137.name, by decide, Tryz.func137.trans (congrArg some (by kernel_rfl))⟩
  f26 := ⟨Tryz.f138.name, by decide, Tryz.func138.trans (congrArg some (by kernel_rfl))⟩
  f27 := ⟨Tryz.f139.name, by decide, Tryz.func139.trans (congrArg some (by kernel_rfl))⟩
  f28 := Tryz.func140.trans (congrArg some (by kernel_rfl))
  f29 := Tryz.func141.trans (congrArg some (by kernel_rfl))
  f46 := ⟨Tryz.f169.name, by decide, Tryz.func169.trans (congrArg some (by kernel_rfl))⟩
  f47 := Tryz.func170.trans (congrArg some (by kernel_rfl))
  f48 := Tryz.func171.trans (congrArg some (by kernel_rfl))
  f49 := ⟨Tryz.f172.name, by decide, Tryz.func172.trans (congrArg some (by kernel_rfl))⟩
  f50 := ⟨Tryz.f173.name, by decide, Tryz.func173.trans (congrArg some (by kernel_rfl))⟩
  f57 := ⟨Tryz.f195.name, by decide, Tryz.func195.trans (congrArg some (by kernel_rfl))⟩
  t0 := Tryz.underlying0
  a0 := Tryz.isAgg0
  z0 := Tryz.sizeOf0
  v0 := Tryz.zeroValue0
  t3 := Tryz.underlying3
  a3 := Tryz.isAgg3
  z3 := Tryz.sizeOf3
  v3 := Tryz.zeroValue3
  t4 := Tryz.underlying4
  a4 := Tryz.isAgg4
  z4 := Tryz.sizeOf4
  v4 := Tryz.zeroValue4
  t5 := Tryz.underlying5
  a5 := Tryz.isAgg5
  z5 := Tryz.sizeOf5
  v5 := Tryz.zeroValue5
  t9 := Tryz.underlying9
  a9 := Tryz.isAgg9
  z9 := Tryz.sizeOf9
  v9 := Tryz.zeroValue9
  t22 := Tryz.underlying64
  a22 := Tryz.isAgg64
  z22 := Tryz.sizeOf64
  v22 := Tryz.zeroValue64
  t25 := Tryz.underlying121
  a25 := Tryz.isAgg121
  z25 := Tryz.sizeOf121
  v25 := Tryz.zeroValue121
  t39 := Tryz.underlying127
  a39 := Tryz.isAgg127
  z39 := Tryz.sizeOf127
  v39 := Tryz.zeroValue127
  t45 := Tryz.underlying173
  a45 := Tryz.isAgg173
  z45 := Tryz.sizeOf173
  v45 := Tryz.zeroValue173
  t46 := Tryz.underlying174
  a46 := Tryz.isAgg174
  z46 := Tryz.sizeOf174
  v46 := Tryz.zeroValue174
  t50 := Tryz.underlying62
  a50 := Tryz.isAgg62
  z50 := Tryz.sizeOf62
  v50 := Tryz.zeroValue62
  t53 := Tryz.underlying180
  a53 := Tryz.isAgg180
  z53 := Tryz.sizeOf180
  v53 := Tryz.zeroValue180
  t55 := Tryz.underlying182
  a55 := Tryz.isAgg182
  z55 := Tryz.sizeOf182
  v55 := Tryz.zeroValue182
  t66 := Tryz.underlying198
  a66 := Tryz.isAgg198
  z66 := Tryz.sizeOf198
  v66 := Tryz.zeroValue198
  t70 := Tryz.underlying202
  a70 := Tryz.isAgg202
  z70 := Tryz.sizeOf202
  v70 := Tryz.zeroValue202
  t76 := Tryz.underlying225
  a76 := Tryz.isAgg225
  z76 := Tryz.sizeOf225
  v76 := Tryz.zeroValue225
  t77 := Tryz.underlying226
  a77 := Tryz.isAgg226
  z77 := Tryz.sizeOf226
  v77 := Tryz.zeroValue226 }
def Tryz.growR_ren : Go.Shelf.Ren := ⟨fun | 4 => 131 | n => n, fun | 22 => 37 | 25 => 80 | 3 => 3 | 4 => 4 | 9 => 9 | 20 => 20 | 0 => 0 | n => n, fun | n => n⟩
theorem Tryz.growR : Go.Proofs.Lays8.n4 Tryz.prog Tryz.growR_ren := {
  mixed := by kernel_rfl
  f4 := ⟨Tryz.f131.name, by decide, Tryz.func131.trans (congrArg some (by kernel_rfl))⟩
  t0 := Tryz.underlying0
  a0 := Tryz.isAgg0
  z0 := Tryz.sizeOf0
  v0 := Tryz.zeroValue0
  t3 := Tryz.underlying3
  a3 := Tryz.isAgg3
  z3 := Tryz.sizeOf3
  v3 := Tryz.zeroValue3
  t4 := Tryz.underlying4
  a4 := Tryz.isAgg4
  z4 := Tryz.sizeOf4
  v4 := Tryz.zeroValue4
  t9 := Tryz.underlying9
  a9 := Tryz.isAgg9
  z9 := Tryz.sizeOf9
  v9 := Tryz.zeroValue9
  t20 := Tryz.underlying20
  a20 := Tryz.isAgg20
  z20 := Tryz.sizeOf20
  v20 := Tryz.zeroValue20
  t22 := Tryz.underlying37
  a22 := Tryz.isAgg37
  z22 := Tryz.sizeOf37
  v22 := Tryz.zeroValue37 }
end Go.Proofs

/-
  runes.(*reader).number, quoted, rune, item: a rune of a spelling, or the panic with its error and place.
-/
namespace Go.Proofs.YtejccafolfeabaaGreatDoor
open Go.RowKit

/-- The panic with an error and its place. -/
def faultEnd (e : Int × Nat) : Ending := .panicked [{ v := .iface 146 (.agg #[.int .i64 e.1, .int .i64 e.2]), recovered := false }]
/-- The place that a reader is at. -/
def atOf (w : World) (b : Nat) : Nat := match w.cell? ⟨b, 1, none⟩ with | some v => (intOf v).toNat | none => 0
/-- The reader at block b goes through s and is at place a. -/
def Rdr (w : World) (b : Nat) (s : ByteArray) (a : Nat) : Prop := Blk w b 150 #[.string s, .int .i64 a]
section
variable {w w' : World} {b : Nat} {s : ByteArray} {a : Nat}
theorem Rdr.c0 (h : Rdr w b s a) : w.cell? ⟨b, 0, none⟩ = some (.string s) := h.cell 0
theorem Rdr.c1 (h : Rdr w b s a) : w.cell? ⟨b, 1, none⟩ = some (.int .i64 a) := h.cell 1
theorem Rdr.f1 (h : Rdr w b s a) : w.frozen? ⟨b, 1, none⟩ = false := h.frozen 1
theorem Rdr.set (h : Rdr w b s a) (a' : Nat) : Rdr (w.setCell ⟨b, 1, none⟩ (.int .i64 a')) b s a' := h.set_ 1 _
theorem Rdr.set' (h : Rdr w b s a) (v : Int) (a' : Nat) (hv : v = a') : Rdr (w.setCell ⟨b, 1, none⟩ (.int .i64 v)) b s a' := by subst hv; exact h.set a'
theorem Rdr.drewN (h : Rdr w b s a) (q : Nat) : Rdr (w.drewN q) b s a := h
theorem Rdr.below (h : Rdr w b s a) (hb : Below w.heap.size w w') : Rdr w' b s a := Blk.below h hb
theorem Rdr.atOf (h : Rdr w b s a) : atOf w b = a := by unfold YtejccafolfeabaaGreatDoor.atOf; rw [h.c1]; simp [intOf]
end

/-- What a method that reads a rune leaves. -/
def RuneEnd (b : Nat) (s : ByteArray) (r : Except (Int × Nat) (Int × Nat)) (e : Ending) (w' : World) : Prop :=
  match r with
  | .error x => e = faultEnd x
  | .ok (r, q) => e = .returned (.int .i32 r) ∧ Rdr w' b s q
theorem RuneEnd.err {b : Nat} {s : ByteArray} {r : Except (Int × Nat) (Int × Nat)} {x : Int × Nat} {w' : World} (h : r = .error x) : RuneEnd b s r (faultEnd x) w' := by rw [h]; exact rfl
theorem RuneEnd.fine {b : Nat} {s : ByteArray} {r : Except (Int × Nat) (Int × Nat)} {n : Int} {q : Nat} {w' : World} (h : r = .ok (n, q)) (hr : Rdr w' b s q) : RuneEnd b s r (.returned (.int .i32 n)) w' := by rw [h]; exact ⟨rfl, hr⟩

set_option maxRecDepth 100000 in
set_option maxHeartbeats 1000000 in
theorem number_any (s : ByteArray) (a b : Nat) (w : World) (hR : Rdr w b s a) (ha : a + 2 ≤ s.size) (hs : s.size ≤ 1000000) :
    Calls Tryz.prog 167 #[.pointer (some ⟨b, 0, none⟩)] w fun e w' => w.grownBy w' (some b) ∧ RuneEnd b s (numP s a) e w' := by
  have c0 := hR.c0
  have c1 := hR.c1
  have f1 := hR.f1
  go_enter Tryz.func167, Tryz.ntmps167
  go_wp2
  go_loopw [18] (fun _ wr => ∃ p : Nat, Rdr wr b s p ∧ Hid (p + (hexRun s p).length = a + 2 + (hexRun s (a + 2)).length) ∧ a + 2 ≤ p ∧ p ≤ s.size ∧ w.grownBy wr (some b)) (fun _ wr => s.size - atOf wr b)
  case atStart => exact ⟨a + 2, hR.set (a + 2), by simp [Hid], by omega, by omega, only_setCell (only_refl _ _) (.inl rfl) _⟩
  case round =>
    clear c0 c1 f1
    obtain ⟨p, hr, HK, hge, hle, hg⟩ := hrel
    have c0 := hr.c0
    have c1 := hr.c1
    have f1 := hr.f1
    have Hat := Lib.hid hr.atOf
    have hstop : ¬ (∃ h : p < s.size, isHexN ((s[p]'h).toNat : Int) = true) → hexRun s p = [] := fun hn => by
      by_cases hlt : p < s.size
      · rw [hexRun_cons hlt, if_neg (fun h => hn ⟨hlt, h⟩)]
      · exact hexRun_none (by omega)
    by_cases hlt : p < s.size ∧ ∃ h : p < s.size, isHexN ((s[p]'h).toNat : Int) = true
    · obtain ⟨hlt, _, hx⟩ := hlt
      have HK' : Hid (p + 1 + (hexRun s (p + 1)).length = a + 2 + (hexRun s (a + 2)).length) := Lib.hid (by rw [← HK.out, hexRun_cons hlt, if_pos hx, List.length_cons]; omega)
      have hcb : ((s[p]'hlt).toNat : Int) ≤ 255 := by have := (s[p]'hlt).toNat_lt; omega
      have hcz : 0 ≤ ((s[p]'hlt).toNat : Int) := by omega
      clear hstop
      go_wp2_with fail
      go_quiet ((go_at_call 193; exact quiet_left (rhex_any _ _ hcz hcb)))
      go_wp2
      have hr2 : Rdr ((wr.drewN nq).setCell ⟨b, 1, none⟩ (.int .i64 (p + 1 : Nat))) b s (p + 1) := Rdr.set (w := wr.drewN nq) hr (p + 1)
      refine ⟨⟨p + 1, hr2, HK', by omega, by omega, only_setCell (only_drewN hg _) (.inl rfl) _⟩, ?_⟩
      show s.size - atOf ((wr.drewN nq).setCell ⟨b, 1, none⟩ (.int .i64 (p + 1 : Nat))) b < s.size - atOf wr b
      rw [hr2.atOf, Hat.out]; omega
    · have hnil : hexRun s p = [] := hstop (fun h => by obtain ⟨h1, h2⟩ := h; exact hlt ⟨h1, h1, h2⟩)
      have HN : Hid ((hexRun s (a + 2)).length = p - (a + 2)) := Lib.hid (by have := HK.out; rw [hnil] at this; simp at this; omega)
      have HX : Hid ((s.extract (a + 2) p).data.toList = hexRun s (a + 2)) := Lib.hid (by have := hexRun_extract s (a + 2); rwa [HN.out, show a + 2 + (p - (a + 2)) = p by omega] at this)
      clear hstop hnil
      obtain ⟨n, Hn, hn⟩ : ∃ n, Hid (n = p - (a + 2)) ∧ n + (a + 2) = p := ⟨p - (a + 2), rfl, by omega⟩
      have hout : (s.size ≤ p) ∨ (∃ h : p < s.size, isHexN ((s[p]'h).toNat : Int) = false) := by
        by_cases h : p < s.size
        · exact .inr ⟨h, by cases hq : isHexN ((s[p]'h).toNat : Int) with
            | false => rfl
            | true => exact absurd ⟨h, h, hq⟩ hlt⟩
        · exact .inl (by omega)
      clear hlt
      rcases hout with hsz | ⟨hlt, hx⟩
      · have hd : decide (p < s.size) = false := decide_eq_false (by omega)
        go_wp2_with fail
        go_quiet (fail)
        clear hd
        go_wp2_with fail
        have hwa : IntKind.i64.wrap ((a : Int) + 2) = (a : Int) + 2 := IntWalk.i64_in _ (by omega)
        have hwb : ((a : Int) + 2).toNat = a + 2 := by omega
        go_quiet (fail)
        clear hwa hwb
        go_wp2_with fail
        all_goals first
          | exact ⟨rfl, only_drewN hg _, RuneEnd.err (x := (21, a)) (by unfold numP; rw [if_pos (by rw [HN.out]; omega)])⟩
          | skip
        have hsx : (s.extract (a + 2) p).size = p - (a + 2) := by rw [← size_data, HX.out, HN.out]
        refine (lParseInt_any (s.extract (a + 2) p) _ (by omega) (by omega) (by rw [HX.out]; exact hexRun_all s _)).mono ?_
        clear hsx
        rw [HX.out]
        rintro e w2 ⟨rfl, hb2⟩
        have hc0 : ¬ ((hexRun s (a + 2)).length < 4 ∨ 6 < (hexRun s (a + 2)).length) := by rw [HN.out]; omega
        have HP : Hid (numP s a = if 1114111 < hexVal (hexRun s (a + 2)) then .error (22, a) else .ok (hexVal (hexRun s (a + 2)), p)) := Lib.hid (by unfold numP; rw [if_neg hc0, HN.out, show a + 2 + (p - (a + 2)) = p by omega])
        have hg2 : w.grownBy w2 (some b) := only_below (only_drewN hg _) hb2
        have hr2 : Rdr w2 b s p := Blk.below (w := wr.drewN _) hr hb2
        have hV0 := (hexVal_bd _ (hexRun s (a + 2)) rfl (hexRun_all s _)).1
        generalize hexVal (hexRun s (a + 2)) = V at HP hV0 ⊢
        clear hc0 hb2
        by_cases hV : 1114111 < V
        · go_wp2
          exact ⟨rfl, hg2, RuneEnd.err (x := (22, a)) (by rw [HP.out, if_pos hV])⟩
        · have hV' : V ≤ 1114111 := by omega
          have HP' : Hid (numP s a = .ok (V, p)) := Lib.hid (by rw [HP.out, if_neg hV])
          clear hV
          go_wp2
          go_ret
          exact ⟨hg2, RuneEnd.fine HP'.out hr2⟩
      · have hcb : ((s[p]'hlt).toNat : Int) ≤ 255 := by have := (s[p]'hlt).toNat_lt; omega
        have hcz : 0 ≤ ((s[p]'hlt).toNat : Int) := by omega
        go_wp2_with fail
        go_quiet ((go_at_call 193; exact quiet_left (rhex_any _ _ hcz hcb)))
        go_wp2_with fail
        have hwa : IntKind.i64.wrap ((a : Int) + 2) = (a : Int) + 2 := IntWalk.i64_in _ (by omega)
        have hwb : ((a : Int) + 2).toNat = a + 2 := by omega
        go_quiet (fail)
        clear hwa hwb
        go_wp2_with fail
        all_goals first
          | exact ⟨rfl, only_drewN hg _, RuneEnd.err (x := (21, a)) (by unfold numP; rw [if_pos (by rw [HN.out]; omega)])⟩
          | skip
        have hsx : (s.extract (a + 2) p).size = p - (a + 2) := by rw [← size_data, HX.out, HN.out]
        refine (lParseInt_any (s.extract (a + 2) p) _ (by omega) (by omega) (by rw [HX.out]; exact hexRun_all s _)).mono ?_
        clear hsx
        rw [HX.out]
        rintro e w2 ⟨rfl, hb2⟩
        have hc0 : ¬ ((hexRun s (a + 2)).length < 4 ∨ 6 < (hexRun s (a + 2)).length) := by rw [HN.out]; omega
        have HP : Hid (numP s a = if 1114111 < hexVal (hexRun s (a + 2)) then .error (22, a) else .ok (hexVal (hexRun s (a + 2)), p)) := Lib.hid (by unfold numP; rw [if_neg hc0, HN.out, show a + 2 + (p - (a + 2)) = p by omega])
        have hg2 : w.grownBy w2 (some b) := only_below (only_drewN hg _) hb2
        have hr2 : Rdr w2 b s p := Blk.below (w := wr.drewN _) hr hb2
        have hV0 := (hexVal_bd _ (hexRun s (a + 2)) rfl (hexRun_all s _)).1
        generalize hexVal (hexRun s (a + 2)) = V at HP hV0 ⊢
        clear hc0 hb2
        by_cases hV : 1114111 < V
        · go_wp2
          exact ⟨rfl, hg2, RuneEnd.err (x := (22, a)) (by rw [HP.out, if_pos hV])⟩
        · have hV' : V ≤ 1114111 := by omega
          have HP' : Hid (numP s a = .ok (V, p)) := Lib.hid (by rw [HP.out, if_neg hV])
          clear hV
          go_wp2
          go_ret
          exact ⟨hg2, RuneEnd.fine HP'.out hr2⟩

/-- The tables that the library's decoder reads. -/
def Tabs (w : World) : Prop := Lib.Utf8Tabs 1 2 w
theorem Tabs.below {w w' : World} (h : Tabs w) (hb : Below w.heap.size w w') : Tabs w' := Utf8Tabs_below h hb
theorem lDecode_any (s : ByteArray) (a : Nat) (w : World) (hT : Tabs w) (ha : a ≤ s.size) :
    Calls Tryz.prog 124 #[.string (s.extract a s.size)] w fun e w' => e = .returned (.tuple #[.int .i32 (runeAt s a).1, .int .i64 (runeAt s a).2]) ∧ Below w.heap.size w w' := by
  have h := Tryz.utf8_DecodeRuneInString (s.extract a s.size) w hT
  have e : Lib.decodeGo (s.extract a s.size) = runeAt s a := by
    unfold runeAt
    split
    · rename_i h
      unfold Lib.decodeGo
      rw [if_neg (by rw [Lib.tail_size]; omega), Lib.tail_decode, Nat.add_zero]
    · unfold Lib.decodeGo
      rw [if_pos (by rw [ByteArray.size_extract]; omega)]
  rw [e] at h
  exact h

theorem quoP_none {s : ByteArray} {a : Nat} (h : (runeAt s (a + 1)).2 = 0) : quoP s a = .error (21, a) := if_pos h
theorem quoP_open {s : ByteArray} {a : Nat} (h : (runeAt s (a + 1)).2 ≠ 0) (h2 : (rest s (a + 1 + (runeAt s (a + 1)).2)).head? ≠ some 39) : quoP s a = .error (21, a) := by unfold quoP; rw [if_neg h, if_pos h2]
theorem quoP_bad {s : ByteArray} {a : Nat} (h : (runeAt s (a + 1)).2 ≠ 0) (h2 : (rest s (a + 1 + (runeAt s (a + 1)).2)).head? = some 39) (h3 : (runeAt s (a + 1)).1 = 65533 ∧ (runeAt s (a + 1)).2 = 1) : quoP s a = .error (23, a + 1) := by
  unfold quoP; rw [if_neg h, if_neg (fun k => k h2), if_pos h3]
theorem quoP_ok {s : ByteArray} {a : Nat} (h : (runeAt s (a + 1)).2 ≠ 0) (h2 : (rest s (a + 1 + (runeAt s (a + 1)).2)).head? = some 39) (h3 : ¬ ((runeAt s (a + 1)).1 = 65533 ∧ (runeAt s (a + 1)).2 = 1)) : quoP s a = .ok ((runeAt s (a + 1)).1, a + 2 + (runeAt s (a + 1)).2) := by
  unfold quoP; rw [if_neg h, if_neg (fun k => k h2), if_neg h3]

set_option maxRecDepth 100000 in
set_option maxHeartbeats 1000000 in
theorem quoted_any (s : ByteArray) (a b : Nat) (w : World) (hT : Tabs w) (hR : Rdr w b s a) (ha : a + 1 ≤ s.size) (hs : s.size ≤ 1000000) :
    Calls Tryz.prog 168 #[.pointer (some ⟨b, 0, none⟩)] w fun e w' => w.grownBy w' (some b) ∧ RuneEnd b s (quoP s a) e w' := by
  have c0 := hR.c0
  have c1 := hR.c1
  have HD := Lib.hid (lDecode_any s (a + 1) w hT ha)
  obtain ⟨hb1, hb2, hb3⟩ := runeAt_bd s (a + 1) ha
  have HN := Lib.hid (@quoP_none s a)
  have HO := Lib.hid (@quoP_open s a)
  have HB := Lib.hid (@quoP_bad s a)
  have HG := Lib.hid (@quoP_ok s a)
  generalize (runeAt s (a + 1)).2 = n at HD HN HO HB HG hb1 hb2
  generalize (runeAt s (a + 1)).1 = r at HD HB HG hb3
  generalize quoP s a = Q at HN HO HB HG ⊢
  go_enter Tryz.func168, Tryz.ntmps168
  go_wp2_with fail
  refine HD.out.mono ?_
  rintro e w2 ⟨rfl, hbw⟩
  have hr2 : Rdr w2 b s a := Blk.below hR hbw
  have hg2 : w.grownBy w2 (some b) := only_below (only_refl _ _) hbw
  clear c0 c1
  have c0 := hr2.c0
  have c1 := hr2.c1
  have f1 := hr2.f1
  by_cases hn : n = 0
  · have HE := Lib.hid (HN.out hn)
    have hz : ((n : Int) == 0) = true := by simp [hn]
    clear hn
    go_wp2
    exact ⟨rfl, hg2, RuneEnd.err (x := (21, a)) HE.out⟩
  · have hz : ((n : Int) == 0) = false := by simp [hn]
    have HNz := Lib.hid hn
    have hn1 : 1 ≤ n := by omega
    clear hn
    have hr3 : Rdr (w2.setCell ⟨b, 1, none⟩ (.int .i64 ((a : Int) + 1 + n))) b s (a + 1 + n) := hr2.set' _ _ (by omega)
    have hg3 : w.grownBy (w2.setCell ⟨b, 1, none⟩ (.int .i64 ((a : Int) + 1 + n))) (some b) := only_setCell hg2 (.inl rfl) _
    by_cases hp : a + 1 + n < s.size
    · have hix := index_at s ((a : Int) + 1 + n) (a + 1 + n) (by omega) hp
      by_cases hq : s[a + 1 + n]'hp = 39
      · have HQ : Hid ((rest s (a + 1 + n)).head? = some 39) := Lib.hid (by rw [rest_head hp, hq])
        have hqb : (((s[a + 1 + n]'hp).toNat : Int) != 39) = false := by rw [hq]; rfl
        clear hq
        have hd : decide ((s.size : Int) ≤ (a : Int) + 1 + n) = false := decide_eq_false (by omega)
        by_cases h3 : r = 65533 ∧ n = 1
        · have HE := Lib.hid (HB.out HNz.out HQ.out h3)
          have hra : ((r : Int) == 65533) = true := by simp [h3.1]
          have hna : ((n : Int) == 1) = true := by simp [h3.2]
          clear h3
          go_wp2_with fail
          go_quiet (fail)
          clear hd
          go_wp2
          exact ⟨rfl, only_drewN hg3 _, RuneEnd.err (x := (23, a + 1)) HE.out⟩
        · have HE := Lib.hid (HG.out HNz.out HQ.out h3)
          by_cases hr65 : r = 65533
          · have hra : ((r : Int) == 65533) = true := by simp [hr65]
            have hna : ((n : Int) == 1) = false := by simp; omega
            clear h3 hr65
            go_wp2_with fail
            go_quiet (fail)
            clear hd
            go_wp2
            go_ret
            exact ⟨only_setCell (only_drewN hg3 _) (.inl rfl) _, RuneEnd.fine HE.out ((hr3.drewN _).set' _ _ (by omega))⟩
          · have hra : ((r : Int) == 65533) = false := by simp; omega
            clear h3 hr65
            go_wp2_with fail
            go_quiet (fail)
            clear hd
            go_wp2
            go_ret
            exact ⟨only_setCell (only_drewN hg3 _) (.inl rfl) _, RuneEnd.fine HE.out ((hr3.drewN _).set' _ _ (by omega))⟩
      · have HE := Lib.hid (HO.out HNz.out (by rw [rest_head hp]; simpa using hq))
        have hqb : (((s[a + 1 + n]'hp).toNat : Int) != 39) = true := by
          rw [bne_iff_ne]; intro e
          exact hq (UInt8.toNat_inj.1 (by have : (s[a + 1 + n]'hp).toNat = 39 := by omega
                                          rw [this]; rfl))
        clear hq
        have hd : decide ((s.size : Int) ≤ (a : Int) + 1 + n) = false := decide_eq_false (by omega)
        go_wp2_with fail
        go_quiet (fail)
        clear hd
        go_wp2
        exact ⟨rfl, only_drewN hg3 _, RuneEnd.err (x := (21, a)) HE.out⟩
    · have HE := Lib.hid (HO.out HNz.out (by rw [rest_none (by omega)]; simp))
      have hd : decide ((s.size : Int) ≤ (a : Int) + 1 + n) = true := decide_eq_true (by omega)
      clear hp
      go_wp2_with fail
      go_quiet (fail)
      clear hd
      go_wp2
      exact ⟨rfl, only_drewN hg3 _, RuneEnd.err (x := (21, a)) HE.out⟩

theorem rest_extract (s : ByteArray) (a : Nat) : (s.extract a s.size).data.toList = rest s a := by
  rw [Lib.extract_data]; unfold rest
  rw [List.take_of_length_le (by rw [List.length_drop, size_data]; omega)]
theorem lHasPrefix_any (s : ByteArray) (a : Nat) (p : ByteArray) (w : World) :
    Calls Tryz.prog 149 #[.string (s.extract a s.size), .string p] w fun e w' => e = .returned (.bool (p.data.toList.isPrefixOf (rest s a))) ∧ w = w' := by
  have h := Tryz.strings_HasPrefix (s.extract a s.size) p w
  refine h.mono ?_
  rintro e w' ⟨rfl, rfl⟩
  exact ⟨by rw [rest_extract]; rfl, rfl⟩
theorem lHasPrefix_is (s : ByteArray) (a : Nat) (p : ByteArray) (v : Bool) (h : p.data.toList.isPrefixOf (rest s a) = v) (w : World) :
    Calls Tryz.prog 149 #[.string (s.extract a s.size), .string p] w fun e w' => e = .returned (.bool v) ∧ w = w' :=
  (lHasPrefix_any s a p w).mono fun _ _ ⟨he, hw⟩ => ⟨by rw [he, h], hw⟩

set_option maxHeartbeats 1000000 in
theorem rune_any (s : ByteArray) (a b : Nat) (w : World) (hT : Tabs w) (hR : Rdr w b s a) (ha : a ≤ s.size) (hs : s.size ≤ 1000000) :
    Calls Tryz.prog 130 #[.pointer (some ⟨b, 0, none⟩)] w fun e w' => w.grownBy w' (some b) ∧ RuneEnd b s (runeP s a) e w' := by
  have c0 := hR.c0
  have c1 := hR.c1
  cases h1 : [85, 43].isPrefixOf (rest s a) with
  | true =>
    have HE : Hid (runeP s a = numP s a) := Lib.hid (by unfold runeP; rw [h1]; rfl)
    have hl : a + 2 ≤ s.size := by
      have := (List.isPrefixOf_iff_prefix.1 h1).length_le
      rw [rest_len] at this; simp at this; omega
    have HP := Lib.hid (fun W => lHasPrefix_is s a ⟨#[85, 43]⟩ true h1 W)
    have HN := Lib.hid (fun W hr => number_any s a b W hr hl hs)
    clear h1
    rw [HE.out]
    generalize numP s a = Q at HN ⊢
    cases Q with
    | error x =>
      go_enter Tryz.func130, Tryz.ntmps130
      go_wp2_with fail
      go_quiet (fail)
      go_wp2_with fail
      refine (HP.out _).mono ?_
      rintro e w' ⟨rfl, rfl⟩
      go_wp2_with fail
      refine (HN.out _ (hR.drewN _)).mono ?_
      rintro e w2 ⟨hg, rfl⟩
      exact ⟨rfl, only_trans (only_drewN (only_refl _ _) _) hg, RuneEnd.err (x := x) rfl⟩
    | ok y =>
      obtain ⟨r, q⟩ := y
      go_enter Tryz.func130, Tryz.ntmps130
      go_wp2_with fail
      go_quiet (fail)
      go_wp2_with fail
      refine (HP.out _).mono ?_
      rintro e w' ⟨rfl, rfl⟩
      go_wp2_with fail
      refine (HN.out _ (hR.drewN _)).mono ?_
      rintro e w2 ⟨hg, rfl, hr2⟩
      go_wp2
      go_ret
      exact ⟨only_trans (only_drewN (only_refl _ _) _) hg, RuneEnd.fine rfl hr2⟩
  | false =>
    have HP := Lib.hid (fun W => lHasPrefix_is s a ⟨#[85, 43]⟩ false h1 W)
    cases h2 : [39].isPrefixOf (rest s a) with
    | true =>
      have HE : Hid (runeP s a = quoP s a) := Lib.hid (by unfold runeP; rw [h1, h2]; rfl)
      have hl : a + 1 ≤ s.size := by
        have := (List.isPrefixOf_iff_prefix.1 h2).length_le
        rw [rest_len] at this; simp at this; omega
      have HP2 := Lib.hid (fun W => lHasPrefix_is s a ⟨#[39]⟩ true h2 W)
      have HN := Lib.hid (fun W hW hr => quoted_any s a b W hW hr hl hs)
      clear h1 h2
      rw [HE.out]
      generalize quoP s a = Q at HN ⊢
      cases Q with
      | error x =>
        go_enter Tryz.func130, Tryz.ntmps130
        go_wp2_with fail
        go_quiet (fail)
        go_wp2_with fail
        refine (HP.out _).mono ?_
        rintro e w' ⟨rfl, rfl⟩
        go_wp2_with fail
        refine (HP2.out _).mono ?_
        rintro e w' ⟨rfl, rfl⟩
        go_wp2_with fail
        refine (HN.out _ (hT.below (below_refl_drewN _ _)) (hR.drewN _)).mono ?_
        rintro e w2 ⟨hg, rfl⟩
        exact ⟨rfl, only_trans (only_drewN (only_refl _ _) _) hg, RuneEnd.err (x := x) rfl⟩
      | ok y =>
        obtain ⟨r, q⟩ := y
        go_enter Tryz.func130, Tryz.ntmps130
        go_wp2_with fail
        go_quiet (fail)
        go_wp2_with fail
        refine (HP.out _).mono ?_
        rintro e w' ⟨rfl, rfl⟩
        go_wp2_with fail
        refine (HP2.out _).mono ?_
        rintro e w' ⟨rfl, rfl⟩
        go_wp2_with fail
        refine (HN.out _ (hT.below (below_refl_drewN _ _)) (hR.drewN _)).mono ?_
        rintro e w2 ⟨hg, rfl, hr2⟩
        go_wp2
        go_ret
        exact ⟨only_trans (only_drewN (only_refl _ _) _) hg, RuneEnd.fine rfl hr2⟩
    | false =>
      have HE : Hid (runeP s a = .error (21, a)) := Lib.hid (by unfold runeP; rw [h1, h2]; rfl)
      have HP2 := Lib.hid (fun W => lHasPrefix_is s a ⟨#[39]⟩ false h2 W)
      clear h1 h2
      go_enter Tryz.func130, Tryz.ntmps130
      go_wp2_with fail
      go_quiet (fail)
      go_wp2_with fail
      refine (HP.out _).mono ?_
      rintro e w' ⟨rfl, rfl⟩
      go_wp2_with fail
      refine (HP2.out _).mono ?_
      rintro e w' ⟨rfl, rfl⟩
      go_wp2
      exact ⟨rfl, only_drewN (only_refl _ _) _, RuneEnd.err (x := (21, a)) HE.out⟩
end Go.Proofs.YtejccafolfeabaaGreatDoor

/-
  props: quoted, find, line, walked; the library's Trim of blanks.
-/
namespace Go.Proofs.YtejccafolfeabaaGreatDoor
open Go.RowKit

theorem rest_drop (s : ByteArray) (a : Nat) : (s.extract a s.size).data.toList = s.data.toList.drop a := rest_extract s a
theorem take_extract (s : ByteArray) (a : Nat) : (s.extract 0 a).data.toList = s.data.toList.take a := by rw [Lib.extract_data]; simp
theorem empty_of {s : ByteArray} (h : s.size = 0) : s = ⟨#[]⟩ := by
  apply ByteArray.ext
  exact Array.eq_empty_of_size_eq_zero h
theorem ne_empty {s : ByteArray} (h : 0 < s.size) : ¬ s = ⟨#[]⟩ := fun e => by subst e; exact absurd h (by decide)
theorem get_list {s : ByteArray} {p : Nat} (h : p < s.size) : s.data.toList[p]? = some (s[p]'h) := List.getElem?_eq_getElem (by simpa using h)

set_option maxRecDepth 100000 in
set_option maxHeartbeats 1000000 in
theorem wquoted_any (s : ByteArray) (w : World) (hT : Tabs w) (hs : s.size ≤ 1000000) :
    Calls Tryz.prog 98 #[.string s] w fun e w' => e = .returned (.int .i64 ((qtL s.data.toList).getD 0 : Nat)) ∧ Below w.heap.size w w' := by
  rcases Nat.eq_zero_or_pos s.size with h0 | h0
  · obtain rfl := empty_of h0
    go_enter Tryz.func98, Tryz.ntmps98
    go_wp2
    go_ret
    exact ⟨rfl, Below.refl _ _⟩
  · have e0 := notEmpty h0
    have hix := index_at s 0 0 rfl h0
    by_cases hq : s[0]'h0 = 39
    · have HD := Lib.hid (lDecode_any s 1 w hT (by omega))
      obtain ⟨hb1, hb2, hb3⟩ := runeAt_bd s 1 (by omega)
      have HN := Lib.hid (@qt_zero s)
      have HO := Lib.hid (@qt_open s)
      have HG := Lib.hid (@qt_ok s h0 hq)
      generalize (runeAt s 1).2 = n at HD HN HO HG hb1 hb2
      generalize (runeAt s 1).1 = r at HD hb3
      have hq0 : (((s[0]'h0).toNat : Int) != 39) = false := by rw [hq]; rfl
      rcases Nat.eq_zero_or_pos n with hn | hn
      · have HE := Lib.hid (HN.out hn)
        subst hn
        go_enter Tryz.func98, Tryz.ntmps98
        go_wp2_with (go_at_call 124; refine HD.out.mono ?_; rintro e w2 ⟨rfl, hbw⟩)
        go_ret
        exact ⟨by rw [HE.out]; rfl, hbw⟩
      · have hn0 : ((n : Int) == 0) = false := beq_eq_false_iff_ne.2 (by omega)
        by_cases hp : n + 1 < s.size
        · have hix2 := index_at s ((n : Int) + 1) (n + 1) (by omega) hp
          have hd : decide ((s.size : Int) < (n : Int) + 2) = false := decide_eq_false (by omega)
          by_cases hq2 : s[n + 1]'hp = 39
          · have HE := Lib.hid (HG.out (by omega) (by rw [get_list hp, hq2]))
            have hq3 : (((s[n + 1]'hp).toNat : Int) != 39) = false := by rw [hq2]; rfl
            go_enter Tryz.func98, Tryz.ntmps98
            go_wp2_with (go_at_call 124; refine HD.out.mono ?_; rintro e w2 ⟨rfl, hbw⟩)
            go_ret
            exact ⟨by rw [HE.out]; rfl, hbw⟩
          · have HE := Lib.hid (HO.out (by rw [get_list hp]; simpa using hq2))
            have hq3 : (((s[n + 1]'hp).toNat : Int) != 39) = true := by
              rw [bne_iff_ne]; intro e
              exact hq2 (UInt8.toNat_inj.1 (by have : (s[n + 1]'hp).toNat = 39 := by omega
                                               rw [this]; rfl))
            go_enter Tryz.func98, Tryz.ntmps98
            go_wp2_with (go_at_call 124; refine HD.out.mono ?_; rintro e w2 ⟨rfl, hbw⟩)
            go_ret
            exact ⟨by rw [HE.out]; rfl, hbw⟩
        · have hd : decide ((s.size : Int) < (n : Int) + 2) = true := decide_eq_true (by omega)
          have HE := Lib.hid (HO.out (by rw [List.getElem?_eq_none (by rw [size_data]; omega)]; simp))
          go_enter Tryz.func98, Tryz.ntmps98
          go_wp2_with (go_at_call 124; refine HD.out.mono ?_; rintro e w2 ⟨rfl, hbw⟩)
          go_ret
          exact ⟨by rw [HE.out]; rfl, hbw⟩
    · have HE := Lib.hid (qt_no (s := s) (fun _ => hq))
      have hq3 : (((s[0]'h0).toNat : Int) != 39) = true := by
        rw [bne_iff_ne]; intro e
        exact hq (UInt8.toNat_inj.1 (by have : (s[0]'h0).toNat = 39 := by omega
                                        rw [this]; rfl))
      go_enter Tryz.func98, Tryz.ntmps98
      go_wp2
      go_ret
      exact ⟨by rw [HE.out]; rfl, Below.refl _ _⟩

set_option maxRecDepth 100000 in
set_option maxHeartbeats 1000000 in
theorem wfind_any (s : ByteArray) (c : UInt8) (z : Int) (hz : z = (c.toNat : Int)) (w : World) (hT : Tabs w) (hs : s.size ≤ 1000000) :
    Calls Tryz.prog 67 #[.string s, .int .u8 z] w fun e w' => e = .returned (.int .i64 (fv (findP c s.data.toList))) ∧ Below w.heap.size w w' := by
  have hsz : s.data.toList.length = s.size := size_data s
  have Hsz := Lib.hid hsz
  have Hz := Lib.hid hz
  clear hz
  go_enter Tryz.func67, Tryz.ntmps67
  go_wp2
  go_loopw [5] (fun v wr => ∃ i : Nat, v = .int .i64 i ∧ i ≤ s.size ∧ Hid (FindAt c s.data.toList i) ∧ Below w.heap.size w wr) (fun v _ => s.size - (intOf v).toNat)
  case atStart => exact ⟨0, rfl, by omega, findAt_first _ _, Below.refl _ _⟩
  case round =>
    obtain ⟨i, rfl, hi, HF, hb⟩ := hrel
    by_cases hlt : i < s.size
    · have HQ := Lib.hid (wquoted_any (s.extract i s.size) wr (hT.below hb) (by rw [ByteArray.size_extract]; omega))
      rw [rest_drop] at HQ
      have hix := index_at s i i rfl hlt
      cases hq : qtL (s.data.toList.drop i) with
      | some k =>
        rw [hq] at HQ
        have hk := qtL_some hq
        have hk3 := hk.1
        have hkl : i + k ≤ s.size := by have := hk.2.2.1; rw [List.length_drop, Hsz.out] at this; omega
        have HF' := Lib.hid (findAt_qt HF.out hq)
        have Hq := Lib.hid hq
        clear hk hq
        go_wp2_with (go_at_call 98; refine HQ.out.mono ?_; rw [Option.getD_some]; rintro e w2 ⟨rfl, hb2⟩)
        go_roundw
        case rel =>
          exact ⟨i + k, by go_num, hkl, HF', below_step hb hb2 hb.size⟩
        case measure => simp [intOf]; omega
      | none =>
        rw [hq] at HQ
        by_cases hc : s[i]'hlt = c
        · have HE := Lib.hid (findAt_hit HF.out (by rw [get_list hlt, hc]) hq)
          have hzz : (((s[i]'hlt).toNat : Int) == z) = true := by rw [hc, Hz.out]; simp
          clear hq hc
          go_wp2_with (go_at_call 98; refine HQ.out.mono ?_; rw [Option.getD_none]; rintro e w2 ⟨rfl, hb2⟩)
          go_ret
          exact ⟨by rw [HE.out]; rfl, below_step hb hb2 hb.size⟩
        · have HF' := Lib.hid (findAt_byte HF.out (get_list hlt) hq hc)
          have hzz : (((s[i]'hlt).toNat : Int) == z) = false := beq_eq_false_iff_ne.2 (fun e => hc (UInt8.toNat_inj.1 (by have := Hz.out; omega)))
          clear hq
          go_wp2_with (go_at_call 98; refine HQ.out.mono ?_; rw [Option.getD_none]; rintro e w2 ⟨rfl, hb2⟩)
          go_roundw
          case rel =>
            exact ⟨i + 1, by go_num, by omega, HF', below_step hb hb2 hb.size⟩
          case measure => simp [intOf]; omega
    · have HE := Lib.hid (findAt_end HF.out (by rw [Hsz.out]; exact hlt))
      go_wp2
      go_ret
      exact ⟨by rw [HE.out]; rfl, hb⟩

theorem zero256 : ∀ w, (zeroValue 140).run Tryz.prog w = .ok (.agg (Array.replicate 256 (.bool false))) w := by intro w; kernel_rfl
theorem size256 : (Tryz.prog.info? 140).map (·.size) = some 256 := by kernel_rfl
theorem lTrim_any (s : ByteArray) (w : World) (hs : s.size ≤ 1000000) :
    Calls Tryz.prog 68 #[.string s, .string ⟨#[32, 9]⟩] w fun e w' => e = .returned (.string (bytesOf (trimL s.data.toList))) ∧ Below w.heap.size w w' := by
  rcases Nat.eq_zero_or_pos s.size with h0 | h0
  · have h := Any.strings_Trim_empty Tryz.lays160 s ⟨#[32, 9]⟩ w (.inl h0)
    obtain rfl := empty_of h0
    refine h.mono ?_
    rintro e w' ⟨rfl, rfl⟩
    exact ⟨rfl, Below.refl _ _⟩
  · have h := Any.strings_Trim_set Tryz.lays160 zero256 size256 s ⟨#[32, 9]⟩ w (show 2 ≤ 2 by omega) h0 (by omega) (show 2 < 4294967281 by omega) (fun j b hj => by
      match j, hj with
      | 0, hj => simp at hj; subst hj; decide
      | 1, hj => simp at hj; subst hj; decide
      | j + 2, hj => simp at hj)
    refine h.mono ?_
    rintro e w' ⟨rfl, q, rfl⟩
    refine ⟨?_, below_drewN (((Below.refl _ _).alloc (Nat.le_refl _) _).alloc (by simp) _) _⟩
    rw [show (ByteArray.mk #[32, 9]).data.toList = [32, 9] from rfl, trimS_eq]; rfl

set_option maxRecDepth 100000 in
set_option maxHeartbeats 1000000 in
theorem wline_any (s : ByteArray) (w : World) (hT : Tabs w) (hs : s.size ≤ 1000000) :
    Calls Tryz.prog 36 #[.string s] w fun e w' => e = .returned (.string (bytesOf (lineU s.data.toList))) ∧ Below w.heap.size w w' := by
  have HF := Lib.hid (wfind_any s 35 35 rfl w hT hs)
  have hlt := fun i h => (List.getElem?_eq_some_iff.1 (findP_lt (c := 35) _ s.data.toList (Nat.le_refl _) i h)).1
  rw [size_data] at hlt
  have HU : Hid (lineU s.data.toList = trimL (s.data.toList.take ((findP 35 s.data.toList).getD s.data.toList.length))) := rfl
  cases hq : findP 35 s.data.toList with
  | none =>
    rw [hq] at HF HU
    rw [Option.getD_none, List.take_length] at HU
    clear hq hlt
    go_enter Tryz.func36, Tryz.ntmps36
    go_wp2_with (first | (go_at_call 67; refine HF.out.mono ?_; rw [show fv none = -1 from rfl]; rintro e w2 ⟨rfl, hb2⟩) | (go_at_call 68; refine (lTrim_any s _ hs).mono ?_; rintro e w3 ⟨rfl, hb3⟩))
    go_ret
    exact ⟨by rw [HU.out]; rfl, below_two hb2 hb3⟩
  | some i =>
    have hi := hlt i hq
    rw [hq] at HF HU
    rw [Option.getD_some, ← take_extract] at HU
    clear hq hlt
    go_enter Tryz.func36, Tryz.ntmps36
    go_wp2_with (first | (go_at_call 67; refine HF.out.mono ?_; rw [show fv (some i) = (i : Int) from rfl]; rintro e w2 ⟨rfl, hb2⟩) | (go_at_call 68; refine (lTrim_any (s.extract 0 i) _ (by rw [ByteArray.size_extract]; omega)).mono ?_; rintro e w3 ⟨rfl, hb3⟩))
    go_ret
    exact ⟨by rw [HU.out, take_extract]; rfl, below_two hb2 hb3⟩
end Go.Proofs.YtejccafolfeabaaGreatDoor

/-
  WORDS FOR MEMORY, props: the steps by which a database is made: a name more, a set more, a set stored. No program's walk.
-/
namespace Go.Proofs.YtejccafolfeabaaGreatDoor
open Go.RowKit Go.Maps

section
variable {w : World} {base p x : Nat} {An : Option Addr} {nn cn bm nm : Nat} {D : DataW Unit} {As : Option Addr} {ns cs : Nat} {xs : List (Option Addr × Nat × Nat)} {N : List (List UInt8)} {S : List (List (Int × Int))}
theorem DbX.lenN (h : DbX w base p x An nn cn bm nm D As ns cs xs N S) : N.length = nn := by simpa using h.hn.len
theorem DbX.lenS (h : DbX w base p x An nn cn bm nm D As ns cs xs N S) : xs.length = ns ∧ S.length = ns := by
  have := h.hs.len; rw [List.length_map] at this
  exact ⟨this, by rw [← h.hx.len]; exact this⟩
theorem types_ne : (9 : TypeId) ≠ 37 ∧ (9 : TypeId) ≠ 70 ∧ (37 : TypeId) ≠ 70 ∧ (9 : TypeId) ≠ 80 ∧ (37 : TypeId) ≠ 80 ∧ (70 : TypeId) ≠ 80 := by decide
/-- Rows of ranges from base on stand as they stood. -/
def KeepR (base : Nat) (w w' : World) : Prop := ∀ (g : Nat) (cur : Array Value), base ≤ g → w.heap[g]? = some (.cells cur 80 (0, 0)) → w'.heap[g]? = w.heap[g]?
theorem KeepR.trans {base : Nat} {a b c : World} (h : KeepR base a b) (k : KeepR base b c) : KeepR base a c := fun g cur hg e => (k g cur hg ((h g cur hg e).trans e)).trans (h g cur hg e)
theorem KeepR.below {base : Nat} {w w' : World} (hb : Below w.heap.size w w') : KeepR base w w' := fun g _ _ e => hb.block g (Array.getElem?_eq_some_iff.1 e).1
theorem KeepR.grown {base : Nat} {w w' : World} {row : Option Nat} (hg : w.grownBy w' row) (hr : ∀ g (q : Array Value), row = some g → w.heap[g]? ≠ some (.cells q 80 (0, 0))) : KeepR base w w' := fun g cur _ e => hg.block g (Array.getElem?_eq_some_iff.1 e).1 fun k => hr g cur k.symm e
theorem KeepR.setCell {base : Nat} {w : World} {q : Addr} (hq : ∀ r : Array Value, w.heap[q.block]? ≠ some (.cells r 80 (0, 0))) (u : Value) : KeepR base w (w.setCell q u) := fun g cur _ e => Below.heap_setCell w q u g fun k => hq cur (by rw [← k]; exact e)
theorem Own.keepR {base b : Nat} {w w' : World} {A : Option Addr} {n c : Nat} {cs : List (List Value)} (h : Own w b 80 2 A n c cs) (k : KeepR base w w') (hb : base ≤ b) : Own w' b 80 2 A n c cs := by
  refine h.keep fun a ha => ?_
  rcases h.2.2.2 with ⟨h0, _⟩ | ⟨g1, cap1, cur1, hv1, hg, hh1, _⟩
  · injection h0 with h0; rw [h0] at ha; cases ha
  · injection hv1 with hv1; rw [hv1] at ha; injection ha with ha; subst ha
    exact k g1 cur1 (by omega) hh1
/-- Behind the map's update: all but the map. -/
theorem DbX.mapped {w1 : World} (h : DbX w base p x An nn cn bm nm D As ns cs xs N S) (hg : w.grownBy w1 (some bm)) :
    Blk w1 p 70 #[.slice An nn cn, .map (some bm), .slice As ns cs, .slice none 0 0] ∧ Own w1 base 9 1 An nn cn (N.map encNm) ∧ Own w1 base 37 1 As ns cs (xs.map encSl) ∧ Sets w1 base xs S :=
  ⟨h.blk.grown hg (fun e => h.blk.offMap h.hm (by injection e)), h.hn.grown hg (fun a ha e => h.hn.offMap h.hm a ha (by injection e)), h.hs.grown hg (fun a ha e => h.hs.offMap h.hm a ha (by injection e)),
    h.hx.grown hg (fun g q e => by injection e with e; subst e; exact map_not_R h.hm q)⟩
/-- A name more. -/
theorem DbX.named {w1 w3 : World} {o : Obj} {n : List UInt8} {k : Int} {A3 : Option Addr} {c3 : Nat} (h : DbX w base p x An nn cn bm nm D As ns cs xs N S) (hk : k = N.length) (hown : w1.ownsMap Tryz.prog 9 (plainElem (H := Unit) Tryz.prog 3) bm (nm + 1) (D.put (.string n) (.lit (.int .i64 k))))
    (hg1 : w.grownBy w1 (some bm)) (ho3 : Own w3 base 9 1 A3 (nn + 1) c3 ((N ++ [n]).map encNm)) (hg3 : (w1.alloc o).grownBy w3 (An.map (·.block))) (hA3 : A3 = An ∨ A3 = some ⟨(w1.alloc o).heap.size, 0, none⟩) (hx : x < w.heap.size) (hB : base ≤ w.heap.size) :
    Blk w3 p 70 #[.slice An nn cn, .map (some bm), .slice As ns cs, .slice none 0 0] ∧ DbX (w3.setCell ⟨p, 0, none⟩ (.slice A3 (nn + 1) c3)) base p x A3 (nn + 1) c3 bm (nm + 1) (D.put (.string n) (.lit (.int .i64 k))) As ns cs xs (N ++ [n]) S ∧
      KX base x w (w3.setCell ⟨p, 0, none⟩ (.slice A3 (nn + 1) c3)) ∧ KeepR base w (w3.setCell ⟨p, 0, none⟩ (.slice A3 (nn + 1) c3)) := by
  obtain ⟨t1, t2, t3, t4, t5, t6⟩ := types_ne
  obtain ⟨b1, n1, s1, x1⟩ := h.mapped hg1
  have hg := grown_alloc hg3
  have hpA : ∀ a, An = some a → a.block ≠ p := n1.off b1 t2
  have b3 : Blk w3 p 70 #[.slice An nn cn, .map (some bm), .slice As ns cs, .slice none 0 0] := b1.grown hg (fun e => by cases An with | none => cases e | some a => simp at e; exact hpA a rfl e.symm)
  have s3 : Own w3 base 37 1 As ns cs (xs.map encSl) := s1.grown hg (fun a ha e => by cases An with | none => cases e | some b => simp at e; exact n1.apart s1 t1 b a rfl ha e.symm)
  have x3 : Sets w3 base xs S := x1.grown hg (fun g q e => own_not_R n1 t4 g q e)
  have m3 := map_kept hown hg (fun e => by cases An with | none => cases e | some a => simp at e; exact n1.offMap hown a rfl e.symm)
  have hsz1 := hg1.size
  have hxA3 : ∀ a, A3 = some a → a.block ≠ x := fun a ha => by
    rcases hA3 with e | e
    · exact h.xn a (by rw [← e]; exact ha)
    · rw [e] at ha; injection ha with ha; subst ha; simp; omega
  refine ⟨b3, ⟨?_, h.pb, ?_, ?_, ?_, h.bb, h.hD.put n hk, ?_, ?_, h.xp, h.xb, hxA3, h.xs_⟩, ?_, ?_⟩
  · have := b3.set_ 0 (.slice A3 (nn + 1) c3)
    simpa using this
  · exact ho3.setCell (fun a ha => ho3.off b3 t2 a ha) _
  · exact map_setCell m3 (fun e => b3.offMap m3 e.symm) _
  · have := h.nle; omega
  · exact s3.setCell (fun a ha => s3.off b3 t3 a ha) _
  · exact x3.setCell (blk_not_R b3 t6) _
  · refine (KX.grown hg1 hB (fun k hk => by injection hk with hk; subst hk; exact ⟨h.bb, fun e => h.xb e.symm⟩)).trans ((KX.grown hg (by omega) (fun k hk => ?_)).trans (KX.setCell w3 h.pb (fun e => h.xp e.symm) _))
    cases An with
    | none => cases hk
    | some a => simp at hk; subst hk; exact ⟨(n1.lt a rfl).1, h.xn a rfl⟩
  · exact (KeepR.grown hg1 (fun g q e => by injection e with e; subst e; exact map_not_R h.hm q)).trans ((KeepR.grown hg (fun g q e => own_not_R n1 t4 g q e)).trans (KeepR.setCell (blk_not_R b3 t6) _))
/-- A set more: none yet. -/
theorem DbX.moreSet {w3 : World} {o : Obj} {A3 : Option Addr} {c3 : Nat} (h : DbX w base p x An nn cn bm nm D As ns cs xs N S) (ho3 : Own w3 base 37 1 A3 (ns + 1) c3 ((xs ++ [(none, 0, 0)]).map encSl))
    (hg3 : (w.alloc o).grownBy w3 (As.map (·.block))) (hA3 : A3 = As ∨ A3 = some ⟨(w.alloc o).heap.size, 0, none⟩) (hx : x < w.heap.size) (hB : base ≤ w.heap.size) :
    Blk w3 p 70 #[.slice An nn cn, .map (some bm), .slice As ns cs, .slice none 0 0] ∧ DbX (w3.setCell ⟨p, 2, none⟩ (.slice A3 (ns + 1) c3)) base p x An nn cn bm nm D A3 (ns + 1) c3 (xs ++ [(none, 0, 0)]) N (S ++ [[]]) ∧
      KX base x w (w3.setCell ⟨p, 2, none⟩ (.slice A3 (ns + 1) c3)) ∧ KeepR base w (w3.setCell ⟨p, 2, none⟩ (.slice A3 (ns + 1) c3)) := by
  obtain ⟨t1, t2, t3, t4, t5, t6⟩ := types_ne
  have hg := grown_alloc hg3
  have b3 : Blk w3 p 70 #[.slice An nn cn, .map (some bm), .slice As ns cs, .slice none 0 0] := h.blk.grown hg (fun e => by cases As with | none => cases e | some a => simp at e; exact h.hs.off h.blk t3 a rfl e.symm)
  have n3 : Own w3 base 9 1 An nn cn (N.map encNm) := h.hn.grown hg (fun a ha e => by cases As with | none => cases e | some b => simp at e; exact h.hn.apart h.hs t1 a b ha rfl e)
  have x3 : Sets w3 base xs S := h.hx.grown hg (fun g q e => own_not_R h.hs t5 g q e)
  have m3 := map_kept h.hm hg (fun e => by cases As with | none => cases e | some a => simp at e; exact h.hs.offMap h.hm a rfl e.symm)
  have hxA3 : ∀ a, A3 = some a → a.block ≠ x := fun a ha => by
    rcases hA3 with e | e
    · exact h.xs_ a (by rw [← e]; exact ha)
    · rw [e] at ha; injection ha with ha; subst ha; simp; omega
  refine ⟨b3, ⟨?_, h.pb, ?_, ?_, h.nle, h.bb, h.hD, ?_, ?_, h.xp, h.xb, h.xn, hxA3⟩, ?_, ?_⟩
  · have := b3.set_ 2 (.slice A3 (ns + 1) c3)
    simpa using this
  · exact n3.setCell (fun a ha => n3.off b3 t2 a ha) _
  · exact map_setCell m3 (fun e => b3.offMap m3 e.symm) _
  · exact ho3.setCell (fun a ha => ho3.off b3 t3 a ha) _
  · exact (x3.setCell (blk_not_R b3 t6) _).snoc (Own.nil_ _ _ _ _)
  · refine (KX.grown hg hB (fun k hk => ?_)).trans (KX.setCell w3 h.pb (fun e => h.xp e.symm) _)
    cases As with
    | none => cases hk
    | some a => simp at hk; subst hk; exact ⟨(h.hs.lt a rfl).1, h.xs_ a rfl⟩
  · exact (KeepR.grown hg (fun g q e => own_not_R h.hs t5 g q e)).trans (KeepR.setCell (blk_not_R b3 t6) _)
theorem Own.storedSl {w : World} {base : Nat} {e : TypeId} {g n c k : Nat} {xs : List (Option Addr × Nat × Nat)} (h : Own w base e 1 (some ⟨g, 0, none⟩) n c (xs.map encSl)) (hk : k < xs.length) (y : Option Addr × Nat × Nat) :
    Own (w.setCell ⟨g, k, none⟩ (.slice y.1 y.2.1 y.2.2)) base e 1 (some ⟨g, 0, none⟩) n c ((xs.set k y).map encSl) := by
  have h1 := h.stored (k := k) (j := 0) (x := encSl xs[k]) (by simp [hk]) (by omega) (.slice y.1 y.2.1 y.2.2)
  rw [Nat.mul_one, Nat.add_zero] at h1
  have e : (xs.map encSl).set k ((encSl xs[k]).set 0 (.slice y.1 y.2.1 y.2.2)) = (xs.set k y).map encSl := by rw [List.map_set]; rfl
  rw [e] at h1
  exact h1
theorem Own.cell' {w : World} {base n c g k : Nat} {e : TypeId} {A : Option Addr} {xs : List (Option Addr × Nat × Nat)} {y : Option Addr × Nat × Nat} (h : Own w base e 1 A n c (xs.map encSl)) (hA : A = some ⟨g, 0, none⟩) (hy : xs[k]? = some y) : w.cell? ⟨g, k, none⟩ = some (.slice y.1 y.2.1 y.2.2) := by
  subst hA
  have := h.cell (k := k) (j := 0) (x := encSl y) (u := .slice y.1 y.2.1 y.2.2) (by rw [List.getElem?_map, hy]; rfl) rfl
  simpa using this
/-- A set stored. -/
theorem DbX.storeSet {g k b' : Nat} {y : Option Addr × Nat × Nat} {l : List (Int × Int)} (h : DbX w base p x An nn cn bm nm D (some ⟨g, 0, none⟩) ns cs xs N S) (hk : k < ns) (ho : Own w b' 80 2 y.1 y.2.1 y.2.2 (l.map encR)) (hb : base ≤ b') :
    DbX (w.setCell ⟨g, k, none⟩ (.slice y.1 y.2.1 y.2.2)) base p x An nn cn bm nm D (some ⟨g, 0, none⟩) ns cs (xs.set k y) N (S.set k l) ∧ KX base x w (w.setCell ⟨g, k, none⟩ (.slice y.1 y.2.1 y.2.2)) := by
  obtain ⟨t1, t2, t3, t4, t5, t6⟩ := types_ne
  have hgp : g ≠ p := h.hs.off h.blk t3 _ rfl
  refine ⟨⟨h.blk.far (p := ⟨g, k, none⟩) (Ne.symm hgp) _, h.pb, ?_, ?_, h.nle, h.bb, h.hD, ?_, ?_, h.xp, h.xb, h.xn, h.xs_⟩, KX.setCell w (q := ⟨g, k, none⟩) (h.hs.lt _ rfl).1 (h.xs_ ⟨g, 0, none⟩ rfl) _⟩
  · exact h.hn.setCell (p := ⟨g, k, none⟩) (fun a ha e => h.hn.apart h.hs t1 a ⟨g, 0, none⟩ ha rfl e) _
  · exact map_setCell h.hm (q := ⟨g, k, none⟩) (fun e => h.hs.offMap h.hm ⟨g, 0, none⟩ rfl e.symm) _
  · exact h.hs.storedSl (by rw [h.lenS.1]; exact hk) y
  · refine Sets.set_ (h.hx.setCell (q := ⟨g, k, none⟩) (fun r => own_not_R h.hs t5 g r rfl) _) ?_
    exact (ho.setCell (p := ⟨g, k, none⟩) (fun a ha e => ho.apart h.hs (Ne.symm t5) a ⟨g, 0, none⟩ ha rfl e) _).more hb
end
end Go.Proofs.YtejccafolfeabaaGreatDoor

/-
  runes.(*reader).item.
-/
namespace Go.Proofs.YtejccafolfeabaaGreatDoor
open Go.RowKit

/-- What item leaves. -/
def ItemEnd (b : Nat) (s : ByteArray) (r : Except (Int × Nat) ((Int × Int) × Nat)) (e : Ending) (w' : World) : Prop :=
  match r with
  | .error x => e = faultEnd x
  | .ok (x, q) => e = .returned (.agg #[.int .i32 x.1, .int .i32 x.2]) ∧ Rdr w' b s q
theorem ItemEnd.err {b : Nat} {s : ByteArray} {r : Except (Int × Nat) ((Int × Int) × Nat)} {x : Int × Nat} {w' : World} (h : r = .error x) : ItemEnd b s r (faultEnd x) w' := by rw [h]; exact rfl
theorem ItemEnd.fine {b : Nat} {s : ByteArray} {r : Except (Int × Nat) ((Int × Int) × Nat)} {x y : Int} {q : Nat} {w' : World} (h : r = .ok ((x, y), q)) (hr : Rdr w' b s q) : ItemEnd b s r (.returned (.agg #[.int .i32 x, .int .i32 y])) w' := by rw [h]; exact ⟨rfl, hr⟩
theorem Tabs.grown {w w' : World} {b a : Nat} {s : ByteArray} (h : Tabs w) (hr : Rdr w b s a) (hg : w.grownBy w' (some b)) : Tabs w' := by
  have h0 := hr.c0
  have n1 : 1 ≠ b := fun e => by subst e; have := h.1 0 (by omega); rw [h0] at this; cases this
  have n2 : 2 ≠ b := fun e => by subst e; have := (h.2 0 (by omega)).1; rw [show 2 * 0 = 0 from rfl, h0] at this; cases this
  exact ⟨fun c hc => hg.cell (h.1 c hc) (fun e => n1 (by simpa using e)), fun i hi => ⟨hg.cell (h.2 i hi).1 (fun e => n2 (by simpa using e)), hg.cell (h.2 i hi).2 (fun e => n2 (by simpa using e))⟩⟩

set_option maxRecDepth 100000 in
set_option maxHeartbeats 1000000 in
theorem item_any (s : ByteArray) (a b : Nat) (w : World) (hT : Tabs w) (hR : Rdr w b s a) (ha : a ≤ s.size) (hs : s.size ≤ 1000000) :
    Calls Tryz.prog 107 #[.pointer (some ⟨b, 0, none⟩)] w fun e w' => w.grownBy w' (some b) ∧ ItemEnd b s (itemP s a) e w' := by
  have c0 := hR.c0
  have c1 := hR.c1
  have hlt : b < w.heap.size := hR.lt
  have HR1 := Lib.hid (fun W hW hr => rune_any s a b W hW hr ha hs)
  have Hunf : Hid (itemP s a = _) := Lib.hid (show itemP s a = (match runeP s a with
    | .error e => .error e
    | .ok (lo, p) =>
      match (if (rest s p).head? = some 45 then runeP s (p + 1) else .ok (lo, p)) with
      | .error e => .error e
      | .ok (hi, q) => if hi < lo then .error (20, a) else if (rest s q).head? ≠ none ∧ (rest s q).head? ≠ some 32 then .error (21, q) else .ok ((lo, hi), q)) from rfl)
  have Hok : Hid (∀ (q : Nat) (r : Int), runeP s a = .ok (r, q) → a < q ∧ q ≤ s.size ∧ 0 ≤ r ∧ r ≤ 1114111) := Lib.hid (fun q r h => runeP_ok h)
  have Hbox : Hid (∀ W : World, Rdr W b s a → Rdr (W.alloc (.cells #[.int .i32 0, .int .i32 0] 80)) b s a) := Lib.hid (fun W h => Blk.alloc h _)
  generalize runeP s a = Q at HR1 Hunf Hok
  cases Q with
  | error x =>
    go_enter Tryz.func107, Tryz.ntmps107
    go_wp2_with fail
    refine (HR1.out _ (hT.below ((Below.refl _ _).alloc (Nat.le_refl _) _)) (Hbox.out _ hR)).mono ?_
    rintro e w2 ⟨hg, rfl⟩
    exact ⟨rfl, only_trans (only_alloc (only_refl _ _) _) hg, ItemEnd.err (x := x) Hunf.out⟩
  | ok y =>
    obtain ⟨lo, p⟩ := y
    obtain ⟨hp1, hp2, hl0, hl1⟩ := Hok.out _ _ rfl
    clear Hok
    go_enter Tryz.func107, Tryz.ntmps107
    go_wp2_with fail
    refine (HR1.out _ (hT.below ((Below.refl _ _).alloc (Nat.le_refl _) _)) (Hbox.out _ hR)).mono ?_
    rintro e w2 ⟨hg, rfl, hr2⟩
    have hne : b ≠ w.heap.size := by omega
    have hbox2 : Blk w2 w.heap.size 80 #[.int .i32 0, .int .i32 0] := (Blk.new w 80 _).grown hg (by simp; omega)
    have hg2 : w.grownBy w2 (some b) := only_trans (only_alloc (only_refl _ _) _) hg
    have hT2 : Tabs w2 := hT.grown hR hg2
    clear hg c0 c1
    have r0 : w2.cell? ⟨w.heap.size, 0, none⟩ = some (.int .i32 0) := hbox2.cell 0
    have r1 : w2.cell? ⟨w.heap.size, 1, none⟩ = some (.int .i32 0) := hbox2.cell 1
    have q0 := hbox2.frozen 0
    have q1 := hbox2.frozen 1
    have c0 := hr2.c0
    have c1 := hr2.c1
    have f1 := hr2.f1
    by_cases hdash : (rest s p).head? = some 45
    · have HI2 : Hid (itemP s a = (match runeP s (p + 1) with
        | .error e => .error e
        | .ok (hi, q) => if hi < lo then .error (20, a) else if (rest s q).head? ≠ none ∧ (rest s q).head? ≠ some 32 then .error (21, q) else .ok ((lo, hi), q))) := Lib.hid (Hunf.out.trans (by simp only [if_pos hdash]))
      have hps : p < s.size := by
        rcases Nat.lt_or_ge p s.size with h | h
        · exact h
        · rw [rest_none h] at hdash; simp at hdash
      have hdb : (((s[p]'hps).toNat : Int) == 45) = true := by
        rw [rest_head hps] at hdash; injection hdash with e; rw [e]; rfl
      have HR3 := Lib.hid (fun W hW hr => rune_any s (p + 1) b W hW hr (by omega) hs)
      have Hok2 : Hid (∀ (q : Nat) (r : Int), runeP s (p + 1) = .ok (r, q) → p + 1 < q ∧ q ≤ s.size ∧ 0 ≤ r ∧ r ≤ 1114111) := Lib.hid (fun q r h => runeP_ok h)
      clear hdash
      generalize runeP s (p + 1) = Q2 at HI2 HR3 Hok2
      cases Q2 with
      | error x =>
        go_wp2_with fail
        go_quiet (fail)
        go_wp2_with fail
        have hg3 : w.grownBy ((w2.drewN nq).setCell ⟨b, 1, none⟩ (.int .i64 ((p : Int) + 1))) (some b) := only_setCell (only_drewN hg2 _) (.inl rfl) _
        refine (HR3.out _ (hT.grown hR hg3) ((hr2.drewN _).set' _ _ (by omega))).mono ?_
        rintro e w3 ⟨hg, rfl⟩
        exact ⟨rfl, only_trans hg3 hg, ItemEnd.err (x := x) HI2.out⟩
      | ok y =>
        obtain ⟨hi, q⟩ := y
        obtain ⟨hq1, hq2, hh0, hh1⟩ := Hok2.out _ _ rfl
        clear Hok2
        have HI : Hid (itemP s a = if hi < lo then .error (20, a) else if (rest s q).head? ≠ none ∧ (rest s q).head? ≠ some 32 then .error (21, q) else .ok ((lo, hi), q)) := Lib.hid HI2.out
        clear HI2
        go_wp2_with fail
        go_quiet (fail)
        clear hdb
        go_wp2_with fail
        have hg3 : w.grownBy ((w2.drewN nq).setCell ⟨b, 1, none⟩ (.int .i64 ((p : Int) + 1))) (some b) := only_setCell (only_drewN hg2 _) (.inl rfl) _
        have hbx3 : Blk ((w2.drewN nq).setCell ⟨b, 1, none⟩ (.int .i64 ((p : Int) + 1))) w.heap.size 80 #[.int .i32 0, .int .i32 0] := Blk.far (hbox2.drewN _) (fun e => hne e.symm) _
        refine (HR3.out _ (hT.grown hR hg3) ((hr2.drewN _).set' _ _ (by omega))).mono ?_
        rintro e w3 ⟨hg, rfl, hr3⟩
        have hbx := hbx3.grown hg (fun e => hne (by simpa using e.symm))
        have hg4 := only_trans hg3 hg
        clear hg3 hg hbx3 hr2 hg2 hbox2 r0 r1 q0 q1 c0 c1 f1 hT2
        have hr2 := hr3
        have hg2 := hg4
        clear hr3 hg4
        have r0 : w3.cell? ⟨w.heap.size, 0, none⟩ = some (.int .i32 0) := hbx.cell 0
        have r1 : w3.cell? ⟨w.heap.size, 1, none⟩ = some (.int .i32 0) := hbx.cell 1
        have q0 := hbx.frozen 0
        have q1 := hbx.frozen 1
        have c0 := hr2.c0
        have c1 := hr2.c1
        by_cases hlo : hi < lo
        · have HE : Hid (itemP s a = .error (20, a)) := Lib.hid (by rw [HI.out, if_pos hlo])
          go_wp2
          exact ⟨rfl, hg2, ItemEnd.err (x := (20, a)) HE.out⟩
        · have hlo' : lo ≤ hi := by omega
          clear hlo
          by_cases hq : q < s.size
          · by_cases hb32 : s[q]'hq = 32
            · have HE : Hid (itemP s a = .ok ((lo, hi), q)) := Lib.hid (by rw [HI.out, if_neg (by omega), rest_head hq, hb32, if_neg (by simp)])
              have hqb : (((s[q]'hq).toNat : Int) != 32) = false := by rw [hb32]; rfl
              clear hb32
              go_wp2_with fail
              go_quiet (fail)
              go_wp2
              refine bodyPost_ret (v := .agg #[.int .i32 lo, .int .i32 hi]) (by simp [results, Tryz.results107, go_sem, r0, r1]) rfl ⟨only_setCell (only_setCell (only_drewN hg2 _) (.inr (Nat.le_refl _)) _) (.inr (Nat.le_refl _)) _, ItemEnd.fine HE.out ?_⟩
              exact Blk.far (Blk.far (hr2.drewN _) hne _) hne _
            · have HE : Hid (itemP s a = .error (21, q)) := Lib.hid (by rw [HI.out, if_neg (by omega), rest_head hq, if_pos ⟨by simp, by simpa using hb32⟩])
              have hqb : (((s[q]'hq).toNat : Int) != 32) = true := byte_ne hb32
              clear hb32
              go_wp2_with fail
              go_quiet (fail)
              go_wp2
              exact ⟨rfl, only_drewN hg2 _, ItemEnd.err (x := (21, q)) HE.out⟩
          · have HE : Hid (itemP s a = .ok ((lo, hi), q)) := Lib.hid (by rw [HI.out, if_neg (by omega), rest_none (by omega), if_neg (by simp)])
            have hd : decide (q < s.size) = false := decide_eq_false hq
            clear hq
            go_wp2_with fail
            go_quiet (fail)
            go_wp2
            refine bodyPost_ret (v := .agg #[.int .i32 lo, .int .i32 hi]) (by simp [results, Tryz.results107, go_sem, r0, r1]) rfl ⟨only_setCell (only_setCell (only_drewN hg2 _) (.inr (Nat.le_refl _)) _) (.inr (Nat.le_refl _)) _, ItemEnd.fine HE.out ?_⟩
            exact Blk.far (Blk.far (hr2.drewN _) hne _) hne _
    · have HI : Hid (itemP s a = if lo < lo then .error (20, a) else if (rest s p).head? ≠ none ∧ (rest s p).head? ≠ some 32 then .error (21, p) else .ok ((lo, lo), p)) := Lib.hid (Hunf.out.trans (by simp only [if_neg hdash]))
      by_cases hps : p < s.size
      · have hdb : (((s[p]'hps).toNat : Int) == 45) = false := by rw [beq_eq_false_iff_ne, ← bne_iff_ne]; exact byte_ne (fun e => hdash (by rw [rest_head hps, e]; rfl))
        clear hdash
        go_wp2_with fail
        go_quiet (fail)
        clear hdb
        have hg9 := only_drewN hg2 nq
        have hr9 := hr2.drewN nq
        by_cases hb32 : s[p]'hps = 32
        · have HE : Hid (itemP s a = .ok ((lo, lo), p)) := Lib.hid (by rw [HI.out, if_neg (by omega), rest_head hps, hb32, if_neg (by simp)])
          have hpsb : (((s[p]'hps).toNat : Int) != 32) = false := by rw [hb32]; rfl
          clear hb32
          go_wp2_with fail
          go_quiet (fail)
          go_wp2
          refine bodyPost_ret (v := .agg #[.int .i32 lo, .int .i32 lo]) (by simp [results, Tryz.results107, go_sem, r0, r1]) rfl ⟨only_setCell (only_setCell (only_drewN hg2 _) (.inr (Nat.le_refl _)) _) (.inr (Nat.le_refl _)) _, ItemEnd.fine HE.out ?_⟩
          exact Blk.far (Blk.far (hr2.drewN _) hne _) hne _
        · have HE : Hid (itemP s a = .error (21, p)) := Lib.hid (by rw [HI.out, if_neg (by omega), rest_head hps, if_pos ⟨by simp, by simpa using hb32⟩])
          have hpsb : (((s[p]'hps).toNat : Int) != 32) = true := byte_ne hb32
          clear hb32
          go_wp2_with fail
          go_quiet (fail)
          go_wp2
          exact ⟨rfl, only_drewN hg2 _, ItemEnd.err (x := (21, p)) HE.out⟩
      · have hd : decide (p < s.size) = false := decide_eq_false hps
        have HE : Hid (itemP s a = .ok ((lo, lo), p)) := Lib.hid (by rw [HI.out, if_neg (by omega), rest_none (by omega), if_neg (by simp)])
        clear hdash hps
        go_wp2_with fail
        go_quiet (fail)
        go_wp2_with fail
        go_quiet (fail)
        go_wp2
        refine bodyPost_ret (v := .agg #[.int .i32 lo, .int .i32 lo]) (by simp [results, Tryz.results107, go_sem, r0, r1]) rfl ⟨only_setCell (only_setCell (only_drewN hg2 _) (.inr (Nat.le_refl _)) _) (.inr (Nat.le_refl _)) _, ItemEnd.fine HE.out ?_⟩
        exact Blk.far (Blk.far (hr2.drewN _) hne _) hne _
end Go.Proofs.YtejccafolfeabaaGreatDoor

