/-
 Several texts in one,in their build order: WP2,WP3,Wa,Wb,Wd,DbX,Rdr2,Same,Sort,Txt,PropsY,Fmt,Post,PrsP,PrsL,PrsC,UtfP,GraP,PrsG,GraQ,PrsD,PrsE,Fir,Last,HexR,Bld,Grow,Upper,Repeat,Spell,Join,PropsL,WorP,Ka,Kb,DbK,WorQ,UtfJ,WorR,Dw,LinP,LinQ,LinR,Dl,UtfS,UtfI,UtfL.
-/
import Derived.Deep.DeepMust
import Derived.Shelf.Strings.SlTrimAscii
import Derived.Shelf.SlSortCmp.WholeK
import Derived.Lib.Replace
import Derived.Lib.IndexBytes
import Derived.Deep.LoopGhost
import Derived.Lib.ConvBytes
import Derived.Laws.Bits64b
import Derived.Carry
import Derived.ChangeSame
import Derived.OpenShut
import Derived.ProofKit
import Derived.Deep.SlicePairs
import Derived.SizedLaws
import Derived.ChangeSlices
import Derived.Lib.DecodeN
import Derived.Lib.RuneCountTail
import Derived.Deep.RegionHeld3
import Derived.Shelf.Strings.BuilderK
import Derived.Lib.OthersKept
import Derived.RangeFuncOwn
import Derived.Lib.Builder
import Derived.Lib.FrozenHead2
import Derived.KernelRfl
import Derived.Lib.SpaceU
import Derived.Test.YtdngkienloligaaGreatDoorW0a
/- -/
namespace Go.Proofs.YtdngkienloligaaGreatDoor
def MeetAt (a b : List (Int × Int)) (i j : Nat) : Prop:=i ≤ a.length ∧ j ≤ b.length ∧ meetB a b = meetB (a.drop i) (b.drop j)
theorem meetAt_first (a b : List (Int × Int)) : MeetAt a b 0 0:=⟨by omega,by omega,by rw [List.drop_zero,List.drop_zero]⟩
theorem Nf_drop {l : List (Int × Int)} (k : Nat) (h : Nf l) : Nf (l.drop k):=by
 rw [← List.take_append_drop k l] at h
 exact ((Nf_append _ _).1 h).2.1
theorem drop_at {α : Type} {l : List α} {i : Nat} {x : α} (h : l[i]? = some x) : l.drop i = x :: l.drop (i + 1):=by
 obtain ⟨hlt,e⟩:=List.getElem?_eq_some_iff.1 h
 rw [List.drop_eq_getElem_cons hlt,e]
theorem meetAt_left {a b : List (Int × Int)} {i j : Nat} {x y : Int × Int} (h : MeetAt a b i j) (hb : Nf b) (hx : a[i]? = some x) (hy : b[j]? = some y) (hlt : x.2 < y.1) : MeetAt a b (i + 1) j:=by
 have h1:=(List.getElem?_eq_some_iff.1 hx).1
 refine ⟨h1,h.2.1,?_⟩
 rw [h.2.2,drop_at hx,drop_at hy]
 exact meetB_left (by rw [← drop_at hy];exact Nf_drop j hb) hlt
theorem meetAt_right {a b : List (Int × Int)} {i j : Nat} {x y : Int × Int} (h : MeetAt a b i j) (ha : Nf a) (hx : a[i]? = some x) (hy : b[j]? = some y) (hlt : y.2 < x.1) : MeetAt a b i (j + 1):=by
 have h1:=(List.getElem?_eq_some_iff.1 hy).1
 refine ⟨h.1,h1,?_⟩
 rw [h.2.2,drop_at hx,drop_at hy]
 exact meetB_right (by rw [← drop_at hx];exact Nf_drop i ha) hlt
theorem meetAt_here {a b : List (Int × Int)} {i j : Nat} {x y : Int × Int} (h : MeetAt a b i j) (hx : a[i]? = some x) (hy : b[j]? = some y) (h1 : ¬ x.2 < y.1) (h2 : ¬ y.2 < x.1) : meetB a b = true:=by
 rw [h.2.2,drop_at hx,drop_at hy]
 exact meetB_here h1 h2
theorem meetAt_end {a b : List (Int × Int)} {i j : Nat} (h : MeetAt a b i j) (hij : ¬ i < a.length ∨ ¬ j < b.length) : meetB a b = false:=by
 rw [h.2.2]
 rcases hij with hi | hj
 ·rw [List.drop_of_length_le (by omega)];exact meetB_nil_left _
 ·rw [List.drop_of_length_le (l:=b) (by omega)];exact meetB_nil_right _
def ClashAt (d : DbP) (c : Nat) (l : List (Int × Int)) (k : Nat) : Prop:=∀ q,q < k → q ≠ c → meetB (d.sets.getD q []) l = false
theorem clashAt_first (d : DbP) (c : Nat) (l : List (Int × Int)) : ClashAt d c l 0:=fun q hq=>by omega
theorem clashAt_next {d : DbP} {c : Nat} {l s : List (Int × Int)} {k : Nat} (h : ClashAt d c l k) (hs : d.sets[k]? = some s) (hk : k = c ∨ meetB s l = false) : ClashAt d c l (k + 1):=fun q hq hqc=>by
 rcases Nat.lt_or_ge q k with hlt | hge
 ·exact h q hlt hqc
 ·obtain rfl : q = k:=by omega
  rcases hk with e | e
  ·exact absurd e hqc
  ·rw [List.getD_eq_getElem?_getD,hs];exact e
theorem clashAt_end {d : DbP} {c : Nat} {l : List (Int × Int)} {k : Nat} (h : ClashAt d c l k) (hk : ¬ k < d.sets.length) : d.clash c l = false:=by
 unfold DbP.clash
 rw [List.any_eq_false]
 intro q hq
 have:=List.mem_range.1 hq
 by_cases e : q = c
 ·simp [e]
 ·rw [h q (by omega) e];simp
theorem clash_here {d : DbP} {c : Nat} {l s : List (Int × Int)} {k : Nat} (hs : d.sets[k]? = some s) (hk : k ≠ c) (h : meetB s l = true) : d.clash c l = true:=by
 unfold DbP.clash
 rw [List.any_eq_true]
 refine ⟨k,List.mem_range.2 (List.getElem?_eq_some_iff.1 hs).1,?_⟩
 rw [List.getD_eq_getElem?_getD,hs]
 simp [hk,h]
def addS (d : DbP) (u : List UInt8) : Except Int DbP :=
 match findP 59 u with
 | none=>.error 42
 | some j=>addL d (trimL (u.drop (j + 1))) (u.take j)
def lineU (l : List UInt8) : List UInt8:=trimL (l.take (hashP l))
theorem step_nil {d : DbP} {l : List UInt8} (h : lineU l = []) : stepL d l = .ok d:=by
 unfold stepL lineP
 simp only [show trimL (l.take (hashP l)) = [] from h,if_true]
theorem step_add {d : DbP} {l : List UInt8} (h : lineU l ≠ []) : stepL d l = addS d (lineU l):=by
 unfold stepL lineP addS
 simp only [show trimL (l.take (hashP l)) = lineU l from rfl,if_neg h]
 cases findP 59 (lineU l) with
 | none=>rfl
 | some j=>rfl
def nbrP (d : DbP) (n : List UInt8) : Except Int Nat:=match d.num n with
 | some c=>.ok c
 | none=>if 64 ≤ d.names.length then .error 6 else .ok d.names.length
def putP (d : DbP) (n : List UInt8) (c : Nat) (l : List (Int × Int)) : DbP :=
 if c = d.names.length then ⟨d.names ++ [n],d.sets ++ [orR [] l]⟩ else ⟨d.names,d.sets.set c (orR (d.sets.getD c []) l)⟩
theorem addS_none {d : DbP} {u : List UInt8} (h : findP 59 u = none) : addS d u = .error 42:=by unfold addS;rw [h]
section
variable {d : DbP} {u : List UInt8} {j : Nat} (h : findP 59 u = some j)
include h
theorem addS_name (hn : nameL (trimL (u.drop (j + 1))) = false ∨ trimL (u.drop (j + 1)) = otherL) : addS d u = .error 40:=by
 unfold addS addL;rw [h];simp only [if_pos hn]
theorem addS_parse (hn : ¬ (nameL (trimL (u.drop (j + 1))) = false ∨ trimL (u.drop (j + 1)) = otherL)) {e : Int} (hp : parseE (spcL (u.take j)) = .error e) : addS d u = .error e:=by
 unfold addS addL;rw [h];simp only [if_neg hn,hp]
theorem addS_many (hn : ¬ (nameL (trimL (u.drop (j + 1))) = false ∨ trimL (u.drop (j + 1)) = otherL)) {l : List (Int × Int)} (hp : parseE (spcL (u.take j)) = .ok l) {e : Int} (hm : nbrP d (trimL (u.drop (j + 1))) = .error e) : addS d u = .error e:=by
 unfold addS addL;rw [h];simp only [if_neg hn,hp]
 unfold nbrP at hm
 cases hq : d.num (trimL (u.drop (j + 1))) with
 | some c=>rw [hq] at hm;cases hm
 | none =>
  rw [hq] at hm
  simp only at hm ⊢
  split at hm
  ·rename_i h6;rw [if_pos h6];injection hm with hm;rw [hm]
  ·cases hm
theorem addS_clash (hn : ¬ (nameL (trimL (u.drop (j + 1))) = false ∨ trimL (u.drop (j + 1)) = otherL)) {l : List (Int × Int)} (hp : parseE (spcL (u.take j)) = .ok l) {c : Nat} (hm : nbrP d (trimL (u.drop (j + 1))) = .ok c) (hc : d.clash c (normR l) = true) : addS d u = .error 41:=by
 unfold addS addL;rw [h];simp only [if_neg hn,hp]
 unfold nbrP at hm
 cases hq : d.num (trimL (u.drop (j + 1))) with
 | some c'=>rw [hq] at hm;injection hm with hm;subst hm;simp only [hc,if_true]
 | none =>
  rw [hq] at hm
  simp only at hm ⊢
  split at hm
  ·cases hm
  ·rename_i h6;rw [if_neg h6];injection hm with hm;subst hm;simp only [hc,if_true]
theorem addS_ok (hn : ¬ (nameL (trimL (u.drop (j + 1))) = false ∨ trimL (u.drop (j + 1)) = otherL)) {l : List (Int × Int)} (hp : parseE (spcL (u.take j)) = .ok l) {c : Nat} (hm : nbrP d (trimL (u.drop (j + 1))) = .ok c) (hc : d.clash c (normR l) = false) : addS d u = .ok (putP d (trimL (u.drop (j + 1))) c (normR l)):=by
 unfold addS addL;rw [h];simp only [if_neg hn,hp]
 unfold nbrP at hm
 cases hq : d.num (trimL (u.drop (j + 1))) with
 | some c' =>
  rw [hq] at hm;injection hm with hm;subst hm
  have:=(List.getElem?_eq_some_iff.1 (idxOf?_some (show d.names.idxOf? _ = some c' from hq))).1
  simp only [hc,putP,if_neg (show ¬ c' = d.names.length by omega)]
  rfl
 | none =>
  rw [hq] at hm
  simp only at hm ⊢
  split at hm
  ·cases hm
  ·rename_i h6;rw [if_neg h6];injection hm with hm;subst hm;simp only [hc,putP,if_true];rfl
end
theorem nbrP_le {d : DbP} {n : List UInt8} {c : Nat} (h : nbrP d n = .ok c) : c ≤ d.names.length:=by
 unfold nbrP at h
 cases hq : d.num n with
 | some c' =>
  rw [hq] at h;injection h with h;subst h
  exact Nat.le_of_lt (List.getElem?_eq_some_iff.1 (idxOf?_some (show d.names.idxOf? _ = some c' from hq))).1
 | none =>
  rw [hq] at h;simp only at h
  split at h
  ·cases h
  ·injection h with h;omega
end Go.Proofs.YtdngkienloligaaGreatDoor
/- -/
namespace Go.Proofs.YtdngkienloligaaGreatDoor
def gotR (S : List (List (Int × Int))) (c k : Nat) : List (Int × Int × Nat):=entG 1 (S.take c) ++ ((S.getD c []).take k).map fun x=>(x.1,x.2,c + 1)
theorem gotR_first (S : List (List (Int × Int))) : gotR S 0 0 = []:=by simp [gotR,entG]
theorem gotR_in {S : List (List (Int × Int))} {c k : Nat} {s : List (Int × Int)} {x : Int × Int} (hs : S[c]? = some s) (hx : s[k]? = some x) : gotR S c (k + 1) = gotR S c k ++ [(x.1,x.2,c + 1)]:=by
 unfold gotR
 rw [List.getD_eq_getElem?_getD,hs,Option.getD_some,List.take_add_one,hx,Option.toList_some,List.map_append,List.append_assoc];rfl
theorem gotR_out {S : List (List (Int × Int))} {c k : Nat} {s : List (Int × Int)} (hs : S[c]? = some s) (hk : ¬ k < s.length) : gotR S c k = gotR S (c + 1) 0:=by
 unfold gotR
 rw [List.getD_eq_getElem?_getD,hs,Option.getD_some,List.take_of_length_le (l:=s) (i:=k) (by omega),List.take_zero,List.map_nil,List.append_nil,List.take_add_one,hs,Option.toList_some,entG_append]
 have hlt:=(List.getElem?_eq_some_iff.1 hs).1
 rw [List.length_take,Nat.min_eq_left (Nat.le_of_lt hlt)]
 simp [entG,Nat.add_comm]
theorem gotR_end {S : List (List (Int × Int))} {c : Nat} (hc : ¬ c < S.length) : gotR S c 0 = entG 1 S:=by
 unfold gotR
 rw [List.take_of_length_le (by omega),List.take_zero,List.map_nil,List.append_nil]
theorem flat_next {S : List (List (Int × Int))} {c : Nat} {s : List (Int × Int)} (hs : S[c]? = some s) : (S.take (c + 1)).flatten = (S.take c).flatten ++ s:=by
 rw [List.take_add_one,hs,Option.toList_some,List.flatten_append];simp
theorem gotR_len {S : List (List (Int × Int))} {c k : Nat} : (gotR S c k).length ≤ lenS S:=by
 unfold gotR
 rw [List.length_append,List.length_map,entG_len,List.length_take]
 rcases Nat.lt_or_ge c S.length with h | h
 ·have hd : S = S.take c ++ S[c] :: S.drop (c + 1):=by rw [← List.drop_eq_getElem_cons h,List.take_append_drop]
  have h2 : lenS S = lenS (S.take c) + lenS (S[c] :: S.drop (c + 1)):=by
   conv=>lhs;rw [hd]
   exact lenS_append _ _
  rw [List.getD_eq_getElem?_getD,List.getElem?_eq_getElem h,Option.getD_some,h2]
  have : lenS (S[c] :: S.drop (c + 1)) = S[c].length + lenS (S.drop (c + 1)):=rfl
  omega
 ·rw [List.getD_eq_getElem?_getD,List.getElem?_eq_none h,List.take_of_length_le h];simp
theorem flat_le (S : List (List (Int × Int))) (c : Nat) : (S.take c).flatten.length ≤ lenS S:=by
 rw [lenS_flat]
 have h2 : lenS S = lenS (S.take c) + lenS (S.drop c):=by
  conv=>lhs;rw [← List.take_append_drop c S]
  exact lenS_append _ _
 omega
structure BinAt (l : List (Int × Int × Nat)) (r : Int) (i j : Nat) : Prop where
 le : i ≤ j
 len : j ≤ l.length
 lo : ∀ t x,t < i → l[t]? = some x → x.2.1 < r
 hi : ∀ t x,j ≤ t → l[t]? = some x → ¬ x.2.1 < r
theorem binAt_first (l : List (Int × Int × Nat)) (r : Int) : BinAt l r 0 l.length:=⟨by omega,by omega,fun t x h=>by omega,fun t x h hx=>by have:=(List.getElem?_eq_some_iff.1 hx).1;omega⟩
theorem hi_rise {l : List (Int × Int × Nat)} (hp : l.Pairwise fun a b=>a.2.1 < b.1) (hl : ∀ y ∈ l,y.1 ≤ y.2.1) {t h : Nat} {x y : Int × Int × Nat} (hth : t < h) (hx : l[t]? = some x) (hy : l[h]? = some y) : x.2.1 < y.2.1:=by
 obtain ⟨h1,e1⟩:=List.getElem?_eq_some_iff.1 hx
 obtain ⟨h2,e2⟩:=List.getElem?_eq_some_iff.1 hy
 have:=List.pairwise_iff_getElem.1 hp t h h1 h2 hth
 have:=hl y (List.mem_of_getElem? hy)
 rw [e1,e2] at *
 omega
theorem binAt_left {l : List (Int × Int × Nat)} {r : Int} {i j h : Nat} {y : Int × Int × Nat} (hb : BinAt l r i j) (hp : l.Pairwise fun a b=>a.2.1 < b.1) (hl : ∀ y ∈ l,y.1 ≤ y.2.1) (h2 : h < j) (hy : l[h]? = some y) (hlt : y.2.1 < r) : BinAt l r (h + 1) j :=
 ⟨h2,hb.len,fun t x ht hx=>by
  rcases Nat.lt_or_ge t h with h3 | h3
  ·have:=hi_rise hp hl h3 hx hy;omega
  ·obtain rfl : t = h:=by omega
   rw [hy] at hx;injection hx with hx;subst hx;exact hlt,hb.hi⟩
theorem binAt_right {l : List (Int × Int × Nat)} {r : Int} {i j h : Nat} {y : Int × Int × Nat} (hb : BinAt l r i j) (hp : l.Pairwise fun a b=>a.2.1 < b.1) (hl : ∀ y ∈ l,y.1 ≤ y.2.1) (h1 : i ≤ h) (h2 : h < j) (hy : l[h]? = some y) (hlt : ¬ y.2.1 < r) : BinAt l r i h :=
 ⟨h1,by have:=hb.len;omega,hb.lo,fun t x ht hx=>by
  rcases Nat.lt_or_ge h t with h3 | h3
  ·have:=hi_rise hp hl h3 hy hx;omega
  ·obtain rfl : t = h:=by omega
   rw [hy] at hx;injection hx with hx;subst hx;exact hlt⟩
theorem binAt_end {l : List (Int × Int × Nat)} {r : Int} {i j : Nat} (hb : BinAt l r i j) (h : ¬ i < j) : l.countP (endB r) = i:=by
 obtain rfl : i = j:=by have:=hb.le;omega
 exact count_place hb.len hb.lo hb.hi
theorem findC_in {l : List (Int × Int × Nat)} {r : Int} {x : Int × Int × Nat} (h : l[l.countP (endB r)]? = some x) : findC l r = if x.1 ≤ r then x.2.2 else 0:=by unfold findC;rw [h]
theorem findC_out {l : List (Int × Int × Nat)} {r : Int} (h : ¬ l.countP (endB r) < l.length) : findC l r = 0:=by unfold findC;rw [List.getElem?_eq_none (by omega)]
def NewAt (L : List (List UInt8)) (i : Nat) (d : DbP) : Prop:=i ≤ L.length ∧ linesGo DbP.first L 0 = linesGo d (L.drop i) i ∧ d.Ok ∧ Apart d.sets
theorem newAt_first (L : List (List UInt8)) : NewAt L 0 DbP.first:=⟨by omega,by rw [List.drop_zero],DbP.first_ok,apart_first⟩
theorem stepL_apart {d d' : DbP} {l : List UInt8} (h : d.Ok) (ha : Apart d.sets) (hs : stepL d l = .ok d') : Apart d'.sets:=by
 have h1 : linesGo d [l] 0 = .ok d':=by simp only [linesGo,hs]
 exact linesGo_apart h ha h1
theorem newAt_next {L : List (List UInt8)} {i : Nat} {d d' : DbP} {l : List UInt8} (h : NewAt L i d) (hl : L[i]? = some l) (hs : stepL d l = .ok d') : NewAt L (i + 1) d' :=
 ⟨(List.getElem?_eq_some_iff.1 hl).1,by rw [h.2.1,drop_at hl];simp only [linesGo,hs],stepL_ok h.2.2.1 hs,stepL_apart h.2.2.1 h.2.2.2 hs⟩
theorem newAt_err {L : List (List UInt8)} {i : Nat} {d : DbP} {l : List UInt8} {e : Int} (h : NewAt L i d) (hl : L[i]? = some l) (hs : stepL d l = .error e) : linesGo DbP.first L 0 = .error (e,i + 1):=by
 rw [h.2.1,drop_at hl];simp only [linesGo,hs]
theorem newAt_end {L : List (List UInt8)} {i : Nat} {d : DbP} (h : NewAt L i d) (hi : ¬ i < L.length) : linesGo DbP.first L 0 = .ok d:=by
 rw [h.2.1,List.drop_of_length_le (by omega)];rfl
theorem newP_long {t : List UInt8} (h : 65536 < t.length) : newP t = .error (1,0):=if_pos h
theorem newP_go {t : List UInt8} (h : ¬ 65536 < t.length) : newP t = linesGo DbP.first (splitL t) 0:=if_neg h
theorem full_set {d : DbP} (h : d.Ok) : d.sets.set 0 d.rest = d.full:=by
 have:=h.head;have:=h.len
 unfold DbP.full
 cases hs : d.sets with
 | nil =>
  have h1:=h.len;have h2:=h.head
  rw [hs] at h1
  cases hn : d.names with
  | nil=>rw [hn] at h2;cases h2
  | cons a b=>rw [hn] at h1;simp at h1
 | cons a b=>rw [show d.rest = DbP.rest d from rfl];simp
end Go.Proofs.YtdngkienloligaaGreatDoor
/- -/
namespace Go.Proofs.YtdngkienloligaaGreatDoor
open Go.RowKit Go.Maps
theorem letB_t {c : UInt8} (h : (65 ≤ c.toNat ∧ c.toNat ≤ 90) ∨ (97 ≤ c.toNat ∧ c.toNat ≤ 122)) : letB c = true:=by simpa [letB] using h
theorem letB_f {c : UInt8} (h : ¬ ((65 ≤ c.toNat ∧ c.toNat ≤ 90) ∨ (97 ≤ c.toNat ∧ c.toNat ≤ 122))) : letB c = false:=by
 cases hb : letB c with
 | false=>rfl
 | true=>exact absurd (by simpa [letB] using hb) h
theorem u8_eq {c : UInt8} {n : Nat} (hn : n < 256) : c = UInt8.ofNat n ↔ c.toNat = n:=by
 constructor
 ·rintro rfl;simp;omega
 ·intro h;rw [← UInt8.toNat_inj,h];simp;omega
theorem partB_t {c : UInt8} (h : (65 ≤ c.toNat ∧ c.toNat ≤ 90) ∨ (97 ≤ c.toNat ∧ c.toNat ≤ 122) ∨ (48 ≤ c.toNat ∧ c.toNat ≤ 57) ∨ c.toNat = 95) : partB c = true:=by
 have h95 : c = 95 ↔ c.toNat = 95:=u8_eq (n:=95) (by omega)
 simp only [partB,letB,Bool.or_eq_true,decide_eq_true_eq,beq_iff_eq,h95];omega
theorem partB_f {c : UInt8} (h : ¬ ((65 ≤ c.toNat ∧ c.toNat ≤ 90) ∨ (97 ≤ c.toNat ∧ c.toNat ≤ 122) ∨ (48 ≤ c.toNat ∧ c.toNat ≤ 57) ∨ c.toNat = 95)) : partB c = false:=by
 have h95 : c = 95 ↔ c.toNat = 95:=u8_eq (n:=95) (by omega)
 cases hb : partB c with
 | false=>rfl
 | true =>
  refine absurd ?_ h
  simp only [partB,letB,Bool.or_eq_true,decide_eq_true_eq,beq_iff_eq,h95] at hb;omega
set_option maxRecDepth 100000 in
set_option maxHeartbeats 4000000 in
theorem wName_any (l : List UInt8) (w : World) (hs : l.length ≤ 9223372036854775807) : Calls Tryz.prog 214 #[.string (bytesOf l)] w fun e w'=>e = .returned (.bool (nameL l)) ∧ Below w.heap.size w w':=by
 have hcv:=fun W=>Lib.run_convert_string_bytes (P:=Tryz.prog) W 9 146 5 (bytesOf l) Tryz.underlying9 Tryz.underlying146 Tryz.underlying5
 have hsz : (bytesOf l).size = l.length:=bytesOf_size l
 go_enter Tryz.func214,Tryz.ntmps214
 go_wp2
 have hcell:=fun j hj=>Lib.bytesWorld_cell w 5 (bytesOf l) j hj
 have hbw:=below_bytesWorld w 5 (bytesOf l)
 generalize Lib.bytesWorld w 5 (bytesOf l) = w1 at hcell hbw ⊢
 have Hcell:=Lib.hid hcell
 clear hcell hcv
 go_loop [9] (fun i=>∃ k : Nat,i = .int .i64 k ∧ k ≤ l.length ∧ Hid (nameU (l.take k) = true)) (fun i=>l.length - (intOf i).toNat)
 case atStart=>exact ⟨0,rfl,by omega,rfl⟩
 case round =>
  obtain ⟨k,rfl,hk,Hm⟩:=hrel
  by_cases hlt : k < l.length
  ·obtain ⟨c,Hc⟩ : ∃ c,Hid (l[k]? = some c):=⟨_,Lib.hid (List.getElem?_eq_getElem hlt)⟩
   have hc:=Hcell.out k (by rw [bytesOf_size];exact hlt)
   rw [bytesOf_list,List.getD_eq_getElem?_getD,Hc.out,Option.getD_some] at hc
   have HN:=Lib.hid (nameU_next Hc.out Hm.out)
   have HE : Hid (nameU (l.take (k + 1)) = false → nameL l = false):=Lib.hid (fun h=>by rw [nameL_eq,nameU_take h,Bool.false_and])
   have hc0 : 0 ≤ (c.toNat : Int):=by omega
   have hc255 : (c.toNat : Int) ≤ 255:=by have:=c.toNat_lt;omega
   have HLT : Hid ((65 ≤ (c.toNat : Int) ∧ (c.toNat : Int) ≤ 90) ∨ (97 ≤ (c.toNat : Int) ∧ (c.toNat : Int) ≤ 122) → letB c = true ∧ partB c = true):=Lib.hid (fun h=>⟨letB_t (by omega),partB_t (by omega)⟩)
   have HLF : Hid (¬ ((65 ≤ (c.toNat : Int) ∧ (c.toNat : Int) ≤ 90) ∨ (97 ≤ (c.toNat : Int) ∧ (c.toNat : Int) ≤ 122)) → letB c = false):=Lib.hid (fun h=>letB_f (by omega))
   have HPT : Hid ((48 ≤ (c.toNat : Int) ∧ (c.toNat : Int) ≤ 57) ∨ (c.toNat : Int) = 95 → partB c = true):=Lib.hid (fun h=>partB_t (by omega))
   have HPF : Hid (¬ ((65 ≤ (c.toNat : Int) ∧ (c.toNat : Int) ≤ 90) ∨ (97 ≤ (c.toNat : Int) ∧ (c.toNat : Int) ≤ 122) ∨ (48 ≤ (c.toNat : Int) ∧ (c.toNat : Int) ≤ 57) ∨ (c.toNat : Int) = 95) → partB c = false):=Lib.hid (fun h=>partB_f (by omega))
   generalize (c.toNat : Int) = z at hc hc0 hc255 HLT HLF HPT HPF
   rcases Nat.eq_zero_or_pos k with rfl | h0
   ·rcases (by omega : (65 ≤ z ∧ z ≤ 90) ∨ (97 ≤ z ∧ z ≤ 122) ∨ (z < 65 ∨ (90 < z ∧ z < 97) ∨ 122 < z)) with ⟨hq,hq'⟩ | ⟨hq,hq'⟩ | hq
    iterate 2
     ·have HV : Hid (nameU (l.take (0 + 1)) = true):=Lib.hid (by rw [HN.out,if_pos rfl];exact (HLT.out (by omega)).1)
      clear HLT HLF HPT HPF HN HE
      try first | (have d65 : decide (65 ≤ z) = true:=decide_eq_true (by omega)) | (have d65 : decide (65 ≤ z) = false:=decide_eq_false (by omega))
      try first | (have d90 : decide (z ≤ 90) = true:=decide_eq_true (by omega)) | (have d90 : decide (z ≤ 90) = false:=decide_eq_false (by omega))
      try first | (have d97 : decide (97 ≤ z) = true:=decide_eq_true (by omega)) | (have d97 : decide (97 ≤ z) = false:=decide_eq_false (by omega))
      try first | (have d122 : decide (z ≤ 122) = true:=decide_eq_true (by omega)) | (have d122 : decide (z ≤ 122) = false:=decide_eq_false (by omega))
      try first | (have d48 : decide (48 ≤ z) = true:=decide_eq_true (by omega)) | (have d48 : decide (48 ≤ z) = false:=decide_eq_false (by omega))
      try first | (have d57 : decide (z ≤ 57) = true:=decide_eq_true (by omega)) | (have d57 : decide (z ≤ 57) = false:=decide_eq_false (by omega))
      try first | (have d95 : (z == 95) = true:=beq_iff_eq.2 (by omega)) | (have d95 : (z == 95) = false:=beq_eq_false_iff_ne.2 (by omega))
      go_wp2
      refine ⟨⟨0 + 1,by go_num,by omega,HV⟩,?_⟩
      simp [intOf];omega
    ·have HV : Hid (nameL l = false):=Lib.hid (HE.out (by rw [HN.out,if_pos rfl];exact HLF.out (by omega)))
     clear HLT HLF HPT HPF HN HE
     rcases hq with hq | ⟨hq,hq'⟩ | hq
     all_goals
      try first | (have d65 : decide (65 ≤ z) = true:=decide_eq_true (by omega)) | (have d65 : decide (65 ≤ z) = false:=decide_eq_false (by omega))
      try first | (have d90 : decide (z ≤ 90) = true:=decide_eq_true (by omega)) | (have d90 : decide (z ≤ 90) = false:=decide_eq_false (by omega))
      try first | (have d97 : decide (97 ≤ z) = true:=decide_eq_true (by omega)) | (have d97 : decide (97 ≤ z) = false:=decide_eq_false (by omega))
      try first | (have d122 : decide (z ≤ 122) = true:=decide_eq_true (by omega)) | (have d122 : decide (z ≤ 122) = false:=decide_eq_false (by omega))
      try first | (have d48 : decide (48 ≤ z) = true:=decide_eq_true (by omega)) | (have d48 : decide (48 ≤ z) = false:=decide_eq_false (by omega))
      try first | (have d57 : decide (z ≤ 57) = true:=decide_eq_true (by omega)) | (have d57 : decide (z ≤ 57) = false:=decide_eq_false (by omega))
      try first | (have d95 : (z == 95) = true:=beq_iff_eq.2 (by omega)) | (have d95 : (z == 95) = false:=beq_eq_false_iff_ne.2 (by omega))
      go_wp2
      go_ret
      exact ⟨by rw [HV.out];rfl,hbw⟩
   ·have hk0 : ((k : Int) == 0) = false:=beq_eq_false_iff_ne.2 (by omega)
    rcases (by omega : (65 ≤ z ∧ z ≤ 90) ∨ (97 ≤ z ∧ z ≤ 122) ∨ (48 ≤ z ∧ z ≤ 57) ∨ z = 95 ∨ (z < 48 ∨ (57 < z ∧ z < 65) ∨ (90 < z ∧ z < 95) ∨ z = 96 ∨ 122 < z)) with ⟨hq,hq'⟩ | ⟨hq,hq'⟩ | ⟨hq,hq'⟩ | hq | hq
    iterate 4
     ·have HV : Hid (nameU (l.take (k + 1)) = true):=Lib.hid (by rw [HN.out,if_neg (by omega)];first | exact (HLT.out (by omega)).2 | exact HPT.out (by omega))
      clear HLT HLF HPT HPF HN HE
      try first | (have d65 : decide (65 ≤ z) = true:=decide_eq_true (by omega)) | (have d65 : decide (65 ≤ z) = false:=decide_eq_false (by omega))
      try first | (have d90 : decide (z ≤ 90) = true:=decide_eq_true (by omega)) | (have d90 : decide (z ≤ 90) = false:=decide_eq_false (by omega))
      try first | (have d97 : decide (97 ≤ z) = true:=decide_eq_true (by omega)) | (have d97 : decide (97 ≤ z) = false:=decide_eq_false (by omega))
      try first | (have d122 : decide (z ≤ 122) = true:=decide_eq_true (by omega)) | (have d122 : decide (z ≤ 122) = false:=decide_eq_false (by omega))
      try first | (have d48 : decide (48 ≤ z) = true:=decide_eq_true (by omega)) | (have d48 : decide (48 ≤ z) = false:=decide_eq_false (by omega))
      try first | (have d57 : decide (z ≤ 57) = true:=decide_eq_true (by omega)) | (have d57 : decide (z ≤ 57) = false:=decide_eq_false (by omega))
      try first | (have d95 : (z == 95) = true:=beq_iff_eq.2 (by omega)) | (have d95 : (z == 95) = false:=beq_eq_false_iff_ne.2 (by omega))
      go_wp2
      refine ⟨⟨k + 1,by go_num,by omega,HV⟩,?_⟩
      simp [intOf];omega
    ·have HV : Hid (nameL l = false):=Lib.hid (HE.out (by rw [HN.out,if_neg (by omega)];exact HPF.out (by omega)))
     clear HLT HLF HPT HPF HN HE
     rcases hq with hq | ⟨hq,hq'⟩ | ⟨hq,hq'⟩ | hq | hq
     all_goals
      try first | (have d65 : decide (65 ≤ z) = true:=decide_eq_true (by omega)) | (have d65 : decide (65 ≤ z) = false:=decide_eq_false (by omega))
      try first | (have d90 : decide (z ≤ 90) = true:=decide_eq_true (by omega)) | (have d90 : decide (z ≤ 90) = false:=decide_eq_false (by omega))
      try first | (have d97 : decide (97 ≤ z) = true:=decide_eq_true (by omega)) | (have d97 : decide (97 ≤ z) = false:=decide_eq_false (by omega))
      try first | (have d122 : decide (z ≤ 122) = true:=decide_eq_true (by omega)) | (have d122 : decide (z ≤ 122) = false:=decide_eq_false (by omega))
      try first | (have d48 : decide (48 ≤ z) = true:=decide_eq_true (by omega)) | (have d48 : decide (48 ≤ z) = false:=decide_eq_false (by omega))
      try first | (have d57 : decide (z ≤ 57) = true:=decide_eq_true (by omega)) | (have d57 : decide (z ≤ 57) = false:=decide_eq_false (by omega))
      try first | (have d95 : (z == 95) = true:=beq_iff_eq.2 (by omega)) | (have d95 : (z == 95) = false:=beq_eq_false_iff_ne.2 (by omega))
      go_wp2
      go_ret
      exact ⟨by rw [HV.out];rfl,hbw⟩
  ·have HE : Hid (nameL l = decide (1 ≤ l.length ∧ l.length ≤ 32)):=Lib.hid (by rw [nameL_eq,show nameU l = true by have:=Hm.out;rwa [List.take_of_length_le (by omega)] at this,Bool.true_and])
   rcases (by omega : l.length = 0 ∨ (1 ≤ l.length ∧ l.length ≤ 32) ∨ 32 < l.length) with h | ⟨h,h'⟩ | h
   all_goals
    go_wp2
    go_ret
    exact ⟨ret_bool (by rw [HE.out];first | exact (decide_eq_false (by omega)).symm | exact (decide_eq_true (by omega)).symm | (rw [decide_eq_decide];omega)),hbw⟩
end Go.Proofs.YtdngkienloligaaGreatDoor
/- -/
namespace Go.Proofs.YtdngkienloligaaGreatDoor
open Go.RowKit Go.Maps
theorem info_cloneS : (Tryz.prog.info? 9).map (fun i=>(i.zero,i.size,i.bytes)) = some (some (.string ByteArray.empty),1,16):=by kernel_rfl
theorem info_cloneD : (Tryz.prog.info? 137).map (fun i=>(i.zero,i.size,i.bytes)) = some (some (.agg #[.int .i32 0,.int .i32 0,.int .i64 0]),3,16):=by kernel_rfl
theorem Rd.nextR {w : World} {A : Option Addr} {x : Int × Int} {l : List (Int × Int)} {b off : Nat} (h : Rd w 2 A ((x :: l).map encR)) (hA : A = some ⟨b,off,none⟩) : Rd w 2 (some ⟨b,off + 2,none⟩) (l.map encR):=by
 intro hn
 obtain ⟨b',off',e,hc⟩:=h (by simp)
 rw [hA] at e;injection e with e;injection e with e1 e2 _
 subst e1;subst e2
 refine ⟨b,off + 2,rfl,fun k j y u hy hu=>?_⟩
 have:=hc (k + 1) j y u (by simpa using hy) hu
 rw [show off + (k + 1) * 2 + j = off + 2 + k * 2 + j by omega] at this
 exact this
theorem Rd.nextC {w : World} {x : Int × Int} {l : List (Int × Int)} {b off c : Nat} (h : Rd w 2 (some ⟨b,off,none⟩) ((x :: l).map encR)) (hc : l.length + 1 ≤ c) : Rd w 2 (if c = 1 then some ⟨b,off,none⟩ else some ⟨b,off + 2,none⟩) (l.map encR):=by
 by_cases e : c = 1
 ·have : l = []:=List.eq_nil_of_length_eq_zero (by omega)
  subst this;exact Rd.nil_ _ _ _
 ·rw [if_neg e];exact h.nextR rfl
set_option maxRecDepth 100000 in
set_option maxHeartbeats 2000000 in
theorem wmeet_any (A B : Option Addr) (n c m e : Nat) (l q : List (Int × Int)) (w : World) (hA : Rd w 2 A (l.map encR)) (hB : Rd w 2 B (q.map encR)) (hl : l.length = n) (hq : q.length = m) (hn : n ≤ 4000000) (hm : m ≤ 4000000) (hc : n ≤ c) (he : m ≤ e) (h1 : Nf l) (h2 : Nf q) :
  Calls Tryz.prog 218 #[.slice A n c,.slice B m e] w fun e w'=>e = .returned (.bool (meetB l q)) ∧ ∃ k,w' = w.drewN k:=by
 have H1:=Lib.hid h1
 have H2:=Lib.hid h2
 have Hl:=Lib.hid hl
 have Hq:=Lib.hid hq
 clear h1 h2
 go_enter Tryz.func218,Tryz.ntmps218
 go_wp2
 go_loopw [0,1] (fun u v wr=>∃ (i j k : Nat) (A1 B1 : Option Addr) (c1 e1 : Nat),u = .slice A1 (n - i) c1 ∧ v = .slice B1 (m - j) e1 ∧ n - i ≤ c1 ∧ m - j ≤ e1 ∧ Rd w 2 A1 ((l.drop i).map encR) ∧ Rd w 2 B1 ((q.drop j).map encR) ∧ i ≤ n ∧ j ≤ m ∧ Hid (MeetAt l q i j) ∧ wr = w.drewN k) (fun u v _=>(match u with | .slice _ n _=>n | _=>0) + (match v with | .slice _ n _=>n | _=>0))
 case atStart=>exact ⟨0,0,0,A,B,c,e,rfl,rfl,hc,he,by rw [List.drop_zero];exact hA,by rw [List.drop_zero];exact hB,by omega,by omega,meetAt_first l q,rfl⟩
 case round =>
  obtain ⟨i,j,k,A1,B1,c1,e1,rfl,rfl,hc1,he1,hA1,hB1,hi,hj,HM,rfl⟩:=hrel
  by_cases hlt : i < n ∧ j < m
  ·obtain ⟨hin,hjm⟩:=hlt
   obtain ⟨x,Hx⟩ : ∃ x,Hid (l[i]? = some x):=⟨_,Lib.hid (List.getElem?_eq_getElem (show i < l.length by have:=Hl.out;omega))⟩
   obtain ⟨y,Hy⟩ : ∃ y,Hid (q[j]? = some y):=⟨_,Lib.hid (List.getElem?_eq_getElem (show j < q.length by have:=Hq.out;omega))⟩
   have hA2 : Rd w 2 A1 ((x :: l.drop (i + 1)).map encR):=by rw [← drop_at Hx.out];exact hA1
   have hB2 : Rd w 2 B1 ((y :: q.drop (j + 1)).map encR):=by rw [← drop_at Hy.out];exact hB1
   obtain ⟨b,off,rfl,hcx⟩:=hA2 (by simp)
   obtain ⟨b',off',rfl,hcy⟩:=hB2 (by simp)
   have x1:=hcx 0 0 (encR x) (.int .i32 x.1) rfl rfl
   have x2:=hcx 0 1 (encR x) (.int .i32 x.2) rfl rfl
   have y1:=hcy 0 0 (encR y) (.int .i32 y.1) rfl rfl
   have y2:=hcy 0 1 (encR y) (.int .i32 y.2) rfl rfl
   simp only [Nat.zero_mul,Nat.add_zero] at x1 x2 y1 y2
   have HA3:=Lib.hid (hA2.nextC (c:=c1) (by have:=Hl.out;rw [List.length_drop];omega))
   have HB3:=Lib.hid (hB2.nextC (c:=e1) (by have:=Hq.out;rw [List.length_drop];omega))
   have HA2:=Lib.hid hA1
   have HB2:=Lib.hid hB1
   have HL:=Lib.hid (fun h=>meetAt_left HM.out H2.out Hx.out Hy.out h)
   have HR:=Lib.hid (fun h=>meetAt_right HM.out H1.out Hx.out Hy.out h)
   have HH:=Lib.hid (fun h h'=>meetAt_here HM.out Hx.out Hy.out h h')
   clear hcx hcy hA1 hB1 hA2 hB2
   have HD1:=Lib.hid (drop_at Hx.out)
   have HD2:=Lib.hid (drop_at Hy.out)
   by_cases hxy : x.2 < y.1
   ·go_wp2_with fail
    go_quiet (fail)
    go_wp2
    go_roundw
    case rel=>exact ⟨i + 1,j,_,_,_,c1 - 1,e1,by rw [show n - (i + 1) = n - i - 1 by omega],rfl,by omega,he1,HA3.out,HB2.out,by omega,by omega,Lib.hid (HL.out hxy),rfl⟩
    case measure=>simp only [];omega
   ·by_cases hyx : y.2 < x.1
    ·go_wp2_with fail
     go_quiet (fail)
     go_wp2_with fail
     go_quiet (fail)
     go_wp2
     go_roundw
     case rel=>exact ⟨i,j + 1,_,_,_,c1,e1 - 1,rfl,by rw [show m - (j + 1) = m - j - 1 by omega],hc1,by omega,HA2.out,HB3.out,by omega,by omega,Lib.hid (HR.out hyx),rfl⟩
     case measure=>simp only [];omega
    ·have HE:=Lib.hid (HH.out hxy hyx)
     go_wp2_with fail
     go_quiet (fail)
     go_wp2_with fail
     go_quiet (fail)
     go_wp2
     go_ret
     exact ⟨by rw [HE.out];rfl,_,by rw [World.drewN_drewN,World.drewN_drewN]⟩
  ·have HE:=Lib.hid (meetAt_end HM.out (by have:=Hl.out;have:=Hq.out;omega))
   rcases (by omega : ¬ i < n ∨ (i < n ∧ ¬ j < m)) with h | ⟨h,h'⟩
   all_goals
    go_wp2
    go_ret
    exact ⟨by rw [HE.out];rfl,k,rfl⟩
def numV : Except Int Nat → Value
 | .ok c=>.tuple #[.int .i64 c,.int .i64 0]
 | .error x=>.tuple #[.int .i64 0,.int .i64 x]
set_option maxRecDepth 100000 in
set_option maxHeartbeats 1000000 in
theorem wnumber_any (p bm nm nn cn ns cs : Nat) (An As : Option Addr) (v3 : Value) (d : DbP) (D : DataW Unit) (n : List UInt8) (w : World) (hp : Blk w p 141 #[.slice An nn cn,.map (some bm),.slice As ns cs,v3])
  (hm : w.ownsMap Tryz.prog 9 (plainElem (H:=Unit) Tryz.prog 3) bm nm D) (hD : MapIs D d.names) (hl : d.names.length = nn) (hd : d.names.Nodup) (hf : nn ≤ 64) (hn : n.length ≤ 1000000) :
  Calls Tryz.prog 217 #[.pointer (some ⟨p,0,none⟩),.string (bytesOf n)] w fun e w'=>e = .returned (numV (nbrP d n)) ∧ w' = w:=by
 have c0:=hp.cell 0
 have c1:=hp.cell 1
 simp at c0 c1
 have HL:=Lib.hid (hD.look hd n)
 have HK:=Lib.hid (keyS hn)
 have HN : Hid (nbrP d n = match d.names.idxOf? n with | some c=>.ok c | none=>if 64 ≤ d.names.length then .error 6 else .ok d.names.length):=rfl
 cases hq : d.names.idxOf? n with
 | some c =>
  have HV : Hid (Maps.has D (.string n) = true):=Lib.hid (by rw [HL.out.2,hq];rfl)
  have HA : Hid (D.atKey (.string n) (.lit (.int .i64 0)) = .lit (.int .i64 (c : Int))):=Lib.hid (by rw [HL.out.1,hq];rfl)
  have HR : Hid (nbrP d n = .ok c):=Lib.hid (by rw [HN.out,hq])
  clear HL HN hq
  go_enter Tryz.func217,Tryz.ntmps217
  go_wp2_with (at_lookup;refine wpList_lookup_own_ok_int _ rfl _ _ 138 rfl 9 3 .i64 keyedS Tryz.underlying138 Tryz.underlying3 (zeroI _) bm nm D rfl hm _ (.string n) rfl HK.out ?_;intro z hz hw;rw [HA.out] at hz;injection hz with hz;injection hz with _ hz;subst hz;rw [HV.out])
  go_ret2
  exact ⟨by rw [HR.out];rfl,rfl⟩
 | none =>
  have HV : Hid (Maps.has D (.string n) = false):=Lib.hid (by rw [HL.out.2,hq];rfl)
  have HR : Hid (nbrP d n = if 64 ≤ nn then .error 6 else .ok nn):=Lib.hid (by rw [HN.out,hq,hl])
  clear HL HN hq
  by_cases h64 : nn = 64
  ·have HR' : Hid (nbrP d n = .error 6):=Lib.hid (by rw [HR.out,if_pos (by omega)])
   go_enter Tryz.func217,Tryz.ntmps217
   go_wp2_with (at_lookup;refine wpList_lookup_own_ok_int _ rfl _ _ 138 rfl 9 3 .i64 keyedS Tryz.underlying138 Tryz.underlying3 (zeroI _) bm nm D rfl hm _ (.string n) rfl HK.out ?_;intro z hz hw;clear hz;rw [HV.out])
   go_ret2
   exact ⟨by rw [HR'.out];rfl,rfl⟩
  ·have HR' : Hid (nbrP d n = .ok nn):=Lib.hid (by rw [HR.out,if_neg (by omega)])
   have he : ((nn : Int) == 64) = false:=beq_eq_false_iff_ne.2 (by omega)
   go_enter Tryz.func217,Tryz.ntmps217
   go_wp2_with (at_lookup;refine wpList_lookup_own_ok_int _ rfl _ _ 138 rfl 9 3 .i64 keyedS Tryz.underlying138 Tryz.underlying3 (zeroI _) bm nm D rfl hm _ (.string n) rfl HK.out ?_;intro z hz hw;clear hz;rw [HV.out])
   go_ret2
   exact ⟨by rw [HR'.out];rfl,rfl⟩
end Go.Proofs.YtdngkienloligaaGreatDoor
/- -/
namespace Go.Proofs.YtdngkienloligaaGreatDoor
open Go.RowKit
theorem rest_drop (s : ByteArray) (a : Nat) : (s.extract a s.size).data.toList = s.data.toList.drop a:=rest_extract s a
theorem take_extract (s : ByteArray) (a : Nat) : (s.extract 0 a).data.toList = s.data.toList.take a:=by rw [Lib.extract_data];simp
theorem empty_of {s : ByteArray} (h : s.size = 0) : s = ⟨#[]⟩:=by
 apply ByteArray.ext
 exact Array.eq_empty_of_size_eq_zero h
theorem get_list {s : ByteArray} {p : Nat} (h : p < s.size) : s.data.toList[p]? = some (s[p]'h):=List.getElem?_eq_getElem (by simpa using h)
set_option maxRecDepth 100000 in
set_option maxHeartbeats 1000000 in
theorem wquoted_any (s : ByteArray) (w : World) (hT : Tabs w) (hs : s.size ≤ 1000000) :
    Calls Tryz.prog 246 #[.string s] w fun e w' => e = .returned (.int .i64 ((qtL s.data.toList).getD 0 : Nat)) ∧ Below w.heap.size w w' := by
  rcases Nat.eq_zero_or_pos s.size with h0 | h0
  · obtain rfl := empty_of h0
    go_enter Tryz.func246, Tryz.ntmps246
    go_wp2
    go_ret
    exact ⟨rfl, Below.refl _ _⟩
  · have e0 := notEmpty h0
    have hix := index_at s 0 0 rfl h0
    by_cases hq : s[0]'h0 = 39
    · have HD := Lib.hid (lDecode_any s 1 w hT (by omega))
      obtain ⟨hb1, hb2, hb3⟩ := runeAt_bd s 1 (by omega)
      have HN := Lib.hid (@qt_zero s)
      have HO := Lib.hid (@qt_open s)
      have HG := Lib.hid (@qt_ok s h0 hq)
      generalize (runeAt s 1).2 = n at HD HN HO HG hb1 hb2
      generalize (runeAt s 1).1 = r at HD hb3
      have hq0 : (((s[0]'h0).toNat : Int) != 39) = false := by rw [hq]; rfl
      rcases Nat.eq_zero_or_pos n with hn | hn
      · have HE := Lib.hid (HN.out hn)
        subst hn
        go_enter Tryz.func246, Tryz.ntmps246
        go_wp2_with (go_at_call 98; refine HD.out.mono ?_; rintro e w2 ⟨rfl, hbw⟩)
        go_ret
        exact ⟨by rw [HE.out]; rfl, hbw⟩
      · have hn0 : ((n : Int) == 0) = false := beq_eq_false_iff_ne.2 (by omega)
        by_cases hp : n + 1 < s.size
        · have hix2 := index_at s ((n : Int) + 1) (n + 1) (by omega) hp
          have hd : decide ((s.size : Int) < (n : Int) + 2) = false := decide_eq_false (by omega)
          by_cases hq2 : s[n + 1]'hp = 39
          · have HE := Lib.hid (HG.out (by omega) (by rw [get_list hp, hq2]))
            have hq3 : (((s[n + 1]'hp).toNat : Int) != 39) = false := by rw [hq2]; rfl
            go_enter Tryz.func246, Tryz.ntmps246
            go_wp2_with (go_at_call 98; refine HD.out.mono ?_; rintro e w2 ⟨rfl, hbw⟩)
            go_ret
            exact ⟨by rw [HE.out]; rfl, hbw⟩
          · have HE := Lib.hid (HO.out (by rw [get_list hp]; simpa using hq2))
            have hq3 : (((s[n + 1]'hp).toNat : Int) != 39) = true := by
              rw [bne_iff_ne]; intro e
              exact hq2 (UInt8.toNat_inj.1 (by have : (s[n + 1]'hp).toNat = 39 := by omega
                                               rw [this]; rfl))
            go_enter Tryz.func246, Tryz.ntmps246
            go_wp2_with (go_at_call 98; refine HD.out.mono ?_; rintro e w2 ⟨rfl, hbw⟩)
            go_ret
            exact ⟨by rw [HE.out]; rfl, hbw⟩
        · have hd : decide ((s.size : Int) < (n : Int) + 2) = true := decide_eq_true (by omega)
          have HE := Lib.hid (HO.out (by rw [List.getElem?_eq_none (by rw [size_data]; omega)]; simp))
          go_enter Tryz.func246, Tryz.ntmps246
          go_wp2_with (go_at_call 98; refine HD.out.mono ?_; rintro e w2 ⟨rfl, hbw⟩)
          go_ret
          exact ⟨by rw [HE.out]; rfl, hbw⟩
    · have HE := Lib.hid (qt_no (s := s) (fun _ => hq))
      have hq3 : (((s[0]'h0).toNat : Int) != 39) = true := by
        rw [bne_iff_ne]; intro e
        exact hq (UInt8.toNat_inj.1 (by have : (s[0]'h0).toNat = 39 := by omega
                                        rw [this]; rfl))
      go_enter Tryz.func246, Tryz.ntmps246
      go_wp2
      go_ret
      exact ⟨by rw [HE.out]; rfl, Below.refl _ _⟩
set_option maxRecDepth 100000 in
set_option maxHeartbeats 1000000 in
theorem wfind_any (s : ByteArray) (c : UInt8) (z : Int) (hz : z = (c.toNat : Int)) (w : World) (hT : Tabs w) (hs : s.size ≤ 1000000) :
  Calls Tryz.prog 212 #[.string s,.int .u8 z] w fun e w'=>e = .returned (.int .i64 (fv (findP c s.data.toList))) ∧ Below w.heap.size w w':=by
 have hsz : s.data.toList.length = s.size:=size_data s
 have Hsz:=Lib.hid hsz
 have Hz:=Lib.hid hz
 clear hz
 go_enter Tryz.func212,Tryz.ntmps212
 go_wp2
 go_loopw [5] (fun v wr=>∃ i : Nat,v = .int .i64 i ∧ i ≤ s.size ∧ Hid (FindAt c s.data.toList i) ∧ Below w.heap.size w wr) (fun v _=>s.size - (intOf v).toNat)
 case atStart=>exact ⟨0,rfl,by omega,findAt_first _ _,Below.refl _ _⟩
 case round =>
  obtain ⟨i,rfl,hi,HF,hb⟩:=hrel
  by_cases hlt : i < s.size
  ·have HQ:=Lib.hid (wquoted_any (s.extract i s.size) wr (hT.below hb) (by rw [ByteArray.size_extract];omega))
   rw [rest_drop] at HQ
   have hix:=index_at s i i rfl hlt
   cases hq : qtL (s.data.toList.drop i) with
   | some k =>
    rw [hq] at HQ
    have hk:=qtL_some hq
    have hk3:=hk.1
    have hkl : i + k ≤ s.size:=by have:=hk.2.2.1;rw [List.length_drop,Hsz.out] at this;omega
    have HF':=Lib.hid (findAt_qt HF.out hq)
    have Hq:=Lib.hid hq
    clear hk hq
    go_wp2_with (go_at_call 246;refine HQ.out.mono ?_;rw [Option.getD_some];rintro e w2 ⟨rfl,hb2⟩)
    go_roundw
    case rel =>
     exact ⟨i + k,by go_num,hkl,HF',below_step hb hb2 hb.size⟩
    case measure=>simp [intOf];omega
   | none =>
    rw [hq] at HQ
    by_cases hc : s[i]'hlt = c
    ·have HE:=Lib.hid (findAt_hit HF.out (by rw [get_list hlt,hc]) hq)
     have hzz : (((s[i]'hlt).toNat : Int) == z) = true:=by rw [hc,Hz.out];simp
     clear hq hc
     go_wp2_with (go_at_call 246;refine HQ.out.mono ?_;rw [Option.getD_none];rintro e w2 ⟨rfl,hb2⟩)
     go_ret
     exact ⟨by rw [HE.out];rfl,below_step hb hb2 hb.size⟩
    ·have HF':=Lib.hid (findAt_byte HF.out (get_list hlt) hq hc)
     have hzz : (((s[i]'hlt).toNat : Int) == z) = false:=beq_eq_false_iff_ne.2 (fun e=>hc (UInt8.toNat_inj.1 (by have:=Hz.out;omega)))
     clear hq
     go_wp2_with (go_at_call 246;refine HQ.out.mono ?_;rw [Option.getD_none];rintro e w2 ⟨rfl,hb2⟩)
     go_roundw
     case rel =>
      exact ⟨i + 1,by go_num,by omega,HF',below_step hb hb2 hb.size⟩
     case measure=>simp [intOf];omega
  ·have HE:=Lib.hid (findAt_end HF.out (by rw [Hsz.out];exact hlt))
   go_wp2
   go_ret
   exact ⟨by rw [HE.out];rfl,hb⟩
theorem zero256 : ∀ w,(zeroValue 234).run Tryz.prog w = .ok (.agg (Array.replicate 256 (.bool false))) w:=by intro w;kernel_rfl
theorem size256 : (Tryz.prog.info? 234).map (·.size) = some 256:=by kernel_rfl
theorem lTrim_any (s : ByteArray) (w : World) (hs : s.size ≤ 1000000) :
  Calls Tryz.prog 213 #[.string s,.string ⟨#[32,9]⟩] w fun e w'=>e = .returned (.string (bytesOf (trimL s.data.toList))) ∧ Below w.heap.size w w':=by
 rcases Nat.eq_zero_or_pos s.size with h0 | h0
 ·have h:=Any.strings_Trim_empty Tryz.lays160 s ⟨#[32,9]⟩ w (.inl h0)
  obtain rfl:=empty_of h0
  refine h.mono ?_
  rintro e w' ⟨rfl,rfl⟩
  exact ⟨rfl,Below.refl _ _⟩
 ·have h:=Any.strings_Trim_set Tryz.lays160 zero256 size256 s ⟨#[32,9]⟩ w (show 2 ≤ 2 by omega) h0 (by omega) (show 2 < 4294967281 by omega) (fun j b hj=>by
   match j,hj with
   | 0,hj=>simp at hj;subst hj;decide
   | 1,hj=>simp at hj;subst hj;decide
   | j + 2,hj=>simp at hj)
  refine h.mono ?_
  rintro e w' ⟨rfl,q,rfl⟩
  refine ⟨?_,below_drewN (((Below.refl _ _).alloc (Nat.le_refl _) _).alloc (by simp) _) _⟩
  rw [show (ByteArray.mk #[32,9]).data.toList = [32,9] from rfl,trimS_eq];rfl
set_option maxRecDepth 100000 in
set_option maxHeartbeats 1000000 in
theorem wline_any (s : ByteArray) (w : World) (hT : Tabs w) (hs : s.size ≤ 1000000) :
  Calls Tryz.prog 176 #[.string s] w fun e w'=>e = .returned (.string (bytesOf (lineU s.data.toList))) ∧ Below w.heap.size w w':=by
 have HF:=Lib.hid (wfind_any s 35 35 rfl w hT hs)
 have hlt:=fun i h=>(List.getElem?_eq_some_iff.1 (findP_lt (c:=35) _ s.data.toList (Nat.le_refl _) i h)).1
 rw [size_data] at hlt
 have HU : Hid (lineU s.data.toList = trimL (s.data.toList.take ((findP 35 s.data.toList).getD s.data.toList.length))):=rfl
 cases hq : findP 35 s.data.toList with
 | none =>
  rw [hq] at HF HU
  rw [Option.getD_none,List.take_length] at HU
  clear hq hlt
  go_enter Tryz.func176,Tryz.ntmps176
  go_wp2_with (first | (go_at_call 212;refine HF.out.mono ?_;rw [show fv none = -1 from rfl];rintro e w2 ⟨rfl,hb2⟩) | (go_at_call 213;refine (lTrim_any s _ hs).mono ?_;rintro e w3 ⟨rfl,hb3⟩))
  go_ret
  exact ⟨by rw [HU.out];rfl,below_two hb2 hb3⟩
 | some i =>
  have hi:=hlt i hq
  rw [hq] at HF HU
  rw [Option.getD_some,← take_extract] at HU
  clear hq hlt
  go_enter Tryz.func176,Tryz.ntmps176
  go_wp2_with (first | (go_at_call 212;refine HF.out.mono ?_;rw [show fv (some i) = (i : Int) from rfl];rintro e w2 ⟨rfl,hb2⟩) | (go_at_call 213;refine (lTrim_any (s.extract 0 i) _ (by rw [ByteArray.size_extract];omega)).mono ?_;rintro e w3 ⟨rfl,hb3⟩))
  go_ret
  exact ⟨by rw [HU.out,take_extract];rfl,below_two hb2 hb3⟩
end Go.Proofs.YtdngkienloligaaGreatDoor
/- -/
namespace Go.Proofs.YtdngkienloligaaGreatDoor
open Go.RowKit Go.Maps
section
variable {w : World} {base p x : Nat} {An : Option Addr} {nn cn bm nm : Nat} {D : DataW Unit} {As : Option Addr} {ns cs : Nat} {xs : List (Option Addr × Nat × Nat)} {N : List (List UInt8)} {S : List (List (Int × Int))}
theorem DbX.lenN (h : DbX w base p x An nn cn bm nm D As ns cs xs N S) : N.length = nn:=by simpa using h.hn.len
theorem DbX.lenS (h : DbX w base p x An nn cn bm nm D As ns cs xs N S) : xs.length = ns ∧ S.length = ns:=by
 have:=h.hs.len;rw [List.length_map] at this
 exact ⟨this,by rw [← h.hx.len];exact this⟩
theorem types_ne : (9 : TypeId) ≠ 186 ∧ (9 : TypeId) ≠ 141 ∧ (186 : TypeId) ≠ 141 ∧ (9 : TypeId) ≠ 211 ∧ (186 : TypeId) ≠ 211 ∧ (141 : TypeId) ≠ 211:=by decide
def KeepR (base : Nat) (w w' : World) : Prop:=∀ (g : Nat) (cur : Array Value),base ≤ g → w.heap[g]? = some (.cells cur 211 (0,0)) → w'.heap[g]? = w.heap[g]?
theorem KeepR.trans {base : Nat} {a b c : World} (h : KeepR base a b) (k : KeepR base b c) : KeepR base a c:=fun g cur hg e=>(k g cur hg ((h g cur hg e).trans e)).trans (h g cur hg e)
theorem KeepR.grown {base : Nat} {w w' : World} {row : Option Nat} (hg : w.grownBy w' row) (hr : ∀ g (q : Array Value),row = some g → w.heap[g]? ≠ some (.cells q 211 (0,0))) : KeepR base w w':=fun g cur _ e=>hg.block g (Array.getElem?_eq_some_iff.1 e).1 fun k=>hr g cur k.symm e
theorem KeepR.setCell {base : Nat} {w : World} {q : Addr} (hq : ∀ r : Array Value,w.heap[q.block]? ≠ some (.cells r 211 (0,0))) (u : Value) : KeepR base w (w.setCell q u):=fun g cur _ e=>Below.heap_setCell w q u g fun k=>hq cur (by rw [← k];exact e)
theorem Own.keepR {base b : Nat} {w w' : World} {A : Option Addr} {n c : Nat} {cs : List (List Value)} (h : Own w b 211 2 A n c cs) (k : KeepR base w w') (hb : base ≤ b) : Own w' b 211 2 A n c cs:=by
 refine h.keep fun a ha=>?_
 rcases h.2.2.2 with ⟨h0,_⟩ | ⟨g1,cap1,cur1,hv1,hg,hh1,_⟩
 ·injection h0 with h0;rw [h0] at ha;cases ha
 ·injection hv1 with hv1;rw [hv1] at ha;injection ha with ha;subst ha
  exact k g1 cur1 (by omega) hh1
theorem DbX.mapped {w1 : World} (h : DbX w base p x An nn cn bm nm D As ns cs xs N S) (hg : w.grownBy w1 (some bm)) :
  Blk w1 p 141 #[.slice An nn cn,.map (some bm),.slice As ns cs,.slice none 0 0] ∧ Own w1 base 9 1 An nn cn (N.map encNm) ∧ Own w1 base 186 1 As ns cs (xs.map encSl) ∧ Sets w1 base xs S :=
 ⟨h.blk.grown hg (fun e=>h.blk.offMap h.hm (by injection e)),h.hn.grown hg (fun a ha e=>h.hn.offMap h.hm a ha (by injection e)),h.hs.grown hg (fun a ha e=>h.hs.offMap h.hm a ha (by injection e)),
  h.hx.grown hg (fun g q e=>by injection e with e;subst e;exact map_not_R h.hm q)⟩
theorem DbX.named {w1 w3 : World} {o : Obj} {n : List UInt8} {k : Int} {A3 : Option Addr} {c3 : Nat} (h : DbX w base p x An nn cn bm nm D As ns cs xs N S) (hk : k = N.length) (hown : w1.ownsMap Tryz.prog 9 (plainElem (H:=Unit) Tryz.prog 3) bm (nm + 1) (D.put (.string n) (.lit (.int .i64 k))))
  (hg1 : w.grownBy w1 (some bm)) (ho3 : Own w3 base 9 1 A3 (nn + 1) c3 ((N ++ [n]).map encNm)) (hg3 : (w1.alloc o).grownBy w3 (An.map (·.block))) (hA3 : A3 = An ∨ A3 = some ⟨(w1.alloc o).heap.size,0,none⟩) (hx : x < w.heap.size) (hB : base ≤ w.heap.size) :
  Blk w3 p 141 #[.slice An nn cn,.map (some bm),.slice As ns cs,.slice none 0 0] ∧ DbX (w3.setCell ⟨p,0,none⟩ (.slice A3 (nn + 1) c3)) base p x A3 (nn + 1) c3 bm (nm + 1) (D.put (.string n) (.lit (.int .i64 k))) As ns cs xs (N ++ [n]) S ∧
   KX base x w (w3.setCell ⟨p,0,none⟩ (.slice A3 (nn + 1) c3)) ∧ KeepR base w (w3.setCell ⟨p,0,none⟩ (.slice A3 (nn + 1) c3)):=by
 obtain ⟨t1,t2,t3,t4,t5,t6⟩:=types_ne
 obtain ⟨b1,n1,s1,x1⟩:=h.mapped hg1
 have hg:=grown_alloc hg3
 have hpA : ∀ a,An = some a → a.block ≠ p:=n1.off b1 t2
 have b3 : Blk w3 p 141 #[.slice An nn cn,.map (some bm),.slice As ns cs,.slice none 0 0]:=b1.grown hg (fun e=>by cases An with | none=>cases e | some a=>simp at e;exact hpA a rfl e.symm)
 have s3 : Own w3 base 186 1 As ns cs (xs.map encSl):=s1.grown hg (fun a ha e=>by cases An with | none=>cases e | some b=>simp at e;exact n1.apart s1 t1 b a rfl ha e.symm)
 have x3 : Sets w3 base xs S:=x1.grown hg (fun g q e=>own_not_R n1 t4 g q e)
 have m3:=map_kept hown hg (fun e=>by cases An with | none=>cases e | some a=>simp at e;exact n1.offMap hown a rfl e.symm)
 have hsz1:=hg1.size
 have hxA3 : ∀ a,A3 = some a → a.block ≠ x:=fun a ha=>by
  rcases hA3 with e | e
  ·exact h.xn a (by rw [← e];exact ha)
  ·rw [e] at ha;injection ha with ha;subst ha;simp;omega
 refine ⟨b3,⟨?_,h.pb,?_,?_,?_,h.bb,h.hD.put n hk,?_,?_,h.xp,h.xb,hxA3,h.xs_⟩,?_,?_⟩
 ·have:=b3.set_ 0 (.slice A3 (nn + 1) c3)
  simpa using this
 ·exact ho3.setCell (fun a ha=>ho3.off b3 t2 a ha) _
 ·exact map_setCell m3 (fun e=>b3.offMap m3 e.symm) _
 ·have:=h.nle;omega
 ·exact s3.setCell (fun a ha=>s3.off b3 t3 a ha) _
 ·exact x3.setCell (blk_not_R b3 t6) _
 ·refine (KX.grown hg1 hB (fun k hk=>by injection hk with hk;subst hk;exact ⟨h.bb,fun e=>h.xb e.symm⟩)).trans ((KX.grown hg (by omega) (fun k hk=>?_)).trans (KX.setCell w3 h.pb (fun e=>h.xp e.symm) _))
  cases An with
  | none=>cases hk
  | some a=>simp at hk;subst hk;exact ⟨(n1.lt a rfl).1,h.xn a rfl⟩
 ·exact (KeepR.grown hg1 (fun g q e=>by injection e with e;subst e;exact map_not_R h.hm q)).trans ((KeepR.grown hg (fun g q e=>own_not_R n1 t4 g q e)).trans (KeepR.setCell (blk_not_R b3 t6) _))
theorem DbX.moreSet {w3 : World} {o : Obj} {A3 : Option Addr} {c3 : Nat} (h : DbX w base p x An nn cn bm nm D As ns cs xs N S) (ho3 : Own w3 base 186 1 A3 (ns + 1) c3 ((xs ++ [(none,0,0)]).map encSl))
  (hg3 : (w.alloc o).grownBy w3 (As.map (·.block))) (hA3 : A3 = As ∨ A3 = some ⟨(w.alloc o).heap.size,0,none⟩) (hx : x < w.heap.size) (hB : base ≤ w.heap.size) :
  Blk w3 p 141 #[.slice An nn cn,.map (some bm),.slice As ns cs,.slice none 0 0] ∧ DbX (w3.setCell ⟨p,2,none⟩ (.slice A3 (ns + 1) c3)) base p x An nn cn bm nm D A3 (ns + 1) c3 (xs ++ [(none,0,0)]) N (S ++ [[]]) ∧
   KX base x w (w3.setCell ⟨p,2,none⟩ (.slice A3 (ns + 1) c3)) ∧ KeepR base w (w3.setCell ⟨p,2,none⟩ (.slice A3 (ns + 1) c3)):=by
 obtain ⟨t1,t2,t3,t4,t5,t6⟩:=types_ne
 have hg:=grown_alloc hg3
 have b3 : Blk w3 p 141 #[.slice An nn cn,.map (some bm),.slice As ns cs,.slice none 0 0]:=h.blk.grown hg (fun e=>by cases As with | none=>cases e | some a=>simp at e;exact h.hs.off h.blk t3 a rfl e.symm)
 have n3 : Own w3 base 9 1 An nn cn (N.map encNm):=h.hn.grown hg (fun a ha e=>by cases As with | none=>cases e | some b=>simp at e;exact h.hn.apart h.hs t1 a b ha rfl e)
 have x3 : Sets w3 base xs S:=h.hx.grown hg (fun g q e=>own_not_R h.hs t5 g q e)
 have m3:=map_kept h.hm hg (fun e=>by cases As with | none=>cases e | some a=>simp at e;exact h.hs.offMap h.hm a rfl e.symm)
 have hxA3 : ∀ a,A3 = some a → a.block ≠ x:=fun a ha=>by
  rcases hA3 with e | e
  ·exact h.xs_ a (by rw [← e];exact ha)
  ·rw [e] at ha;injection ha with ha;subst ha;simp;omega
 refine ⟨b3,⟨?_,h.pb,?_,?_,h.nle,h.bb,h.hD,?_,?_,h.xp,h.xb,h.xn,hxA3⟩,?_,?_⟩
 ·have:=b3.set_ 2 (.slice A3 (ns + 1) c3)
  simpa using this
 ·exact n3.setCell (fun a ha=>n3.off b3 t2 a ha) _
 ·exact map_setCell m3 (fun e=>b3.offMap m3 e.symm) _
 ·exact ho3.setCell (fun a ha=>ho3.off b3 t3 a ha) _
 ·exact (x3.setCell (blk_not_R b3 t6) _).snoc (Own.nil_ _ _ _ _)
 ·refine (KX.grown hg hB (fun k hk=>?_)).trans (KX.setCell w3 h.pb (fun e=>h.xp e.symm) _)
  cases As with
  | none=>cases hk
  | some a=>simp at hk;subst hk;exact ⟨(h.hs.lt a rfl).1,h.xs_ a rfl⟩
 ·exact (KeepR.grown hg (fun g q e=>own_not_R h.hs t5 g q e)).trans (KeepR.setCell (blk_not_R b3 t6) _)
theorem Own.storedSl {w : World} {base : Nat} {e : TypeId} {g n c k : Nat} {xs : List (Option Addr × Nat × Nat)} (h : Own w base e 1 (some ⟨g,0,none⟩) n c (xs.map encSl)) (hk : k < xs.length) (y : Option Addr × Nat × Nat) :
  Own (w.setCell ⟨g,k,none⟩ (.slice y.1 y.2.1 y.2.2)) base e 1 (some ⟨g,0,none⟩) n c ((xs.set k y).map encSl):=by
 have h1:=h.stored (k:=k) (j:=0) (x:=encSl xs[k]) (by simp [hk]) (by omega) (.slice y.1 y.2.1 y.2.2)
 rw [Nat.mul_one,Nat.add_zero] at h1
 have e : (xs.map encSl).set k ((encSl xs[k]).set 0 (.slice y.1 y.2.1 y.2.2)) = (xs.set k y).map encSl:=by rw [List.map_set];rfl
 rw [e] at h1
 exact h1
theorem Own.cell' {w : World} {base n c g k : Nat} {e : TypeId} {A : Option Addr} {xs : List (Option Addr × Nat × Nat)} {y : Option Addr × Nat × Nat} (h : Own w base e 1 A n c (xs.map encSl)) (hA : A = some ⟨g,0,none⟩) (hy : xs[k]? = some y) : w.cell? ⟨g,k,none⟩ = some (.slice y.1 y.2.1 y.2.2):=by
 subst hA
 have:=h.cell (k:=k) (j:=0) (x:=encSl y) (u:=.slice y.1 y.2.1 y.2.2) (by rw [List.getElem?_map,hy];rfl) rfl
 simpa using this
theorem DbX.storeSet {g k b' : Nat} {y : Option Addr × Nat × Nat} {l : List (Int × Int)} (h : DbX w base p x An nn cn bm nm D (some ⟨g,0,none⟩) ns cs xs N S) (hk : k < ns) (ho : Own w b' 211 2 y.1 y.2.1 y.2.2 (l.map encR)) (hb : base ≤ b') :
  DbX (w.setCell ⟨g,k,none⟩ (.slice y.1 y.2.1 y.2.2)) base p x An nn cn bm nm D (some ⟨g,0,none⟩) ns cs (xs.set k y) N (S.set k l) ∧ KX base x w (w.setCell ⟨g,k,none⟩ (.slice y.1 y.2.1 y.2.2)):=by
 obtain ⟨t1,t2,t3,t4,t5,t6⟩:=types_ne
 have hgp : g ≠ p:=h.hs.off h.blk t3 _ rfl
 refine ⟨⟨h.blk.far (p:=⟨g,k,none⟩) (Ne.symm hgp) _,h.pb,?_,?_,h.nle,h.bb,h.hD,?_,?_,h.xp,h.xb,h.xn,h.xs_⟩,KX.setCell w (q:=⟨g,k,none⟩) (h.hs.lt _ rfl).1 (h.xs_ ⟨g,0,none⟩ rfl) _⟩
 ·exact h.hn.setCell (p:=⟨g,k,none⟩) (fun a ha e=>h.hn.apart h.hs t1 a ⟨g,0,none⟩ ha rfl e) _
 ·exact map_setCell h.hm (q:=⟨g,k,none⟩) (fun e=>h.hs.offMap h.hm ⟨g,0,none⟩ rfl e.symm) _
 ·exact h.hs.storedSl (by rw [h.lenS.1];exact hk) y
 ·refine Sets.set_ (h.hx.setCell (q:=⟨g,k,none⟩) (fun r=>own_not_R h.hs t5 g r rfl) _) ?_
  exact (ho.setCell (p:=⟨g,k,none⟩) (fun a ha e=>ho.apart h.hs (Ne.symm t5) a ⟨g,0,none⟩ ha rfl e) _).more hb
end
end Go.Proofs.YtdngkienloligaaGreatDoor
/- -/
namespace Go.Proofs.YtdngkienloligaaGreatDoor
open Go.RowKit
def ItemEnd (b : Nat) (s : ByteArray) (r : Except (Int × Nat) ((Int × Int) × Nat)) (e : Ending) (w' : World) : Prop :=
 match r with
 | .error x=>e = faultEnd x
 | .ok (x,q)=>e = .returned (.agg #[.int .i32 x.1,.int .i32 x.2]) ∧ Rdr w' b s q
theorem ItemEnd.err {b : Nat} {s : ByteArray} {r : Except (Int × Nat) ((Int × Int) × Nat)} {x : Int × Nat} {w' : World} (h : r = .error x) : ItemEnd b s r (faultEnd x) w':=by rw [h];exact rfl
theorem ItemEnd.fine {b : Nat} {s : ByteArray} {r : Except (Int × Nat) ((Int × Int) × Nat)} {x y : Int} {q : Nat} {w' : World} (h : r = .ok ((x,y),q)) (hr : Rdr w' b s q) : ItemEnd b s r (.returned (.agg #[.int .i32 x,.int .i32 y])) w':=by rw [h];exact ⟨rfl,hr⟩
theorem Tabs.grown {w w' : World} {b a : Nat} {s : ByteArray} (h : Tabs w) (hr : Rdr w b s a) (hg : w.grownBy w' (some b)) : Tabs w':=by
 have h0:=hr.c0
 have n1 : 0 ≠ b:=fun e=>by subst e;have:=h.1 0 (by omega);rw [h0] at this;cases this
 have n2 : 1 ≠ b:=fun e=>by subst e;have:=(h.2 0 (by omega)).1;rw [show 2 * 0 = 0 from rfl,h0] at this;cases this
 exact ⟨fun c hc=>hg.cell (h.1 c hc) (fun e=>n1 (by simpa using e)),fun i hi=>⟨hg.cell (h.2 i hi).1 (fun e=>n2 (by simpa using e)),hg.cell (h.2 i hi).2 (fun e=>n2 (by simpa using e))⟩⟩
set_option maxRecDepth 100000 in
set_option maxHeartbeats 1000000 in
theorem item_any (s : ByteArray) (a b : Nat) (w : World) (hT : Tabs w) (hR : Rdr w b s a) (ha : a ≤ s.size) (hs : s.size ≤ 1000000) :
  Calls Tryz.prog 255 #[.pointer (some ⟨b,0,none⟩)] w fun e w'=>w.grownBy w' (some b) ∧ ItemEnd b s (itemP s a) e w':=by
 have c0:=hR.c0
 have c1:=hR.c1
 have hlt : b < w.heap.size:=hR.lt
 have HR1:=Lib.hid (fun W hW hr=>rune_any s a b W hW hr ha hs)
 have Hunf : Hid (itemP s a = _):=Lib.hid (show itemP s a = (match runeP s a with
  | .error e=>.error e
  | .ok (lo,p) =>
   match (if (rest s p).head? = some 45 then runeP s (p + 1) else .ok (lo,p)) with
   | .error e=>.error e
   | .ok (hi,q)=>if hi < lo then .error (20,a) else if (rest s q).head? ≠ none ∧ (rest s q).head? ≠ some 32 then .error (21,q) else .ok ((lo,hi),q)) from rfl)
 have Hok : Hid (∀ (q : Nat) (r : Int),runeP s a = .ok (r,q) → a < q ∧ q ≤ s.size ∧ 0 ≤ r ∧ r ≤ 1114111):=Lib.hid (fun q r h=>runeP_ok h)
 have Hbox : Hid (∀ W : World,Rdr W b s a → Rdr (W.alloc (.cells #[.int .i32 0,.int .i32 0] 211)) b s a):=Lib.hid (fun W h=>Blk.alloc h _)
 generalize runeP s a = Q at HR1 Hunf Hok
 cases Q with
 | error x =>
  go_enter Tryz.func255,Tryz.ntmps255
  go_wp2_with fail
  refine (HR1.out _ (hT.below ((Below.refl _ _).alloc (Nat.le_refl _) _)) (Hbox.out _ hR)).mono ?_
  rintro e w2 ⟨hg,rfl⟩
  exact ⟨rfl,only_trans (only_alloc (only_refl _ _) _) hg,ItemEnd.err (x:=x) Hunf.out⟩
 | ok y =>
  obtain ⟨lo,p⟩:=y
  obtain ⟨hp1,hp2,hl0,hl1⟩:=Hok.out _ _ rfl
  clear Hok
  go_enter Tryz.func255,Tryz.ntmps255
  go_wp2_with fail
  refine (HR1.out _ (hT.below ((Below.refl _ _).alloc (Nat.le_refl _) _)) (Hbox.out _ hR)).mono ?_
  rintro e w2 ⟨hg,rfl,hr2⟩
  have hne : b ≠ w.heap.size:=by omega
  have hbox2 : Blk w2 w.heap.size 211 #[.int .i32 0,.int .i32 0]:=(Blk.new w 211 _).grown hg (by simp;omega)
  have hg2 : w.grownBy w2 (some b):=only_trans (only_alloc (only_refl _ _) _) hg
  have hT2 : Tabs w2:=hT.grown hR hg2
  clear hg c0 c1
  have r0 : w2.cell? ⟨w.heap.size,0,none⟩ = some (.int .i32 0):=hbox2.cell 0
  have r1 : w2.cell? ⟨w.heap.size,1,none⟩ = some (.int .i32 0):=hbox2.cell 1
  have q0:=hbox2.frozen 0
  have q1:=hbox2.frozen 1
  have c0:=hr2.c0
  have c1:=hr2.c1
  have f1:=hr2.f1
  by_cases hdash : (rest s p).head? = some 45
  ·have HI2 : Hid (itemP s a = (match runeP s (p + 1) with
    | .error e=>.error e
    | .ok (hi,q)=>if hi < lo then .error (20,a) else if (rest s q).head? ≠ none ∧ (rest s q).head? ≠ some 32 then .error (21,q) else .ok ((lo,hi),q))):=Lib.hid (Hunf.out.trans (by simp only [if_pos hdash]))
   have hps : p < s.size:=by
    rcases Nat.lt_or_ge p s.size with h | h
    ·exact h
    ·rw [rest_none h] at hdash;simp at hdash
   have hdb : (((s[p]'hps).toNat : Int) == 45) = true:=by
    rw [rest_head hps] at hdash;injection hdash with e;rw [e];rfl
   have HR3:=Lib.hid (fun W hW hr=>rune_any s (p + 1) b W hW hr (by omega) hs)
   have Hok2 : Hid (∀ (q : Nat) (r : Int),runeP s (p + 1) = .ok (r,q) → p + 1 < q ∧ q ≤ s.size ∧ 0 ≤ r ∧ r ≤ 1114111):=Lib.hid (fun q r h=>runeP_ok h)
   clear hdash
   generalize runeP s (p + 1) = Q2 at HI2 HR3 Hok2
   cases Q2 with
   | error x =>
    go_wp2_with fail
    go_quiet (fail)
    go_wp2_with fail
    have hg3 : w.grownBy ((w2.drewN nq).setCell ⟨b,1,none⟩ (.int .i64 ((p : Int) + 1))) (some b):=only_setCell (only_drewN hg2 _) (.inl rfl) _
    refine (HR3.out _ (hT.grown hR hg3) ((hr2.drewN _).set' _ _ (by omega))).mono ?_
    rintro e w3 ⟨hg,rfl⟩
    exact ⟨rfl,only_trans hg3 hg,ItemEnd.err (x:=x) HI2.out⟩
   | ok y =>
    obtain ⟨hi,q⟩:=y
    obtain ⟨hq1,hq2,hh0,hh1⟩:=Hok2.out _ _ rfl
    clear Hok2
    have HI : Hid (itemP s a = if hi < lo then .error (20,a) else if (rest s q).head? ≠ none ∧ (rest s q).head? ≠ some 32 then .error (21,q) else .ok ((lo,hi),q)):=Lib.hid HI2.out
    clear HI2
    go_wp2_with fail
    go_quiet (fail)
    clear hdb
    go_wp2_with fail
    have hg3 : w.grownBy ((w2.drewN nq).setCell ⟨b,1,none⟩ (.int .i64 ((p : Int) + 1))) (some b):=only_setCell (only_drewN hg2 _) (.inl rfl) _
    have hbx3 : Blk ((w2.drewN nq).setCell ⟨b,1,none⟩ (.int .i64 ((p : Int) + 1))) w.heap.size 211 #[.int .i32 0,.int .i32 0]:=Blk.far (hbox2.drewN _) (fun e=>hne e.symm) _
    refine (HR3.out _ (hT.grown hR hg3) ((hr2.drewN _).set' _ _ (by omega))).mono ?_
    rintro e w3 ⟨hg,rfl,hr3⟩
    have hbx:=hbx3.grown hg (fun e=>hne (by simpa using e.symm))
    have hg4:=only_trans hg3 hg
    clear hg3 hg hbx3 hr2 hg2 hbox2 r0 r1 q0 q1 c0 c1 f1 hT2
    have hr2:=hr3
    have hg2:=hg4
    clear hr3 hg4
    have r0 : w3.cell? ⟨w.heap.size,0,none⟩ = some (.int .i32 0):=hbx.cell 0
    have r1 : w3.cell? ⟨w.heap.size,1,none⟩ = some (.int .i32 0):=hbx.cell 1
    have q0:=hbx.frozen 0
    have q1:=hbx.frozen 1
    have c0:=hr2.c0
    have c1:=hr2.c1
    by_cases hlo : hi < lo
    ·have HE : Hid (itemP s a = .error (20,a)):=Lib.hid (by rw [HI.out,if_pos hlo])
     go_wp2
     exact ⟨rfl,hg2,ItemEnd.err (x:=(20,a)) HE.out⟩
    ·have hlo' : lo ≤ hi:=by omega
     clear hlo
     by_cases hq : q < s.size
     ·by_cases hb32 : s[q]'hq = 32
      ·have HE : Hid (itemP s a = .ok ((lo,hi),q)):=Lib.hid (by rw [HI.out,if_neg (by omega),rest_head hq,hb32,if_neg (by simp)])
       have hqb : (((s[q]'hq).toNat : Int) != 32) = false:=by rw [hb32];rfl
       clear hb32
       go_wp2_with fail
       go_quiet (fail)
       go_wp2
       refine bodyPost_ret (v:=.agg #[.int .i32 lo,.int .i32 hi]) (by simp [results,Tryz.results255,go_sem,r0,r1]) rfl ⟨only_setCell (only_setCell (only_drewN hg2 _) (.inr (Nat.le_refl _)) _) (.inr (Nat.le_refl _)) _,ItemEnd.fine HE.out ?_⟩
       exact Blk.far (Blk.far (hr2.drewN _) hne _) hne _
      ·have HE : Hid (itemP s a = .error (21,q)):=Lib.hid (by rw [HI.out,if_neg (by omega),rest_head hq,if_pos ⟨by simp,by simpa using hb32⟩])
       have hqb : (((s[q]'hq).toNat : Int) != 32) = true:=byte_ne hb32
       clear hb32
       go_wp2_with fail
       go_quiet (fail)
       go_wp2
       exact ⟨rfl,only_drewN hg2 _,ItemEnd.err (x:=(21,q)) HE.out⟩
     ·have HE : Hid (itemP s a = .ok ((lo,hi),q)):=Lib.hid (by rw [HI.out,if_neg (by omega),rest_none (by omega),if_neg (by simp)])
      have hd : decide (q < s.size) = false:=decide_eq_false hq
      clear hq
      go_wp2_with fail
      go_quiet (fail)
      go_wp2
      refine bodyPost_ret (v:=.agg #[.int .i32 lo,.int .i32 hi]) (by simp [results,Tryz.results255,go_sem,r0,r1]) rfl ⟨only_setCell (only_setCell (only_drewN hg2 _) (.inr (Nat.le_refl _)) _) (.inr (Nat.le_refl _)) _,ItemEnd.fine HE.out ?_⟩
      exact Blk.far (Blk.far (hr2.drewN _) hne _) hne _
  ·have HI : Hid (itemP s a = if lo < lo then .error (20,a) else if (rest s p).head? ≠ none ∧ (rest s p).head? ≠ some 32 then .error (21,p) else .ok ((lo,lo),p)):=Lib.hid (Hunf.out.trans (by simp only [if_neg hdash]))
   by_cases hps : p < s.size
   ·have hdb : (((s[p]'hps).toNat : Int) == 45) = false:=by rw [beq_eq_false_iff_ne,← bne_iff_ne];exact byte_ne (fun e=>hdash (by rw [rest_head hps,e];rfl))
    clear hdash
    go_wp2_with fail
    go_quiet (fail)
    clear hdb
    have hg9:=only_drewN hg2 nq
    have hr9:=hr2.drewN nq
    by_cases hb32 : s[p]'hps = 32
    ·have HE : Hid (itemP s a = .ok ((lo,lo),p)):=Lib.hid (by rw [HI.out,if_neg (by omega),rest_head hps,hb32,if_neg (by simp)])
     have hpsb : (((s[p]'hps).toNat : Int) != 32) = false:=by rw [hb32];rfl
     clear hb32
     go_wp2_with fail
     go_quiet (fail)
     go_wp2
     refine bodyPost_ret (v:=.agg #[.int .i32 lo,.int .i32 lo]) (by simp [results,Tryz.results255,go_sem,r0,r1]) rfl ⟨only_setCell (only_setCell (only_drewN hg2 _) (.inr (Nat.le_refl _)) _) (.inr (Nat.le_refl _)) _,ItemEnd.fine HE.out ?_⟩
     exact Blk.far (Blk.far (hr2.drewN _) hne _) hne _
    ·have HE : Hid (itemP s a = .error (21,p)):=Lib.hid (by rw [HI.out,if_neg (by omega),rest_head hps,if_pos ⟨by simp,by simpa using hb32⟩])
     have hpsb : (((s[p]'hps).toNat : Int) != 32) = true:=byte_ne hb32
     clear hb32
     go_wp2_with fail
     go_quiet (fail)
     go_wp2
     exact ⟨rfl,only_drewN hg2 _,ItemEnd.err (x:=(21,p)) HE.out⟩
   ·have hd : decide (p < s.size) = false:=decide_eq_false hps
    have HE : Hid (itemP s a = .ok ((lo,lo),p)):=Lib.hid (by rw [HI.out,if_neg (by omega),rest_none (by omega),if_neg (by simp)])
    clear hdash hps
    go_wp2_with fail
    go_quiet (fail)
    go_wp2_with fail
    go_quiet (fail)
    go_wp2
    refine bodyPost_ret (v:=.agg #[.int .i32 lo,.int .i32 lo]) (by simp [results,Tryz.results255,go_sem,r0,r1]) rfl ⟨only_setCell (only_setCell (only_drewN hg2 _) (.inr (Nat.le_refl _)) _) (.inr (Nat.le_refl _)) _,ItemEnd.fine HE.out ?_⟩
    exact Blk.far (Blk.far (hr2.drewN _) hne _) hne _
end Go.Proofs.YtdngkienloligaaGreatDoor
/- -/
namespace Go.Proofs.YtdngkienloligaaGreatDoor
open Go.RowKit
attribute [local go_sem ↓] neqR eqlR
end Go.Proofs.YtdngkienloligaaGreatDoor
/- -/
namespace Go.Proofs.YtdngkienloligaaGreatDoor
open Go.RowKit Go.Sort
section
variable {α : Type} [Inhabited α] {enc : α → List Value} {k : Nat} {w : World} {base : Nat} {e : TypeId} {g n c : Nat} {d : Array α}
theorem own_holdsK (hk : ∀ x,(enc x).length = k) (hpos : 0 < k) (h : Own w base e k (some ⟨g,0,none⟩) n c (d.toList.map enc)) : HoldsK enc k w g 0 d:=by
 intro j hj
 rw [size_flatK] at hj
 have hq : j / k < d.size:=(Nat.div_lt_iff_lt_mul hpos).2 hj
 have hr : j % k < (enc d[j / k]!).length:=by rw [hk];exact Nat.mod_lt _ hpos
 refine ⟨?_,?_⟩
 ·rw [id,get_flatK enc k d j hj]
  have h1:=h.cell (k:=j / k) (j:=j % k) (x:=enc d[j / k]!) (u:=(enc d[j / k]!)[j % k]!) (by rw [List.getElem?_map];simp [hq]) (by rw [List.getElem?_eq_getElem hr,getElem!_pos (enc d[j / k]!) (j % k) hr])
  rw [show 0 + j = j / k * k + j % k by rw [Nat.zero_add,Nat.div_add_mod']]
  exact h1
 ·exact h.frozen _
theorem flat_take (hk : ∀ x,(enc x).length = k) (hpos : 0 < k) {d' : Array α} {cur : Array Value} (hc : d'.size * k ≤ cur.size) :
  ((putCells id 0 (flatK enc k d') cur).toList.take (d'.size * k)) = (d'.toList.map enc).flatten:=by
 apply List.ext_getElem?
 intro t
 have hall : ∀ x ∈ d'.toList.map enc,x.length = k:=fun x hx=>by obtain ⟨y,_,rfl⟩:=List.mem_map.1 hx;exact hk y
 by_cases ht : t < d'.size * k
 ·have hq : t / k < d'.size:=(Nat.div_lt_iff_lt_mul hpos).2 ht
  have hr : t % k < (enc d'[t / k]!).length:=by rw [hk];exact Nat.mod_lt _ hpos
  have h1:=flatten_get hall (k:=t / k) (j:=t % k) (x:=enc d'[t / k]!) (u:=(enc d'[t / k]!)[t % k]!) (by rw [List.getElem?_map];simp [hq]) (by rw [List.getElem?_eq_getElem hr,getElem!_pos (enc d'[t / k]!) (t % k) hr])
  rw [Nat.div_add_mod'] at h1
  rw [h1,List.getElem?_take,if_pos ht,Array.getElem?_toList,putCells,Array.getElem?_mapIdx,Array.getElem?_eq_getElem (by omega)]
  have h2:=get_flatK enc k d' t ht
  simp only [Option.map_some,Nat.zero_le,true_and,Nat.zero_add,size_flatK,ht,if_true,id,Nat.sub_zero]
  rw [h2]
 ·rw [List.getElem?_take,if_neg ht,List.getElem?_eq_none]
  rw [flatten_len hall];simp;omega
theorem own_sorted (hk : ∀ x,(enc x).length = k) (hpos : 0 < k) (h : Own w base e k (some ⟨g,0,none⟩) n c (d.toList.map enc)) {d' : Array α} (hs : d'.size = d.size) (m : Nat) (os : Array Obj) :
  Own (sortWorldK enc k w g 0 m d' os) base e k (some ⟨g,0,none⟩) n c (d'.toList.map enc) ∧ w.grownBy (sortWorldK enc k w g 0 m d' os) (some g):=by
 have hn : d.size = n:=by have:=h.1;simpa using this
 rcases h.2.2.2 with ⟨h0,_⟩ | ⟨g',cap,cur,hv,hb,hh,h1,h2,h3,h4⟩
 ·cases h0
 ·injection hv with hA _ hc
  injection hA with hA
  injection hA with hA
  subst hA;subst hc
  have hlt : g < w.heap.size:=(Array.getElem?_eq_some_iff.1 hh).1
  refine ⟨⟨by simp [hs,hn],fun x hx=>by obtain ⟨y,_,rfl⟩:=List.mem_map.1 hx;exact hk y,?_,.inr ⟨g,c,putCells id 0 (flatK enc k d') cur,rfl,hb,?_,h1,h2,?_,?_⟩⟩,?_⟩
  ·rw [flatten_len (s:=k) (fun x hx=>by obtain ⟨y,_,rfl⟩:=List.mem_map.1 hx;exact hk y)];simp [hs,hn]
  ·show (grow _ os).heap[g]? = _
   rw [heap_grow_old _ _ (by simp [putRowK,putRow,mapBlock];exact hlt)]
   simp only [putRowK,putRow,mapBlock,Array.getElem?_modify,if_true]
   rw [show (Go.Sort.ahead w m).heap = w.heap from rfl,hh];rfl
  ·simp [putCells,h3]
  ·have:=flat_take (d':=d') (cur:=cur) hk hpos (by rw [h3,hs,hn];exact Nat.mul_le_mul_right k h1)
   rw [hs,hn] at this
   exact this
  ·refine ⟨rfl,rfl,rfl,by simp [sortWorldK,putRowK,putRow,mapBlock],fun i hi hne=>?_⟩
   show (grow _ os).heap[i]? = _
   rw [heap_grow_old _ _ (by simp [putRowK,putRow,mapBlock];exact hi)]
   simp only [putRowK,putRow,mapBlock,Array.getElem?_modify]
   rw [if_neg (fun e=>hne (by rw [e]))];rfl
end
end Go.Proofs.YtdngkienloligaaGreatDoor
/- -/
namespace Go.Proofs.YtdngkienloligaaGreatDoor
def runesGo (s : ByteArray) : Nat → Nat → List (Nat × Nat × Nat)
 | 0,_=>[]
 | f + 1,a=>if a < s.size then ((Utf8.decode s a).1,a,a + (Utf8.decode s a).2) :: runesGo s f (a + (Utf8.decode s a).2) else []
def runesP (s : ByteArray) : List (Nat × Nat × Nat):=runesGo s s.size 0
theorem runesGo_end {s : ByteArray} {f a : Nat} (h : s.size ≤ a) : runesGo s f a = []:=by
 cases f with
 | zero=>rfl
 | succ f=>rw [runesGo,if_neg (by omega)]
theorem runesGo_step {s : ByteArray} {f a : Nat} (h : a < s.size) (hf : s.size ≤ a + f) : ∃ g,f = g + 1 ∧ runesGo s f a = ((Utf8.decode s a).1,a,a + (Utf8.decode s a).2) :: runesGo s g (a + (Utf8.decode s a).2):=by
 obtain ⟨g,rfl⟩ : ∃ g,f = g + 1:=⟨f - 1,by omega⟩
 exact ⟨g,rfl,by rw [runesGo,if_pos h]⟩
theorem runesGo_bd {s : ByteArray} : ∀ (f a : Nat),∀ x ∈ runesGo s f a,a ≤ x.2.1 ∧ x.2.1 < x.2.2 ∧ x.2.2 ≤ s.size ∧ x.2.2 ≤ x.2.1 + 4 ∧ x.1 ≤ 1114111
 | 0,a,x,h=>by simp [runesGo] at h
 | f + 1,a,x,h=>by
  rw [runesGo] at h
  split at h
  ·rename_i hlt
   have hd:=dec_bd s a hlt
   rcases List.mem_cons.1 h with rfl | h
   ·simp only;omega
   ·have:=runesGo_bd f _ x h;omega
  ·simp at h
theorem runesP_bd {s : ByteArray} : ∀ x ∈ runesP s,x.2.1 < x.2.2 ∧ x.2.2 ≤ s.size ∧ x.2.2 ≤ x.2.1 + 4 ∧ x.1 ≤ 1114111:=fun x h=>(runesGo_bd _ _ x h).2
theorem runesGo_len {s : ByteArray} : ∀ (f a : Nat),a + (runesGo s f a).length ≤ max a s.size
 | 0,a=>by simp [runesGo];omega
 | f + 1,a=>by
  rw [runesGo]
  split
  ·rename_i hlt
   have hd:=dec_bd s a hlt
   have:=runesGo_len (s:=s) f (a + (Utf8.decode s a).2)
   simp only [List.length_cons];omega
  ·simp;omega
theorem runesP_len (s : ByteArray) : (runesP s).length ≤ s.size:=by have:=runesGo_len (s:=s) s.size 0;unfold runesP;omega
def firstP (s : ByteArray) : Nat × Nat:=match runesP s with
 | []=>(0,0)
 | x :: _=>(x.1,x.2.2)
theorem firstP_eq (s : ByteArray) : firstP s = if 0 < s.size then Utf8.decode s 0 else (0,0):=by
 unfold firstP runesP
 split
 ·rename_i h
  by_cases h0 : 0 < s.size
  ·obtain ⟨g,_,hg⟩:=runesGo_step (s:=s) (f:=s.size) (a:=0) h0 (by omega)
   rw [hg] at h;simp at h
  ·rw [if_neg h0]
 ·rename_i x r h
  by_cases h0 : 0 < s.size
  ·obtain ⟨g,_,hg⟩:=runesGo_step (s:=s) (f:=s.size) (a:=0) h0 (by omega)
   rw [hg] at h;injection h with h _;subst h
   simp [h0]
  ·rw [runesGo_end (by omega)] at h;simp at h
end Go.Proofs.YtdngkienloligaaGreatDoor
/- -/
namespace Go.Proofs.YtdngkienloligaaGreatDoor
theorem indexByte_at {c : UInt8} (r : List UInt8) : ∀ (a : List UInt8),c ∉ a → Lib.indexByte (a ++ c :: r) c = a.length
 | [],_=>by rw [List.nil_append,Lib.indexByte,if_pos (by simp)];rfl
 | b :: a,h=>by
  have ih:=indexByte_at r a (fun hm=>h (List.mem_cons_of_mem _ hm))
  have hb : ¬ (b == c) = true:=fun e=>h (by rw [beq_iff_eq.1 e];exact List.mem_cons_self)
  rw [List.cons_append,Lib.indexByte,ih,if_neg hb,if_neg (by simp)]
  simp
theorem splitL_no : ∀ {x : List UInt8},(∀ c ∈ x,c ≠ 10) → splitL x = [x]
 | [],_=>rfl
 | c :: x,h=>by
  show (if c = 10 then _ else _) = _
  rw [if_neg (h c (by simp)),splitL_no (fun d hd=>h d (by simp [hd]))]
theorem splitK_lines : ∀ (k : Nat) (s : List UInt8),s.count 10 = k → Lib.splitK [10] 0 k s = splitL s
 | 0,s,h=>by
  rw [splitL_no (fun c hc e=>by subst e;exact absurd hc (List.count_eq_zero.1 h))];rfl
 | k + 1,s,h=>by
  have hm : (10 : UInt8) ∈ s:=List.count_pos_iff.1 (by omega)
  obtain ⟨a,r,rfl,ha⟩:=List.eq_append_cons_of_mem hm
  have hi : Lib.index (a ++ 10 :: r) [10] = a.length:=by rw [Lib.index_one];exact indexByte_at r a ha
  have hr : r.count 10 = k:=by
   rw [List.count_append,List.count_eq_zero.2 ha,List.count_cons_self] at h;omega
  rw [Lib.splitK,hi,if_neg (by simp),splitL_line (fun c hc e=>ha (e ▸ hc))]
  congr 1
  ·simp
  ·rw [← splitK_lines k r hr]
   congr 1
   show List.drop ((a.length : Int).toNat + 1) _ = r
   rw [Int.toNat_natCast,← List.drop_drop,List.drop_left];rfl
theorem split_lines (s : ByteArray) : (Lib.splitB (bytesOf [10]) 0 (Lib.countB s (bytesOf [10])) s).map (·.data.toList) = splitL s.data.toList:=by
 rw [Lib.splitB_data,bytesOf_list]
 refine splitK_lines _ _ ?_
 show _ = Lib.count s.data.toList (bytesOf [10]).data.toList
 rw [bytesOf_list,Lib.count_one]
theorem spcL_no : ∀ {x : List UInt8},(9 : UInt8) ∉ x → spcL x = x
 | [],_=>rfl
 | c :: x,h=>by
  show (if c = 9 then 32 else c) :: spcL x = _
  rw [if_neg (fun e=>h (by simp [e])),spcL_no (fun hm=>h (by simp [hm]))]
theorem replaceK_spc : ∀ (k : Nat) (s : List UInt8),s.count 9 = k → Lib.replaceK [9] [32] k s = spcL s
 | 0,s,h=>by rw [spcL_no (List.count_eq_zero.1 h)];rfl
 | k + 1,s,h=>by
  have hm : (9 : UInt8) ∈ s:=List.count_pos_iff.1 (by omega)
  obtain ⟨a,r,rfl,ha⟩:=List.eq_append_cons_of_mem hm
  have hi : Lib.index (a ++ 9 :: r) [9] = a.length:=by rw [Lib.index_one];exact indexByte_at r a ha
  have hr : r.count 9 = k:=by
   rw [List.count_append,List.count_eq_zero.2 ha,List.count_cons_self] at h;omega
  rw [Lib.replaceK_hit _ _ _ _ _ hi]
  have e : (a ++ 9 :: r).drop (a.length + [(9 : UInt8)].length) = r:=by
   show List.drop (a.length + 1) _ = r
   rw [← List.drop_drop,List.drop_left];rfl
  rw [e,replaceK_spc k r hr,List.take_left]
  unfold spcL
  rw [List.map_append,List.map_cons,if_pos rfl]
  have : a.map (fun c=>if c = 9 then (32 : UInt8) else c) = a:=spcL_no ha
  rw [this];simp
theorem replace_spc (s : List UInt8) : Lib.replaceAll s [9] [32] = spcL s:=by
 unfold Lib.replaceAll Lib.replace
 rw [if_neg (by decide)]
 refine replaceK_spc _ _ ?_
 unfold Lib.replaceNum
 rw [if_pos (.inl (by decide)),Lib.count_one]
theorem splitL_ne : ∀ (s : List UInt8),splitL s ≠ []
 | []=>by simp [splitL]
 | c :: r=>by
  unfold splitL
  split
  ·simp
  ·split <;> simp
theorem splitL_count : ∀ (s : List UInt8),(splitL s).length = s.count 10 + 1
 | []=>rfl
 | c :: r=>by
  have ih:=splitL_count r
  unfold splitL
  split
  ·rename_i h;subst h;rw [List.length_cons,ih,List.count_cons_self]
  ·rename_i h
   rw [List.count_cons_of_ne h]
   cases hs : splitL r with
   | nil=>exact absurd hs (splitL_ne r)
   | cons x t=>rw [hs] at ih;simpa using ih
theorem splitL_snoc_line (done : List (List UInt8)) (x r : List UInt8) (h : ∀ c ∈ x,c ≠ 10) : done ++ splitL (x ++ 10 :: r) = (done ++ [x]) ++ splitL r:=by rw [splitL_line h];simp
structure LinesAt (s : List UInt8) (i frm : Nat) (done : List (List UInt8)) : Prop where
 le : frm ≤ i
 le2 : i ≤ s.length
 clean : ∀ c ∈ (s.drop frm).take (i - frm),c ≠ 10
 all : splitL s = done ++ splitL (s.drop frm)
theorem LinesAt.start (s : List UInt8) : LinesAt s 0 0 []:=⟨Nat.le_refl _,Nat.zero_le _,by simp,by simp⟩
theorem LinesAt.byte {s : List UInt8} {i frm : Nat} {done : List (List UInt8)} {c : UInt8} (h : LinesAt s i frm done) (hc : s[i]? = some c) (hn : c ≠ 10) : LinesAt s (i + 1) frm done:=by
 have hlt:=(List.getElem?_eq_some_iff.1 hc).1
 refine ⟨by have:=h.le;omega,by omega,fun d hd=>?_,h.all⟩
 have hle:=h.le
 rw [show i + 1 - frm = (i - frm) + 1 by omega,List.take_add_one,List.getElem?_drop,show frm + (i - frm) = i by omega,hc] at hd
 rcases List.mem_append.1 hd with hd | hd
 ·exact h.clean d hd
 ·simp at hd;subst hd;exact hn
theorem LinesAt.line {s : List UInt8} {i frm : Nat} {done : List (List UInt8)} (h : LinesAt s i frm done) (hc : s[i]? = some 10) : LinesAt s (i + 1) (i + 1) (done ++ [(s.drop frm).take (i - frm)]):=by
 have hlt:=(List.getElem?_eq_some_iff.1 hc).1
 have hle:=h.le
 refine ⟨Nat.le_refl _,by omega,by simp,?_⟩
 have e : s.drop frm = (s.drop frm).take (i - frm) ++ 10 :: s.drop (i + 1):=by
  conv=>lhs;rw [← List.take_append_drop (i - frm) (s.drop frm)]
  rw [List.drop_drop,show frm + (i - frm) = i by omega,drop_cons_of hc]
 rw [h.all]
 conv=>lhs;rw [e]
 exact splitL_snoc_line done _ _ h.clean
theorem LinesAt.done {s : List UInt8} {frm : Nat} {done : List (List UInt8)} (h : LinesAt s s.length frm done) : splitL s = done ++ [s.drop frm]:=by
 have hc:=h.clean
 rw [List.take_of_length_le (by rw [List.length_drop];omega)] at hc
 rw [h.all,splitL_no hc]
end Go.Proofs.YtdngkienloligaaGreatDoor
/- -/
namespace Go.Proofs.YtdngkienloligaaGreatDoor
open Go.RowKit
def TabB (w : World) : Prop:=w.cell? ⟨7,15,none⟩ = some (.int .u8 4)
end Go.Proofs.YtdngkienloligaaGreatDoor
/- -/
namespace Go.Proofs.YtdngkienloligaaGreatDoor
open Go.ChangeShapes Go.WideShapes Go.ChangeAt Go.RowKit
section
variable {H : Type} {enc : TypeId × Value → H} {P : Program}
theorem trodAll_stays {W W' : World} {sp' : Nat → Bool} (hl : laidOutB P = true) : ∀ {ts : List TypeId} {vs : List Value} {ds : List (DataW H)} {ps : List MemPlace},(∀ t ∈ ts,P.readableRec t = true ∧ t < P.types.size) →
  DataW.TrodAll enc P W 0 (fun _=>true) true ts vs ds ps → (∀ p ∈ ps,W.sameAt W' p) → (∀ p ∈ ps,sp' p.block = true) → DataW.TrodAll enc P W' 0 sp' true ts vs ds ps
 | [],vs,ds,ps,_,h,_,_=>by
  obtain ⟨rfl,rfl,rfl⟩:=trodAll_nil h
  exact trodAll_mk0
 | t :: ts,vs,ds,ps,ht,h,h1,h2=>by
  obtain ⟨v,vs',d,ds',p,q,rfl,rfl,rfl,h0,hr⟩:=trodAll_cons h
  exact trodAll_cons_mk (WideElems.Trod_stays hl (ht t (by simp)).1 (ht t (by simp)).2 h0 (fun x hx=>h1 x (by simp [hx])) (fun x hx=>h2 x (by simp [hx])))
   (trodAll_stays hl (fun u hu=>ht u (by simp [hu])) hr (fun x hx=>h1 x (by simp [hx])) (fun x hx=>h2 x (by simp [hx])))
theorem post_law {f : Func} {s : ChangeSpec} {apart fresh handsOn again : Bool} {W W' : World} {args : Array Value} {ds gs : List (DataW H)} {before : List MemPlace} {tb : TypeId}
  (hl : laidOutB P = true) (hps : (f.params.toList.all fun t=>P.readableRec t && decide (t < P.types.size)) = true) (hres : f.resultTypes = #[tb]) (htb : P.underlying tb = some .bool) (hv : s.vars = [])
  (hfn : ∀ (gs' : List (DataW H)),gs' = [] → s.fn H (ds ++ gs') = { results:=[.lit (.bool true)],args:=ds })
  (hW : DataW.Whole enc P f.params.toList s.vars apart W args.toList ds gs before) (hb : Below W.heap.size W W') :
  s.post enc P f apart fresh handsOn again W args (.bool true) W':=by
 have hlt : ∀ p ∈ before,p.block < W.heap.size:=fun p hp=>hW.lt p hp
 have hW':=hW
 obtain ⟨p,q,hA,hV,rfl,hfz,hnd⟩:=hW'
 have hA' : DataW.TrodAll enc P W 0 (fun _=>true) true f.params.toList args.toList ds p:=hA
 rw [hv] at hV
 obtain ⟨rfl,rfl⟩:=trodVars_none hV
 have hpr : ∀ t ∈ f.params.toList,P.readableRec t = true ∧ t < P.types.size:=fun t ht=>by
  have:=List.all_eq_true.1 hps t ht
  simpa using this
 have hres' : ∀ (b : Nat) (sp : Nat → Bool) (hd : Bool),DataW.TrodAll enc P W' b sp hd f.resultTypes.toList ((Value.bool true).resultList f.resultTypes.size) (s.fn H (ds ++ [])).results []:=fun b sp hd=>by
  rw [hres,hfn [] rfl]
  exact trodAll_cons_mk (shut_bool htb _) trodAll_mk0
 have hargs : ∀ sp : Nat → Bool,(∀ x ∈ p ++ [],sp x.block = true) → DataW.TrodAll enc P W' 0 sp true f.params.toList args.toList (s.fn H (ds ++ [])).args p:=fun sp hsp=>by
  rw [hfn [] rfl]
  exact trodAll_stays hl hpr hA' (fun x hx=>hb.same (hlt x (by simp [hx]))) (fun x hx=>hsp x (by simp [hx]))
 have hvars : ∀ sp : Nat → Bool,DataW.TrodVars enc P W' sp s.vars (s.fn H (ds ++ [])).vars []:=fun sp=>by
  rw [hv,hfn [] rfl]
  exact rfl
 have hold : ∀ x ∈ p ++ [],(fun b=>decide (b < W.heap.size)) x.block = true:=fun x hx=>by simpa using hlt x hx
 refine ⟨ds,[],p ++ [],[],p,[],hW,hres' _ _ _,hargs _ hold,hvars _,World.keptBut_mono (fun x hx=>⟨hx,?_⟩) (hb.frame (· ∈ p ++ [])),fun _=>?_⟩
 ·simpa using hx
 ·refine ⟨?_,_,_,([] ++ p) ++ [],⟨[] ++ p,[],trodAll_append (hargs _ (fun _ _=>rfl)) (hres' _ _ _),hvars _,rfl,?_,?_⟩,?_⟩
  ·exact ok_one hres rfl (okWide_bool_mk htb _)
  ·intro b off hp
   have hin : MemPlace.cell b off ∈ p ++ []:=by simpa using hp
   rw [hb.frozen (hlt _ hin)]
   exact hfz b off hin
  ·intro ha
   simpa using hnd ha
  ·intro x hx _
   simpa using hx
end
end Go.Proofs.YtdngkienloligaaGreatDoor
/- -/
namespace Go.Proofs.YtdngkienloligaaGreatDoor
inductive Pat where
 | node (op : Nat) (cs : List Nat) (ks : List Pat)
def pLetter (c : UInt8) : Bool:=(decide (65 ≤ c.toNat) && decide (c.toNat ≤ 90)) || (decide (97 ≤ c.toNat) && decide (c.toNat ≤ 122))
def pPart (c : UInt8) : Bool:=pLetter c || (decide (48 ≤ c.toNat) && decide (c.toNat ≤ 57)) || decide (c.toNat = 95)
def pBlank (c : UInt8) : Bool:=decide (c.toNat = 32) || decide (c.toNat = 9)
def skipB (l : List UInt8) : List UInt8:=l.dropWhile pBlank
def pName (ns : List (List UInt8)) (l : List UInt8) : Option (Nat × List UInt8) :=
 if 32 < (l.takeWhile pPart).length then none else
  match ns.findIdx? (fun x=>x == l.takeWhile pPart) with
  | none=>none
  | some i=>some (i,l.dropWhile pPart)
def listGo (ns : List (List UInt8)) : Nat → List UInt8 → List Nat → Option (List Nat × List UInt8)
 | 0,_,_=>none
 | f + 1,l,acc=>match skipB l with
  | []=>none
  | c :: r=>if c.toNat = 93 then some (acc,r) else if pLetter c then
    match pName ns (c :: r) with
    | none=>none
    | some (i,r2)=>listGo ns f r2 (i :: acc)
   else none
def fromP (n : Nat) (acc : List Nat) (no : Bool) : Pat:=.node 1 ((List.range n).filter fun i=>acc.contains i != no) []
def pBegins (c : UInt8) : Bool:=decide (c.toNat = 40) || decide (c.toNat = 91) || decide (c.toNat = 46) || pLetter c
def pOper (c : UInt8) : Nat:=if c.toNat = 42 then 4 else if c.toNat = 43 then 5 else if c.toNat = 63 then 6 else 0
def opsGo : Nat → Pat → List UInt8 → Nat → Option (Pat × List UInt8 × Nat)
 | 0,_,_,_=>none
 | f + 1,p,l,k=>match skipB l with
  | []=>some (p,[],k)
  | c :: r=>if pOper c = 0 then some (p,c :: r,k) else if 512 ≤ k then none else opsGo f (.node (pOper c) [] [p]) r (k + 1)
def seqOf : List Pat → Pat
 | []=>.node 0 [] []
 | [p]=>p
 | l=>.node 2 [] l
def altOf : List Pat → Pat
 | [p]=>p
 | l=>.node 3 [] l
mutual
def patP (ns : List (List UInt8)) : Nat → Nat → List UInt8 → Nat → Option (Pat × List UInt8 × Nat)
 | 0,_,_,_=>none
 | f + 1,d,l,k=>match branchP ns f d l k [] with
  | none=>none
  | some (p,l1,k1)=>altsP ns f d l1 k1 [p]
def altsP (ns : List (List UInt8)) : Nat → Nat → List UInt8 → Nat → List Pat → Option (Pat × List UInt8 × Nat)
 | 0,_,_,_,_=>none
 | f + 1,d,l,k,acc=>match skipB l with
  | []=>some (altOf acc,[],k)
  | c :: r=>if c.toNat = 124 then (if 512 ≤ k then none else
    match branchP ns f d r (k + 1) [] with
    | none=>none
    | some (p,l1,k1)=>altsP ns f d l1 k1 (acc ++ [p]))
   else if c.toNat = 41 ∧ 0 < d then some (altOf acc,c :: r,k) else none
def branchP (ns : List (List UInt8)) : Nat → Nat → List UInt8 → Nat → List Pat → Option (Pat × List UInt8 × Nat)
 | 0,_,_,_,_=>none
 | f + 1,d,l,k,acc=>match skipB l with
  | []=>some (seqOf acc,[],k)
  | c :: r=>if pBegins c then
    match atomP ns f d c r k with
    | none=>none
    | some (p,l1,k1)=>match opsGo f p l1 k1 with
     | none=>none
     | some (q,l2,k2)=>branchP ns f d l2 k2 (acc ++ [q])
   else some (seqOf acc,c :: r,k)
def atomP (ns : List (List UInt8)) : Nat → Nat → UInt8 → List UInt8 → Nat → Option (Pat × List UInt8 × Nat)
 | 0,_,_,_,_=>none
 | f + 1,d,c,r,k =>
  if 512 ≤ k then none else
  if c.toNat = 40 then
   (if 32 ≤ d then none else
    match patP ns f (d + 1) r (k + 1) with
    | none=>none
    | some (_,[],_)=>none
    | some (p,_ :: l1,k1)=>some (p,l1,k1))
  else if c.toNat = 91 then
   (match skipB r with
   | []=>none
   | b :: r1=>match listGo ns f (if b.toNat = 94 then r1 else b :: r1) [] with
    | none=>none
    | some (acc,l1)=>some (fromP ns.length acc (decide (b.toNat = 94)),l1,k + 1))
  else if c.toNat = 46 then some (fromP ns.length [] true,r,k + 1)
  else match pName ns (c :: r) with
   | none=>none
   | some (i,l1)=>some (.node 1 [i] [],l1,k + 1)
end
def patOf (ns : List (List UInt8)) (l : List UInt8) : Option Pat :=
 if 4096 < l.length then none else
  match patP ns (4 * l.length + 8) 0 l 0 with
  | none=>none
  | some (p,_,_)=>some p
structure RuleP where
 cut : Bool
 start : Bool
 stop : Bool
 left : Pat
 right : Pat
structure RsP where
 rules : List RuleP
 rest : Bool
 rested : Bool
def trimB (l : List UInt8) : List UInt8:=((l.dropWhile pBlank).reverse.dropWhile pBlank).reverse
def plainB (l : List UInt8) : List UInt8:=trimB (l.takeWhile fun c=>decide (c.toNat ≠ 35))
def pSign (c : UInt8) : Bool:=decide (c.toNat = 126) || decide (c.toNat = 47)
def signP (l : List UInt8) : Option (List UInt8 × Bool × List UInt8) :=
 match l.dropWhile (fun c=>!pSign c) with
 | []=>none
 | c :: b=>if b.any pSign then none else some (l.takeWhile (fun c=>!pSign c),decide (c.toNat = 47),b)
def restB : List UInt8:=[114,101,115,116]
def ruleLine (ns : List (List UInt8)) (x : RsP) (l : List UInt8) : Option RsP :=
 match plainB l with
 | []=>some x
 | h :: t=>match signP (h :: t) with
  | none=>none
  | some (a,cut,b)=>if x.rested then none else
   if trimB a == restB then (if trimB b == [] then some { x with rest:=cut,rested:=true } else none) else
   if 64 ≤ x.rules.length then none else
   match patOf ns (if (trimB a).head? == some 94 then (trimB a).drop 1 else trimB a),patOf ns (if (trimB b).getLast? == some 36 then (trimB b).dropLast else trimB b) with
   | some p,some q=>some { x with rules:=x.rules ++ [⟨cut,(trimB a).head? == some 94,(trimB b).getLast? == some 36,p,q⟩] }
   | _,_=>none
def rulesGo (ns : List (List UInt8)) : List (List UInt8) → RsP → Option RsP
 | [],x=>some x
 | l :: r,x=>match ruleLine ns x l with
  | none=>none
  | some y=>rulesGo ns r y
def linesB : List UInt8 → List UInt8 → List (List UInt8)
 | [],acc=>[acc.reverse]
 | c :: r,acc=>if c.toNat = 10 then acc.reverse :: linesB r [] else linesB r (c :: acc)
def rulesP (ns : List (List UInt8)) (l : List UInt8) : Option RsP:=if 16384 < l.length then none else rulesGo ns (linesB l []) ⟨[],true,false⟩
end Go.Proofs.YtdngkienloligaaGreatDoor
/- -/
namespace Go.Proofs.YtdngkienloligaaGreatDoor
abbrev Mtx:=Nat → Nat → Bool
def ownM : Mtx:=fun i k=>decide (i = k)
def noneM : Mtx:=fun _ _=>false
def bothM (a b : Mtx) : Mtx:=fun i k=>a i k || b i k
def behindM (n : Nat) (a b : Mtx) : Mtx:=fun i j=>(List.range n).any fun k=>a i k && b k j
def warS (k i : Nat) (m : Mtx) : Mtx:=fun x j=>m x j || (decide (x = i) && m i k && m k j)
def warRow (n k : Nat) (m : Mtx) : Mtx:=(List.range n).foldl (fun m i=>warS k i m) m
def moreM (n : Nat) (a : Mtx) : Mtx:=(List.range n).foldl (fun m k=>warRow n k m) (bothM a ownM)
def setM (c cs : List Nat) : Mtx:=fun i k=>decide (k = i + 1) && ((c[i]?).map fun x=>cs.contains x).getD false
mutual
def leadsP (c : List Nat) : Pat → Mtx
 | .node op cs ks =>
  if op = 1 then setM c cs
  else if op = 2 then thenP c ks ownM
  else if op = 3 then orP c ks noneM
  else if op = 4 then moreM (c.length + 1) (headP c ks)
  else if op = 5 then behindM (c.length + 1) (headP c ks) (moreM (c.length + 1) (headP c ks))
  else if op = 6 then bothM ownM (headP c ks)
  else ownM
def thenP (c : List Nat) : List Pat → Mtx → Mtx
 | [],m=>m
 | p :: r,m=>thenP c r (behindM (c.length + 1) m (leadsP c p))
def orP (c : List Nat) : List Pat → Mtx → Mtx
 | [],m=>m
 | p :: r,m=>orP c r (bothM m (leadsP c p))
def headP (c : List Nat) : List Pat → Mtx
 | []=>ownM
 | p :: _=>leadsP c p
end
theorem warS_eq (k i : Nat) (m : Mtx) (x j : Nat) : warS k i m x j = (m x j || (decide (x = i) && m i k && m k j)):=rfl
theorem warRow_go (k : Nat) (m : Mtx) : ∀ (z : Nat) (x j : Nat),(List.range z).foldl (fun m i=>warS k i m) m x j = (m x j || (decide (x < z) && m x k && m k j))
 | 0,x,j=>by simp
 | z + 1,x,j=>by
  rw [List.range_succ,List.foldl_append,List.foldl_cons,List.foldl_nil,warS_eq,warRow_go k m z x j,warRow_go k m z z k,warRow_go k m z k j]
  have e1 : decide (x < z + 1) = (decide (x < z) || decide (x = z)):=by
   rw [← Bool.decide_or];congr 1;apply propext;omega
  have e2 : decide (z < z) = false:=by simp
  rw [e1,e2]
  by_cases h : x = z
  ·subst h
   cases m x j <;> cases m x k <;> cases m k j <;> simp
  ·simp [h]
theorem warRow_eq (n k : Nat) (m : Mtx) (x j : Nat) : warRow n k m x j = (m x j || (decide (x < n) && m x k && m k j)):=warRow_go k m n x j
inductive Way (n : Nat) (a : Mtx) : Nat → Nat → Prop
 | here (i : Nat) : Way n a i i
 | on {i k j : Nat} : a i k = true → k < n → Way n a k j → Way n a i j
theorem Way.trans {n : Nat} {a : Mtx} {i k j : Nat} (h : Way n a i k) (g : Way n a k j) : Way n a i j:=by
 induction h with
 | here=>exact g
 | on h1 h2 _ ih=>exact .on h1 h2 (ih g)
inductive WayZ (z : Nat) (a : Mtx) : Nat → Nat → Prop
 | none (i : Nat) : WayZ z a i i
 | one {i j : Nat} : a i j = true → WayZ z a i j
 | on {i k j : Nat} : a i k = true → k < z → WayZ z a k j → WayZ z a i j
theorem WayZ.via {z : Nat} {a : Mtx} {i j : Nat} (h : WayZ (z + 1) a i j) : WayZ z a i j ∨ (WayZ z a i z ∧ WayZ z a z j):=by
 induction h with
 | none i=>exact .inl (.none i)
 | one h=>exact .inl (.one h)
 | @on i k j h1 h2 _ ih =>
  by_cases hk : k = z
  ·subst hk
   rcases ih with ih | ⟨_,ih⟩
   ·exact .inr ⟨.one h1,ih⟩
   ·exact .inr ⟨.one h1,ih⟩
  ·rcases ih with ih | ⟨ih1,ih2⟩
   ·exact .inl (.on h1 (by omega) ih)
   ·exact .inr ⟨.on h1 (by omega) ih1,ih2⟩
theorem more_go {n : Nat} {a : Mtx} : ∀ (z : Nat),z ≤ n → ∀ (i j : Nat),i < n → j < n →
  ((List.range z).foldl (fun m k=>warRow n k m) (bothM a ownM) i j = true → Way n a i j) ∧ (WayZ z a i j → (List.range z).foldl (fun m k=>warRow n k m) (bothM a ownM) i j = true)
 | 0,_,i,j,hi,hj=>by
  refine ⟨fun h=>?_,fun h=>?_⟩
  ·simp only [List.range_zero,List.foldl_nil,bothM,ownM,Bool.or_eq_true,decide_eq_true_eq] at h
   rcases h with h | rfl
   ·exact .on h hj (.here _)
   ·exact .here _
  ·simp only [List.range_zero,List.foldl_nil,bothM,ownM,Bool.or_eq_true,decide_eq_true_eq]
   cases h with
   | none=>exact .inr rfl
   | one h=>exact .inl h
   | on _ h _=>exact absurd h (Nat.not_lt_zero _)
 | z + 1,hz,i,j,hi,hj=>by
  have ih:=fun i j hi hj=>more_go (n:=n) (a:=a) z (by omega) i j hi hj
  rw [List.range_succ,List.foldl_append,List.foldl_cons,List.foldl_nil,warRow_eq]
  simp only [Bool.or_eq_true,Bool.and_eq_true,decide_eq_true_eq]
  refine ⟨fun h=>?_,fun h=>?_⟩
  ·rcases h with h | ⟨⟨_,h1⟩,h2⟩
   ·exact (ih i j hi hj).1 h
   ·exact ((ih i z hi (by omega)).1 h1).trans ((ih z j (by omega) hj).1 h2)
  ·rcases h.via with h | ⟨h1,h2⟩
   ·exact .inl ((ih i j hi hj).2 h)
   ·exact .inr ⟨⟨hi,(ih i z hi (by omega)).2 h1⟩,(ih z j (by omega) hj).2 h2⟩
theorem Way.z {n : Nat} {a : Mtx} {i j : Nat} (h : Way n a i j) : WayZ n a i j:=by
 induction h with
 | here i=>exact .none i
 | on h1 h2 _ ih=>exact .on h1 h2 ih
theorem more_iff {n : Nat} {a : Mtx} {i j : Nat} (hi : i < n) (hj : j < n) : moreM n a i j = true ↔ Way n a i j :=
 ⟨(more_go n (Nat.le_refl _) i j hi hj).1,fun h=>(more_go n (Nat.le_refl _) i j hi hj).2 h.z⟩
inductive Star (L : List Nat → Prop) : List Nat → Prop
 | nil : Star L []
 | app {u v : List Nat} : L u → Star L v → Star L (u ++ v)
mutual
def Lang : Pat → List Nat → Prop
 | .node op cs ks=>fun u =>
  if op = 1 then ∃ x,u = [x] ∧ x ∈ cs
  else if op = 2 then LangT ks u
  else if op = 3 then LangO ks u
  else if op = 4 then Star (LangH ks) u
  else if op = 5 then ∃ v w,u = v ++ w ∧ LangH ks v ∧ Star (LangH ks) w
  else if op = 6 then u = [] ∨ LangH ks u
  else u = []
def LangT : List Pat → List Nat → Prop
 | []=>fun u=>u = []
 | p :: r=>fun u=>∃ v w,u = v ++ w ∧ Lang p v ∧ LangT r w
def LangO : List Pat → List Nat → Prop
 | []=>fun _=>False
 | p :: r=>fun u=>Lang p u ∨ LangO r u
def LangH : List Pat → List Nat → Prop
 | []=>fun u=>u = []
 | p :: _=>Lang p
end
def part (c : List Nat) (i k : Nat) : List Nat:=(c.drop i).take (k - i)
def Tells (c : List Nat) (m : Mtx) (L : List Nat → Prop) : Prop:=∀ i k,i ≤ c.length → k ≤ c.length → (m i k = true ↔ i ≤ k ∧ L (part c i k))
theorem part_app (c : List Nat) {i k j : Nat} (h1 : i ≤ k) (h2 : k ≤ j) : part c i j = part c i k ++ part c k j:=by
 unfold part
 rw [show j - i = (k - i) + (j - k) by omega,List.take_add,List.drop_drop,show i + (k - i) = k by omega]
theorem part_len (c : List Nat) {i k : Nat} (h2 : k ≤ c.length) : (part c i k).length = k - i:=by
 unfold part;rw [List.length_take,List.length_drop];omega
theorem part_nil {c : List Nat} {i k : Nat} (h1 : i ≤ k) (h2 : k ≤ c.length) (h : part c i k = []) : i = k:=by
 have:=part_len c (i:=i) h2
 rw [h] at this
 simp at this
 omega
theorem part_split {c : List Nat} {i j : Nat} {u v : List Nat} (h1 : i ≤ j) (h2 : j ≤ c.length) (h : part c i j = u ++ v) : i + u.length ≤ j ∧ part c i (i + u.length) = u ∧ part c (i + u.length) j = v:=by
 have hl:=congrArg List.length h
 rw [part_len c h2,List.length_append] at hl
 have hk : i + u.length ≤ j:=by omega
 have h3:=part_app c (Nat.le_add_right i u.length) hk
 rw [h] at h3
 have h4:=List.append_inj h3 (by rw [part_len c (by omega)];omega)
 exact ⟨hk,h4.1.symm,h4.2.symm⟩
theorem tells_own (c : List Nat) : Tells c ownM (fun u=>u = []):=fun i k _ hk=>by
 simp only [ownM,decide_eq_true_eq]
 refine ⟨fun h=>?_,fun h=>part_nil h.1 hk h.2⟩
 subst h
 exact ⟨Nat.le_refl _,by simp [part]⟩
theorem tells_none (c : List Nat) : Tells c noneM (fun _=>False):=fun i k _ _=>by simp [noneM]
theorem tells_both {c : List Nat} {a b : Mtx} {L M : List Nat → Prop} (ha : Tells c a L) (hb : Tells c b M) : Tells c (bothM a b) (fun u=>L u ∨ M u):=fun i k hi hk=>by
 simp only [bothM,Bool.or_eq_true,ha i k hi hk,hb i k hi hk]
 exact ⟨fun h=>h.elim (fun h=>⟨h.1,.inl h.2⟩) (fun h=>⟨h.1,.inr h.2⟩),fun h=>h.2.elim (fun g=>.inl ⟨h.1,g⟩) (fun g=>.inr ⟨h.1,g⟩)⟩
theorem tells_behind {c : List Nat} {a b : Mtx} {L M : List Nat → Prop} (ha : Tells c a L) (hb : Tells c b M) : Tells c (behindM (c.length + 1) a b) (fun u=>∃ v w,u = v ++ w ∧ L v ∧ M w):=fun i j hi hj=>by
 simp only [behindM,List.any_eq_true,List.mem_range,Bool.and_eq_true]
 constructor
 ·rintro ⟨k,hk,h1,h2⟩
  have h1:=(ha i k hi (by omega)).1 h1
  have h2:=(hb k j (by omega) hj).1 h2
  exact ⟨Nat.le_trans h1.1 h2.1,_,_,part_app c h1.1 h2.1,h1.2,h2.2⟩
 ·rintro ⟨hij,v,w,h,hv,hw⟩
  obtain ⟨h1,h2,h3⟩:=part_split hij hj h
  exact ⟨i + v.length,by omega,(ha _ _ hi (by omega)).2 ⟨by omega,by rw [h2];exact hv⟩,(hb _ _ (by omega) hj).2 ⟨h1,by rw [h3];exact hw⟩⟩
theorem tells_more {c : List Nat} {a : Mtx} {L : List Nat → Prop} (ha : Tells c a L) : Tells c (moreM (c.length + 1) a) (Star L):=fun i j hi hj=>by
 rw [more_iff (by omega) (by omega)]
 constructor
 ·intro h
  induction h with
  | here i=>exact ⟨Nat.le_refl _,by simp only [part,Nat.sub_self,List.take_zero];exact .nil⟩
  | @on i k j h1 h2 _ ih =>
   have h1:=(ha i k hi (by omega)).1 h1
   have ih:=ih (by omega) hj
   exact ⟨Nat.le_trans h1.1 ih.1,by rw [part_app c h1.1 ih.1];exact .app h1.2 ih.2⟩
 ·rintro ⟨hij,h⟩
  generalize hu : part c i j = u at h
  induction h generalizing i with
  | nil=>rw [part_nil hij hj hu];exact .here _
  | @app u v h1 _ ih =>
   obtain ⟨g1,g2,g3⟩:=part_split hij hj hu
   exact .on ((ha _ _ hi (by omega)).2 ⟨by omega,by rw [g2];exact h1⟩) (by omega) (ih (i + u.length) (by omega) g1 g3)
theorem tells_set (c cs : List Nat) : Tells c (setM c cs) (fun u=>∃ x,u = [x] ∧ x ∈ cs):=fun i k hi hk=>by
 simp only [setM,Bool.and_eq_true,decide_eq_true_eq]
 constructor
 ·rintro ⟨rfl,h⟩
  cases hx : c[i]? with
  | none=>rw [hx] at h;simp at h
  | some x =>
   rw [hx] at h
   refine ⟨by omega,x,?_,by simpa using h⟩
   have hlt:=(List.getElem?_eq_some_iff.1 hx).1
   unfold part
   rw [List.drop_eq_getElem_cons hlt,show i + 1 - i = 0 + 1 by omega,List.take_succ_cons,List.take_zero,(List.getElem?_eq_some_iff.1 hx).2]
 ·rintro ⟨hik,x,h,hx⟩
  have hl:=congrArg List.length h
  rw [part_len c hk] at hl
  simp at hl
  obtain rfl : k = i + 1:=by omega
  have hlt : i < c.length:=by omega
  unfold part at h
  rw [List.drop_eq_getElem_cons hlt,show i + 1 - i = 0 + 1 by omega,List.take_succ_cons,List.take_zero] at h
  injection h with h
  refine ⟨rfl,?_⟩
  rw [List.getElem?_eq_getElem hlt,h]
  simpa using hx
theorem Tells.congr {c : List Nat} {m : Mtx} {L M : List Nat → Prop} (h : Tells c m L) (hLM : ∀ u,L u ↔ M u) : Tells c m M:=fun i k hi hk=>by rw [h i k hi hk,hLM]
mutual
theorem leads_tells (c : List Nat) : ∀ (p : Pat),Tells c (leadsP c p) (Lang p)
 | .node op cs ks=>by
  unfold leadsP Lang
  by_cases h1 : op = 1
  ·rw [if_pos h1];simp only [if_pos h1];exact tells_set c cs
  by_cases h2 : op = 2
  ·rw [if_neg h1,if_pos h2];simp only [if_neg h1,if_pos h2]
   exact (thenP_tells c ks (tells_own c)).congr fun u=>⟨fun ⟨v,w,e,hv,hw⟩=>by subst hv;rw [e];exact hw,fun h=>⟨[],u,rfl,rfl,h⟩⟩
  by_cases h3 : op = 3
  ·rw [if_neg h1,if_neg h2,if_pos h3];simp only [if_neg h1,if_neg h2,if_pos h3]
   exact (orP_tells c ks (tells_none c)).congr fun u=>⟨fun h=>h.elim False.elim id,.inr⟩
  by_cases h4 : op = 4
  ·rw [if_neg h1,if_neg h2,if_neg h3,if_pos h4];simp only [if_neg h1,if_neg h2,if_neg h3,if_pos h4]
   exact tells_more (headP_tells c ks)
  by_cases h5 : op = 5
  ·rw [if_neg h1,if_neg h2,if_neg h3,if_neg h4,if_pos h5];simp only [if_neg h1,if_neg h2,if_neg h3,if_neg h4,if_pos h5]
   exact tells_behind (headP_tells c ks) (tells_more (headP_tells c ks))
  by_cases h6 : op = 6
  ·rw [if_neg h1,if_neg h2,if_neg h3,if_neg h4,if_neg h5,if_pos h6];simp only [if_neg h1,if_neg h2,if_neg h3,if_neg h4,if_neg h5,if_pos h6]
   exact tells_both (tells_own c) (headP_tells c ks)
  rw [if_neg h1,if_neg h2,if_neg h3,if_neg h4,if_neg h5,if_neg h6];simp only [if_neg h1,if_neg h2,if_neg h3,if_neg h4,if_neg h5,if_neg h6]
  exact tells_own c
theorem thenP_tells (c : List Nat) : ∀ (ks : List Pat) {m : Mtx} {L : List Nat → Prop},Tells c m L → Tells c (thenP c ks m) (fun u=>∃ v w,u = v ++ w ∧ L v ∧ LangT ks w)
 | [],m,L,h=>by
  unfold thenP LangT
  exact h.congr fun u=>⟨fun hu=>⟨u,[],by simp,hu,rfl⟩,fun ⟨v,w,e,hv,hw⟩=>by subst hw;rw [e,List.append_nil];exact hv⟩
 | p :: r,m,L,h=>by
  unfold thenP LangT
  refine (thenP_tells c r (tells_behind h (leads_tells c p))).congr fun u=>⟨?_,?_⟩
  ·rintro ⟨_,w,rfl,⟨v1,v2,rfl,h1,h2⟩,h3⟩
   exact ⟨v1,v2 ++ w,by simp,h1,v2,w,rfl,h2,h3⟩
  ·rintro ⟨v1,_,rfl,h1,v2,w,rfl,h2,h3⟩
   exact ⟨v1 ++ v2,w,by simp,⟨v1,v2,rfl,h1,h2⟩,h3⟩
theorem orP_tells (c : List Nat) : ∀ (ks : List Pat) {m : Mtx} {L : List Nat → Prop},Tells c m L → Tells c (orP c ks m) (fun u=>L u ∨ LangO ks u)
 | [],m,L,h=>by
  unfold orP LangO
  exact h.congr fun u=>⟨.inl,fun h=>h.elim id False.elim⟩
 | p :: r,m,L,h=>by
  unfold orP LangO
  refine (orP_tells c r (tells_both h (leads_tells c p))).congr fun u=>⟨?_,?_⟩
  ·rintro ((h | h) | h)
   ·exact .inl h
   ·exact .inr (.inl h)
   ·exact .inr (.inr h)
  ·rintro (h | h | h)
   ·exact .inl (.inl h)
   ·exact .inl (.inr h)
   ·exact .inr h
theorem headP_tells (c : List Nat) : ∀ (ks : List Pat),Tells c (headP c ks) (LangH ks)
 | []=>by unfold headP LangH;exact tells_own c
 | p :: _=>by unfold headP LangH;exact leads_tells c p
end
end Go.Proofs.YtdngkienloligaaGreatDoor
/- -/
namespace Go.Proofs.YtdngkienloligaaGreatDoor
def risesB : List Nat → Bool
 | a :: b :: r=>decide (a < b) && risesB (b :: r)
 | _=>true
theorem risesB_at : ∀ {l : List Nat} {i x y : Nat},risesB l = true → l[i]? = some x → l[i + 1]? = some y → x < y
 | [],i,x,y,_,hx,_=>by simp at hx
 | [a],i,x,y,_,_,hy=>by simp at hy
 | a :: b :: r,0,x,y,h,hx,hy=>by
  simp at hx hy
  subst hx;subst hy
  unfold risesB at h
  rw [Bool.and_eq_true] at h
  exact of_decide_eq_true h.1
 | a :: b :: r,i + 1,x,y,h,hx,hy=>by
  unfold risesB at h
  rw [Bool.and_eq_true] at h
  exact risesB_at h.2 (by simpa using hx) (by simpa using hy)
def formOk (op kn : Nat) : Bool:=if op = 0 ∨ op = 1 then kn == 0 else if op = 2 ∨ op = 3 then decide (2 ≤ kn) else kn == 1
def nodeOk (N op : Nat) (cs : List Nat) (kn : Nat) : Bool:=decide (op ≤ 6) && (op == 1 || cs.isEmpty) && formOk op kn && cs.all (fun c=>decide (c < N)) && risesB cs
mutual
def sizeP : Pat → Nat
 | .node _ _ ks=>1 + sizeL ks
def sizeL : List Pat → Nat
 | []=>0
 | p :: r=>sizeP p + sizeL r
end
mutual
def goodP (N : Nat) : Pat → Bool
 | .node op cs ks=>nodeOk N op cs ks.length && goodL N ks
def goodL (N : Nat) : List Pat → Bool
 | []=>true
 | p :: r=>goodP N p && goodL N r
end
theorem sizeP_pos : ∀ p : Pat,1 ≤ sizeP p
 | .node _ _ ks=>by unfold sizeP;omega
theorem sizeL_take : ∀ {ks : List Pat} {i : Nat} {p : Pat},ks[i]? = some p → sizeL (ks.take (i + 1)) = sizeL (ks.take i) + sizeP p
 | [],i,p,h=>by simp at h
 | q :: r,0,p,h=>by simp at h;subst h;simp [sizeL]
 | q :: r,i + 1,p,h=>by
  have:=sizeL_take (ks:=r) (i:=i) (p:=p) (by simpa using h)
  rw [List.take_succ_cons,List.take_succ_cons,sizeL,sizeL,this];omega
theorem sizeL_le : ∀ (ks : List Pat) (i : Nat),sizeL (ks.take i) ≤ sizeL ks
 | [],i=>by simp
 | q :: r,0=>by simp [sizeL]
 | q :: r,i + 1=>by rw [List.take_succ_cons,sizeL,sizeL];have:=sizeL_le r i;omega
theorem sizeL_at {ks : List Pat} {i : Nat} {p : Pat} (h : ks[i]? = some p) : sizeL (ks.take i) + sizeP p ≤ sizeL ks:=by
 rw [← sizeL_take h];exact sizeL_le _ _
theorem goodL_at {N : Nat} : ∀ {ks : List Pat} {i : Nat} {p : Pat},goodL N ks = true → ks[i]? = some p → goodP N p = true
 | [],i,p,_,h=>by simp at h
 | q :: r,0,p,g,h=>by simp at h;subst h;unfold goodL at g;rw [Bool.and_eq_true] at g;exact g.1
 | q :: r,i + 1,p,g,h=>by unfold goodL at g;rw [Bool.and_eq_true] at g;exact goodL_at g.2 (by simpa using h)
theorem nodeOk_mono {N M op : Nat} {cs : List Nat} {kn : Nat} (hNM : N ≤ M) (h : nodeOk N op cs kn = true) : nodeOk M op cs kn = true:=by
 unfold nodeOk at h ⊢
 simp only [Bool.and_eq_true,decide_eq_true_eq,Bool.or_eq_true,beq_iff_eq,List.isEmpty_iff,List.all_eq_true] at h ⊢
 obtain ⟨⟨⟨⟨h1,h2⟩,h3⟩,h4⟩,h5⟩:=h
 exact ⟨⟨⟨⟨h1,h2⟩,h3⟩,fun x hx=>Nat.lt_of_lt_of_le (h4 x hx) hNM⟩,h5⟩
mutual
theorem goodP_mono {N M : Nat} (hNM : N ≤ M) : ∀ {p : Pat},goodP N p = true → goodP M p = true
 | .node op cs ks,h=>by
  unfold goodP at h ⊢
  rw [Bool.and_eq_true] at h ⊢
  exact ⟨nodeOk_mono hNM h.1,goodL_mono hNM h.2⟩
theorem goodL_mono {N M : Nat} (hNM : N ≤ M) : ∀ {ks : List Pat},goodL N ks = true → goodL M ks = true
 | [],_=>by unfold goodL;rfl
 | p :: r,h=>by
  unfold goodL at h ⊢
  rw [Bool.and_eq_true] at h ⊢
  exact ⟨goodP_mono hNM h.1,goodL_mono hNM h.2⟩
end
theorem node_parts {N op : Nat} {cs : List Nat} {kn : Nat} (h : nodeOk N op cs kn = true) : op ≤ 6 ∧ (op = 1 ∨ cs = []) ∧ formOk op kn = true ∧ (∀ (i c : Nat),cs[i]? = some c → c < N) ∧ risesB cs = true:=by
 unfold nodeOk at h
 simp only [Bool.and_eq_true,decide_eq_true_eq,Bool.or_eq_true,beq_iff_eq,List.isEmpty_iff,List.all_eq_true] at h
 obtain ⟨⟨⟨⟨h1,h2⟩,h3⟩,h4⟩,h5⟩:=h
 exact ⟨h1,h2,h3,fun i c hc=>h4 c (List.mem_of_getElem? hc),h5⟩
end Go.Proofs.YtdngkienloligaaGreatDoor
/- -/
namespace Go.Proofs.YtdngkienloligaaGreatDoor
def Contig : Nat → List (Nat × Nat × Nat) → Nat → Prop
 | p,[],z=>p = z
 | p,x :: r,z=>x.2.1 = p ∧ p < x.2.2 ∧ Contig x.2.2 r z
theorem runesGo_contig {s : ByteArray} : ∀ (f a : Nat),s.size ≤ a + f → a ≤ s.size → Contig a (runesGo s f a) s.size
 | 0,a,h,h2=>by simp only [runesGo,Contig];omega
 | f + 1,a,h,h2=>by
  rw [runesGo]
  split
  ·rename_i hlt
   have hd:=dec_bd s a hlt
   exact ⟨rfl,by simp only;omega,runesGo_contig f _ (by simp only;omega) (by simp only;omega)⟩
  ·show a = s.size;omega
theorem runesP_contig (s : ByteArray) : Contig 0 (runesP s) s.size:=runesGo_contig _ _ (by omega) (by omega)
end Go.Proofs.YtdngkienloligaaGreatDoor
/- -/
namespace Go.Proofs.YtdngkienloligaaGreatDoor
def pickG : List (Nat × Nat × Nat) → List Bool → List Nat
 | x :: r,b :: t=>(if b then [x.2.1] else []) ++ pickG r t
 | _,_=>[]
def clsG (g : Int → Nat) (r : List (Nat × Nat × Nat)) : List Nat:=r.map fun x=>g x.1
theorem pickG_snoc : ∀ (r : List (Nat × Nat × Nat)) (t : List Bool) (x : Nat × Nat × Nat) (b : Bool),t.length = r.length → pickG (r ++ [x]) (t ++ [b]) = pickG r t ++ (if b then [x.2.1] else [])
 | [],[],x,b,_=>by simp [pickG]
 | [],_ :: _,_,_,h=>by simp at h
 | _ :: _,[],_,_,h=>by simp at h
 | y :: r,c :: t,x,b,h=>by
  rw [List.cons_append,List.cons_append,pickG,pickG,pickG_snoc r t x b (by simpa using h),List.append_assoc]
theorem runes_rise (s : ByteArray) : (runesP s).Pairwise fun x y=>x.2.1 < y.2.1:=by
 have : ∀ (f a : Nat),(runesGo s f a).Pairwise fun x y=>x.2.1 < y.2.1:=by
  intro f
  induction f with
  | zero=>intro a;exact .nil
  | succ f ih =>
   intro a
   rw [runesGo]
   split
   ·rename_i hlt
    have hd:=dec_bd s a hlt
    refine .cons (fun y hy=>?_) (ih _)
    have:=runesGo_bd _ _ y hy
    simp only;omega
   ·exact .nil
 exact this _ _
theorem clsG_len (g : Int → Nat) (r : List (Nat × Nat × Nat)) : (clsG g r).length = r.length:=by simp [clsG]
end Go.Proofs.YtdngkienloligaaGreatDoor
/- -/
namespace Go.Proofs.YtdngkienloligaaGreatDoor
def Ahead (start : Bool) (L : List Nat → Prop) (a : List Nat) : Prop:=∃ u v,a = u ++ v ∧ (start = true → u = []) ∧ L v
def Behind (stop : Bool) (L : List Nat → Prop) (b : List Nat) : Prop:=∃ u v,b = u ++ v ∧ (stop = true → v = []) ∧ L u
def AppliesL (r : RuleP) (a b : List Nat) : Prop:=Ahead r.start (Lang r.left) a ∧ Behind r.stop (Lang r.right) b
theorem snoc_inj {a b : List Nat} {x y : Nat} (h : a ++ [x] = b ++ [y]) : a = b ∧ x = y:=by
 have:=List.append_inj' h rfl
 exact ⟨this.1,by simpa using this.2⟩
def One (cs : List Nat) (u : List Nat) : Prop:=∃ x,u = [x] ∧ x ∈ cs
theorem lang_set (cs : List Nat) (ks : List Pat) (u : List Nat) : Lang (.node 1 cs ks) u ↔ One cs u:=by simp [Lang,One]
theorem lang_empty (cs : List Nat) (ks : List Pat) (u : List Nat) : Lang (.node 0 cs ks) u ↔ u = []:=by simp [Lang]
theorem lang_or (cs : List Nat) (ks : List Pat) (u : List Nat) : Lang (.node 3 cs ks) u ↔ LangO ks u:=by simp [Lang]
theorem lang_then (cs : List Nat) (ks : List Pat) (u : List Nat) : Lang (.node 2 cs ks) u ↔ LangT ks u:=by simp [Lang]
theorem lang_many (cs : List Nat) (p : Pat) (ks : List Pat) (u : List Nat) : Lang (.node 4 cs (p :: ks)) u ↔ Star (Lang p) u:=by simp [Lang,LangH]
theorem lang_may (cs : List Nat) (p : Pat) (ks : List Pat) (u : List Nat) : Lang (.node 6 cs (p :: ks)) u ↔ (u = [] ∨ Lang p u):=by simp [Lang,LangH]
theorem Ahead.congr {s : Bool} {L M : List Nat → Prop} (h : ∀ u,L u ↔ M u) (a : List Nat) : Ahead s L a ↔ Ahead s M a :=
 ⟨fun ⟨u,v,e,hs,hl⟩=>⟨u,v,e,hs,(h v).1 hl⟩,fun ⟨u,v,e,hs,hl⟩=>⟨u,v,e,hs,(h v).2 hl⟩⟩
theorem Behind.congr {s : Bool} {L M : List Nat → Prop} (h : ∀ u,L u ↔ M u) (a : List Nat) : Behind s L a ↔ Behind s M a :=
 ⟨fun ⟨u,v,e,hs,hl⟩=>⟨u,v,e,hs,(h u).1 hl⟩,fun ⟨u,v,e,hs,hl⟩=>⟨u,v,e,hs,(h u).2 hl⟩⟩
theorem star_congr {L M : List Nat → Prop} (h : ∀ u,L u ↔ M u) (u : List Nat) : Star L u ↔ Star M u:=by
 constructor
 ·intro g
  induction g with
  | nil=>exact .nil
  | app h1 _ ih=>exact .app ((h _).1 h1) ih
 ·intro g
  induction g with
  | nil=>exact .nil
  | app h1 _ ih=>exact .app ((h _).2 h1) ih
def setQ (c : Nat) : Pat:=.node 1 [c] []
end Go.Proofs.YtdngkienloligaaGreatDoor
/- -/
namespace Go.Proofs.YtdngkienloligaaGreatDoor
end Go.Proofs.YtdngkienloligaaGreatDoor
/- -/
namespace Go.Proofs.YtdngkienloligaaGreatDoor
def startsB (p : Pat) (c : List Nat) : List Nat:=(List.range (c.length + 1)).filter fun i=>leadsP c p i c.length
def endsB (p : Pat) (c : List Nat) : List Nat:=(List.range (c.length + 1)).filter fun i=>leadsP c p 0 i
def appliesB (r : RuleP) (c : List Nat) (at_ : Nat) : Bool :=
 !(startsB r.left (c.take at_)).isEmpty && !(endsB r.right (c.drop at_)).isEmpty && (!r.start || (startsB r.left (c.take at_)).contains 0) && (!r.stop || (endsB r.right (c.drop at_)).contains (c.length - at_))
theorem mem_starts {p : Pat} {c : List Nat} {i : Nat} : i ∈ startsB p c ↔ i ≤ c.length ∧ Lang p (c.drop i):=by
 unfold startsB
 rw [List.mem_filter,List.mem_range]
 constructor
 ·rintro ⟨h1,h2⟩
  have:=((leads_tells c p) i c.length (by omega) (Nat.le_refl _)).1 h2
  refine ⟨by omega,?_⟩
  have h3:=this.2
  unfold part at h3
  rwa [List.take_of_length_le (by rw [List.length_drop];omega)] at h3
 ·rintro ⟨h1,h2⟩
  refine ⟨by omega,((leads_tells c p) i c.length h1 (Nat.le_refl _)).2 ⟨h1,?_⟩⟩
  unfold part
  rwa [List.take_of_length_le (by rw [List.length_drop];omega)]
theorem mem_ends {p : Pat} {c : List Nat} {i : Nat} : i ∈ endsB p c ↔ i ≤ c.length ∧ Lang p (c.take i):=by
 unfold endsB
 rw [List.mem_filter,List.mem_range]
 constructor
 ·rintro ⟨h1,h2⟩
  have:=((leads_tells c p) 0 i (Nat.zero_le _) (by omega)).1 h2
  refine ⟨by omega,?_⟩
  have h3:=this.2
  unfold part at h3
  simpa using h3
 ·rintro ⟨h1,h2⟩
  refine ⟨by omega,((leads_tells c p) 0 i (Nat.zero_le _) h1).2 ⟨Nat.zero_le _,?_⟩⟩
  unfold part
  simpa using h2
theorem ahead_iff {p : Pat} {c : List Nat} {s : Bool} : Ahead s (Lang p) c ↔ ∃ i ∈ startsB p c,s = true → i = 0:=by
 constructor
 ·rintro ⟨u,v,rfl,hs,hl⟩
  refine ⟨u.length,mem_starts.2 ⟨by simp,by simpa using hl⟩,fun h=>by rw [hs h];rfl⟩
 ·rintro ⟨i,hi,hs⟩
  obtain ⟨h1,h2⟩:=mem_starts.1 hi
  exact ⟨c.take i,c.drop i,(List.take_append_drop i c).symm,fun h=>by rw [hs h];rfl,h2⟩
theorem behind_iff {p : Pat} {c : List Nat} {s : Bool} : Behind s (Lang p) c ↔ ∃ i ∈ endsB p c,s = true → i = c.length:=by
 constructor
 ·rintro ⟨u,v,rfl,hs,hl⟩
  refine ⟨u.length,mem_ends.2 ⟨by simp,by simpa using hl⟩,fun h=>by rw [hs h];simp⟩
 ·rintro ⟨i,hi,hs⟩
  obtain ⟨h1,h2⟩:=mem_ends.1 hi
  exact ⟨c.take i,c.drop i,(List.take_append_drop i c).symm,fun h=>by rw [hs h];simp,h2⟩
theorem applies_iff (r : RuleP) (c : List Nat) {at_ : Nat} : appliesB r c at_ = true ↔ AppliesL r (c.take at_) (c.drop at_):=by
 unfold AppliesL appliesB
 rw [ahead_iff,behind_iff,List.length_drop]
 have key : ∀ (l : List Nat) (b : Bool) (z : Nat),(∃ i ∈ l,b = true → i = z) ↔ (!l.isEmpty && (!b || l.contains z)) = true:=fun l b z=>by
  cases b with
  | false =>
   cases l with
   | nil=>simp
   | cons a r=>simp
  | true =>
   simp only [forall_const,Bool.not_true,Bool.false_or,Bool.and_eq_true,List.contains_iff_mem]
   constructor
   ·rintro ⟨i,hi,rfl⟩
    exact ⟨by cases l with | nil=>cases hi | cons=>rfl,hi⟩
   ·rintro ⟨_,hi⟩
    exact ⟨z,hi,rfl⟩
 rw [key,key]
 simp only [Bool.and_eq_true]
 exact ⟨fun ⟨⟨⟨a,b⟩,c⟩,d⟩=>⟨⟨a,c⟩,⟨b,d⟩⟩,fun ⟨⟨a,c⟩,⟨b,d⟩⟩=>⟨⟨⟨a,b⟩,c⟩,d⟩⟩
def decideB (rest : Bool) (c : List Nat) (at_ : Nat) : List RuleP → Bool
 | []=>rest
 | r :: l=>if appliesB r c at_ then r.cut else decideB rest c at_ l
end Go.Proofs.YtdngkienloligaaGreatDoor
/- -/
namespace Go.Proofs.YtdngkienloligaaGreatDoor
inductive El where
 | one (cs : List Nat)
 | many (cs : List Nat)
 | may (cs : List Nat)
def elL : El → List Nat → Prop
 | .one cs,u=>One cs u
 | .many cs,u=>∀ x ∈ u,x ∈ cs
 | .may cs,u=>u = [] ∨ One cs u
def elsL : List El → List Nat → Prop
 | [],u=>u = []
 | e :: es,u=>∃ v w,u = v ++ w ∧ elL e v ∧ elsL es w
def eat : List El → List Nat → Bool
 | [],_=>true
 | .one _ :: _,[]=>false
 | .one cs :: es,x :: r=>cs.contains x && eat es r
 | .many cs :: es,r=>eat es (r.dropWhile fun x=>cs.contains x)
 | .may _ :: es,[]=>eat es []
 | .may cs :: es,x :: r=>if cs.contains x then eat es r else eat es (x :: r)
def skips : List El → Nat → Bool
 | [],_=>true
 | .one cs :: _,x=>!cs.contains x
 | .many cs :: es,x=>cs.contains x || skips es x
 | .may cs :: es,x=>cs.contains x || skips es x
def okE : List El → Bool
 | []=>true
 | .one _ :: es=>okE es
 | .many cs :: es=>cs.all (skips es) && okE es
 | .may cs :: es=>cs.all (skips es) && okE es
theorem drop_grow {cs : List Nat} {K : List Nat → Bool} (h : ∀ x r,x ∈ cs → K (x :: r) = true → K r = true) : ∀ r,K r = true → K (r.dropWhile fun x=>cs.contains x) = true
 | [],hk=>hk
 | x :: r,hk=>by
  rw [List.dropWhile_cons]
  split
  ·rename_i hx
   exact drop_grow h r (h x r (by simpa using hx) hk)
  ·exact hk
theorem may_grow {cs : List Nat} {es : List El} (h : ∀ x r,x ∈ cs → eat es (x :: r) = true → eat es r = true) : ∀ r,eat es r = true → eat (.may cs :: es) r = true
 | [],hk=>by rw [eat];exact hk
 | x :: r,hk=>by
  rw [eat]
  split
  ·rename_i hx
   exact h x r (by simpa using hx) hk
  ·exact hk
theorem skip_ok : ∀ (es : List El),okE es = true → ∀ x r,skips es x = true → eat es (x :: r) = true → eat es r = true
 | [],_,_,_,_,_=>by rw [eat]
 | .one cs :: es,_,x,r,hs,he=>by
  rw [eat] at he
  rw [skips] at hs
  rw [Bool.not_eq_true'] at hs
  rw [hs] at he
  cases he
 | .many cs :: es,ho,x,r,hs,he=>by
  rw [okE,Bool.and_eq_true,List.all_eq_true] at ho
  rw [skips] at hs
  rw [eat] at he ⊢
  rw [List.dropWhile_cons] at he
  cases hx : cs.contains x with
  | true=>rw [if_pos hx] at he;exact he
  | false =>
   rw [if_neg (by rw [hx];simp)] at he
   rw [hx,Bool.false_or] at hs
   exact drop_grow (fun y r hy hk=>skip_ok es ho.2 y r (ho.1 y hy) hk) r (skip_ok es ho.2 x r hs he)
 | .may cs :: es,ho,x,r,hs,he=>by
  rw [okE,Bool.and_eq_true,List.all_eq_true] at ho
  rw [skips] at hs
  rw [eat] at he
  have hg:=may_grow (cs:=cs) (es:=es) (fun y r hy hk=>skip_ok es ho.2 y r (ho.1 y hy) hk)
  cases hx : cs.contains x with
  | true=>rw [if_pos hx] at he;exact hg r he
  | false =>
   rw [if_neg (by rw [hx];simp)] at he
   rw [hx,Bool.false_or] at hs
   exact hg r (skip_ok es ho.2 x r hs he)
theorem drop_run {cs : List Nat} : ∀ (v r : List Nat),(∀ x ∈ v,x ∈ cs) → ((v ++ r).dropWhile fun x=>cs.contains x) = r.dropWhile fun x=>cs.contains x
 | [],_,_=>rfl
 | x :: v,r,h=>by
  rw [List.cons_append,List.dropWhile_cons,if_pos (by simpa using h x (by simp))]
  exact drop_run v r fun y hy=>h y (List.mem_cons_of_mem _ hy)
theorem take_in (cs : List Nat) : ∀ (r : List Nat),∀ x ∈ r.takeWhile (fun x=>cs.contains x),x ∈ cs
 | [],x,h=>by simp at h
 | y :: r,x,h=>by
  rw [List.takeWhile_cons] at h
  split at h
  ·rename_i hy
   rcases List.mem_cons.1 h with rfl | h
   ·simpa using hy
   ·exact take_in cs r x h
  ·simp at h
theorem eat_iff : ∀ (es : List El),okE es = true → ∀ r,eat es r = true ↔ ∃ v u,r = v ++ u ∧ elsL es v
 | [],_,r=>by rw [eat];exact ⟨fun _=>⟨[],r,rfl,rfl⟩,fun _=>rfl⟩
 | .one cs :: es,ho,r=>by
  rw [okE] at ho
  constructor
  ·intro h
   cases r with
   | nil=>rw [eat] at h;cases h
   | cons x r =>
    rw [eat,Bool.and_eq_true] at h
    obtain ⟨v,u,rfl,hv⟩:=(eat_iff es ho r).1 h.2
    exact ⟨x :: v,u,rfl,[x],v,rfl,⟨x,rfl,by simpa using h.1⟩,hv⟩
  ·rintro ⟨_,u,rfl,_,v,rfl,⟨x,rfl,hx⟩,hv⟩
   rw [List.append_assoc,List.singleton_append,eat,Bool.and_eq_true]
   exact ⟨by simpa using hx,(eat_iff es ho _).2 ⟨v,u,rfl,hv⟩⟩
 | .many cs :: es,ho,r=>by
  rw [okE,Bool.and_eq_true,List.all_eq_true] at ho
  rw [eat]
  constructor
  ·intro h
   obtain ⟨v,u,e,hv⟩:=(eat_iff es ho.2 _).1 h
   refine ⟨r.takeWhile (fun x=>cs.contains x) ++ v,u,?_,_,v,rfl,take_in cs r,hv⟩
   rw [List.append_assoc,← e,List.takeWhile_append_dropWhile]
  ·rintro ⟨_,u,rfl,w,v,rfl,hw,hv⟩
   rw [List.append_assoc,drop_run w _ hw]
   exact drop_grow (fun y r hy hk=>skip_ok es ho.2 y r (ho.1 y hy) hk) _ ((eat_iff es ho.2 _).2 ⟨v,u,rfl,hv⟩)
 | .may cs :: es,ho,r=>by
  rw [okE,Bool.and_eq_true,List.all_eq_true] at ho
  constructor
  ·intro h
   cases r with
   | nil =>
    rw [eat] at h
    obtain ⟨v,u,e,hv⟩:=(eat_iff es ho.2 _).1 h
    exact ⟨v,u,e,[],v,rfl,.inl rfl,hv⟩
   | cons x r =>
    rw [eat] at h
    split at h
    ·rename_i hx
     obtain ⟨v,u,rfl,hv⟩:=(eat_iff es ho.2 _).1 h
     exact ⟨x :: v,u,rfl,[x],v,rfl,.inr ⟨x,rfl,by simpa using hx⟩,hv⟩
    ·obtain ⟨v,u,e,hv⟩:=(eat_iff es ho.2 _).1 h
     exact ⟨v,u,e,[],v,rfl,.inl rfl,hv⟩
  ·rintro ⟨_,u,rfl,_,v,rfl,rfl | ⟨x,rfl,hx⟩,hv⟩
   ·rw [List.nil_append]
    exact may_grow (fun y r hy hk=>skip_ok es ho.2 y r (ho.1 y hy) hk) _ ((eat_iff es ho.2 _).2 ⟨v,u,rfl,hv⟩)
   ·rw [List.append_assoc,List.singleton_append,eat,if_pos (by simpa using hx)]
    exact (eat_iff es ho.2 _).2 ⟨v,u,rfl,hv⟩
theorem els_app : ∀ (a b : List El) (u : List Nat),elsL (a ++ b) u ↔ ∃ v w,u = v ++ w ∧ elsL a v ∧ elsL b w
 | [],b,u=>by
  constructor
  ·intro h;exact ⟨[],u,rfl,rfl,h⟩
  ·rintro ⟨_,w,rfl,rfl,h⟩;exact h
 | e :: a,b,u=>by
  rw [List.cons_append,elsL]
  constructor
  ·rintro ⟨v,w,rfl,hv,hw⟩
   obtain ⟨x,y,rfl,hx,hy⟩:=(els_app a b w).1 hw
   exact ⟨v ++ x,y,by rw [List.append_assoc],⟨v,x,rfl,hv,hx⟩,hy⟩
  ·rintro ⟨_,w,rfl,⟨v,x,rfl,hv,hx⟩,hw⟩
   exact ⟨v,x ++ w,by rw [List.append_assoc],hv,(els_app a b _).2 ⟨x,w,rfl,hx,hw⟩⟩
theorem el_rev (e : El) (u : List Nat) : elL e u.reverse ↔ elL e u:=by
 cases e with
 | one cs=>simp only [elL,One,List.reverse_eq_iff,List.reverse_singleton]
 | many cs=>simp [elL]
 | may cs=>simp only [elL,One,List.reverse_eq_iff,List.reverse_singleton,List.reverse_nil]
theorem els_rev : ∀ (es : List El) (u : List Nat),elsL es.reverse u.reverse ↔ elsL es u
 | [],u=>by simp [elsL]
 | e :: es,u=>by
  rw [List.reverse_cons,els_app]
  constructor
  ·rintro ⟨v,w,h,hv,x,y,rfl,hx,rfl⟩
   rw [List.append_nil] at h
   have h2 : u = x.reverse ++ v.reverse:=by rw [← List.reverse_append,← h,List.reverse_reverse]
   exact ⟨x.reverse,v.reverse,h2,(el_rev e x).2 hx,(els_rev es v.reverse).1 (by rw [List.reverse_reverse];exact hv)⟩
  ·rintro ⟨v,w,rfl,hv,hw⟩
   exact ⟨w.reverse,v.reverse,by rw [List.reverse_append],(els_rev es w).2 hw,v.reverse,[],by simp,(el_rev e v).2 hv,rfl⟩
theorem ahead_els {es : List El} (ho : okE es.reverse = true) (a : List Nat) : Ahead false (elsL es) a ↔ eat es.reverse a.reverse = true:=by
 rw [eat_iff _ ho]
 constructor
 ·rintro ⟨u,v,rfl,_,hv⟩
  exact ⟨v.reverse,u.reverse,by rw [List.reverse_append],(els_rev es v).2 hv⟩
 ·rintro ⟨v,u,h,hv⟩
  refine ⟨u.reverse,v.reverse,by rw [← List.reverse_append,← h,List.reverse_reverse],(fun h=>by cases h),(els_rev es v.reverse).1 (by rw [List.reverse_reverse];exact hv)⟩
theorem behind_els {es : List El} (ho : okE es = true) (b : List Nat) : Behind false (elsL es) b ↔ eat es b = true:=by
 rw [eat_iff _ ho]
 exact ⟨fun ⟨u,v,e,_,h⟩=>⟨u,v,e,h⟩,fun ⟨u,v,e,h⟩=>⟨u,v,e,(fun h=>by cases h),h⟩⟩
def oneP : Pat → Option (List Nat)
 | .node 1 cs _=>some cs
 | _=>none
def onesP : List Pat → Option (List Nat)
 | []=>some []
 | p :: r=>match oneP p,onesP r with
  | some a,some b=>some (a ++ b)
  | _,_=>none
def setP1 : Pat → Option (List Nat)
 | .node 1 cs _=>some cs
 | .node 3 _ ks=>onesP ks
 | _=>none
def elP : Pat → Option El
 | .node 4 _ [p]=>(setP1 p).map .many
 | .node 6 _ [p]=>(setP1 p).map .may
 | p=>(setP1 p).map .one
def elsP1 : List Pat → Option (List El)
 | []=>some []
 | p :: r=>match elP p,elsP1 r with
  | some a,some b=>some (a :: b)
  | _,_=>none
def elsP : Pat → Option (List El)
 | .node 0 _ _=>some []
 | .node 2 _ ks=>elsP1 ks
 | p=>(elP p).map fun e=>[e]
theorem oneP_ok {p : Pat} {cs : List Nat} (h : oneP p = some cs) (u : List Nat) : Lang p u ↔ One cs u:=by
 unfold oneP at h
 split at h
 ·injection h with h;subst h;exact lang_set _ _ u
 ·cases h
theorem onesP_ok : ∀ {l : List Pat} {cs : List Nat},onesP l = some cs → ∀ u,LangO l u ↔ One cs u
 | [],cs,h,u=>by
  rw [onesP] at h;injection h with h;subst h
  simp [LangO,One]
 | p :: r,cs,h,u=>by
  rw [onesP] at h
  split at h
  ·rename_i a b ha hb
   injection h with h;subst h
   rw [LangO]
   show (Lang p u ∨ LangO r u) ↔ _
   rw [oneP_ok ha,onesP_ok hb]
   unfold One
   constructor
   ·rintro (⟨x,e,h⟩ | ⟨x,e,h⟩)
    ·exact ⟨x,e,List.mem_append.2 (.inl h)⟩
    ·exact ⟨x,e,List.mem_append.2 (.inr h)⟩
   ·rintro ⟨x,e,h⟩
    rcases List.mem_append.1 h with h | h
    ·exact .inl ⟨x,e,h⟩
    ·exact .inr ⟨x,e,h⟩
  ·cases h
theorem setP1_ok {p : Pat} {cs : List Nat} (h : setP1 p = some cs) (u : List Nat) : Lang p u ↔ One cs u:=by
 unfold setP1 at h
 split at h
 ·injection h with h;subst h;exact lang_set _ _ u
 ·rw [lang_or];exact onesP_ok h u
 ·cases h
theorem star_set (cs : List Nat) (u : List Nat) : Star (One cs) u ↔ ∀ x ∈ u,x ∈ cs:=by
 constructor
 ·intro h
  induction h with
  | nil=>simp
  | app h1 _ ih =>
   obtain ⟨x,rfl,hx⟩:=h1
   intro y hy
   rcases List.mem_cons.1 hy with rfl | hy
   ·exact hx
   ·exact ih y hy
 ·intro h
  induction u with
  | nil=>exact .nil
  | cons x u ih=>exact .app (u:=[x]) ⟨x,rfl,h x (by simp)⟩ (ih fun y hy=>h y (List.mem_cons_of_mem _ hy))
theorem elP_ok {p : Pat} {e : El} (h : elP p = some e) (u : List Nat) : Lang p u ↔ elL e u:=by
 unfold elP at h
 split at h
 ·obtain ⟨cs,h1,rfl⟩:=Option.map_eq_some_iff.1 h
  rw [lang_many,elL,← star_set]
  exact star_congr (setP1_ok h1) u
 ·obtain ⟨cs,h1,rfl⟩:=Option.map_eq_some_iff.1 h
  rw [lang_may,elL,setP1_ok h1]
 ·obtain ⟨cs,h1,rfl⟩:=Option.map_eq_some_iff.1 h
  rw [elL,setP1_ok h1]
theorem elsP1_ok : ∀ {l : List Pat} {es : List El},elsP1 l = some es → ∀ u,LangT l u ↔ elsL es u
 | [],es,h,u=>by rw [elsP1] at h;injection h with h;subst h;simp [LangT,elsL]
 | p :: r,es,h,u=>by
  rw [elsP1] at h
  split at h
  ·rename_i a b ha hb
   injection h with h;subst h
   rw [LangT,elsL]
   constructor
   ·rintro ⟨v,w,e,h1,h2⟩
    exact ⟨v,w,e,(elP_ok ha v).1 h1,(elsP1_ok hb w).1 h2⟩
   ·rintro ⟨v,w,e,h1,h2⟩
    exact ⟨v,w,e,(elP_ok ha v).2 h1,(elsP1_ok hb w).2 h2⟩
  ·cases h
theorem elsP_ok {p : Pat} {es : List El} (h : elsP p = some es) (u : List Nat) : Lang p u ↔ elsL es u:=by
 unfold elsP at h
 split at h
 ·injection h with h;subst h;rw [lang_empty];rfl
 ·rw [lang_then];exact elsP1_ok h u
 ·obtain ⟨e,h1,rfl⟩:=Option.map_eq_some_iff.1 h
  rw [elsL,elP_ok h1]
  constructor
  ·intro h;exact ⟨u,[],by simp,h,rfl⟩
  ·rintro ⟨v,_,rfl,h,rfl⟩;rw [List.append_nil];exact h
theorem behind_pat {p : Pat} {es : List El} (h : elsP p = some es) (ho : okE es = true) (b : List Nat) : Behind false (Lang p) b ↔ eat es b = true:=(Behind.congr (elsP_ok h) b).trans (behind_els ho b)
structure RB where
 cut : Bool
 f : List Nat → Bool
 g : List Nat → Bool
structure Eats (r : RuleP) (x : RB) : Prop where
 cut : r.cut = x.cut
 left : ∀ a,Ahead r.start (Lang r.left) a ↔ x.f a.reverse = true
 right : ∀ b,Behind r.stop (Lang r.right) b ↔ x.g b = true
inductive EatsL : List RuleP → List RB → Prop
 | nil : EatsL [] []
 | cons {r : RuleP} {x : RB} {l : List RuleP} {m : List RB} : Eats r x → EatsL l m → EatsL (r :: l) (x :: m)
def decF (rest : Bool) (r b : List Nat) : List RB → Bool
 | []=>rest
 | x :: l=>if x.f r && x.g b then x.cut else decF rest r b l
theorem decide_F (rest : Bool) (c : List Nat) (i : Nat) {l : List RuleP} {m : List RB} (h : EatsL l m) : decideB rest c i l = decF rest (c.take i).reverse (c.drop i) m:=by
 induction h with
 | nil=>rfl
 | @cons r x l m h1 _ ih =>
  have e : appliesB r c i = (x.f (c.take i).reverse && x.g (c.drop i)):=by
   rw [Bool.eq_iff_iff,applies_iff,Bool.and_eq_true]
   exact and_congr (h1.left _) (h1.right _)
  rw [decideB,decF,e,h1.cut,ih]
theorem Eats.els {r : RuleP} {cut : Bool} {es fs : List El} (hc : r.cut = cut) (hs : r.start = false) (ht : r.stop = false) (h1 : ∀ u,Lang r.left u ↔ elsL es.reverse u) (h2 : ∀ u,Lang r.right u ↔ elsL fs u) (o1 : okE es = true) (o2 : okE fs = true) : Eats r ⟨cut,eat es,eat fs⟩ :=
 ⟨hc,fun a=>by
  rw [hs]
  have:=ahead_els (es:=es.reverse) (by rw [List.reverse_reverse];exact o1) a
  rw [List.reverse_reverse] at this
  exact (Ahead.congr h1 a).trans this,fun b=>by rw [ht];exact (Behind.congr h2 b).trans (behind_els o2 b)⟩
theorem Eats.pat {cut : Bool} {p q : Pat} {es fs : List El} (h1 : elsP p = some es.reverse) (h2 : elsP q = some fs) (o1 : okE es = true) (o2 : okE fs = true) : Eats ⟨cut,false,false,p,q⟩ ⟨cut,eat es,eat fs⟩ :=
 Eats.els rfl rfl rfl (elsP_ok h1) (elsP_ok h2) o1 o2
def boundsX (cut : List Nat → Nat → Bool) (g : Int → Nat) (s : ByteArray) : List Nat :=
 if s.size = 0 then [] else pickG (runesP s) ((List.range (runesP s).length).map fun i=>decide (i = 0) || cut (clsG g (runesP s)) i) ++ [s.size]
end Go.Proofs.YtdngkienloligaaGreatDoor
/- -/
namespace Go.Proofs.YtdngkienloligaaGreatDoor
mutual
def revP : Pat → Pat
 | .node op cs ks=>.node op cs (if op = 2 then (revL ks).reverse else revL ks)
def revL : List Pat → List Pat
 | []=>[]
 | p :: r=>revP p :: revL r
end
mutual
def someB : Pat → Bool
 | .node op cs ks=>if op = 1 then !cs.isEmpty else if op = 2 then someT ks else if op = 3 then someO ks else if op = 5 then someH ks else true
def someT : List Pat → Bool
 | []=>true
 | p :: r=>someB p && someT r
def someO : List Pat → Bool
 | []=>false
 | p :: r=>someB p || someO r
def someH : List Pat → Bool
 | []=>true
 | p :: _=>someB p
end
def emptyB (p : Pat) : Bool:=(endsB p []).contains 0
mutual
def firstsB : Pat → List Nat
 | .node op cs ks=>if op = 0 then [] else if op = 1 then cs else firstsL (decide (op = 2)) ks
def firstsL (t : Bool) : List Pat → List Nat
 | []=>[]
 | p :: r=>(if someB p && (!t || someT r) then firstsB p else []) ++ (if t && !emptyB p then [] else firstsL t r)
end
def insU (out : List Nat) (x : Nat) : List Nat:=if out[(out.takeWhile fun y=>decide (y < x)).length]? = some x then out else out.take (out.takeWhile fun y=>decide (y < x)).length ++ x :: out.drop (out.takeWhile fun y=>decide (y < x)).length
def sortU (l : List Nat) : List Nat:=l.foldl insU []
theorem mem_insU {out : List Nat} {x y : Nat} : y ∈ insU out x ↔ y ∈ out ∨ y = x:=by
 unfold insU
 split
 ·rename_i h
  exact ⟨.inl,fun h'=>h'.elim id fun e=>e ▸ List.mem_of_getElem? h⟩
 ·generalize (out.takeWhile fun y=>decide (y < x)).length = k
  rw [List.mem_append,List.mem_cons]
  conv=>rhs;rw [← List.take_append_drop k out,List.mem_append]
  constructor
  ·rintro (h | h | h)
   ·exact .inl (.inl h)
   ·exact .inr h
   ·exact .inl (.inr h)
  ·rintro ((h | h) | h)
   ·exact .inl h
   ·exact .inr (.inr h)
   ·exact .inr (.inl h)
theorem mem_sort_go : ∀ (l out : List Nat) (y : Nat),y ∈ l.foldl insU out ↔ y ∈ out ∨ y ∈ l
 | [],out,y=>by simp
 | x :: l,out,y=>by
  rw [List.foldl_cons,mem_sort_go l,mem_insU,List.mem_cons,or_assoc]
theorem mem_sortU {l : List Nat} {y : Nat} : y ∈ sortU l ↔ y ∈ l:=by
 unfold sortU;rw [mem_sort_go];simp
theorem empty_sound {p : Pat} (h : Lang p []) : emptyB p = true:=by
 unfold emptyB
 rw [List.contains_iff_mem,mem_ends]
 exact ⟨Nat.le_refl _,by simpa using h⟩
mutual
theorem some_sound : ∀ (p : Pat) (u : List Nat),Lang p u → someB p = true
 | .node op cs ks,u,h=>by
  unfold Lang at h
  unfold someB
  by_cases h1 : op = 1
  ·rw [if_pos h1]
   simp only [if_pos h1] at h
   obtain ⟨x,_,hx⟩:=h
   cases cs with
   | nil=>cases hx
   | cons=>rfl
  by_cases h2 : op = 2
  ·rw [if_neg h1,if_pos h2]
   simp only [if_neg h1,if_pos h2] at h
   exact someT_sound ks u h
  by_cases h3 : op = 3
  ·rw [if_neg h1,if_neg h2,if_pos h3]
   simp only [if_neg h1,if_neg h2,if_pos h3] at h
   exact someO_sound ks u h
  by_cases h5 : op = 5
  ·rw [if_neg h1,if_neg h2,if_neg h3,if_pos h5]
   simp only [if_neg h1,if_neg h2,if_neg h3,if_neg (show ¬ op = 4 by omega),if_pos h5] at h
   obtain ⟨v,w,_,hv,_⟩:=h
   exact someH_sound ks v hv
  rw [if_neg h1,if_neg h2,if_neg h3,if_neg h5]
theorem someT_sound : ∀ (ks : List Pat) (u : List Nat),LangT ks u → someT ks = true
 | [],_,_=>by unfold someT;rfl
 | p :: r,u,h=>by
  unfold LangT at h
  obtain ⟨v,w,_,hv,hw⟩:=h
  unfold someT
  rw [some_sound p v hv,someT_sound r w hw];rfl
theorem someO_sound : ∀ (ks : List Pat) (u : List Nat),LangO ks u → someO ks = true
 | [],_,h=>by unfold LangO at h;exact h.elim
 | p :: r,u,h=>by
  unfold LangO at h
  unfold someO
  rcases h with h | h
  ·rw [some_sound p u h];rfl
  ·rw [someO_sound r u h,Bool.or_true]
theorem someH_sound : ∀ (ks : List Pat) (u : List Nat),LangH ks u → someH ks = true
 | [],_,_=>by unfold someH;rfl
 | p :: _,u,h=>by
  unfold LangH at h
  unfold someH
  exact some_sound p u h
end
theorem star_cons {L : List Nat → Prop} {x : Nat} {u t : List Nat} (h : Star L t) (e : t = x :: u) : ∃ v,L (x :: v):=by
 induction h with
 | nil=>cases e
 | @app a b h1 _ ih =>
  cases a with
  | nil=>exact ih (by simpa using e)
  | cons y a =>
   rw [List.cons_append] at e
   injection e with e1 _
   subst e1
   exact ⟨a,h1⟩
theorem firsts_or (t : Bool) {p : Pat} {r : List Pat} {x : Nat} (hs : someB p = true) (ht : t = false) (h : x ∈ firstsB p) : x ∈ firstsL t (p :: r):=by
 unfold firstsL
 rw [hs,ht]
 simp [h]
mutual
theorem first_sound : ∀ (p : Pat) (x : Nat) (u : List Nat),Lang p (x :: u) → x ∈ firstsB p
 | .node op cs ks,x,u,h=>by
  unfold Lang at h
  unfold firstsB
  by_cases h1 : op = 1
  ·rw [if_neg (by omega),if_pos h1]
   simp only [if_pos h1] at h
   obtain ⟨y,e,hy⟩:=h
   injection e with e _
   rw [e];exact hy
  by_cases h2 : op = 2
  ·rw [if_neg (by omega),if_neg h1,decide_eq_true h2]
   simp only [if_neg h1,if_pos h2] at h
   exact firstT_sound ks x u h
  have hd : decide (op = 2) = false:=decide_eq_false h2
  by_cases h3 : op = 3
  ·rw [if_neg (by omega),if_neg h1,hd]
   simp only [if_neg h1,if_neg h2,if_pos h3] at h
   exact firstO_sound ks x u h
  by_cases h4 : op = 4
  ·rw [if_neg (by omega),if_neg h1,hd]
   simp only [if_neg h1,if_neg h2,if_neg h3,if_pos h4] at h
   obtain ⟨v,hv⟩:=star_cons h rfl
   exact firstH_sound ks x v hv
  by_cases h5 : op = 5
  ·rw [if_neg (by omega),if_neg h1,hd]
   simp only [if_neg h1,if_neg h2,if_neg h3,if_neg h4,if_pos h5] at h
   obtain ⟨v,w,e,hv,hw⟩:=h
   obtain ⟨z,hz⟩ : ∃ z,LangH ks (x :: z):=by
    cases v with
    | nil=>exact star_cons hw (by simpa using e.symm)
    | cons y v =>
     rw [List.cons_append] at e
     injection e with e1 _
     subst e1
     exact ⟨v,hv⟩
   exact firstH_sound ks x z hz
  by_cases h6 : op = 6
  ·rw [if_neg (by omega),if_neg h1,hd]
   simp only [if_neg h1,if_neg h2,if_neg h3,if_neg h4,if_neg h5,if_pos h6] at h
   rcases h with h | h
   ·cases h
   ·exact firstH_sound ks x u h
  simp only [if_neg h1,if_neg h2,if_neg h3,if_neg h4,if_neg h5,if_neg h6] at h
  cases h
theorem firstT_sound : ∀ (ks : List Pat) (x : Nat) (u : List Nat),LangT ks (x :: u) → x ∈ firstsL true ks
 | [],x,u,h=>by unfold LangT at h;cases h
 | p :: r,x,u,h=>by
  unfold LangT at h
  obtain ⟨v,w,e,hv,hw⟩:=h
  unfold firstsL
  rw [some_sound p v hv,someT_sound r w hw,List.mem_append]
  cases v with
  | nil =>
   right
   rw [empty_sound hv]
   simp only [Bool.not_true,Bool.and_false,Bool.false_eq_true,if_false]
   rw [List.nil_append] at e
   rw [← e] at hw
   exact firstT_sound r x u hw
  | cons y v =>
   left
   rw [List.cons_append] at e
   injection e with e1 _
   subst e1
   simpa using first_sound p x v hv
theorem firstO_sound : ∀ (ks : List Pat) (x : Nat) (u : List Nat),LangO ks (x :: u) → x ∈ firstsL false ks
 | [],x,u,h=>by unfold LangO at h;exact h.elim
 | p :: r,x,u,h=>by
  unfold LangO at h
  rcases h with h | h
  ·exact firsts_or false (some_sound p _ h) rfl (first_sound p x u h)
  ·unfold firstsL
   rw [List.mem_append]
   right
   simpa using firstO_sound r x u h
theorem firstH_sound : ∀ (ks : List Pat) (x : Nat) (u : List Nat),LangH ks (x :: u) → x ∈ firstsL false ks
 | [],x,u,h=>by unfold LangH at h;cases h
 | p :: r,x,u,h=>by
  unfold LangH at h
  exact firsts_or false (some_sound p _ h) rfl (first_sound p x u h)
end
theorem Star.back {L : List Nat → Prop} {u v : List Nat} (h : Star L u) (hv : L v) : Star L (u ++ v):=by
 induction h with
 | nil=>have:=Star.app hv (.nil);simpa using this
 | app h1 _ ih=>rw [List.append_assoc];exact .app h1 ih
theorem star_turn {L M : List Nat → Prop} (h : ∀ u,M u → L u.reverse) {u : List Nat} (g : Star M u) : Star L u.reverse:=by
 induction g with
 | nil=>exact .nil
 | app h1 _ ih=>rw [List.reverse_append];exact ih.back (h _ h1)
theorem plus_front {L : List Nat → Prop} {u v : List Nat} (h : Star L u) (hv : L v) : ∃ a b,u ++ v = a ++ b ∧ L a ∧ Star L b:=by
 cases h with
 | nil=>exact ⟨v,[],by simp,hv,.nil⟩
 | @app a b h1 h2=>exact ⟨a,b ++ v,by rw [List.append_assoc],h1,h2.back hv⟩
theorem langT_app : ∀ (a b : List Pat) (u : List Nat),LangT (a ++ b) u ↔ ∃ v w,u = v ++ w ∧ LangT a v ∧ LangT b w
 | [],b,u=>by
  constructor
  ·intro h;exact ⟨[],u,rfl,by unfold LangT;rfl,h⟩
  ·rintro ⟨v,w,rfl,h1,h2⟩;unfold LangT at h1;rw [h1];exact h2
 | p :: a,b,u=>by
  rw [List.cons_append]
  constructor
  ·intro h
   unfold LangT at h
   obtain ⟨v,w,rfl,hv,hw⟩:=h
   obtain ⟨x,y,rfl,hx,hy⟩:=(langT_app a b w).1 hw
   exact ⟨v ++ x,y,by rw [List.append_assoc],by unfold LangT;exact ⟨v,x,rfl,hv,hx⟩,hy⟩
  ·rintro ⟨v,w,rfl,h1,h2⟩
   unfold LangT at h1
   obtain ⟨x,y,rfl,hx,hy⟩:=h1
   unfold LangT
   exact ⟨x,y ++ w,by rw [List.append_assoc],hx,(langT_app a b _).2 ⟨y,w,rfl,hy,h2⟩⟩
mutual
theorem turn_sound : ∀ (p : Pat) (u : List Nat),Lang p u → Lang (revP p) u.reverse
 | .node op cs ks,u,h=>by
  unfold revP
  unfold Lang at h ⊢
  by_cases h1 : op = 1
  ·simp only [if_pos h1] at h ⊢
   obtain ⟨x,rfl,hx⟩:=h
   exact ⟨x,rfl,hx⟩
  by_cases h2 : op = 2
  ·simp only [if_neg h1,if_pos h2] at h ⊢
   exact turnT_sound ks u h
  by_cases h3 : op = 3
  ·simp only [if_neg h1,if_neg h2,if_pos h3] at h ⊢
   exact turnO_sound ks u h
  by_cases h4 : op = 4
  ·simp only [if_neg h1,if_neg h2,if_neg h3,if_pos h4] at h ⊢
   exact star_turn (fun v hv=>turnH_sound ks v hv) h
  by_cases h5 : op = 5
  ·simp only [if_neg h1,if_neg h2,if_neg h3,if_neg h4,if_pos h5] at h ⊢
   obtain ⟨v,w,rfl,hv,hw⟩:=h
   rw [List.reverse_append]
   exact plus_front (star_turn (fun v hv=>turnH_sound ks v hv) hw) (turnH_sound ks v hv)
  by_cases h6 : op = 6
  ·simp only [if_neg h1,if_neg h2,if_neg h3,if_neg h4,if_neg h5,if_pos h6] at h ⊢
   rcases h with rfl | h
   ·exact .inl rfl
   ·exact .inr (turnH_sound ks u h)
  simp only [if_neg h1,if_neg h2,if_neg h3,if_neg h4,if_neg h5,if_neg h6] at h ⊢
  rw [h];rfl
theorem turnT_sound : ∀ (ks : List Pat) (u : List Nat),LangT ks u → LangT (revL ks).reverse u.reverse
 | [],u,h=>by unfold LangT at h;rw [h];unfold revL;unfold LangT;rfl
 | p :: r,u,h=>by
  unfold LangT at h
  obtain ⟨v,w,rfl,hv,hw⟩:=h
  unfold revL
  rw [List.reverse_cons,List.reverse_append,langT_app]
  exact ⟨w.reverse,v.reverse,rfl,turnT_sound r w hw,by
   unfold LangT
   exact ⟨v.reverse,[],by simp,turn_sound p v hv,by unfold LangT;rfl⟩⟩
theorem turnO_sound : ∀ (ks : List Pat) (u : List Nat),LangO ks u → LangO (revL ks) u.reverse
 | [],u,h=>by unfold LangO at h;exact h.elim
 | p :: r,u,h=>by
  unfold LangO at h
  unfold revL LangO
  rcases h with h | h
  ·exact .inl (turn_sound p u h)
  ·exact .inr (turnO_sound r u h)
theorem turnH_sound : ∀ (ks : List Pat) (u : List Nat),LangH ks u → LangH (revL ks) u.reverse
 | [],u,h=>by unfold LangH at h;rw [h];unfold revL LangH;rfl
 | p :: _,u,h=>by
  unfold LangH at h
  unfold revL LangH
  exact turn_sound p u h
end
structure SideP where
 left : List Nat
 right : List Nat
 noL : Bool
 noR : Bool
def sideP (r : RuleP) : SideP:=⟨sortU (firstsB (revP r.left)),sortU (firstsB r.right),emptyB r.left,emptyB r.right⟩
def mayB (f : SideP) (a b : Nat) : Bool:=(f.noL || f.left.contains a) && (f.noR || f.right.contains b)
theorem may_sound {r : RuleP} {c : List Nat} {i : Nat} (h0 : 0 < i) (hi : i < c.length) (h : appliesB r c i = true) : mayB (sideP r) (c.getD (i - 1) 0) (c.getD i 0) = true:=by
 rw [applies_iff] at h
 obtain ⟨⟨u,v,e,_,hl⟩,⟨u',v',e',_,hr⟩⟩:=h
 unfold mayB sideP
 simp only
 rw [Bool.and_eq_true,Bool.or_eq_true,Bool.or_eq_true,List.contains_iff_mem,List.contains_iff_mem,mem_sortU,mem_sortU]
 constructor
 ·rcases List.eq_nil_or_concat v with rfl | ⟨v1,y,rfl⟩
  ·exact .inl (empty_sound hl)
  ·right
   obtain ⟨k,rfl⟩ : ∃ k,i = k + 1:=⟨i - 1,by omega⟩
   rw [List.take_add_one,List.getElem?_eq_getElem (by omega),List.concat_eq_append,← List.append_assoc] at e
   have h2:=(snoc_inj e).2
   have h3:=turn_sound _ _ hl
   rw [List.concat_eq_append,List.reverse_append] at h3
   have h4:=first_sound _ _ _ h3
   rw [Nat.add_sub_cancel,List.getD_eq_getElem?_getD,List.getElem?_eq_getElem (by omega),Option.getD_some,h2]
   exact h4
 ·cases u' with
  | nil=>exact .inl (empty_sound hr)
  | cons y u' =>
   right
   rw [List.drop_eq_getElem_cons hi,List.cons_append] at e'
   injection e' with e1 _
   rw [List.getD_eq_getElem?_getD,List.getElem?_eq_getElem hi,Option.getD_some,e1]
   exact first_sound _ _ _ hr
def decideM (rest : Bool) (c : List Nat) (i : Nat) : List RuleP → Bool
 | []=>rest
 | r :: l=>if mayB (sideP r) (c.getD (i - 1) 0) (c.getD i 0) && appliesB r c i then r.cut else decideM rest c i l
theorem decideM_eq (rest : Bool) {c : List Nat} {i : Nat} (h0 : 0 < i) (hi : i < c.length) : ∀ l,decideM rest c i l = decideB rest c i l
 | []=>rfl
 | r :: l=>by
  rw [decideM,decideB,decideM_eq rest h0 hi l]
  cases ha : appliesB r c i with
  | false=>rw [Bool.and_false]
  | true=>rw [may_sound h0 hi ha];rfl
theorem boundsX_congr {cut cut' : List Nat → Nat → Bool} {g : Int → Nat} {z : Nat} (hg : ∀ r,g r < z) (h : ∀ (c : List Nat) (i : Nat),(∀ x ∈ c,x < z) → 0 < i → i < c.length → cut c i = cut' c i) (s : ByteArray) : boundsX cut g s = boundsX cut' g s:=by
 unfold boundsX
 split
 ·rfl
 have hlen:=clsG_len g (runesP s)
 have hcl : ∀ x ∈ clsG g (runesP s),x < z:=fun x hx=>by
  obtain ⟨y,_,rfl⟩:=List.mem_map.1 hx
  exact hg _
 congr 2
 refine List.map_congr_left fun i hi=>?_
 rw [List.mem_range] at hi
 rcases Nat.eq_zero_or_pos i with rfl | h0
 ·rfl
 ·rw [h _ i hcl h0 (by omega)]
def boundsM (rs : List RuleP) (rest : Bool) (g : Int → Nat) (s : ByteArray) : List Nat:=boundsX (fun c i=>decideM rest c i rs) g s
end Go.Proofs.YtdngkienloligaaGreatDoor
/- -/
namespace Go.Proofs.YtdngkienloligaaGreatDoor
open Go Go.RowKit
section
variable {P : Program} {Q : Exit → Act → World → Prop} {md : Region.Mode}
def tailQ (N : Act → World → Prop) (Q : Exit → Act → World → Prop) : Exit → Act → World → Prop
 | .normal,a,w=>N a w
 | e,a,w=>Q e a w
theorem wp_tailQ {N : Act → World → Prop} {o : Oper} {a : Act} {w : World} {K : Act → World → Prop} : Oper.wp P o a w K (tailQ N Q) = Oper.wp P o a w K Q:=by
 unfold Oper.wp
 generalize (execOp a.eval o).run P w = r
 cases r with
 | ok n w'=>cases n <;> simp only [Oper.upon] <;> rfl
 | halt x w'=>cases x <;> rfl
theorem lets_tailQ {N : Act → World → Prop} : LetsOut (tailQ N Q) = LetsOut Q:=rfl
def lastSink (md : Region.Mode) (l : List Oper) : Bool :=
 (List.range (l.length - 1)).all fun i=>(List.range l.length).any fun j=>decide (i < j) && ((l[j]?).map fun o=>o.after.any fun e=>Region.binds md e && e.on == i).getD false
def lastDown (md : Region.Mode) (l : List Oper) : Bool :=
 (List.range l.length).all fun j=>((l[j]?).map fun o=>o.guard.isNone && o.after.all fun e=>!Region.binds md e || decide (e.on < j)).getD true
theorem lastSink_spec {l : List Oper} (h : lastSink md l = true) {i : Nat} (hi : i < l.length - 1) : ∃ j o,i < j ∧ l[j]? = some o ∧ ∃ e ∈ o.after,Region.binds md e = true ∧ e.on = i:=by
 unfold lastSink at h
 rw [List.all_eq_true] at h
 have h1:=h i (List.mem_range.2 hi)
 rw [List.any_eq_true] at h1
 obtain ⟨j,_,h2⟩:=h1
 rw [Bool.and_eq_true,decide_eq_true_eq] at h2
 obtain ⟨h3,h4⟩:=h2
 cases ho : l[j]? with
 | none=>rw [ho] at h4;cases h4
 | some o =>
  rw [ho] at h4
  simp only [Option.map_some,Option.getD_some,Array.any_eq_true] at h4
  obtain ⟨k,hk,h5⟩:=h4
  simp only [Bool.and_eq_true,beq_iff_eq] at h5
  exact ⟨j,o,h3,ho,_,Array.getElem_mem hk,h5.1,h5.2⟩
theorem lastDown_spec {l : List Oper} (h : lastDown md l = true) {j : Nat} {o : Oper} (hj : l[j]? = some o) : o.guard = none ∧ ∀ e ∈ o.after,Region.binds md e = true → e.on < j:=by
 unfold lastDown at h
 rw [List.all_eq_true] at h
 have h1:=h j (List.mem_range.2 (List.getElem?_eq_some_iff.1 hj).1)
 rw [hj] at h1
 simp only [Option.map_some,Option.getD_some,Bool.and_eq_true,Option.isNone_iff_eq_none] at h1
 refine ⟨h1.1,fun e he hb=>?_⟩
 have h2:=Array.all_eq_true_iff_forall_mem.1 h1.2 e he
 rw [hb] at h2
 simpa using h2
structure SameHead (md : Region.Mode) (l : List Oper) (L L' : Array Bool) : Prop where
 size : L.size = l.length
 size' : L'.size = l.length - 1
 same : ∀ i,i < l.length - 1 → ∀ d,L.getD i d = L'.getD i d
 inv : ∀ (j : Nat) (o : Oper),l[j]? = some o → L.getD j false = true → ∀ e ∈ o.after,Region.binds md e = true → L.getD e.on false = true
 last : L.getD (l.length - 1) false = false
theorem getD_any {L : Array Bool} {i : Nat} (h : i < L.size) (d d' : Bool) : L.getD i d = L.getD i d':=by simp [h]
theorem head_get {l : List Oper} {i : Nat} (h : i < l.length - 1) : (l.dropLast.toArray)[i]? = l[i]?:=by
 rw [List.getElem?_toArray,List.getElem?_dropLast,if_pos h]
theorem SameHead.ready {l : List Oper} {L L' : Array Bool} (h : SameHead md l L L') (hd : lastDown md l = true) {i : Nat} (hi : i < l.length - 1) : i ∈ Region.ready md l.toArray L ↔ i ∈ Region.ready md l.dropLast.toArray L':=by
 rw [mem_ready,mem_ready,head_get hi,List.getElem?_toArray,h.same i hi]
 constructor
 ·rintro ⟨h0,o,ho,h1⟩
  exact ⟨h0,o,ho,fun e he hb=>by rw [← h.same e.on (by have:=(lastDown_spec hd ho).2 e he hb;omega)];exact h1 e he hb⟩
 ·rintro ⟨h0,o,ho,h1⟩
  exact ⟨h0,o,ho,fun e he hb=>by rw [h.same e.on (by have:=(lastDown_spec hd ho).2 e he hb;omega)];exact h1 e he hb⟩
theorem SameHead.all {l : List Oper} {L L' : Array Bool} (h : SameHead md l L L') (hs : lastSink md l = true) (hr : l.length - 1 ∈ Region.ready md l.toArray L) : ∀ (k i : Nat),i < l.length - 1 → l.length - 1 ≤ i + k → L.getD i false = true
 | 0,i,hi,hk=>by omega
 | k + 1,i,hi,hk=>by
  obtain ⟨j,o,hij,ho,e,he,hb,rfl⟩:=lastSink_spec hs hi
  have hjl:=(List.getElem?_eq_some_iff.1 ho).1
  by_cases hj : j = l.length - 1
  ·obtain ⟨_,o',ho',hall⟩:=mem_ready.1 hr
   rw [List.getElem?_toArray,← hj,ho] at ho'
   injection ho' with ho';subst ho'
   exact hall e he hb
  ·exact h.inv j o ho (h.all hs hr k j (by omega) (by omega)) e he hb
theorem SameHead.some_ready {l : List Oper} {L L' : Array Bool} (h : SameHead md l L L') (hd : lastDown md l = true) (hn : 0 < l.length) : Region.ready md l.toArray L ≠ []:=fun h0=>by
 have key : ∀ k,k < l.length → L.getD k false = true:=by
  intro k
  induction k using Nat.strongRecOn with
  | ind k ih =>
   intro hk
   cases hq : L.getD k false with
   | true=>rfl
   | false =>
    obtain ⟨o,ho⟩ : ∃ o,l[k]? = some o:=⟨_,List.getElem?_eq_getElem hk⟩
    have : k ∈ Region.ready md l.toArray L:=mem_ready.2 ⟨by rw [getD_any (by rw [h.size];exact hk) true false];exact hq,o,by rw [List.getElem?_toArray];exact ho,fun e he hb=>by
     have:=(lastDown_spec hd ho).2 e he hb
     exact ih e.on this (by omega)⟩
    rw [h0] at this;cases this
 have:=key (l.length - 1) (by omega)
 rw [h.last] at this;cases this
theorem SameHead.step {l : List Oper} {L L' : Array Bool} (h : SameHead md l L L') {i : Nat} (hi : i < l.length - 1) (hr : i ∈ Region.ready md l.toArray L) : SameHead md l (L.setIfInBounds i true) (L'.setIfInBounds i true):=by
 refine ⟨by simpa using h.size,by simpa using h.size',fun k hk d=>?_,fun j o ho hj e he hb=>?_,by rw [getD_set_ne false (by omega)];exact h.last⟩
 ·by_cases e : i = k
  ·subst e;simp [h.size,h.size',hk,show i < l.length by omega]
  ·rw [getD_set_ne d e,getD_set_ne d e];exact h.same k hk d
 ·by_cases e1 : i = j
  ·subst e1
   obtain ⟨_,o',ho',hall⟩:=mem_ready.1 hr
   rw [List.getElem?_toArray,ho] at ho'
   injection ho' with ho';subst ho'
   exact getD_set_true (hall e he hb)
  ·rw [getD_set_ne false e1] at hj
   exact getD_set_true (h.inv j o ho hj e he hb)
theorem wpOp_head {l : List Oper} (hd : lastDown md l = true) {N : Act → World → Prop} {i : Nat} (hi : i < l.length - 1) {K K' : Act → World → Prop} {a : Act} {w : World} (hK : ∀ a w,K a w → K' a w)
  (h : wpOp P l.dropLast.toArray (tailQ N Q) i K a w) : wpOp P l.toArray Q i K' a w:=by
 refine wpOp_mono hK ?_
 obtain ⟨o,ho⟩ : ∃ o,l[i]? = some o:=⟨_,List.getElem?_eq_getElem (by omega)⟩
 have hg:=(lastDown_spec hd ho).1
 unfold wpOp at h ⊢
 simp only [head_get hi,List.getElem?_toArray,ho,Region.wanted,hg,if_true,wp_tailQ,lets_tailQ] at h ⊢
 exact h
theorem last_step {l : List Oper} {L L' : Array Bool} (h : SameHead md l L L') (hs : lastSink md l = true) (hr : l.length - 1 ∈ Region.ready md l.toArray L) (hn : 0 < l.length) {fuel : Nat} {a : Act} {w : World}
  (H : wpOp P l.toArray Q (l.length - 1) (Q .normal) a w) : wpOp P l.toArray Q (l.length - 1) (wpAny P md l.toArray Q fuel (L.setIfInBounds (l.length - 1) true)) a w:=by
 have h0 : Region.ready md l.toArray (L.setIfInBounds (l.length - 1) true) = []:=by
  refine List.eq_nil_iff_forall_not_mem.2 fun j hj=>?_
  obtain ⟨h1,o,ho,_⟩:=mem_ready.1 hj
  have hjl : j < l.length:=by rw [List.getElem?_toArray] at ho;exact (List.getElem?_eq_some_iff.1 ho).1
  by_cases e : l.length - 1 = j
  ·subst e;simp [h.size,hjl] at h1
  ·rw [getD_set_ne true e,getD_any (by rw [h.size];exact hjl) true false,h.all hs hr (l.length - 1) j (by omega) (by omega)] at h1
   cases h1
 refine wpOp_mono (fun a w hq=>?_) H
 cases fuel with
 | zero=>exact ⟨h0,hq⟩
 | succ k=>exact ⟨fun _=>hq,by rw [h0];simp⟩
theorem wpAny_last {l : List Oper} (hs : lastSink md l = true) (hd : lastDown md l = true) (hn : 0 < l.length) :
  ∀ (fuel : Nat) (L L' : Array Bool) (a : Act) (w : World),SameHead md l L L' →
   wpAny P md l.dropLast.toArray (tailQ (wpOp P l.toArray Q (l.length - 1) (Q .normal)) Q) fuel L' a w → wpAny P md l.toArray Q (fuel + 1) L a w:=by
 intro fuel
 induction fuel with
 | zero =>
  intro L L' a w hS H
  refine ⟨fun h0=>absurd h0 (hS.some_ready hd hn),fun i hi=>?_⟩
  obtain ⟨_,o,ho,_⟩:=mem_ready.1 hi
  have hil : i < l.length:=by rw [List.getElem?_toArray] at ho;exact (List.getElem?_eq_some_iff.1 ho).1
  by_cases e : i < l.length - 1
  ·have:=(hS.ready hd e).1 hi
   rw [H.1] at this;cases this
  ·obtain rfl : i = l.length - 1:=by omega
   exact last_step hS hs hi hn H.2
 | succ fuel ih =>
  intro L L' a w hS H
  refine ⟨fun h0=>absurd h0 (hS.some_ready hd hn),fun i hi=>?_⟩
  obtain ⟨_,o,ho,_⟩:=mem_ready.1 hi
  have hil : i < l.length:=by rw [List.getElem?_toArray] at ho;exact (List.getElem?_eq_some_iff.1 ho).1
  by_cases e : i < l.length - 1
  ·exact wpOp_head hd e (fun a w h=>ih _ _ a w (hS.step e hi) h) (H.2 i ((hS.ready hd e).1 hi))
  ·obtain rfl : i = l.length - 1:=by omega
   refine last_step hS hs hi hn (H.1 (List.eq_nil_iff_forall_not_mem.2 fun j hj=>?_))
   obtain ⟨h1,o,ho,_⟩:=mem_ready.1 hj
   have hjl : j < l.length - 1:=by rw [List.getElem?_toArray] at ho;have:=(List.getElem?_eq_some_iff.1 ho).1;rwa [List.length_dropLast] at this
   rw [← hS.same j hjl true,getD_any (by rw [hS.size];omega) true false,hS.all hs hi (l.length - 1) j hjl (by omega)] at h1
   cases h1
theorem tailQ_end {N : Act → World → Prop} {a : Act} {w : World} (h : N a w) : tailQ N Q .normal a w:=h
theorem wp_region_last {id : Nat} {l : List Oper} {a : Act} {w : World} {S : World → Prop} (n : Nat) (hn : l.length = n + 1) (hm : P.follows .mixedOrders = true) (hs : lastSink .any l = true) (hd : lastDown .any l = true) (hS : S w.drew)
  (h : S w.drew → wpAnyH P .any l.dropLast.toArray (tailQ (wpOp P l.toArray Q n (Q .normal)) Q) S n (Array.replicate n false) a w.drew) : (Code.region id l.toArray true).wp P Q a w:=by
 obtain rfl : n = l.length - 1:=by omega
 have hH : SameHead .any l (Array.replicate l.length false) (Array.replicate (l.length - 1) false):=by
  refine ⟨by simp,by simp,fun i hi d=>?_,fun j o ho hj=>?_,?_⟩
  ·simp [hi,show i < l.length by omega]
  ·have hl:=(List.getElem?_eq_some_iff.1 ho).1
   simp [hl] at hj
  ·simp [show l.length - 1 < l.length by omega]
 have:=wpAny_last (Q:=Q) hs hd (by omega) (l.length - 1) _ _ a w.drew hH (wpAny_of_held _ _ _ _ (h hS))
 rw [show l.length - 1 + 1 = l.toArray.size by simp;omega] at this
 refine wp_region_any hm ?_
 rw [show Array.replicate l.toArray.size false = Array.replicate l.length false by simp]
 exact this
end
end Go.Proofs.YtdngkienloligaaGreatDoor
/- -/
namespace Go.Proofs.YtdngkienloligaaGreatDoor
open Go.RowKit
end Go.Proofs.YtdngkienloligaaGreatDoor
/- -/
namespace Go.Proofs.YtdngkienloligaaGreatDoor
open Go.RowKit
end Go.Proofs.YtdngkienloligaaGreatDoor
/- -/
namespace Go.Proofs.YtdngkienloligaaGreatDoor
open Go.RowKit
end Go.Proofs.YtdngkienloligaaGreatDoor
/- -/
namespace Go.Proofs.YtdngkienloligaaGreatDoor
open Go.RowKit
end Go.Proofs.YtdngkienloligaaGreatDoor
/- -/
namespace Go.Proofs.YtdngkienloligaaGreatDoor
open Go.RowKit
end Go.Proofs.YtdngkienloligaaGreatDoor
/- -/
namespace Go.Proofs.YtdngkienloligaaGreatDoor
open Go.RowKit
end Go.Proofs.YtdngkienloligaaGreatDoor
/- -/
namespace Go.Proofs.YtdngkienloligaaGreatDoor
open Go.RowKit
end Go.Proofs.YtdngkienloligaaGreatDoor
/- -/
namespace Go.Proofs.YtdngkienloligaaGreatDoor
def offB (x y : Int × Int × Nat) : Bool:=decide (x.2.1 < y.1) || decide (y.2.1 < x.1)
def offAll : List (Int × Int × Nat) → Bool
 | []=>true
 | x :: r=>r.all (offB x) && offAll r
theorem offAll_spec : ∀ {l : List (Int × Int × Nat)},offAll l = true → l.Pairwise Off
 | [],_=>.nil
 | x :: r,h=>by
  simp only [offAll,Bool.and_eq_true,List.all_eq_true] at h
  refine .cons (fun y hy=>?_) (offAll_spec h.2)
  have:=h.1 y hy
  simpa [offB,Off] using this
theorem entG_apart : ∀ {S : List (List (Int × Int))} {c : Nat},(entG c S).Pairwise Off → Apart S
 | [],c,_=>fun i j a b hi=>by simp at hi
 | s :: S,c,h=>by
  unfold entG at h
  rw [List.pairwise_append] at h
  have ih:=entG_apart h.2.1
  have hx : ∀ (j : Nat) (b : List (Int × Int)),S[j]? = some b → ∀ r,memR s r → memR b r → False:=fun j b hb r ⟨x,hx,h1,h2⟩ ⟨y,hy,h3,h4⟩=>by
   have:=h.2.2 (x.1,x.2,c) (List.mem_map.2 ⟨x,hx,rfl⟩) (y.1,y.2,c + 1 + j) (mem_entG.2 ⟨j,b,hb,hy,rfl⟩)
   unfold Off at this;simp only at this;omega
  intro i j a b hi hj hij r ha hb
  cases i with
  | zero =>
   cases j with
   | zero=>omega
   | succ j=>simp at hi hj;subst hi;exact hx j b hj r ha hb
  | succ i =>
   cases j with
   | zero=>simp at hi hj;subst hj;exact hx i a hi r hb ha
   | succ j=>exact ih i j a b (by simpa using hi) (by simpa using hj) (by omega) r ha hb
def nfB : List (Int × Int) → Bool
 | []=>true
 | x :: r=>decide (0 ≤ x.1) && decide (x.1 ≤ x.2) && decide (x.2 ≤ 1114111) && r.all (fun y=>decide (x.2 + 1 < y.1)) && nfB r
theorem nfB_spec : ∀ {l : List (Int × Int)},nfB l = true → NF l
 | [],_=>⟨trivial,by simp⟩
 | x :: r,h=>by
  simp only [nfB,Bool.and_eq_true,List.all_eq_true,decide_eq_true_eq] at h
  obtain ⟨⟨⟨⟨h1,h2⟩,h3⟩,h4⟩,h5⟩:=h
  have ih:=nfB_spec h5
  refine ⟨⟨h2,h4,ih.1⟩,fun y hy=>?_⟩
  rcases List.mem_cons.1 hy with rfl | hy
  ·exact ⟨h1,h3⟩
  ·exact ih.2 y hy
def nodB : List (List UInt8) → Bool
 | []=>true
 | x :: r=>r.all (fun y=>!(y == x)) && nodB r
theorem nodB_spec : ∀ {l : List (List UInt8)},nodB l = true → l.Nodup
 | [],_=>.nil
 | x :: r,h=>by
  simp only [nodB,Bool.and_eq_true,List.all_eq_true] at h
  refine List.nodup_cons.2 ⟨fun hx=>?_,nodB_spec h.2⟩
  have:=h.1 x hx
  simp at this
def DbP.okB (d : DbP) : Bool :=
 decide (d.sets.length = d.names.length) && d.sets.all nfB && nodB d.names && decide (d.names.head? = some otherL) && decide (d.sets.head? = some []) && decide (d.names.length ≤ 64) && offAll (entG 0 d.sets) && d.names.all nameL
theorem DbP.okB_spec {d : DbP} (h : d.okB = true) : d.Ok ∧ Apart d.sets ∧ d.Named:=by
 simp only [DbP.okB,Bool.and_eq_true,List.all_eq_true,decide_eq_true_eq] at h
 obtain ⟨⟨⟨⟨⟨⟨⟨h1,h2⟩,h3⟩,h4⟩,h5⟩,h6⟩,h7⟩,h8⟩:=h
 exact ⟨⟨h1,fun l hl=>nfB_spec (h2 l hl),nodB_spec h3,h4,h5,h6⟩,entG_apart (offAll_spec h7),h8⟩
end Go.Proofs.YtdngkienloligaaGreatDoor
/- -/
namespace Go.Proofs.YtdngkienloligaaGreatDoor
def wEnd (c : Int) : Bool:=c == 3 || c == 1 || c == 2
def wHang (c : Int) : Bool:=c == 4 || c == 6 || c == 5
def wLet (c : Int) : Bool:=c == 10 || c == 9
def wInW (c : Int) : Bool:=c == 14 || c == 13 || c == 11
def wInN (c : Int) : Bool:=c == 15 || c == 13 || c == 11
def wJoin (c : Int) : Bool:=wLet c || c == 16 || c == 8
def wBack (c : List Int) : Nat → Int
 | 0=>-1
 | i + 1=>if wHang (c.getD i 0) then wBack c i else i
def wOf (c : List Int) (i : Int) : Int:=if i < 0 ∨ (c.length : Int) ≤ i then -1 else c.getD i.toNat 0
def wOn (c : List Int) (i : Nat) : Int:=(((c.drop (i + 1)).dropWhile wHang).head?).getD (-1)
def wRegGo (c : List Int) : Nat → Nat → Nat
 | 0,_=>0
 | f + 1,i=>if wOf c (wBack c i) = 7 then wRegGo c f (wBack c i).toNat + 1 else 0
def wReg (c : List Int) (i : Nat) : Nat:=wRegGo c (i + 1) i
def wLetters (z a q n : Int) : Bool :=
 (wLet a && wLet q || wLet a && wInW q && wLet n || wLet z && wInW a && wLet q) ||
 (a == 9 && q == 11 || a == 9 && q == 12 && n == 9 || z == 9 && a == 12 && q == 9) ||
 (a == 16 && (q == 16 || wLet q) || wLet a && q == 16) ||
 (z == 16 && wInN a && q == 16 || a == 16 && wInN q && n == 16) ||
 (a == 8 && q == 8 || (wJoin a || a == 17) && q == 17 || a == 17 && wJoin q)
def wCut (c : List Int) (i : Nat) : Bool :=
 let p:=c.getD (i - 1) 0
 let q:=c.getD i 0
 if p = 1 ∧ q = 2 then false
 else if wEnd p || wEnd q then true
 else if (p == 5 && q == 19) || (p == 18 && q == 18) || wHang q then false
 else
  let b:=wBack c i
  if wLetters (wOf c (wBack c b.toNat)) (wOf c b) q (wOn c i) then false
  else !(q == 7) || wReg c i % 2 == 0
theorem wBack_lt (c : List Int) : ∀ i,wBack c i < (i : Int) ∧ -1 ≤ wBack c i
 | 0=>by simp [wBack]
 | i + 1=>by
  have ih:=wBack_lt c i
  unfold wBack
  split <;> omega
theorem wBack_here {c : List Int} {i : Nat} (h : wHang (c.getD i 0) = false) : wBack c (i + 1) = i:=by unfold wBack;rw [h];rfl
theorem wOf_nat {c : List Int} {i : Nat} (h : i < c.length) : wOf c (i : Int) = c.getD i 0:=by unfold wOf;rw [if_neg (by omega),Int.toNat_natCast]
end Go.Proofs.YtdngkienloligaaGreatDoor
/- -/
namespace Go.Proofs.YtdngkienloligaaGreatDoor
open Go.RowKit
set_option maxHeartbeats 400000 in
theorem klettered_any (c : Int) (w : World) : Calls Tryz.prog 144 #[.int .i64 c] w fun e w'=>e = .returned (.bool (wLet c)) ∧ w = w':=by
 rcases (by omega : c = 10 ∨ c = 9 ∨ (c ≠ 10 ∧ c ≠ 9)) with rfl | rfl | ⟨h1,h2⟩
 iterate 2
  ·go_enter Tryz.func144,Tryz.ntmps144
   go_wp2
   go_ret
   exact ⟨rfl,rfl⟩
 ·have HV : Hid (wLet c = false):=Lib.hid (by simp [wLet,h1,h2])
  have e1:=beq_eq_false_iff_ne.2 h1
  have e2:=beq_eq_false_iff_ne.2 h2
  clear h1 h2
  go_enter Tryz.func144,Tryz.ntmps144
  go_wp2
  go_ret
  exact ⟨by rw [HV.out];rfl,rfl⟩
set_option maxHeartbeats 400000 in
theorem kends_any (c : Int) (w : World) : Calls Tryz.prog 145 #[.int .i64 c] w fun e w'=>e = .returned (.bool (wEnd c)) ∧ w = w':=by
 rcases (by omega : c = 3 ∨ c = 1 ∨ c = 2 ∨ (c ≠ 3 ∧ c ≠ 1 ∧ c ≠ 2)) with rfl | rfl | rfl | ⟨h1,h2,h3⟩
 iterate 3
  ·go_enter Tryz.func145,Tryz.ntmps145
   go_wp2
   go_ret
   exact ⟨rfl,rfl⟩
 ·have HV : Hid (wEnd c = false):=Lib.hid (by simp [wEnd,h1,h2,h3])
  have e1:=beq_eq_false_iff_ne.2 h1
  have e2:=beq_eq_false_iff_ne.2 h2
  have e3:=beq_eq_false_iff_ne.2 h3
  clear h1 h2 h3
  go_enter Tryz.func145,Tryz.ntmps145
  go_wp2
  go_ret
  exact ⟨by rw [HV.out];rfl,rfl⟩
set_option maxHeartbeats 400000 in
theorem khangs_any (c : Int) (w : World) : Calls Tryz.prog 147 #[.int .i64 c] w fun e w'=>e = .returned (.bool (wHang c)) ∧ w = w':=by
 rcases (by omega : c = 4 ∨ c = 6 ∨ c = 5 ∨ (c ≠ 4 ∧ c ≠ 6 ∧ c ≠ 5)) with rfl | rfl | rfl | ⟨h1,h2,h3⟩
 iterate 3
  ·go_enter Tryz.func147,Tryz.ntmps147
   go_wp2
   go_ret
   exact ⟨rfl,rfl⟩
 ·have HV : Hid (wHang c = false):=Lib.hid (by simp [wHang,h1,h2,h3])
  have e1:=beq_eq_false_iff_ne.2 h1
  have e2:=beq_eq_false_iff_ne.2 h2
  have e3:=beq_eq_false_iff_ne.2 h3
  clear h1 h2 h3
  go_enter Tryz.func147,Tryz.ntmps147
  go_wp2
  go_ret
  exact ⟨by rw [HV.out];rfl,rfl⟩
set_option maxHeartbeats 400000 in
theorem kinWord_any (c : Int) (w : World) : Calls Tryz.prog 188 #[.int .i64 c] w fun e w'=>e = .returned (.bool (wInW c)) ∧ w = w':=by
 rcases (by omega : c = 14 ∨ c = 13 ∨ c = 11 ∨ (c ≠ 14 ∧ c ≠ 13 ∧ c ≠ 11)) with rfl | rfl | rfl | ⟨h1,h2,h3⟩
 iterate 3
  ·go_enter Tryz.func188,Tryz.ntmps188
   go_wp2
   go_ret
   exact ⟨rfl,rfl⟩
 ·have HV : Hid (wInW c = false):=Lib.hid (by simp [wInW,h1,h2,h3])
  have e1:=beq_eq_false_iff_ne.2 h1
  have e2:=beq_eq_false_iff_ne.2 h2
  have e3:=beq_eq_false_iff_ne.2 h3
  clear h1 h2 h3
  go_enter Tryz.func188,Tryz.ntmps188
  go_wp2
  go_ret
  exact ⟨by rw [HV.out];rfl,rfl⟩
set_option maxHeartbeats 400000 in
theorem kinNumber_any (c : Int) (w : World) : Calls Tryz.prog 189 #[.int .i64 c] w fun e w'=>e = .returned (.bool (wInN c)) ∧ w = w':=by
 rcases (by omega : c = 15 ∨ c = 13 ∨ c = 11 ∨ (c ≠ 15 ∧ c ≠ 13 ∧ c ≠ 11)) with rfl | rfl | rfl | ⟨h1,h2,h3⟩
 iterate 3
  ·go_enter Tryz.func189,Tryz.ntmps189
   go_wp2
   go_ret
   exact ⟨rfl,rfl⟩
 ·have HV : Hid (wInN c = false):=Lib.hid (by simp [wInN,h1,h2,h3])
  have e1:=beq_eq_false_iff_ne.2 h1
  have e2:=beq_eq_false_iff_ne.2 h2
  have e3:=beq_eq_false_iff_ne.2 h3
  clear h1 h2 h3
  go_enter Tryz.func189,Tryz.ntmps189
  go_wp2
  go_ret
  exact ⟨by rw [HV.out];rfl,rfl⟩
set_option maxHeartbeats 400000 in
theorem kjoined_any (c : Int) (w : World) : Calls Tryz.prog 190 #[.int .i64 c] w fun e w'=>e = .returned (.bool (wJoin c)) ∧ w = w':=by
 rcases (by cases wLet c <;> simp : wLet c = true ∨ wLet c = false) with h | h
 ·have HV : Hid (wJoin c = true):=Lib.hid (by simp [wJoin,h])
  go_enter Tryz.func190,Tryz.ntmps190
  go_wp2_with (go_at_call 144;refine (klettered_any _ _).mono ?_;rw [h];rintro e w' ⟨rfl,rfl⟩)
  go_ret
  exact ⟨by rw [HV.out];rfl,rfl⟩
 ·rcases (by omega : c = 16 ∨ c = 8 ∨ (c ≠ 16 ∧ c ≠ 8)) with rfl | rfl | ⟨h1,h2⟩
  iterate 2
   ·go_enter Tryz.func190,Tryz.ntmps190
    go_wp2_with (go_at_call 144;refine (klettered_any _ _).mono ?_;rintro e w' ⟨rfl,rfl⟩)
    go_ret
    exact ⟨rfl,rfl⟩
  ·have HV : Hid (wJoin c = false):=Lib.hid (by simp [wJoin,h,h1,h2])
   have e1:=beq_eq_false_iff_ne.2 h1
   have e2:=beq_eq_false_iff_ne.2 h2
   clear h1 h2
   go_enter Tryz.func190,Tryz.ntmps190
   go_wp2_with (go_at_call 144;refine (klettered_any _ _).mono ?_;rw [h];rintro e w' ⟨rfl,rfl⟩)
   go_ret
   exact ⟨by rw [HV.out];rfl,rfl⟩
end Go.Proofs.YtdngkienloligaaGreatDoor
/- -/
namespace Go.Proofs.YtdngkienloligaaGreatDoor
open Go.RowKit
def encZ (x : Int) : List Value:=[.int .i64 x]
theorem encZ_ok (l : List Int) : ∀ y ∈ l.map encZ,y.length = 1 ∧ ∀ u ∈ y,u.oneCell' = true:=by
 intro y hy;obtain ⟨r,_,rfl⟩:=List.mem_map.1 hy
 exact ⟨rfl,by simp [encZ,Value.oneCell']⟩
theorem Rd.atZ {w : World} {A : Option Addr} {l : List Int} {k : Nat} {x : Int} (h : Rd w 1 A (l.map encZ)) (hk : l[k]? = some x) : ∃ b off,A = some ⟨b,off,none⟩ ∧ w.cell? ⟨b,off + k,none⟩ = some (.int .i64 x):=by
 obtain ⟨b,off,rfl,hc⟩:=h (by intro e;cases l with | nil=>simp at hk | cons _ _=>simp at e)
 have h0:=hc k 0 (encZ x) (.int .i64 x) (by simp [hk]) rfl
 exact ⟨b,off,rfl,by simpa using h0⟩
theorem getD_of {c : List Int} {k : Nat} {x : Int} (h : c[k]? = some x) : c.getD k 0 = x:=by rw [List.getD_eq_getElem?_getD,h];rfl
set_option maxRecDepth 100000 in
set_option maxHeartbeats 2000000 in
theorem kback_any (A B : Option Addr) (na ca n cb : Nat) (z : Int) (c : List Int) (i : Nat) (w : World) (hB : Rd w 1 B (c.map encZ)) (hl : c.length = n) (hi : i ≤ n) (hn : n ≤ 4000000) :
  Calls Tryz.prog 148 #[.agg #[.slice A na ca,.slice B n cb,.int .i64 z],.int .i64 i] w fun e w'=>e = .returned (.int .i64 (wBack c i)) ∧ Below w.heap.size w w':=by
 have Hl:=Lib.hid hl
 clear hl
 have hBz : Below w.heap.size w (w.alloc (.cells #[.slice A na ca,.slice B n cb,.int .i64 z] 103)):=(Below.refl _ _).alloc (Nat.le_refl _) _
 have hK:=Blk.new w 103 #[.slice A na ca,.slice B n cb,.int .i64 z]
 have k1:=hK.cell 1
 simp only [List.getElem?_toArray,List.getElem?_cons_zero,List.getElem?_cons_succ] at k1
 go_enter Tryz.func148,Tryz.ntmps148
 go_wp2
 go_loopw [1] (fun v wr=>∃ (j : Nat) (x : Int),v = .int .i64 x ∧ x = (j : Int) - 1 ∧ j ≤ i ∧ Hid (wBack c j = wBack c i) ∧ wr = w.alloc (.cells #[.slice A na ca,.slice B n cb,.int .i64 z] 103)) (fun v _=>(intOf v + 1).toNat)
 case atStart=>exact ⟨i,_,rfl,by go_num,Nat.le_refl _,Lib.hid rfl,rfl⟩
 case round =>
  obtain ⟨j,x,rfl,hx,hj,HW,rfl⟩:=hrel
  cases j with
  | zero =>
   have hx1 : x < 0:=by omega
   have hx0 : ¬ 0 ≤ x:=by omega
   have HV : Hid (wBack c i = x):=Lib.hid (by rw [← HW.out,show x = -1 by omega];rfl)
   clear hx
   go_wp2
   go_ret
   exact ⟨by rw [HV.out];rfl,hBz⟩
  | succ j =>
   obtain rfl : x = (j : Int):=by omega
   clear hx
   obtain ⟨q,Hq⟩ : ∃ q,Hid (c[j]? = some q):=⟨_,Lib.hid (List.getElem?_eq_getElem (by have:=Hl.out;omega))⟩
   obtain ⟨b,off,rfl,hc⟩:=hB.atZ Hq.out
   have hc:=cell_keep hc hBz
   cases hh : wHang q with
   | true =>
    have HW' : Hid (wBack c j = wBack c i):=Lib.hid (by rw [← HW.out,wBack,getD_of Hq.out,hh];rfl)
    go_wp2_with (go_at_call 147;refine (khangs_any _ _).mono ?_;rw [hh];rintro e w' ⟨rfl,rfl⟩)
    go_roundw
    case rel=>exact ⟨j,_,rfl,by go_num,by omega,HW',trivial⟩
    case measure=>simp [intOf]
   | false =>
    have HV : Hid (wBack c i = j):=Lib.hid (by rw [← HW.out];exact wBack_here (by rw [getD_of Hq.out];exact hh))
    go_wp2_with (go_at_call 147;refine (khangs_any _ _).mono ?_;rw [hh];rintro e w' ⟨rfl,rfl⟩)
    go_ret
    exact ⟨by rw [HV.out];rfl,hBz⟩
set_option maxRecDepth 100000 in
set_option maxHeartbeats 1000000 in
theorem kof_any (A B : Option Addr) (na ca n cb : Nat) (z : Int) (c : List Int) (i : Int) (w : World) (hB : Rd w 1 B (c.map encZ)) (hl : c.length = n) (_hn : n ≤ 4000000) (hi : -10 ≤ i ∧ i ≤ 4000000) :
  Calls Tryz.prog 150 #[.agg #[.slice A na ca,.slice B n cb,.int .i64 z],.int .i64 i] w fun e w'=>e = .returned (.int .i64 (wOf c i)) ∧ Below w.heap.size w w':=by
 have hBz : Below w.heap.size w (w.alloc (.cells #[.slice A na ca,.slice B n cb,.int .i64 z] 103)):=(Below.refl _ _).alloc (Nat.le_refl _) _
 have hK:=Blk.new w 103 #[.slice A na ca,.slice B n cb,.int .i64 z]
 have k1:=hK.cell 1
 simp only [List.getElem?_toArray,List.getElem?_cons_zero,List.getElem?_cons_succ] at k1
 rcases (by omega : i < 0 ∨ (¬ i < 0 ∧ (n : Int) ≤ i) ∨ (0 ≤ i ∧ i < n)) with h | ⟨h,h2⟩ | ⟨h,h2⟩
 ·have HV : Hid (wOf c i = -1):=Lib.hid (by unfold wOf;rw [if_pos (.inl h)])
  go_enter Tryz.func150,Tryz.ntmps150
  go_wp2
  go_ret
  exact ⟨by rw [HV.out];rfl,hBz⟩
 ·have HV : Hid (wOf c i = -1):=Lib.hid (by unfold wOf;rw [if_pos (.inr (by omega))])
  clear hl
  go_enter Tryz.func150,Tryz.ntmps150
  go_wp2
  go_ret
  exact ⟨by rw [HV.out];rfl,hBz⟩
 ·obtain ⟨k,rfl⟩ : ∃ k : Nat,i = k:=⟨i.toNat,by omega⟩
  have hk : k < n:=by omega
  obtain ⟨q,Hq⟩ : ∃ q,Hid (c[k]? = some q):=⟨_,Lib.hid (List.getElem?_eq_getElem (by omega))⟩
  obtain ⟨b,off,rfl,hc⟩:=hB.atZ Hq.out
  have hc:=cell_keep hc hBz
  have HV : Hid (wOf c (k : Int) = q):=Lib.hid (by rw [wOf_nat (by omega),getD_of Hq.out])
  clear hl
  go_enter Tryz.func150,Tryz.ntmps150
  go_wp2
  go_ret
  exact ⟨by rw [HV.out];rfl,hBz⟩
set_option maxRecDepth 100000 in
set_option maxHeartbeats 2000000 in
theorem kon_any (A B : Option Addr) (na ca n cb : Nat) (z : Int) (c : List Int) (i : Nat) (w : World) (hB : Rd w 1 B (c.map encZ)) (hl : c.length = n) (hi : i < n) (hn : n ≤ 3000000) :
  Calls Tryz.prog 151 #[.agg #[.slice A na ca,.slice B n cb,.int .i64 z],.int .i64 i] w fun e w'=>e = .returned (.int .i64 (wOn c i)) ∧ Below w.heap.size w w':=by
 have Hl:=Lib.hid hl
 clear hl
 have hBz : Below w.heap.size w (w.alloc (.cells #[.slice A na ca,.slice B n cb,.int .i64 z] 103)):=(Below.refl _ _).alloc (Nat.le_refl _) _
 have hK:=Blk.new w 103 #[.slice A na ca,.slice B n cb,.int .i64 z]
 have k0:=hK.cell 0
 have k1:=hK.cell 1
 have k2:=hK.cell 2
 simp only [List.getElem?_toArray,List.getElem?_cons_zero,List.getElem?_cons_succ] at k0 k1 k2
 have HO:=Lib.hid (fun (j : Nat) (hj : j ≤ n)=>kof_any A B na ca n cb z c j _ (hB.below hBz) Hl.out (by omega) (by omega))
 go_enter Tryz.func151,Tryz.ntmps151
 go_wp2
 go_loopw [1] (fun v wr=>∃ j : Nat,v = .int .i64 j ∧ j ≤ n ∧ Hid (((c.drop j).dropWhile wHang).head?.getD (-1) = wOn c i) ∧ wr = w.alloc (.cells #[.slice A na ca,.slice B n cb,.int .i64 z] 103)) (fun v _=>n - (intOf v).toNat)
 case atStart=>exact ⟨i + 1,by go_num,by omega,Lib.hid rfl,rfl⟩
 case round =>
  obtain ⟨j,rfl,hj,HW,rfl⟩:=hrel
  by_cases hlt : j < n
  ·obtain ⟨q,Hq⟩ : ∃ q,Hid (c[j]? = some q):=⟨_,Lib.hid (List.getElem?_eq_getElem (by have:=Hl.out;omega))⟩
   have hd : Hid (c.drop j = q :: c.drop (j + 1)):=Lib.hid (by
    obtain ⟨h1,h2⟩:=List.getElem?_eq_some_iff.1 Hq.out
    rw [List.drop_eq_getElem_cons h1,h2])
   obtain ⟨b,off,e0,hc⟩:=hB.atZ Hq.out
   have hc:=cell_keep hc hBz
   cases hh : wHang q with
   | true =>
    have HW' : Hid (((c.drop (j + 1)).dropWhile wHang).head?.getD (-1) = wOn c i):=Lib.hid (by rw [← HW.out,hd.out,List.dropWhile_cons,hh];rfl)
    subst e0
    go_wp2_with (go_at_call 147;refine (khangs_any _ _).mono ?_;rw [hh];rintro e w' ⟨rfl,rfl⟩)
    go_roundw
    case rel=>exact ⟨j + 1,by go_num,by omega,HW',trivial⟩
    case measure=>simp [intOf];omega
   | false =>
    have HV : Hid (wOf c (j : Int) = wOn c i):=Lib.hid (by rw [← HW.out,hd.out,List.dropWhile_cons,hh,wOf_nat (by have:=Hl.out;omega),getD_of Hq.out];rfl)
    have HOj:=Lib.hid (HO.out j hj)
    subst e0
    clear HO
    go_wp2_with (first | (go_at_call 147;refine (khangs_any _ _).mono ?_;rw [hh];rintro e w' ⟨rfl,rfl⟩) | (go_at_call 150;refine HOj.out.mono ?_;rintro e w' ⟨rfl,hb⟩))
    go_ret
    exact ⟨by rw [HV.out];rfl,hBz.trans (hb.mono hBz.size)⟩
  ·obtain rfl : j = n:=by omega
   have HV : Hid (wOf c (j : Int) = wOn c i):=Lib.hid (by
    rw [← HW.out,List.drop_eq_nil_of_le (by have:=Hl.out;omega)]
    unfold wOf
    rw [if_pos (.inr (by have:=Hl.out;omega))];rfl)
   have HOj:=Lib.hid (HO.out j hj)
   clear HO
   go_wp2_with (go_at_call 150;refine HOj.out.mono ?_;rintro e w' ⟨rfl,hb⟩)
   go_ret
   exact ⟨by rw [HV.out];rfl,hBz.trans (hb.mono hBz.size)⟩
def RegAt (c : List Int) (i k : Nat) (x : Int) : Prop:=-1 ≤ x ∧ (k : Int) + x < i ∧ ∃ f j,x = wBack c j ∧ j < f ∧ k + wRegGo c f j = wReg c i
theorem regAt_first (c : List Int) (i : Nat) : RegAt c i 0 (wBack c i):=⟨(wBack_lt c i).2,by have:=(wBack_lt c i).1;omega,i + 1,i,rfl,by omega,by rw [Nat.zero_add];rfl⟩
theorem regAt_next {c : List Int} {i k : Nat} {x : Int} (h : RegAt c i k x) (h7 : wOf c x = 7) : ∃ m : Nat,x = m ∧ m < c.length ∧ RegAt c i (k + 1) (wBack c m):=by
 obtain ⟨h1,h2,f,j,rfl,hf,hk⟩:=h
 have h0 : 0 ≤ wBack c j ∧ wBack c j < c.length:=by
  unfold wOf at h7
  split at h7
  ·omega
  ·omega
 obtain ⟨m,hm⟩ : ∃ m : Nat,wBack c j = m:=⟨(wBack c j).toNat,by omega⟩
 rw [hm] at h0 h2 h7 ⊢
 cases f with
 | zero=>omega
 | succ f =>
  rw [wRegGo,hm,if_pos h7,Int.toNat_natCast] at hk
  have hl:=(wBack_lt c m)
  have hj:=(wBack_lt c j).1
  exact ⟨m,rfl,by omega,hl.2,by omega,f,m,rfl,by omega,by omega⟩
theorem regAt_end {c : List Int} {i k : Nat} {x : Int} (h : RegAt c i k x) (h7 : wOf c x ≠ 7) : k = wReg c i:=by
 obtain ⟨h1,h2,f,j,rfl,hf,hk⟩:=h
 cases f with
 | zero=>omega
 | succ f=>rw [wRegGo,if_neg h7] at hk;omega
set_option maxRecDepth 100000 in
set_option maxHeartbeats 2000000 in
theorem kregions_any (A B : Option Addr) (na ca n cb : Nat) (z : Int) (c : List Int) (i : Nat) (w : World) (hB : Rd w 1 B (c.map encZ)) (hl : c.length = n) (hi : i ≤ n) (hn : n ≤ 3000000) :
  Calls Tryz.prog 152 #[.agg #[.slice A na ca,.slice B n cb,.int .i64 z],.int .i64 i] w fun e w'=>e = .returned (.int .i64 (wReg c i : Nat)) ∧ Below w.heap.size w w':=by
 have Hl:=Lib.hid hl
 clear hl
 have hBz : Below w.heap.size w (w.alloc (.cells #[.slice A na ca,.slice B n cb,.int .i64 z] 103)):=(Below.refl _ _).alloc (Nat.le_refl _) _
 have hK:=Blk.new w 103 #[.slice A na ca,.slice B n cb,.int .i64 z]
 have HOf:=Lib.hid (fun (j : Int) W (h : Below w.heap.size w W) (hj : -10 ≤ j ∧ j ≤ 4000000)=>kof_any A B na ca n cb z c j W (hB.below h) Hl.out (by omega) hj)
 have HBk:=Lib.hid (fun (j : Nat) W (h : Below w.heap.size w W) (hj : j ≤ n)=>kback_any A B na ca n cb z c j W (hB.below h) Hl.out hj (by omega))
 have HR0:=Lib.hid (regAt_first c i)
 have hs0 : w.heap.size < (w.alloc (.cells #[.slice A na ca,.slice B n cb,.int .i64 z] 103)).heap.size:=by simp
 have k0:=hK.cell 0
 have k1:=hK.cell 1
 have k2:=hK.cell 2
 simp only [List.getElem?_toArray,List.getElem?_cons_zero,List.getElem?_cons_succ] at k0 k1 k2
 go_enter Tryz.func152,Tryz.ntmps152
 go_wp2_with fail
 refine (HBk.out i _ hBz hi).mono ?_
 generalize wBack c i = x0 at HR0
 rintro e w1 ⟨rfl,hb1⟩
 replace k0:=cell_keep k0 hb1
 replace k1:=cell_keep k1 hb1
 replace k2:=cell_keep k2 hb1
 have hB1:=hBz.trans (hb1.mono hBz.size)
 clear hBz hb1
 go_wp2_with fail
 go_loopw [1,5] (fun u v wr=>∃ (x : Int) (k : Nat),u = .int .i64 x ∧ v = .int .i64 k ∧ Hid (RegAt c i k x) ∧ Below w.heap.size w wr ∧ wr.cell? ⟨w.heap.size,0,none⟩ = some (.slice A na ca) ∧ wr.cell? ⟨w.heap.size,1,none⟩ = some (.slice B n cb) ∧ wr.cell? ⟨w.heap.size,2,none⟩ = some (.int .i64 z)) (fun u _ _=>(intOf u + 1).toNat)
 case atStart=>exact ⟨_,0,rfl,rfl,HR0,hB1,k0,k1,k2⟩
 case round =>
  clear k0 k1 k2 hB1
  obtain ⟨x,k,rfl,rfl,HR,hb,k0,k1,k2⟩:=hrel
  have hx1:=HR.out.1
  have hx2:=HR.out.2.1
  have HOx:=Lib.hid (HOf.out x wr hb (by omega))
  by_cases h7 : wOf c x = 7
  ·rw [h7] at HOx
   obtain ⟨m,rfl,hm,hR'⟩:=regAt_next HR.out h7
   have HR':=Lib.hid hR'
   have hm2 : m ≤ n:=by have:=Hl.out;omega
   clear hR' h7 hm HR
   have hx3:=HR'.out.1
   have hx4:=HR'.out.2.1
   go_wp2_with fail
   refine HOx.out.mono ?_
   rintro e w2 ⟨rfl,hb2⟩
   replace k0:=cell_keep k0 hb2
   replace k1:=cell_keep k1 hb2
   replace k2:=cell_keep k2 hb2
   have hbb:=below_step hb hb2 hb.size
   go_wp2_with fail
   refine (HBk.out m w2 hbb hm2).mono ?_
   have hlt : wBack c m < (m : Int):=(wBack_lt c m).1
   generalize wBack c m = y at HR' hx3 hx4 hlt
   rintro e w3 ⟨rfl,hb3⟩
   replace k0:=cell_keep k0 hb3
   replace k1:=cell_keep k1 hb3
   replace k2:=cell_keep k2 hb3
   have hbc:=below_step hbb hb3 hbb.size
   go_wp2
   go_roundw
   case rel=>exact ⟨y,k + 1,rfl,by go_num,HR',hbc,k0,k1,k2⟩
   case measure=>simp [intOf];omega
  ·have HV : Hid (k = wReg c i):=Lib.hid (regAt_end HR.out h7)
   have e7 : (wOf c x == 7) = false:=beq_eq_false_iff_ne.2 h7
   clear h7
   generalize wOf c x = y at HOx e7
   go_wp2_with fail
   refine HOx.out.mono ?_
   rintro e w2 ⟨rfl,hb2⟩
   go_wp2
   go_ret
   exact ⟨by rw [HV.out];rfl,below_step hb hb2 hb.size⟩
end Go.Proofs.YtdngkienloligaaGreatDoor
/- -/
namespace Go.Proofs.YtdngkienloligaaGreatDoor
def insK (x : Int × Int) : List (Int × Int) → List (Int × Int)
 | []=>[x]
 | y :: r=>if x.1 ≤ y.1 then x :: y :: r else y :: insK x r
def sortK : List (Int × Int) → List (Int × Int)
 | []=>[]
 | x :: r=>insK x (sortK r)
theorem insK_perm (x : Int × Int) : ∀ (l : List (Int × Int)),(insK x l).Perm (x :: l)
 | []=>.refl _
 | y :: r=>by
  unfold insK
  split
  ·exact .refl _
  ·exact ((insK_perm x r).cons y).trans (List.Perm.swap x y r)
theorem sortK_perm : ∀ (l : List (Int × Int)),(sortK l).Perm l
 | []=>.refl _
 | x :: r=>(insK_perm x (sortK r)).trans ((sortK_perm r).cons x)
theorem insK_rise {x : Int × Int} : ∀ {l : List (Int × Int)},Rise l → Rise (insK x l)
 | [],_=>by unfold insK Rise;simp
 | y :: r,h=>by
  have h':=List.pairwise_cons.1 h
  unfold insK
  split
  ·rename_i hxy
   refine List.pairwise_cons.2 ⟨fun z hz=>?_,h⟩
   rcases List.mem_cons.1 hz with rfl | hz
   ·exact hxy
   ·have:=h'.1 z hz;omega
  ·rename_i hxy
   refine List.pairwise_cons.2 ⟨fun z hz=>?_,insK_rise h'.2⟩
   rcases List.mem_cons.1 ((insK_perm x r).mem_iff.1 hz) with rfl | hz
   ·omega
   ·exact h'.1 z hz
theorem sortK_rise : ∀ (l : List (Int × Int)),Rise (sortK l)
 | []=>.nil
 | _ :: r=>insK_rise (sortK_rise r)
def normK (l : List (Int × Int)) : List (Int × Int):=mergeR (sortK (keepR l))
theorem normK_eq (l : List (Int × Int)) : normK l = normR l:=mergeR_eq (sortK_perm _) (sortK_rise _)
def addK (d : DbP) (name set : List UInt8) : Except Int DbP :=
 if nameL name = false ∨ name = otherL then .error 40 else
 match parseE (spcL set) with
 | .error e=>.error e
 | .ok l =>
  match d.num name with
  | some c=>if d.clash c (normK l) then .error 41 else .ok ⟨d.names,d.sets.set c (normK ((d.sets.getD c []) ++ normK l))⟩
  | none=>if 64 ≤ d.names.length then .error 6 else if d.clash d.names.length (normK l) then .error 41 else .ok ⟨d.names ++ [name],d.sets ++ [normK l]⟩
theorem addK_eq (d : DbP) (n s : List UInt8) : addK d n s = addL d n s:=by
 have e : ∀ l,normK l = orR [] (normR l):=fun l=>by unfold orR;rw [normK_eq,List.nil_append,normR_of_NF (normR_NF l)]
 have e1 : ∀ a b,normK (a ++ b) = orR a b:=fun a b=>by rw [normK_eq];rfl
 unfold addK addL
 split
 ·rfl
 ·cases parseE (spcL s) with
  | error e=>rfl
  | ok l =>
   simp only
   cases d.num n with
   | some c=>simp only [e1,normK_eq]
   | none=>simp only;rw [e,show orR [] (normR l) = normR l by rw [← e,normK_eq]]
def stepK (d : DbP) (l : List UInt8) : Except Int DbP :=
 match lineP l with
 | .none_=>.ok d
 | .noLine=>.error 42
 | .says n s=>addK d n s
theorem stepK_eq (d : DbP) (l : List UInt8) : stepK d l = stepL d l:=by
 unfold stepK stepL
 cases lineP l with
 | none_=>rfl
 | noLine=>rfl
 | says n s=>exact addK_eq d n s
def goK (d : DbP) : List (List UInt8) → Nat → Except (Int × Nat) DbP
 | [],_=>.ok d
 | l :: r,i=>match stepK d l with
  | .error e=>.error (e,i + 1)
  | .ok d'=>goK d' r (i + 1)
theorem goK_eq : ∀ (L : List (List UInt8)) (d : DbP) (i : Nat),goK d L i = linesGo d L i
 | [],_,_=>rfl
 | l :: r,d,i=>by
  unfold goK linesGo
  rw [stepK_eq]
  cases stepL d l with
  | error e=>rfl
  | ok d'=>exact goK_eq r d' (i + 1)
theorem new_K {t : List UInt8} {d : DbP} (hl : decide (t.length ≤ 65536) = true) (h : goK DbP.first (splitL t) 0 = .ok d) : newP t = .ok d:=by
 unfold newP
 rw [if_neg (by have:=of_decide_eq_true hl;omega),← goK_eq,h]
end Go.Proofs.YtdngkienloligaaGreatDoor
/- -/
namespace Go.Proofs.YtdngkienloligaaGreatDoor
section
variable {A B : List Int}
end
end Go.Proofs.YtdngkienloligaaGreatDoor
/- -/
namespace Go.Proofs.YtdngkienloligaaGreatDoor
end Go.Proofs.YtdngkienloligaaGreatDoor
/- -/
namespace Go.Proofs.YtdngkienloligaaGreatDoor
def wCls (g : Int → Nat) (s : ByteArray) : List Int:=(runesP s).map fun x=>(g x.1 : Int)
def wPick (c : List Int) : Nat → List Nat → List Nat
 | _,[]=>[]
 | i,a :: r=>(if i = 0 ∨ wCut c i = true then [a] else []) ++ wPick c (i + 1) r
def wBounds (g : Int → Nat) (s : ByteArray) : List Nat:=wPick (wCls g s) 0 ((runesP s).map (·.2.1)) ++ (if s.size = 0 then [] else [s.size])
theorem wCls_len (g : Int → Nat) (s : ByteArray) : (wCls g s).length = (runesP s).length:=by simp [wCls]
theorem wPick_append (c : List Int) : ∀ (P Q : List Nat) (i : Nat),wPick c i (P ++ Q) = wPick c i P ++ wPick c (i + P.length) Q
 | [],Q,i=>by simp [wPick]
 | a :: P,Q,i=>by
  rw [List.cons_append,wPick,wPick,wPick_append c P Q (i + 1),List.append_assoc,List.length_cons,show i + 1 + P.length = i + (P.length + 1) by omega]
end Go.Proofs.YtdngkienloligaaGreatDoor
/- -/
namespace Go.Proofs.YtdngkienloligaaGreatDoor
def wordD : DbP:=⟨[otherL,[67,114],[76,102],[78,101,119,108,105,110,101],[69,120,116,101,110,100],[90,119,106],[70,111,114,109,97,116],[82,101,103,105,111,110],[75,97,116,97,107,97,110,97],[72,101,98,114,101,119],[76,101,116,116,101,114],[81,117,111,116,101],[68,111,117,98,108,101],[77,105,100,78,117,109,76,101,116],[77,105,100,76,101,116,116,101,114],[77,105,100,78,117,109],[68,105,103,105,116],[76,111,119],[83,112,97,99,101],[80,105,99,116]],[[],[(13,13)],[(10,10)],[(11,12),(133,133),(8232,8233)],[(768,879),(1425,1469),(8204,8204),(12441,12442),(65024,65039),(127995,127999)],[(8205,8205)],[(173,173),(8206,8207),(8288,8288),(65279,65279)],[(127462,127487)],[(12449,12538),(12540,12540),(65382,65437)],[(1488,1514)],[(65,90),(97,122),(170,170),(181,181),(192,214),(216,246),(248,687),(880,883),(902,902),(904,1153),(1162,1366),(1568,1610),(7680,8124),(44032,55203),(64256,64262)],[(39,39)],[(34,34)],[(46,46),(8216,8217)],[(58,58),(183,183)],[(44,44),(59,59),(1644,1644)],[(48,57),(1632,1641)],[(95,95),(8255,8255)],[(32,32),(8192,8198),(12288,12288)],[(169,169),(174,174),(9728,10175),(127744,127994),(128000,128591),(128640,128767)]]⟩
set_option maxRecDepth 100000 in
theorem word_ok : wordD.okB = true:=by kernel_rfl
theorem wordOk : wordD.Ok ∧ Apart wordD.sets ∧ wordD.Named:=DbP.okB_spec word_ok
def gW (r : Int) : Nat:=wordD.get r
theorem gW_lt (r : Int) : gW r < 20:=get_lt wordOk.1 r
end Go.Proofs.YtdngkienloligaaGreatDoor
/- -/
namespace Go.Proofs.YtdngkienloligaaGreatDoor
end Go.Proofs.YtdngkienloligaaGreatDoor
/- -/
namespace Go.Proofs.YtdngkienloligaaGreatDoor
section
variable {A B : List Int} {e : Int}
end
end Go.Proofs.YtdngkienloligaaGreatDoor
/- -/
namespace Go.Proofs.YtdngkienloligaaGreatDoor
end Go.Proofs.YtdngkienloligaaGreatDoor
/- -/
namespace Go.Proofs.YtdngkienloligaaGreatDoor
end Go.Proofs.YtdngkienloligaaGreatDoor
/- -/
namespace Go.Proofs.YtdngkienloligaaGreatDoor
end Go.Proofs.YtdngkienloligaaGreatDoor
/- -/
namespace Go.Proofs.YtdngkienloligaaGreatDoor
end Go.Proofs.YtdngkienloligaaGreatDoor
/- -/
namespace Go.Proofs.YtdngkienloligaaGreatDoor
end Go.Proofs.YtdngkienloligaaGreatDoor
