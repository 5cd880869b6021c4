/-
 Several texts in one,in their build order: WP,WP2,WP3,Wa,Wb,Wd,DbX,Rdr2,Same,Sort,Txt,PropsY,Fmt,Post.
-/
import Derived.Deep.DeepMust
import Derived.Shelf.Strings.SlTrimAscii
import Derived.Shelf.SlSortCmp.WholeK
import Derived.Lib.Replace
import Derived.Lib.IndexBytes
import Derived.Deep.LoopGhost
import Derived.Lib.ConvBytes
import Derived.Laws.Bits64b
import Derived.Carry
import Derived.ChangeSame
import Derived.OpenShut
import Derived.ProofKit
import Derived.Deep.SlicePairs
import Derived.SizedLaws
import Derived.ChangeSlices
import Derived.Test.YtdngkienloligaaGreatDoorV0a
/- -/
namespace Go.Proofs.YtdngkienloligaaGreatDoor
theorem qtS_cons (c : UInt8) (r : List UInt8) : qtL (c :: r) = if c = 39∧(runeAt (bytesOf (c :: r)) 1).2 ≠ 0∧r[(runeAt (bytesOf (c :: r)) 1).2]? = some 39 then some ((runeAt (bytesOf (c :: r)) 1).2+2) else none:=by
 rw [qtL_cons,show (1 : Nat) = 0+1 from rfl,runeAt_sh]
 by_cases hr : r = []
 ·subst hr
  rw [if_neg (by simp),if_neg (fun h=>by simp at h)]
 ·have hb:=decL_bd hr
  have e : runeAt (bytesOf r) 0 = Utf8.decode (bytesOf r) 0:=by
   unfold runeAt
   rw [if_pos (by rw [bytesOf_size];omega)]
  rw [e]
  by_cases h : c = 39∧r[(Utf8.decode (bytesOf r) 0).2]? = some 39
  ·rw [if_pos ⟨h.1,hr,h.2⟩,if_pos ⟨h.1,by omega,h.2⟩]
  ·rw [if_neg (fun k=>h ⟨k.1,k.2.2⟩),if_neg (fun k=>h ⟨k.1,k.2.2⟩)]
theorem bytes_is (s : ByteArray) : bytesOf s.data.toList = s:=bytesOf_data s
theorem qt_no {s : ByteArray} (h : ∀ h0 : 0 < s.size,s[0]'h0 ≠ 39) : qtL s.data.toList = none:=by
 cases hl : s.data.toList with
 | nil=>rfl
 | cons c r =>
  have h0 : 0 < s.size:=by rw [← size_data,hl];simp
  have : s[0]'h0 = c:=by
   have h1 : s.data.toList[0]? = some (s[0]'h0):=List.getElem?_eq_getElem (by simpa using h0)
   rw [hl] at h1;simpa using h1.symm
  rw [qtS_cons,if_neg (fun k=>h h0 (by rw [this,k.1]))]
theorem qt_zero {s : ByteArray} (h : (runeAt s 1).2 = 0) : qtL s.data.toList = none:=by
 cases hl : s.data.toList with
 | nil=>rfl
 | cons c r =>
  have hs : s = bytesOf (c :: r):=by rw [← hl,bytesOf_data]
  rw [qtS_cons,← hs,if_neg (fun k=>k.2.1 h)]
theorem qt_open {s : ByteArray} (h : s.data.toList[(runeAt s 1).2+1]? ≠ some 39) : qtL s.data.toList = none:=by
 cases hl : s.data.toList with
 | nil=>rfl
 | cons c r =>
  have hs : s = bytesOf (c :: r):=by rw [← hl,bytesOf_data]
  rw [qtS_cons,← hs,if_neg (fun k=>h (by rw [hl];exact k.2.2))]
theorem qt_ok {s : ByteArray} (h0 : 0 < s.size) (h1 : s[0]'h0 = 39) (h2 : (runeAt s 1).2 ≠ 0) (h3 : s.data.toList[(runeAt s 1).2+1]? = some 39) : qtL s.data.toList = some ((runeAt s 1).2+2):=by
 cases hl : s.data.toList with
 | nil=>rw [← size_data,hl] at h0;simp at h0
 | cons c r =>
  have hs : s = bytesOf (c :: r):=by rw [← hl,bytesOf_data]
  have hc : s[0]'h0 = c:=by
   have h1 : s.data.toList[0]? = some (s[0]'h0):=List.getElem?_eq_getElem (by simpa using h0)
   rw [hl] at h1;simpa using h1.symm
  rw [qtS_cons,← hs,if_pos ⟨by rw [← hc,h1],h2,by rw [hl] at h3;exact h3⟩]
def nameU : List UInt8→Bool
 | []=>true
 | c :: r=>letB c && r.all partB
theorem nameL_eq (l : List UInt8) : nameL l = (nameU l && decide (1≤l.length∧l.length≤32)):=by
 cases l with
 | nil=>rfl
 | cons c r=>
  simp only [nameL,nameU,List.length_cons]
  congr 1
  rw [decide_eq_decide];omega
theorem nameU_first (c : UInt8) : nameU [c] = letB c:=by simp [nameU]
theorem nameU_snoc {l : List UInt8} (h : l ≠ []) (c : UInt8) : nameU (l++[c]) = (nameU l && partB c):=by
 cases l with
 | nil=>exact absurd rfl h
 | cons a r=>simp [nameU,List.all_append,Bool.and_assoc]
theorem nameU_take {l : List UInt8} {k : Nat} (h : nameU (l.take k) = false) : nameU l = false:=by
 cases l with
 | nil=>simpa using h
 | cons c r =>
  cases k with
  | zero=>simp [nameU] at h
  | succ k =>
   simp only [List.take_succ_cons,nameU] at h ⊢
   cases hc : letB c with
   | false=>rfl
   | true =>
    rw [hc] at h
    simp only [Bool.true_and] at h ⊢
    rw [List.all_eq_false] at h ⊢
    obtain ⟨x,hx,h2⟩:=h
    exact ⟨x,List.mem_of_mem_take hx,h2⟩
theorem nameU_next {l : List UInt8} {k : Nat} {c : UInt8} (h : l[k]? = some c) (hk : nameU (l.take k) = true) : nameU (l.take (k+1)) = if k = 0 then letB c else partB c:=by
 have hs : l.take (k+1) = l.take k++[c]:=by rw [List.take_add_one,h];rfl
 have hlt:=(List.getElem?_eq_some_iff.1 h).1
 rw [hs]
 split
 ·rename_i h0;subst h0;rw [List.take_zero,List.nil_append,nameU_first]
 ·rw [nameU_snoc (by intro e;have h1:=congrArg List.length e;rw [List.length_take] at h1;simp only [List.length_nil] at h1;omega),hk,Bool.true_and]
def FindAt (c : UInt8) (l : List UInt8) (i : Nat) : Prop:=i≤l.length∧findP c l = (findP c (l.drop i)).map (·+i)
theorem findAt_first (c : UInt8) (l : List UInt8) : FindAt c l 0:=⟨by omega,by rw [List.drop_zero];cases findP c l <;> rfl⟩
theorem findAt_qt {c : UInt8} {l : List UInt8} {i k : Nat} (h : FindAt c l i) (hq : qtL (l.drop i) = some k) : FindAt c l (i+k):=by
 have hk:=(qtL_some hq).2.2.1
 rw [List.length_drop] at hk
 have:=h.1
 refine ⟨by have:=(qtL_some hq).1;omega,?_⟩
 rw [h.2,findP_qt hq,List.drop_drop]
 cases findP c (l.drop (i+k)) with
 | none=>rfl
 | some j=>simp;omega
theorem findAt_byte {c x : UInt8} {l : List UInt8} {i : Nat} (h : FindAt c l i) (hx : l[i]? = some x) (hq : qtL (l.drop i) = none) (hne : x ≠ c) : FindAt c l (i+1):=by
 have hlt:=(List.getElem?_eq_some_iff.1 hx).1
 have hd : l.drop i = x :: l.drop (i+1):=by
  have:=(List.getElem?_eq_some_iff.1 hx).2
  rw [List.drop_eq_getElem_cons hlt,this]
 refine ⟨by omega,?_⟩
 rw [h.2,hd,findP_cons (by rw [← hd];exact hq),if_neg hne]
 cases findP c (l.drop (i+1)) with
 | none=>rfl
 | some j=>simp;omega
theorem findAt_hit {c : UInt8} {l : List UInt8} {i : Nat} (h : FindAt c l i) (hx : l[i]? = some c) (hq : qtL (l.drop i) = none) : findP c l = some i:=by
 have hlt:=(List.getElem?_eq_some_iff.1 hx).1
 have hd : l.drop i = c :: l.drop (i+1):=by
  have:=(List.getElem?_eq_some_iff.1 hx).2
  rw [List.drop_eq_getElem_cons hlt,this]
 rw [h.2,hd,findP_cons (by rw [← hd];exact hq),if_pos rfl];simp
theorem findAt_end {c : UInt8} {l : List UInt8} {i : Nat} (h : FindAt c l i) (hi : ¬ i < l.length) : findP c l = none:=by
 rw [h.2,List.drop_of_length_le (by omega)];rfl
def fv : Option Nat→Int
 | none=>-1
 | some i=>i
end Go.Proofs.YtdngkienloligaaGreatDoor
/- -/
namespace Go.Proofs.YtdngkienloligaaGreatDoor
def MeetAt (a b : List (Int × Int)) (i j : Nat) : Prop:=i≤a.length∧j≤b.length∧meetB a b = meetB (a.drop i) (b.drop j)
theorem meetAt_first (a b : List (Int × Int)) : MeetAt a b 0 0:=⟨by omega,by omega,by rw [List.drop_zero,List.drop_zero]⟩
theorem Nf_drop {l : List (Int × Int)} (k : Nat) (h : Nf l) : Nf (l.drop k):=by
 rw [← List.take_append_drop k l] at h
 exact ((Nf_append _ _).1 h).2.1
theorem drop_at {α : Type} {l : List α} {i : Nat} {x : α} (h : l[i]? = some x) : l.drop i = x :: l.drop (i+1):=by
 obtain ⟨hlt,e⟩:=List.getElem?_eq_some_iff.1 h
 rw [List.drop_eq_getElem_cons hlt,e]
theorem meetAt_left {a b : List (Int × Int)} {i j : Nat} {x y : Int × Int} (h : MeetAt a b i j) (hb : Nf b) (hx : a[i]? = some x) (hy : b[j]? = some y) (hlt : x.2 < y.1) : MeetAt a b (i+1) j:=by
 have h1:=(List.getElem?_eq_some_iff.1 hx).1
 refine ⟨h1,h.2.1,?_⟩
 rw [h.2.2,drop_at hx,drop_at hy]
 exact meetB_left (by rw [← drop_at hy];exact Nf_drop j hb) hlt
theorem meetAt_right {a b : List (Int × Int)} {i j : Nat} {x y : Int × Int} (h : MeetAt a b i j) (ha : Nf a) (hx : a[i]? = some x) (hy : b[j]? = some y) (hlt : y.2 < x.1) : MeetAt a b i (j+1):=by
 have h1:=(List.getElem?_eq_some_iff.1 hy).1
 refine ⟨h.1,h1,?_⟩
 rw [h.2.2,drop_at hx,drop_at hy]
 exact meetB_right (by rw [← drop_at hx];exact Nf_drop i ha) hlt
theorem meetAt_here {a b : List (Int × Int)} {i j : Nat} {x y : Int × Int} (h : MeetAt a b i j) (hx : a[i]? = some x) (hy : b[j]? = some y) (h1 : ¬ x.2 < y.1) (h2 : ¬ y.2 < x.1) : meetB a b = true:=by
 rw [h.2.2,drop_at hx,drop_at hy]
 exact meetB_here h1 h2
theorem meetAt_end {a b : List (Int × Int)} {i j : Nat} (h : MeetAt a b i j) (hij : ¬ i < a.length∨¬ j < b.length) : meetB a b = false:=by
 rw [h.2.2]
 rcases hij with hi | hj
 ·rw [List.drop_of_length_le (by omega)];exact meetB_nil_left _
 ·rw [List.drop_of_length_le (l:=b) (by omega)];exact meetB_nil_right _
def ClashAt (d : DbP) (c : Nat) (l : List (Int × Int)) (k : Nat) : Prop:=∀ q,q < k→q ≠ c→meetB (d.sets.getD q []) l = false
theorem clashAt_first (d : DbP) (c : Nat) (l : List (Int × Int)) : ClashAt d c l 0:=fun q hq=>by omega
theorem clashAt_next {d : DbP} {c : Nat} {l s : List (Int × Int)} {k : Nat} (h : ClashAt d c l k) (hs : d.sets[k]? = some s) (hk : k = c∨meetB s l = false) : ClashAt d c l (k+1):=fun q hq hqc=>by
 rcases Nat.lt_or_ge q k with hlt | hge
 ·exact h q hlt hqc
 ·obtain rfl : q = k:=by omega
  rcases hk with e | e
  ·exact absurd e hqc
  ·rw [List.getD_eq_getElem?_getD,hs];exact e
theorem clashAt_end {d : DbP} {c : Nat} {l : List (Int × Int)} {k : Nat} (h : ClashAt d c l k) (hk : ¬ k < d.sets.length) : d.clash c l = false:=by
 unfold DbP.clash
 rw [List.any_eq_false]
 intro q hq
 have:=List.mem_range.1 hq
 by_cases e : q = c
 ·simp [e]
 ·rw [h q (by omega) e];simp
theorem clash_here {d : DbP} {c : Nat} {l s : List (Int × Int)} {k : Nat} (hs : d.sets[k]? = some s) (hk : k ≠ c) (h : meetB s l = true) : d.clash c l = true:=by
 unfold DbP.clash
 rw [List.any_eq_true]
 refine ⟨k,List.mem_range.2 (List.getElem?_eq_some_iff.1 hs).1,?_⟩
 rw [List.getD_eq_getElem?_getD,hs]
 simp [hk,h]
def addS (d : DbP) (u : List UInt8) : Except Int DbP :=
 match findP 59 u with
 | none=>.error 42
 | some j=>addL d (trimL (u.drop (j+1))) (u.take j)
def lineU (l : List UInt8) : List UInt8:=trimL (l.take (hashP l))
theorem step_nil {d : DbP} {l : List UInt8} (h : lineU l = []) : stepL d l = .ok d:=by
 unfold stepL lineP
 simp only [show trimL (l.take (hashP l)) = [] from h,if_true]
theorem step_add {d : DbP} {l : List UInt8} (h : lineU l ≠ []) : stepL d l = addS d (lineU l):=by
 unfold stepL lineP addS
 simp only [show trimL (l.take (hashP l)) = lineU l from rfl,if_neg h]
 cases findP 59 (lineU l) with
 | none=>rfl
 | some j=>rfl
def nbrP (d : DbP) (n : List UInt8) : Except Int Nat:=match d.num n with
 | some c=>.ok c
 | none=>if 64≤d.names.length then .error 6 else .ok d.names.length
def putP (d : DbP) (n : List UInt8) (c : Nat) (l : List (Int × Int)) : DbP :=
 if c = d.names.length then ⟨d.names++[n],d.sets++[orR [] l]⟩ else ⟨d.names,d.sets.set c (orR (d.sets.getD c []) l)⟩
theorem addS_none {d : DbP} {u : List UInt8} (h : findP 59 u = none) : addS d u = .error 42:=by unfold addS;rw [h]
section
variable {d : DbP} {u : List UInt8} {j : Nat} (h : findP 59 u = some j)
include h
theorem addS_name (hn : nameL (trimL (u.drop (j+1))) = false∨trimL (u.drop (j+1)) = otherL) : addS d u = .error 40:=by
 unfold addS addL;rw [h];simp only [if_pos hn]
theorem addS_parse (hn : ¬ (nameL (trimL (u.drop (j+1))) = false∨trimL (u.drop (j+1)) = otherL)) {e : Int} (hp : parseE (spcL (u.take j)) = .error e) : addS d u = .error e:=by
 unfold addS addL;rw [h];simp only [if_neg hn,hp]
theorem addS_many (hn : ¬ (nameL (trimL (u.drop (j+1))) = false∨trimL (u.drop (j+1)) = otherL)) {l : List (Int × Int)} (hp : parseE (spcL (u.take j)) = .ok l) {e : Int} (hm : nbrP d (trimL (u.drop (j+1))) = .error e) : addS d u = .error e:=by
 unfold addS addL;rw [h];simp only [if_neg hn,hp]
 unfold nbrP at hm
 cases hq : d.num (trimL (u.drop (j+1))) with
 | some c=>rw [hq] at hm;cases hm
 | none =>
  rw [hq] at hm
  simp only at hm ⊢
  split at hm
  ·rename_i h6;rw [if_pos h6];injection hm with hm;rw [hm]
  ·cases hm
theorem addS_clash (hn : ¬ (nameL (trimL (u.drop (j+1))) = false∨trimL (u.drop (j+1)) = otherL)) {l : List (Int × Int)} (hp : parseE (spcL (u.take j)) = .ok l) {c : Nat} (hm : nbrP d (trimL (u.drop (j+1))) = .ok c) (hc : d.clash c (normR l) = true) : addS d u = .error 41:=by
 unfold addS addL;rw [h];simp only [if_neg hn,hp]
 unfold nbrP at hm
 cases hq : d.num (trimL (u.drop (j+1))) with
 | some c'=>rw [hq] at hm;injection hm with hm;subst hm;simp only [hc,if_true]
 | none =>
  rw [hq] at hm
  simp only at hm ⊢
  split at hm
  ·cases hm
  ·rename_i h6;rw [if_neg h6];injection hm with hm;subst hm;simp only [hc,if_true]
theorem addS_ok (hn : ¬ (nameL (trimL (u.drop (j+1))) = false∨trimL (u.drop (j+1)) = otherL)) {l : List (Int × Int)} (hp : parseE (spcL (u.take j)) = .ok l) {c : Nat} (hm : nbrP d (trimL (u.drop (j+1))) = .ok c) (hc : d.clash c (normR l) = false) : addS d u = .ok (putP d (trimL (u.drop (j+1))) c (normR l)):=by
 unfold addS addL;rw [h];simp only [if_neg hn,hp]
 unfold nbrP at hm
 cases hq : d.num (trimL (u.drop (j+1))) with
 | some c' =>
  rw [hq] at hm;injection hm with hm;subst hm
  have:=(List.getElem?_eq_some_iff.1 (idxOf?_some (show d.names.idxOf? _ = some c' from hq))).1
  simp only [hc,putP,if_neg (show ¬ c' = d.names.length by omega)]
  rfl
 | none =>
  rw [hq] at hm
  simp only at hm ⊢
  split at hm
  ·cases hm
  ·rename_i h6;rw [if_neg h6];injection hm with hm;subst hm;simp only [hc,putP,if_true];rfl
end
theorem nbrP_le {d : DbP} {n : List UInt8} {c : Nat} (h : nbrP d n = .ok c) : c≤d.names.length:=by
 unfold nbrP at h
 cases hq : d.num n with
 | some c' =>
  rw [hq] at h;injection h with h;subst h
  exact Nat.le_of_lt (List.getElem?_eq_some_iff.1 (idxOf?_some (show d.names.idxOf? _ = some c' from hq))).1
 | none =>
  rw [hq] at h;simp only at h
  split at h
  ·cases h
  ·injection h with h;omega
end Go.Proofs.YtdngkienloligaaGreatDoor
/- -/
namespace Go.Proofs.YtdngkienloligaaGreatDoor
def gotR (S : List (List (Int × Int))) (c k : Nat) : List (Int × Int × Nat):=entG 1 (S.take c)++((S.getD c []).take k).map fun x=>(x.1,x.2,c+1)
theorem gotR_first (S : List (List (Int × Int))) : gotR S 0 0 = []:=by simp [gotR,entG]
theorem gotR_in {S : List (List (Int × Int))} {c k : Nat} {s : List (Int × Int)} {x : Int × Int} (hs : S[c]? = some s) (hx : s[k]? = some x) : gotR S c (k+1) = gotR S c k++[(x.1,x.2,c+1)]:=by
 unfold gotR
 rw [List.getD_eq_getElem?_getD,hs,Option.getD_some,List.take_add_one,hx,Option.toList_some,List.map_append,List.append_assoc];rfl
theorem gotR_out {S : List (List (Int × Int))} {c k : Nat} {s : List (Int × Int)} (hs : S[c]? = some s) (hk : ¬ k < s.length) : gotR S c k = gotR S (c+1) 0:=by
 unfold gotR
 rw [List.getD_eq_getElem?_getD,hs,Option.getD_some,List.take_of_length_le (l:=s) (i:=k) (by omega),List.take_zero,List.map_nil,List.append_nil,List.take_add_one,hs,Option.toList_some,entG_append]
 have hlt:=(List.getElem?_eq_some_iff.1 hs).1
 rw [List.length_take,Nat.min_eq_left (Nat.le_of_lt hlt)]
 simp [entG,Nat.add_comm]
theorem gotR_end {S : List (List (Int × Int))} {c : Nat} (hc : ¬ c < S.length) : gotR S c 0 = entG 1 S:=by
 unfold gotR
 rw [List.take_of_length_le (by omega),List.take_zero,List.map_nil,List.append_nil]
theorem flat_next {S : List (List (Int × Int))} {c : Nat} {s : List (Int × Int)} (hs : S[c]? = some s) : (S.take (c+1)).flatten = (S.take c).flatten++s:=by
 rw [List.take_add_one,hs,Option.toList_some,List.flatten_append];simp
theorem gotR_len {S : List (List (Int × Int))} {c k : Nat} : (gotR S c k).length≤lenS S:=by
 unfold gotR
 rw [List.length_append,List.length_map,entG_len,List.length_take]
 rcases Nat.lt_or_ge c S.length with h | h
 ·have hd : S = S.take c++S[c] :: S.drop (c+1):=by rw [← List.drop_eq_getElem_cons h,List.take_append_drop]
  have h2 : lenS S = lenS (S.take c)+lenS (S[c] :: S.drop (c+1)):=by
   conv=>lhs;rw [hd]
   exact lenS_append _ _
  rw [List.getD_eq_getElem?_getD,List.getElem?_eq_getElem h,Option.getD_some,h2]
  have : lenS (S[c] :: S.drop (c+1)) = S[c].length+lenS (S.drop (c+1)):=rfl
  omega
 ·rw [List.getD_eq_getElem?_getD,List.getElem?_eq_none h,List.take_of_length_le h];simp
theorem flat_le (S : List (List (Int × Int))) (c : Nat) : (S.take c).flatten.length≤lenS S:=by
 rw [lenS_flat]
 have h2 : lenS S = lenS (S.take c)+lenS (S.drop c):=by
  conv=>lhs;rw [← List.take_append_drop c S]
  exact lenS_append _ _
 omega
structure BinAt (l : List (Int × Int × Nat)) (r : Int) (i j : Nat) : Prop where
 le : i≤j
 len : j≤l.length
 lo : ∀ t x,t < i→l[t]? = some x→x.2.1 < r
 hi : ∀ t x,j≤t→l[t]? = some x→¬ x.2.1 < r
theorem binAt_first (l : List (Int × Int × Nat)) (r : Int) : BinAt l r 0 l.length:=⟨by omega,by omega,fun t x h=>by omega,fun t x h hx=>by have:=(List.getElem?_eq_some_iff.1 hx).1;omega⟩
theorem hi_rise {l : List (Int × Int × Nat)} (hp : l.Pairwise fun a b=>a.2.1 < b.1) (hl : ∀ y ∈ l,y.1≤y.2.1) {t h : Nat} {x y : Int × Int × Nat} (hth : t < h) (hx : l[t]? = some x) (hy : l[h]? = some y) : x.2.1 < y.2.1:=by
 obtain ⟨h1,e1⟩:=List.getElem?_eq_some_iff.1 hx
 obtain ⟨h2,e2⟩:=List.getElem?_eq_some_iff.1 hy
 have:=List.pairwise_iff_getElem.1 hp t h h1 h2 hth
 have:=hl y (List.mem_of_getElem? hy)
 rw [e1,e2] at *
 omega
theorem binAt_left {l : List (Int × Int × Nat)} {r : Int} {i j h : Nat} {y : Int × Int × Nat} (hb : BinAt l r i j) (hp : l.Pairwise fun a b=>a.2.1 < b.1) (hl : ∀ y ∈ l,y.1≤y.2.1) (h2 : h < j) (hy : l[h]? = some y) (hlt : y.2.1 < r) : BinAt l r (h+1) j :=
 ⟨h2,hb.len,fun t x ht hx=>by
  rcases Nat.lt_or_ge t h with h3 | h3
  ·have:=hi_rise hp hl h3 hx hy;omega
  ·obtain rfl : t = h:=by omega
   rw [hy] at hx;injection hx with hx;subst hx;exact hlt,hb.hi⟩
theorem binAt_right {l : List (Int × Int × Nat)} {r : Int} {i j h : Nat} {y : Int × Int × Nat} (hb : BinAt l r i j) (hp : l.Pairwise fun a b=>a.2.1 < b.1) (hl : ∀ y ∈ l,y.1≤y.2.1) (h1 : i≤h) (h2 : h < j) (hy : l[h]? = some y) (hlt : ¬ y.2.1 < r) : BinAt l r i h :=
 ⟨h1,by have:=hb.len;omega,hb.lo,fun t x ht hx=>by
  rcases Nat.lt_or_ge h t with h3 | h3
  ·have:=hi_rise hp hl h3 hy hx;omega
  ·obtain rfl : t = h:=by omega
   rw [hy] at hx;injection hx with hx;subst hx;exact hlt⟩
theorem binAt_end {l : List (Int × Int × Nat)} {r : Int} {i j : Nat} (hb : BinAt l r i j) (h : ¬ i < j) : l.countP (endB r) = i:=by
 obtain rfl : i = j:=by have:=hb.le;omega
 exact count_place hb.len hb.lo hb.hi
theorem findC_in {l : List (Int × Int × Nat)} {r : Int} {x : Int × Int × Nat} (h : l[l.countP (endB r)]? = some x) : findC l r = if x.1≤r then x.2.2 else 0:=by unfold findC;rw [h]
theorem findC_out {l : List (Int × Int × Nat)} {r : Int} (h : ¬ l.countP (endB r) < l.length) : findC l r = 0:=by unfold findC;rw [List.getElem?_eq_none (by omega)]
def NewAt (L : List (List UInt8)) (i : Nat) (d : DbP) : Prop:=i≤L.length∧linesGo DbP.first L 0 = linesGo d (L.drop i) i∧d.Ok∧Apart d.sets
theorem newAt_first (L : List (List UInt8)) : NewAt L 0 DbP.first:=⟨by omega,by rw [List.drop_zero],DbP.first_ok,apart_first⟩
theorem stepL_apart {d d' : DbP} {l : List UInt8} (h : d.Ok) (ha : Apart d.sets) (hs : stepL d l = .ok d') : Apart d'.sets:=by
 have h1 : linesGo d [l] 0 = .ok d':=by simp only [linesGo,hs]
 exact linesGo_apart h ha h1
theorem newAt_next {L : List (List UInt8)} {i : Nat} {d d' : DbP} {l : List UInt8} (h : NewAt L i d) (hl : L[i]? = some l) (hs : stepL d l = .ok d') : NewAt L (i+1) d' :=
 ⟨(List.getElem?_eq_some_iff.1 hl).1,by rw [h.2.1,drop_at hl];simp only [linesGo,hs],stepL_ok h.2.2.1 hs,stepL_apart h.2.2.1 h.2.2.2 hs⟩
theorem newAt_err {L : List (List UInt8)} {i : Nat} {d : DbP} {l : List UInt8} {e : Int} (h : NewAt L i d) (hl : L[i]? = some l) (hs : stepL d l = .error e) : linesGo DbP.first L 0 = .error (e,i+1):=by
 rw [h.2.1,drop_at hl];simp only [linesGo,hs]
theorem newAt_end {L : List (List UInt8)} {i : Nat} {d : DbP} (h : NewAt L i d) (hi : ¬ i < L.length) : linesGo DbP.first L 0 = .ok d:=by
 rw [h.2.1,List.drop_of_length_le (by omega)];rfl
theorem newP_long {t : List UInt8} (h : 65536 < t.length) : newP t = .error (1,0):=if_pos h
theorem newP_go {t : List UInt8} (h : ¬ 65536 < t.length) : newP t = linesGo DbP.first (splitL t) 0:=if_neg h
theorem full_set {d : DbP} (h : d.Ok) : d.sets.set 0 d.rest = d.full:=by
 have:=h.head;have:=h.len
 unfold DbP.full
 cases hs : d.sets with
 | nil =>
  have h1:=h.len;have h2:=h.head
  rw [hs] at h1
  cases hn : d.names with
  | nil=>rw [hn] at h2;cases h2
  | cons a b=>rw [hn] at h1;simp at h1
 | cons a b=>rw [show d.rest = DbP.rest d from rfl];simp
end Go.Proofs.YtdngkienloligaaGreatDoor
/- -/
namespace Go.Proofs.YtdngkienloligaaGreatDoor
open Go.RowKit Go.Maps
theorem letB_t {c : UInt8} (h : (65≤c.toNat∧c.toNat≤90)∨(97≤c.toNat∧c.toNat≤122)) : letB c = true:=by simpa [letB] using h
theorem letB_f {c : UInt8} (h : ¬ ((65≤c.toNat∧c.toNat≤90)∨(97≤c.toNat∧c.toNat≤122))) : letB c = false:=by
 cases hb : letB c with
 | false=>rfl
 | true=>exact absurd (by simpa [letB] using hb) h
theorem u8_eq {c : UInt8} {n : Nat} (hn : n < 256) : c = UInt8.ofNat n ↔ c.toNat = n:=by
 constructor
 ·rintro rfl;simp;omega
 ·intro h;rw [← UInt8.toNat_inj,h];simp;omega
theorem partB_t {c : UInt8} (h : (65≤c.toNat∧c.toNat≤90)∨(97≤c.toNat∧c.toNat≤122)∨(48≤c.toNat∧c.toNat≤57)∨c.toNat = 95) : partB c = true:=by
 have h95 : c = 95 ↔ c.toNat = 95:=u8_eq (n:=95) (by omega)
 simp only [partB,letB,Bool.or_eq_true,decide_eq_true_eq,beq_iff_eq,h95];omega
theorem partB_f {c : UInt8} (h : ¬ ((65≤c.toNat∧c.toNat≤90)∨(97≤c.toNat∧c.toNat≤122)∨(48≤c.toNat∧c.toNat≤57)∨c.toNat = 95)) : partB c = false:=by
 have h95 : c = 95 ↔ c.toNat = 95:=u8_eq (n:=95) (by omega)
 cases hb : partB c with
 | false=>rfl
 | true =>
  refine absurd ?_ h
  simp only [partB,letB,Bool.or_eq_true,decide_eq_true_eq,beq_iff_eq,h95] at hb;omega
set_option maxRecDepth 100000 in
set_option maxHeartbeats 4000000 in
theorem wName_any (l : List UInt8) (w : World) (hs : l.length≤9223372036854775807) : Calls Tryz.prog 214 #[.string (bytesOf l)] w fun e w'=>e = .returned (.bool (nameL l))∧Below w.heap.size w w':=by
 have hcv:=fun W=>Lib.run_convert_string_bytes (P:=Tryz.prog) W 9 146 5 (bytesOf l) Tryz.underlying9 Tryz.underlying146 Tryz.underlying5
 have hsz : (bytesOf l).size = l.length:=bytesOf_size l
 go_enter Tryz.func214,Tryz.ntmps214
 go_wp2
 have hcell:=fun j hj=>Lib.bytesWorld_cell w 5 (bytesOf l) j hj
 have hbw:=below_bytesWorld w 5 (bytesOf l)
 generalize Lib.bytesWorld w 5 (bytesOf l) = w1 at hcell hbw ⊢
 have Hcell:=Lib.hid hcell
 clear hcell hcv
 go_loop [9] (fun i=>∃ k : Nat,i = .int .i64 k∧k≤l.length∧Hid (nameU (l.take k) = true)) (fun i=>l.length - (intOf i).toNat)
 case atStart=>exact ⟨0,rfl,by omega,rfl⟩
 case round =>
  obtain ⟨k,rfl,hk,Hm⟩:=hrel
  by_cases hlt : k < l.length
  ·obtain ⟨c,Hc⟩ : ∃ c,Hid (l[k]? = some c):=⟨_,Lib.hid (List.getElem?_eq_getElem hlt)⟩
   have hc:=Hcell.out k (by rw [bytesOf_size];exact hlt)
   rw [bytesOf_list,List.getD_eq_getElem?_getD,Hc.out,Option.getD_some] at hc
   have HN:=Lib.hid (nameU_next Hc.out Hm.out)
   have HE : Hid (nameU (l.take (k+1)) = false→nameL l = false):=Lib.hid (fun h=>by rw [nameL_eq,nameU_take h,Bool.false_and])
   have hc0 : 0≤(c.toNat : Int):=by omega
   have hc255 : (c.toNat : Int)≤255:=by have:=c.toNat_lt;omega
   have HLT : Hid ((65≤(c.toNat : Int)∧(c.toNat : Int)≤90)∨(97≤(c.toNat : Int)∧(c.toNat : Int)≤122)→letB c = true∧partB c = true):=Lib.hid (fun h=>⟨letB_t (by omega),partB_t (by omega)⟩)
   have HLF : Hid (¬ ((65≤(c.toNat : Int)∧(c.toNat : Int)≤90)∨(97≤(c.toNat : Int)∧(c.toNat : Int)≤122))→letB c = false):=Lib.hid (fun h=>letB_f (by omega))
   have HPT : Hid ((48≤(c.toNat : Int)∧(c.toNat : Int)≤57)∨(c.toNat : Int) = 95→partB c = true):=Lib.hid (fun h=>partB_t (by omega))
   have HPF : Hid (¬ ((65≤(c.toNat : Int)∧(c.toNat : Int)≤90)∨(97≤(c.toNat : Int)∧(c.toNat : Int)≤122)∨(48≤(c.toNat : Int)∧(c.toNat : Int)≤57)∨(c.toNat : Int) = 95)→partB c = false):=Lib.hid (fun h=>partB_f (by omega))
   generalize (c.toNat : Int) = z at hc hc0 hc255 HLT HLF HPT HPF
   rcases Nat.eq_zero_or_pos k with rfl | h0
   ·rcases (by omega : (65≤z∧z≤90)∨(97≤z∧z≤122)∨(z < 65∨(90 < z∧z < 97)∨122 < z)) with ⟨hq,hq'⟩ | ⟨hq,hq'⟩ | hq
    iterate 2
     ·have HV : Hid (nameU (l.take (0+1)) = true):=Lib.hid (by rw [HN.out,if_pos rfl];exact (HLT.out (by omega)).1)
      clear HLT HLF HPT HPF HN HE
      try first | (have d65 : decide (65≤z) = true:=decide_eq_true (by omega)) | (have d65 : decide (65≤z) = false:=decide_eq_false (by omega))
      try first | (have d90 : decide (z≤90) = true:=decide_eq_true (by omega)) | (have d90 : decide (z≤90) = false:=decide_eq_false (by omega))
      try first | (have d97 : decide (97≤z) = true:=decide_eq_true (by omega)) | (have d97 : decide (97≤z) = false:=decide_eq_false (by omega))
      try first | (have d122 : decide (z≤122) = true:=decide_eq_true (by omega)) | (have d122 : decide (z≤122) = false:=decide_eq_false (by omega))
      try first | (have d48 : decide (48≤z) = true:=decide_eq_true (by omega)) | (have d48 : decide (48≤z) = false:=decide_eq_false (by omega))
      try first | (have d57 : decide (z≤57) = true:=decide_eq_true (by omega)) | (have d57 : decide (z≤57) = false:=decide_eq_false (by omega))
      try first | (have d95 : (z == 95) = true:=beq_iff_eq.2 (by omega)) | (have d95 : (z == 95) = false:=beq_eq_false_iff_ne.2 (by omega))
      go_wp2
      refine ⟨⟨0+1,by go_num,by omega,HV⟩,?_⟩
      simp [intOf];omega
    ·have HV : Hid (nameL l = false):=Lib.hid (HE.out (by rw [HN.out,if_pos rfl];exact HLF.out (by omega)))
     clear HLT HLF HPT HPF HN HE
     rcases hq with hq | ⟨hq,hq'⟩ | hq
     all_goals
      try first | (have d65 : decide (65≤z) = true:=decide_eq_true (by omega)) | (have d65 : decide (65≤z) = false:=decide_eq_false (by omega))
      try first | (have d90 : decide (z≤90) = true:=decide_eq_true (by omega)) | (have d90 : decide (z≤90) = false:=decide_eq_false (by omega))
      try first | (have d97 : decide (97≤z) = true:=decide_eq_true (by omega)) | (have d97 : decide (97≤z) = false:=decide_eq_false (by omega))
      try first | (have d122 : decide (z≤122) = true:=decide_eq_true (by omega)) | (have d122 : decide (z≤122) = false:=decide_eq_false (by omega))
      try first | (have d48 : decide (48≤z) = true:=decide_eq_true (by omega)) | (have d48 : decide (48≤z) = false:=decide_eq_false (by omega))
      try first | (have d57 : decide (z≤57) = true:=decide_eq_true (by omega)) | (have d57 : decide (z≤57) = false:=decide_eq_false (by omega))
      try first | (have d95 : (z == 95) = true:=beq_iff_eq.2 (by omega)) | (have d95 : (z == 95) = false:=beq_eq_false_iff_ne.2 (by omega))
      go_wp2
      go_ret
      exact ⟨by rw [HV.out];rfl,hbw⟩
   ·have hk0 : ((k : Int) == 0) = false:=beq_eq_false_iff_ne.2 (by omega)
    rcases (by omega : (65≤z∧z≤90)∨(97≤z∧z≤122)∨(48≤z∧z≤57)∨z = 95∨(z < 48∨(57 < z∧z < 65)∨(90 < z∧z < 95)∨z = 96∨122 < z)) with ⟨hq,hq'⟩ | ⟨hq,hq'⟩ | ⟨hq,hq'⟩ | hq | hq
    iterate 4
     ·have HV : Hid (nameU (l.take (k+1)) = true):=Lib.hid (by rw [HN.out,if_neg (by omega)];first | exact (HLT.out (by omega)).2 | exact HPT.out (by omega))
      clear HLT HLF HPT HPF HN HE
      try first | (have d65 : decide (65≤z) = true:=decide_eq_true (by omega)) | (have d65 : decide (65≤z) = false:=decide_eq_false (by omega))
      try first | (have d90 : decide (z≤90) = true:=decide_eq_true (by omega)) | (have d90 : decide (z≤90) = false:=decide_eq_false (by omega))
      try first | (have d97 : decide (97≤z) = true:=decide_eq_true (by omega)) | (have d97 : decide (97≤z) = false:=decide_eq_false (by omega))
      try first | (have d122 : decide (z≤122) = true:=decide_eq_true (by omega)) | (have d122 : decide (z≤122) = false:=decide_eq_false (by omega))
      try first | (have d48 : decide (48≤z) = true:=decide_eq_true (by omega)) | (have d48 : decide (48≤z) = false:=decide_eq_false (by omega))
      try first | (have d57 : decide (z≤57) = true:=decide_eq_true (by omega)) | (have d57 : decide (z≤57) = false:=decide_eq_false (by omega))
      try first | (have d95 : (z == 95) = true:=beq_iff_eq.2 (by omega)) | (have d95 : (z == 95) = false:=beq_eq_false_iff_ne.2 (by omega))
      go_wp2
      refine ⟨⟨k+1,by go_num,by omega,HV⟩,?_⟩
      simp [intOf];omega
    ·have HV : Hid (nameL l = false):=Lib.hid (HE.out (by rw [HN.out,if_neg (by omega)];exact HPF.out (by omega)))
     clear HLT HLF HPT HPF HN HE
     rcases hq with hq | ⟨hq,hq'⟩ | ⟨hq,hq'⟩ | hq | hq
     all_goals
      try first | (have d65 : decide (65≤z) = true:=decide_eq_true (by omega)) | (have d65 : decide (65≤z) = false:=decide_eq_false (by omega))
      try first | (have d90 : decide (z≤90) = true:=decide_eq_true (by omega)) | (have d90 : decide (z≤90) = false:=decide_eq_false (by omega))
      try first | (have d97 : decide (97≤z) = true:=decide_eq_true (by omega)) | (have d97 : decide (97≤z) = false:=decide_eq_false (by omega))
      try first | (have d122 : decide (z≤122) = true:=decide_eq_true (by omega)) | (have d122 : decide (z≤122) = false:=decide_eq_false (by omega))
      try first | (have d48 : decide (48≤z) = true:=decide_eq_true (by omega)) | (have d48 : decide (48≤z) = false:=decide_eq_false (by omega))
      try first | (have d57 : decide (z≤57) = true:=decide_eq_true (by omega)) | (have d57 : decide (z≤57) = false:=decide_eq_false (by omega))
      try first | (have d95 : (z == 95) = true:=beq_iff_eq.2 (by omega)) | (have d95 : (z == 95) = false:=beq_eq_false_iff_ne.2 (by omega))
      go_wp2
      go_ret
      exact ⟨by rw [HV.out];rfl,hbw⟩
  ·have HE : Hid (nameL l = decide (1≤l.length∧l.length≤32)):=Lib.hid (by rw [nameL_eq,show nameU l = true by have:=Hm.out;rwa [List.take_of_length_le (by omega)] at this,Bool.true_and])
   rcases (by omega : l.length = 0∨(1≤l.length∧l.length≤32)∨32 < l.length) with h | ⟨h,h'⟩ | h
   all_goals
    go_wp2
    go_ret
    exact ⟨ret_bool (by rw [HE.out];first | exact (decide_eq_false (by omega)).symm | exact (decide_eq_true (by omega)).symm | (rw [decide_eq_decide];omega)),hbw⟩
end Go.Proofs.YtdngkienloligaaGreatDoor
/- -/
namespace Go.Proofs.YtdngkienloligaaGreatDoor
open Go.RowKit Go.Maps
theorem info_cloneS : (Tryz.prog.info? 9).map (fun i=>(i.zero,i.size,i.bytes)) = some (some (.string ByteArray.empty),1,16):=by kernel_rfl
theorem info_cloneD : (Tryz.prog.info? 137).map (fun i=>(i.zero,i.size,i.bytes)) = some (some (.agg #[.int .i32 0,.int .i32 0,.int .i64 0]),3,16):=by kernel_rfl
theorem Rd.nextR {w : World} {A : Option Addr} {x : Int × Int} {l : List (Int × Int)} {b off : Nat} (h : Rd w 2 A ((x :: l).map encR)) (hA : A = some ⟨b,off,none⟩) : Rd w 2 (some ⟨b,off+2,none⟩) (l.map encR):=by
 intro hn
 obtain ⟨b',off',e,hc⟩:=h (by simp)
 rw [hA] at e;injection e with e;injection e with e1 e2 _
 subst e1;subst e2
 refine ⟨b,off+2,rfl,fun k j y u hy hu=>?_⟩
 have:=hc (k+1) j y u (by simpa using hy) hu
 rw [show off+(k+1)*2+j = off+2+k*2+j by omega] at this
 exact this
theorem Rd.nextC {w : World} {x : Int × Int} {l : List (Int × Int)} {b off c : Nat} (h : Rd w 2 (some ⟨b,off,none⟩) ((x :: l).map encR)) (hc : l.length+1≤c) : Rd w 2 (if c = 1 then some ⟨b,off,none⟩ else some ⟨b,off+2,none⟩) (l.map encR):=by
 by_cases e : c = 1
 ·have : l = []:=List.eq_nil_of_length_eq_zero (by omega)
  subst this;exact Rd.nil_ _ _ _
 ·rw [if_neg e];exact h.nextR rfl
set_option maxRecDepth 100000 in
set_option maxHeartbeats 2000000 in
theorem wmeet_any (A B : Option Addr) (n c m e : Nat) (l q : List (Int × Int)) (w : World) (hA : Rd w 2 A (l.map encR)) (hB : Rd w 2 B (q.map encR)) (hl : l.length = n) (hq : q.length = m) (hn : n≤4000000) (hm : m≤4000000) (hc : n≤c) (he : m≤e) (h1 : Nf l) (h2 : Nf q) :
  Calls Tryz.prog 218 #[.slice A n c,.slice B m e] w fun e w'=>e = .returned (.bool (meetB l q))∧∃ k,w' = w.drewN k:=by
 have H1:=Lib.hid h1
 have H2:=Lib.hid h2
 have Hl:=Lib.hid hl
 have Hq:=Lib.hid hq
 clear h1 h2
 go_enter Tryz.func218,Tryz.ntmps218
 go_wp2
 go_loopw [0,1] (fun u v wr=>∃ (i j k : Nat) (A1 B1 : Option Addr) (c1 e1 : Nat),u = .slice A1 (n - i) c1∧v = .slice B1 (m - j) e1∧n - i≤c1∧m - j≤e1∧Rd w 2 A1 ((l.drop i).map encR)∧Rd w 2 B1 ((q.drop j).map encR)∧i≤n∧j≤m∧Hid (MeetAt l q i j)∧wr = w.drewN k) (fun u v _=>(match u with | .slice _ n _=>n | _=>0)+(match v with | .slice _ n _=>n | _=>0))
 case atStart=>exact ⟨0,0,0,A,B,c,e,rfl,rfl,hc,he,by rw [List.drop_zero];exact hA,by rw [List.drop_zero];exact hB,by omega,by omega,meetAt_first l q,rfl⟩
 case round =>
  obtain ⟨i,j,k,A1,B1,c1,e1,rfl,rfl,hc1,he1,hA1,hB1,hi,hj,HM,rfl⟩:=hrel
  by_cases hlt : i < n∧j < m
  ·obtain ⟨hin,hjm⟩:=hlt
   obtain ⟨x,Hx⟩ : ∃ x,Hid (l[i]? = some x):=⟨_,Lib.hid (List.getElem?_eq_getElem (show i < l.length by have:=Hl.out;omega))⟩
   obtain ⟨y,Hy⟩ : ∃ y,Hid (q[j]? = some y):=⟨_,Lib.hid (List.getElem?_eq_getElem (show j < q.length by have:=Hq.out;omega))⟩
   have hA2 : Rd w 2 A1 ((x :: l.drop (i+1)).map encR):=by rw [← drop_at Hx.out];exact hA1
   have hB2 : Rd w 2 B1 ((y :: q.drop (j+1)).map encR):=by rw [← drop_at Hy.out];exact hB1
   obtain ⟨b,off,rfl,hcx⟩:=hA2 (by simp)
   obtain ⟨b',off',rfl,hcy⟩:=hB2 (by simp)
   have x1:=hcx 0 0 (encR x) (.int .i32 x.1) rfl rfl
   have x2:=hcx 0 1 (encR x) (.int .i32 x.2) rfl rfl
   have y1:=hcy 0 0 (encR y) (.int .i32 y.1) rfl rfl
   have y2:=hcy 0 1 (encR y) (.int .i32 y.2) rfl rfl
   simp only [Nat.zero_mul,Nat.add_zero] at x1 x2 y1 y2
   have HA3:=Lib.hid (hA2.nextC (c:=c1) (by have:=Hl.out;rw [List.length_drop];omega))
   have HB3:=Lib.hid (hB2.nextC (c:=e1) (by have:=Hq.out;rw [List.length_drop];omega))
   have HA2:=Lib.hid hA1
   have HB2:=Lib.hid hB1
   have HL:=Lib.hid (fun h=>meetAt_left HM.out H2.out Hx.out Hy.out h)
   have HR:=Lib.hid (fun h=>meetAt_right HM.out H1.out Hx.out Hy.out h)
   have HH:=Lib.hid (fun h h'=>meetAt_here HM.out Hx.out Hy.out h h')
   clear hcx hcy hA1 hB1 hA2 hB2
   have HD1:=Lib.hid (drop_at Hx.out)
   have HD2:=Lib.hid (drop_at Hy.out)
   by_cases hxy : x.2 < y.1
   ·go_wp2_with fail
    go_quiet (fail)
    go_wp2
    go_roundw
    case rel=>exact ⟨i+1,j,_,_,_,c1 - 1,e1,by rw [show n - (i+1) = n - i - 1 by omega],rfl,by omega,he1,HA3.out,HB2.out,by omega,by omega,Lib.hid (HL.out hxy),rfl⟩
    case measure=>simp only [];omega
   ·by_cases hyx : y.2 < x.1
    ·go_wp2_with fail
     go_quiet (fail)
     go_wp2_with fail
     go_quiet (fail)
     go_wp2
     go_roundw
     case rel=>exact ⟨i,j+1,_,_,_,c1,e1 - 1,rfl,by rw [show m - (j+1) = m - j - 1 by omega],hc1,by omega,HA2.out,HB3.out,by omega,by omega,Lib.hid (HR.out hyx),rfl⟩
     case measure=>simp only [];omega
    ·have HE:=Lib.hid (HH.out hxy hyx)
     go_wp2_with fail
     go_quiet (fail)
     go_wp2_with fail
     go_quiet (fail)
     go_wp2
     go_ret
     exact ⟨by rw [HE.out];rfl,_,by rw [World.drewN_drewN,World.drewN_drewN]⟩
  ·have HE:=Lib.hid (meetAt_end HM.out (by have:=Hl.out;have:=Hq.out;omega))
   rcases (by omega : ¬ i < n∨(i < n∧¬ j < m)) with h | ⟨h,h'⟩
   all_goals
    go_wp2
    go_ret
    exact ⟨by rw [HE.out];rfl,k,rfl⟩
def numV : Except Int Nat→Value
 | .ok c=>.tuple #[.int .i64 c,.int .i64 0]
 | .error x=>.tuple #[.int .i64 0,.int .i64 x]
set_option maxRecDepth 100000 in
set_option maxHeartbeats 1000000 in
theorem wnumber_any (p bm nm nn cn ns cs : Nat) (An As : Option Addr) (v3 : Value) (d : DbP) (D : DataW Unit) (n : List UInt8) (w : World) (hp : Blk w p 141 #[.slice An nn cn,.map (some bm),.slice As ns cs,v3])
  (hm : w.ownsMap Tryz.prog 9 (plainElem (H:=Unit) Tryz.prog 3) bm nm D) (hD : MapIs D d.names) (hl : d.names.length = nn) (hd : d.names.Nodup) (hf : nn≤64) (hn : n.length≤1000000) :
  Calls Tryz.prog 217 #[.pointer (some ⟨p,0,none⟩),.string (bytesOf n)] w fun e w'=>e = .returned (numV (nbrP d n))∧w' = w:=by
 have c0:=hp.cell 0
 have c1:=hp.cell 1
 simp at c0 c1
 have HL:=Lib.hid (hD.look hd n)
 have HK:=Lib.hid (keyS hn)
 have HN : Hid (nbrP d n = match d.names.idxOf? n with | some c=>.ok c | none=>if 64≤d.names.length then .error 6 else .ok d.names.length):=rfl
 cases hq : d.names.idxOf? n with
 | some c =>
  have HV : Hid (Maps.has D (.string n) = true):=Lib.hid (by rw [HL.out.2,hq];rfl)
  have HA : Hid (D.atKey (.string n) (.lit (.int .i64 0)) = .lit (.int .i64 (c : Int))):=Lib.hid (by rw [HL.out.1,hq];rfl)
  have HR : Hid (nbrP d n = .ok c):=Lib.hid (by rw [HN.out,hq])
  clear HL HN hq
  go_enter Tryz.func217,Tryz.ntmps217
  go_wp2_with (at_lookup;refine wpList_lookup_own_ok_int _ rfl _ _ 138 rfl 9 3 .i64 keyedS Tryz.underlying138 Tryz.underlying3 (zeroI _) bm nm D rfl hm _ (.string n) rfl HK.out ?_;intro z hz hw;rw [HA.out] at hz;injection hz with hz;injection hz with _ hz;subst hz;rw [HV.out])
  go_ret2
  exact ⟨by rw [HR.out];rfl,rfl⟩
 | none =>
  have HV : Hid (Maps.has D (.string n) = false):=Lib.hid (by rw [HL.out.2,hq];rfl)
  have HR : Hid (nbrP d n = if 64≤nn then .error 6 else .ok nn):=Lib.hid (by rw [HN.out,hq,hl])
  clear HL HN hq
  by_cases h64 : nn = 64
  ·have HR' : Hid (nbrP d n = .error 6):=Lib.hid (by rw [HR.out,if_pos (by omega)])
   go_enter Tryz.func217,Tryz.ntmps217
   go_wp2_with (at_lookup;refine wpList_lookup_own_ok_int _ rfl _ _ 138 rfl 9 3 .i64 keyedS Tryz.underlying138 Tryz.underlying3 (zeroI _) bm nm D rfl hm _ (.string n) rfl HK.out ?_;intro z hz hw;clear hz;rw [HV.out])
   go_ret2
   exact ⟨by rw [HR'.out];rfl,rfl⟩
  ·have HR' : Hid (nbrP d n = .ok nn):=Lib.hid (by rw [HR.out,if_neg (by omega)])
   have he : ((nn : Int) == 64) = false:=beq_eq_false_iff_ne.2 (by omega)
   go_enter Tryz.func217,Tryz.ntmps217
   go_wp2_with (at_lookup;refine wpList_lookup_own_ok_int _ rfl _ _ 138 rfl 9 3 .i64 keyedS Tryz.underlying138 Tryz.underlying3 (zeroI _) bm nm D rfl hm _ (.string n) rfl HK.out ?_;intro z hz hw;clear hz;rw [HV.out])
   go_ret2
   exact ⟨by rw [HR'.out];rfl,rfl⟩
end Go.Proofs.YtdngkienloligaaGreatDoor
/- -/
namespace Go.Proofs.YtdngkienloligaaGreatDoor
open Go.RowKit
theorem rest_drop (s : ByteArray) (a : Nat) : (s.extract a s.size).data.toList = s.data.toList.drop a:=rest_extract s a
theorem take_extract (s : ByteArray) (a : Nat) : (s.extract 0 a).data.toList = s.data.toList.take a:=by rw [Lib.extract_data];simp
theorem empty_of {s : ByteArray} (h : s.size = 0) : s = ⟨#[]⟩:=by
 apply ByteArray.ext
 exact Array.eq_empty_of_size_eq_zero h
theorem get_list {s : ByteArray} {p : Nat} (h : p < s.size) : s.data.toList[p]? = some (s[p]'h):=List.getElem?_eq_getElem (by simpa using h)
set_option maxRecDepth 100000 in
set_option maxHeartbeats 1000000 in
theorem wquoted_any (s : ByteArray) (w : World) (hT : Tabs w) (hs : s.size ≤ 1000000) :
    Calls Tryz.prog 246 #[.string s] w fun e w' => e = .returned (.int .i64 ((qtL s.data.toList).getD 0 : Nat)) ∧ Below w.heap.size w w' := by
  rcases Nat.eq_zero_or_pos s.size with h0 | h0
  · obtain rfl := empty_of h0
    go_enter Tryz.func246, Tryz.ntmps246
    go_wp2
    go_ret
    exact ⟨rfl, Below.refl _ _⟩
  · have e0 := notEmpty h0
    have hix := index_at s 0 0 rfl h0
    by_cases hq : s[0]'h0 = 39
    · have HD := Lib.hid (lDecode_any s 1 w hT (by omega))
      obtain ⟨hb1, hb2, hb3⟩ := runeAt_bd s 1 (by omega)
      have HN := Lib.hid (@qt_zero s)
      have HO := Lib.hid (@qt_open s)
      have HG := Lib.hid (@qt_ok s h0 hq)
      generalize (runeAt s 1).2 = n at HD HN HO HG hb1 hb2
      generalize (runeAt s 1).1 = r at HD hb3
      have hq0 : (((s[0]'h0).toNat : Int) != 39) = false := by rw [hq]; rfl
      rcases Nat.eq_zero_or_pos n with hn | hn
      · have HE := Lib.hid (HN.out hn)
        subst hn
        go_enter Tryz.func246, Tryz.ntmps246
        go_wp2_with (go_at_call 98; refine HD.out.mono ?_; rintro e w2 ⟨rfl, hbw⟩)
        go_ret
        exact ⟨by rw [HE.out]; rfl, hbw⟩
      · have hn0 : ((n : Int) == 0) = false := beq_eq_false_iff_ne.2 (by omega)
        by_cases hp : n + 1 < s.size
        · have hix2 := index_at s ((n : Int) + 1) (n + 1) (by omega) hp
          have hd : decide ((s.size : Int) < (n : Int) + 2) = false := decide_eq_false (by omega)
          by_cases hq2 : s[n + 1]'hp = 39
          · have HE := Lib.hid (HG.out (by omega) (by rw [get_list hp, hq2]))
            have hq3 : (((s[n + 1]'hp).toNat : Int) != 39) = false := by rw [hq2]; rfl
            go_enter Tryz.func246, Tryz.ntmps246
            go_wp2_with (go_at_call 98; refine HD.out.mono ?_; rintro e w2 ⟨rfl, hbw⟩)
            go_ret
            exact ⟨by rw [HE.out]; rfl, hbw⟩
          · have HE := Lib.hid (HO.out (by rw [get_list hp]; simpa using hq2))
            have hq3 : (((s[n + 1]'hp).toNat : Int) != 39) = true := by
              rw [bne_iff_ne]; intro e
              exact hq2 (UInt8.toNat_inj.1 (by have : (s[n + 1]'hp).toNat = 39 := by omega
                                               rw [this]; rfl))
            go_enter Tryz.func246, Tryz.ntmps246
            go_wp2_with (go_at_call 98; refine HD.out.mono ?_; rintro e w2 ⟨rfl, hbw⟩)
            go_ret
            exact ⟨by rw [HE.out]; rfl, hbw⟩
        · have hd : decide ((s.size : Int) < (n : Int) + 2) = true := decide_eq_true (by omega)
          have HE := Lib.hid (HO.out (by rw [List.getElem?_eq_none (by rw [size_data]; omega)]; simp))
          go_enter Tryz.func246, Tryz.ntmps246
          go_wp2_with (go_at_call 98; refine HD.out.mono ?_; rintro e w2 ⟨rfl, hbw⟩)
          go_ret
          exact ⟨by rw [HE.out]; rfl, hbw⟩
    · have HE := Lib.hid (qt_no (s := s) (fun _ => hq))
      have hq3 : (((s[0]'h0).toNat : Int) != 39) = true := by
        rw [bne_iff_ne]; intro e
        exact hq (UInt8.toNat_inj.1 (by have : (s[0]'h0).toNat = 39 := by omega
                                        rw [this]; rfl))
      go_enter Tryz.func246, Tryz.ntmps246
      go_wp2
      go_ret
      exact ⟨by rw [HE.out]; rfl, Below.refl _ _⟩
set_option maxRecDepth 100000 in
set_option maxHeartbeats 1000000 in
theorem wfind_any (s : ByteArray) (c : UInt8) (z : Int) (hz : z = (c.toNat : Int)) (w : World) (hT : Tabs w) (hs : s.size≤1000000) :
  Calls Tryz.prog 212 #[.string s,.int .u8 z] w fun e w'=>e = .returned (.int .i64 (fv (findP c s.data.toList)))∧Below w.heap.size w w':=by
 have hsz : s.data.toList.length = s.size:=size_data s
 have Hsz:=Lib.hid hsz
 have Hz:=Lib.hid hz
 clear hz
 go_enter Tryz.func212,Tryz.ntmps212
 go_wp2
 go_loopw [5] (fun v wr=>∃ i : Nat,v = .int .i64 i∧i≤s.size∧Hid (FindAt c s.data.toList i)∧Below w.heap.size w wr) (fun v _=>s.size - (intOf v).toNat)
 case atStart=>exact ⟨0,rfl,by omega,findAt_first _ _,Below.refl _ _⟩
 case round =>
  obtain ⟨i,rfl,hi,HF,hb⟩:=hrel
  by_cases hlt : i < s.size
  ·have HQ:=Lib.hid (wquoted_any (s.extract i s.size) wr (hT.below hb) (by rw [ByteArray.size_extract];omega))
   rw [rest_drop] at HQ
   have hix:=index_at s i i rfl hlt
   cases hq : qtL (s.data.toList.drop i) with
   | some k =>
    rw [hq] at HQ
    have hk:=qtL_some hq
    have hk3:=hk.1
    have hkl : i+k≤s.size:=by have:=hk.2.2.1;rw [List.length_drop,Hsz.out] at this;omega
    have HF':=Lib.hid (findAt_qt HF.out hq)
    have Hq:=Lib.hid hq
    clear hk hq
    go_wp2_with (go_at_call 246;refine HQ.out.mono ?_;rw [Option.getD_some];rintro e w2 ⟨rfl,hb2⟩)
    go_roundw
    case rel =>
     exact ⟨i+k,by go_num,hkl,HF',below_step hb hb2 hb.size⟩
    case measure=>simp [intOf];omega
   | none =>
    rw [hq] at HQ
    by_cases hc : s[i]'hlt = c
    ·have HE:=Lib.hid (findAt_hit HF.out (by rw [get_list hlt,hc]) hq)
     have hzz : (((s[i]'hlt).toNat : Int) == z) = true:=by rw [hc,Hz.out];simp
     clear hq hc
     go_wp2_with (go_at_call 246;refine HQ.out.mono ?_;rw [Option.getD_none];rintro e w2 ⟨rfl,hb2⟩)
     go_ret
     exact ⟨by rw [HE.out];rfl,below_step hb hb2 hb.size⟩
    ·have HF':=Lib.hid (findAt_byte HF.out (get_list hlt) hq hc)
     have hzz : (((s[i]'hlt).toNat : Int) == z) = false:=beq_eq_false_iff_ne.2 (fun e=>hc (UInt8.toNat_inj.1 (by have:=Hz.out;omega)))
     clear hq
     go_wp2_with (go_at_call 246;refine HQ.out.mono ?_;rw [Option.getD_none];rintro e w2 ⟨rfl,hb2⟩)
     go_roundw
     case rel =>
      exact ⟨i+1,by go_num,by omega,HF',below_step hb hb2 hb.size⟩
     case measure=>simp [intOf];omega
  ·have HE:=Lib.hid (findAt_end HF.out (by rw [Hsz.out];exact hlt))
   go_wp2
   go_ret
   exact ⟨by rw [HE.out];rfl,hb⟩
theorem zero256 : ∀ w,(zeroValue 234).run Tryz.prog w = .ok (.agg (Array.replicate 256 (.bool false))) w:=by intro w;kernel_rfl
theorem size256 : (Tryz.prog.info? 234).map (·.size) = some 256:=by kernel_rfl
theorem lTrim_any (s : ByteArray) (w : World) (hs : s.size≤1000000) :
  Calls Tryz.prog 213 #[.string s,.string ⟨#[32,9]⟩] w fun e w'=>e = .returned (.string (bytesOf (trimL s.data.toList)))∧Below w.heap.size w w':=by
 rcases Nat.eq_zero_or_pos s.size with h0 | h0
 ·have h:=Any.strings_Trim_empty Tryz.lays160 s ⟨#[32,9]⟩ w (.inl h0)
  obtain rfl:=empty_of h0
  refine h.mono ?_
  rintro e w' ⟨rfl,rfl⟩
  exact ⟨rfl,Below.refl _ _⟩
 ·have h:=Any.strings_Trim_set Tryz.lays160 zero256 size256 s ⟨#[32,9]⟩ w (show 2≤2 by omega) h0 (by omega) (show 2 < 4294967281 by omega) (fun j b hj=>by
   match j,hj with
   | 0,hj=>simp at hj;subst hj;decide
   | 1,hj=>simp at hj;subst hj;decide
   | j+2,hj=>simp at hj)
  refine h.mono ?_
  rintro e w' ⟨rfl,q,rfl⟩
  refine ⟨?_,below_drewN (((Below.refl _ _).alloc (Nat.le_refl _) _).alloc (by simp) _) _⟩
  rw [show (ByteArray.mk #[32,9]).data.toList = [32,9] from rfl,trimS_eq];rfl
set_option maxRecDepth 100000 in
set_option maxHeartbeats 1000000 in
theorem wline_any (s : ByteArray) (w : World) (hT : Tabs w) (hs : s.size≤1000000) :
  Calls Tryz.prog 176 #[.string s] w fun e w'=>e = .returned (.string (bytesOf (lineU s.data.toList)))∧Below w.heap.size w w':=by
 have HF:=Lib.hid (wfind_any s 35 35 rfl w hT hs)
 have hlt:=fun i h=>(List.getElem?_eq_some_iff.1 (findP_lt (c:=35) _ s.data.toList (Nat.le_refl _) i h)).1
 rw [size_data] at hlt
 have HU : Hid (lineU s.data.toList = trimL (s.data.toList.take ((findP 35 s.data.toList).getD s.data.toList.length))):=rfl
 cases hq : findP 35 s.data.toList with
 | none =>
  rw [hq] at HF HU
  rw [Option.getD_none,List.take_length] at HU
  clear hq hlt
  go_enter Tryz.func176,Tryz.ntmps176
  go_wp2_with (first | (go_at_call 212;refine HF.out.mono ?_;rw [show fv none = -1 from rfl];rintro e w2 ⟨rfl,hb2⟩) | (go_at_call 213;refine (lTrim_any s _ hs).mono ?_;rintro e w3 ⟨rfl,hb3⟩))
  go_ret
  exact ⟨by rw [HU.out];rfl,below_two hb2 hb3⟩
 | some i =>
  have hi:=hlt i hq
  rw [hq] at HF HU
  rw [Option.getD_some,← take_extract] at HU
  clear hq hlt
  go_enter Tryz.func176,Tryz.ntmps176
  go_wp2_with (first | (go_at_call 212;refine HF.out.mono ?_;rw [show fv (some i) = (i : Int) from rfl];rintro e w2 ⟨rfl,hb2⟩) | (go_at_call 213;refine (lTrim_any (s.extract 0 i) _ (by rw [ByteArray.size_extract];omega)).mono ?_;rintro e w3 ⟨rfl,hb3⟩))
  go_ret
  exact ⟨by rw [HU.out,take_extract];rfl,below_two hb2 hb3⟩
end Go.Proofs.YtdngkienloligaaGreatDoor
/- -/
namespace Go.Proofs.YtdngkienloligaaGreatDoor
open Go.RowKit Go.Maps
section
variable {w : World} {base p x : Nat} {An : Option Addr} {nn cn bm nm : Nat} {D : DataW Unit} {As : Option Addr} {ns cs : Nat} {xs : List (Option Addr × Nat × Nat)} {N : List (List UInt8)} {S : List (List (Int × Int))}
theorem DbX.lenN (h : DbX w base p x An nn cn bm nm D As ns cs xs N S) : N.length = nn:=by simpa using h.hn.len
theorem DbX.lenS (h : DbX w base p x An nn cn bm nm D As ns cs xs N S) : xs.length = ns∧S.length = ns:=by
 have:=h.hs.len;rw [List.length_map] at this
 exact ⟨this,by rw [← h.hx.len];exact this⟩
theorem types_ne : (9 : TypeId) ≠ 186∧(9 : TypeId) ≠ 141∧(186 : TypeId) ≠ 141∧(9 : TypeId) ≠ 211∧(186 : TypeId) ≠ 211∧(141 : TypeId) ≠ 211:=by decide
def KeepR (base : Nat) (w w' : World) : Prop:=∀ (g : Nat) (cur : Array Value),base≤g→w.heap[g]? = some (.cells cur 211 (0,0))→w'.heap[g]? = w.heap[g]?
theorem KeepR.trans {base : Nat} {a b c : World} (h : KeepR base a b) (k : KeepR base b c) : KeepR base a c:=fun g cur hg e=>(k g cur hg ((h g cur hg e).trans e)).trans (h g cur hg e)
theorem KeepR.grown {base : Nat} {w w' : World} {row : Option Nat} (hg : w.grownBy w' row) (hr : ∀ g (q : Array Value),row = some g→w.heap[g]? ≠ some (.cells q 211 (0,0))) : KeepR base w w':=fun g cur _ e=>hg.block g (Array.getElem?_eq_some_iff.1 e).1 fun k=>hr g cur k.symm e
theorem KeepR.setCell {base : Nat} {w : World} {q : Addr} (hq : ∀ r : Array Value,w.heap[q.block]? ≠ some (.cells r 211 (0,0))) (u : Value) : KeepR base w (w.setCell q u):=fun g cur _ e=>Below.heap_setCell w q u g fun k=>hq cur (by rw [← k];exact e)
theorem Own.keepR {base b : Nat} {w w' : World} {A : Option Addr} {n c : Nat} {cs : List (List Value)} (h : Own w b 211 2 A n c cs) (k : KeepR base w w') (hb : base≤b) : Own w' b 211 2 A n c cs:=by
 refine h.keep fun a ha=>?_
 rcases h.2.2.2 with ⟨h0,_⟩ | ⟨g1,cap1,cur1,hv1,hg,hh1,_⟩
 ·injection h0 with h0;rw [h0] at ha;cases ha
 ·injection hv1 with hv1;rw [hv1] at ha;injection ha with ha;subst ha
  exact k g1 cur1 (by omega) hh1
theorem DbX.mapped {w1 : World} (h : DbX w base p x An nn cn bm nm D As ns cs xs N S) (hg : w.grownBy w1 (some bm)) :
  Blk w1 p 141 #[.slice An nn cn,.map (some bm),.slice As ns cs,.slice none 0 0]∧Own w1 base 9 1 An nn cn (N.map encNm)∧Own w1 base 186 1 As ns cs (xs.map encSl)∧Sets w1 base xs S :=
 ⟨h.blk.grown hg (fun e=>h.blk.offMap h.hm (by injection e)),h.hn.grown hg (fun a ha e=>h.hn.offMap h.hm a ha (by injection e)),h.hs.grown hg (fun a ha e=>h.hs.offMap h.hm a ha (by injection e)),
  h.hx.grown hg (fun g q e=>by injection e with e;subst e;exact map_not_R h.hm q)⟩
theorem DbX.named {w1 w3 : World} {o : Obj} {n : List UInt8} {k : Int} {A3 : Option Addr} {c3 : Nat} (h : DbX w base p x An nn cn bm nm D As ns cs xs N S) (hk : k = N.length) (hown : w1.ownsMap Tryz.prog 9 (plainElem (H:=Unit) Tryz.prog 3) bm (nm+1) (D.put (.string n) (.lit (.int .i64 k))))
  (hg1 : w.grownBy w1 (some bm)) (ho3 : Own w3 base 9 1 A3 (nn+1) c3 ((N++[n]).map encNm)) (hg3 : (w1.alloc o).grownBy w3 (An.map (·.block))) (hA3 : A3 = An∨A3 = some ⟨(w1.alloc o).heap.size,0,none⟩) (hx : x < w.heap.size) (hB : base≤w.heap.size) :
  Blk w3 p 141 #[.slice An nn cn,.map (some bm),.slice As ns cs,.slice none 0 0]∧DbX (w3.setCell ⟨p,0,none⟩ (.slice A3 (nn+1) c3)) base p x A3 (nn+1) c3 bm (nm+1) (D.put (.string n) (.lit (.int .i64 k))) As ns cs xs (N++[n]) S ∧
   KX base x w (w3.setCell ⟨p,0,none⟩ (.slice A3 (nn+1) c3))∧KeepR base w (w3.setCell ⟨p,0,none⟩ (.slice A3 (nn+1) c3)):=by
 obtain ⟨t1,t2,t3,t4,t5,t6⟩:=types_ne
 obtain ⟨b1,n1,s1,x1⟩:=h.mapped hg1
 have hg:=grown_alloc hg3
 have hpA : ∀ a,An = some a→a.block ≠ p:=n1.off b1 t2
 have b3 : Blk w3 p 141 #[.slice An nn cn,.map (some bm),.slice As ns cs,.slice none 0 0]:=b1.grown hg (fun e=>by cases An with | none=>cases e | some a=>simp at e;exact hpA a rfl e.symm)
 have s3 : Own w3 base 186 1 As ns cs (xs.map encSl):=s1.grown hg (fun a ha e=>by cases An with | none=>cases e | some b=>simp at e;exact n1.apart s1 t1 b a rfl ha e.symm)
 have x3 : Sets w3 base xs S:=x1.grown hg (fun g q e=>own_not_R n1 t4 g q e)
 have m3:=map_kept hown hg (fun e=>by cases An with | none=>cases e | some a=>simp at e;exact n1.offMap hown a rfl e.symm)
 have hsz1:=hg1.size
 have hxA3 : ∀ a,A3 = some a→a.block ≠ x:=fun a ha=>by
  rcases hA3 with e | e
  ·exact h.xn a (by rw [← e];exact ha)
  ·rw [e] at ha;injection ha with ha;subst ha;simp;omega
 refine ⟨b3,⟨?_,h.pb,?_,?_,?_,h.bb,h.hD.put n hk,?_,?_,h.xp,h.xb,hxA3,h.xs_⟩,?_,?_⟩
 ·have:=b3.set_ 0 (.slice A3 (nn+1) c3)
  simpa using this
 ·exact ho3.setCell (fun a ha=>ho3.off b3 t2 a ha) _
 ·exact map_setCell m3 (fun e=>b3.offMap m3 e.symm) _
 ·have:=h.nle;omega
 ·exact s3.setCell (fun a ha=>s3.off b3 t3 a ha) _
 ·exact x3.setCell (blk_not_R b3 t6) _
 ·refine (KX.grown hg1 hB (fun k hk=>by injection hk with hk;subst hk;exact ⟨h.bb,fun e=>h.xb e.symm⟩)).trans ((KX.grown hg (by omega) (fun k hk=>?_)).trans (KX.setCell w3 h.pb (fun e=>h.xp e.symm) _))
  cases An with
  | none=>cases hk
  | some a=>simp at hk;subst hk;exact ⟨(n1.lt a rfl).1,h.xn a rfl⟩
 ·exact (KeepR.grown hg1 (fun g q e=>by injection e with e;subst e;exact map_not_R h.hm q)).trans ((KeepR.grown hg (fun g q e=>own_not_R n1 t4 g q e)).trans (KeepR.setCell (blk_not_R b3 t6) _))
theorem DbX.moreSet {w3 : World} {o : Obj} {A3 : Option Addr} {c3 : Nat} (h : DbX w base p x An nn cn bm nm D As ns cs xs N S) (ho3 : Own w3 base 186 1 A3 (ns+1) c3 ((xs++[(none,0,0)]).map encSl))
  (hg3 : (w.alloc o).grownBy w3 (As.map (·.block))) (hA3 : A3 = As∨A3 = some ⟨(w.alloc o).heap.size,0,none⟩) (hx : x < w.heap.size) (hB : base≤w.heap.size) :
  Blk w3 p 141 #[.slice An nn cn,.map (some bm),.slice As ns cs,.slice none 0 0]∧DbX (w3.setCell ⟨p,2,none⟩ (.slice A3 (ns+1) c3)) base p x An nn cn bm nm D A3 (ns+1) c3 (xs++[(none,0,0)]) N (S++[[]]) ∧
   KX base x w (w3.setCell ⟨p,2,none⟩ (.slice A3 (ns+1) c3))∧KeepR base w (w3.setCell ⟨p,2,none⟩ (.slice A3 (ns+1) c3)):=by
 obtain ⟨t1,t2,t3,t4,t5,t6⟩:=types_ne
 have hg:=grown_alloc hg3
 have b3 : Blk w3 p 141 #[.slice An nn cn,.map (some bm),.slice As ns cs,.slice none 0 0]:=h.blk.grown hg (fun e=>by cases As with | none=>cases e | some a=>simp at e;exact h.hs.off h.blk t3 a rfl e.symm)
 have n3 : Own w3 base 9 1 An nn cn (N.map encNm):=h.hn.grown hg (fun a ha e=>by cases As with | none=>cases e | some b=>simp at e;exact h.hn.apart h.hs t1 a b ha rfl e)
 have x3 : Sets w3 base xs S:=h.hx.grown hg (fun g q e=>own_not_R h.hs t5 g q e)
 have m3:=map_kept h.hm hg (fun e=>by cases As with | none=>cases e | some a=>simp at e;exact h.hs.offMap h.hm a rfl e.symm)
 have hxA3 : ∀ a,A3 = some a→a.block ≠ x:=fun a ha=>by
  rcases hA3 with e | e
  ·exact h.xs_ a (by rw [← e];exact ha)
  ·rw [e] at ha;injection ha with ha;subst ha;simp;omega
 refine ⟨b3,⟨?_,h.pb,?_,?_,h.nle,h.bb,h.hD,?_,?_,h.xp,h.xb,h.xn,hxA3⟩,?_,?_⟩
 ·have:=b3.set_ 2 (.slice A3 (ns+1) c3)
  simpa using this
 ·exact n3.setCell (fun a ha=>n3.off b3 t2 a ha) _
 ·exact map_setCell m3 (fun e=>b3.offMap m3 e.symm) _
 ·exact ho3.setCell (fun a ha=>ho3.off b3 t3 a ha) _
 ·exact (x3.setCell (blk_not_R b3 t6) _).snoc (Own.nil_ _ _ _ _)
 ·refine (KX.grown hg hB (fun k hk=>?_)).trans (KX.setCell w3 h.pb (fun e=>h.xp e.symm) _)
  cases As with
  | none=>cases hk
  | some a=>simp at hk;subst hk;exact ⟨(h.hs.lt a rfl).1,h.xs_ a rfl⟩
 ·exact (KeepR.grown hg (fun g q e=>own_not_R h.hs t5 g q e)).trans (KeepR.setCell (blk_not_R b3 t6) _)
theorem Own.storedSl {w : World} {base : Nat} {e : TypeId} {g n c k : Nat} {xs : List (Option Addr × Nat × Nat)} (h : Own w base e 1 (some ⟨g,0,none⟩) n c (xs.map encSl)) (hk : k < xs.length) (y : Option Addr × Nat × Nat) :
  Own (w.setCell ⟨g,k,none⟩ (.slice y.1 y.2.1 y.2.2)) base e 1 (some ⟨g,0,none⟩) n c ((xs.set k y).map encSl):=by
 have h1:=h.stored (k:=k) (j:=0) (x:=encSl xs[k]) (by simp [hk]) (by omega) (.slice y.1 y.2.1 y.2.2)
 rw [Nat.mul_one,Nat.add_zero] at h1
 have e : (xs.map encSl).set k ((encSl xs[k]).set 0 (.slice y.1 y.2.1 y.2.2)) = (xs.set k y).map encSl:=by rw [List.map_set];rfl
 rw [e] at h1
 exact h1
theorem Own.cell' {w : World} {base n c g k : Nat} {e : TypeId} {A : Option Addr} {xs : List (Option Addr × Nat × Nat)} {y : Option Addr × Nat × Nat} (h : Own w base e 1 A n c (xs.map encSl)) (hA : A = some ⟨g,0,none⟩) (hy : xs[k]? = some y) : w.cell? ⟨g,k,none⟩ = some (.slice y.1 y.2.1 y.2.2):=by
 subst hA
 have:=h.cell (k:=k) (j:=0) (x:=encSl y) (u:=.slice y.1 y.2.1 y.2.2) (by rw [List.getElem?_map,hy];rfl) rfl
 simpa using this
theorem DbX.storeSet {g k b' : Nat} {y : Option Addr × Nat × Nat} {l : List (Int × Int)} (h : DbX w base p x An nn cn bm nm D (some ⟨g,0,none⟩) ns cs xs N S) (hk : k < ns) (ho : Own w b' 211 2 y.1 y.2.1 y.2.2 (l.map encR)) (hb : base≤b') :
  DbX (w.setCell ⟨g,k,none⟩ (.slice y.1 y.2.1 y.2.2)) base p x An nn cn bm nm D (some ⟨g,0,none⟩) ns cs (xs.set k y) N (S.set k l)∧KX base x w (w.setCell ⟨g,k,none⟩ (.slice y.1 y.2.1 y.2.2)):=by
 obtain ⟨t1,t2,t3,t4,t5,t6⟩:=types_ne
 have hgp : g ≠ p:=h.hs.off h.blk t3 _ rfl
 refine ⟨⟨h.blk.far (p:=⟨g,k,none⟩) (Ne.symm hgp) _,h.pb,?_,?_,h.nle,h.bb,h.hD,?_,?_,h.xp,h.xb,h.xn,h.xs_⟩,KX.setCell w (q:=⟨g,k,none⟩) (h.hs.lt _ rfl).1 (h.xs_ ⟨g,0,none⟩ rfl) _⟩
 ·exact h.hn.setCell (p:=⟨g,k,none⟩) (fun a ha e=>h.hn.apart h.hs t1 a ⟨g,0,none⟩ ha rfl e) _
 ·exact map_setCell h.hm (q:=⟨g,k,none⟩) (fun e=>h.hs.offMap h.hm ⟨g,0,none⟩ rfl e.symm) _
 ·exact h.hs.storedSl (by rw [h.lenS.1];exact hk) y
 ·refine Sets.set_ (h.hx.setCell (q:=⟨g,k,none⟩) (fun r=>own_not_R h.hs t5 g r rfl) _) ?_
  exact (ho.setCell (p:=⟨g,k,none⟩) (fun a ha e=>ho.apart h.hs (Ne.symm t5) a ⟨g,0,none⟩ ha rfl e) _).more hb
end
end Go.Proofs.YtdngkienloligaaGreatDoor
/- -/
namespace Go.Proofs.YtdngkienloligaaGreatDoor
open Go.RowKit
def ItemEnd (b : Nat) (s : ByteArray) (r : Except (Int × Nat) ((Int × Int) × Nat)) (e : Ending) (w' : World) : Prop :=
 match r with
 | .error x=>e = faultEnd x
 | .ok (x,q)=>e = .returned (.agg #[.int .i32 x.1,.int .i32 x.2])∧Rdr w' b s q
theorem ItemEnd.err {b : Nat} {s : ByteArray} {r : Except (Int × Nat) ((Int × Int) × Nat)} {x : Int × Nat} {w' : World} (h : r = .error x) : ItemEnd b s r (faultEnd x) w':=by rw [h];exact rfl
theorem ItemEnd.fine {b : Nat} {s : ByteArray} {r : Except (Int × Nat) ((Int × Int) × Nat)} {x y : Int} {q : Nat} {w' : World} (h : r = .ok ((x,y),q)) (hr : Rdr w' b s q) : ItemEnd b s r (.returned (.agg #[.int .i32 x,.int .i32 y])) w':=by rw [h];exact ⟨rfl,hr⟩
theorem Tabs.grown {w w' : World} {b a : Nat} {s : ByteArray} (h : Tabs w) (hr : Rdr w b s a) (hg : w.grownBy w' (some b)) : Tabs w':=by
 have h0:=hr.c0
 have n1 : 0 ≠ b:=fun e=>by subst e;have:=h.1 0 (by omega);rw [h0] at this;cases this
 have n2 : 1 ≠ b:=fun e=>by subst e;have:=(h.2 0 (by omega)).1;rw [show 2*0 = 0 from rfl,h0] at this;cases this
 exact ⟨fun c hc=>hg.cell (h.1 c hc) (fun e=>n1 (by simpa using e)),fun i hi=>⟨hg.cell (h.2 i hi).1 (fun e=>n2 (by simpa using e)),hg.cell (h.2 i hi).2 (fun e=>n2 (by simpa using e))⟩⟩
set_option maxRecDepth 100000 in
set_option maxHeartbeats 1000000 in
theorem item_any (s : ByteArray) (a b : Nat) (w : World) (hT : Tabs w) (hR : Rdr w b s a) (ha : a≤s.size) (hs : s.size≤1000000) :
  Calls Tryz.prog 255 #[.pointer (some ⟨b,0,none⟩)] w fun e w'=>w.grownBy w' (some b)∧ItemEnd b s (itemP s a) e w':=by
 have c0:=hR.c0
 have c1:=hR.c1
 have hlt : b < w.heap.size:=hR.lt
 have HR1:=Lib.hid (fun W hW hr=>rune_any s a b W hW hr ha hs)
 have Hunf : Hid (itemP s a = _):=Lib.hid (show itemP s a = (match runeP s a with
  | .error e=>.error e
  | .ok (lo,p) =>
   match (if (rest s p).head? = some 45 then runeP s (p+1) else .ok (lo,p)) with
   | .error e=>.error e
   | .ok (hi,q)=>if hi < lo then .error (20,a) else if (rest s q).head? ≠ none∧(rest s q).head? ≠ some 32 then .error (21,q) else .ok ((lo,hi),q)) from rfl)
 have Hok : Hid (∀ (q : Nat) (r : Int),runeP s a = .ok (r,q)→a < q∧q≤s.size∧0≤r∧r≤1114111):=Lib.hid (fun q r h=>runeP_ok h)
 have Hbox : Hid (∀ W : World,Rdr W b s a→Rdr (W.alloc (.cells #[.int .i32 0,.int .i32 0] 211)) b s a):=Lib.hid (fun W h=>Blk.alloc h _)
 generalize runeP s a = Q at HR1 Hunf Hok
 cases Q with
 | error x =>
  go_enter Tryz.func255,Tryz.ntmps255
  go_wp2_with fail
  refine (HR1.out _ (hT.below ((Below.refl _ _).alloc (Nat.le_refl _) _)) (Hbox.out _ hR)).mono ?_
  rintro e w2 ⟨hg,rfl⟩
  exact ⟨rfl,only_trans (only_alloc (only_refl _ _) _) hg,ItemEnd.err (x:=x) Hunf.out⟩
 | ok y =>
  obtain ⟨lo,p⟩:=y
  obtain ⟨hp1,hp2,hl0,hl1⟩:=Hok.out _ _ rfl
  clear Hok
  go_enter Tryz.func255,Tryz.ntmps255
  go_wp2_with fail
  refine (HR1.out _ (hT.below ((Below.refl _ _).alloc (Nat.le_refl _) _)) (Hbox.out _ hR)).mono ?_
  rintro e w2 ⟨hg,rfl,hr2⟩
  have hne : b ≠ w.heap.size:=by omega
  have hbox2 : Blk w2 w.heap.size 211 #[.int .i32 0,.int .i32 0]:=(Blk.new w 211 _).grown hg (by simp;omega)
  have hg2 : w.grownBy w2 (some b):=only_trans (only_alloc (only_refl _ _) _) hg
  have hT2 : Tabs w2:=hT.grown hR hg2
  clear hg c0 c1
  have r0 : w2.cell? ⟨w.heap.size,0,none⟩ = some (.int .i32 0):=hbox2.cell 0
  have r1 : w2.cell? ⟨w.heap.size,1,none⟩ = some (.int .i32 0):=hbox2.cell 1
  have q0:=hbox2.frozen 0
  have q1:=hbox2.frozen 1
  have c0:=hr2.c0
  have c1:=hr2.c1
  have f1:=hr2.f1
  by_cases hdash : (rest s p).head? = some 45
  ·have HI2 : Hid (itemP s a = (match runeP s (p+1) with
    | .error e=>.error e
    | .ok (hi,q)=>if hi < lo then .error (20,a) else if (rest s q).head? ≠ none∧(rest s q).head? ≠ some 32 then .error (21,q) else .ok ((lo,hi),q))):=Lib.hid (Hunf.out.trans (by simp only [if_pos hdash]))
   have hps : p < s.size:=by
    rcases Nat.lt_or_ge p s.size with h | h
    ·exact h
    ·rw [rest_none h] at hdash;simp at hdash
   have hdb : (((s[p]'hps).toNat : Int) == 45) = true:=by
    rw [rest_head hps] at hdash;injection hdash with e;rw [e];rfl
   have HR3:=Lib.hid (fun W hW hr=>rune_any s (p+1) b W hW hr (by omega) hs)
   have Hok2 : Hid (∀ (q : Nat) (r : Int),runeP s (p+1) = .ok (r,q)→p+1 < q∧q≤s.size∧0≤r∧r≤1114111):=Lib.hid (fun q r h=>runeP_ok h)
   clear hdash
   generalize runeP s (p+1) = Q2 at HI2 HR3 Hok2
   cases Q2 with
   | error x =>
    go_wp2_with fail
    go_quiet (fail)
    go_wp2_with fail
    have hg3 : w.grownBy ((w2.drewN nq).setCell ⟨b,1,none⟩ (.int .i64 ((p : Int)+1))) (some b):=only_setCell (only_drewN hg2 _) (.inl rfl) _
    refine (HR3.out _ (hT.grown hR hg3) ((hr2.drewN _).set' _ _ (by omega))).mono ?_
    rintro e w3 ⟨hg,rfl⟩
    exact ⟨rfl,only_trans hg3 hg,ItemEnd.err (x:=x) HI2.out⟩
   | ok y =>
    obtain ⟨hi,q⟩:=y
    obtain ⟨hq1,hq2,hh0,hh1⟩:=Hok2.out _ _ rfl
    clear Hok2
    have HI : Hid (itemP s a = if hi < lo then .error (20,a) else if (rest s q).head? ≠ none∧(rest s q).head? ≠ some 32 then .error (21,q) else .ok ((lo,hi),q)):=Lib.hid HI2.out
    clear HI2
    go_wp2_with fail
    go_quiet (fail)
    clear hdb
    go_wp2_with fail
    have hg3 : w.grownBy ((w2.drewN nq).setCell ⟨b,1,none⟩ (.int .i64 ((p : Int)+1))) (some b):=only_setCell (only_drewN hg2 _) (.inl rfl) _
    have hbx3 : Blk ((w2.drewN nq).setCell ⟨b,1,none⟩ (.int .i64 ((p : Int)+1))) w.heap.size 211 #[.int .i32 0,.int .i32 0]:=Blk.far (hbox2.drewN _) (fun e=>hne e.symm) _
    refine (HR3.out _ (hT.grown hR hg3) ((hr2.drewN _).set' _ _ (by omega))).mono ?_
    rintro e w3 ⟨hg,rfl,hr3⟩
    have hbx:=hbx3.grown hg (fun e=>hne (by simpa using e.symm))
    have hg4:=only_trans hg3 hg
    clear hg3 hg hbx3 hr2 hg2 hbox2 r0 r1 q0 q1 c0 c1 f1 hT2
    have hr2:=hr3
    have hg2:=hg4
    clear hr3 hg4
    have r0 : w3.cell? ⟨w.heap.size,0,none⟩ = some (.int .i32 0):=hbx.cell 0
    have r1 : w3.cell? ⟨w.heap.size,1,none⟩ = some (.int .i32 0):=hbx.cell 1
    have q0:=hbx.frozen 0
    have q1:=hbx.frozen 1
    have c0:=hr2.c0
    have c1:=hr2.c1
    by_cases hlo : hi < lo
    ·have HE : Hid (itemP s a = .error (20,a)):=Lib.hid (by rw [HI.out,if_pos hlo])
     go_wp2
     exact ⟨rfl,hg2,ItemEnd.err (x:=(20,a)) HE.out⟩
    ·have hlo' : lo≤hi:=by omega
     clear hlo
     by_cases hq : q < s.size
     ·by_cases hb32 : s[q]'hq = 32
      ·have HE : Hid (itemP s a = .ok ((lo,hi),q)):=Lib.hid (by rw [HI.out,if_neg (by omega),rest_head hq,hb32,if_neg (by simp)])
       have hqb : (((s[q]'hq).toNat : Int) != 32) = false:=by rw [hb32];rfl
       clear hb32
       go_wp2_with fail
       go_quiet (fail)
       go_wp2
       refine bodyPost_ret (v:=.agg #[.int .i32 lo,.int .i32 hi]) (by simp [results,Tryz.results255,go_sem,r0,r1]) rfl ⟨only_setCell (only_setCell (only_drewN hg2 _) (.inr (Nat.le_refl _)) _) (.inr (Nat.le_refl _)) _,ItemEnd.fine HE.out ?_⟩
       exact Blk.far (Blk.far (hr2.drewN _) hne _) hne _
      ·have HE : Hid (itemP s a = .error (21,q)):=Lib.hid (by rw [HI.out,if_neg (by omega),rest_head hq,if_pos ⟨by simp,by simpa using hb32⟩])
       have hqb : (((s[q]'hq).toNat : Int) != 32) = true:=byte_ne hb32
       clear hb32
       go_wp2_with fail
       go_quiet (fail)
       go_wp2
       exact ⟨rfl,only_drewN hg2 _,ItemEnd.err (x:=(21,q)) HE.out⟩
     ·have HE : Hid (itemP s a = .ok ((lo,hi),q)):=Lib.hid (by rw [HI.out,if_neg (by omega),rest_none (by omega),if_neg (by simp)])
      have hd : decide (q < s.size) = false:=decide_eq_false hq
      clear hq
      go_wp2_with fail
      go_quiet (fail)
      go_wp2
      refine bodyPost_ret (v:=.agg #[.int .i32 lo,.int .i32 hi]) (by simp [results,Tryz.results255,go_sem,r0,r1]) rfl ⟨only_setCell (only_setCell (only_drewN hg2 _) (.inr (Nat.le_refl _)) _) (.inr (Nat.le_refl _)) _,ItemEnd.fine HE.out ?_⟩
      exact Blk.far (Blk.far (hr2.drewN _) hne _) hne _
  ·have HI : Hid (itemP s a = if lo < lo then .error (20,a) else if (rest s p).head? ≠ none∧(rest s p).head? ≠ some 32 then .error (21,p) else .ok ((lo,lo),p)):=Lib.hid (Hunf.out.trans (by simp only [if_neg hdash]))
   by_cases hps : p < s.size
   ·have hdb : (((s[p]'hps).toNat : Int) == 45) = false:=by rw [beq_eq_false_iff_ne,← bne_iff_ne];exact byte_ne (fun e=>hdash (by rw [rest_head hps,e];rfl))
    clear hdash
    go_wp2_with fail
    go_quiet (fail)
    clear hdb
    have hg9:=only_drewN hg2 nq
    have hr9:=hr2.drewN nq
    by_cases hb32 : s[p]'hps = 32
    ·have HE : Hid (itemP s a = .ok ((lo,lo),p)):=Lib.hid (by rw [HI.out,if_neg (by omega),rest_head hps,hb32,if_neg (by simp)])
     have hpsb : (((s[p]'hps).toNat : Int) != 32) = false:=by rw [hb32];rfl
     clear hb32
     go_wp2_with fail
     go_quiet (fail)
     go_wp2
     refine bodyPost_ret (v:=.agg #[.int .i32 lo,.int .i32 lo]) (by simp [results,Tryz.results255,go_sem,r0,r1]) rfl ⟨only_setCell (only_setCell (only_drewN hg2 _) (.inr (Nat.le_refl _)) _) (.inr (Nat.le_refl _)) _,ItemEnd.fine HE.out ?_⟩
     exact Blk.far (Blk.far (hr2.drewN _) hne _) hne _
    ·have HE : Hid (itemP s a = .error (21,p)):=Lib.hid (by rw [HI.out,if_neg (by omega),rest_head hps,if_pos ⟨by simp,by simpa using hb32⟩])
     have hpsb : (((s[p]'hps).toNat : Int) != 32) = true:=byte_ne hb32
     clear hb32
     go_wp2_with fail
     go_quiet (fail)
     go_wp2
     exact ⟨rfl,only_drewN hg2 _,ItemEnd.err (x:=(21,p)) HE.out⟩
   ·have hd : decide (p < s.size) = false:=decide_eq_false hps
    have HE : Hid (itemP s a = .ok ((lo,lo),p)):=Lib.hid (by rw [HI.out,if_neg (by omega),rest_none (by omega),if_neg (by simp)])
    clear hdash hps
    go_wp2_with fail
    go_quiet (fail)
    go_wp2_with fail
    go_quiet (fail)
    go_wp2
    refine bodyPost_ret (v:=.agg #[.int .i32 lo,.int .i32 lo]) (by simp [results,Tryz.results255,go_sem,r0,r1]) rfl ⟨only_setCell (only_setCell (only_drewN hg2 _) (.inr (Nat.le_refl _)) _) (.inr (Nat.le_refl _)) _,ItemEnd.fine HE.out ?_⟩
    exact Blk.far (Blk.far (hr2.drewN _) hne _) hne _
end Go.Proofs.YtdngkienloligaaGreatDoor
/- -/
namespace Go.Proofs.YtdngkienloligaaGreatDoor
open Go.RowKit
attribute [local go_sem ↓] neqR eqlR
end Go.Proofs.YtdngkienloligaaGreatDoor
/- -/
namespace Go.Proofs.YtdngkienloligaaGreatDoor
open Go.RowKit Go.Sort
section
variable {α : Type} [Inhabited α] {enc : α→List Value} {k : Nat} {w : World} {base : Nat} {e : TypeId} {g n c : Nat} {d : Array α}
theorem own_holdsK (hk : ∀ x,(enc x).length = k) (hpos : 0 < k) (h : Own w base e k (some ⟨g,0,none⟩) n c (d.toList.map enc)) : HoldsK enc k w g 0 d:=by
 intro j hj
 rw [size_flatK] at hj
 have hq : j / k < d.size:=(Nat.div_lt_iff_lt_mul hpos).2 hj
 have hr : j % k < (enc d[j / k]!).length:=by rw [hk];exact Nat.mod_lt _ hpos
 refine ⟨?_,?_⟩
 ·rw [id,get_flatK enc k d j hj]
  have h1:=h.cell (k:=j / k) (j:=j % k) (x:=enc d[j / k]!) (u:=(enc d[j / k]!)[j % k]!) (by rw [List.getElem?_map];simp [hq]) (by rw [List.getElem?_eq_getElem hr,getElem!_pos (enc d[j / k]!) (j % k) hr])
  rw [show 0+j = j / k*k+j % k by rw [Nat.zero_add,Nat.div_add_mod']]
  exact h1
 ·exact h.frozen _
theorem flat_take (hk : ∀ x,(enc x).length = k) (hpos : 0 < k) {d' : Array α} {cur : Array Value} (hc : d'.size*k≤cur.size) :
  ((putCells id 0 (flatK enc k d') cur).toList.take (d'.size*k)) = (d'.toList.map enc).flatten:=by
 apply List.ext_getElem?
 intro t
 have hall : ∀ x ∈ d'.toList.map enc,x.length = k:=fun x hx=>by obtain ⟨y,_,rfl⟩:=List.mem_map.1 hx;exact hk y
 by_cases ht : t < d'.size*k
 ·have hq : t / k < d'.size:=(Nat.div_lt_iff_lt_mul hpos).2 ht
  have hr : t % k < (enc d'[t / k]!).length:=by rw [hk];exact Nat.mod_lt _ hpos
  have h1:=flatten_get hall (k:=t / k) (j:=t % k) (x:=enc d'[t / k]!) (u:=(enc d'[t / k]!)[t % k]!) (by rw [List.getElem?_map];simp [hq]) (by rw [List.getElem?_eq_getElem hr,getElem!_pos (enc d'[t / k]!) (t % k) hr])
  rw [Nat.div_add_mod'] at h1
  rw [h1,List.getElem?_take,if_pos ht,Array.getElem?_toList,putCells,Array.getElem?_mapIdx,Array.getElem?_eq_getElem (by omega)]
  have h2:=get_flatK enc k d' t ht
  simp only [Option.map_some,Nat.zero_le,true_and,Nat.zero_add,size_flatK,ht,if_true,id,Nat.sub_zero]
  rw [h2]
 ·rw [List.getElem?_take,if_neg ht,List.getElem?_eq_none]
  rw [flatten_len hall];simp;omega
theorem own_sorted (hk : ∀ x,(enc x).length = k) (hpos : 0 < k) (h : Own w base e k (some ⟨g,0,none⟩) n c (d.toList.map enc)) {d' : Array α} (hs : d'.size = d.size) (m : Nat) (os : Array Obj) :
  Own (sortWorldK enc k w g 0 m d' os) base e k (some ⟨g,0,none⟩) n c (d'.toList.map enc)∧w.grownBy (sortWorldK enc k w g 0 m d' os) (some g):=by
 have hn : d.size = n:=by have:=h.1;simpa using this
 rcases h.2.2.2 with ⟨h0,_⟩ | ⟨g',cap,cur,hv,hb,hh,h1,h2,h3,h4⟩
 ·cases h0
 ·injection hv with hA _ hc
  injection hA with hA
  injection hA with hA
  subst hA;subst hc
  have hlt : g < w.heap.size:=(Array.getElem?_eq_some_iff.1 hh).1
  refine ⟨⟨by simp [hs,hn],fun x hx=>by obtain ⟨y,_,rfl⟩:=List.mem_map.1 hx;exact hk y,?_,.inr ⟨g,c,putCells id 0 (flatK enc k d') cur,rfl,hb,?_,h1,h2,?_,?_⟩⟩,?_⟩
  ·rw [flatten_len (s:=k) (fun x hx=>by obtain ⟨y,_,rfl⟩:=List.mem_map.1 hx;exact hk y)];simp [hs,hn]
  ·show (grow _ os).heap[g]? = _
   rw [heap_grow_old _ _ (by simp [putRowK,putRow,mapBlock];exact hlt)]
   simp only [putRowK,putRow,mapBlock,Array.getElem?_modify,if_true]
   rw [show (Go.Sort.ahead w m).heap = w.heap from rfl,hh];rfl
  ·simp [putCells,h3]
  ·have:=flat_take (d':=d') (cur:=cur) hk hpos (by rw [h3,hs,hn];exact Nat.mul_le_mul_right k h1)
   rw [hs,hn] at this
   exact this
  ·refine ⟨rfl,rfl,rfl,by simp [sortWorldK,putRowK,putRow,mapBlock],fun i hi hne=>?_⟩
   show (grow _ os).heap[i]? = _
   rw [heap_grow_old _ _ (by simp [putRowK,putRow,mapBlock];exact hi)]
   simp only [putRowK,putRow,mapBlock,Array.getElem?_modify]
   rw [if_neg (fun e=>hne (by rw [e]))];rfl
end
end Go.Proofs.YtdngkienloligaaGreatDoor
/- -/
namespace Go.Proofs.YtdngkienloligaaGreatDoor
def runesGo (s : ByteArray) : Nat→Nat→List (Nat × Nat × Nat)
 | 0,_=>[]
 | f+1,a=>if a < s.size then ((Utf8.decode s a).1,a,a+(Utf8.decode s a).2) :: runesGo s f (a+(Utf8.decode s a).2) else []
def runesP (s : ByteArray) : List (Nat × Nat × Nat):=runesGo s s.size 0
theorem runesGo_end {s : ByteArray} {f a : Nat} (h : s.size≤a) : runesGo s f a = []:=by
 cases f with
 | zero=>rfl
 | succ f=>rw [runesGo,if_neg (by omega)]
theorem runesGo_step {s : ByteArray} {f a : Nat} (h : a < s.size) (hf : s.size≤a+f) : ∃ g,f = g+1∧runesGo s f a = ((Utf8.decode s a).1,a,a+(Utf8.decode s a).2) :: runesGo s g (a+(Utf8.decode s a).2):=by
 obtain ⟨g,rfl⟩ : ∃ g,f = g+1:=⟨f - 1,by omega⟩
 exact ⟨g,rfl,by rw [runesGo,if_pos h]⟩
theorem runesGo_bd {s : ByteArray} : ∀ (f a : Nat),∀ x ∈ runesGo s f a,a≤x.2.1∧x.2.1 < x.2.2∧x.2.2≤s.size∧x.2.2≤x.2.1+4∧x.1≤1114111
 | 0,a,x,h=>by simp [runesGo] at h
 | f+1,a,x,h=>by
  rw [runesGo] at h
  split at h
  ·rename_i hlt
   have hd:=dec_bd s a hlt
   rcases List.mem_cons.1 h with rfl | h
   ·simp only;omega
   ·have:=runesGo_bd f _ x h;omega
  ·simp at h
theorem runesP_bd {s : ByteArray} : ∀ x ∈ runesP s,x.2.1 < x.2.2∧x.2.2≤s.size∧x.2.2≤x.2.1+4∧x.1≤1114111:=fun x h=>(runesGo_bd _ _ x h).2
theorem runesGo_len {s : ByteArray} : ∀ (f a : Nat),a+(runesGo s f a).length≤max a s.size
 | 0,a=>by simp [runesGo];omega
 | f+1,a=>by
  rw [runesGo]
  split
  ·rename_i hlt
   have hd:=dec_bd s a hlt
   have:=runesGo_len (s:=s) f (a+(Utf8.decode s a).2)
   simp only [List.length_cons];omega
  ·simp;omega
theorem runesP_len (s : ByteArray) : (runesP s).length≤s.size:=by have:=runesGo_len (s:=s) s.size 0;unfold runesP;omega
def firstP (s : ByteArray) : Nat × Nat:=match runesP s with
 | []=>(0,0)
 | x :: _=>(x.1,x.2.2)
theorem firstP_eq (s : ByteArray) : firstP s = if 0 < s.size then Utf8.decode s 0 else (0,0):=by
 unfold firstP runesP
 split
 ·rename_i h
  by_cases h0 : 0 < s.size
  ·obtain ⟨g,_,hg⟩:=runesGo_step (s:=s) (f:=s.size) (a:=0) h0 (by omega)
   rw [hg] at h;simp at h
  ·rw [if_neg h0]
 ·rename_i x r h
  by_cases h0 : 0 < s.size
  ·obtain ⟨g,_,hg⟩:=runesGo_step (s:=s) (f:=s.size) (a:=0) h0 (by omega)
   rw [hg] at h;injection h with h _;subst h
   simp [h0]
  ·rw [runesGo_end (by omega)] at h;simp at h
end Go.Proofs.YtdngkienloligaaGreatDoor
/- -/
namespace Go.Proofs.YtdngkienloligaaGreatDoor
theorem indexByte_at {c : UInt8} (r : List UInt8) : ∀ (a : List UInt8),c ∉ a→Lib.indexByte (a++c :: r) c = a.length
 | [],_=>by rw [List.nil_append,Lib.indexByte,if_pos (by simp)];rfl
 | b :: a,h=>by
  have ih:=indexByte_at r a (fun hm=>h (List.mem_cons_of_mem _ hm))
  have hb : ¬ (b == c) = true:=fun e=>h (by rw [beq_iff_eq.1 e];exact List.mem_cons_self)
  rw [List.cons_append,Lib.indexByte,ih,if_neg hb,if_neg (by simp)]
  simp
theorem splitL_no : ∀ {x : List UInt8},(∀ c ∈ x,c ≠ 10)→splitL x = [x]
 | [],_=>rfl
 | c :: x,h=>by
  show (if c = 10 then _ else _) = _
  rw [if_neg (h c (by simp)),splitL_no (fun d hd=>h d (by simp [hd]))]
theorem splitK_lines : ∀ (k : Nat) (s : List UInt8),s.count 10 = k→Lib.splitK [10] 0 k s = splitL s
 | 0,s,h=>by
  rw [splitL_no (fun c hc e=>by subst e;exact absurd hc (List.count_eq_zero.1 h))];rfl
 | k+1,s,h=>by
  have hm : (10 : UInt8) ∈ s:=List.count_pos_iff.1 (by omega)
  obtain ⟨a,r,rfl,ha⟩:=List.eq_append_cons_of_mem hm
  have hi : Lib.index (a++10 :: r) [10] = a.length:=by rw [Lib.index_one];exact indexByte_at r a ha
  have hr : r.count 10 = k:=by
   rw [List.count_append,List.count_eq_zero.2 ha,List.count_cons_self] at h;omega
  rw [Lib.splitK,hi,if_neg (by simp),splitL_line (fun c hc e=>ha (e ▸ hc))]
  congr 1
  ·simp
  ·rw [← splitK_lines k r hr]
   congr 1
   show List.drop ((a.length : Int).toNat+1) _ = r
   rw [Int.toNat_natCast,← List.drop_drop,List.drop_left];rfl
theorem split_lines (s : ByteArray) : (Lib.splitB (bytesOf [10]) 0 (Lib.countB s (bytesOf [10])) s).map (·.data.toList) = splitL s.data.toList:=by
 rw [Lib.splitB_data,bytesOf_list]
 refine splitK_lines _ _ ?_
 show _ = Lib.count s.data.toList (bytesOf [10]).data.toList
 rw [bytesOf_list,Lib.count_one]
theorem spcL_no : ∀ {x : List UInt8},(9 : UInt8) ∉ x→spcL x = x
 | [],_=>rfl
 | c :: x,h=>by
  show (if c = 9 then 32 else c) :: spcL x = _
  rw [if_neg (fun e=>h (by simp [e])),spcL_no (fun hm=>h (by simp [hm]))]
theorem replaceK_spc : ∀ (k : Nat) (s : List UInt8),s.count 9 = k→Lib.replaceK [9] [32] k s = spcL s
 | 0,s,h=>by rw [spcL_no (List.count_eq_zero.1 h)];rfl
 | k+1,s,h=>by
  have hm : (9 : UInt8) ∈ s:=List.count_pos_iff.1 (by omega)
  obtain ⟨a,r,rfl,ha⟩:=List.eq_append_cons_of_mem hm
  have hi : Lib.index (a++9 :: r) [9] = a.length:=by rw [Lib.index_one];exact indexByte_at r a ha
  have hr : r.count 9 = k:=by
   rw [List.count_append,List.count_eq_zero.2 ha,List.count_cons_self] at h;omega
  rw [Lib.replaceK_hit _ _ _ _ _ hi]
  have e : (a++9 :: r).drop (a.length+[(9 : UInt8)].length) = r:=by
   show List.drop (a.length+1) _ = r
   rw [← List.drop_drop,List.drop_left];rfl
  rw [e,replaceK_spc k r hr,List.take_left]
  unfold spcL
  rw [List.map_append,List.map_cons,if_pos rfl]
  have : a.map (fun c=>if c = 9 then (32 : UInt8) else c) = a:=spcL_no ha
  rw [this];simp
theorem replace_spc (s : List UInt8) : Lib.replaceAll s [9] [32] = spcL s:=by
 unfold Lib.replaceAll Lib.replace
 rw [if_neg (by decide)]
 refine replaceK_spc _ _ ?_
 unfold Lib.replaceNum
 rw [if_pos (.inl (by decide)),Lib.count_one]
theorem splitL_ne : ∀ (s : List UInt8),splitL s ≠ []
 | []=>by simp [splitL]
 | c :: r=>by
  unfold splitL
  split
  ·simp
  ·split <;> simp
theorem splitL_count : ∀ (s : List UInt8),(splitL s).length = s.count 10+1
 | []=>rfl
 | c :: r=>by
  have ih:=splitL_count r
  unfold splitL
  split
  ·rename_i h;subst h;rw [List.length_cons,ih,List.count_cons_self]
  ·rename_i h
   rw [List.count_cons_of_ne h]
   cases hs : splitL r with
   | nil=>exact absurd hs (splitL_ne r)
   | cons x t=>rw [hs] at ih;simpa using ih
theorem splitL_snoc_line (done : List (List UInt8)) (x r : List UInt8) (h : ∀ c ∈ x,c ≠ 10) : done++splitL (x++10 :: r) = (done++[x])++splitL r:=by rw [splitL_line h];simp
structure LinesAt (s : List UInt8) (i frm : Nat) (done : List (List UInt8)) : Prop where
 le : frm≤i
 le2 : i≤s.length
 clean : ∀ c ∈ (s.drop frm).take (i - frm),c ≠ 10
 all : splitL s = done++splitL (s.drop frm)
theorem LinesAt.start (s : List UInt8) : LinesAt s 0 0 []:=⟨Nat.le_refl _,Nat.zero_le _,by simp,by simp⟩
theorem LinesAt.byte {s : List UInt8} {i frm : Nat} {done : List (List UInt8)} {c : UInt8} (h : LinesAt s i frm done) (hc : s[i]? = some c) (hn : c ≠ 10) : LinesAt s (i+1) frm done:=by
 have hlt:=(List.getElem?_eq_some_iff.1 hc).1
 refine ⟨by have:=h.le;omega,by omega,fun d hd=>?_,h.all⟩
 have hle:=h.le
 rw [show i+1 - frm = (i - frm)+1 by omega,List.take_add_one,List.getElem?_drop,show frm+(i - frm) = i by omega,hc] at hd
 rcases List.mem_append.1 hd with hd | hd
 ·exact h.clean d hd
 ·simp at hd;subst hd;exact hn
theorem LinesAt.line {s : List UInt8} {i frm : Nat} {done : List (List UInt8)} (h : LinesAt s i frm done) (hc : s[i]? = some 10) : LinesAt s (i+1) (i+1) (done++[(s.drop frm).take (i - frm)]):=by
 have hlt:=(List.getElem?_eq_some_iff.1 hc).1
 have hle:=h.le
 refine ⟨Nat.le_refl _,by omega,by simp,?_⟩
 have e : s.drop frm = (s.drop frm).take (i - frm)++10 :: s.drop (i+1):=by
  conv=>lhs;rw [← List.take_append_drop (i - frm) (s.drop frm)]
  rw [List.drop_drop,show frm+(i - frm) = i by omega,drop_cons_of hc]
 rw [h.all]
 conv=>lhs;rw [e]
 exact splitL_snoc_line done _ _ h.clean
theorem LinesAt.done {s : List UInt8} {frm : Nat} {done : List (List UInt8)} (h : LinesAt s s.length frm done) : splitL s = done++[s.drop frm]:=by
 have hc:=h.clean
 rw [List.take_of_length_le (by rw [List.length_drop];omega)] at hc
 rw [h.all,splitL_no hc]
end Go.Proofs.YtdngkienloligaaGreatDoor
/- -/
namespace Go.Proofs.YtdngkienloligaaGreatDoor
open Go.RowKit
def TabB (w : World) : Prop:=w.cell? ⟨7,15,none⟩ = some (.int .u8 4)
end Go.Proofs.YtdngkienloligaaGreatDoor
/- -/
namespace Go.Proofs.YtdngkienloligaaGreatDoor
open Go.ChangeShapes Go.WideShapes Go.ChangeAt Go.RowKit
section
variable {H : Type} {enc : TypeId × Value→H} {P : Program}
theorem trodAll_stays {W W' : World} {sp' : Nat→Bool} (hl : laidOutB P = true) : ∀ {ts : List TypeId} {vs : List Value} {ds : List (DataW H)} {ps : List MemPlace},(∀ t ∈ ts,P.readableRec t = true∧t < P.types.size) →
  DataW.TrodAll enc P W 0 (fun _=>true) true ts vs ds ps→(∀ p ∈ ps,W.sameAt W' p)→(∀ p ∈ ps,sp' p.block = true)→DataW.TrodAll enc P W' 0 sp' true ts vs ds ps
 | [],vs,ds,ps,_,h,_,_=>by
  obtain ⟨rfl,rfl,rfl⟩:=trodAll_nil h
  exact trodAll_mk0
 | t :: ts,vs,ds,ps,ht,h,h1,h2=>by
  obtain ⟨v,vs',d,ds',p,q,rfl,rfl,rfl,h0,hr⟩:=trodAll_cons h
  exact trodAll_cons_mk (WideElems.Trod_stays hl (ht t (by simp)).1 (ht t (by simp)).2 h0 (fun x hx=>h1 x (by simp [hx])) (fun x hx=>h2 x (by simp [hx])))
   (trodAll_stays hl (fun u hu=>ht u (by simp [hu])) hr (fun x hx=>h1 x (by simp [hx])) (fun x hx=>h2 x (by simp [hx])))
theorem post_law {f : Func} {s : ChangeSpec} {apart fresh handsOn again : Bool} {W W' : World} {args : Array Value} {ds gs : List (DataW H)} {before : List MemPlace} {tb : TypeId}
  (hl : laidOutB P = true) (hps : (f.params.toList.all fun t=>P.readableRec t && decide (t < P.types.size)) = true) (hres : f.resultTypes = #[tb]) (htb : P.underlying tb = some .bool) (hv : s.vars = [])
  (hfn : ∀ (gs' : List (DataW H)),gs' = []→s.fn H (ds++gs') = { results:=[.lit (.bool true)],args:=ds })
  (hW : DataW.Whole enc P f.params.toList s.vars apart W args.toList ds gs before) (hb : Below W.heap.size W W') :
  s.post enc P f apart fresh handsOn again W args (.bool true) W':=by
 have hlt : ∀ p ∈ before,p.block < W.heap.size:=fun p hp=>hW.lt p hp
 have hW':=hW
 obtain ⟨p,q,hA,hV,rfl,hfz,hnd⟩:=hW'
 have hA' : DataW.TrodAll enc P W 0 (fun _=>true) true f.params.toList args.toList ds p:=hA
 rw [hv] at hV
 obtain ⟨rfl,rfl⟩:=trodVars_none hV
 have hpr : ∀ t ∈ f.params.toList,P.readableRec t = true∧t < P.types.size:=fun t ht=>by
  have:=List.all_eq_true.1 hps t ht
  simpa using this
 have hres' : ∀ (b : Nat) (sp : Nat→Bool) (hd : Bool),DataW.TrodAll enc P W' b sp hd f.resultTypes.toList ((Value.bool true).resultList f.resultTypes.size) (s.fn H (ds++[])).results []:=fun b sp hd=>by
  rw [hres,hfn [] rfl]
  exact trodAll_cons_mk (shut_bool htb _) trodAll_mk0
 have hargs : ∀ sp : Nat→Bool,(∀ x ∈ p++[],sp x.block = true)→DataW.TrodAll enc P W' 0 sp true f.params.toList args.toList (s.fn H (ds++[])).args p:=fun sp hsp=>by
  rw [hfn [] rfl]
  exact trodAll_stays hl hpr hA' (fun x hx=>hb.same (hlt x (by simp [hx]))) (fun x hx=>hsp x (by simp [hx]))
 have hvars : ∀ sp : Nat→Bool,DataW.TrodVars enc P W' sp s.vars (s.fn H (ds++[])).vars []:=fun sp=>by
  rw [hv,hfn [] rfl]
  exact rfl
 have hold : ∀ x ∈ p++[],(fun b=>decide (b < W.heap.size)) x.block = true:=fun x hx=>by simpa using hlt x hx
 refine ⟨ds,[],p++[],[],p,[],hW,hres' _ _ _,hargs _ hold,hvars _,World.keptBut_mono (fun x hx=>⟨hx,?_⟩) (hb.frame (· ∈ p++[])),fun _=>?_⟩
 ·simpa using hx
 ·refine ⟨?_,_,_,([]++p)++[],⟨[]++p,[],trodAll_append (hargs _ (fun _ _=>rfl)) (hres' _ _ _),hvars _,rfl,?_,?_⟩,?_⟩
  ·exact ok_one hres rfl (okWide_bool_mk htb _)
  ·intro b off hp
   have hin : MemPlace.cell b off ∈ p++[]:=by simpa using hp
   rw [hb.frozen (hlt _ hin)]
   exact hfz b off hin
  ·intro ha
   simpa using hnd ha
  ·intro x hx _
   simpa using hx
end
end Go.Proofs.YtdngkienloligaaGreatDoor
