/-
 Several texts in one,in their build order: PropsL,DbK,UtfP,GraP,Dg,GraQ,GraS,GraR,UtfJ,UtfS,GraT,GraV,PrsP,PrsL,PrsG,GraW,We,WorP,Ga,Ka,Kb,LinP,LinQ,LinR,UtfI,HexR,PrintS,Ds,PrsD,PrsE,SenP,PrsS,PtA,PtB,PtC,PtD,PtE,PtF,PtG,PrsC,VP,Bld,Grow,Upper,Repeat,Spell,Join,Print,Wi,Wj,Vb,Qt,Vd,Last,Vf,PrK,PrL,Qd,Vi,Vm,Vc,Ve,WorQ,WorR,Dw,Dl,UtfL,RunD.
-/
import Derived.KernelRfl
import Derived.Lib.DecodeN
import Derived.Lib.RuneCountTail
import Derived.Lib.MapLaws
import Derived.Deep.DeepMust
import Derived.Deep.CutRange
import Derived.Deep.RegionHeld3
import Derived.Deep.LoopGhost
import Derived.Lib.AppendStr
import Derived.Lib.BufferRead
import Derived.Laws.Bits64b
import Derived.Laws.ShiftsVarLaws
import Derived.WalkSmall
import Derived.RegionTactic
import Derived.BigRegion
import Derived.OwnWalk
import Derived.Deep.RegionLaw
import Derived.Shelf.Strings.BuilderK
import Derived.Lib.OthersKept
import Derived.RangeFuncOwn
import Derived.Lib.Builder
import Derived.Lib.FrozenHead2
import Derived.Lib.SpaceU
import Derived.Test.YtglmcknlnoknoaaGreatDoorG0a
import Derived.Test.YtglmcknlnoknoaaGreatDoorGWc
import Derived.Test.YtglmcknlnoknoaaGreatDoorGRefU
import Derived.Test.YtglmcknlnoknoaaGreatDoorG6a
import Derived.Test.YtglmcknlnoknoaaGreatDoorG1a
import Derived.Test.YtglmcknlnoknoaaGreatDoorG2a
import Derived.Test.YtglmcknlnoknoaaGreatDoorGShelf
import Derived.Test.YtglmcknlnoknoaaGreatDoorGWa
/- -/
namespace Go.Proofs.YtglmcknlnoknoaaGreatDoor
def offB (x y : Int × Int × Nat) : Bool:=decide (x.2.1 < y.1) || decide (y.2.1 < x.1)
def offAll : List (Int × Int × Nat) → Bool
 | []=>true
 | x :: r=>r.all (offB x) && offAll r
theorem offAll_spec : ∀ {l : List (Int × Int × Nat)},offAll l = true → l.Pairwise Off
 | [],_=>.nil
 | x :: r,h=>by
  simp only [offAll,Bool.and_eq_true,List.all_eq_true] at h
  refine .cons (fun y hy=>?_) (offAll_spec h.2)
  have:=h.1 y hy
  simpa [offB,Off] using this
theorem entG_apart : ∀ {S : List (List (Int × Int))} {c : Nat},(entG c S).Pairwise Off → Apart S
 | [],c,_=>fun i j a b hi=>by simp at hi
 | s :: S,c,h=>by
  unfold entG at h
  rw [List.pairwise_append] at h
  have ih:=entG_apart h.2.1
  have hx : ∀ (j : Nat) (b : List (Int × Int)),S[j]? = some b → ∀ r,memR s r → memR b r → False:=fun j b hb r ⟨x,hx,h1,h2⟩ ⟨y,hy,h3,h4⟩=>by
   have:=h.2.2 (x.1,x.2,c) (List.mem_map.2 ⟨x,hx,rfl⟩) (y.1,y.2,c + 1 + j) (mem_entG.2 ⟨j,b,hb,hy,rfl⟩)
   unfold Off at this;simp only at this;omega
  intro i j a b hi hj hij r ha hb
  cases i with
  | zero =>
   cases j with
   | zero=>omega
   | succ j=>simp at hi hj;subst hi;exact hx j b hj r ha hb
  | succ i =>
   cases j with
   | zero=>simp at hi hj;subst hj;exact hx i a hi r hb ha
   | succ j=>exact ih i j a b (by simpa using hi) (by simpa using hj) (by omega) r ha hb
def nfB : List (Int × Int) → Bool
 | []=>true
 | x :: r=>decide (0 ≤ x.1) && decide (x.1 ≤ x.2) && decide (x.2 ≤ 1114111) && r.all (fun y=>decide (x.2 + 1 < y.1)) && nfB r
theorem nfB_spec : ∀ {l : List (Int × Int)},nfB l = true → NF l
 | [],_=>⟨trivial,by simp⟩
 | x :: r,h=>by
  simp only [nfB,Bool.and_eq_true,List.all_eq_true,decide_eq_true_eq] at h
  obtain ⟨⟨⟨⟨h1,h2⟩,h3⟩,h4⟩,h5⟩:=h
  have ih:=nfB_spec h5
  refine ⟨⟨h2,h4,ih.1⟩,fun y hy=>?_⟩
  rcases List.mem_cons.1 hy with rfl | hy
  ·exact ⟨h1,h3⟩
  ·exact ih.2 y hy
def nodB : List (List UInt8) → Bool
 | []=>true
 | x :: r=>r.all (fun y=>!(y == x)) && nodB r
theorem nodB_spec : ∀ {l : List (List UInt8)},nodB l = true → l.Nodup
 | [],_=>.nil
 | x :: r,h=>by
  simp only [nodB,Bool.and_eq_true,List.all_eq_true] at h
  refine List.nodup_cons.2 ⟨fun hx=>?_,nodB_spec h.2⟩
  have:=h.1 x hx
  simp at this
def DbP.okB (d : DbP) : Bool :=
 decide (d.sets.length = d.names.length) && d.sets.all nfB && nodB d.names && decide (d.names.head? = some otherL) && decide (d.sets.head? = some []) && decide (d.names.length ≤ 64) && offAll (entG 0 d.sets) && d.names.all nameL
theorem DbP.okB_spec {d : DbP} (h : d.okB = true) : d.Ok ∧ Apart d.sets ∧ d.Named:=by
 simp only [DbP.okB,Bool.and_eq_true,List.all_eq_true,decide_eq_true_eq] at h
 obtain ⟨⟨⟨⟨⟨⟨⟨h1,h2⟩,h3⟩,h4⟩,h5⟩,h6⟩,h7⟩,h8⟩:=h
 exact ⟨⟨h1,fun l hl=>nfB_spec (h2 l hl),nodB_spec h3,h4,h5,h6⟩,entG_apart (offAll_spec h7),h8⟩
end Go.Proofs.YtglmcknlnoknoaaGreatDoor
/- -/
namespace Go.Proofs.YtglmcknlnoknoaaGreatDoor
def insK (x : Int × Int) : List (Int × Int) → List (Int × Int)
 | []=>[x]
 | y :: r=>if x.1 ≤ y.1 then x :: y :: r else y :: insK x r
def sortK : List (Int × Int) → List (Int × Int)
 | []=>[]
 | x :: r=>insK x (sortK r)
theorem insK_perm (x : Int × Int) : ∀ (l : List (Int × Int)),(insK x l).Perm (x :: l)
 | []=>.refl _
 | y :: r=>by
  unfold insK
  split
  ·exact .refl _
  ·exact ((insK_perm x r).cons y).trans (List.Perm.swap x y r)
theorem sortK_perm : ∀ (l : List (Int × Int)),(sortK l).Perm l
 | []=>.refl _
 | x :: r=>(insK_perm x (sortK r)).trans ((sortK_perm r).cons x)
theorem insK_rise {x : Int × Int} : ∀ {l : List (Int × Int)},Rise l → Rise (insK x l)
 | [],_=>by unfold insK Rise;simp
 | y :: r,h=>by
  have h':=List.pairwise_cons.1 h
  unfold insK
  split
  ·rename_i hxy
   refine List.pairwise_cons.2 ⟨fun z hz=>?_,h⟩
   rcases List.mem_cons.1 hz with rfl | hz
   ·exact hxy
   ·have:=h'.1 z hz;omega
  ·rename_i hxy
   refine List.pairwise_cons.2 ⟨fun z hz=>?_,insK_rise h'.2⟩
   rcases List.mem_cons.1 ((insK_perm x r).mem_iff.1 hz) with rfl | hz
   ·omega
   ·exact h'.1 z hz
theorem sortK_rise : ∀ (l : List (Int × Int)),Rise (sortK l)
 | []=>.nil
 | _ :: r=>insK_rise (sortK_rise r)
def normK (l : List (Int × Int)) : List (Int × Int):=mergeR (sortK (keepR l))
theorem normK_eq (l : List (Int × Int)) : normK l = normR l:=mergeR_eq (sortK_perm _) (sortK_rise _)
def addK (d : DbP) (name set : List UInt8) : Except Int DbP :=
 if nameL name = false ∨ name = otherL then .error 40 else
 match parseE (spcL set) with
 | .error e=>.error e
 | .ok l =>
  match d.num name with
  | some c=>if d.clash c (normK l) then .error 41 else .ok ⟨d.names,d.sets.set c (normK ((d.sets.getD c []) ++ normK l))⟩
  | none=>if 64 ≤ d.names.length then .error 6 else if d.clash d.names.length (normK l) then .error 41 else .ok ⟨d.names ++ [name],d.sets ++ [normK l]⟩
theorem addK_eq (d : DbP) (n s : List UInt8) : addK d n s = addL d n s:=by
 have e : ∀ l,normK l = orR [] (normR l):=fun l=>by unfold orR;rw [normK_eq,List.nil_append,normR_of_NF (normR_NF l)]
 have e1 : ∀ a b,normK (a ++ b) = orR a b:=fun a b=>by rw [normK_eq];rfl
 unfold addK addL
 split
 ·rfl
 ·cases parseE (spcL s) with
  | error e=>rfl
  | ok l =>
   simp only
   cases d.num n with
   | some c=>simp only [e1,normK_eq]
   | none=>simp only;rw [e,show orR [] (normR l) = normR l by rw [← e,normK_eq]]
def stepK (d : DbP) (l : List UInt8) : Except Int DbP :=
 match lineP l with
 | .none_=>.ok d
 | .noLine=>.error 42
 | .says n s=>addK d n s
theorem stepK_eq (d : DbP) (l : List UInt8) : stepK d l = stepL d l:=by
 unfold stepK stepL
 cases lineP l with
 | none_=>rfl
 | noLine=>rfl
 | says n s=>exact addK_eq d n s
def goK (d : DbP) : List (List UInt8) → Nat → Except (Int × Nat) DbP
 | [],_=>.ok d
 | l :: r,i=>match stepK d l with
  | .error e=>.error (e,i + 1)
  | .ok d'=>goK d' r (i + 1)
theorem goK_eq : ∀ (L : List (List UInt8)) (d : DbP) (i : Nat),goK d L i = linesGo d L i
 | [],_,_=>rfl
 | l :: r,d,i=>by
  unfold goK linesGo
  rw [stepK_eq]
  cases stepL d l with
  | error e=>rfl
  | ok d'=>exact goK_eq r d' (i + 1)
theorem new_K {t : List UInt8} {d : DbP} (hl : decide (t.length ≤ 65536) = true) (h : goK DbP.first (splitL t) 0 = .ok d) : newP t = .ok d:=by
 unfold newP
 rw [if_neg (by have:=of_decide_eq_true hl;omega),← goK_eq,h]
end Go.Proofs.YtglmcknlnoknoaaGreatDoor
/- -/
namespace Go.Proofs.YtglmcknlnoknoaaGreatDoor
def Contig : Nat → List (Nat × Nat × Nat) → Nat → Prop
 | p,[],z=>p = z
 | p,x :: r,z=>x.2.1 = p ∧ p < x.2.2 ∧ Contig x.2.2 r z
theorem runesGo_contig {s : ByteArray} : ∀ (f a : Nat),s.size ≤ a + f → a ≤ s.size → Contig a (runesGo s f a) s.size
 | 0,a,h,h2=>by simp only [runesGo,Contig];omega
 | f + 1,a,h,h2=>by
  rw [runesGo]
  split
  ·rename_i hlt
   have hd:=dec_bd s a hlt
   exact ⟨rfl,by simp only;omega,runesGo_contig f _ (by simp only;omega) (by simp only;omega)⟩
  ·show a = s.size;omega
theorem runesP_contig (s : ByteArray) : Contig 0 (runesP s) s.size:=runesGo_contig _ _ (by omega) (by omega)
theorem runesGo_dec {s : ByteArray} : ∀ (f a : Nat),∀ x ∈ runesGo s f a,Utf8.decode s x.2.1 = (x.1,x.2.2 - x.2.1)
 | 0,a,x,h=>by simp [runesGo] at h
 | f + 1,a,x,h=>by
  rw [runesGo] at h
  split at h
  ·rcases List.mem_cons.1 h with rfl | h
   ·simp only;rw [Nat.add_sub_cancel_left]
   ·exact runesGo_dec f _ x h
  ·simp at h
theorem extract_len (s : ByteArray) {a b : Nat} (h : b ≤ s.size) : (s.extract a b).data.toList.length = b - a:=by
 rw [size_data,ByteArray.size_extract];omega
theorem decN_same {n m b0 b1 b2 b3 c1 c2 c3 R W : Nat} (h : Lib.decodeN n b0 b1 b2 b3 = (R,W)) (hv : R ≠ 65533 ∨ W = 3) (hm : W ≤ m) (h1 : 2 ≤ W → c1 = b1) (h2 : 3 ≤ W → c2 = b2) (h3 : 4 ≤ W → c3 = b3) :
  Lib.decodeN m b0 c1 c2 c3 = (R,W):=by
 unfold Lib.decodeN at h
 split at h
 ·rename_i g0
  injection h with hR hW
  subst hR;subst hW
  unfold Lib.decodeN;rw [if_pos g0]
 ·rename_i g0
  split at h
  ·rename_i g1
   split at h
   ·rename_i g2
    injection h with hR hW
    subst hR;subst hW
    obtain rfl:=h1 (by omega)
    unfold Lib.decodeN;rw [if_neg g0,if_pos ⟨g1.1,by omega,g1.2.2⟩,if_pos g2]
   ·injection h with hR hW
    subst hR;subst hW
    rcases hv with hv | hv <;> omega
  ·rename_i g1
   split at h
   ·rename_i g2
    split at h
    ·rename_i g3
     injection h with hR hW
     subst hR;subst hW
     obtain rfl:=h1 (by omega)
     obtain rfl:=h2 (by omega)
     unfold Lib.decodeN;rw [if_neg g0,if_neg (by omega),if_pos ⟨g2.1,⟨by omega,g2.2.1.2⟩,by omega,g2.2.2.2⟩,if_pos g3]
    ·injection h with hR hW
     subst hR;subst hW
     rcases hv with hv | hv <;> omega
   ·rename_i g2
    split at h
    ·rename_i g3
     split at h
     ·rename_i g4
      injection h with hR hW
      subst hR;subst hW
      obtain rfl:=h1 (by omega)
      obtain rfl:=h2 (by omega)
      obtain rfl:=h3 (by omega)
      unfold Lib.decodeN;rw [if_neg g0,if_neg (by omega),if_neg (by omega),if_pos ⟨g3.1,⟨by omega,g3.2.1.2⟩,⟨by omega,g3.2.2.1.2⟩,by omega,g3.2.2.2.2⟩,if_pos g4]
     ·injection h with hR hW
      subst hR;subst hW
      rcases hv with hv | hv <;> omega
    ·injection h with hR hW
     subst hR;subst hW
     rcases hv with hv | hv <;> omega
theorem decN_bad {n b0 b1 b2 b3 R W : Nat} (h : Lib.decodeN n b0 b1 b2 b3 = (R,W)) (hv : ¬ (R ≠ 65533 ∨ W = 3)) : R = 65533 ∧ W = 1:=by
 have hR : R = 65533:=Classical.byContradiction fun k=>hv (.inl k)
 have hW : W ≠ 3:=fun k=>hv (.inr k)
 refine ⟨hR,?_⟩
 unfold Lib.decodeN at h
 repeat' split at h
 all_goals (injection h with h1 h2;omega)
theorem decN_prefix {n m b0 b1 b2 b3 c1 c2 c3 R W : Nat} (h : Lib.decodeN n b0 b1 b2 b3 = (R,W)) (hmn : m ≤ n) (hm : W ≤ m) (h1 : 2 ≤ m → c1 = b1) (h2 : 3 ≤ m → c2 = b2) (h3 : 4 ≤ m → c3 = b3) (hb : ∀ R' W',Lib.decodeN m b0 c1 c2 c3 = (R',W') → W' ≤ m) :
  Lib.decodeN m b0 c1 c2 c3 = (R,W):=by
 by_cases hv : R ≠ 65533 ∨ W = 3
 ·exact decN_same h hv hm (fun k=>h1 (by omega)) (fun k=>h2 (by omega)) (fun k=>h3 (by omega))
 ·obtain ⟨⟨R',W'⟩,hD⟩ : ∃ d,Lib.decodeN m b0 c1 c2 c3 = d:=⟨_,rfl⟩
  have hw:=hb R' W' hD
  by_cases hv' : R' ≠ 65533 ∨ W' = 3
  ·have:=decN_same (m:=n) (c1:=b1) (c2:=b2) (c3:=b3) hD hv' (by omega) (fun k=>(h1 (by omega)).symm) (fun k=>(h2 (by omega)).symm) (fun k=>(h3 (by omega)).symm)
   rw [hD,← h,this]
  ·obtain ⟨rfl,rfl⟩:=decN_bad h hv
   obtain ⟨rfl,rfl⟩:=decN_bad hD hv'
   exact hD
theorem get_prefix (s : ByteArray) {z k : Nat} (hk : k < z) : (s.extract 0 z).get! k = s.get! k:=by
 rw [← Lib.getD_get!',← Lib.getD_get!',ByteArray.data_extract,Array.toList_extract,List.extract_eq_take_drop,List.getD_eq_getElem?_getD,List.getD_eq_getElem?_getD,List.drop_zero,Nat.sub_zero,List.getElem?_take_of_lt hk]
theorem dec_prefix (s : ByteArray) {z i R W : Nat} (hz : z ≤ s.size) (h : Utf8.decode s i = (R,W)) (hi : i < z) (hw : i + W ≤ z) : Utf8.decode (s.extract 0 z) i = (R,W):=by
 have hsz : (s.extract 0 z).size = z:=by rw [ByteArray.size_extract];omega
 have hb:=dec_bd (s.extract 0 z) i (by omega)
 rw [Lib.decode_at] at h hb ⊢
 rw [hsz] at hb ⊢
 have h0:=get_prefix s (k:=i) hi
 rw [h0] at hb ⊢
 refine decN_prefix h (by omega) (by omega) (fun k=>by rw [get_prefix s (by omega)]) (fun k=>by rw [get_prefix s (by omega)]) (fun k=>by rw [get_prefix s (by omega)]) fun R' W' hD=>?_
 rw [hD] at hb
 simp only at hb;omega
theorem runesGo_prefix (s : ByteArray) {z : Nat} (hz : z ≤ s.size) : ∀ (f g a : Nat),s.size ≤ a + f → z ≤ a + g → a ≤ z → (a = z ∨ z = s.size ∨ ∃ x ∈ runesGo s f a,x.2.1 = z) → runesGo (s.extract 0 z) g a = (runesGo s f a).takeWhile fun x=>decide (x.2.1 < z)
 | 0,g,a,hf,hg,ha,_=>by
  have hsz : (s.extract 0 z).size = z:=by rw [ByteArray.size_extract];omega
  rw [runesGo_end (by omega)];rfl
 | f + 1,g,a,hf,hg,ha,hx=>by
  have hsz : (s.extract 0 z).size = z:=by rw [ByteArray.size_extract];omega
  by_cases haz : a = z
  ·subst haz
   rw [runesGo_end (by omega)]
   rw [runesGo]
   split
   ·rw [List.takeWhile_cons,if_neg (by simp)]
   ·rfl
  ·have hlt : a < s.size:=by omega
   have hd:=dec_bd s a hlt
   obtain ⟨⟨R,W⟩,hD⟩ : ∃ d,Utf8.decode s a = d:=⟨_,rfl⟩
   rw [hD] at hd
   simp only at hd
   have hr : runesGo s (f + 1) a = (R,a,a + W) :: runesGo s f (a + W):=by rw [runesGo,if_pos hlt,hD]
   have hle : a + W ≤ z ∧ (a + W = z ∨ z = s.size ∨ ∃ x ∈ runesGo s f (a + W),x.2.1 = z):=by
    rcases hx with h | h | ⟨x,hm,h⟩
    ·omega
    ·exact ⟨by omega,.inr (.inl h)⟩
    ·rw [hr] at hm
     rcases List.mem_cons.1 hm with rfl | hm
     ·simp only at h;omega
     ·have:=runesGo_bd _ _ x hm
      exact ⟨by omega,.inr (.inr ⟨x,hm,h⟩)⟩
   obtain ⟨k,rfl,hk⟩:=runesGo_step (s:=s.extract 0 z) (f:=g) (a:=a) (by omega) (by omega)
   rw [hk,hr,dec_prefix s hz hD (by omega) hle.1,List.takeWhile_cons,if_pos (by simp;omega)]
   simp only
   rw [runesGo_prefix s hz f k (a + W) (by omega) (by omega) hle.1 hle.2]
theorem runesP_prefix (s : ByteArray) {z : Nat} (hz : z ≤ s.size) (h : z = 0 ∨ z = s.size ∨ ∃ x ∈ runesP s,x.2.1 = z) : runesP (s.extract 0 z) = (runesP s).takeWhile fun x=>decide (x.2.1 < z):=by
 have hsz : (s.extract 0 z).size = z:=by rw [ByteArray.size_extract];omega
 unfold runesP
 rw [hsz]
 exact runesGo_prefix s hz s.size z 0 (by omega) (by omega) (by omega) (by rcases h with h | h;exact .inl h.symm;exact .inr h)
end Go.Proofs.YtglmcknlnoknoaaGreatDoor
/- -/
namespace Go.Proofs.YtglmcknlnoknoaaGreatDoor
def endG (c : Nat) : Bool:=c == 1 || c == 2 || c == 3
def joinG (x y : Nat) : Bool :=
 if x = 1 ∧ y = 2 then true
 else if endG x || endG y then false
 else if y == 4 || y == 5 || y == 6 || x == 7 then true
 else if x = 8 then y == 8 || y == 9 || y == 11
 else if x = 9 ∨ x = 11 then y == 9 || y == 10
 else x == 10 && y == 10
structure GS where
 prev : Nat
 pict : Bool
 joined : Bool
 flags : Nat
def GS.cut (st : GS) (y : Nat) : Bool:=!(joinG st.prev y || st.joined && y == 12 || y == 13 && st.flags % 2 == 1)
def GS.next (st : GS) (y : Nat) : GS:=⟨y,y == 12 || st.pict && y == 4,st.pict && y == 5,if y = 13 then st.flags + 1 else 0⟩
def GS.first (y : Nat) : GS:=⟨y,y == 12,false,if y = 13 then 1 else 0⟩
def cutSt : GS → List Nat → List Bool
 | _,[]=>[]
 | st,y :: r=>st.cut y :: cutSt (st.next y) r
def cutsG : List Nat → List Bool
 | []=>[]
 | y :: r=>true :: cutSt (GS.first y) r
def stOf : GS → List Nat → GS
 | st,[]=>st
 | st,y :: r=>stOf (st.next y) r
theorem stOf_snoc : ∀ (st : GS) (l : List Nat) (y : Nat),stOf st (l ++ [y]) = (stOf st l).next y
 | _,[],_=>rfl
 | st,z :: l,y=>stOf_snoc (st.next z) l y
theorem cutSt_snoc : ∀ (st : GS) (l : List Nat) (y : Nat),cutSt st (l ++ [y]) = cutSt st l ++ [(stOf st l).cut y]
 | _,[],_=>rfl
 | st,z :: l,y=>by rw [List.cons_append,cutSt,cutSt_snoc (st.next z) l y];rfl
theorem cutSt_len : ∀ (st : GS) (l : List Nat),(cutSt st l).length = l.length
 | _,[]=>rfl
 | st,y :: r=>by rw [cutSt,List.length_cons,cutSt_len (st.next y) r,List.length_cons]
theorem cutsG_len (l : List Nat) : (cutsG l).length = l.length:=by
 cases l with
 | nil=>rfl
 | cons y r=>rw [cutsG,List.length_cons,cutSt_len,List.length_cons]
structure GS.Good (st : GS) : Prop where
 joined : st.joined = true → st.prev = 5
 flags : st.flags ≠ 0 → st.prev = 13
theorem GS.next_good (st : GS) (y : Nat) : (st.next y).Good:=⟨fun h=>by simp [GS.next] at h ⊢;exact h.2,fun h=>by unfold GS.next at h ⊢;simp only at h ⊢;split at h;assumption;exact absurd rfl h⟩
theorem stOf_good : ∀ {st : GS} (l : List Nat),st.Good → (stOf st l).Good
 | _,[],h=>h
 | st,y :: r,_=>stOf_good r (GS.next_good st y)
theorem cutSt_at : ∀ (st : GS) (l : List Nat) (k : Nat) (y : Nat),l[k]? = some y → (cutSt st l)[k]? = some ((stOf st (l.take k)).cut y)
 | _,[],_,_,h=>by simp at h
 | st,z :: l,0,y,h=>by simp at h;subst h;rfl
 | st,z :: l,k + 1,y,h=>by
  rw [List.getElem?_cons_succ] at h
  rw [cutSt,List.getElem?_cons_succ,cutSt_at (st.next z) l k y h];rfl
theorem cut_always {st : GS} {y : Nat} (hg : st.Good) (h1 : ¬ (st.prev = 1 ∧ y = 2)) (h2 : endG st.prev = true ∨ endG y = true) : st.cut y = true:=by
 have hj : joinG st.prev y = false:=by
  unfold joinG
  rw [if_neg h1,if_pos (by rcases h2 with h | h <;> rw [h] <;> simp)]
 have ha : (st.joined && y == 12) = false:=by
  cases hjn : st.joined with
  | false=>rfl
  | true =>
   have hp:=hg.joined hjn
   rcases h2 with h | h
   ·rw [hp] at h;cases h
   ·cases hy : (y == 12) with
    | false=>rfl
    | true=>rw [beq_iff_eq.1 hy] at h;cases h
 have hb : (y == 13 && st.flags % 2 == 1) = false:=by
  cases hy : (y == 13) with
  | false=>rfl
  | true =>
   have hy':=beq_iff_eq.1 hy
   cases hf : (st.flags % 2 == 1) with
   | false=>rfl
   | true =>
    have:=beq_iff_eq.1 hf
    have hp:=hg.flags (by omega)
    rcases h2 with h | h
    ·rw [hp] at h;cases h
    ·rw [hy'] at h;cases h
 unfold GS.cut;rw [hj,ha,hb];rfl
def pickG : List (Nat × Nat × Nat) → List Bool → List Nat
 | x :: r,b :: t=>(if b then [x.2.1] else []) ++ pickG r t
 | _,_=>[]
def clsG (g : Int → Nat) (r : List (Nat × Nat × Nat)) : List Nat:=r.map fun x=>g x.1
def startsG (g : Int → Nat) (s : ByteArray) : List Nat:=pickG (runesP s) (cutsG (clsG g (runesP s)))
def boundsG (g : Int → Nat) (s : ByteArray) : List Nat:=if s.size = 0 then [] else startsG g s ++ [s.size]
theorem pickG_snoc : ∀ (r : List (Nat × Nat × Nat)) (t : List Bool) (x : Nat × Nat × Nat) (b : Bool),t.length = r.length → pickG (r ++ [x]) (t ++ [b]) = pickG r t ++ (if b then [x.2.1] else [])
 | [],[],x,b,_=>by simp [pickG]
 | [],_ :: _,_,_,h=>by simp at h
 | _ :: _,[],_,_,h=>by simp at h
 | y :: r,c :: t,x,b,h=>by
  rw [List.cons_append,List.cons_append,pickG,pickG,pickG_snoc r t x b (by simpa using h),List.append_assoc]
theorem pickG_mem : ∀ {r : List (Nat × Nat × Nat)} {t : List Bool} {a : Nat},a ∈ pickG r t ↔ ∃ (k : Nat) (x : Nat × Nat × Nat),r[k]? = some x ∧ t[k]? = some true ∧ x.2.1 = a
 | [],t,a=>by simp [pickG]
 | _ :: _,[],a=>by simp [pickG]
 | x :: r,b :: t,a=>by
  rw [pickG,List.mem_append,pickG_mem (r:=r) (t:=t)]
  constructor
  ·rintro (h | ⟨k,y,h1,h2,h3⟩)
   ·cases b with
    | false=>simp at h
    | true=>simp at h;exact ⟨0,x,rfl,rfl,h.symm⟩
   ·exact ⟨k + 1,y,by simpa using h1,by simpa using h2,h3⟩
  ·rintro ⟨k,y,h1,h2,h3⟩
   cases k with
   | zero=>simp at h1 h2;subst h1;subst h2;exact .inl (by simp [h3])
   | succ k=>exact .inr ⟨k,y,by simpa using h1,by simpa using h2,h3⟩
theorem runes_rise (s : ByteArray) : (runesP s).Pairwise fun x y=>x.2.1 < y.2.1:=by
 have : ∀ (f a : Nat),(runesGo s f a).Pairwise fun x y=>x.2.1 < y.2.1:=by
  intro f
  induction f with
  | zero=>intro a;exact .nil
  | succ f ih =>
   intro a
   rw [runesGo]
   split
   ·rename_i hlt
    have hd:=dec_bd s a hlt
    refine .cons (fun y hy=>?_) (ih _)
    have:=runesGo_bd _ _ y hy
    simp only;omega
   ·exact .nil
 exact this _ _
theorem clsG_len (g : Int → Nat) (r : List (Nat × Nat × Nat)) : (clsG g r).length = r.length:=by simp [clsG]
theorem pick_rise : ∀ {r : List (Nat × Nat × Nat)} {t : List Bool},(r.Pairwise fun x y=>x.2.1 < y.2.1) → (pickG r t).Pairwise (· < ·)
 | [],t,_=>by cases t <;> exact .nil
 | _ :: _,[],_=>.nil
 | x :: r,b :: t,h=>by
  rw [List.pairwise_cons] at h
  rw [pickG]
  cases b with
  | false=>exact pick_rise h.2
  | true =>
   refine .cons (fun a ha=>?_) (pick_rise h.2)
   obtain ⟨k,y,h1,_,rfl⟩:=pickG_mem.1 ha
   exact h.1 y (List.mem_of_getElem? h1)
theorem starts_rise (g : Int → Nat) (s : ByteArray) : (startsG g s).Pairwise (· < ·):=pick_rise (runes_rise s)
theorem starts_lt (g : Int → Nat) (s : ByteArray) : ∀ a ∈ startsG g s,a < s.size:=fun a ha=>by
 obtain ⟨k,y,h1,_,rfl⟩:=pickG_mem.1 ha
 have:=runesP_bd y (List.mem_of_getElem? h1);omega
theorem bounds_rise (g : Int → Nat) (s : ByteArray) : (boundsG g s).Pairwise (· < ·):=by
 unfold boundsG
 split
 ·exact .nil
 ·rw [List.pairwise_append]
  exact ⟨starts_rise g s,by simp,fun a ha b hb=>by simp at hb;subst hb;exact starts_lt g s a ha⟩
end Go.Proofs.YtglmcknlnoknoaaGreatDoor
/- -/
namespace Go.Proofs.YtglmcknlnoknoaaGreatDoor
def graphsD : DbP:=⟨[otherL,[67,82],[76,70],[67,111,110,116,114,111,108],[69,120,116,101,110,100],[90,87,74],[77,97,114,107],[80,114,101,112,101,110,100],[76],[86],[84],[72],[80,105,99,116],[70,108,97,103]],[[],[(13,13)],[(10,10)],[(0,9),(11,12),(14,31),(127,159),(173,173),(8203,8203),(8232,8233),(65279,65279)],[(768,879),(1155,1161),(1425,1469),(1611,1631),(2364,2364),(2381,2381),(3636,3642),(8204,8204),(8400,8432),(12441,12442),(65024,65039),(127995,127999),(917536,917631)],[(8205,8205)],[(2307,2307),(2366,2368),(2377,2380),(3635,3635)],[(1536,1541),(1757,1757),(1807,1807),(69821,69821)],[(4352,4447)],[(4448,4519)],[(4520,4607)],[(44032,55203)],[(169,169),(174,174),(8252,8252),(8265,8265),(8482,8482),(8592,8703),(8960,9215),(9632,10175),(10548,10549),(11013,11093),(12336,12336),(12349,12349),(12951,12951),(12953,12953),(126976,127231),(127744,127994),(128000,129791)],[(127462,127487)]]⟩
set_option maxRecDepth 100000 in
theorem graphs_ok : graphsD.okB = true:=by kernel_rfl
theorem graphsOk : graphsD.Ok ∧ Apart graphsD.sets ∧ graphsD.Named:=DbP.okB_spec graphs_ok
def gG (r : Int) : Nat:=graphsD.get r
theorem gG_lt (r : Int) : gG r < 14:=get_lt graphsOk.1 r
end Go.Proofs.YtglmcknlnoknoaaGreatDoor
/- -/
namespace Go.Proofs.YtglmcknlnoknoaaGreatDoor
theorem pick_len : ∀ (r : List (Nat × Nat × Nat)) (t : List Bool),t.length = r.length → (pickG r t).length = t.count true
 | [],[],_=>rfl
 | [],_ :: _,h=>by simp at h
 | _ :: _,[],h=>by simp at h
 | x :: r,b :: t,h=>by
  rw [pickG,List.length_append,pick_len r t (by simpa using h)]
  cases b with
  | false=>simp
  | true=>simp;omega
theorem starts_len (g : Int → Nat) (s : ByteArray) : (startsG g s).length = (cutsG (clsG g (runesP s))).count true:=pick_len _ _ (by rw [cutsG_len,clsG_len])
def turnL (s : ByteArray) : List Nat → List UInt8
 | a :: b :: r=>turnL s (b :: r) ++ (s.extract a b).data.toList
 | _=>[]
end Go.Proofs.YtglmcknlnoknoaaGreatDoor
/- -/
namespace Go.Proofs.YtglmcknlnoknoaaGreatDoor
def piecesB : List Nat → List (Nat × Nat)
 | a :: b :: r=>piecesB (b :: r) ++ [(a,b)]
 | _=>[]
theorem piecesB_len : ∀ (L : List Nat),(piecesB L).length = L.length - 1
 | []=>rfl
 | [_]=>rfl
 | a :: b :: r=>by rw [piecesB,List.length_append,piecesB_len (b :: r)];simp
theorem piecesB_at : ∀ (L : List Nat) (k x y : Nat),L[k]? = some x → L[k + 1]? = some y → (piecesB L)[L.length - 2 - k]? = some (x,y)
 | [],_,_,_,h,_=>by simp at h
 | [_],k,_,_,_,h=>by simp at h
 | a :: b :: r,0,x,y,hx,hy=>by
  simp only [List.getElem?_cons_zero,List.getElem?_cons_succ,Option.some.injEq] at hx hy
  subst hx hy
  rw [piecesB,List.getElem?_append_right (by rw [piecesB_len];simp),piecesB_len]
  simp
 | a :: b :: r,k + 1,x,y,hx,hy=>by
  have hlt:=(List.getElem?_eq_some_iff.1 hy).1
  have ih:=piecesB_at (b :: r) k x y (by simpa using hx) (by simpa using hy)
  simp only [List.length_cons] at hlt ih ⊢
  rw [piecesB,List.getElem?_append_left (by rw [piecesB_len];simp only [List.length_cons];omega)]
  rw [← ih]
  congr 1
  omega
theorem turn_pieces (s : ByteArray) : ∀ (L : List Nat),turnL s L = (piecesB L).flatMap fun x=>(s.extract x.1 x.2).data.toList
 | []=>rfl
 | [_]=>rfl
 | a :: b :: r=>by rw [turnL,piecesB,List.flatMap_append,turn_pieces s (b :: r)];simp
theorem piecesB_le {s : ByteArray} : ∀ {L : List Nat},L.Pairwise (· < ·) → (∀ a ∈ L,a ≤ s.size) → ∀ x ∈ piecesB L,x.1 ≤ x.2 ∧ x.2 ≤ s.size
 | [],_,_,x,h=>by simp [piecesB] at h
 | [_],_,_,x,h=>by simp [piecesB] at h
 | a :: b :: r,hp,hz,x,h=>by
  rw [List.pairwise_cons] at hp
  rw [piecesB] at h
  rcases List.mem_append.1 h with h | h
  ·exact piecesB_le hp.2 (fun c hc=>hz c (by simp [hc])) x h
  ·rw [List.mem_singleton] at h
   subst h
   exact ⟨Nat.le_of_lt (hp.1 b (by simp)),hz b (by simp)⟩
end Go.Proofs.YtglmcknlnoknoaaGreatDoor
/- -/
namespace Go.Proofs.YtglmcknlnoknoaaGreatDoor
end Go.Proofs.YtglmcknlnoknoaaGreatDoor
/- -/
namespace Go.Proofs.YtglmcknlnoknoaaGreatDoor
theorem decN_cont {n b0 b1 b2 b3 R W : Nat} (h : Lib.decodeN n b0 b1 b2 b3 = (R,W)) : (2 ≤ W → 128 ≤ b1) ∧ (3 ≤ W → 128 ≤ b2) ∧ (4 ≤ W → 128 ≤ b3) ∧ W ≤ 4:=by
 unfold Lib.decodeN at h
 repeat' split at h
 all_goals (injection h with _ h;omega)
theorem dec_cont {s : ByteArray} {i k R W : Nat} (h : Utf8.decode s i = (R,W)) (hk : 0 < k) (hW : k < W) : 128 ≤ (s.get! (i + k)).toNat:=by
 rw [Lib.decode_at] at h
 obtain ⟨h1,h2,h3,h4⟩:=decN_cont h
 rcases (show k = 1 ∨ k = 2 ∨ k = 3 by omega) with rfl | rfl | rfl
 ·exact h1 (by omega)
 ·exact h2 (by omega)
 ·exact h3 (by omega)
theorem ascii_at (s : ByteArray) {z : Nat} (hz : z < s.size) (ha : (s.get! z).toNat < 128) : ∀ (f a : Nat),s.size ≤ a + f → a ≤ z → ∃ x ∈ runesGo s f a,x.2.1 = z
 | 0,a,hf,hle=>by omega
 | f + 1,a,hf,hle=>by
  have hlt : a < s.size:=by omega
  have hd:=dec_bd s a hlt
  obtain ⟨⟨R,W⟩,hD⟩ : ∃ d,Utf8.decode s a = d:=⟨_,rfl⟩
  rw [hD] at hd
  simp only at hd
  have hr : runesGo s (f + 1) a = (R,a,a + W) :: runesGo s f (a + W):=by rw [runesGo,if_pos hlt,hD]
  rw [hr]
  by_cases haz : a = z
  ·exact ⟨_,List.mem_cons_self,haz⟩
  ·have hle2 : a + W ≤ z:=by
    rcases Nat.lt_or_ge z (a + W) with h | h
    ·have:=dec_cont hD (k:=z - a) (by omega) (by omega)
     rw [show a + (z - a) = z by omega] at this;omega
    ·exact h
   obtain ⟨x,hx,e⟩:=ascii_at s hz ha f (a + W) (by omega) hle2
   exact ⟨x,List.mem_cons_of_mem _ hx,e⟩
def shR (p : Nat) (x : Nat × Nat × Nat) : Nat × Nat × Nat:=(x.1,x.2.1 + p,x.2.2 + p)
theorem runes_shift (u t : ByteArray) (p : Nat) (hz : u.size = t.size + p) (hg : ∀ k,u.get! (p + k) = t.get! k) : ∀ (f g a : Nat),t.size ≤ a + f → t.size ≤ a + g → runesGo u g (a + p) = (runesGo t f a).map (shR p)
 | 0,g,a,hf,hgf=>by rw [runesGo_end (by omega)];rfl
 | f + 1,g,a,hf,hgf=>by
  by_cases hlt : a < t.size
  ·obtain ⟨k,rfl,hk⟩:=runesGo_step (s:=u) (f:=g) (a:=a + p) (by omega) (by omega)
   have hd : Utf8.decode u (a + p) = Utf8.decode t a:=by
    rw [Lib.decode_at,Lib.decode_at,show u.size - (a + p) = t.size - a by omega]
    rw [show a + p = p + a by omega,hg,show p + a + 1 = p + (a + 1) by omega,show p + a + 2 = p + (a + 2) by omega,show p + a + 3 = p + (a + 3) by omega,hg,hg,hg]
   have hb:=dec_bd t a hlt
   rw [hk,hd,runesGo,if_pos hlt,List.map_cons]
   rw [show a + p + (Utf8.decode t a).2 = a + (Utf8.decode t a).2 + p by omega,runes_shift u t p hz hg f k _ (by omega) (by omega)];rfl
  ·rw [runesGo_end (by omega),runesGo_end (s:=t) (by omega)];rfl
theorem split_at_place (s : ByteArray) {z : Nat} : ∀ (f a : Nat),s.size ≤ a + f → (∃ x ∈ runesGo s f a,x.2.1 = z) → runesGo s f a = ((runesGo s f a).takeWhile fun x=>decide (x.2.1 < z)) ++ runesGo s s.size z
 | 0,a,hf,hx=>by simp [runesGo] at hx
 | f + 1,a,hf,hx=>by
  have hlt : a < s.size:=by
   rcases Nat.lt_or_ge a s.size with h | h
   ·exact h
   ·rw [runesGo_end h] at hx;simp at hx
  have hd:=dec_bd s a hlt
  have hr : runesGo s (f + 1) a = ((Utf8.decode s a).1,a,a + (Utf8.decode s a).2) :: runesGo s f (a + (Utf8.decode s a).2):=by rw [runesGo,if_pos hlt]
  obtain ⟨x,hm,hxz⟩:=hx
  rw [hr] at hm ⊢
  by_cases haz : a = z
  ·subst haz
   rw [List.takeWhile_cons,if_neg (by simp),List.nil_append]
   obtain ⟨k,hk,e⟩:=runesGo_step (s:=s) (f:=s.size) (a:=a) hlt (by omega)
   rw [e]
   congr 1
   have:=runes_shift s s 0 (by omega) (fun k=>by rw [Nat.zero_add]) f k (a + (Utf8.decode s a).2) (by omega) (by omega)
   rw [Nat.add_zero] at this
   rw [this]
   exact (List.map_id'' (fun y=>by simp [shR]) _).symm
  ·rcases List.mem_cons.1 hm with rfl | hm
   ·exact absurd hxz haz
   ·have hb:=runesGo_bd _ _ x hm
    rw [List.takeWhile_cons,if_pos (by simp;omega),List.cons_append]
    congr 1
    exact split_at_place s f _ (by omega) ⟨x,hm,hxz⟩
end Go.Proofs.YtglmcknlnoknoaaGreatDoor
/- -/
namespace Go.Proofs.YtglmcknlnoknoaaGreatDoor
theorem runes_rise' (s : ByteArray) : (runesP s).Pairwise fun x y=>x.2.1 < y.2.1:=by
 have : ∀ (f a : Nat),(runesGo s f a).Pairwise fun x y=>x.2.1 < y.2.1:=by
  intro f
  induction f with
  | zero=>intro a;exact .nil
  | succ f ih =>
   intro a
   rw [runesGo]
   split
   ·rename_i hlt
    have hd:=dec_bd s a hlt
    refine .cons (fun y hy=>?_) (ih _)
    have:=runesGo_bd _ _ y hy
    simp only;omega
   ·exact .nil
 exact this _ _
def PlaceAt (s : ByteArray) (z : Nat) : Prop:=z = s.size ∨ ∃ x ∈ runesP s,x.2.1 = z
theorem PlaceAt.le {s : ByteArray} {z : Nat} (h : PlaceAt s z) : z ≤ s.size:=by
 rcases h with rfl | ⟨x,hx,rfl⟩
 ·exact Nat.le_refl _
 ·have:=runesP_bd x hx;omega
theorem tw_mem {z : Nat} {x : Nat × Nat × Nat} : ∀ {l : List (Nat × Nat × Nat)},x ∈ l.takeWhile (fun x=>decide (x.2.1 < z)) → x.2.1 < z
 | [],h=>by simp at h
 | y :: l,h=>by
  rw [List.takeWhile_cons] at h
  split at h
  ·rename_i hy
   rcases List.mem_cons.1 h with rfl | h
   ·simpa using hy
   ·exact tw_mem h
  ·simp at h
theorem tw_pre (z : Nat) : ∀ (l : List (Nat × Nat × Nat)),(l.Pairwise fun x y=>x.2.1 < y.2.1) → ∃ Q,l = (l.takeWhile fun x=>decide (x.2.1 < z)) ++ Q ∧ ∀ x ∈ Q,z ≤ x.2.1
 | [],_=>⟨[],rfl,by simp⟩
 | y :: l,h=>by
  rw [List.pairwise_cons] at h
  rw [List.takeWhile_cons]
  by_cases hy : y.2.1 < z
  ·obtain ⟨Q,h1,h2⟩:=tw_pre z l h.2
   refine ⟨Q,?_,h2⟩
   rw [if_pos (by simpa using hy),List.cons_append,← h1]
  ·rw [if_neg (by simpa using hy)]
   refine ⟨y :: l,rfl,fun x hx=>?_⟩
   rcases List.mem_cons.1 hx with rfl | hx
   ·omega
   ·have:=h.1 x hx;omega
theorem get_sub (s : ByteArray) {a b : Nat} (hb : b ≤ s.size) (k : Nat) : (s.extract 0 b).get! (a + k) = (s.extract a b).get! k:=by
 rw [← Lib.getD_get!',← Lib.getD_get!',ByteArray.data_extract,ByteArray.data_extract,Array.toList_extract,Array.toList_extract,List.extract_eq_take_drop,List.extract_eq_take_drop,List.getD_eq_getElem?_getD,List.getD_eq_getElem?_getD,List.drop_zero,Nat.sub_zero]
 by_cases h : a + k < b
 ·rw [List.getElem?_take_of_lt h,List.getElem?_take_of_lt (by omega),List.getElem?_drop]
 ·rw [List.getElem?_eq_none (by rw [List.length_take,size_data];omega),List.getElem?_eq_none (by rw [List.length_take,List.length_drop,size_data];omega)]
theorem runes_sub (s : ByteArray) {a b : Nat} (hab : a ≤ b) (ha : PlaceAt s a) (hb : PlaceAt s b) : ∃ P Q,runesP s = P ++ (runesP (s.extract a b)).map (shR a) ++ Q ∧ (∀ x ∈ P,x.2.1 < a) ∧ (∀ x ∈ Q,b ≤ x.2.1):=by
 have hbz:=hb.le
 have hu : (s.extract 0 b).size = b:=by rw [ByteArray.size_extract];omega
 have ht : (s.extract a b).size = b - a:=by rw [ByteArray.size_extract];omega
 have h1 : runesP (s.extract 0 b) = (runesP s).takeWhile fun x=>decide (x.2.1 < b):=by
  refine runesP_prefix s hbz ?_
  rcases hb with h | h
  ·exact .inr (.inl h)
  ·exact .inr (.inr h)
 obtain ⟨Q,hQ,hQb⟩:=tw_pre b (runesP s) (runes_rise' s)
 have hsh : runesGo (s.extract 0 b) b (0 + a) = (runesGo (s.extract a b) (s.extract a b).size 0).map (shR a):=runes_shift _ _ a (by omega) (fun k=>get_sub s hbz k) _ _ 0 (by omega) (by omega)
 rw [Nat.zero_add] at hsh
 by_cases hae : a = b
 ·subst hae
  have : runesP (s.extract a a) = []:=by unfold runesP;rw [ht,Nat.sub_self];rfl
  rw [this]
  exact ⟨_,Q,by rw [List.map_nil,List.append_nil];exact hQ,fun x hx=>tw_mem hx,hQb⟩
 ·have hpl : ∃ x ∈ runesP (s.extract 0 b),x.2.1 = a:=by
   rcases ha with h | ⟨x,hx,e⟩
   ·omega
   ·refine ⟨x,?_,e⟩
    rw [h1]
    have hx':=hx
    rw [hQ] at hx'
    rcases List.mem_append.1 hx' with h | h
    ·exact h
    ·have:=hQb x h;omega
  have h2:=split_at_place (s.extract 0 b) (z:=a) b 0 (by omega) (by unfold runesP at hpl;rw [hu] at hpl;exact hpl)
  rw [hu,hsh] at h2
  refine ⟨(runesGo (s.extract 0 b) b 0).takeWhile fun x=>decide (x.2.1 < a),Q,?_,fun x hx=>tw_mem hx,hQb⟩
  conv=>lhs;rw [hQ,← h1]
  congr 1
  unfold runesP
  rw [hu]
  exact h2
end Go.Proofs.YtglmcknlnoknoaaGreatDoor
/- -/
namespace Go.Proofs.YtglmcknlnoknoaaGreatDoor
theorem contig_next : ∀ (r : List (Nat × Nat × Nat)) (p z : Nat),Contig p r z → ∀ x ∈ r,x.2.1 < x.2.2 ∧ x.2.2 ≤ z ∧ (x.2.2 = z ∨ ∃ y ∈ r,y.2.1 = x.2.2)
 | [],_,_,_,x,h=>by cases h
 | a :: r,p,z,h,x,hx=>by
  obtain ⟨k1,k2,k3⟩:=h
  have hle : ∀ (r : List (Nat × Nat × Nat)) (p z : Nat),Contig p r z → p ≤ z:=by
   intro r
   induction r with
   | nil=>intro p z h;exact Nat.le_of_eq h
   | cons w r ih=>intro p z h;obtain ⟨g1,g2,g3⟩:=h;have:=ih _ _ g3;omega
  rcases List.mem_cons.1 hx with rfl | hx
  ·refine ⟨by omega,hle _ _ _ k3,?_⟩
   cases r with
   | nil=>exact .inl k3
   | cons b r=>obtain ⟨g1,_,_⟩:=k3;exact .inr ⟨b,by simp,g1⟩
  ·obtain ⟨h1,h2,h3⟩:=contig_next r _ z k3 x hx
   exact ⟨h1,h2,h3.imp id fun ⟨y,hy,e⟩=>⟨y,List.mem_cons_of_mem _ hy,e⟩⟩
theorem place_next {s : ByteArray} {x : Nat × Nat × Nat} (hx : x ∈ runesP s) : x.2.1 < x.2.2 ∧ x.2.2 ≤ s.size ∧ PlaceAt s x.2.2:=by
 obtain ⟨h1,h2,h3⟩:=contig_next _ _ _ (runesP_contig s) x hx
 exact ⟨h1,h2,h3⟩
end Go.Proofs.YtglmcknlnoknoaaGreatDoor
/- -/
namespace Go.Proofs.YtglmcknlnoknoaaGreatDoor
theorem bounds_len (s : ByteArray) : (boundsG gG s).length ≤ s.size + 1:=by
 unfold boundsG
 split
 ·simp
 ·rw [List.length_append,starts_len]
  have h1:=List.count_le_length (a:=true) (l:=cutsG (clsG gG (runesP s)))
  rw [cutsG_len,clsG_len] at h1
  have h2:=runesP_len s
  simp;omega
theorem bounds_le (g : Int → Nat) (s : ByteArray) : ∀ a ∈ boundsG g s,a ≤ s.size:=fun a ha=>by
 unfold boundsG at ha
 split at ha
 ·cases ha
 ·rcases List.mem_append.1 ha with h | h
  ·have:=starts_lt g s a h;omega
  ·rw [List.mem_singleton] at h;omega
def countG (s : ByteArray) : Nat:=(boundsG gG s).length - 1
def nextG (s : ByteArray) (x : Int) : Nat:=((boundsG gG s).find? fun (a : Nat)=>decide (x < (a : Int))).getD s.size
def isG (s : ByteArray) (x : Int) : Bool:=((boundsG gG s).map fun (a : Nat)=>(a : Int)).contains x
theorem isG_at {s : ByteArray} {k : Nat} {x : Nat × Nat × Nat} (hx : (runesP s)[k]? = some x) : isG s (x.2.1 : Nat) = (cutsG (clsG gG (runesP s))).getD k false:=by
 have hxm:=List.mem_of_getElem? hx
 obtain ⟨h1,h2,_⟩:=place_next hxm
 have hsz : s.size ≠ 0:=by omega
 have hlen : (cutsG (clsG gG (runesP s))).length = (runesP s).length:=by rw [cutsG_len,clsG_len]
 have hk:=(List.getElem?_eq_some_iff.1 hx).1
 have key : isG s (x.2.1 : Nat) = true ↔ (cutsG (clsG gG (runesP s)))[k]? = some true:=by
  unfold isG boundsG
  rw [if_neg hsz,List.contains_iff_mem,List.mem_map]
  constructor
  ·rintro ⟨a,ha,e⟩
   have e : a = x.2.1:=by omega
   subst e
   rcases List.mem_append.1 ha with h | h
   ·unfold startsG at h
    obtain ⟨j,y,g1,g2,g3⟩:=pickG_mem.1 h
    have hj:=(List.getElem?_eq_some_iff.1 g1).1
    have hr:=List.pairwise_iff_getElem.1 (runes_rise s)
    rcases Nat.lt_trichotomy j k with hlt | rfl | hlt
    ·have:=hr j k hj hk hlt
     rw [(List.getElem?_eq_some_iff.1 g1).2,(List.getElem?_eq_some_iff.1 hx).2] at this
     omega
    ·exact g2
    ·have:=hr k j hk hj hlt
     rw [(List.getElem?_eq_some_iff.1 g1).2,(List.getElem?_eq_some_iff.1 hx).2] at this
     omega
   ·rw [List.mem_singleton] at h;omega
  ·intro h
   exact ⟨x.2.1,List.mem_append.2 (.inl (pickG_mem.2 ⟨k,x,hx,h,rfl⟩)),rfl⟩
 rw [List.getD_eq_getElem?_getD,List.getElem?_eq_getElem (by omega),Option.getD_some] at *
 cases hq : (cutsG (clsG gG (runesP s)))[k] with
 | true=>exact key.2 (by rw [hq])
 | false =>
  cases hi : isG s (x.2.1 : Nat) with
  | false=>rfl
  | true=>have:=key.1 hi;rw [hq] at this;cases this
theorem glive_bounds : boundsG gG ⟨#[101,204,129,120,13,10]⟩ = [0,3,4,6]:=by kernel_rfl
theorem glive_count : countG ⟨#[240,159,135,166,240,159,135,167,240,159,135,168]⟩ = 2:=by kernel_rfl
theorem glive_turn : bytesOf (turnL ⟨#[101,204,129,120]⟩ (boundsG gG ⟨#[101,204,129,120]⟩)) = ⟨#[120,101,204,129]⟩:=by kernel_rfl
theorem glive_next : nextG ⟨#[101,204,129,120]⟩ 0 = 3:=by kernel_rfl
end Go.Proofs.YtglmcknlnoknoaaGreatDoor
/- -/
namespace Go.Proofs.YtglmcknlnoknoaaGreatDoor
inductive Pat where
 | node (op : Nat) (cs : List Nat) (ks : List Pat)
def pLetter (c : UInt8) : Bool:=(decide (65 ≤ c.toNat) && decide (c.toNat ≤ 90)) || (decide (97 ≤ c.toNat) && decide (c.toNat ≤ 122))
def pPart (c : UInt8) : Bool:=pLetter c || (decide (48 ≤ c.toNat) && decide (c.toNat ≤ 57)) || decide (c.toNat = 95)
def pBlank (c : UInt8) : Bool:=decide (c.toNat = 32) || decide (c.toNat = 9)
def skipB (l : List UInt8) : List UInt8:=l.dropWhile pBlank
def pName (ns : List (List UInt8)) (l : List UInt8) : Option (Nat × List UInt8) :=
 if 32 < (l.takeWhile pPart).length then none else
  match ns.findIdx? (fun x=>x == l.takeWhile pPart) with
  | none=>none
  | some i=>some (i,l.dropWhile pPart)
def listGo (ns : List (List UInt8)) : Nat → List UInt8 → List Nat → Option (List Nat × List UInt8)
 | 0,_,_=>none
 | f + 1,l,acc=>match skipB l with
  | []=>none
  | c :: r=>if c.toNat = 93 then some (acc,r) else if pLetter c then
    match pName ns (c :: r) with
    | none=>none
    | some (i,r2)=>listGo ns f r2 (i :: acc)
   else none
def fromP (n : Nat) (acc : List Nat) (no : Bool) : Pat:=.node 1 ((List.range n).filter fun i=>acc.contains i != no) []
def pBegins (c : UInt8) : Bool:=decide (c.toNat = 40) || decide (c.toNat = 91) || decide (c.toNat = 46) || pLetter c
def pOper (c : UInt8) : Nat:=if c.toNat = 42 then 4 else if c.toNat = 43 then 5 else if c.toNat = 63 then 6 else 0
def opsGo : Nat → Pat → List UInt8 → Nat → Option (Pat × List UInt8 × Nat)
 | 0,_,_,_=>none
 | f + 1,p,l,k=>match skipB l with
  | []=>some (p,[],k)
  | c :: r=>if pOper c = 0 then some (p,c :: r,k) else if 512 ≤ k then none else opsGo f (.node (pOper c) [] [p]) r (k + 1)
def seqOf : List Pat → Pat
 | []=>.node 0 [] []
 | [p]=>p
 | l=>.node 2 [] l
def altOf : List Pat → Pat
 | [p]=>p
 | l=>.node 3 [] l
mutual
def patP (ns : List (List UInt8)) : Nat → Nat → List UInt8 → Nat → Option (Pat × List UInt8 × Nat)
 | 0,_,_,_=>none
 | f + 1,d,l,k=>match branchP ns f d l k [] with
  | none=>none
  | some (p,l1,k1)=>altsP ns f d l1 k1 [p]
def altsP (ns : List (List UInt8)) : Nat → Nat → List UInt8 → Nat → List Pat → Option (Pat × List UInt8 × Nat)
 | 0,_,_,_,_=>none
 | f + 1,d,l,k,acc=>match skipB l with
  | []=>some (altOf acc,[],k)
  | c :: r=>if c.toNat = 124 then (if 512 ≤ k then none else
    match branchP ns f d r (k + 1) [] with
    | none=>none
    | some (p,l1,k1)=>altsP ns f d l1 k1 (acc ++ [p]))
   else if c.toNat = 41 ∧ 0 < d then some (altOf acc,c :: r,k) else none
def branchP (ns : List (List UInt8)) : Nat → Nat → List UInt8 → Nat → List Pat → Option (Pat × List UInt8 × Nat)
 | 0,_,_,_,_=>none
 | f + 1,d,l,k,acc=>match skipB l with
  | []=>some (seqOf acc,[],k)
  | c :: r=>if pBegins c then
    match atomP ns f d c r k with
    | none=>none
    | some (p,l1,k1)=>match opsGo f p l1 k1 with
     | none=>none
     | some (q,l2,k2)=>branchP ns f d l2 k2 (acc ++ [q])
   else some (seqOf acc,c :: r,k)
def atomP (ns : List (List UInt8)) : Nat → Nat → UInt8 → List UInt8 → Nat → Option (Pat × List UInt8 × Nat)
 | 0,_,_,_,_=>none
 | f + 1,d,c,r,k =>
  if 512 ≤ k then none else
  if c.toNat = 40 then
   (if 32 ≤ d then none else
    match patP ns f (d + 1) r (k + 1) with
    | none=>none
    | some (_,[],_)=>none
    | some (p,_ :: l1,k1)=>some (p,l1,k1))
  else if c.toNat = 91 then
   (match skipB r with
   | []=>none
   | b :: r1=>match listGo ns f (if b.toNat = 94 then r1 else b :: r1) [] with
    | none=>none
    | some (acc,l1)=>some (fromP ns.length acc (decide (b.toNat = 94)),l1,k + 1))
  else if c.toNat = 46 then some (fromP ns.length [] true,r,k + 1)
  else match pName ns (c :: r) with
   | none=>none
   | some (i,l1)=>some (.node 1 [i] [],l1,k + 1)
end
def patOf (ns : List (List UInt8)) (l : List UInt8) : Option Pat :=
 if 4096 < l.length then none else
  match patP ns (4 * l.length + 8) 0 l 0 with
  | none=>none
  | some (p,_,_)=>some p
structure RuleP where
 cut : Bool
 start : Bool
 stop : Bool
 left : Pat
 right : Pat
structure RsP where
 rules : List RuleP
 rest : Bool
 rested : Bool
def trimB (l : List UInt8) : List UInt8:=((l.dropWhile pBlank).reverse.dropWhile pBlank).reverse
def plainB (l : List UInt8) : List UInt8:=trimB (l.takeWhile fun c=>decide (c.toNat ≠ 35))
def pSign (c : UInt8) : Bool:=decide (c.toNat = 126) || decide (c.toNat = 47)
def signP (l : List UInt8) : Option (List UInt8 × Bool × List UInt8) :=
 match l.dropWhile (fun c=>!pSign c) with
 | []=>none
 | c :: b=>if b.any pSign then none else some (l.takeWhile (fun c=>!pSign c),decide (c.toNat = 47),b)
def restB : List UInt8:=[114,101,115,116]
def ruleLine (ns : List (List UInt8)) (x : RsP) (l : List UInt8) : Option RsP :=
 match plainB l with
 | []=>some x
 | h :: t=>match signP (h :: t) with
  | none=>none
  | some (a,cut,b)=>if x.rested then none else
   if trimB a == restB then (if trimB b == [] then some { x with rest:=cut,rested:=true } else none) else
   if 64 ≤ x.rules.length then none else
   match patOf ns (if (trimB a).head? == some 94 then (trimB a).drop 1 else trimB a),patOf ns (if (trimB b).getLast? == some 36 then (trimB b).dropLast else trimB b) with
   | some p,some q=>some { x with rules:=x.rules ++ [⟨cut,(trimB a).head? == some 94,(trimB b).getLast? == some 36,p,q⟩] }
   | _,_=>none
def rulesGo (ns : List (List UInt8)) : List (List UInt8) → RsP → Option RsP
 | [],x=>some x
 | l :: r,x=>match ruleLine ns x l with
  | none=>none
  | some y=>rulesGo ns r y
def linesB : List UInt8 → List UInt8 → List (List UInt8)
 | [],acc=>[acc.reverse]
 | c :: r,acc=>if c.toNat = 10 then acc.reverse :: linesB r [] else linesB r (c :: acc)
def rulesP (ns : List (List UInt8)) (l : List UInt8) : Option RsP:=if 16384 < l.length then none else rulesGo ns (linesB l []) ⟨[],true,false⟩
end Go.Proofs.YtglmcknlnoknoaaGreatDoor
/- -/
namespace Go.Proofs.YtglmcknlnoknoaaGreatDoor
def part (c : List Nat) (i k : Nat) : List Nat:=(c.drop i).take (k - i)
end Go.Proofs.YtglmcknlnoknoaaGreatDoor
/- -/
namespace Go.Proofs.YtglmcknlnoknoaaGreatDoor
def Ahead (start : Bool) (L : List Nat → Prop) (a : List Nat) : Prop:=∃ u v,a = u ++ v ∧ (start = true → u = []) ∧ L v
def Behind (stop : Bool) (L : List Nat → Prop) (b : List Nat) : Prop:=∃ u v,b = u ++ v ∧ (stop = true → v = []) ∧ L u
theorem snoc_ind {P : List Nat → Prop} (h0 : P []) (h1 : ∀ a y,P a → P (a ++ [y])) (a : List Nat) : P a:=by
 have key : ∀ r : List Nat,P r.reverse:=fun r=>by
  induction r with
  | nil=>exact h0
  | cons y r ih=>rw [List.reverse_cons];exact h1 _ _ ih
 have:=key a.reverse
 rwa [List.reverse_reverse] at this
def One (cs : List Nat) (u : List Nat) : Prop:=∃ x,u = [x] ∧ x ∈ cs
def two13 : Pat:=.node 2 [] [.node 1 [13] [],.node 1 [13] []]
def G0 : GS:=⟨0,false,false,0⟩
theorem first_next (y : Nat) : GS.first y = G0.next y:=by simp [GS.first,GS.next,G0]
def setQ (c : Nat) : Pat:=.node 1 [c] []
def rulesG : List RuleP:=[
 ⟨false,false,false,setQ 1,setQ 2⟩,
 ⟨true,false,false,.node 3 [] [setQ 1,setQ 2,setQ 3],.node 0 [] []⟩,
 ⟨true,false,false,.node 0 [] [],.node 3 [] [setQ 1,setQ 2,setQ 3]⟩,
 ⟨false,false,false,setQ 8,.node 3 [] [setQ 8,setQ 9,setQ 11]⟩,
 ⟨false,false,false,.node 3 [] [setQ 9,setQ 11],.node 3 [] [setQ 9,setQ 10]⟩,
 ⟨false,false,false,setQ 10,setQ 10⟩,
 ⟨false,false,false,.node 0 [] [],.node 3 [] [setQ 4,setQ 5,setQ 6]⟩,
 ⟨false,false,false,setQ 7,.node 0 [] []⟩,
 ⟨false,false,false,.node 2 [] [setQ 12,.node 4 [] [setQ 4],setQ 5],setQ 12⟩,
 ⟨false,true,false,.node 2 [] [.node 4 [] [two13],setQ 13],setQ 13⟩,
 ⟨false,false,false,.node 2 [] [.node 1 [0,1,2,3,4,5,6,7,8,9,10,11,12] [],.node 4 [] [two13],setQ 13],setQ 13⟩]
end Go.Proofs.YtglmcknlnoknoaaGreatDoor
/- -/
namespace Go.Proofs.YtglmcknlnoknoaaGreatDoor
def safeC (a b : List Nat) : Bool :=
 match a.reverse,b with
 | [],[]=>false
 | [],q :: _=>q == 1 || q == 3
 | p :: _,[]=>p == 2 || p == 3
 | p :: r,q :: _ =>
  if endG p || endG q then true
  else if p = 5 ∧ q = 12 then !(r.dropWhile fun x=>x == 4).isEmpty
  else if p = 13 ∧ q = 13 then !((p :: r).dropWhile fun x=>x == 13).isEmpty
  else true
theorem stOf_app : ∀ (st : GS) (a b : List Nat),stOf st (a ++ b) = stOf (stOf st a) b
 | _,[],_=>rfl
 | st,y :: a,b=>stOf_app (st.next y) a b
theorem pict_of (st : GS) (a : List Nat) : (stOf st a).pict = match a.reverse.dropWhile fun x=>x == 4 with | []=>st.pict | x :: _=>x == 12:=by
 induction a using snoc_ind with
 | h0=>rfl
 | h1 a y ih =>
  rw [stOf_snoc,List.reverse_append,List.reverse_singleton,List.singleton_append,List.dropWhile_cons]
  simp only [GS.next]
  by_cases h : y = 4
  ·subst h
   simpa using ih
  ·have : (y == 4) = false:=beq_eq_false_iff_ne.2 h
   simp [this]
theorem flags_of (st : GS) (a : List Nat) : (stOf st a).flags = match a.reverse.dropWhile fun x=>x == 13 with | []=>st.flags + a.length | _ :: _=>(a.reverse.takeWhile fun x=>x == 13).length:=by
 induction a using snoc_ind with
 | h0=>rfl
 | h1 a y ih =>
  rw [stOf_snoc,List.reverse_append,List.reverse_singleton,List.singleton_append,List.dropWhile_cons,List.takeWhile_cons]
  simp only [GS.next]
  by_cases h : y = 13
  ·subst h
   simp only [if_true,beq_self_eq_true,ih]
   cases a.reverse.dropWhile (fun x=>x == 13) with
   | nil=>simp;omega
   | cons x t=>simp
  ·have : (y == 13) = false:=beq_eq_false_iff_ne.2 h
   simp [this,h]
theorem cut_same {s t : GS} {q : Nat} (hs : s.Good) (ht : t.Good) (hp : s.prev = t.prev) (hj : q = 12 → s.prev = 5 → s.joined = t.joined) (hf : q = 13 → s.prev = 13 → s.flags % 2 = t.flags % 2) : s.cut q = t.cut q:=by
 unfold GS.cut
 rw [hp]
 congr 2
 ·congr 1
  by_cases hq : q = 12
  ·by_cases h5 : s.prev = 5
   ·rw [hj hq h5]
   ·have h1 : s.joined = false:=Bool.eq_false_iff.2 fun h=>h5 (hs.joined h)
    have h2 : t.joined = false:=Bool.eq_false_iff.2 fun h=>h5 (hp.trans (ht.joined h))
    rw [h1,h2]
  ·rw [show (q == 12) = false from beq_eq_false_iff_ne.2 hq,Bool.and_false,Bool.and_false]
 ·by_cases hq : q = 13
  ·by_cases h13 : s.prev = 13
   ·rw [hf hq h13]
   ·have h1 : s.flags = 0:=Decidable.byContradiction fun h=>h13 (hs.flags h)
    have h2 : t.flags = 0:=Decidable.byContradiction fun h=>h13 (hp.trans (ht.flags h))
    rw [h1,h2]
  ·rw [show (q == 13) = false from beq_eq_false_iff_ne.2 hq,Bool.false_and,Bool.false_and]
theorem G0_good : G0.Good:=⟨fun h=>by simp [G0] at h,fun h=>absurd rfl h⟩
theorem stOf_last (st : GS) (a : List Nat) (p : Nat) : (stOf st (a ++ [p])).prev = p:=by rw [stOf_snoc];rfl
theorem cutsG_get {c : List Nat} {i : Nat} (h0 : 0 < i) (hi : i < c.length) : (cutsG c).getD i false = (stOf G0 (c.take i)).cut (c[i]'hi):=by
 obtain ⟨k,rfl⟩ : ∃ k,i = k + 1:=⟨i - 1,by omega⟩
 cases c with
 | nil=>simp at hi
 | cons z l =>
  have hl : k < l.length:=by simpa using hi
  have h3:=cutSt_at (GS.first z) l k _ (List.getElem?_eq_getElem hl)
  rw [cutsG,List.getD_eq_getElem?_getD,List.getElem?_cons_succ,h3,first_next]
  rfl
theorem cutsG_zero {c : List Nat} (h : c ≠ []) : (cutsG c).getD 0 false = true:=by
 cases c with
 | nil=>exact absurd rfl h
 | cons=>rfl
theorem safe_law (A a b B : List Nat) (h : safeC a b = true) (hlt : b = [] → B ≠ []) :
  (cutsG (A ++ a ++ (b ++ B))).getD (A.length + a.length) false = if a = [] ∨ b = [] then true else (cutsG (a ++ b)).getD a.length false:=by
 have hgA:=stOf_good A G0_good
 rcases List.eq_nil_or_concat a with rfl | ⟨a',p,rfl⟩
 ·-- at the beginning
  rw [if_pos (.inl rfl),List.append_nil,List.length_nil,Nat.add_zero]
  cases b with
  | nil=>simp [safeC] at h
  | cons q r =>
   simp only [safeC,List.reverse_nil,Bool.or_eq_true,beq_iff_eq] at h
   rcases Nat.eq_zero_or_pos A.length with h0 | h0
   ·rw [h0];exact cutsG_zero (by simp)
   ·rw [cutsG_get h0 (by simp)]
    rw [List.take_append_of_le_length (Nat.le_refl _),List.take_length]
    have e : (A ++ (q :: r ++ B))[A.length]'(by simp) = q:=by simp
    rw [e]
    exact cut_always hgA (by omega) (.inr (by rcases h with rfl | rfl <;> rfl))
 ·rw [List.concat_eq_append] at h ⊢
  have hlen : 0 < A.length + (a' ++ [p]).length:=by simp;omega
  have htk : (A ++ (a' ++ [p]) ++ (b ++ B)).take (A.length + (a' ++ [p]).length) = A ++ (a' ++ [p]):=by
   rw [← List.length_append,List.take_append_of_le_length (Nat.le_refl _),List.take_length]
  have hst : stOf G0 (A ++ (a' ++ [p])) = stOf (stOf G0 A) (a' ++ [p]):=stOf_app _ _ _
  have hg1 : (stOf (stOf G0 A) (a' ++ [p])).Good:=stOf_good _ hgA
  cases b with
  | nil =>
   rw [if_pos (.inr rfl)]
   simp only [safeC,List.reverse_append,List.reverse_singleton,List.singleton_append,Bool.or_eq_true,beq_iff_eq] at h
   obtain ⟨y,t,rfl⟩ : ∃ y t,B = y :: t:=by
    cases B with
    | nil=>exact absurd rfl (hlt rfl)
    | cons y t=>exact ⟨y,t,rfl⟩
   rw [cutsG_get hlen (by simp),htk,hst]
   have hp:=stOf_last (stOf G0 A) a' p
   exact cut_always hg1 (by omega) (.inl (by rw [hp];rcases h with rfl | rfl <;> rfl))
  | cons q r =>
   rw [if_neg (by simp)]
   have hi1 : A.length + (a' ++ [p]).length < (A ++ (a' ++ [p]) ++ (q :: r ++ B)).length:=by simp
   have hi2 : (a' ++ [p]).length < (a' ++ [p] ++ q :: r).length:=by simp
   rw [cutsG_get hlen hi1,htk,hst,cutsG_get (by simp) hi2]
   have e1 : (A ++ (a' ++ [p]) ++ (q :: r ++ B))[A.length + (a' ++ [p]).length]'hi1 = q:=by
    rw [List.getElem_append_right (by simp)]
    simp
   have e2 : (a' ++ [p] ++ q :: r)[(a' ++ [p]).length]'hi2 = q:=by
    rw [List.getElem_append_right (Nat.le_refl _)]
    simp
   rw [e1,e2,List.take_append_of_le_length (Nat.le_refl _),List.take_length]
   have hg2 : (stOf G0 (a' ++ [p])).Good:=stOf_good _ G0_good
   simp only [safeC,List.reverse_append,List.reverse_singleton,List.singleton_append] at h
   refine cut_same hg1 hg2 (by rw [stOf_last,stOf_last]) (fun hq hp=>?_) (fun hq hp=>?_)
   ·rw [stOf_last] at hp
    subst hq
    subst hp
    rw [if_neg (by decide),if_pos ⟨rfl,rfl⟩] at h
    rw [stOf_snoc,stOf_snoc]
    simp only [GS.next]
    rw [pict_of (stOf G0 A) a',pict_of G0 a']
    cases hd : a'.reverse.dropWhile (fun x=>x == 4) with
    | nil=>rw [hd] at h;cases h
    | cons x t=>rfl
   ·rw [stOf_last] at hp
    subst hq
    subst hp
    rw [if_neg (by decide),if_neg (by decide),if_pos ⟨rfl,rfl⟩] at h
    rw [flags_of (stOf G0 A) (a' ++ [13]),flags_of G0 (a' ++ [13]),List.reverse_append,List.reverse_singleton,List.singleton_append]
    cases hd : (13 :: a'.reverse).dropWhile (fun x=>x == 13) with
    | nil=>rw [hd] at h;cases h
    | cons x t=>rfl
theorem split_one {α : Type} {P : α → Bool} : ∀ {X Y X' Y' : List α},X ++ Y = X' ++ Y' → (∀ x ∈ X,P x = true) → (∀ x ∈ Y,P x = false) → (∀ x ∈ X',P x = true) → (∀ x ∈ Y',P x = false) → X = X' ∧ Y = Y'
 | [],Y,[],Y',h,_,_,_,_=>⟨rfl,h⟩
 | x :: X,Y,[],Y',h,h1,_,_,h4=>by
  have:=h4 x (by rw [List.nil_append] at h;rw [← h];simp)
  rw [h1 x (by simp)] at this;cases this
 | [],Y,x :: X',Y',h,_,h2,h3,_=>by
  have:=h2 x (by rw [List.nil_append] at h;rw [h];simp)
  rw [h3 x (by simp)] at this;cases this
 | x :: X,Y,x' :: X',Y',h,h1,h2,h3,h4=>by
  rw [List.cons_append,List.cons_append] at h
  injection h with e h
  obtain ⟨e1,e2⟩:=split_one h (fun z hz=>h1 z (List.mem_cons_of_mem _ hz)) h2 (fun z hz=>h3 z (List.mem_cons_of_mem _ hz)) h4
  exact ⟨by rw [e,e1],e2⟩
theorem cls_parts (g : Int → Nat) {s : ByteArray} {z : Nat} (hz : PlaceAt s z) : clsG g (runesP s) = clsG g (runesP (s.extract 0 z)) ++ clsG g (runesP (s.extract z s.size)) ∧
  runesP s = (runesP (s.extract 0 z)).map (shR 0) ++ (runesP (s.extract z s.size)).map (shR z):=by
 have hle:=hz.le
 obtain ⟨P,Q,e,hP,hQ⟩:=runes_sub s (Nat.zero_le z) (by
  rcases Nat.eq_zero_or_pos s.size with h0 | h0
  ·exact .inl (by omega)
  ·have hr:=runesP_contig s
   cases hs : runesP s with
   | nil=>rw [hs] at hr;have : 0 = s.size:=hr;omega
   | cons x r=>rw [hs] at hr;exact .inr ⟨x,by rw [hs];simp,hr.1⟩) hz
 obtain ⟨P',Q',e',hP',hQ'⟩:=runes_sub s hle hz (.inl rfl)
 have hP0 : P = []:=by
  cases P with
  | nil=>rfl
  | cons x r=>have:=hP x (by simp);omega
 have hQ0 : Q' = []:=by
  cases Q' with
  | nil=>rfl
  | cons x r =>
   have h1:=hQ' x (by simp)
   have h2:=runesP_bd (s:=s) x (by rw [e'];simp)
   omega
 subst hP0
 subst hQ0
 rw [List.nil_append] at e
 rw [List.append_nil] at e'
 have hb1 : ∀ x ∈ (runesP (s.extract 0 z)).map (shR 0),decide (x.2.1 < z) = true:=fun x hx=>by
  obtain ⟨y,hy,rfl⟩:=List.mem_map.1 hx
  have:=runesP_bd y hy
  rw [ByteArray.size_extract] at this
  have : (shR 0 y).2.1 < z:=by simp only [shR];omega
  exact decide_eq_true this
 have hb2 : ∀ x ∈ (runesP (s.extract z s.size)).map (shR z),decide (x.2.1 < z) = false:=fun x hx=>by
  obtain ⟨y,hy,rfl⟩:=List.mem_map.1 hx
  have : ¬ (shR z y).2.1 < z:=by simp only [shR];omega
  exact decide_eq_false this
 obtain ⟨e1,e2⟩:=split_one (P:=fun x : Nat × Nat × Nat=>decide (x.2.1 < z)) (e.symm.trans e') hb1 (fun x hx=>decide_eq_false (by have:=hQ x hx;omega)) (fun x hx=>decide_eq_true (hP' x hx)) hb2
 have e3 : runesP s = (runesP (s.extract 0 z)).map (shR 0) ++ (runesP (s.extract z s.size)).map (shR z):=by rw [e,e2]
 refine ⟨?_,e3⟩
 conv=>lhs;rw [e3]
 unfold clsG
 rw [List.map_append,List.map_map,List.map_map]
 rfl
theorem isG_end {s : ByteArray} (h : s.size ≠ 0) : isG s (s.size : Nat) = true:=by
 unfold isG boundsG
 rw [if_neg h,List.contains_iff_mem,List.mem_map]
 exact ⟨s.size,by simp,rfl⟩
theorem safe_whole {a s b : ByteArray} {z : Nat} (hz : PlaceAt s z) (h0 : s.size ≠ 0) (hs : safeC (clsG gG (runesP (s.extract 0 z))) (clsG gG (runesP (s.extract z s.size))) = true)
  (p1 : PlaceAt (a ++ s ++ b) a.size) (p2 : PlaceAt (a ++ s ++ b) (a.size + s.size)) : isG (a ++ s ++ b) ((a.size + z : Nat) : Int) = isG s (z : Nat):=by
 have hle:=hz.le
 obtain ⟨hc,hr⟩:=cls_parts gG hz
 obtain ⟨P,Q,e,hP,hQ⟩:=runes_sub (a ++ s ++ b) (Nat.le_add_right _ _) p1 p2
 have hz1 : ∀ x : ByteArray,x.size = x.data.toList.length:=fun x=>(Array.length_toList (xs:=x.data)).symm
 have hex : (a ++ s ++ b).extract a.size (a.size + s.size) = s:=by
  apply ByteArray.ext
  apply Array.ext'
  simp only [ByteArray.data_extract,Array.toList_extract,ByteArray.data_append,Array.toList_append,List.extract_eq_take_drop]
  rw [hz1 a,List.append_assoc,List.drop_left,hz1 s,Nat.add_sub_cancel_left,List.take_left]
 rw [hex] at e
 have hsz : (a ++ s ++ b).size = a.size + s.size + b.size:=by simp [ByteArray.size_append]
 generalize a ++ s ++ b = W at p1 p2 e hsz ⊢
 have hcW : clsG gG (runesP W) = clsG gG P ++ clsG gG (runesP (s.extract 0 z)) ++ (clsG gG (runesP (s.extract z s.size)) ++ clsG gG Q):=by
  rw [e,hr]
  unfold clsG
  simp only [List.map_append,List.map_map,List.append_assoc]
  rfl
 have hl1 : ∀ l,(clsG gG l).length = l.length:=fun l=>clsG_len gG l
 by_cases hzs : z = s.size
 ·subst hzs
  have hemp : runesP (s.extract s.size s.size) = []:=by
   have hr:=runesP_contig (s.extract s.size s.size)
   cases hx : runesP (s.extract s.size s.size) with
   | nil=>rfl
   | cons x r =>
    have:=runesP_bd (s:=s.extract s.size s.size) x (by rw [hx];simp)
    rw [ByteArray.size_extract] at this
    omega
  rw [hemp] at hs hcW hc hr
  rw [isG_end h0]
  rcases p2 with h2 | ⟨x,hx,hx2⟩
  ·rw [h2]
   exact isG_end (by omega)
  ·obtain ⟨i,hi,hxi⟩:=List.getElem_of_mem hx
   have hxi' : (runesP W)[i]? = some x:=by rw [List.getElem?_eq_getElem hi,hxi]
   have hPi : ∃ t,Q = x :: t ∧ i = P.length + (runesP s).length:=by
    have hrise:=runes_rise W
    have hmem : x ∈ Q:=by
     rw [e] at hx
     rcases List.mem_append.1 hx with h3 | h3
     ·rcases List.mem_append.1 h3 with h3 | h3
      ·have:=hP x h3;omega
      ·obtain ⟨y,hy,rfl⟩:=List.mem_map.1 h3
       have:=runesP_bd y hy
       simp only [shR] at hx2
       omega
     ·exact h3
    cases Q with
    | nil=>cases hmem
    | cons y t =>
     have hy0 : (runesP W)[P.length + (runesP s).length]? = some y:=by
      rw [e,List.getElem?_append_right (by simp)]
      simp
     have hyx : y = x:=by
      rcases List.mem_cons.1 hmem with h4 | h4
      ·exact h4.symm
      ·have hpw:=hrise
       rw [e,List.pairwise_append] at hpw
       have h5:=hpw.2.1
       rw [List.pairwise_cons] at h5
       have h6:=h5.1 x h4
       have h7:=hQ y (by simp)
       omega
     subst hyx
     refine ⟨t,rfl,?_⟩
     have hw:=List.pairwise_iff_getElem.1 hrise
     have hj:=(List.getElem?_eq_some_iff.1 hy0).1
     have hje:=(List.getElem?_eq_some_iff.1 hy0).2
     rcases Nat.lt_trichotomy i (P.length + (runesP s).length) with hlt | heq | hgt
     ·have:=hw i _ hi hj hlt
      rw [hxi,hje] at this
      omega
     ·exact heq
     ·have:=hw _ i hj hi hgt
      rw [hxi,hje] at this
      omega
   obtain ⟨t,hQt,hit⟩:=hPi
   have h8:=isG_at hxi'
   rw [hx2] at h8
   rw [h8,hcW]
   have h9:=safe_law (clsG gG P) (clsG gG (runesP (s.extract 0 s.size))) [] (clsG gG Q) (by simpa [clsG] using hs) (fun _=>by rw [hQt];simp [clsG])
   rw [if_pos (.inr rfl)] at h9
   rw [hit,← hl1,← hl1,hc]
   simpa [clsG] using h9
 ·-- a rune stands at the place
  obtain ⟨x,t,hx⟩ : ∃ x t,runesP (s.extract z s.size) = x :: t:=by
   cases hx : runesP (s.extract z s.size) with
   | cons x t=>exact ⟨x,t,rfl⟩
   | nil =>
    have hr:=runesP_contig (s.extract z s.size)
    rw [hx] at hr
    have : 0 = (s.extract z s.size).size:=hr
    rw [ByteArray.size_extract] at this
    omega
  have hx0 : x.2.1 = 0:=by
   have hr:=runesP_contig (s.extract z s.size)
   rw [hx] at hr
   exact hr.1
  have hS : (runesP s)[(runesP (s.extract 0 z)).length]? = some (shR z x):=by
   rw [hr,List.getElem?_append_right (by simp),hx]
   simp
  have hW : (runesP W)[P.length + (runesP (s.extract 0 z)).length]? = some (shR a.size (shR z x)):=by
   rw [e,List.append_assoc,List.getElem?_append_right (by omega),show P.length + (runesP (s.extract 0 z)).length - P.length = (runesP (s.extract 0 z)).length by omega,List.getElem?_append_left (by simp;exact (List.getElem?_eq_some_iff.1 hS).1),List.getElem?_map,hS]
   rfl
  have g1:=isG_at hS
  have g2:=isG_at hW
  rw [show (shR z x).2.1 = z by simp only [shR];omega] at g1
  rw [show (shR a.size (shR z x)).2.1 = a.size + z by simp only [shR];omega] at g2
  rw [g1,g2,hcW,hc,← hl1 P,← hl1 (runesP (s.extract 0 z))]
  rw [safe_law _ _ _ _ hs (fun h=>by rw [hx] at h;simp [clsG] at h)]
  split
  ·rename_i h
   rcases h with h | h
   ·rw [h]
    exact (cutsG_zero (by rw [hx];simp [clsG])).symm
   ·rw [hx] at h;simp [clsG] at h
  ·rfl
end Go.Proofs.YtglmcknlnoknoaaGreatDoor
/- -/
namespace Go.Proofs.YtglmcknlnoknoaaGreatDoor
open Go.RowKit Go.Maps
theorem full_small {d : DbP} (h : d.Ok) (ha : Apart d.sets) {k : Nat} {s : List (Int × Int)} (hk : d.full[k]? = some s) : s.length ≤ 1114112:=by
 have h1:=full_lenS h ha
 obtain ⟨hlt,e⟩:=List.getElem?_eq_some_iff.1 hk
 have hd : d.full = d.full.take k ++ s :: d.full.drop (k + 1):=by rw [← e,← List.drop_eq_getElem_cons hlt,List.take_append_drop]
 rw [hd,lenS_append] at h1
 have : lenS (s :: d.full.drop (k + 1)) = s.length + lenS (d.full.drop (k + 1)):=rfl
 omega
def ofC (d : DbP) (s : ByteArray) : List Nat:=(runesP s).map fun x=>d.get (x.1 : Int)
def encN (x : Nat) : List Value:=[.int .i64 (x : Int)]
theorem encN_ok (l : List Nat) : ∀ y ∈ l.map encN,y.length = 1 ∧ ∀ u ∈ y,u.oneCell' = true:=by
 intro y hy;obtain ⟨r,_,rfl⟩:=List.mem_map.1 hy
 exact ⟨rfl,by simp [encN,Value.oneCell']⟩
def OfCAt (d : DbP) (s : ByteArray) (f p : Nat) (o : List Nat) : Prop:=(o ++ (runesGo s f p).map fun x=>d.get (x.1 : Int)) = ofC d s ∧ s.size ≤ p + f ∧ p ≤ s.size
theorem ofCAt_first (d : DbP) (s : ByteArray) : OfCAt d s s.size 0 []:=⟨by rw [List.nil_append];rfl,by omega,by omega⟩
theorem ofCAt_add {d : DbP} {s : ByteArray} {f p R W : Nat} {o : List Nat} (h : OfCAt d s f p o) (hp : p < s.size) (hd : Utf8.decode s p = (R,W)) (hw : 1 ≤ W ∧ p + W ≤ s.size) : ∃ g,OfCAt d s g (p + W) (o ++ [d.get (R : Int)]):=by
 obtain ⟨g,rfl,hg⟩:=runesGo_step (s:=s) (f:=f) hp h.2.1
 rw [hd] at hg
 refine ⟨g,?_,by have:=h.2.1;omega,hw.2⟩
 rw [← h.1,hg];simp
theorem ofCAt_end {d : DbP} {s : ByteArray} {f p : Nat} {o : List Nat} (h : OfCAt d s f p o) (hp : ¬ p < s.size) : o = ofC d s:=by
 have:=h.1
 rw [runesGo_end (by omega)] at this
 simpa using this
set_option maxRecDepth 100000 in
set_option maxHeartbeats 1000000 in
theorem wOf_any (p : Nat) (d : DbP) (s : ByteArray) (w : World) (h : DbAt w p d) (ho : d.Ok) (ha : Apart d.sets) (hs : s.size ≤ 1000000) :
  Calls Tryz.prog 75 #[.pointer (some ⟨p,0,none⟩),.string s] w fun e w'=>∃ A n c,e = .returned (.slice A n c) ∧ Own w' w.heap.size 3 1 A n c ((ofC d s).map encN) ∧ Below w.heap.size w w':=by
 obtain ⟨i0,hi0,hz0,hz1,hz2⟩:=info_parts infoInt
 have HD:=Lib.hid (And.intro h (And.intro ho ha))
 clear h ho ha
 go_enter Tryz.func75,Tryz.ntmps75
 go_wp2
 go_loopw [5] (fun v wr=>∃ (q f : Nat) (A1 : Option Addr) (n1 c1 : Nat) (o : List Nat),v = .slice A1 n1 c1 ∧ wr.heap[w.heap.size]? = some (.stringIter s q) ∧ Own wr (w.heap.size + 1) 3 1 A1 n1 c1 (o.map encN) ∧
   n1 ≤ q ∧ q ≤ s.size ∧ Hid (OfCAt d s f q o) ∧ Below w.heap.size w wr) (fun _ wr=>s.size - wr.iterPos w.heap.size)
 case atStart=>exact ⟨0,s.size,none,0,0,[],rfl,iter_new _ _ _,Own.nil_ _ _ _ _,by omega,by omega,ofCAt_first d s,below_iter (Below.refl _ _) (Nat.le_refl _) _ _⟩
 case round =>
  obtain ⟨q,f,A1,n1,c1,o,rfl,hit,ho,hn1,hps,HR,hb⟩:=hrel
  have hsz : w.heap.size < wr.heap.size:=(Array.getElem?_eq_some_iff.1 hit).1
  have Hpos:=Lib.hid (iterPos_of hit)
  by_cases hp : q < s.size
  ·obtain ⟨⟨R,W⟩,HDc⟩ : ∃ d,Utf8.decode s q = d:=⟨_,rfl⟩
   have hd:=dec_bd s q hp
   have hnx : ∀ ty,(Instr.next (.pointer (some ⟨w.heap.size,0,none⟩)) true ty).run Tryz.prog wr = _:=fun ty=>Lib.run_next_any_at wr w.heap.size s q ty hit hp
   have hit2:=Lib.iterAt_heap wr w.heap.size s q (q + (Utf8.decode s q).2) hit
   have hb2:=Lib.below_iterAt hb (k:=w.heap.size) (Nat.le_refl _) s (q + (Utf8.decode s q).2)
   have ho2:=ho.iterAt (k:=w.heap.size) (by omega) s (q + (Utf8.decode s q).2)
   have hsz2 : w.heap.size < (wr.iterAt w.heap.size s (q + (Utf8.decode s q).2)).heap.size:=by rw [Lib.iterAt_size];exact hsz
   rw [HDc] at hd hnx hit2 hb2 ho2 hsz2
   simp only at hd hnx hit2 hb2 ho2 hsz2
   obtain ⟨g,HA⟩:=ofCAt_add HR.out hp HDc (by omega)
   have HA:=Lib.hid HA
   clear HR HDc
   generalize wr.iterAt w.heap.size s (q + W) = w2 at hnx hit2 hb2 ho2 hsz2
   have HG:=Lib.hid (wGet_any p d R w2 (HD.out.1.below hb2) HD.out.2.1 HD.out.2.2)
   clear ho hb hit hsz
   go_wp2_with (first | (go_at_call 73;refine HG.out.mono ?_;rintro e w4 ⟨rfl,hb4⟩;have hit4:=(hb4.block _ hsz2).trans hit2;have ho4:=ho2.below hb4;have hbb:=below_step hb2 hb4 hb2.size;have hsz4:=Nat.lt_of_lt_of_le hsz2 hb4.size;clear hit2 ho2 hb2) | (at_builtin;go_must (refine wpList_app rfl (.tmp 15) (.tmp 19) _ rfl (w.heap.size + 1) 3 i0 _ 1 8 Tryz.underlying52 hi0 hz0 hz1 hz2 rfl (by omega) A1 n1 c1 (o.map encN) rfl (ho4.alloc _) _ 1 1 [encN (d.get R)] rfl rfl (Rd.newAt (by simp) rfl) (encN_ok [d.get R]) (by unfold maxLen;omega) (by omega) (by simp;omega) ?_);intro A3 c3 w3 ho3 hg3 hA3;have hit3:=hg3.block w.heap.size (by simp;omega) (fun e=>by cases A1 with | none=>simp at e | some a=>have:=(ho4.lt a rfl).1;simp at e;omega);have hb3:=below_app (hbb.alloc (by omega) _) hg3 (by simp;omega) (fun a ha=>by have:=(ho4.lt a ha).1;omega);clear hg3))
   have hit5 : w3.heap[w.heap.size]? = some (.stringIter s (q + W)):=hit3.trans ((Below.heap_alloc _ _ _ hsz4).trans hit4)
   have Ho3 : Own w3 (w.heap.size + 1) 3 1 A3 (n1 + 1) c3 ((o ++ [d.get (R : Int)]).map encN):=by rw [List.map_append];exact ho3
   clear hit3 ho3
   go_roundw
   case rel=>exact ⟨q + W,g,A3,n1 + 1,c3,o ++ [d.get (R : Int)],rfl,hit5,Ho3,by omega,by omega,HA,hb3⟩
   case measure=>rw [iterPos_of hit5,Hpos.out];omega
  ·have hnx : ∀ ty,(Instr.next (.pointer (some ⟨w.heap.size,0,none⟩)) true ty).run Tryz.prog wr = _:=fun ty=>Lib.run_next_end_at wr w.heap.size s q ty hit hp
   have HE:=Lib.hid (ofCAt_end HR.out hp)
   go_wp2
   go_ret
   exact ⟨A1,n1,c1,rfl,by rw [← HE.out];exact ho.more (by omega),hb⟩
end Go.Proofs.YtglmcknlnoknoaaGreatDoor
/- -/
namespace Go.Proofs.YtglmcknlnoknoaaGreatDoor
end Go.Proofs.YtglmcknlnoknoaaGreatDoor
/- -/
namespace Go.Proofs.YtglmcknlnoknoaaGreatDoor
open Go.RowKit
set_option maxRecDepth 100000 in
set_option maxHeartbeats 4000000 in
theorem gdb_any (w : World) (hE : Env w) :
  Calls Tryz.prog 71 #[] w fun e w'=>∃ p,e = .returned (.pointer (some ⟨p,0,none⟩)) ∧ DbAt w' p graphsD ∧ Below w.heap.size w w':=by
 go_enter Tryz.func71,Tryz.ntmps71
 generalize hT : ByteArray.mk _ = T
 have HN : newP T.data.toList = .ok graphsD:=by rw [← hT];exact new_K (by kernel_rfl) (by kernel_rfl)
 have hTl : T.data.toList.length ≤ maxLen:=by rw [← hT];exact of_decide_eq_true (by kernel_rfl)
 clear hT
 have HC:=wNew_any T.data.toList w hE hTl
 rw [HN,show bytesOf T.data.toList = T from bytesOf_data T] at HC
 replace HC:=Lib.hid HC
 clear HN hTl
 go_wp2_with fail
 refine HC.out.mono ?_
 rintro e w1 ⟨⟨p,rfl,hd⟩,hb1⟩
 go_wp2
 go_ret
 exact ⟨p,rfl,hd,hb1⟩
def endZ (c : Int) : Bool:=c == 1 || c == 2 || c == 3
set_option maxHeartbeats 400000 in
theorem gends_any (c : Int) (w : World) : Calls Tryz.prog 130 #[.int .i64 c] w fun e w'=>e = .returned (.bool (endZ c)) ∧ w = w':=by
 rcases (by omega : c = 1 ∨ c = 2 ∨ c = 3 ∨ (c ≠ 1 ∧ c ≠ 2 ∧ c ≠ 3)) with rfl | rfl | rfl | ⟨h1,h2,h3⟩
 iterate 3
  ·go_enter Tryz.func130,Tryz.ntmps130
   go_wp2
   go_ret
   exact ⟨rfl,rfl⟩
 ·have HV : Hid (endZ c = false):=Lib.hid (by simp [endZ,h1,h2,h3])
  have e1:=beq_eq_false_iff_ne.2 h1
  have e2:=beq_eq_false_iff_ne.2 h2
  have e3:=beq_eq_false_iff_ne.2 h3
  clear h1 h2 h3
  go_enter Tryz.func130,Tryz.ntmps130
  go_wp2
  go_ret
  exact ⟨by rw [HV.out];rfl,rfl⟩
def joinZ (x y : Int) : Bool :=
 if (x == 1) && (y == 2) then true
 else if endZ x || endZ y then false
 else if ((y == 4) || (y == 5) || (y == 6) || (x == 7)) then true
 else if x == 8 then (y == 8) || (y == 9) || (y == 11)
 else if (x == 9) || (x == 11) then (y == 9) || (y == 10)
 else (x == 10) && (y == 10)
theorem joinZ_eq : ∀ x : Nat,x < 14 → ∀ y : Nat,y < 14 → joinZ (x : Int) (y : Int) = joinG x y:=by decide
set_option maxRecDepth 100000 in
set_option maxHeartbeats 8000000 in
theorem gjoins_any (x y : Int) (w : World) : Calls Tryz.prog 76 #[.int .i64 x,.int .i64 y] w fun e w'=>e = .returned (.bool (joinZ x y)) ∧ w = w':=by
 obtain ⟨x1,H1⟩ : ∃ b,Hid (((x == 1) && (y == 2)) = b):=⟨_,Lib.hid rfl⟩
 obtain ⟨x2,H2⟩ : ∃ b,Hid (((endZ x) || (endZ y)) = b):=⟨_,Lib.hid rfl⟩
 obtain ⟨x3,H3⟩ : ∃ b,Hid (((y == 4) || (y == 5) || (y == 6) || (x == 7)) = b):=⟨_,Lib.hid rfl⟩
 have HW : Hid (joinZ x y = if x1 then true else if x2 then false else if x3 then true else if x == 8 then ((y == 8) || (y == 9) || (y == 11)) else if ((x == 9) || (x == 11)) then ((y == 9) || (y == 10)) else ((x == 10) && (y == 10))):=Lib.hid (by rw [← H1.out,← H2.out,← H3.out];rfl)
 go_enter Tryz.func76,Tryz.ntmps76
 go_upto_region 1 with fail
 go_cut [5] from 5 (fun v wx=>v = .bool x1 ∧ w = wx)
 case first =>
  cases h1 : (x == 1) with
  | true =>
   cases h2 : (y == 2) with
   | true =>
    go_wp2_with fail
    go_meet
    exact ⟨by rw [← H1.out,h1,h2] <;> rfl,rfl⟩
   | false =>
    go_wp2_with fail
    go_meet
    exact ⟨by rw [← H1.out,h1,h2] <;> rfl,rfl⟩
  | false =>
   go_wp2_with fail
   go_meet
   exact ⟨by rw [← H1.out,h1] <;> rfl,rfl⟩
 case rest =>
  obtain ⟨rfl,rfl⟩:=hcut
  cases x1 with
  | true =>
   go_wp2
   go_ret
   exact ⟨by rw [HW.out];simp,rfl⟩
  | false =>
   go_upto_region 3 with fail
   go_cut [12] from 5 (fun v wx=>v = .bool x2 ∧ w = wx)
   case first =>
    cases h1 : (endZ x) with
    | true =>
     go_wp2_with fail
     refine (gends_any _ _).mono ?_
     rw [h1]
     rintro e wn ⟨rfl,rfl⟩
     go_wp2_with fail
     go_meet
     exact ⟨by rw [← H2.out,h1] <;> rfl,rfl⟩
    | false =>
     cases h2 : (endZ y) with
     | true =>
      go_wp2_with fail
      refine (gends_any _ _).mono ?_
      rw [h1]
      rintro e wn ⟨rfl,rfl⟩
      go_wp2_with fail
      refine (gends_any _ _).mono ?_
      rw [h2]
      rintro e wn ⟨rfl,rfl⟩
      go_wp2_with fail
      go_meet
      exact ⟨by rw [← H2.out,h1,h2] <;> rfl,rfl⟩
     | false =>
      go_wp2_with fail
      refine (gends_any _ _).mono ?_
      rw [h1]
      rintro e wn ⟨rfl,rfl⟩
      go_wp2_with fail
      refine (gends_any _ _).mono ?_
      rw [h2]
      rintro e wn ⟨rfl,rfl⟩
      go_wp2_with fail
      go_meet
      exact ⟨by rw [← H2.out,h1,h2] <;> rfl,rfl⟩
   case rest =>
    obtain ⟨rfl,rfl⟩:=hcut
    cases x2 with
    | true =>
     go_wp2
     go_ret
     exact ⟨by rw [HW.out];simp,rfl⟩
    | false =>
     go_upto_region 5 with fail
     go_cut [19] from 5 (fun v wx=>v = .bool x3 ∧ w = wx)
     case first =>
      cases h1 : (y == 4) with
      | true =>
       go_wp2_with fail
       go_meet
       exact ⟨by rw [← H3.out,h1] <;> rfl,rfl⟩
      | false =>
       cases h2 : (y == 5) with
       | true =>
        go_wp2_with fail
        go_meet
        exact ⟨by rw [← H3.out,h1,h2] <;> rfl,rfl⟩
       | false =>
        cases h3 : (y == 6) with
        | true =>
         go_wp2_with fail
         go_meet
         exact ⟨by rw [← H3.out,h1,h2,h3] <;> rfl,rfl⟩
        | false =>
         cases h4 : (x == 7) with
         | true =>
          go_wp2_with fail
          go_meet
          exact ⟨by rw [← H3.out,h1,h2,h3,h4] <;> rfl,rfl⟩
         | false =>
          go_wp2_with fail
          go_meet
          exact ⟨by rw [← H3.out,h1,h2,h3,h4] <;> rfl,rfl⟩
     case rest =>
      obtain ⟨rfl,rfl⟩:=hcut
      cases x3 with
      | true =>
       go_wp2
       go_ret
       exact ⟨by rw [HW.out];simp,rfl⟩
      | false =>
       cases h1 : (x == 8) with
       | true =>
        cases h2 : (y == 8) with
        | true =>
         go_wp2
         go_ret
         exact ⟨by rw [HW.out];simp [h1,h2],rfl⟩
        | false =>
         cases h3 : (y == 9) with
         | true =>
          go_wp2
          go_ret
          exact ⟨by rw [HW.out];simp [h1,h2,h3],rfl⟩
         | false =>
          cases h4 : (y == 11) with
          | true =>
           go_wp2
           go_ret
           exact ⟨by rw [HW.out];simp [h1,h2,h3,h4],rfl⟩
          | false =>
           go_wp2
           go_ret
           exact ⟨by rw [HW.out];simp [h1,h2,h3,h4],rfl⟩
       | false =>
        cases h2 : (x == 9) with
        | true =>
         cases h3 : (y == 9) with
         | true =>
          go_wp2
          go_ret
          exact ⟨by rw [HW.out];simp [h1,h2,h3],rfl⟩
         | false =>
          cases h4 : (y == 10) with
          | true =>
           go_wp2
           go_ret
           exact ⟨by rw [HW.out];simp [h1,h2,h3,h4],rfl⟩
          | false =>
           go_wp2
           go_ret
           exact ⟨by rw [HW.out];simp [h1,h2,h3,h4],rfl⟩
        | false =>
         cases h3 : (x == 11) with
         | true =>
          cases h4 : (y == 9) with
          | true =>
           go_wp2
           go_ret
           exact ⟨by rw [HW.out];simp [h1,h2,h3,h4],rfl⟩
          | false =>
           cases h5 : (y == 10) with
           | true =>
            go_wp2
            go_ret
            exact ⟨by rw [HW.out];simp [h1,h2,h3,h4,h5],rfl⟩
           | false =>
            go_wp2
            go_ret
            exact ⟨by rw [HW.out];simp [h1,h2,h3,h4,h5],rfl⟩
         | false =>
          cases h4 : (x == 10) with
          | true =>
           cases h5 : (y == 10) with
           | true =>
            go_wp2
            go_ret
            exact ⟨by rw [HW.out];simp [h1,h2,h3,h4,h5],rfl⟩
           | false =>
            go_wp2
            go_ret
            exact ⟨by rw [HW.out];simp [h1,h2,h3,h4,h5],rfl⟩
          | false =>
           go_wp2
           go_ret
           exact ⟨by rw [HW.out];simp [h1,h2,h3,h4],rfl⟩
end Go.Proofs.YtglmcknlnoknoaaGreatDoor
/- -/
namespace Go.Proofs.YtglmcknlnoknoaaGreatDoor
open Go.RowKit
end Go.Proofs.YtglmcknlnoknoaaGreatDoor
/- -/
namespace Go.Proofs.YtglmcknlnoknoaaGreatDoor
open Go.RowKit
end Go.Proofs.YtglmcknlnoknoaaGreatDoor
/- -/
namespace Go.Proofs.YtglmcknlnoknoaaGreatDoor
end Go.Proofs.YtglmcknlnoknoaaGreatDoor
/- -/
namespace Go.Proofs.YtglmcknlnoknoaaGreatDoor
section
variable {A B : List Int} {e : Int}
end
end Go.Proofs.YtglmcknlnoknoaaGreatDoor
/- -/
namespace Go.Proofs.YtglmcknlnoknoaaGreatDoor
theorem decN_tail {n b0 b1 b2 b3 R W : Nat} (h : Lib.decodeN n b0 b1 b2 b3 = (R,W)) : (2 ≤ W → b1 / 64 = 2) ∧ (3 ≤ W → b2 / 64 = 2) ∧ (4 ≤ W → b3 / 64 = 2) ∧ W ≤ 4:=by
 unfold Lib.decodeN at h
 repeat' split at h
 all_goals (injection h with _ h;omega)
theorem dec_tail {s : ByteArray} {i k R W : Nat} (h : Utf8.decode s i = (R,W)) (hk : 0 < k) (hW : k < W) : (s.get! (i + k)).toNat / 64 = 2:=by
 rw [Lib.decode_at] at h
 obtain ⟨h1,h2,h3,h4⟩:=decN_tail h
 rcases (show k = 1 ∨ k = 2 ∨ k = 3 by omega) with rfl | rfl | rfl
 ·exact h1 (by omega)
 ·exact h2 (by omega)
 ·exact h3 (by omega)
theorem lead_at (s : ByteArray) {z : Nat} (hz : z < s.size) (ha : (s.get! z).toNat / 64 ≠ 2) : ∀ (f a : Nat),s.size ≤ a + f → a ≤ z → ∃ x ∈ runesGo s f a,x.2.1 = z
 | 0,a,hf,hle=>by omega
 | f + 1,a,hf,hle=>by
  have hlt : a < s.size:=by omega
  have hd:=dec_bd s a hlt
  obtain ⟨⟨R,W⟩,hD⟩ : ∃ d,Utf8.decode s a = d:=⟨_,rfl⟩
  rw [hD] at hd
  simp only at hd
  have hr : runesGo s (f + 1) a = (R,a,a + W) :: runesGo s f (a + W):=by rw [runesGo,if_pos hlt,hD]
  rw [hr]
  by_cases haz : a = z
  ·exact ⟨_,List.mem_cons_self,haz⟩
  ·have hle2 : a + W ≤ z:=by
    rcases Nat.lt_or_ge z (a + W) with h | h
    ·have:=dec_tail hD (k:=z - a) (by omega) (by omega)
     rw [show a + (z - a) = z by omega] at this;omega
    ·exact h
   obtain ⟨x,hx,e⟩:=lead_at s hz ha f (a + W) (by omega) hle2
   exact ⟨x,List.mem_cons_of_mem _ hx,e⟩
end Go.Proofs.YtglmcknlnoknoaaGreatDoor
/- -/
namespace Go.Proofs.YtglmcknlnoknoaaGreatDoor
theorem decN_lead {n b0 b1 b2 b3 R W : Nat} (h : Lib.decodeN n b0 b1 b2 b3 = (R,W)) (hW : 2 ≤ W) (h0 : b0 < 256) : b0 / 64 = 3:=by
 unfold Lib.decodeN at h
 repeat' split at h
 all_goals (injection h with _ h;omega)
theorem dec_lead {s : ByteArray} {i R W : Nat} (h : Utf8.decode s i = (R,W)) (hW : 2 ≤ W) : (s.get! i).toNat / 64 = 3:=by
 rw [Lib.decode_at] at h
 exact decN_lead h hW (s.get! i).toNat_lt
theorem decN_room {n b0 b1 b2 b3 R W : Nat} (h : Lib.decodeN n b0 b1 b2 b3 = (R,W)) (hW : 2 ≤ W) : W ≤ n:=by
 unfold Lib.decodeN at h
 repeat' split at h
 all_goals (injection h with _ h;omega)
theorem dec_in {s : ByteArray} {i R W : Nat} (h : Utf8.decode s i = (R,W)) (hW : 2 ≤ W) : i + W ≤ s.size:=by
 rw [Lib.decode_at] at h
 have:=decN_room h hW;omega
def edgeB (s : ByteArray) (z : Nat) : Bool:=[1,2,3].all fun b=>!(decide (b ≤ z) && decide (b < (Utf8.decode s (z - b)).2))
theorem place_gap (s : ByteArray) : ∀ (r : List (Nat × Nat × Nat)) (p z : Nat),Contig p r z → ∀ x ∈ r,∀ y ∈ r,¬ (x.2.1 < y.2.1 ∧ y.2.1 < x.2.2)
 | [],_,_,_,x,hx,_,_=>by simp at hx
 | a :: r,p,z,h,x,hx,y,hy=>by
  obtain ⟨h1,h2,h3⟩:=h
  have hle : ∀ {r : List (Nat × Nat × Nat)} {p z : Nat},Contig p r z → ∀ x ∈ r,p ≤ x.2.1:=by
   intro r
   induction r with
   | nil=>intro p z _ x hx;simp at hx
   | cons w r ih =>
    intro p z h x hx
    obtain ⟨k1,k2,k3⟩:=h
    rcases List.mem_cons.1 hx with rfl | hx
    ·omega
    ·have:=ih k3 x hx;omega
  rcases List.mem_cons.1 hx with ex | hx'
  ·rcases List.mem_cons.1 hy with ey | hy'
   ·rw [ex,ey];omega
   ·have:=hle h3 y hy';rw [ex];omega
  ·rcases List.mem_cons.1 hy with ey | hy'
   ·have:=hle h3 x hx';rw [ey];omega
   ·exact place_gap s r _ z h3 x hx' y hy'
theorem in_rune : ∀ (r : List (Nat × Nat × Nat)) (p z q : Nat),Contig p r z → p ≤ q → q < z → ∃ x ∈ r,x.2.1 ≤ q ∧ q < x.2.2
 | [],p,z,q,h,h1,h2=>by have : p = z:=h;omega
 | a :: r,p,z,q,h,h1,h2=>by
  obtain ⟨k1,k2,k3⟩:=h
  rcases Nat.lt_or_ge q a.2.2 with hlt | hge
  ·exact ⟨a,by simp,by omega,hlt⟩
  ·obtain ⟨x,hx,e⟩:=in_rune r _ z q k3 hge h2
   exact ⟨x,by simp [hx],e⟩
theorem edge_iff (s : ByteArray) {z : Nat} (hz : z ≤ s.size) : edgeB s z = true ↔ PlaceAt s z:=by
 unfold edgeB
 rw [List.all_eq_true]
 constructor
 ·intro h
  rcases Nat.lt_or_ge z s.size with hlt | hge
  ·obtain ⟨x,hx,h1,h2⟩:=in_rune _ 0 s.size z (runesP_contig s) (Nat.zero_le _) hlt
   have hb:=runesP_bd x hx
   have hd:=runesGo_dec _ _ x hx
   rcases Nat.lt_or_ge x.2.1 z with h3 | h3
   ·exfalso
    have:=h (z - x.2.1) (by simp;omega)
    rw [show z - (z - x.2.1) = x.2.1 by omega,hd] at this
    simp at this
    omega
   ·exact .inr ⟨x,hx,by omega⟩
  ·exact .inl (by omega)
 ·intro hp b hb
  simp only [List.mem_cons,List.not_mem_nil,or_false] at hb
  rw [Bool.not_eq_true',Bool.and_eq_false_iff,decide_eq_false_iff_not,decide_eq_false_iff_not]
  by_cases hbz : b ≤ z
  ·refine .inr fun hw=>?_
   obtain ⟨⟨R,W⟩,hD⟩ : ∃ d,Utf8.decode s (z - b) = d:=⟨_,rfl⟩
   rw [hD] at hw
   simp only at hw
   have hroom:=dec_in hD (by omega)
   have hl:=dec_lead hD (by omega)
   obtain ⟨x,hx,e⟩:=lead_at s (z:=z - b) (by omega) (by omega) s.size 0 (by omega) (Nat.zero_le _)
   have hd:=runesGo_dec _ _ x hx
   rw [e,hD] at hd
   injection hd with _ hd2
   have hbd:=runesP_bd x hx
   rcases hp with h | ⟨y,hy,h⟩
   ·omega
   ·exact place_gap s _ 0 s.size (runesP_contig s) x hx y hy (by omega)
  ·exact .inl hbz
end Go.Proofs.YtglmcknlnoknoaaGreatDoor
/- -/
namespace Go.Proofs.YtglmcknlnoknoaaGreatDoor
open Go.RowKit
end Go.Proofs.YtglmcknlnoknoaaGreatDoor
/- -/
namespace Go.Proofs.YtglmcknlnoknoaaGreatDoor
open Go.RowKit
def OwnB (w : World) (B : Nat) (v : Value) (l : List UInt8) : Prop:=w.ownsRow B 5 1 v l.length (Lib.byteCells l)
theorem OwnB.convert {w : World} {B : Nat} {v : Value} {l : List UInt8} (h : OwnB w B v l) : (convert 164 9 v).run Tryz.prog w = .ok (.string ⟨l.toArray⟩) w:=by
 unfold OwnB at h
 rcases h.2 with ⟨rfl,h0⟩ | ⟨g,cap,cur,rfl,_,hg,_,_,_,ht⟩
 ·have : l = []:=List.length_eq_zero_iff.1 h0
  subst this
  exact Lib.run_convert_nil_bytes w 164 9 5 0 Tryz.underlying164 Tryz.underlying5 Tryz.underlying9
 ·exact run_convert_bytes_back w 164 9 5 ⟨g,0,none⟩ cap l Tryz.underlying164 Tryz.underlying5 Tryz.underlying9 (Lib.bytes_of_row hg (by simpa using ht))
theorem OwnB.lt {w : World} {B : Nat} {v : Value} {l : List UInt8} (h : OwnB w B v l) : ∀ k,v.ownBlock = some k → B ≤ k:=fun k hk=>(World.ownsRow.lt h k hk).1
theorem OwnB.str {w : World} {B : Nat} {v : Value} {l : List UInt8} {s : ByteArray} {n : Nat} (h : w.ownsRow B 5 1 v (n + s.size) (Lib.byteCells l ++ Lib.strCells s)) (hn : n = l.length) : OwnB w B v (l ++ s.data.toList):=by
 unfold OwnB
 subst hn
 have e1 : Lib.byteCells (l ++ s.data.toList) = Lib.byteCells l ++ Lib.strCells s:=by simp [Lib.byteCells,Lib.strCells]
 rw [e1,List.length_append,Array.length_toList]
 exact h
theorem cell_grown {w w' : World} {o : Obj} {B b i : Nat} {v u : Value} {l : List UInt8} (hu : w.cell? ⟨b,i,none⟩ = some u) (ho : OwnB (w.alloc o) B v l) (hg : (w.alloc o).grownBy w' v.ownBlock) (hb : b < B) : w'.cell? ⟨b,i,none⟩ = some u:=by
 have h1 : (w.alloc o).cell? ⟨b,i,none⟩ = some u:=cell_keep hu ((Below.refl _ _).alloc (Nat.le_refl _) o)
 exact (World.cell?_of_block (hg.block b (cell_lt h1) (fun e=>by have:=ho.lt b e.symm;omega))).trans h1
theorem cell_grownS {w w' : World} {B b i : Nat} {v u : Value} {l : List UInt8} (hu : w.cell? ⟨b,i,none⟩ = some u) (ho : OwnB w B v l) (hg : w.grownBy w' v.ownBlock) (hb : b < B) : w'.cell? ⟨b,i,none⟩ = some u :=
 (World.cell?_of_block (hg.block b (cell_lt hu) (fun e=>by have:=ho.lt b e.symm;omega))).trans hu
end Go.Proofs.YtglmcknlnoknoaaGreatDoor
/- -/
namespace Go.Proofs.YtglmcknlnoknoaaGreatDoor
end Go.Proofs.YtglmcknlnoknoaaGreatDoor
/- -/
namespace Go.Proofs.YtglmcknlnoknoaaGreatDoor
def edgesP (s : ByteArray) : List Nat:=(runesP s).map (fun x=>x.2.1) ++ [s.size]
end Go.Proofs.YtglmcknlnoknoaaGreatDoor
/- -/
namespace Go.Proofs.YtglmcknlnoknoaaGreatDoor
inductive El where
 | one (cs : List Nat)
 | many (cs : List Nat)
 | may (cs : List Nat)
def eat : List El → List Nat → Bool
 | [],_=>true
 | .one _ :: _,[]=>false
 | .one cs :: es,x :: r=>cs.contains x && eat es r
 | .many cs :: es,r=>eat es (r.dropWhile fun x=>cs.contains x)
 | .may _ :: es,[]=>eat es []
 | .may cs :: es,x :: r=>if cs.contains x then eat es r else eat es (x :: r)
structure RB where
 cut : Bool
 f : List Nat → Bool
 g : List Nat → Bool
end Go.Proofs.YtglmcknlnoknoaaGreatDoor
/- -/
namespace Go.Proofs.YtglmcknlnoknoaaGreatDoor
end Go.Proofs.YtglmcknlnoknoaaGreatDoor
/- -/
namespace Go.Proofs.YtglmcknlnoknoaaGreatDoor
def tests : List RB:=[
 ⟨false,eat [.one [1]],eat [.one [2]]⟩,
 ⟨true,eat [.one [1,2,3]],eat []⟩,
 ⟨false,eat [],eat [.one [13]]⟩,
 ⟨false,eat [.many [13],.one [9]],eat [.one [8]]⟩,
 ⟨false,eat [.many [13],.one [9],.many [13],.one [6,5]],eat [.one [6]]⟩,
 ⟨false,eat [.many [4,13],.many [11,13],.one [9]],eat [.many [0,4,8,11,12,13],.one [5]]⟩,
 ⟨false,eat [.many [4,13],.many [11,13],.one [9,10]],eat [.one [12,9,10]]⟩,
 ⟨false,eat [.many [11,13],.one [9,10]],eat [.one [11,4,3,1,2]]⟩,
 ⟨false,eat [.many [4,13],.many [11,13],.one [9,10]],eat [.one [4,3,1,2]]⟩,
 ⟨true,eat [.many [4,13],.many [11,13],.one [9,10]],eat []⟩]
end Go.Proofs.YtglmcknlnoknoaaGreatDoor
/- -/
namespace Go.Proofs.YtglmcknlnoknoaaGreatDoor
open Go.RowKit
abbrev Sv:=Option Addr × Nat × Nat
abbrev Pv:=Nat × Sv × Sv
def encPt (v : Pv) : List Value:=[.int .i64 (v.1 : Int),.slice v.2.1.1 v.2.1.2.1 v.2.1.2.2,.slice v.2.2.1 v.2.2.2.1 v.2.2.2.2]
structure SlX (w : World) (X : Nat → Prop) (s : Nat) (v : Sv) (cs : List (List Value)) : Prop where
 rd : Rd w s v.1 cs
 len : cs.length = v.2.1
 inn : ∀ a,v.1 = some a → X a.block ∧ a.block < w.heap.size
 cap : v.2.1 ≤ v.2.2
structure KeepX (X X' : Nat → Prop) (w w' : World) : Prop where
 size : w.heap.size ≤ w'.heap.size
 block : ∀ b,X b → b < w.heap.size → w'.heap[b]? = w.heap[b]?
 more : ∀ b,X b → b < w.heap.size → X' b
theorem KeepX.below {X : Nat → Prop} {w w' : World} (hb : Below w.heap.size w w') : KeepX X X w w':=⟨hb.size,fun b _ h=>hb.block b h,fun _ h _=>h⟩
theorem KeepX.grown {X : Nat → Prop} {w w' : World} {row : Option Nat} (hg : w.grownBy w' row) (hr : ∀ r,row = some r → ¬ X r) : KeepX X X w w' :=
 ⟨hg.size,fun b hb h=>hg.block b h (fun e=>hr b e.symm hb),fun _ h _=>h⟩
theorem KeepX.same {X X' : Nat → Prop} {w : World} (h : ∀ b,X b → b < w.heap.size → X' b) : KeepX X X' w w:=⟨Nat.le_refl _,fun _ _ _=>rfl,h⟩
theorem KeepX.trans {X Y Z : Nat → Prop} {a b c : World} (h : KeepX X Y a b) (k : KeepX Y Z b c) : KeepX X Z a c :=
 ⟨Nat.le_trans h.size k.size,fun i hi hl=>(k.block i (h.more i hi hl) (Nat.lt_of_lt_of_le hl h.size)).trans (h.block i hi hl),fun i hi hl=>k.more i (h.more i hi hl) (Nat.lt_of_lt_of_le hl h.size)⟩
theorem SlX.keep {X X' : Nat → Prop} {w w' : World} {s : Nat} {v : Sv} {cs : List (List Value)} (h : SlX w X s v cs) (k : KeepX X X' w w') : SlX w' X' s v cs :=
 ⟨h.rd.keep fun b off i u ha hc=>by
   obtain ⟨h1,h2⟩:=h.inn _ ha
   have:=k.block b h1 h2
   rw [← hc]
   simp [World.cell?,this],
  h.len,fun a ha=>⟨k.more _ (h.inn a ha).1 (h.inn a ha).2,Nat.lt_of_lt_of_le (h.inn a ha).2 k.size⟩,h.cap⟩
theorem SlX.own {w : World} {base : Nat} {e : TypeId} {s : Nat} {A : Option Addr} {n c : Nat} {cs : List (List Value)} {X : Nat → Prop} (h : Own w base e s A n c cs) (hs : 0 < s) (hX : ∀ a,A = some a → X a.block) : SlX w X s (A,n,c) cs :=
 ⟨h.rd hs,h.len,fun a ha=>⟨hX a ha,(h.lt a ha).2⟩,h.cap.1⟩
theorem SlX.nil_ (w : World) (X : Nat → Prop) (s : Nat) : SlX w X s (none,0,0) []:=⟨Rd.nil_ _ _ _,rfl,(fun a h=>by cases h),Nat.le_refl _⟩
mutual
def PatX (w : World) (X : Nat → Prop) : Pat → Pv → Prop
 | .node op cs ks,v=>v.1 = op ∧ SlX w X 1 v.2.1 (cs.map encN) ∧ ∃ vs,SlX w X 3 v.2.2 (vs.map encPt) ∧ PatsX w X ks vs
def PatsX (w : World) (X : Nat → Prop) : List Pat → List Pv → Prop
 | [],vs=>vs = []
 | p :: ps,vs=>∃ v r,vs = v :: r ∧ PatX w X p v ∧ PatsX w X ps r
end
mutual
theorem PatX.keep {X X' : Nat → Prop} {w w' : World} (k : KeepX X X' w w') : ∀ {p : Pat} {v : Pv},PatX w X p v → PatX w' X' p v
 | .node op cs ks,v,h=>by
  simp only [PatX] at h ⊢
  obtain ⟨h1,h2,vs,h3,h4⟩:=h
  exact ⟨h1,h2.keep k,vs,h3.keep k,PatsX.keep k h4⟩
theorem PatsX.keep {X X' : Nat → Prop} {w w' : World} (k : KeepX X X' w w') : ∀ {ps : List Pat} {vs : List Pv},PatsX w X ps vs → PatsX w' X' ps vs
 | [],vs,h=>by simpa only [PatsX] using h
 | p :: ps,vs,h=>by
  simp only [PatsX] at h ⊢
  obtain ⟨v,r,h1,h2,h3⟩:=h
  exact ⟨v,r,h1,PatX.keep k h2,PatsX.keep k h3⟩
end
theorem PatX.below {X : Nat → Prop} {w w' : World} {p : Pat} {v : Pv} (h : PatX w X p v) (hb : Below w.heap.size w w') : PatX w' X p v:=h.keep (KeepX.below hb)
theorem PatsX.below {X : Nat → Prop} {w w' : World} {p : List Pat} {v : List Pv} (h : PatsX w X p v) (hb : Below w.heap.size w w') : PatsX w' X p v:=h.keep (KeepX.below hb)
theorem PatsX.len {X : Nat → Prop} {w : World} : ∀ {ps : List Pat} {vs : List Pv},PatsX w X ps vs → vs.length = ps.length
 | [],vs,h=>by simp only [PatsX] at h;rw [h];rfl
 | p :: ps,vs,h=>by
  simp only [PatsX] at h
  obtain ⟨v,r,rfl,h2,h3⟩:=h
  simp [PatsX.len h3]
theorem PatsX.at_ {X : Nat → Prop} {w : World} : ∀ {ps : List Pat} {vs : List Pv} {k : Nat} {p : Pat},PatsX w X ps vs → ps[k]? = some p → ∃ v,vs[k]? = some v ∧ PatX w X p v
 | [],vs,k,p,h,hk=>by simp at hk
 | q :: ps,vs,k,p,h,hk=>by
  simp only [PatsX] at h
  obtain ⟨v,r,rfl,h2,h3⟩:=h
  cases k with
  | zero=>simp at hk;subst hk;exact ⟨v,by simp,h2⟩
  | succ k=>simp at hk;obtain ⟨u,hu,hp⟩:=PatsX.at_ h3 hk;exact ⟨u,by simpa using hu,hp⟩
theorem PatsX.snoc {X : Nat → Prop} {w : World} {p : Pat} {v : Pv} (hp : PatX w X p v) : ∀ {ps : List Pat} {vs : List Pv},PatsX w X ps vs → PatsX w X (ps ++ [p]) (vs ++ [v])
 | [],vs,h=>by simp only [PatsX] at h;subst h;simp only [List.nil_append,PatsX];exact ⟨v,[],rfl,hp,rfl⟩
 | q :: ps,vs,h=>by
  simp only [PatsX] at h
  obtain ⟨u,r,rfl,h2,h3⟩:=h
  simp only [List.cons_append,PatsX]
  exact ⟨u,r ++ [v],rfl,h2,PatsX.snoc hp h3⟩
theorem encPt_ok (l : List Pv) : ∀ y ∈ l.map encPt,y.length = 3 ∧ ∀ u ∈ y,u.oneCell' = true:=by
 intro y hy
 obtain ⟨x,_,rfl⟩:=List.mem_map.1 hy
 exact ⟨rfl,fun u hu=>by simp [encPt] at hu;rcases hu with rfl | rfl | rfl <;> rfl⟩
theorem SlX.atPt {w : World} {X : Nat → Prop} {v : Sv} {l : List Pv} {k : Nat} {x : Pv} (h : SlX w X 3 v (l.map encPt)) (hk : l[k]? = some x) :
  ∃ b off,v.1 = some ⟨b,off,none⟩ ∧ w.cell? ⟨b,off + k * 3,none⟩ = some (.int .i64 (x.1 : Int)) ∧ w.cell? ⟨b,off + k * 3 + 1,none⟩ = some (.slice x.2.1.1 x.2.1.2.1 x.2.1.2.2) ∧ w.cell? ⟨b,off + k * 3 + 2,none⟩ = some (.slice x.2.2.1 x.2.2.2.1 x.2.2.2.2):=by
 obtain ⟨b,off,e,hc⟩:=h.rd (by intro e;cases l with | nil=>simp at hk | cons _ _=>simp at e)
 have h0:=hc k 0 (encPt x) _ (by simp [hk]) rfl
 have h1:=hc k 1 (encPt x) _ (by simp [hk]) rfl
 have h2:=hc k 2 (encPt x) _ (by simp [hk]) rfl
 exact ⟨b,off,e,by simpa using h0,h1,h2⟩
end Go.Proofs.YtglmcknlnoknoaaGreatDoor
/- -/
namespace Go.Proofs.YtglmcknlnoknoaaGreatDoor
open Go.RowKit
section
variable {w w' : World} {base n c k : Nat} {A : Option Addr} {rows : List Sv} {C : List (List Nat)}
end
end Go.Proofs.YtglmcknlnoknoaaGreatDoor
/- -/
namespace Go.Proofs.YtglmcknlnoknoaaGreatDoor
open Go.RowKit
end Go.Proofs.YtglmcknlnoknoaaGreatDoor
/- -/
namespace Go.Proofs.YtglmcknlnoknoaaGreatDoor
open Go.RowKit
theorem below_new {w w' : World} (h : w.grownBy w' none) : Below w.heap.size w w':=⟨h.os,h.tape,h.output,h.size,fun k hk=>h.block k hk (fun e=>by cases e)⟩
end Go.Proofs.YtglmcknlnoknoaaGreatDoor
/- -/
namespace Go.Proofs.YtglmcknlnoknoaaGreatDoor
open Go.RowKit
end Go.Proofs.YtglmcknlnoknoaaGreatDoor
/- -/
namespace Go.Proofs.YtglmcknlnoknoaaGreatDoor
open Go.RowKit
end Go.Proofs.YtglmcknlnoknoaaGreatDoor
/- -/
namespace Go.Proofs.YtglmcknlnoknoaaGreatDoor
open Go.RowKit
end Go.Proofs.YtglmcknlnoknoaaGreatDoor
/- -/
namespace Go.Proofs.YtglmcknlnoknoaaGreatDoor
end Go.Proofs.YtglmcknlnoknoaaGreatDoor
/- -/
namespace Go.Proofs.YtglmcknlnoknoaaGreatDoor
theorem runeAt_app : ∀ (p l : List UInt8) (a : Nat),runeAt (bytesOf (p ++ l)) (p.length + a) = runeAt (bytesOf l) a
 | [],l,a=>by rw [List.nil_append,List.length_nil,Nat.zero_add]
 | c :: p,l,a=>by rw [List.cons_append,List.length_cons,show p.length + 1 + a = (p.length + a) + 1 by omega,runeAt_sh];exact runeAt_app p l a
theorem runeAt_drop (s : ByteArray) (a b : Nat) (h : a ≤ s.size) : runeAt s (a + b) = runeAt (bytesOf (s.data.toList.drop a)) b:=by
 have h1:=runeAt_app (s.data.toList.take a) (s.data.toList.drop a) b
 rw [List.take_append_drop,bytesOf_data,List.length_take,size_data,Nat.min_eq_left h] at h1
 exact h1
theorem quoted_qt (s : ByteArray) (a : Nat) (h : a ≤ s.size) : match qtL (s.data.toList.drop a) with
  | some k=>(quotedP s a).2.2 = true ∧ (quotedP s a).2.1 + 2 = k
  | none=>(quotedP s a).2.2 = false:=by
 unfold quotedP
 cases hd : s.data.toList.drop a with
 | nil =>
  have : (rest s a).head? = none:=by unfold rest;rw [hd];rfl
  rw [if_neg (by rw [this];simp)];rfl
 | cons c r =>
  have h1:=runeAt_drop s a 1 h
  rw [hd] at h1
  rw [qtS_cons,← h1]
  have h2 : (rest s a).head? = some c:=by unfold rest;rw [hd];rfl
  have h3 : (rest s (a + 1 + (runeAt s (a + 1)).2)).head? = r[(runeAt s (a + 1)).2]?:=by
   unfold rest
   rw [Nat.add_assoc,← List.drop_drop,hd,Nat.add_comm 1,List.drop_succ_cons,List.head?_drop]
  rw [h2,h3]
  by_cases hc : c = 39 ∧ (runeAt s (a + 1)).2 ≠ 0 ∧ r[(runeAt s (a + 1)).2]? = some 39
  ·rw [if_pos hc,if_pos ⟨by rw [hc.1],hc.2⟩]
   exact ⟨rfl,rfl⟩
  ·rw [if_neg hc,if_neg (fun k=>hc ⟨by injection k.1,k.2⟩)]
def cutD (l : List UInt8) (i : Nat) (semi : Option Nat) : Nat × Option Nat:=cutGo l.length l i semi
theorem cutD_fuel {f : Nat} {l : List UInt8} (i : Nat) (semi : Option Nat) (h : l.length ≤ f) : cutGo f l i semi = cutD l i semi:=by
 unfold cutD
 rw [cutGo_eq f l i semi h,cutGo_eq l.length l i semi (Nat.le_refl _)]
def CutAt (L : List UInt8) (i : Nat) (semi : Option Nat) : Prop:=i ≤ L.length ∧ cutD (L.drop i) i semi = cutD L 0 none ∧ ∀ k,semi = some k → k ≤ i
theorem cutAt_first (L : List UInt8) : CutAt L 0 none:=⟨by omega,by rw [List.drop_zero],fun k h=>by cases h⟩
theorem cutAt_qt {L : List UInt8} {i k : Nat} {semi : Option Nat} (h : CutAt L i semi) (hq : qtL (L.drop i) = some k) : CutAt L (i + k) semi:=by
 have hk:=qtL_some hq
 rw [List.length_drop] at hk
 refine ⟨by omega,?_,fun j hj=>by have:=h.2.2 j hj;omega⟩
 rw [← h.2.1]
 cases hd : L.drop i with
 | nil=>rw [hd] at hq;cases hq
 | cons x r =>
  rw [hd] at hq
  unfold cutD
  rw [List.length_cons,cutGo]
  simp only [hq]
  have h2 : (x :: r).drop k = L.drop (i + k):=by rw [← hd,List.drop_drop]
  rw [h2]
  have h3 : (L.drop (i + k)).length ≤ r.length:=by
   have : (L.drop i).length = r.length + 1:=by rw [hd];rfl
   rw [List.length_drop] at this ⊢;omega
  rw [cutD_fuel (i + k) semi h3];rfl
section
variable {L : List UInt8} {i : Nat} {semi : Option Nat} {x : UInt8} (h : CutAt L i semi) (hx : L[i]? = some x) (hq : qtL (L.drop i) = none)
include h hx hq
theorem cutAt_step : cutD L 0 none = if x = 35 then (i,semi) else if x = 59 ∧ semi = none then cutD (L.drop (i + 1)) (i + 1) (some i) else cutD (L.drop (i + 1)) (i + 1) semi:=by
 rw [← h.2.1,drop_at hx]
 rw [drop_at hx] at hq
 unfold cutD
 rw [List.length_cons,cutGo]
 simp only [hq]
theorem cutAt_hash (he : x = 35) : cutD L 0 none = (i,semi):=by rw [cutAt_step h hx hq,if_pos he]
theorem cutAt_semi (he : x = 59) (hs : semi = none) : CutAt L (i + 1) (some i) :=
 ⟨(List.getElem?_eq_some_iff.1 hx).1,by rw [cutAt_step h hx hq,if_neg (by rw [he];decide),if_pos ⟨he,hs⟩],fun k hk=>by injection hk with hk;omega⟩
theorem cutAt_go (he : x ≠ 35) (hs : ¬ (x = 59 ∧ semi = none)) : CutAt L (i + 1) semi :=
 ⟨(List.getElem?_eq_some_iff.1 hx).1,by rw [cutAt_step h hx hq,if_neg he,if_neg hs],fun k hk=>by have:=h.2.2 k hk;omega⟩
end
theorem cutAt_end {L : List UInt8} {i : Nat} {semi : Option Nat} (h : CutAt L i semi) (hi : ¬ i < L.length) : cutD L 0 none = (L.length,semi):=by
 rw [← h.2.1,List.drop_of_length_le (by omega)]
 have : i = L.length:=by have:=h.1;omega
 rw [← this];rfl
theorem cutD_is (L : List UInt8) : cutD L 0 none = (hashP L,findP 59 (L.take (hashP L))):=by
 unfold cutD
 rw [cutGo_eq L.length L 0 none (Nat.le_refl _),Nat.zero_add]
 congr 1
 cases findP 59 (L.take (hashP L)) <;> rfl
theorem ext_bytes (l : List UInt8) (a : Nat) : (bytesOf l).extract a (bytesOf l).size = bytesOf (l.drop a):=by
 apply ByteArray.ext;apply Array.toList_inj.1
 rw [rest_extract,bytesOf_list];unfold rest;rw [bytesOf_list]
theorem ext_bytes0 (l : List UInt8) (a : Nat) : (bytesOf l).extract 0 a = bytesOf (l.take a):=by
 apply ByteArray.ext;apply Array.toList_inj.1
 rw [Lib.extract_data,bytesOf_list,bytesOf_list];simp
theorem ext_bytes2 (l : List UInt8) (a b : Nat) : (bytesOf l).extract a b = bytesOf ((l.drop a).take (b - a)):=by
 apply ByteArray.ext;apply Array.toList_inj.1
 rw [Lib.extract_data,bytesOf_list,bytesOf_list]
theorem trim_last {l : List UInt8} {c : UInt8} (hl : l.getLast? = some c) : (blkB c = true → trimR l = trimR (l.take (l.length - 1))) ∧ (blkB c = false → trimR l = l):=by
 have hs : l = l.dropLast ++ [c]:=by
  rcases List.eq_nil_or_concat l with rfl | ⟨o,y,rfl⟩
  ·cases hl
  ·simp at hl;subst hl;simp
 have hd : l.take (l.length - 1) = l.dropLast:=by rw [List.dropLast_eq_take]
 rw [hd]
 constructor
 ·intro h
  conv=>lhs;rw [hs]
  exact trimR_app (by intro d hd;simp at hd;subst hd;exact h)
 ·intro h
  unfold trimR
  rw [hs,List.reverse_append]
  rw [show [c].reverse ++ l.dropLast.reverse = c :: l.dropLast.reverse from rfl,dropWhile_stop h]
  simp
theorem drop_blank {c : UInt8} {r : List UInt8} (h : blkB c = true) : (c :: r).dropWhile blkB = r.dropWhile blkB:=by rw [List.dropWhile_cons,if_pos h]
end Go.Proofs.YtglmcknlnoknoaaGreatDoor
/- -/
namespace Go.Proofs.YtglmcknlnoknoaaGreatDoor
open Go.RowKit
end Go.Proofs.YtglmcknlnoknoaaGreatDoor
/- -/
namespace Go.Proofs.YtglmcknlnoknoaaGreatDoor
open Go.RowKit
end Go.Proofs.YtglmcknlnoknoaaGreatDoor
/- -/
namespace Go.Proofs.YtglmcknlnoknoaaGreatDoor
open Go.RowKit
end Go.Proofs.YtglmcknlnoknoaaGreatDoor
/- -/
namespace Go.Proofs.YtglmcknlnoknoaaGreatDoor
open Go.RowKit
end Go.Proofs.YtglmcknlnoknoaaGreatDoor
/- -/
namespace Go.Proofs.YtglmcknlnoknoaaGreatDoor
open Go.RowKit
end Go.Proofs.YtglmcknlnoknoaaGreatDoor
/- -/
namespace Go.Proofs.YtglmcknlnoknoaaGreatDoor
open Go.RowKit
end Go.Proofs.YtglmcknlnoknoaaGreatDoor
/- -/
namespace Go.Proofs.YtglmcknlnoknoaaGreatDoor
open Go.RowKit
end Go.Proofs.YtglmcknlnoknoaaGreatDoor
/- -/
namespace Go.Proofs.YtglmcknlnoknoaaGreatDoor
open Go.RowKit Go.Maps
end Go.Proofs.YtglmcknlnoknoaaGreatDoor
/- -/
namespace Go.Proofs.YtglmcknlnoknoaaGreatDoor
open Go.RowKit Go.Maps
end Go.Proofs.YtglmcknlnoknoaaGreatDoor
/- -/
namespace Go.Proofs.YtglmcknlnoknoaaGreatDoor
open Go.RowKit Go.Maps
theorem blk_true {c : UInt8} (h : (c.toNat : Int) = 32 ∨ (c.toNat : Int) = 9) : blkB c = true:=by
 have h1 : c = 32 ↔ c.toNat = 32:=u8_eq (n:=32) (by omega)
 have h2 : c = 9 ↔ c.toNat = 9:=u8_eq (n:=9) (by omega)
 simp only [blkB,Bool.or_eq_true,beq_iff_eq,h1,h2];omega
theorem blk_false {c : UInt8} (h : ¬ ((c.toNat : Int) = 32 ∨ (c.toNat : Int) = 9)) : blkB c = false:=by
 cases hb : blkB c with
 | false=>rfl
 | true =>
  have h1 : c = 32 ↔ c.toNat = 32:=u8_eq (n:=32) (by omega)
  have h2 : c = 9 ↔ c.toNat = 9:=u8_eq (n:=9) (by omega)
  refine absurd ?_ h
  simp only [blkB,Bool.or_eq_true,beq_iff_eq,h1,h2] at hb;omega
theorem vblank_any (c : UInt8) (w : World) : Calls Tryz.prog 279 #[.int .u8 (c.toNat : Int)] w fun e w'=>e = .returned (.bool (blkB c)) ∧ w = w':=by
 have HT:=Lib.hid (@blk_true c)
 have HF:=Lib.hid (@blk_false c)
 generalize (c.toNat : Int) = z at HT HF
 rcases (by omega : z = 32 ∨ z = 9 ∨ (z ≠ 32 ∧ z ≠ 9)) with h | h | ⟨h,h'⟩
 ·have HV:=Lib.hid (HT.out (.inl h))
  subst h
  go_enter Tryz.func279,Tryz.ntmps279
  go_wp2
  go_ret
  exact ⟨by rw [HV.out];rfl,rfl⟩
 ·have HV:=Lib.hid (HT.out (.inr h))
  subst h
  go_enter Tryz.func279,Tryz.ntmps279
  go_wp2
  go_ret
  exact ⟨by rw [HV.out];rfl,rfl⟩
 ·have HV:=Lib.hid (HF.out (by omega))
  have h1 : (z == 32) = false:=beq_eq_false_iff_ne.2 h
  have h2 : (z == 9) = false:=beq_eq_false_iff_ne.2 h'
  go_enter Tryz.func279,Tryz.ntmps279
  go_wp2
  go_ret
  exact ⟨by rw [HV.out];rfl,rfl⟩
def strSize : Value → Nat
 | .string s=>s.size
 | _=>0
set_option maxRecDepth 100000 in
set_option maxHeartbeats 2000000 in
theorem vtrim_any (L : List UInt8) (w : World) (hL : L.length ≤ 1000000) : Calls Tryz.prog 230 #[.string (bytesOf L)] w fun e w'=>e = .returned (.string (bytesOf (trimL L))) ∧ w = w':=by
 have HTE:=Lib.hid (trimL_eq L)
 go_enter Tryz.func230,Tryz.ntmps230
 go_wp2
 go_loopw [0] (fun v wr=>∃ l : List UInt8,v = .string (bytesOf l) ∧ l.length ≤ L.length ∧ Hid (l.dropWhile blkB = L.dropWhile blkB) ∧ wr = w) (fun v _=>strSize v)
 case atStart=>exact ⟨L,rfl,by omega,rfl,rfl⟩
 case round =>
  obtain ⟨l,rfl,hl,HD,rfl⟩:=hrel
  have hsz : (bytesOf l).size = l.length:=bytesOf_size l
  by_cases hb : ∃ c r,l = c :: r ∧ blkB c = true
  ·obtain ⟨c,r,rfl,hc⟩:=hb
   have h0 : 0 < (bytesOf (c :: r)).size:=by rw [hsz];simp
   have hix:=index_at (bytesOf (c :: r)) 0 0 rfl h0
   have hg : (bytesOf (c :: r))[0]'h0 = c:=by have:=get_list h0;rw [bytesOf_list] at this;simpa using this.symm
   rw [hg] at hix
   have hgi : (((bytesOf (c :: r))[0]'h0).toNat : Int) = (c.toNat : Int):=by rw [hg]
   have HX:=Lib.hid (ext_bytes (c :: r) 1)
   rw [hsz] at HX
   have hl2 : (r.length : Int) + 1 ≤ 1000000:=by simp at hl;omega
   clear hg
   go_wp2_with (go_at_call 279;refine (vblank_any c _).mono ?_;rw [hc];rintro e w' ⟨rfl,rfl⟩)
   go_roundw
   case rel=>exact ⟨r,by first | exact congrArg Value.string HX.out | (rw [← ext_bytes (c :: r) 1];rfl),by simp at hl;omega,Lib.hid (by rw [← HD.out,drop_blank hc]),by first | rfl | trivial⟩
   case measure=>simp only [strSize,ByteArray.size_extract,bytesOf_size,List.length_cons];omega
  ·have HLD : Hid (l = L.dropWhile blkB):=Lib.hid (by
    rw [← HD.out]
    cases l with
    | nil=>rfl
    | cons c r =>
     have : blkB c = false:=by
      cases hq : blkB c with
      | false=>rfl
      | true=>exact absurd ⟨c,r,rfl,hq⟩ hb
     exact (dropWhile_stop this).symm)
   have HTR : Hid (trimL L = trimR l):=Lib.hid (by rw [HTE.out,HLD.out])
   have hstop : l = [] ∨ ∃ c r,l = c :: r ∧ blkB c = false:=by
    cases l with
    | nil=>exact .inl rfl
    | cons c r =>
     refine .inr ⟨c,r,rfl,?_⟩
     cases hq : blkB c with
     | false=>rfl
     | true=>exact absurd ⟨c,r,rfl,hq⟩ hb
   clear hb HD HLD
   rcases hstop with rfl | ⟨c,r,rfl,hc⟩
   ·have HT0 : Hid (trimL L = []):=Lib.hid (by rw [HTR.out];rfl)
    have hz0 : (bytesOf []).size = 0:=rfl
    go_wp2_with fail
    go_loopw [0] (fun v wq=>v = .string (bytesOf []) ∧ wq = wr) (fun _ _=>0)
    case atStart=>exact ⟨rfl,rfl⟩
    case round =>
     obtain ⟨rfl,rfl⟩:=hrel
     go_wp2
     go_ret
     exact ⟨by rw [HT0.out];rfl,rfl⟩
   ·have h0 : 0 < (bytesOf (c :: r)).size:=by rw [hsz];simp
    have hix:=index_at (bytesOf (c :: r)) 0 0 rfl h0
    have hg : (bytesOf (c :: r))[0]'h0 = c:=by have:=get_list h0;rw [bytesOf_list] at this;simpa using this.symm
    rw [hg] at hix
    have hgi : (((bytesOf (c :: r))[0]'h0).toNat : Int) = (c.toNat : Int):=by rw [hg]
    clear hg
    go_wp2_with (go_at_call 279;refine (vblank_any c _).mono ?_;rw [hc];rintro e w' ⟨rfl,rfl⟩)
    go_loopw [0] (fun v wq=>∃ l : List UInt8,v = .string (bytesOf l) ∧ l.length ≤ L.length ∧ Hid (trimR l = trimL L) ∧ wq = wr) (fun v _=>strSize v)
    case atStart=>exact ⟨c :: r,rfl,hl,Lib.hid HTR.out.symm,rfl⟩
    case round =>
     clear hix hgi h0
     obtain ⟨l,rfl,hl2,HD,rfl⟩:=hrel
     have hsz2 : (bytesOf l).size = l.length:=bytesOf_size l
     rcases List.eq_nil_or_concat l with rfl | ⟨o,y,rfl⟩
     ·have HT0 : Hid (trimL L = []):=Lib.hid (by rw [← HD.out];rfl)
      have hz0 : (bytesOf []).size = 0:=rfl
      go_wp2
      go_ret
      exact ⟨by rw [HT0.out];rfl,rfl⟩
     ·rw [List.concat_eq_append] at *
      have hlast : (o ++ [y]).getLast? = some y:=by simp
      have hol : (o ++ [y]).length = o.length + 1:=by simp
      rw [hol] at hsz2 hl2
      have hp : o.length < (bytesOf (o ++ [y])).size:=by omega
      have hix:=index_at (bytesOf (o ++ [y])) ((o.length : Int) + 1 - 1) o.length (by omega) hp
      have hix2:=index_at (bytesOf (o ++ [y])) (o.length : Int) o.length rfl hp
      have hg : (bytesOf (o ++ [y]))[o.length]'hp = y:=by have:=get_list hp;rw [bytesOf_list] at this;simpa using this.symm
      rw [hg] at hix hix2
      have hgi : (((bytesOf (o ++ [y]))[o.length]'hp).toNat : Int) = (y.toNat : Int):=by rw [hg]
      clear hg
      cases hy : blkB y with
      | true =>
       have HX : Hid ((bytesOf (o ++ [y])).extract 0 o.length = bytesOf o):=Lib.hid (by rw [ext_bytes0];simp)
       have HD' : Hid (trimR o = trimL L):=Lib.hid (by rw [← HD.out,(trim_last hlast).1 hy,hol,Nat.add_sub_cancel];simp)
       go_wp2_with (go_at_call 279;refine (vblank_any y _).mono ?_;rw [hy];rintro e w' ⟨rfl,rfl⟩)
       go_roundw
       case rel=>exact ⟨o,congrArg Value.string HX.out,by omega,HD',by first | rfl | trivial⟩
       case measure=>simp only [strSize,ByteArray.size_extract,bytesOf_size,List.length_append,List.length_singleton];omega
      | false =>
       have HD' : Hid (trimL L = o ++ [y]):=Lib.hid (by rw [← HD.out,(trim_last hlast).2 hy])
       go_wp2_with (go_at_call 279;refine (vblank_any y _).mono ?_;rw [hy];rintro e w' ⟨rfl,rfl⟩)
       go_ret
       exact ⟨by rw [HD'.out];rfl,rfl⟩
end Go.Proofs.YtglmcknlnoknoaaGreatDoor
/- -/
namespace Go.Proofs.YtglmcknlnoknoaaGreatDoor
open Go.RowKit Go.Maps
theorem Rd.atS {w : World} {A : Option Addr} {l : List (List UInt8)} {k : Nat} {x : List UInt8} (h : Rd w 1 A (l.map encNm)) (hk : l[k]? = some x) : ∃ b off,A = some ⟨b,off,none⟩ ∧ w.cell? ⟨b,off + k,none⟩ = some (.string (bytesOf x)):=by
 obtain ⟨b,off,rfl,hc⟩:=h (by intro e;cases l with | nil=>simp at hk | cons _ _=>simp at e)
 have h0:=hc k 0 (encNm x) (.string (bytesOf x)) (by simp [hk]) rfl
 exact ⟨b,off,rfl,by simpa using h0⟩
end Go.Proofs.YtglmcknlnoknoaaGreatDoor
/- -/
namespace Go.Proofs.YtglmcknlnoknoaaGreatDoor
open Go.RowKit Go.Maps
structure RfX (w : World) (base p x : Nat) (An : Option Addr) (nn cn : Nat) (As : Option Addr) (ns cs : Nat) (xs : List (Option Addr × Nat × Nat)) (N : List (List UInt8)) (S : List (List (Int × Int))) : Prop where
 blk : Blk w p 194 #[.slice An nn cn,.slice As ns cs]
 pb : base ≤ p
 hn : Own w base 9 1 An nn cn (N.map encNm)
 hs : Own w base 218 1 As ns cs (xs.map encSl)
 hx : Sets w base xs S
 xp : x ≠ p
 xn : ∀ a,An = some a → a.block ≠ x
 xs_ : ∀ a,As = some a → a.block ≠ x
structure RfB (w : World) (base p x : Nat) (N : List (List UInt8)) (S : List (List (Int × Int))) : Prop where
 ex : ∃ (An : Option Addr) (nn cn : Nat) (As : Option Addr) (ns cs : Nat) (xs : List (Option Addr × Nat × Nat)),RfX w base p x An nn cn As ns cs xs N S
section
variable {w w' : World} {base p x : Nat} {An : Option Addr} {nn cn : Nat} {As : Option Addr} {ns cs : Nat} {xs : List (Option Addr × Nat × Nat)} {N : List (List UInt8)} {S : List (List (Int × Int))}
theorem RfX.below (h : RfX w base p x An nn cn As ns cs xs N S) (hb : Below w.heap.size w w') : RfX w' base p x An nn cn As ns cs xs N S:=⟨h.blk.below hb,h.pb,h.hn.below hb,h.hs.below hb,h.hx.below hb,h.xp,h.xn,h.xs_⟩
theorem RfB.below (h : RfB w base p x N S) (hb : Below w.heap.size w w') : RfB w' base p x N S:=by
 obtain ⟨a1,a2,a3,a4,a5,a6,a7,h⟩:=h.ex
 exact ⟨a1,a2,a3,a4,a5,a6,a7,h.below hb⟩
theorem RfX.lenN (h : RfX w base p x An nn cn As ns cs xs N S) : N.length = nn:=by simpa using h.hn.len
theorem RfX.lenS (h : RfX w base p x An nn cn As ns cs xs N S) : xs.length = ns ∧ S.length = ns:=by
 have:=h.hs.len;rw [List.length_map] at this
 exact ⟨this,by rw [← h.hx.len];exact this⟩
theorem types_rf : (9 : TypeId) ≠ 218 ∧ (9 : TypeId) ≠ 194 ∧ (218 : TypeId) ≠ 194 ∧ (9 : TypeId) ≠ 248 ∧ (218 : TypeId) ≠ 248 ∧ (194 : TypeId) ≠ 248:=by decide
theorem RfX.named {w3 : World} {o : Obj} {n : List UInt8} {A3 : Option Addr} {c3 : Nat} (h : RfX w base p x An nn cn As ns cs xs N S) (ho3 : Own w3 base 9 1 A3 (nn + 1) c3 ((N ++ [n]).map encNm))
  (hg3 : (w.alloc o).grownBy w3 (An.map (·.block))) (hA3 : A3 = An ∨ A3 = some ⟨(w.alloc o).heap.size,0,none⟩) (hx : x < w.heap.size) (hB : base ≤ w.heap.size) :
  Blk w3 p 194 #[.slice An nn cn,.slice As ns cs] ∧ RfX (w3.setCell ⟨p,0,none⟩ (.slice A3 (nn + 1) c3)) base p x A3 (nn + 1) c3 As ns cs xs (N ++ [n]) S ∧
   KX base x w (w3.setCell ⟨p,0,none⟩ (.slice A3 (nn + 1) c3)) ∧ KeepR base w (w3.setCell ⟨p,0,none⟩ (.slice A3 (nn + 1) c3)):=by
 obtain ⟨t1,t2,t3,t4,t5,t6⟩:=types_rf
 have hg:=grown_alloc hg3
 have b3 : Blk w3 p 194 #[.slice An nn cn,.slice As ns cs]:=h.blk.grown hg (fun e=>by cases An with | none=>cases e | some a=>simp at e;exact h.hn.off h.blk t2 a rfl e.symm)
 have s3 : Own w3 base 218 1 As ns cs (xs.map encSl):=h.hs.grown hg (fun a ha e=>by cases An with | none=>cases e | some b=>simp at e;exact h.hn.apart h.hs t1 b a rfl ha e.symm)
 have x3 : Sets w3 base xs S:=h.hx.grown hg (fun g q e=>own_not_R h.hn t4 g q e)
 have hxA3 : ∀ a,A3 = some a → a.block ≠ x:=fun a ha=>by
  rcases hA3 with e | e
  ·exact h.xn a (by rw [← e];exact ha)
  ·rw [e] at ha;injection ha with ha;subst ha;simp;omega
 refine ⟨b3,⟨?_,h.pb,?_,?_,?_,h.xp,hxA3,h.xs_⟩,?_,?_⟩
 ·have:=b3.set_ 0 (.slice A3 (nn + 1) c3)
  simpa using this
 ·exact ho3.setCell (fun a ha=>ho3.off b3 t2 a ha) _
 ·exact s3.setCell (fun a ha=>s3.off b3 t3 a ha) _
 ·exact x3.setCell (blk_not_R b3 t6) _
 ·refine (KX.grown hg hB (fun k hk=>?_)).trans (KX.setCell w3 h.pb (fun e=>h.xp e.symm) _)
  cases An with
  | none=>cases hk
  | some a=>simp at hk;subst hk;exact ⟨(h.hn.lt a rfl).1,h.xn a rfl⟩
 ·exact (KeepR.grown hg (fun g q e=>own_not_R h.hn t4 g q e)).trans (KeepR.setCell (blk_not_R b3 t6) _)
theorem RfX.moreSet {w3 : World} {o : Obj} {A3 : Option Addr} {c3 : Nat} (h : RfX w base p x An nn cn As ns cs xs N S) (ho3 : Own w3 base 218 1 A3 (ns + 1) c3 ((xs ++ [(none,0,0)]).map encSl))
  (hg3 : (w.alloc o).grownBy w3 (As.map (·.block))) (hA3 : A3 = As ∨ A3 = some ⟨(w.alloc o).heap.size,0,none⟩) (hx : x < w.heap.size) (hB : base ≤ w.heap.size) :
  Blk w3 p 194 #[.slice An nn cn,.slice As ns cs] ∧ RfX (w3.setCell ⟨p,1,none⟩ (.slice A3 (ns + 1) c3)) base p x An nn cn A3 (ns + 1) c3 (xs ++ [(none,0,0)]) N (S ++ [[]]) ∧
   KX base x w (w3.setCell ⟨p,1,none⟩ (.slice A3 (ns + 1) c3)) ∧ KeepR base w (w3.setCell ⟨p,1,none⟩ (.slice A3 (ns + 1) c3)):=by
 obtain ⟨t1,t2,t3,t4,t5,t6⟩:=types_rf
 have hg:=grown_alloc hg3
 have b3 : Blk w3 p 194 #[.slice An nn cn,.slice As ns cs]:=h.blk.grown hg (fun e=>by cases As with | none=>cases e | some a=>simp at e;exact h.hs.off h.blk t3 a rfl e.symm)
 have n3 : Own w3 base 9 1 An nn cn (N.map encNm):=h.hn.grown hg (fun a ha e=>by cases As with | none=>cases e | some b=>simp at e;exact h.hn.apart h.hs t1 a b ha rfl e)
 have x3 : Sets w3 base xs S:=h.hx.grown hg (fun g q e=>own_not_R h.hs t5 g q e)
 have hxA3 : ∀ a,A3 = some a → a.block ≠ x:=fun a ha=>by
  rcases hA3 with e | e
  ·exact h.xs_ a (by rw [← e];exact ha)
  ·rw [e] at ha;injection ha with ha;subst ha;simp;omega
 refine ⟨b3,⟨?_,h.pb,?_,?_,?_,h.xp,h.xn,hxA3⟩,?_,?_⟩
 ·have:=b3.set_ 1 (.slice A3 (ns + 1) c3)
  simpa using this
 ·exact n3.setCell (fun a ha=>n3.off b3 t2 a ha) _
 ·exact ho3.setCell (fun a ha=>ho3.off b3 t3 a ha) _
 ·exact (x3.setCell (blk_not_R b3 t6) _).snoc (Own.nil_ _ _ _ _)
 ·refine (KX.grown hg hB (fun k hk=>?_)).trans (KX.setCell w3 h.pb (fun e=>h.xp e.symm) _)
  cases As with
  | none=>cases hk
  | some a=>simp at hk;subst hk;exact ⟨(h.hs.lt a rfl).1,h.xs_ a rfl⟩
 ·exact (KeepR.grown hg (fun g q e=>own_not_R h.hs t5 g q e)).trans (KeepR.setCell (blk_not_R b3 t6) _)
theorem RfX.storeSet {g k b' : Nat} {y : Option Addr × Nat × Nat} {l : List (Int × Int)} (h : RfX w base p x An nn cn (some ⟨g,0,none⟩) ns cs xs N S) (hk : k < ns) (ho : Own w b' 248 2 y.1 y.2.1 y.2.2 (l.map encR)) (hb : base ≤ b') :
  RfX (w.setCell ⟨g,k,none⟩ (.slice y.1 y.2.1 y.2.2)) base p x An nn cn (some ⟨g,0,none⟩) ns cs (xs.set k y) N (S.set k l) ∧ KX base x w (w.setCell ⟨g,k,none⟩ (.slice y.1 y.2.1 y.2.2)):=by
 obtain ⟨t1,t2,t3,t4,t5,t6⟩:=types_rf
 have hgp : g ≠ p:=h.hs.off h.blk t3 _ rfl
 refine ⟨⟨h.blk.far (p:=⟨g,k,none⟩) (Ne.symm hgp) _,h.pb,?_,?_,?_,h.xp,h.xn,h.xs_⟩,KX.setCell w (q:=⟨g,k,none⟩) (h.hs.lt _ rfl).1 (h.xs_ ⟨g,0,none⟩ rfl) _⟩
 ·exact h.hn.setCell (p:=⟨g,k,none⟩) (fun a ha e=>h.hn.apart h.hs t1 a ⟨g,0,none⟩ ha rfl e) _
 ·exact h.hs.storedSl (by rw [h.lenS.1];exact hk) y
 ·refine Sets.set_ (h.hx.setCell (q:=⟨g,k,none⟩) (fun r=>own_not_R h.hs t5 g r rfl) _) ?_
  exact (ho.setCell (p:=⟨g,k,none⟩) (fun a ha e=>ho.apart h.hs (Ne.symm t5) a ⟨g,0,none⟩ ha rfl e) _).more hb
end
theorem bytes_inj {a b : List UInt8} : bytesOf a = bytesOf b ↔ a = b:=⟨fun h=>by rw [← bytesOf_list a,← bytesOf_list b,h],fun h=>by rw [h]⟩
theorem idx_step {N : List (List UInt8)} {n y : List UInt8} {i : Nat} (h : n ∉ N.take i) (hy : N[i]? = some y) : (y = n → N.idxOf? n = some i) ∧ (y ≠ n → n ∉ N.take (i + 1)):=by
 constructor
 ·rintro rfl
  rw [List.idxOf?,List.findIdx?_eq_some_iff_getElem]
  obtain ⟨hlt,e⟩:=List.getElem?_eq_some_iff.1 hy
  refine ⟨hlt,by simp [e],fun j hj=>?_⟩
  simp only [Bool.not_eq_true,beq_eq_false_iff_ne]
  intro hjy
  exact h (List.mem_take_iff_getElem.2 ⟨j,by omega,by simpa using hjy⟩)
 ·intro hne hm
  rw [List.take_add_one,hy] at hm
  simp at hm
  rcases hm with hm | hm
  ·exact h hm
  ·exact hne hm.symm
theorem idx_none {N : List (List UInt8)} {n : List UInt8} (h : n ∉ N) : N.idxOf? n = none:=by
 rw [List.idxOf?,List.findIdx?_eq_none_iff]
 intro x hx
 simp only [beq_eq_false_iff_ne]
 rintro rfl;exact h hx
set_option maxRecDepth 100000 in
set_option maxHeartbeats 1000000 in
theorem vClass_any (base p x : Nat) (N : List (List UInt8)) (S : List (List (Int × Int))) (n : List UInt8) (w : World) (h : RfB w base p x N S) (hN : N.length ≤ 1000000) :
  Calls Tryz.prog 234 #[.pointer (some ⟨p,0,none⟩),.string (bytesOf n)] w fun e w'=>e = .returned (.tuple #[.int .i64 (((N.idxOf? n).getD 0 : Nat) : Int),.bool (N.idxOf? n).isSome]) ∧ w = w':=by
 obtain ⟨An,nn,cn,As,ns,cs,xs,hX⟩:=h.ex
 have hl:=hX.lenN
 have Hl:=Lib.hid hl
 have hrd:=hX.hn.rd (by omega)
 have c0:=hX.blk.cell 0
 simp only [List.getElem?_toArray,List.getElem?_cons_zero] at c0
 have hnn : nn ≤ 1000000:=by omega
 clear hl h
 go_enter Tryz.func234,Tryz.ntmps234
 go_wp2
 go_loopw [6] (fun v wr=>∃ i : Nat,v = .int .i64 i ∧ i ≤ nn ∧ Hid (n ∉ N.take i) ∧ wr = w) (fun v _=>nn - (intOf v).toNat)
 case atStart=>exact ⟨0,rfl,by omega,by simp [Hid],rfl⟩
 case round =>
  obtain ⟨i,rfl,hi,HN,rfl⟩:=hrel
  by_cases hlt : i < nn
  ·obtain ⟨y,Hy⟩ : ∃ y,Hid (N[i]? = some y):=⟨_,Lib.hid (List.getElem?_eq_getElem (show i < N.length by have:=Hl.out;omega))⟩
   obtain ⟨b,off,rfl,hc⟩:=hrd.atS Hy.out
   have HI:=Lib.hid (idx_step HN.out Hy.out)
   by_cases hyn : y = n
   ·have HE:=Lib.hid (HI.out.1 hyn)
    subst hyn
    go_wp2
    go_ret2
    exact ⟨by rw [HE.out];rfl,rfl⟩
   ·have HE:=Lib.hid (HI.out.2 hyn)
    have e1 : ((bytesOf y).toList == (bytesOf n).toList) = false:=by rw [ByteArray.toList_eq,ByteArray.toList_eq,bytesOf_list,bytesOf_list];exact beq_eq_false_iff_ne.2 hyn
    have e3 : decide (bytesOf y = bytesOf n) = false:=decide_eq_false (fun k=>hyn (bytes_inj.1 k))
    clear hyn
    go_wp2
    go_roundw
    case rel=>exact ⟨i + 1,by go_num,by omega,HE,by first | rfl | trivial⟩
    case measure=>simp [intOf];omega
  ·have HE:=Lib.hid (idx_none (N:=N) (n:=n) (by have:=HN.out;rwa [List.take_of_length_le (by have:=Hl.out;omega)] at this))
   go_wp2
   go_ret2
   exact ⟨by rw [HE.out];rfl,rfl⟩
end Go.Proofs.YtglmcknlnoknoaaGreatDoor
/- -/
namespace Go.Proofs.YtglmcknlnoknoaaGreatDoor
open Go Go.RowKit
section
variable {P : Program} {Q : Exit → Act → World → Prop} {md : Region.Mode}
def tailQ (N : Act → World → Prop) (Q : Exit → Act → World → Prop) : Exit → Act → World → Prop
 | .normal,a,w=>N a w
 | e,a,w=>Q e a w
theorem wp_tailQ {N : Act → World → Prop} {o : Oper} {a : Act} {w : World} {K : Act → World → Prop} : Oper.wp P o a w K (tailQ N Q) = Oper.wp P o a w K Q:=by
 unfold Oper.wp
 generalize (execOp a.eval o).run P w = r
 cases r with
 | ok n w'=>cases n <;> simp only [Oper.upon] <;> rfl
 | halt x w'=>cases x <;> rfl
theorem lets_tailQ {N : Act → World → Prop} : LetsOut (tailQ N Q) = LetsOut Q:=rfl
def lastSink (md : Region.Mode) (l : List Oper) : Bool :=
 (List.range (l.length - 1)).all fun i=>(List.range l.length).any fun j=>decide (i < j) && ((l[j]?).map fun o=>o.after.any fun e=>Region.binds md e && e.on == i).getD false
def lastDown (md : Region.Mode) (l : List Oper) : Bool :=
 (List.range l.length).all fun j=>((l[j]?).map fun o=>o.guard.isNone && o.after.all fun e=>!Region.binds md e || decide (e.on < j)).getD true
theorem lastSink_spec {l : List Oper} (h : lastSink md l = true) {i : Nat} (hi : i < l.length - 1) : ∃ j o,i < j ∧ l[j]? = some o ∧ ∃ e ∈ o.after,Region.binds md e = true ∧ e.on = i:=by
 unfold lastSink at h
 rw [List.all_eq_true] at h
 have h1:=h i (List.mem_range.2 hi)
 rw [List.any_eq_true] at h1
 obtain ⟨j,_,h2⟩:=h1
 rw [Bool.and_eq_true,decide_eq_true_eq] at h2
 obtain ⟨h3,h4⟩:=h2
 cases ho : l[j]? with
 | none=>rw [ho] at h4;cases h4
 | some o =>
  rw [ho] at h4
  simp only [Option.map_some,Option.getD_some,Array.any_eq_true] at h4
  obtain ⟨k,hk,h5⟩:=h4
  simp only [Bool.and_eq_true,beq_iff_eq] at h5
  exact ⟨j,o,h3,ho,_,Array.getElem_mem hk,h5.1,h5.2⟩
theorem lastDown_spec {l : List Oper} (h : lastDown md l = true) {j : Nat} {o : Oper} (hj : l[j]? = some o) : o.guard = none ∧ ∀ e ∈ o.after,Region.binds md e = true → e.on < j:=by
 unfold lastDown at h
 rw [List.all_eq_true] at h
 have h1:=h j (List.mem_range.2 (List.getElem?_eq_some_iff.1 hj).1)
 rw [hj] at h1
 simp only [Option.map_some,Option.getD_some,Bool.and_eq_true,Option.isNone_iff_eq_none] at h1
 refine ⟨h1.1,fun e he hb=>?_⟩
 have h2:=Array.all_eq_true_iff_forall_mem.1 h1.2 e he
 rw [hb] at h2
 simpa using h2
structure SameHead (md : Region.Mode) (l : List Oper) (L L' : Array Bool) : Prop where
 size : L.size = l.length
 size' : L'.size = l.length - 1
 same : ∀ i,i < l.length - 1 → ∀ d,L.getD i d = L'.getD i d
 inv : ∀ (j : Nat) (o : Oper),l[j]? = some o → L.getD j false = true → ∀ e ∈ o.after,Region.binds md e = true → L.getD e.on false = true
 last : L.getD (l.length - 1) false = false
theorem getD_any {L : Array Bool} {i : Nat} (h : i < L.size) (d d' : Bool) : L.getD i d = L.getD i d':=by simp [h]
theorem head_get {l : List Oper} {i : Nat} (h : i < l.length - 1) : (l.dropLast.toArray)[i]? = l[i]?:=by
 rw [List.getElem?_toArray,List.getElem?_dropLast,if_pos h]
theorem SameHead.ready {l : List Oper} {L L' : Array Bool} (h : SameHead md l L L') (hd : lastDown md l = true) {i : Nat} (hi : i < l.length - 1) : i ∈ Region.ready md l.toArray L ↔ i ∈ Region.ready md l.dropLast.toArray L':=by
 rw [mem_ready,mem_ready,head_get hi,List.getElem?_toArray,h.same i hi]
 constructor
 ·rintro ⟨h0,o,ho,h1⟩
  exact ⟨h0,o,ho,fun e he hb=>by rw [← h.same e.on (by have:=(lastDown_spec hd ho).2 e he hb;omega)];exact h1 e he hb⟩
 ·rintro ⟨h0,o,ho,h1⟩
  exact ⟨h0,o,ho,fun e he hb=>by rw [h.same e.on (by have:=(lastDown_spec hd ho).2 e he hb;omega)];exact h1 e he hb⟩
theorem SameHead.all {l : List Oper} {L L' : Array Bool} (h : SameHead md l L L') (hs : lastSink md l = true) (hr : l.length - 1 ∈ Region.ready md l.toArray L) : ∀ (k i : Nat),i < l.length - 1 → l.length - 1 ≤ i + k → L.getD i false = true
 | 0,i,hi,hk=>by omega
 | k + 1,i,hi,hk=>by
  obtain ⟨j,o,hij,ho,e,he,hb,rfl⟩:=lastSink_spec hs hi
  have hjl:=(List.getElem?_eq_some_iff.1 ho).1
  by_cases hj : j = l.length - 1
  ·obtain ⟨_,o',ho',hall⟩:=mem_ready.1 hr
   rw [List.getElem?_toArray,← hj,ho] at ho'
   injection ho' with ho';subst ho'
   exact hall e he hb
  ·exact h.inv j o ho (h.all hs hr k j (by omega) (by omega)) e he hb
theorem SameHead.some_ready {l : List Oper} {L L' : Array Bool} (h : SameHead md l L L') (hd : lastDown md l = true) (hn : 0 < l.length) : Region.ready md l.toArray L ≠ []:=fun h0=>by
 have key : ∀ k,k < l.length → L.getD k false = true:=by
  intro k
  induction k using Nat.strongRecOn with
  | ind k ih =>
   intro hk
   cases hq : L.getD k false with
   | true=>rfl
   | false =>
    obtain ⟨o,ho⟩ : ∃ o,l[k]? = some o:=⟨_,List.getElem?_eq_getElem hk⟩
    have : k ∈ Region.ready md l.toArray L:=mem_ready.2 ⟨by rw [getD_any (by rw [h.size];exact hk) true false];exact hq,o,by rw [List.getElem?_toArray];exact ho,fun e he hb=>by
     have:=(lastDown_spec hd ho).2 e he hb
     exact ih e.on this (by omega)⟩
    rw [h0] at this;cases this
 have:=key (l.length - 1) (by omega)
 rw [h.last] at this;cases this
theorem SameHead.step {l : List Oper} {L L' : Array Bool} (h : SameHead md l L L') {i : Nat} (hi : i < l.length - 1) (hr : i ∈ Region.ready md l.toArray L) : SameHead md l (L.setIfInBounds i true) (L'.setIfInBounds i true):=by
 refine ⟨by simpa using h.size,by simpa using h.size',fun k hk d=>?_,fun j o ho hj e he hb=>?_,by rw [getD_set_ne false (by omega)];exact h.last⟩
 ·by_cases e : i = k
  ·subst e;simp [h.size,h.size',hk,show i < l.length by omega]
  ·rw [getD_set_ne d e,getD_set_ne d e];exact h.same k hk d
 ·by_cases e1 : i = j
  ·subst e1
   obtain ⟨_,o',ho',hall⟩:=mem_ready.1 hr
   rw [List.getElem?_toArray,ho] at ho'
   injection ho' with ho';subst ho'
   exact getD_set_true (hall e he hb)
  ·rw [getD_set_ne false e1] at hj
   exact getD_set_true (h.inv j o ho hj e he hb)
theorem wpOp_head {l : List Oper} (hd : lastDown md l = true) {N : Act → World → Prop} {i : Nat} (hi : i < l.length - 1) {K K' : Act → World → Prop} {a : Act} {w : World} (hK : ∀ a w,K a w → K' a w)
  (h : wpOp P l.dropLast.toArray (tailQ N Q) i K a w) : wpOp P l.toArray Q i K' a w:=by
 refine wpOp_mono hK ?_
 obtain ⟨o,ho⟩ : ∃ o,l[i]? = some o:=⟨_,List.getElem?_eq_getElem (by omega)⟩
 have hg:=(lastDown_spec hd ho).1
 unfold wpOp at h ⊢
 simp only [head_get hi,List.getElem?_toArray,ho,Region.wanted,hg,if_true,wp_tailQ,lets_tailQ] at h ⊢
 exact h
theorem last_step {l : List Oper} {L L' : Array Bool} (h : SameHead md l L L') (hs : lastSink md l = true) (hr : l.length - 1 ∈ Region.ready md l.toArray L) (hn : 0 < l.length) {fuel : Nat} {a : Act} {w : World}
  (H : wpOp P l.toArray Q (l.length - 1) (Q .normal) a w) : wpOp P l.toArray Q (l.length - 1) (wpAny P md l.toArray Q fuel (L.setIfInBounds (l.length - 1) true)) a w:=by
 have h0 : Region.ready md l.toArray (L.setIfInBounds (l.length - 1) true) = []:=by
  refine List.eq_nil_iff_forall_not_mem.2 fun j hj=>?_
  obtain ⟨h1,o,ho,_⟩:=mem_ready.1 hj
  have hjl : j < l.length:=by rw [List.getElem?_toArray] at ho;exact (List.getElem?_eq_some_iff.1 ho).1
  by_cases e : l.length - 1 = j
  ·subst e;simp [h.size,hjl] at h1
  ·rw [getD_set_ne true e,getD_any (by rw [h.size];exact hjl) true false,h.all hs hr (l.length - 1) j (by omega) (by omega)] at h1
   cases h1
 refine wpOp_mono (fun a w hq=>?_) H
 cases fuel with
 | zero=>exact ⟨h0,hq⟩
 | succ k=>exact ⟨fun _=>hq,by rw [h0];simp⟩
theorem wpAny_last {l : List Oper} (hs : lastSink md l = true) (hd : lastDown md l = true) (hn : 0 < l.length) :
  ∀ (fuel : Nat) (L L' : Array Bool) (a : Act) (w : World),SameHead md l L L' →
   wpAny P md l.dropLast.toArray (tailQ (wpOp P l.toArray Q (l.length - 1) (Q .normal)) Q) fuel L' a w → wpAny P md l.toArray Q (fuel + 1) L a w:=by
 intro fuel
 induction fuel with
 | zero =>
  intro L L' a w hS H
  refine ⟨fun h0=>absurd h0 (hS.some_ready hd hn),fun i hi=>?_⟩
  obtain ⟨_,o,ho,_⟩:=mem_ready.1 hi
  have hil : i < l.length:=by rw [List.getElem?_toArray] at ho;exact (List.getElem?_eq_some_iff.1 ho).1
  by_cases e : i < l.length - 1
  ·have:=(hS.ready hd e).1 hi
   rw [H.1] at this;cases this
  ·obtain rfl : i = l.length - 1:=by omega
   exact last_step hS hs hi hn H.2
 | succ fuel ih =>
  intro L L' a w hS H
  refine ⟨fun h0=>absurd h0 (hS.some_ready hd hn),fun i hi=>?_⟩
  obtain ⟨_,o,ho,_⟩:=mem_ready.1 hi
  have hil : i < l.length:=by rw [List.getElem?_toArray] at ho;exact (List.getElem?_eq_some_iff.1 ho).1
  by_cases e : i < l.length - 1
  ·exact wpOp_head hd e (fun a w h=>ih _ _ a w (hS.step e hi) h) (H.2 i ((hS.ready hd e).1 hi))
  ·obtain rfl : i = l.length - 1:=by omega
   refine last_step hS hs hi hn (H.1 (List.eq_nil_iff_forall_not_mem.2 fun j hj=>?_))
   obtain ⟨h1,o,ho,_⟩:=mem_ready.1 hj
   have hjl : j < l.length - 1:=by rw [List.getElem?_toArray] at ho;have:=(List.getElem?_eq_some_iff.1 ho).1;rwa [List.length_dropLast] at this
   rw [← hS.same j hjl true,getD_any (by rw [hS.size];omega) true false,hS.all hs hi (l.length - 1) j hjl (by omega)] at h1
   cases h1
theorem tailQ_end {N : Act → World → Prop} {a : Act} {w : World} (h : N a w) : tailQ N Q .normal a w:=h
theorem wp_region_last {id : Nat} {l : List Oper} {a : Act} {w : World} {S : World → Prop} (n : Nat) (hn : l.length = n + 1) (hm : P.follows .mixedOrders = true) (hs : lastSink .any l = true) (hd : lastDown .any l = true) (hS : S w.drew)
  (h : S w.drew → wpAnyH P .any l.dropLast.toArray (tailQ (wpOp P l.toArray Q n (Q .normal)) Q) S n (Array.replicate n false) a w.drew) : (Code.region id l.toArray true).wp P Q a w:=by
 obtain rfl : n = l.length - 1:=by omega
 have hH : SameHead .any l (Array.replicate l.length false) (Array.replicate (l.length - 1) false):=by
  refine ⟨by simp,by simp,fun i hi d=>?_,fun j o ho hj=>?_,?_⟩
  ·simp [hi,show i < l.length by omega]
  ·have hl:=(List.getElem?_eq_some_iff.1 ho).1
   simp [hl] at hj
  ·simp [show l.length - 1 < l.length by omega]
 have:=wpAny_last (Q:=Q) hs hd (by omega) (l.length - 1) _ _ a w.drew hH (wpAny_of_held _ _ _ _ (h hS))
 rw [show l.length - 1 + 1 = l.toArray.size by simp;omega] at this
 refine wp_region_any hm ?_
 rw [show Array.replicate l.toArray.size false = Array.replicate l.length false by simp]
 exact this
end
end Go.Proofs.YtglmcknlnoknoaaGreatDoor
/- -/
namespace Go.Proofs.YtglmcknlnoknoaaGreatDoor
open Go.RowKit Go.Maps
structure Byt (w : World) (b : Nat) (L : List UInt8) : Prop where
 cell : ∀ j (h : j < L.length),w.cell? ⟨b,j,none⟩ = some (.int .u8 ((L[j]'h).toNat : Int))
 free : ∀ j,j < L.length → w.frozen? ⟨b,j,none⟩ = false
theorem Byt.set_ {w : World} {b : Nat} {L : List UInt8} (h : Byt w b L) {i : Nat} (hi : i < L.length) (c : UInt8) (v : Int) (hv : v = (c.toNat : Int)) : Byt (w.setCell ⟨b,i,none⟩ (.int .u8 v)) b (L.set i c):=by
 subst hv
 refine ⟨fun j hj=>?_,fun j hj=>?_⟩
 ·rw [List.length_set] at hj
  by_cases e : i = j
  ·subst e
   rw [World.cell?_setCell_same _ _ _ (h.cell i hi)];simp
  ·rw [World.cell?_setCell_other _ _ _ _ (fun k=>e (by injection k)),h.cell j hj];simp [List.getElem_set_ne e]
 ·rw [List.length_set] at hj
  rw [World.frozen?_setCell];exact h.free j hj
theorem byt_world (w : World) (l : List UInt8) : Byt (Lib.bytesWorld w 5 (bytesOf l)) w.heap.size l:=by
 refine ⟨fun j hj=>?_,fun j hj=>?_⟩
 ·have h1:=Lib.bytesWorld_cell w 5 (bytesOf l) j (by rw [bytesOf_size];exact hj)
  rw [bytesOf_list,List.getD_eq_getElem?_getD,List.getElem?_eq_getElem hj] at h1
  exact h1
 ·unfold World.frozen?
  rw [Lib.bytesWorld_at_new]
  have hc : l.length ≤ (Lib.bytesCells w 5 (bytesOf l)).size:=by
   simp [Lib.bytesCells]
   rw [bytesOf_size];omega
  simp;omega
set_option maxRecDepth 100000 in
set_option maxHeartbeats 2000000 in
theorem vspaced_any (l : List UInt8) (w : World) (hs : l.length ≤ 1000000) : Calls Tryz.prog 233 #[.string (bytesOf l)] w fun e w'=>e = .returned (.string (bytesOf (spcL l))) ∧ Below w.heap.size w w':=by
 have hcv:=fun W=>Lib.run_convert_string_bytes (P:=Tryz.prog) W 9 164 5 (bytesOf l) Tryz.underlying9 Tryz.underlying164 Tryz.underlying5
 have hsz : (bytesOf l).size = l.length:=bytesOf_size l
 have Hlen : Hid ((spcL l).length = l.length):=Lib.hid (by unfold spcL;rw [List.length_map])
 go_enter Tryz.func233,Tryz.ntmps233
 go_wp2
 have hby:=byt_world w l
 have hbw:=below_bytesWorld w 5 (bytesOf l)
 generalize Lib.bytesWorld w 5 (bytesOf l) = w1 at hby hbw ⊢
 clear hcv
 go_loopw [4] (fun v wr=>∃ i : Nat,v = .int .i64 i ∧ i ≤ l.length ∧ Byt wr w.heap.size ((spcL l).take i ++ l.drop i) ∧ Below w.heap.size w wr) (fun v _=>l.length - (intOf v).toNat)
 case atStart=>exact ⟨0,rfl,by omega,by simpa using hby,hbw⟩
 case round =>
  clear hby hbw
  obtain ⟨i,rfl,hi,hB,hb⟩:=hrel
  have hll : ((spcL l).take i ++ l.drop i).length = l.length:=by rw [List.length_append,List.length_take,List.length_drop,Hlen.out];omega
  by_cases hlt : i < l.length
  ·obtain ⟨x,Hx⟩ : ∃ x,Hid (l[i]? = some x):=⟨_,Lib.hid (List.getElem?_eq_getElem hlt)⟩
   have hgx : ((spcL l).take i ++ l.drop i)[i]'(by omega) = x:=by
    have h1 : ((spcL l).take i ++ l.drop i)[i]? = some x:=by
     rw [List.getElem?_append_right (by rw [List.length_take,Hlen.out];omega),List.length_take,Hlen.out,Nat.min_eq_left (by omega),Nat.sub_self,List.getElem?_drop];exact Hx.out
    obtain ⟨_,h2⟩:=List.getElem?_eq_some_iff.1 h1
    exact h2
   have hc:=hB.cell i (by omega)
   rw [hgx] at hc
   have hf:=hB.free i (by omega)
   have hnext : ∀ y,y = (if x = 9 then 32 else x) → ((spcL l).take i ++ l.drop i).set i y = (spcL l).take (i + 1) ++ l.drop (i + 1):=fun y hy=>by
    have h1 : (spcL l)[i]? = some y:=by unfold spcL;rw [List.getElem?_map,Hx.out,hy];rfl
    rw [drop_at Hx.out,List.take_add_one,h1]
    have h2 : ((spcL l).take i).length = i:=by rw [List.length_take,Hlen.out];omega
    have h3:=set_mid ((spcL l).take i) x y (l.drop (i + 1))
    rw [h2] at h3
    rw [h3];simp
   by_cases hx9 : x = 9
   ·have hz : ((x.toNat : Int) == 9) = true:=by rw [hx9];rfl
    have HN:=Lib.hid (hnext 32 (by rw [if_pos hx9]))
    have HB:=Lib.hid (hB.set_ (i:=i) (by omega) 32 32 rfl)
    rw [HN.out] at HB
    clear hnext hx9 hgx
    go_wp2
    go_roundw
    case rel=>exact ⟨i + 1,by go_num,by omega,HB.out,hb.setCell (p:=⟨w.heap.size,i,none⟩) (Nat.le_refl _) _⟩
    case measure=>simp [intOf];omega
   ·have hz : ((x.toNat : Int) == 9) = false:=beq_eq_false_iff_ne.2 (fun e=>hx9 ((u8_eq (n:=9) (by omega)).2 (by omega)))
    have HN:=Lib.hid (hnext x (by rw [if_neg hx9]))
    have hsame : ((spcL l).take i ++ l.drop i).set i x = (spcL l).take i ++ l.drop i:=by
     conv=>lhs;rw [← hgx]
     exact List.set_getElem_self _
    rw [hsame] at HN
    clear hnext hx9 hgx hsame
    go_wp2
    go_roundw
    case rel=>exact ⟨i + 1,by go_num,by omega,by rw [← HN.out];exact hB,hb⟩
    case measure=>simp [intOf];omega
  ·have HE : Hid ((spcL l).take i ++ l.drop i = spcL l):=Lib.hid (by rw [List.take_of_length_le (by rw [Hlen.out];omega),List.drop_of_length_le (by omega),List.append_nil])
   rw [HE.out] at hB
   have hcb:=fun c=>run_convert_bytes_back (P:=Tryz.prog) wr 164 9 5 ⟨w.heap.size,0,none⟩ c (spcL l) Tryz.underlying164 Tryz.underlying5 Tryz.underlying9 (fun k hk=>by
    have e : (⟨w.heap.size,0,none⟩ : Addr).add k = ⟨w.heap.size,k,none⟩:=by
     unfold Addr.add
     split
     ·rename_i h0;rw [h0]
     ·simp
    rw [e];exact hB.cell k hk)
   rw [Hlen.out] at hcb
   go_wp2
   go_ret
   exact ⟨rfl,hb⟩
theorem take_sub {l : List UInt8} {a b : Nat} : (bytesOf l).extract a b = bytesOf ((l.drop a).take (b - a)):=ext_bytes2 l a b
set_option maxRecDepth 100000 in
set_option maxHeartbeats 2000000 in
theorem vLines_any (t : List UInt8) (w : World) (ht : t.length ≤ 1000000) :
  Calls Tryz.prog 178 #[.string (bytesOf t)] w fun e w'=>∃ A n c,e = .returned (.slice A n c) ∧ Own w' w.heap.size 9 1 A n c ((splitL t).map encNm) ∧ Below w.heap.size w w':=by
 obtain ⟨i0,hi0,hz0,hz1,hz2⟩:=info_parts info_cloneS
 have hsz : (bytesOf t).size = t.length:=bytesOf_size t
 go_enter Tryz.func178,Tryz.ntmps178
 go_wp2
 go_loopw [3,4,5] (fun a f v wr=>∃ (i frm : Nat) (done : List (List UInt8)) (A : Option Addr) (n c : Nat),a = .slice A n c ∧ f = .int .i64 frm ∧ v = .int .i64 i ∧ i ≤ t.length ∧ n ≤ i ∧ frm ≤ i ∧ Hid (LinesAt t i frm done) ∧ Own wr w.heap.size 9 1 A n c (done.map encNm) ∧ Below w.heap.size w wr) (fun _ _ v _=>t.length - (intOf v).toNat)
 case atStart=>exact ⟨0,0,[],none,0,0,rfl,rfl,rfl,by omega,by omega,by omega,LinesAt.start t,Own.nil_ _ _ _ _,Below.refl _ _⟩
 case round =>
  obtain ⟨i,frm,done,A,n,c,rfl,rfl,rfl,hi,hni,hfi,HL,ho,hb⟩:=hrel
  have hszr:=hb.size
  by_cases hlt : i < t.length
  ·have hp : i < (bytesOf t).size:=by omega
   have hix:=index_at (bytesOf t) i i rfl hp
   obtain ⟨x,hx⟩ : ∃ x,(bytesOf t)[i]'hp = x:=⟨_,rfl⟩
   have Hx : Hid (t[i]? = some x):=Lib.hid (by have:=get_list hp;rw [bytesOf_list,hx] at this;exact this)
   have hgi : (((bytesOf t)[i]'hp).toNat : Int) = (x.toNat : Int):=by rw [hx]
   rw [hx] at hix
   clear hx
   by_cases hx10 : x = 10
   ·have hz : ((x.toNat : Int) == 10) = true:=by rw [hx10];rfl
    have HL':=Lib.hid (LinesAt.line HL.out (by rw [Hx.out,hx10]))
    have HX:=Lib.hid (take_sub (l:=t) (a:=frm) (b:=i))
    clear hx10
    go_wp2_with (at_builtin;go_must (refine wpList_app rfl (.tmp 16) (.tmp 21) _ rfl w.heap.size 9 i0 _ 1 16 Tryz.underlying122 hi0 hz0 hz1 hz2 rfl (by omega) A n c (done.map encNm) rfl (ho.alloc _) _ 1 1 [encNm ((t.drop frm).take (i - frm))] rfl rfl (Rd.newAt (by simp) (by simp [encNm,HX.out])) (encNm_ok [(t.drop frm).take (i - frm)]) (by unfold maxLen;omega) (by omega) (by simp;omega) ?_);intro A3 c3 w3 ho3 hg3 hA3;have hb3:=below_app (hb.alloc (by omega) _) hg3 (by simp;omega) (fun a ha=>(ho.lt a ha).1);clear hg3)
    have Ho3 : Own w3 w.heap.size 9 1 A3 (n + 1) c3 ((done ++ [(t.drop frm).take (i - frm)]).map encNm):=by rw [List.map_append];exact ho3
    clear ho3
    go_roundw
    case rel=>exact ⟨i + 1,i + 1,_,A3,n + 1,c3,rfl,by go_num,by go_num,by omega,by omega,by omega,HL',Ho3,hb3⟩
    case measure=>simp [intOf];omega
   ·have hz : ((x.toNat : Int) == 10) = false:=beq_eq_false_iff_ne.2 (fun e=>hx10 ((u8_eq (n:=10) (by omega)).2 (by omega)))
    have HL':=Lib.hid (LinesAt.byte HL.out Hx.out hx10)
    clear hx10
    go_wp2
    go_roundw
    case rel=>exact ⟨i + 1,frm,done,A,n,c,rfl,rfl,by go_num,by omega,by omega,by omega,HL',ho,hb⟩
    case measure=>simp [intOf];omega
  ·obtain rfl : i = t.length:=by omega
   have HE:=Lib.hid (LinesAt.done HL.out)
   have HX:=Lib.hid (ext_bytes t frm)
   rw [hsz] at HX
   go_wp2_with (at_builtin;go_must (refine wpList_app rfl (.tmp 25) (.tmp 29) _ rfl w.heap.size 9 i0 _ 1 16 Tryz.underlying122 hi0 hz0 hz1 hz2 rfl (by omega) A n c (done.map encNm) rfl (ho.alloc _) _ 1 1 [encNm (t.drop frm)] rfl rfl (Rd.newAt (by simp) (by simp [encNm,HX.out])) (encNm_ok [t.drop frm]) (by unfold maxLen;omega) (by omega) (by simp;omega) ?_);intro A3 c3 w3 ho3 hg3 hA3;have hb3:=below_app (hb.alloc (by omega) _) hg3 (by simp;omega) (fun a ha=>(ho.lt a ha).1);clear hg3)
   go_ret
   exact ⟨A3,n + 1,c3,rfl,by rw [HE.out,List.map_append];exact ho3,hb3⟩
end Go.Proofs.YtglmcknlnoknoaaGreatDoor
/- -/
namespace Go.Proofs.YtglmcknlnoknoaaGreatDoor
open Go.RowKit Go.Maps
theorem oblank_any (c : UInt8) (w : World) : Calls Tryz.prog 246 #[.int .u8 (c.toNat : Int)] w fun e w'=>e = .returned (.bool (blkB c)) ∧ w = w':=by
 have HT:=Lib.hid (@blk_true c)
 have HF:=Lib.hid (@blk_false c)
 generalize (c.toNat : Int) = z at HT HF
 rcases (by omega : z = 32 ∨ z = 9 ∨ (z ≠ 32 ∧ z ≠ 9)) with h | h | ⟨h,h'⟩
 ·have HV:=Lib.hid (HT.out (.inl h))
  subst h
  go_enter Tryz.func246,Tryz.ntmps246
  go_wp2
  go_ret
  exact ⟨by rw [HV.out];rfl,rfl⟩
 ·have HV:=Lib.hid (HT.out (.inr h))
  subst h
  go_enter Tryz.func246,Tryz.ntmps246
  go_wp2
  go_ret
  exact ⟨by rw [HV.out];rfl,rfl⟩
 ·have HV:=Lib.hid (HF.out (by omega))
  have h1 : (z == 32) = false:=beq_eq_false_iff_ne.2 h
  have h2 : (z == 9) = false:=beq_eq_false_iff_ne.2 h'
  go_enter Tryz.func246,Tryz.ntmps246
  go_wp2
  go_ret
  exact ⟨by rw [HV.out];rfl,rfl⟩
set_option maxRecDepth 100000 in
set_option maxHeartbeats 2000000 in
theorem otrim_any (L : List UInt8) (w : World) (hL : L.length ≤ 1000000) : Calls Tryz.prog 199 #[.string (bytesOf L)] w fun e w'=>e = .returned (.string (bytesOf (trimL L))) ∧ w = w':=by
 have HTE:=Lib.hid (trimL_eq L)
 go_enter Tryz.func199,Tryz.ntmps199
 go_wp2
 go_loopw [0] (fun v wr=>∃ l : List UInt8,v = .string (bytesOf l) ∧ l.length ≤ L.length ∧ Hid (l.dropWhile blkB = L.dropWhile blkB) ∧ wr = w) (fun v _=>strSize v)
 case atStart=>exact ⟨L,rfl,by omega,rfl,rfl⟩
 case round =>
  obtain ⟨l,rfl,hl,HD,rfl⟩:=hrel
  have hsz : (bytesOf l).size = l.length:=bytesOf_size l
  by_cases hb : ∃ c r,l = c :: r ∧ blkB c = true
  ·obtain ⟨c,r,rfl,hc⟩:=hb
   have h0 : 0 < (bytesOf (c :: r)).size:=by rw [hsz];simp
   have hix:=index_at (bytesOf (c :: r)) 0 0 rfl h0
   have hg : (bytesOf (c :: r))[0]'h0 = c:=by have:=get_list h0;rw [bytesOf_list] at this;simpa using this.symm
   rw [hg] at hix
   have hgi : (((bytesOf (c :: r))[0]'h0).toNat : Int) = (c.toNat : Int):=by rw [hg]
   have HX:=Lib.hid (ext_bytes (c :: r) 1)
   rw [hsz] at HX
   have hl2 : (r.length : Int) + 1 ≤ 1000000:=by simp at hl;omega
   clear hg
   go_wp2_with (go_at_call 246;refine (oblank_any c _).mono ?_;rw [hc];rintro e w' ⟨rfl,rfl⟩)
   go_roundw
   case rel=>exact ⟨r,by first | exact congrArg Value.string HX.out | (rw [← ext_bytes (c :: r) 1];rfl),by simp at hl;omega,Lib.hid (by rw [← HD.out,drop_blank hc]),by first | rfl | trivial⟩
   case measure=>simp only [strSize,ByteArray.size_extract,bytesOf_size,List.length_cons];omega
  ·have HLD : Hid (l = L.dropWhile blkB):=Lib.hid (by
    rw [← HD.out]
    cases l with
    | nil=>rfl
    | cons c r =>
     have : blkB c = false:=by
      cases hq : blkB c with
      | false=>rfl
      | true=>exact absurd ⟨c,r,rfl,hq⟩ hb
     exact (dropWhile_stop this).symm)
   have HTR : Hid (trimL L = trimR l):=Lib.hid (by rw [HTE.out,HLD.out])
   have hstop : l = [] ∨ ∃ c r,l = c :: r ∧ blkB c = false:=by
    cases l with
    | nil=>exact .inl rfl
    | cons c r =>
     refine .inr ⟨c,r,rfl,?_⟩
     cases hq : blkB c with
     | false=>rfl
     | true=>exact absurd ⟨c,r,rfl,hq⟩ hb
   clear hb HD HLD
   rcases hstop with rfl | ⟨c,r,rfl,hc⟩
   ·have HT0 : Hid (trimL L = []):=Lib.hid (by rw [HTR.out];rfl)
    have hz0 : (bytesOf []).size = 0:=rfl
    go_wp2_with fail
    go_loopw [0] (fun v wq=>v = .string (bytesOf []) ∧ wq = wr) (fun _ _=>0)
    case atStart=>exact ⟨rfl,rfl⟩
    case round =>
     obtain ⟨rfl,rfl⟩:=hrel
     go_wp2
     go_ret
     exact ⟨by rw [HT0.out];rfl,rfl⟩
   ·have h0 : 0 < (bytesOf (c :: r)).size:=by rw [hsz];simp
    have hix:=index_at (bytesOf (c :: r)) 0 0 rfl h0
    have hg : (bytesOf (c :: r))[0]'h0 = c:=by have:=get_list h0;rw [bytesOf_list] at this;simpa using this.symm
    rw [hg] at hix
    have hgi : (((bytesOf (c :: r))[0]'h0).toNat : Int) = (c.toNat : Int):=by rw [hg]
    clear hg
    go_wp2_with (go_at_call 246;refine (oblank_any c _).mono ?_;rw [hc];rintro e w' ⟨rfl,rfl⟩)
    go_loopw [0] (fun v wq=>∃ l : List UInt8,v = .string (bytesOf l) ∧ l.length ≤ L.length ∧ Hid (trimR l = trimL L) ∧ wq = wr) (fun v _=>strSize v)
    case atStart=>exact ⟨c :: r,rfl,hl,Lib.hid HTR.out.symm,rfl⟩
    case round =>
     clear hix hgi h0
     obtain ⟨l,rfl,hl2,HD,rfl⟩:=hrel
     have hsz2 : (bytesOf l).size = l.length:=bytesOf_size l
     rcases List.eq_nil_or_concat l with rfl | ⟨o,y,rfl⟩
     ·have HT0 : Hid (trimL L = []):=Lib.hid (by rw [← HD.out];rfl)
      have hz0 : (bytesOf []).size = 0:=rfl
      go_wp2
      go_ret
      exact ⟨by rw [HT0.out];rfl,rfl⟩
     ·rw [List.concat_eq_append] at *
      have hlast : (o ++ [y]).getLast? = some y:=by simp
      have hol : (o ++ [y]).length = o.length + 1:=by simp
      rw [hol] at hsz2 hl2
      have hp : o.length < (bytesOf (o ++ [y])).size:=by omega
      have hix:=index_at (bytesOf (o ++ [y])) ((o.length : Int) + 1 - 1) o.length (by omega) hp
      have hix2:=index_at (bytesOf (o ++ [y])) (o.length : Int) o.length rfl hp
      have hg : (bytesOf (o ++ [y]))[o.length]'hp = y:=by have:=get_list hp;rw [bytesOf_list] at this;simpa using this.symm
      rw [hg] at hix hix2
      have hgi : (((bytesOf (o ++ [y]))[o.length]'hp).toNat : Int) = (y.toNat : Int):=by rw [hg]
      clear hg
      cases hy : blkB y with
      | true =>
       have HX : Hid ((bytesOf (o ++ [y])).extract 0 o.length = bytesOf o):=Lib.hid (by rw [ext_bytes0];simp)
       have HD' : Hid (trimR o = trimL L):=Lib.hid (by rw [← HD.out,(trim_last hlast).1 hy,hol,Nat.add_sub_cancel];simp)
       go_wp2_with (go_at_call 246;refine (oblank_any y _).mono ?_;rw [hy];rintro e w' ⟨rfl,rfl⟩)
       go_roundw
       case rel=>exact ⟨o,congrArg Value.string HX.out,by omega,HD',by first | rfl | trivial⟩
       case measure=>simp only [strSize,ByteArray.size_extract,bytesOf_size,List.length_append,List.length_singleton];omega
      | false =>
       have HD' : Hid (trimL L = o ++ [y]):=Lib.hid (by rw [← HD.out,(trim_last hlast).2 hy])
       go_wp2_with (go_at_call 246;refine (oblank_any y _).mono ?_;rw [hy];rintro e w' ⟨rfl,rfl⟩)
       go_ret
       exact ⟨by rw [HD'.out];rfl,rfl⟩
set_option maxRecDepth 100000 in
set_option maxHeartbeats 2000000 in
theorem oLines_any (t : List UInt8) (w : World) (ht : t.length ≤ 1000000) :
  Calls Tryz.prog 153 #[.string (bytesOf t)] w fun e w'=>∃ A n c,e = .returned (.slice A n c) ∧ Own w' w.heap.size 9 1 A n c ((splitL t).map encNm) ∧ Below w.heap.size w w':=by
 obtain ⟨i0,hi0,hz0,hz1,hz2⟩:=info_parts info_cloneS
 have hsz : (bytesOf t).size = t.length:=bytesOf_size t
 go_enter Tryz.func153,Tryz.ntmps153
 go_wp2
 go_loopw [3,4,5] (fun a f v wr=>∃ (i frm : Nat) (done : List (List UInt8)) (A : Option Addr) (n c : Nat),a = .slice A n c ∧ f = .int .i64 frm ∧ v = .int .i64 i ∧ i ≤ t.length ∧ n ≤ i ∧ frm ≤ i ∧ Hid (LinesAt t i frm done) ∧ Own wr w.heap.size 9 1 A n c (done.map encNm) ∧ Below w.heap.size w wr) (fun _ _ v _=>t.length - (intOf v).toNat)
 case atStart=>exact ⟨0,0,[],none,0,0,rfl,rfl,rfl,by omega,by omega,by omega,LinesAt.start t,Own.nil_ _ _ _ _,Below.refl _ _⟩
 case round =>
  obtain ⟨i,frm,done,A,n,c,rfl,rfl,rfl,hi,hni,hfi,HL,ho,hb⟩:=hrel
  have hszr:=hb.size
  by_cases hlt : i < t.length
  ·have hp : i < (bytesOf t).size:=by omega
   have hix:=index_at (bytesOf t) i i rfl hp
   obtain ⟨x,hx⟩ : ∃ x,(bytesOf t)[i]'hp = x:=⟨_,rfl⟩
   have Hx : Hid (t[i]? = some x):=Lib.hid (by have:=get_list hp;rw [bytesOf_list,hx] at this;exact this)
   have hgi : (((bytesOf t)[i]'hp).toNat : Int) = (x.toNat : Int):=by rw [hx]
   rw [hx] at hix
   clear hx
   by_cases hx10 : x = 10
   ·have hz : ((x.toNat : Int) == 10) = true:=by rw [hx10];rfl
    have HL':=Lib.hid (LinesAt.line HL.out (by rw [Hx.out,hx10]))
    have HX:=Lib.hid (take_sub (l:=t) (a:=frm) (b:=i))
    clear hx10
    go_wp2_with (at_builtin;go_must (refine wpList_app rfl (.tmp 16) (.tmp 21) _ rfl w.heap.size 9 i0 _ 1 16 Tryz.underlying122 hi0 hz0 hz1 hz2 rfl (by omega) A n c (done.map encNm) rfl (ho.alloc _) _ 1 1 [encNm ((t.drop frm).take (i - frm))] rfl rfl (Rd.newAt (by simp) (by simp [encNm,HX.out])) (encNm_ok [(t.drop frm).take (i - frm)]) (by unfold maxLen;omega) (by omega) (by simp;omega) ?_);intro A3 c3 w3 ho3 hg3 hA3;have hb3:=below_app (hb.alloc (by omega) _) hg3 (by simp;omega) (fun a ha=>(ho.lt a ha).1);clear hg3)
    have Ho3 : Own w3 w.heap.size 9 1 A3 (n + 1) c3 ((done ++ [(t.drop frm).take (i - frm)]).map encNm):=by rw [List.map_append];exact ho3
    clear ho3
    go_roundw
    case rel=>exact ⟨i + 1,i + 1,_,A3,n + 1,c3,rfl,by go_num,by go_num,by omega,by omega,by omega,HL',Ho3,hb3⟩
    case measure=>simp [intOf];omega
   ·have hz : ((x.toNat : Int) == 10) = false:=beq_eq_false_iff_ne.2 (fun e=>hx10 ((u8_eq (n:=10) (by omega)).2 (by omega)))
    have HL':=Lib.hid (LinesAt.byte HL.out Hx.out hx10)
    clear hx10
    go_wp2
    go_roundw
    case rel=>exact ⟨i + 1,frm,done,A,n,c,rfl,rfl,by go_num,by omega,by omega,by omega,HL',ho,hb⟩
    case measure=>simp [intOf];omega
  ·obtain rfl : i = t.length:=by omega
   have HE:=Lib.hid (LinesAt.done HL.out)
   have HX:=Lib.hid (ext_bytes t frm)
   rw [hsz] at HX
   go_wp2_with (at_builtin;go_must (refine wpList_app rfl (.tmp 25) (.tmp 29) _ rfl w.heap.size 9 i0 _ 1 16 Tryz.underlying122 hi0 hz0 hz1 hz2 rfl (by omega) A n c (done.map encNm) rfl (ho.alloc _) _ 1 1 [encNm (t.drop frm)] rfl rfl (Rd.newAt (by simp) (by simp [encNm,HX.out])) (encNm_ok [t.drop frm]) (by unfold maxLen;omega) (by omega) (by simp;omega) ?_);intro A3 c3 w3 ho3 hg3 hA3;have hb3:=below_app (hb.alloc (by omega) _) hg3 (by simp;omega) (fun a ha=>(ho.lt a ha).1);clear hg3)
   go_ret
   exact ⟨A3,n + 1,c3,rfl,by rw [HE.out,List.map_append];exact ho3,hb3⟩
end Go.Proofs.YtglmcknlnoknoaaGreatDoor
/- -/
namespace Go.Proofs.YtglmcknlnoknoaaGreatDoor
open Go.RowKit Go.Maps
theorem pBlank_eq : pBlank = blkB:=by
 funext c
 have h1 : c = 32 ↔ c.toNat = 32:=u8_eq (n:=32) (by omega)
 have h2 : c = 9 ↔ c.toNat = 9:=u8_eq (n:=9) (by omega)
 unfold pBlank blkB
 rw [Bool.eq_iff_iff]
 simp only [Bool.or_eq_true,beq_iff_eq,decide_eq_true_iff,h1,h2]
theorem trimB_eq (l : List UInt8) : trimB l = trimL l:=by unfold trimB trimL;rw [pBlank_eq]
theorem byte_of (t : List UInt8) {i : Nat} (hi : i < t.length) : ∃ x,t[i]? = some x ∧ ∀ W,(Instr.index 9 (.string (bytesOf t)) (.int .i64 (i : Nat))).run Tryz.prog W = .ok (.int .u8 (x.toNat : Int)) W:=by
 have hp : i < (bytesOf t).size:=by rw [bytesOf_size];exact hi
 refine ⟨(bytesOf t)[i]'hp,?_,fun W=>index_at (bytesOf t) i i rfl hp W⟩
 have:=get_list hp
 rw [bytesOf_list] at this
 exact this
theorem take_at {q : UInt8 → Bool} {l : List UInt8} {i : Nat} {x : UInt8} (hx : l[i]? = some x) : (q x = true → l.take i ++ (l.drop i).takeWhile q = l.take (i + 1) ++ (l.drop (i + 1)).takeWhile q) ∧ (q x = false → l.take i ++ (l.drop i).takeWhile q = l.take i):=by
 obtain ⟨hi,e⟩:=List.getElem?_eq_some_iff.1 hx
 rw [List.drop_eq_getElem_cons hi,e]
 constructor
 ·intro hq
  rw [List.takeWhile_cons,if_pos hq,List.take_add_one,hx]
  simp
 ·intro hq
  rw [List.takeWhile_cons,if_neg (by rw [hq];simp),List.append_nil]
set_option maxRecDepth 100000 in
set_option maxHeartbeats 4000000 in
theorem oplain_any (L : List UInt8) (w : World) (hL : L.length ≤ 1000000) : Calls Tryz.prog 197 #[.string (bytesOf L)] w fun e w'=>e = .returned (.string (bytesOf (plainB L))) ∧ w = w':=by
 have hsz : (bytesOf L).size = L.length:=bytesOf_size L
 have HT:=Lib.hid (fun i W=>show Calls Tryz.prog 199 #[.string ((bytesOf L).extract 0 i)] W fun e w'=>e = .returned (.string (bytesOf (trimL (L.take i)))) ∧ W = w' by
  rw [ext_bytes0];exact otrim_any (L.take i) W (by rw [List.length_take];omega))
 have HA:=Lib.hid (fun W=>otrim_any L W hL)
 have HP:=Lib.hid (show plainB L = trimL (L.takeWhile fun c=>decide (c.toNat ≠ 35)) by unfold plainB;rw [trimB_eq])
 go_enter Tryz.func197,Tryz.ntmps197
 go_wp2
 go_loopw [3] (fun v wr=>∃ i : Nat,v = .int .i64 i ∧ i ≤ L.length ∧ Hid ((L.takeWhile fun c=>decide (c.toNat ≠ 35)) = L.take i ++ (L.drop i).takeWhile fun c=>decide (c.toNat ≠ 35)) ∧ wr = w) (fun v _=>L.length - (intOf v).toNat)
 case atStart=>exact ⟨0,rfl,by omega,Lib.hid rfl,rfl⟩
 case round =>
  obtain ⟨i,rfl,hi,HD,rfl⟩:=hrel
  by_cases hlt : i < L.length
  ·obtain ⟨x,hx,hix⟩:=byte_of L hlt
   by_cases h35 : x.toNat = 35
   ·have t1 : ((x.toNat : Int) == 35) = true:=by rw [beq_iff_eq];omega
    have HE:=Lib.hid (show plainB L = trimL (L.take i) by rw [HP.out,HD.out,(take_at hx).2 (by simp [h35])])
    have HT1:=Lib.hid (HT.out i wr)
    clear hx h35
    go_wp2_with (go_at_call 199;refine HT1.out.mono ?_;rintro e w' ⟨rfl,rfl⟩)
    go_ret
    exact ⟨by rw [HE.out];rfl,rfl⟩
   ·have t1 : ((x.toNat : Int) == 35) = false:=by rw [beq_eq_false_iff_ne];omega
    have HD2:=Lib.hid (HD.out.trans ((take_at hx).1 (by simp [h35])))
    clear hx h35
    go_wp2
    go_roundw
    case rel=>exact ⟨i + 1,by go_num,by omega,HD2,by first | rfl | trivial⟩
    case measure=>simp [intOf];omega
  ·obtain rfl : i = L.length:=by omega
   have HE:=Lib.hid (show plainB L = trimL L by rw [HP.out,HD.out];simp)
   have HT1:=Lib.hid (HA.out wr)
   go_wp2_with (go_at_call 199;refine HT1.out.mono ?_;rintro e w' ⟨rfl,rfl⟩)
   go_ret
   exact ⟨by rw [HE.out];rfl,rfl⟩
theorem signP_some {l a b : List UInt8} {cut : Bool} (h : signP l = some (a,cut,b)) : ∃ c,l = a ++ c :: b ∧ (∀ x ∈ a,pSign x = false) ∧ pSign c = true ∧ (∀ x ∈ b,pSign x = false) ∧ cut = decide (c.toNat = 47):=by
 unfold signP at h
 split at h
 ·cases h
 ·rename_i c t hd
  split at h
  ·cases h
  ·rename_i hb
   injection h with h
   injection h with h1 h2
   injection h2 with h2 h3
   subst h1 h2 h3
   have hc : (!pSign c) = false:=by
    have h1:=List.head?_dropWhile_not (fun c=>!pSign c) l
    rw [hd] at h1
    simpa using h1
   refine ⟨c,?_,fun x hx=>?_,by simpa using hc,fun x hx=>?_,rfl⟩
   ·rw [← hd,List.takeWhile_append_dropWhile]
   ·have h1:=List.all_takeWhile (p:=fun c=>!pSign c) (l:=l)
    rw [List.all_eq_true] at h1
    simpa using h1 x hx
   ·cases hq : pSign x with
    | false=>rfl
    | true=>exact absurd (List.any_eq_true.2 ⟨x,hx,hq⟩) hb
theorem sign_tests (x : UInt8) : pSign x = (((x.toNat : Int) == 126) || ((x.toNat : Int) == 47)):=by
 unfold pSign
 rw [Bool.eq_iff_iff]
 simp only [Bool.or_eq_true,beq_iff_eq,decide_eq_true_iff]
 omega
set_option maxRecDepth 100000 in
set_option maxHeartbeats 4000000 in
theorem osplit_ok (a b : List UInt8) (c : UInt8) (w : World) (hz : (a ++ c :: b).length ≤ 1000000) (ha : ∀ x ∈ a,pSign x = false) (hc : pSign c = true) (hb : ∀ x ∈ b,pSign x = false) : Calls Tryz.prog 198 #[.string (bytesOf (a ++ c :: b))] w fun e w'=>e = .returned (.int .i64 (a.length : Nat)) ∧ w = w':=by
 have HI:=Lib.hid (fun i x (hx : (a ++ c :: b)[i]? = some x)=>show pSign x = decide (i = a.length) by
  rcases Nat.lt_trichotomy i a.length with h | h | h
  ·rw [List.getElem?_append_left h] at hx
   rw [ha x (List.mem_of_getElem? hx),decide_eq_false (by omega)]
  ·subst h
   rw [List.getElem?_append_right (Nat.le_refl _),Nat.sub_self,List.getElem?_cons_zero] at hx
   injection hx with hx
   subst hx
   rw [hc,decide_eq_true rfl]
  ·rw [List.getElem?_append_right (by omega)] at hx
   obtain ⟨j,hj⟩ : ∃ j,i - a.length = j + 1:=⟨i - a.length - 1,by omega⟩
   rw [hj,List.getElem?_cons_succ] at hx
   rw [hb x (List.mem_of_getElem? hx),decide_eq_false (by omega)])
 have hl : (a ++ c :: b).length = a.length + 1 + b.length:=by simp;omega
 have hsz : (bytesOf (a ++ c :: b)).size = (a ++ c :: b).length:=bytesOf_size _
 have HB:=Lib.hid (fun i (hi : i < (a ++ c :: b).length)=>byte_of (a ++ c :: b) hi)
 obtain ⟨m,hm⟩ : ∃ m,a.length = m:=⟨_,rfl⟩
 rw [hm] at HI hl ⊢
 generalize a ++ c :: b = L at HI HB hsz hl hz ⊢
 clear ha hb hc hm
 go_enter Tryz.func198,Tryz.ntmps198
 go_wp2
 go_loopw [3,4] (fun u v wr=>∃ i : Nat,v = .int .i64 i ∧ i ≤ L.length ∧ ((i ≤ m ∧ u = .int .i64 (-1)) ∨ (m < i ∧ u = .int .i64 (m : Nat))) ∧ wr = w) (fun _ v _=>L.length - (intOf v).toNat)
 case atStart=>exact ⟨0,rfl,by omega,.inl ⟨by omega,rfl⟩,rfl⟩
 case round =>
  obtain ⟨i,rfl,hi,hcs,rfl⟩:=hrel
  by_cases hlt : i < L.length
  ·obtain ⟨x,hx,hix⟩:=HB.out i hlt
   have hq:=HI.out i x hx
   rw [sign_tests] at hq
   rcases Nat.lt_trichotomy i m with h | h | h
   ·rcases hcs with ⟨_,rfl⟩ | ⟨h2,_⟩
    ·rw [decide_eq_false (by omega),Bool.or_eq_false_iff] at hq
     obtain ⟨t1,t2⟩:=hq
     clear hx
     go_wp2
     go_roundw
     case rel=>exact ⟨i + 1,by go_num,by omega,.inl ⟨by omega,rfl⟩,by first | rfl | trivial⟩
     case measure=>simp [intOf];omega
    ·omega
   ·subst h
    rcases hcs with ⟨_,rfl⟩ | ⟨h2,_⟩
    ·rw [decide_eq_true rfl,Bool.or_eq_true] at hq
     cases t1 : ((x.toNat : Int) == 126) with
     | true =>
      clear hx hq
      go_wp2
      go_roundw
      case rel=>exact ⟨i + 1,by go_num,by omega,.inr ⟨by omega,rfl⟩,by first | rfl | trivial⟩
      case measure=>simp [intOf];omega
     | false =>
      have t2 : ((x.toNat : Int) == 47) = true:=by rcases hq with h | h;rw [t1] at h;cases h;exact h
      clear hx hq
      go_wp2
      go_roundw
      case rel=>exact ⟨i + 1,by go_num,by omega,.inr ⟨by omega,rfl⟩,by first | rfl | trivial⟩
      case measure=>simp [intOf];omega
    ·omega
   ·rcases hcs with ⟨h2,_⟩ | ⟨_,rfl⟩
    ·omega
    ·rw [decide_eq_false (by omega),Bool.or_eq_false_iff] at hq
     obtain ⟨t1,t2⟩:=hq
     clear hx
     go_wp2
     go_roundw
     case rel=>exact ⟨i + 1,by go_num,by omega,.inr ⟨by omega,rfl⟩,by first | rfl | trivial⟩
     case measure=>simp [intOf];omega
  ·obtain rfl : i = L.length:=by omega
   rcases hcs with ⟨h2,_⟩ | ⟨_,rfl⟩
   ·omega
   ·go_wp2
    go_ret
    exact ⟨rfl,rfl⟩
end Go.Proofs.YtglmcknlnoknoaaGreatDoor
/- -/
namespace Go.Proofs.YtglmcknlnoknoaaGreatDoor
open Go.RowKit Go.Maps
end Go.Proofs.YtglmcknlnoknoaaGreatDoor
/- -/
namespace Go.Proofs.YtglmcknlnoknoaaGreatDoor
open Go.RowKit Go.Maps
theorem getGo_hit {q : Int} {i : Nat} {s : List (Int × Int)} {S : List (List (Int × Int))} (h : hasB s q = true) : getGo q i (s :: S) = i:=by unfold getGo;rw [if_pos h]
theorem getGo_miss {q : Int} {i : Nat} {s : List (Int × Int)} {S : List (List (Int × Int))} (h : hasB s q = false) : getGo q i (s :: S) = getGo q (i + 1) S:=by conv=>lhs;unfold getGo;rw [if_neg (by rw [h];simp)]
set_option maxRecDepth 100000 in
set_option maxHeartbeats 4000000 in
theorem vGet_any (base p x : Nat) (d : DbP) (r : Int) (w : World) (h : RfB w base p x d.names d.full) (ho : d.Ok) (hap : Apart d.sets) :
  Calls Tryz.prog 132 #[.pointer (some ⟨p,0,none⟩),.int .i32 r] w fun e w'=>e = .returned (.int .i64 (d.get r : Nat)) ∧ w = w':=by
 obtain ⟨An,nn,cn,As,ns,cs,xs,hX⟩:=h.ex
 have hls:=hX.lenS
 have hfl:=full_len ho
 have hn0 : 0 < ns:=by
  have h3:=ho.head
  cases hd : d.names with
  | nil=>rw [hd] at h3;cases h3
  | cons a b=>rw [hd] at hfl;simp at hfl;omega
 have hn64 : ns ≤ 64:=by have:=ho.few;omega
 obtain ⟨g,rfl,_,_⟩:=hX.hs.form hn0
 have c1:=hX.blk.cell 1
 simp only [List.getElem?_toArray,List.getElem?_cons_zero,List.getElem?_cons_succ] at c1
 have HF:=Lib.hid (fun i s (hi : d.full[i]? = some s)=>full_small ho hap hi)
 have HG : Hid (d.get r = getGo (askR r) 1 d.full.tail):=rfl
 have Hls:=Lib.hid (show d.full.length = ns from hls.2)
 have hcase : (r < 0 ∧ askR r = 65533) ∨ (¬ r < 0 ∧ 1114111 < r ∧ askR r = 65533) ∨ (¬ r < 0 ∧ ¬ 1114111 < r ∧ askR r = r):=by
  unfold askR;split <;> omega
 obtain ⟨q,hq⟩ : ∃ q,askR r = q:=⟨_,rfl⟩
 rw [hq] at HG hcase
 clear ho hap h hfl hq
 rcases hcase with ⟨h1,rfl⟩ | ⟨h1,h2,rfl⟩ | ⟨h1,h2,rfl⟩
 ·go_enter Tryz.func132,Tryz.ntmps132
  go_wp2_with fail
  go_loopw [5] (fun v wr=>∃ k : Nat,v = .int .i64 (k + 1 : Nat) ∧ k + 1 ≤ ns ∧ wr = w ∧ Hid (d.get r = getGo 65533 (k + 1) (d.full.tail.drop k))) (fun v _=>ns - (intOf v).toNat)
  case atStart=>exact ⟨0,rfl,by omega,rfl,by rw [List.drop_zero];exact HG⟩
  case round =>
   obtain ⟨k,rfl,hk,rfl,HK⟩:=hrel
   by_cases hlt : k + 1 < ns
   ·obtain ⟨s,Hs⟩ : ∃ s,Hid (d.full[k + 1]? = some s):=⟨_,Lib.hid (List.getElem?_eq_getElem (show k + 1 < d.full.length by have:=Hls.out;omega))⟩
    obtain ⟨⟨yA,yn,yc⟩,Hy⟩ : ∃ y,Hid (xs[k + 1]? = some y):=⟨_,Lib.hid (List.getElem?_eq_getElem (show k + 1 < xs.length by omega))⟩
    have hoy : Own wr base 248 2 yA yn yc (s.map encR):=hX.hx.own (k + 1) (yA,yn,yc) s Hy.out Hs.out
    have hly : s.length = yn:=by simpa using hoy.len
    have hsm:=HF.out _ s Hs.out
    have hcell:=hX.hs.cell' rfl Hy.out
    have HH:=Lib.hid (sHas_any yA yn yc s 65533 wr (hoy.rd (by omega)) hly (by omega))
    have HD:=Lib.hid (drop_at (show d.full.tail[k]? = some s by rw [List.getElem?_tail];exact Hs.out))
    have hI : (k : Int) + 1 < ns:=by omega
    rw [HD.out] at HK
    cases hv : hasB s 65533 with
    | true =>
     have HE:=Lib.hid (HK.out.trans (getGo_hit hv))
     rw [hv] at HH
     clear hv hly
     go_wp2_with (go_at_call 177;refine HH.out.mono ?_;rintro e w2 ⟨rfl,rfl⟩)
     go_ret
     exact ⟨by rw [HE.out];rfl,rfl⟩
    | false =>
     have HE:=Lib.hid (HK.out.trans (getGo_miss hv))
     rw [hv] at HH
     clear hv hly
     go_wp2_with (go_at_call 177;refine HH.out.mono ?_;rintro e w2 ⟨rfl,rfl⟩)
     go_roundw
     case rel=>exact ⟨k + 1,by go_num,by omega,by first | rfl | trivial,HE⟩
     case measure=>simp [intOf];omega
   ·have HE : Hid (d.get r = 0):=Lib.hid (by rw [HK.out,List.drop_of_length_le (by rw [List.length_tail];have:=Hls.out;omega)];rfl)
    obtain rfl : k + 1 = ns:=by omega
    go_wp2
    go_ret
    exact ⟨by rw [HE.out];rfl,rfl⟩
 ·go_enter Tryz.func132,Tryz.ntmps132
  go_wp2_with fail
  go_loopw [5] (fun v wr=>∃ k : Nat,v = .int .i64 (k + 1 : Nat) ∧ k + 1 ≤ ns ∧ wr = w ∧ Hid (d.get r = getGo 65533 (k + 1) (d.full.tail.drop k))) (fun v _=>ns - (intOf v).toNat)
  case atStart=>exact ⟨0,rfl,by omega,rfl,by rw [List.drop_zero];exact HG⟩
  case round =>
   obtain ⟨k,rfl,hk,rfl,HK⟩:=hrel
   by_cases hlt : k + 1 < ns
   ·obtain ⟨s,Hs⟩ : ∃ s,Hid (d.full[k + 1]? = some s):=⟨_,Lib.hid (List.getElem?_eq_getElem (show k + 1 < d.full.length by have:=Hls.out;omega))⟩
    obtain ⟨⟨yA,yn,yc⟩,Hy⟩ : ∃ y,Hid (xs[k + 1]? = some y):=⟨_,Lib.hid (List.getElem?_eq_getElem (show k + 1 < xs.length by omega))⟩
    have hoy : Own wr base 248 2 yA yn yc (s.map encR):=hX.hx.own (k + 1) (yA,yn,yc) s Hy.out Hs.out
    have hly : s.length = yn:=by simpa using hoy.len
    have hsm:=HF.out _ s Hs.out
    have hcell:=hX.hs.cell' rfl Hy.out
    have HH:=Lib.hid (sHas_any yA yn yc s 65533 wr (hoy.rd (by omega)) hly (by omega))
    have HD:=Lib.hid (drop_at (show d.full.tail[k]? = some s by rw [List.getElem?_tail];exact Hs.out))
    have hI : (k : Int) + 1 < ns:=by omega
    rw [HD.out] at HK
    cases hv : hasB s 65533 with
    | true =>
     have HE:=Lib.hid (HK.out.trans (getGo_hit hv))
     rw [hv] at HH
     clear hv hly
     go_wp2_with (go_at_call 177;refine HH.out.mono ?_;rintro e w2 ⟨rfl,rfl⟩)
     go_ret
     exact ⟨by rw [HE.out];rfl,rfl⟩
    | false =>
     have HE:=Lib.hid (HK.out.trans (getGo_miss hv))
     rw [hv] at HH
     clear hv hly
     go_wp2_with (go_at_call 177;refine HH.out.mono ?_;rintro e w2 ⟨rfl,rfl⟩)
     go_roundw
     case rel=>exact ⟨k + 1,by go_num,by omega,by first | rfl | trivial,HE⟩
     case measure=>simp [intOf];omega
   ·have HE : Hid (d.get r = 0):=Lib.hid (by rw [HK.out,List.drop_of_length_le (by rw [List.length_tail];have:=Hls.out;omega)];rfl)
    obtain rfl : k + 1 = ns:=by omega
    go_wp2
    go_ret
    exact ⟨by rw [HE.out];rfl,rfl⟩
 ·go_enter Tryz.func132,Tryz.ntmps132
  go_wp2_with fail
  go_loopw [5] (fun v wr=>∃ k : Nat,v = .int .i64 (k + 1 : Nat) ∧ k + 1 ≤ ns ∧ wr = w ∧ Hid (d.get q = getGo q (k + 1) (d.full.tail.drop k))) (fun v _=>ns - (intOf v).toNat)
  case atStart=>exact ⟨0,rfl,by omega,rfl,by rw [List.drop_zero];exact HG⟩
  case round =>
   obtain ⟨k,rfl,hk,rfl,HK⟩:=hrel
   by_cases hlt : k + 1 < ns
   ·obtain ⟨s,Hs⟩ : ∃ s,Hid (d.full[k + 1]? = some s):=⟨_,Lib.hid (List.getElem?_eq_getElem (show k + 1 < d.full.length by have:=Hls.out;omega))⟩
    obtain ⟨⟨yA,yn,yc⟩,Hy⟩ : ∃ y,Hid (xs[k + 1]? = some y):=⟨_,Lib.hid (List.getElem?_eq_getElem (show k + 1 < xs.length by omega))⟩
    have hoy : Own wr base 248 2 yA yn yc (s.map encR):=hX.hx.own (k + 1) (yA,yn,yc) s Hy.out Hs.out
    have hly : s.length = yn:=by simpa using hoy.len
    have hsm:=HF.out _ s Hs.out
    have hcell:=hX.hs.cell' rfl Hy.out
    have HH:=Lib.hid (sHas_any yA yn yc s q wr (hoy.rd (by omega)) hly (by omega))
    have HD:=Lib.hid (drop_at (show d.full.tail[k]? = some s by rw [List.getElem?_tail];exact Hs.out))
    have hI : (k : Int) + 1 < ns:=by omega
    rw [HD.out] at HK
    cases hv : hasB s q with
    | true =>
     have HE:=Lib.hid (HK.out.trans (getGo_hit hv))
     rw [hv] at HH
     clear hv hly
     go_wp2_with (go_at_call 177;refine HH.out.mono ?_;rintro e w2 ⟨rfl,rfl⟩)
     go_ret
     exact ⟨by rw [HE.out];rfl,rfl⟩
    | false =>
     have HE:=Lib.hid (HK.out.trans (getGo_miss hv))
     rw [hv] at HH
     clear hv hly
     go_wp2_with (go_at_call 177;refine HH.out.mono ?_;rintro e w2 ⟨rfl,rfl⟩)
     go_roundw
     case rel=>exact ⟨k + 1,by go_num,by omega,by first | rfl | trivial,HE⟩
     case measure=>simp [intOf];omega
   ·have HE : Hid (d.get q = 0):=Lib.hid (by rw [HK.out,List.drop_of_length_le (by rw [List.length_tail];have:=Hls.out;omega)];rfl)
    obtain rfl : k + 1 = ns:=by omega
    go_wp2
    go_ret
    exact ⟨by rw [HE.out];rfl,rfl⟩
end Go.Proofs.YtglmcknlnoknoaaGreatDoor
/- -/
namespace Go.Proofs.YtglmcknlnoknoaaGreatDoor
open Go.RowKit Go.Maps
set_option maxRecDepth 100000 in
set_option maxHeartbeats 4000000 in
theorem vOf_any (base p x : Nat) (d : DbP) (s : ByteArray) (w : World) (h : RfB w base p x d.names d.full) (ho : d.Ok) (ha : Apart d.sets) (hs : s.size ≤ 1000000) :
  Calls Tryz.prog 78 #[.pointer (some ⟨p,0,none⟩),.string s] w fun e w'=>∃ A n c,e = .returned (.slice A n c) ∧ Own w' w.heap.size 3 1 A n c ((ofC d s).map encN) ∧ Below w.heap.size w w':=by
 obtain ⟨i0,hi0,hz0,hz1,hz2⟩:=info_parts infoInt
 have HD:=Lib.hid (And.intro h (And.intro ho ha))
 clear h ho ha
 go_enter Tryz.func78,Tryz.ntmps78
 go_wp2
 go_loopw [5] (fun v wr=>∃ (q f : Nat) (A1 : Option Addr) (n1 c1 : Nat) (o : List Nat),v = .slice A1 n1 c1 ∧ wr.heap[w.heap.size]? = some (.stringIter s q) ∧ Own wr (w.heap.size + 1) 3 1 A1 n1 c1 (o.map encN) ∧
   n1 ≤ q ∧ q ≤ s.size ∧ Hid (OfCAt d s f q o) ∧ Below w.heap.size w wr) (fun _ wr=>s.size - wr.iterPos w.heap.size)
 case atStart=>exact ⟨0,s.size,none,0,0,[],rfl,iter_new _ _ _,Own.nil_ _ _ _ _,by omega,by omega,ofCAt_first d s,below_iter (Below.refl _ _) (Nat.le_refl _) _ _⟩
 case round =>
  obtain ⟨q,f,A1,n1,c1,o,rfl,hit,ho,hn1,hps,HR,hb⟩:=hrel
  have hsz : w.heap.size < wr.heap.size:=(Array.getElem?_eq_some_iff.1 hit).1
  have Hpos:=Lib.hid (iterPos_of hit)
  by_cases hp : q < s.size
  ·obtain ⟨⟨R,W⟩,HDc⟩ : ∃ d,Utf8.decode s q = d:=⟨_,rfl⟩
   have hd:=dec_bd s q hp
   have hnx : ∀ ty,(Instr.next (.pointer (some ⟨w.heap.size,0,none⟩)) true ty).run Tryz.prog wr = _:=fun ty=>Lib.run_next_any_at wr w.heap.size s q ty hit hp
   have hit2:=Lib.iterAt_heap wr w.heap.size s q (q + (Utf8.decode s q).2) hit
   have hb2:=Lib.below_iterAt hb (k:=w.heap.size) (Nat.le_refl _) s (q + (Utf8.decode s q).2)
   have ho2:=ho.iterAt (k:=w.heap.size) (by omega) s (q + (Utf8.decode s q).2)
   have hsz2 : w.heap.size < (wr.iterAt w.heap.size s (q + (Utf8.decode s q).2)).heap.size:=by rw [Lib.iterAt_size];exact hsz
   rw [HDc] at hd hnx hit2 hb2 ho2 hsz2
   simp only at hd hnx hit2 hb2 ho2 hsz2
   obtain ⟨g,HA⟩:=ofCAt_add HR.out hp HDc (by omega)
   have HA:=Lib.hid HA
   clear HR HDc
   generalize wr.iterAt w.heap.size s (q + W) = w2 at hnx hit2 hb2 ho2 hsz2
   have HG:=Lib.hid (vGet_any base p x d R w2 (HD.out.1.below hb2) HD.out.2.1 HD.out.2.2)
   clear ho hb hit hsz
   go_wp2_with (first | (go_at_call 132;refine HG.out.mono ?_;rintro e w4 ⟨rfl,rfl⟩;have hit4:=hit2;have ho4:=ho2;have hbb:=hb2;have hsz4:=hsz2) | (at_builtin;go_must (refine wpList_app rfl (.tmp 13) (.tmp 17) _ rfl (w.heap.size + 1) 3 i0 _ 1 8 Tryz.underlying52 hi0 hz0 hz1 hz2 rfl (by omega) A1 n1 c1 (o.map encN) rfl (ho4.alloc _) _ 1 1 [encN (d.get R)] rfl rfl (Rd.newAt (by simp) rfl) (encN_ok [d.get R]) (by unfold maxLen;omega) (by omega) (by simp;omega) ?_);intro A3 c3 w3 ho3 hg3 hA3;have hit3:=hg3.block w.heap.size (by simp;omega) (fun e=>by cases A1 with | none=>simp at e | some a=>have:=(ho4.lt a rfl).1;simp at e;omega);have hb3:=below_app (hbb.alloc (by omega) _) hg3 (by simp;omega) (fun a ha=>by have:=(ho4.lt a ha).1;omega);clear hg3))
   have hit5 : w3.heap[w.heap.size]? = some (.stringIter s (q + W)):=hit3.trans ((Below.heap_alloc _ _ _ hsz4).trans hit4)
   have Ho3 : Own w3 (w.heap.size + 1) 3 1 A3 (n1 + 1) c3 ((o ++ [d.get (R : Int)]).map encN):=by rw [List.map_append];exact ho3
   clear hit3 ho3
   go_roundw
   case rel=>exact ⟨q + W,g,A3,n1 + 1,c3,o ++ [d.get (R : Int)],rfl,hit5,Ho3,by omega,by omega,HA,hb3⟩
   case measure=>rw [iterPos_of hit5,Hpos.out];omega
  ·have hnx : ∀ ty,(Instr.next (.pointer (some ⟨w.heap.size,0,none⟩)) true ty).run Tryz.prog wr = _:=fun ty=>Lib.run_next_end_at wr w.heap.size s q ty hit hp
   have HE:=Lib.hid (ofCAt_end HR.out hp)
   go_wp2
   go_ret
   exact ⟨A1,n1,c1,rfl,by rw [← HE.out];exact ho.more (by omega),hb⟩
end Go.Proofs.YtglmcknlnoknoaaGreatDoor
/- -/
namespace Go.Proofs.YtglmcknlnoknoaaGreatDoor
open Go.RowKit Go.Maps
theorem ret_pair {a b c d : Value} (h1 : a = c) (h2 : b = d) : Ending.returned (.tuple #[a,b]) = .returned (.tuple #[c,d]):=by rw [h1,h2]
set_option maxRecDepth 100000 in
set_option maxHeartbeats 2000000 in
theorem vcut_any (L : List UInt8) (w : World) (hL : L.length ≤ 1000000) :
  Calls Tryz.prog 229 #[.string (bytesOf L)] w fun e w'=>e = .returned (.tuple #[.string (bytesOf (L.take (hashP L))),.int .i64 (fv (findP 59 (L.take (hashP L))))]) ∧ Below w.heap.size w w':=by
 have HIS:=Lib.hid (cutD_is L)
 have hsz : (bytesOf L).size = L.length:=bytesOf_size L
 go_enter Tryz.func229,Tryz.ntmps229
 go_wp2
 go_loopw [4,5] (fun a v wr=>∃ (semi : Option Nat) (i : Nat),a = .int .i64 (fv semi) ∧ v = .int .i64 i ∧ i ≤ L.length ∧ Hid (CutAt L i semi) ∧ Below w.heap.size w wr) (fun _ v _=>L.length - (intOf v).toNat)
 case atStart=>exact ⟨none,0,rfl,rfl,by omega,cutAt_first L,Below.refl _ _⟩
 case round =>
  obtain ⟨semi,i,rfl,rfl,hi,HC,hb⟩:=hrel
  by_cases hlt : i < L.length
  ·have HQ:=Lib.hid (sQuoted_any (bytesOf L) i wr (by omega) (by omega))
   have hqq:=quoted_qt (bytesOf L) i (by omega)
   rw [bytesOf_list] at hqq
   have hp : i < (bytesOf L).size:=by omega
   have hix:=index_at (bytesOf L) i i rfl hp
   obtain ⟨x,hx⟩ : ∃ x,(bytesOf L)[i]'hp = x:=⟨_,rfl⟩
   have Hx : Hid (L[i]? = some x):=Lib.hid (by have:=get_list hp;rw [bytesOf_list,hx] at this;exact this)
   have hgi : (((bytesOf L)[i]'hp).toNat : Int) = (x.toNat : Int):=by rw [hx]
   rw [hx] at hix
   clear hx
   cases hq : qtL (L.drop i) with
   | some k =>
    rw [hq] at hqq
    obtain ⟨q1,q2⟩:=hqq
    have HC':=Lib.hid (cutAt_qt HC.out hq)
    have hik : i + k ≤ L.length:=HC'.out.1
    generalize quotedP (bytesOf L) i = Q at HQ q1 q2
    obtain ⟨r,wd,ok⟩:=Q
    simp only at q1 q2
    subst q1
    have hk3:=(qtL_some hq).1
    clear hq
    go_wp2_with (go_at_call 278;refine HQ.out.mono ?_;rintro e w2 ⟨rfl,hb2⟩)
    go_roundw
    case rel=>exact ⟨semi,i + k,rfl,by go_num,hik,HC',below_step hb hb2 hb.size⟩
    case measure=>simp [intOf];omega
   | none =>
    rw [hq] at hqq
    generalize quotedP (bytesOf L) i = Q at HQ hqq
    obtain ⟨r,wd,ok⟩:=Q
    simp only at hqq
    subst hqq
    have h35 : x = 35 ↔ (x.toNat : Int) = 35:=by have h1 : x = 35 ↔ x.toNat = 35:=u8_eq (n:=35) (by omega);rw [h1];omega
    have h59 : x = 59 ↔ (x.toNat : Int) = 59:=by have h1 : x = 59 ↔ x.toNat = 59:=u8_eq (n:=59) (by omega);rw [h1];omega
    have HH:=Lib.hid (fun h=>cutAt_hash HC.out Hx.out hq (h35.2 h))
    have HS:=Lib.hid (fun h hs=>cutAt_semi HC.out Hx.out hq (h59.2 h) hs)
    have HGo:=Lib.hid (fun (h : ¬ (x.toNat : Int) = 35) (hs : ¬ ((x.toNat : Int) = 59 ∧ semi = none))=>cutAt_go HC.out Hx.out hq (fun k=>h (h35.1 k)) (fun k=>hs ⟨h59.1 k.1,k.2⟩))
    generalize (x.toNat : Int) = z at hix hgi HH HS HGo
    clear h35 h59 hq
    rcases (by omega : z = 35 ∨ z = 59 ∨ (z ≠ 35 ∧ z ≠ 59)) with hz | hz | ⟨hz,hz'⟩
    ·have HE:=HH.out hz
     rw [HIS.out] at HE
     injection HE with HE1 HE2
     have HE1:=Lib.hid HE1
     have HE2:=Lib.hid HE2
     have hzz : (z == 35) = true:=by rw [hz];rfl
     clear hz HH HS HGo
     go_wp2_with (go_at_call 278;refine HQ.out.mono ?_;rintro e w2 ⟨rfl,hb2⟩)
     go_ret2
     have h1:=ext_bytes0 L i
     rw [← HE1.out] at h1
     exact ⟨ret_pair (congrArg Value.string (by first | exact h1 | (rw [HE1.out] at h1 ⊢;exact h1) | rfl)) (congrArg (Value.int .i64) (by rw [HE2.out])),below_step hb hb2 hb.size⟩
    ·have hzz : (z == 35) = false:=by rw [hz];rfl
     have hzy : (z == 59) = true:=by rw [hz];rfl
     cases semi with
     | none =>
      have HC':=Lib.hid (HS.out hz rfl)
      have hfn : decide (fv none < 0) = true:=rfl
      clear hz HH HS HGo
      go_wp2_with (go_at_call 278;refine HQ.out.mono ?_;rintro e w2 ⟨rfl,hb2⟩)
      go_roundw
      case rel=>exact ⟨some i,i + 1,rfl,by go_num,by omega,HC',below_step hb hb2 hb.size⟩
      case measure=>simp [intOf];omega
     | some k =>
      have HC':=Lib.hid (HGo.out (by omega) (fun h=>by cases h.2))
      have hfn : decide (fv (some k) < 0) = false:=decide_eq_false (by simp only [fv];omega)
      clear hz HH HS HGo
      go_wp2_with (go_at_call 278;refine HQ.out.mono ?_;rintro e w2 ⟨rfl,hb2⟩)
      go_roundw
      case rel=>exact ⟨some k,i + 1,rfl,by go_num,by omega,HC',below_step hb hb2 hb.size⟩
      case measure=>simp [intOf];omega
    ·have hzz : (z == 35) = false:=beq_eq_false_iff_ne.2 hz
     have hzy : (z == 59) = false:=beq_eq_false_iff_ne.2 hz'
     have HC':=Lib.hid (HGo.out hz (fun h=>hz' h.1))
     clear hz hz' HH HS HGo
     go_wp2_with (go_at_call 278;refine HQ.out.mono ?_;rintro e w2 ⟨rfl,hb2⟩)
     go_roundw
     case rel=>exact ⟨semi,i + 1,rfl,by go_num,by omega,HC',below_step hb hb2 hb.size⟩
     case measure=>simp [intOf];omega
  ·have HE:=cutAt_end HC.out hlt
   rw [HIS.out] at HE
   injection HE with HE1 HE2
   have HE1:=Lib.hid HE1
   have HE2:=Lib.hid HE2
   go_wp2
   go_ret2
   exact ⟨ret_pair (congrArg Value.string (by rw [HE1.out,List.take_length];try rfl)) (by rw [HE2.out];try rfl),hb⟩
end Go.Proofs.YtglmcknlnoknoaaGreatDoor
/- -/
namespace Go.Proofs.YtglmcknlnoknoaaGreatDoor
open Go.RowKit Go.Maps
def hitR (x y : Int × Int) : Bool:=decide (x.1 ≤ y.2) && decide (y.1 ≤ x.2)
theorem meetB_any (a b : List (Int × Int)) : meetB a b = a.any fun x=>b.any fun y=>hitR x y:=rfl
theorem any_next {α : Type} {l : List α} {i : Nat} {x : α} {f : α → Bool} (h : (l.take i).any f = false) (hx : l[i]? = some x) (hf : f x = false) : (l.take (i + 1)).any f = false:=by
 rw [List.take_add_one,hx];simp [List.any_append,h,hf]
theorem any_hit {α : Type} {l : List α} {i : Nat} {x : α} {f : α → Bool} (hx : l[i]? = some x) (hf : f x = true) : l.any f = true:=List.any_eq_true.2 ⟨x,List.mem_of_getElem? hx,hf⟩
theorem any_all {α : Type} {l : List α} {i : Nat} {f : α → Bool} (h : (l.take i).any f = false) (hi : ¬ i < l.length) : l.any f = false:=by rwa [List.take_of_length_le (by omega)] at h
set_option maxRecDepth 100000 in
set_option maxHeartbeats 2000000 in
theorem vmeet_any (A B : Option Addr) (n c m e : Nat) (l q : List (Int × Int)) (w : World) (hA : Rd w 2 A (l.map encR)) (hB : Rd w 2 B (q.map encR)) (hl : l.length = n) (hq : q.length = m) (hn : n ≤ 4000000) (hm : m ≤ 4000000) :
  Calls Tryz.prog 235 #[.slice A n c,.slice B m e] w fun e w'=>e = .returned (.bool (meetB l q)) ∧ ∃ k,w' = w.drewN k:=by
 have Hl:=Lib.hid hl
 have Hq:=Lib.hid hq
 have HMB:=Lib.hid (meetB_any l q)
 go_enter Tryz.func235,Tryz.ntmps235
 go_wp2
 go_loopw [5] (fun v wr=>∃ i k : Nat,v = .int .i64 i ∧ i ≤ n ∧ Hid ((l.take i).any (fun x=>q.any fun y=>hitR x y) = false) ∧ wr = w.drewN k) (fun v _=>n - (intOf v).toNat)
 case atStart=>exact ⟨0,0,rfl,by omega,by simp [Hid],rfl⟩
 case round =>
  obtain ⟨i,k,rfl,hi,HI,rfl⟩:=hrel
  by_cases hlt : i < n
  ·obtain ⟨bA,oA,x1,x2,rfl,Hx,hx1,hx2⟩:=hA.atR (k:=i) (by have:=Hl.out;omega)
   have hdi : decide (i < n) = true:=decide_eq_true hlt
   go_wp2_with fail
   go_loopw [6] (fun v wr=>∃ j k2 : Nat,v = .int .i64 j ∧ j ≤ m ∧ Hid ((q.take j).any (fun y=>hitR (x1,x2) y) = false) ∧ wr = w.drewN k2) (fun v _=>m - (intOf v).toNat)
   case atStart=>exact ⟨0,k,rfl,by omega,by simp [Hid],rfl⟩
   case round =>
    obtain ⟨j,k2,rfl,hj,HJ,rfl⟩:=hrel
    by_cases hltj : j < m
    ·obtain ⟨bB,oB,y1,y2,rfl,Hy,hy1,hy2⟩:=hB.atR (k:=j) (by have:=Hq.out;omega)
     rcases (by omega : ¬ x1 ≤ y2 ∨ (x1 ≤ y2 ∧ ¬ y1 ≤ x2) ∨ (x1 ≤ y2 ∧ y1 ≤ x2)) with h1 | ⟨h1,h2⟩ | ⟨h1,h2⟩
     ·have HJ':=Lib.hid (any_next HJ.out Hy.out (show hitR (x1,x2) (y1,y2) = false by simp [hitR,h1]))
      have hd1 : decide (x1 ≤ y2) = false:=decide_eq_false h1
      go_wp2_with fail
      go_quiet (fail)
      go_wp2
      go_roundw
      case rel=>exact ⟨j + 1,_,by go_num,by omega,HJ',by first | rfl | exact World.drewN_drewN _ _ _⟩
      case measure=>simp [intOf];omega
     ·have HJ':=Lib.hid (any_next HJ.out Hy.out (show hitR (x1,x2) (y1,y2) = false by simp [hitR,h2]))
      have hd1 : decide (x1 ≤ y2) = true:=decide_eq_true h1
      have hd2 : decide (y1 ≤ x2) = false:=decide_eq_false h2
      go_wp2_with fail
      go_quiet (fail)
      go_wp2
      go_roundw
      case rel=>exact ⟨j + 1,_,by go_num,by omega,HJ',by first | rfl | exact World.drewN_drewN _ _ _⟩
      case measure=>simp [intOf];omega
     ·have HE : Hid (meetB l q = true):=Lib.hid (by rw [HMB.out];exact any_hit Hx.out (any_hit Hy.out (show hitR (x1,x2) (y1,y2) = true by simp [hitR,h1,h2])))
      have hd1 : decide (x1 ≤ y2) = true:=decide_eq_true h1
      have hd2 : decide (y1 ≤ x2) = true:=decide_eq_true h2
      go_wp2_with fail
      go_quiet (fail)
      go_wp2
      go_ret
      exact ⟨by rw [HE.out];rfl,_,by first | rfl | exact World.drewN_drewN _ _ _⟩
    ·have HI':=Lib.hid (any_next HI.out Hx.out (any_all HJ.out (show ¬ j < q.length by have:=Hq.out;omega)))
     go_wp2
     go_roundw
     case rel=>exact ⟨i + 1,k2,by go_num,by omega,HI',rfl⟩
     case measure=>simp [intOf];omega
  ·have HE : Hid (meetB l q = false):=Lib.hid (by rw [HMB.out];exact any_all HI.out (show ¬ i < l.length by have:=Hl.out;omega))
   go_wp2
   go_ret
   exact ⟨by rw [HE.out];rfl,k,rfl⟩
end Go.Proofs.YtglmcknlnoknoaaGreatDoor
/- -/
namespace Go.Proofs.YtglmcknlnoknoaaGreatDoor
section
variable {A B : List Int}
end
end Go.Proofs.YtglmcknlnoknoaaGreatDoor
/- -/
namespace Go.Proofs.YtglmcknlnoknoaaGreatDoor
end Go.Proofs.YtglmcknlnoknoaaGreatDoor
/- -/
namespace Go.Proofs.YtglmcknlnoknoaaGreatDoor
end Go.Proofs.YtglmcknlnoknoaaGreatDoor
/- -/
namespace Go.Proofs.YtglmcknlnoknoaaGreatDoor
end Go.Proofs.YtglmcknlnoknoaaGreatDoor
/- -/
namespace Go.Proofs.YtglmcknlnoknoaaGreatDoor
theorem lastStart_eq (l : List UInt8) : Lib.lastStart l = if l.length < 2 then 0 else if Lib.runeStartB (l.getD (l.length - 2) 0) = true then l.length - 2 else if l.length < 3 then 0 else if Lib.runeStartB (l.getD (l.length - 3) 0) = true then l.length - 3 else if l.length < 4 then 0 else if Lib.runeStartB (l.getD (l.length - 4) 0) = true then l.length - 4 else if l.length < 5 then 0 else l.length - 5:=rfl
theorem start_iff (b : UInt8) : Lib.runeStartB b = true ↔ b.toNat / 64 ≠ 2:=by unfold Lib.runeStartB;simp
theorem dec_drop (s : ByteArray) (k : Nat) : Lib.decodeL (s.data.toList.drop k) = Utf8.decode s k:=by
 unfold Lib.decodeL
 have h:=Lib.tail_decode s k 0
 rw [Nat.add_zero] at h
 rw [← h]
 congr 1
 have : (s.extract k s.size).data.toList = s.data.toList.drop k:=by
  rw [ByteArray.data_extract,Array.toList_extract,List.extract_eq_take_drop,List.take_of_length_le (by rw [List.length_drop,size_data];exact Nat.le_refl _)]
 rw [← this]
theorem last_rune (s : ByteArray) {x : Nat × Nat × Nat} (hx : x ∈ runesP s) (he : x.2.2 = s.size) : Lib.decodeLastL s.data.toList = (x.1,x.2.2 - x.2.1):=by
 have hb:=runesP_bd x hx
 have hd:=runesGo_dec _ _ x hx
 have hsz:=size_data s
 have hget : ∀ k,s.data.toList.getD k 0 = s.get! k:=fun k=>Lib.getD_get!' s k
 have hne : s.data.toList ≠ []:=fun h=>by rw [h] at hsz;simp at hsz;omega
 have huniq : ∀ y ∈ runesP s,y.2.1 < s.size → x.2.1 ≤ y.2.1 → y.2.1 = x.2.1:=fun y hy h1 h2=>by
  rcases Nat.lt_or_ge x.2.1 y.2.1 with h3 | h3
  ·exact absurd ⟨h3,by omega⟩ (place_gap s _ 0 s.size (runesP_contig s) x hx y hy)
  ·omega
 unfold Lib.decodeLastL
 rw [if_neg hne,hsz,hget]
 by_cases hasc : (s.get! (s.size - 1)).toNat < 128
 ·rw [if_pos hasc]
  obtain ⟨y,hy,e⟩:=ascii_at s (z:=s.size - 1) (by omega) hasc s.size 0 (by omega) (Nat.zero_le _)
  have:=huniq y hy (by omega) (by omega)
  have hp : x.2.1 = s.size - 1:=by omega
  rw [hp,Lib.decode_at] at hd
  unfold Lib.decodeN at hd
  rw [if_pos hasc] at hd
  rw [hp,← hd]
 ·rw [if_neg hasc]
  have hst : Lib.lastStart s.data.toList < s.size ∧ (Lib.lastStart s.data.toList + 1 = s.size → s.size = 1):=by
   rw [lastStart_eq,hsz]
   repeat' split
   all_goals omega
  rw [dec_drop s _]
  simp only
  rcases Nat.lt_or_ge (x.2.2 - x.2.1) 2 with hW | hW
  ·-- one byte
   have hp : x.2.1 = s.size - 1:=by omega
   have hW1 : x.2.2 - x.2.1 = 1:=by omega
   have hR : x.1 = 65533:=by
    rw [hW1,hp,Lib.decode_at] at hd
    unfold Lib.decodeN at hd
    rw [if_neg hasc] at hd
    repeat' split at hd
    all_goals (injection hd with h1 h2;omega)
   obtain ⟨⟨R',W'⟩,hD⟩ : ∃ d,Utf8.decode s (Lib.lastStart s.data.toList) = d:=⟨_,rfl⟩
   have hbd:=dec_bd s _ hst.1
   rw [hD] at hbd ⊢
   simp only at hbd ⊢
   split
   ·rename_i hsum
    rcases Nat.lt_or_ge W' 2 with h1 | h1
    ·have h0 : Lib.lastStart s.data.toList = x.2.1:=by have:=hst.2 (by omega);omega
     rw [h0,hd] at hD
     exact hD.symm
    ·exfalso
     have hl:=dec_lead hD h1
     obtain ⟨y,hy,e⟩:=lead_at s hst.1 (by omega) s.size 0 (by omega) (Nat.zero_le _)
     have hdy:=runesGo_dec _ _ y hy
     rw [e,hD] at hdy
     injection hdy with _ h2
     have hby:=runesP_bd y hy
     exact place_gap s _ 0 s.size (runesP_contig s) y hy x hx (by omega)
   ·rw [hR,hW1];rfl
  ·-- several bytes
   have hl:=dec_lead hd hW
   have htail : ∀ k,0 < k → k < x.2.2 - x.2.1 → ¬ Lib.runeStartB (s.data.toList.getD (x.2.1 + k) 0) = true:=fun k h0 h1=>by
    rw [start_iff,hget]
    have:=dec_tail hd h0 h1
    omega
   have hlead : Lib.runeStartB (s.data.toList.getD x.2.1 0) = true:=by rw [start_iff,hget];omega
   have hls : Lib.lastStart s.data.toList = x.2.1:=by
    rw [lastStart_eq,hsz]
    rcases (show x.2.2 - x.2.1 = 2 ∨ x.2.2 - x.2.1 = 3 ∨ x.2.2 - x.2.1 = 4 by omega) with h | h | h
    ·rw [if_neg (by omega),show s.size - 2 = x.2.1 by omega,if_pos hlead]
    ·rw [if_neg (by omega),show s.size - 2 = x.2.1 + 1 by omega,if_neg (htail 1 (by omega) (by omega)),if_neg (by omega),show s.size - 3 = x.2.1 by omega,if_pos hlead]
    ·rw [if_neg (by omega),show s.size - 2 = x.2.1 + 2 by omega,if_neg (htail 2 (by omega) (by omega)),if_neg (by omega),show s.size - 3 = x.2.1 + 1 by omega,if_neg (htail 1 (by omega) (by omega)),if_neg (by omega),show s.size - 4 = x.2.1 by omega,if_pos hlead]
   rw [hls,hd,if_pos (by simp only;omega)]
end Go.Proofs.YtglmcknlnoknoaaGreatDoor
/- -/
namespace Go.Proofs.YtglmcknlnoknoaaGreatDoor
open Go.RowKit
end Go.Proofs.YtglmcknlnoknoaaGreatDoor
