/-
 Several texts in one,in their build order: PrsP,PrsL,UtfP,GraP,PrsG,UtfJ,UtfS,LinP,LinQ,GraQ,LinR,UtfI,PropsL,DbK,Dg,GraS,GraR,GraT,GraV,PlcP,RunD,RunT,Ue,Rng,AppIn,RngC,Ge,Each,Kt,We,PlcM,PlcN,WorP,Ga,Ka,Kb,Rgn,Last,Rgq,PlcK0,WorQ,WorR,WorT,Wl,HexR,PrintS,RefY,Bld,RefZ.
-/
import Derived.Lib.DecodeN
import Derived.Lib.RuneCountTail
import Derived.KernelRfl
import Derived.Lib.MapLaws
import Derived.RangeFuncNested
import Derived.RangeFuncBound
import Derived.RangeFuncCalls
import Derived.RangeFuncLeaves
import Derived.Shelf.Abstract
import Derived.Shelf.RegionOpen
import Derived.OwnWalkIn
import Derived.TacticsInMore
import Derived.LoopNIn
import Derived.LoopIn
import Derived.RangeFuncKeeps
import Derived.Deep.DeepMust
import Derived.Maps.OwnRows
import Derived.Maps.OwnIn
import Derived.Maps.Views
import Derived.Deep.CutRange
import Derived.Deep.RegionHeld3
import Derived.CallsIn
import Derived.OrdersIn
import Derived.Deep.QuietTactic
import Derived.BigQuiet
import Derived.Deep.LoopGhost
import Derived.Lib.AppendStr
import Derived.Lib.BufferRead
import Derived.Lib.UnsafeStr
import Derived.Shelf.Strings.BuilderK
import Derived.Lib.OthersKept
import Derived.RangeFuncOwn
import Derived.Test.YtlfpdpbbkjnapaaGreatDoorP0a
import Derived.Test.YtlfpdpbbkjnapaaGreatDoorP2a
import Derived.Test.YtlfpdpbbkjnapaaGreatDoorP1a
import Derived.Test.YtlfpdpbbkjnapaaGreatDoorPWc
import Derived.Test.YtlfpdpbbkjnapaaGreatDoorPRefU
import Derived.Test.YtlfpdpbbkjnapaaGreatDoorP6a
import Derived.Test.YtlfpdpbbkjnapaaGreatDoorPShelf
/- -/
namespace Go.Proofs.YtlfpdpbbkjnapaaGreatDoor
set_option maxRecDepth 100000
set_option maxHeartbeats 40000000
section
end
section
def part (c : List Nat) (i k : Nat) : List Nat:=(c.drop i).take (k - i)
end
section
def Contig : Nat→List (Nat × Nat × Nat)→Nat→Prop
 | p,[],z=>p = z
 | p,x :: r,z=>x.2.1 = p∧p < x.2.2∧Contig x.2.2 r z
theorem runesGo_contig {s : ByteArray} : ∀ (f a : Nat),s.size≤a+f→a≤s.size→Contig a (runesGo s f a) s.size
 | 0,a,h,h2=>by simp only [runesGo,Contig];omega
 | f+1,a,h,h2=>by
  rw [runesGo]
  split
  ·rename_i hlt
   have hd:=dec_bd s a hlt
   exact ⟨rfl,by simp only;omega,runesGo_contig f _ (by simp only;omega) (by simp only;omega)⟩
  ·show a = s.size;omega
theorem runesP_contig (s : ByteArray) : Contig 0 (runesP s) s.size:=runesGo_contig _ _ (by omega) (by omega)
theorem runesGo_dec {s : ByteArray} : ∀ (f a : Nat),∀ x ∈ runesGo s f a,Utf8.decode s x.2.1 = (x.1,x.2.2 - x.2.1)
 | 0,a,x,h=>by simp [runesGo] at h
 | f+1,a,x,h=>by
  rw [runesGo] at h
  split at h
  ·rcases List.mem_cons.1 h with rfl | h
   ·simp only;rw [Nat.add_sub_cancel_left]
   ·exact runesGo_dec f _ x h
  ·simp at h
end
section
def endG (c : Nat) : Bool:=c == 1 || c == 2 || c == 3
def joinG (x y : Nat) : Bool :=
 if x = 1∧y = 2 then true
 else if endG x || endG y then false
 else if y == 4 || y == 5 || y == 6 || x == 7 then true
 else if x = 8 then y == 8 || y == 9 || y == 11
 else if x = 9∨x = 11 then y == 9 || y == 10
 else x == 10 && y == 10
structure GS where
 prev : Nat
 pict : Bool
 joined : Bool
 flags : Nat
def GS.cut (st : GS) (y : Nat) : Bool:=!(joinG st.prev y || st.joined && y == 12 || y == 13 && st.flags % 2 == 1)
def GS.next (st : GS) (y : Nat) : GS:=⟨y,y == 12 || st.pict && y == 4,st.pict && y == 5,if y = 13 then st.flags+1 else 0⟩
def GS.first (y : Nat) : GS:=⟨y,y == 12,false,if y = 13 then 1 else 0⟩
def cutSt : GS→List Nat→List Bool
 | _,[]=>[]
 | st,y :: r=>st.cut y :: cutSt (st.next y) r
def cutsG : List Nat→List Bool
 | []=>[]
 | y :: r=>true :: cutSt (GS.first y) r
def stOf : GS→List Nat→GS
 | st,[]=>st
 | st,y :: r=>stOf (st.next y) r
theorem stOf_snoc : ∀ (st : GS) (l : List Nat) (y : Nat),stOf st (l++[y]) = (stOf st l).next y
 | _,[],_=>rfl
 | st,z :: l,y=>stOf_snoc (st.next z) l y
theorem cutSt_snoc : ∀ (st : GS) (l : List Nat) (y : Nat),cutSt st (l++[y]) = cutSt st l++[(stOf st l).cut y]
 | _,[],_=>rfl
 | st,z :: l,y=>by rw [List.cons_append,cutSt,cutSt_snoc (st.next z) l y];rfl
theorem cutSt_len : ∀ (st : GS) (l : List Nat),(cutSt st l).length = l.length
 | _,[]=>rfl
 | st,y :: r=>by rw [cutSt,List.length_cons,cutSt_len (st.next y) r,List.length_cons]
theorem cutsG_len (l : List Nat) : (cutsG l).length = l.length:=by
 cases l with
 | nil=>rfl
 | cons y r=>rw [cutsG,List.length_cons,cutSt_len,List.length_cons]
def pickG : List (Nat × Nat × Nat)→List Bool→List Nat
 | x :: r,b :: t=>(if b then [x.2.1] else [])++pickG r t
 | _,_=>[]
def clsG (g : Int→Nat) (r : List (Nat × Nat × Nat)) : List Nat:=r.map fun x=>g x.1
def startsG (g : Int→Nat) (s : ByteArray) : List Nat:=pickG (runesP s) (cutsG (clsG g (runesP s)))
def boundsG (g : Int→Nat) (s : ByteArray) : List Nat:=if s.size = 0 then [] else startsG g s++[s.size]
theorem pickG_snoc : ∀ (r : List (Nat × Nat × Nat)) (t : List Bool) (x : Nat × Nat × Nat) (b : Bool),t.length = r.length→pickG (r++[x]) (t++[b]) = pickG r t++(if b then [x.2.1] else [])
 | [],[],x,b,_=>by simp [pickG]
 | [],_ :: _,_,_,h=>by simp at h
 | _ :: _,[],_,_,h=>by simp at h
 | y :: r,c :: t,x,b,h=>by
  rw [List.cons_append,List.cons_append,pickG,pickG,pickG_snoc r t x b (by simpa using h),List.append_assoc]
theorem pickG_mem : ∀ {r : List (Nat × Nat × Nat)} {t : List Bool} {a : Nat},a ∈ pickG r t ↔ ∃ (k : Nat) (x : Nat × Nat × Nat),r[k]? = some x∧t[k]? = some true∧x.2.1 = a
 | [],t,a=>by simp [pickG]
 | _ :: _,[],a=>by simp [pickG]
 | x :: r,b :: t,a=>by
  rw [pickG,List.mem_append,pickG_mem (r:=r) (t:=t)]
  constructor
  ·rintro (h | ⟨k,y,h1,h2,h3⟩)
   ·cases b with
    | false=>simp at h
    | true=>simp at h;exact ⟨0,x,rfl,rfl,h.symm⟩
   ·exact ⟨k+1,y,by simpa using h1,by simpa using h2,h3⟩
  ·rintro ⟨k,y,h1,h2,h3⟩
   cases k with
   | zero=>simp at h1 h2;subst h1;subst h2;exact .inl (by simp [h3])
   | succ k=>exact .inr ⟨k,y,by simpa using h1,by simpa using h2,h3⟩
theorem runes_rise (s : ByteArray) : (runesP s).Pairwise fun x y=>x.2.1 < y.2.1:=by
 have : ∀ (f a : Nat),(runesGo s f a).Pairwise fun x y=>x.2.1 < y.2.1:=by
  intro f
  induction f with
  | zero=>intro a;exact .nil
  | succ f ih =>
   intro a
   rw [runesGo]
   split
   ·rename_i hlt
    have hd:=dec_bd s a hlt
    refine .cons (fun y hy=>?_) (ih _)
    have:=runesGo_bd _ _ y hy
    simp only;omega
   ·exact .nil
 exact this _ _
theorem clsG_len (g : Int→Nat) (r : List (Nat × Nat × Nat)) : (clsG g r).length = r.length:=by simp [clsG]
theorem pick_rise : ∀ {r : List (Nat × Nat × Nat)} {t : List Bool},(r.Pairwise fun x y=>x.2.1 < y.2.1)→(pickG r t).Pairwise (· < ·)
 | [],t,_=>by cases t <;> exact .nil
 | _ :: _,[],_=>.nil
 | x :: r,b :: t,h=>by
  rw [List.pairwise_cons] at h
  rw [pickG]
  cases b with
  | false=>exact pick_rise h.2
  | true =>
   refine .cons (fun a ha=>?_) (pick_rise h.2)
   obtain ⟨k,y,h1,_,rfl⟩:=pickG_mem.1 ha
   exact h.1 y (List.mem_of_getElem? h1)
theorem starts_rise (g : Int→Nat) (s : ByteArray) : (startsG g s).Pairwise (· < ·):=pick_rise (runes_rise s)
theorem starts_lt (g : Int→Nat) (s : ByteArray) : ∀ a ∈ startsG g s,a < s.size:=fun a ha=>by
 obtain ⟨k,y,h1,_,rfl⟩:=pickG_mem.1 ha
 have:=runesP_bd y (List.mem_of_getElem? h1);omega
theorem starts_zero (g : Int→Nat) {s : ByteArray} (h : 0 < s.size) : ∃ T,startsG g s = 0 :: T:=by
 obtain ⟨k,hk,e⟩:=runesGo_step (s:=s) (f:=s.size) (a:=0) h (by omega)
 unfold startsG runesP
 rw [e]
 exact ⟨_,rfl⟩
theorem bounds_rise (g : Int→Nat) (s : ByteArray) : (boundsG g s).Pairwise (· < ·):=by
 unfold boundsG
 split
 ·exact .nil
 ·rw [List.pairwise_append]
  exact ⟨starts_rise g s,by simp,fun a ha b hb=>by simp at hb;subst hb;exact starts_lt g s a ha⟩
end
section
def Ahead (start : Bool) (L : List Nat→Prop) (a : List Nat) : Prop:=∃ u v,a = u++v∧(start = true→u = [])∧L v
def Behind (stop : Bool) (L : List Nat→Prop) (b : List Nat) : Prop:=∃ u v,b = u++v∧(stop = true→v = [])∧L u
def One (cs : List Nat) (u : List Nat) : Prop:=∃ x,u = [x]∧x ∈ cs
end
section
theorem decN_cont {n b0 b1 b2 b3 R W : Nat} (h : Lib.decodeN n b0 b1 b2 b3 = (R,W)) : (2≤W→128≤b1)∧(3≤W→128≤b2)∧(4≤W→128≤b3)∧W≤4:=by
 unfold Lib.decodeN at h
 repeat' split at h
 all_goals (injection h with _ h;omega)
theorem dec_cont {s : ByteArray} {i k R W : Nat} (h : Utf8.decode s i = (R,W)) (hk : 0 < k) (hW : k < W) : 128≤(s.get! (i+k)).toNat:=by
 rw [Lib.decode_at] at h
 obtain ⟨h1,h2,h3,h4⟩:=decN_cont h
 rcases (show k = 1∨k = 2∨k = 3 by omega) with rfl | rfl | rfl
 ·exact h1 (by omega)
 ·exact h2 (by omega)
 ·exact h3 (by omega)
theorem ascii_at (s : ByteArray) {z : Nat} (hz : z < s.size) (ha : (s.get! z).toNat < 128) : ∀ (f a : Nat),s.size≤a+f→a≤z→∃ x ∈ runesGo s f a,x.2.1 = z
 | 0,a,hf,hle=>by omega
 | f+1,a,hf,hle=>by
  have hlt : a < s.size:=by omega
  have hd:=dec_bd s a hlt
  obtain ⟨⟨R,W⟩,hD⟩ : ∃ d,Utf8.decode s a = d:=⟨_,rfl⟩
  rw [hD] at hd
  simp only at hd
  have hr : runesGo s (f+1) a = (R,a,a+W) :: runesGo s f (a+W):=by rw [runesGo,if_pos hlt,hD]
  rw [hr]
  by_cases haz : a = z
  ·exact ⟨_,List.mem_cons_self,haz⟩
  ·have hle2 : a+W≤z:=by
    rcases Nat.lt_or_ge z (a+W) with h | h
    ·have:=dec_cont hD (k:=z - a) (by omega) (by omega)
     rw [show a+(z - a) = z by omega] at this;omega
    ·exact h
   obtain ⟨x,hx,e⟩:=ascii_at s hz ha f (a+W) (by omega) hle2
   exact ⟨x,List.mem_cons_of_mem _ hx,e⟩
end
section
end
end Go.Proofs.YtlfpdpbbkjnapaaGreatDoor
/- -/
namespace Go.Proofs.YtlfpdpbbkjnapaaGreatDoor
set_option maxRecDepth 100000
set_option maxHeartbeats 40000000
section
end
section
section
variable {A B : List Int} {e : Int}
end
end
section
theorem pick_len : ∀ (r : List (Nat × Nat × Nat)) (t : List Bool),t.length = r.length→(pickG r t).length = t.count true
 | [],[],_=>rfl
 | [],_ :: _,h=>by simp at h
 | _ :: _,[],h=>by simp at h
 | x :: r,b :: t,h=>by
  rw [pickG,List.length_append,pick_len r t (by simpa using h)]
  cases b with
  | false=>simp
  | true=>simp;omega
theorem starts_len (g : Int→Nat) (s : ByteArray) : (startsG g s).length = (cutsG (clsG g (runesP s))).count true:=pick_len _ _ (by rw [cutsG_len,clsG_len])
end
section
end
end Go.Proofs.YtlfpdpbbkjnapaaGreatDoor
/- -/
namespace Go.Proofs.YtlfpdpbbkjnapaaGreatDoor
set_option maxRecDepth 100000
set_option maxHeartbeats 40000000
section
theorem place_gap (s : ByteArray) : ∀ (r : List (Nat × Nat × Nat)) (p z : Nat),Contig p r z→∀ x ∈ r,∀ y ∈ r,¬ (x.2.1 < y.2.1∧y.2.1 < x.2.2)
 | [],_,_,_,x,hx,_,_=>by simp at hx
 | a :: r,p,z,h,x,hx,y,hy=>by
  obtain ⟨h1,h2,h3⟩:=h
  have hle : ∀ {r : List (Nat × Nat × Nat)} {p z : Nat},Contig p r z→∀ x ∈ r,p≤x.2.1:=by
   intro r
   induction r with
   | nil=>intro p z _ x hx;simp at hx
   | cons w r ih =>
    intro p z h x hx
    obtain ⟨k1,k2,k3⟩:=h
    rcases List.mem_cons.1 hx with rfl | hx
    ·omega
    ·have:=ih k3 x hx;omega
  rcases List.mem_cons.1 hx with ex | hx'
  ·rcases List.mem_cons.1 hy with ey | hy'
   ·rw [ex,ey];omega
   ·have:=hle h3 y hy';rw [ex];omega
  ·rcases List.mem_cons.1 hy with ey | hy'
   ·have:=hle h3 x hx';rw [ey];omega
   ·exact place_gap s r _ z h3 x hx' y hy'
end
section
def offB (x y : Int × Int × Nat) : Bool:=decide (x.2.1 < y.1) || decide (y.2.1 < x.1)
def offAll : List (Int × Int × Nat)→Bool
 | []=>true
 | x :: r=>r.all (offB x) && offAll r
theorem offAll_spec : ∀ {l : List (Int × Int × Nat)},offAll l = true→l.Pairwise Off
 | [],_=>.nil
 | x :: r,h=>by
  simp only [offAll,Bool.and_eq_true,List.all_eq_true] at h
  refine .cons (fun y hy=>?_) (offAll_spec h.2)
  have:=h.1 y hy
  simpa [offB,Off] using this
theorem entG_apart : ∀ {S : List (List (Int × Int))} {c : Nat},(entG c S).Pairwise Off→Apart S
 | [],c,_=>fun i j a b hi=>by simp at hi
 | s :: S,c,h=>by
  unfold entG at h
  rw [List.pairwise_append] at h
  have ih:=entG_apart h.2.1
  have hx : ∀ (j : Nat) (b : List (Int × Int)),S[j]? = some b→∀ r,memR s r→memR b r→False:=fun j b hb r ⟨x,hx,h1,h2⟩ ⟨y,hy,h3,h4⟩=>by
   have:=h.2.2 (x.1,x.2,c) (List.mem_map.2 ⟨x,hx,rfl⟩) (y.1,y.2,c+1+j) (mem_entG.2 ⟨j,b,hb,hy,rfl⟩)
   unfold Off at this;simp only at this;omega
  intro i j a b hi hj hij r ha hb
  cases i with
  | zero =>
   cases j with
   | zero=>omega
   | succ j=>simp at hi hj;subst hi;exact hx j b hj r ha hb
  | succ i =>
   cases j with
   | zero=>simp at hi hj;subst hj;exact hx i a hi r hb ha
   | succ j=>exact ih i j a b (by simpa using hi) (by simpa using hj) (by omega) r ha hb
def nfB : List (Int × Int)→Bool
 | []=>true
 | x :: r=>decide (0≤x.1) && decide (x.1≤x.2) && decide (x.2≤1114111) && r.all (fun y=>decide (x.2+1 < y.1)) && nfB r
theorem nfB_spec : ∀ {l : List (Int × Int)},nfB l = true→NF l
 | [],_=>⟨trivial,by simp⟩
 | x :: r,h=>by
  simp only [nfB,Bool.and_eq_true,List.all_eq_true,decide_eq_true_eq] at h
  obtain ⟨⟨⟨⟨h1,h2⟩,h3⟩,h4⟩,h5⟩:=h
  have ih:=nfB_spec h5
  refine ⟨⟨h2,h4,ih.1⟩,fun y hy=>?_⟩
  rcases List.mem_cons.1 hy with rfl | hy
  ·exact ⟨h1,h3⟩
  ·exact ih.2 y hy
def nodB : List (List UInt8)→Bool
 | []=>true
 | x :: r=>r.all (fun y=>!(y == x)) && nodB r
theorem nodB_spec : ∀ {l : List (List UInt8)},nodB l = true→l.Nodup
 | [],_=>.nil
 | x :: r,h=>by
  simp only [nodB,Bool.and_eq_true,List.all_eq_true] at h
  refine List.nodup_cons.2 ⟨fun hx=>?_,nodB_spec h.2⟩
  have:=h.1 x hx
  simp at this
def DbP.okB (d : DbP) : Bool :=
 decide (d.sets.length = d.names.length) && d.sets.all nfB && nodB d.names && decide (d.names.head? = some otherL) && decide (d.sets.head? = some []) && decide (d.names.length≤64) && offAll (entG 0 d.sets) && d.names.all nameL
theorem DbP.okB_spec {d : DbP} (h : d.okB = true) : d.Ok∧Apart d.sets∧d.Named:=by
 simp only [DbP.okB,Bool.and_eq_true,List.all_eq_true,decide_eq_true_eq] at h
 obtain ⟨⟨⟨⟨⟨⟨⟨h1,h2⟩,h3⟩,h4⟩,h5⟩,h6⟩,h7⟩,h8⟩:=h
 exact ⟨⟨h1,fun l hl=>nfB_spec (h2 l hl),nodB_spec h3,h4,h5,h6⟩,entG_apart (offAll_spec h7),h8⟩
end
section
def insK (x : Int × Int) : List (Int × Int)→List (Int × Int)
 | []=>[x]
 | y :: r=>if x.1≤y.1 then x :: y :: r else y :: insK x r
def sortK : List (Int × Int)→List (Int × Int)
 | []=>[]
 | x :: r=>insK x (sortK r)
theorem insK_perm (x : Int × Int) : ∀ (l : List (Int × Int)),(insK x l).Perm (x :: l)
 | []=>.refl _
 | y :: r=>by
  unfold insK
  split
  ·exact .refl _
  ·exact ((insK_perm x r).cons y).trans (List.Perm.swap x y r)
theorem sortK_perm : ∀ (l : List (Int × Int)),(sortK l).Perm l
 | []=>.refl _
 | x :: r=>(insK_perm x (sortK r)).trans ((sortK_perm r).cons x)
theorem insK_rise {x : Int × Int} : ∀ {l : List (Int × Int)},Rise l→Rise (insK x l)
 | [],_=>by unfold insK Rise;simp
 | y :: r,h=>by
  have h':=List.pairwise_cons.1 h
  unfold insK
  split
  ·rename_i hxy
   refine List.pairwise_cons.2 ⟨fun z hz=>?_,h⟩
   rcases List.mem_cons.1 hz with rfl | hz
   ·exact hxy
   ·have:=h'.1 z hz;omega
  ·rename_i hxy
   refine List.pairwise_cons.2 ⟨fun z hz=>?_,insK_rise h'.2⟩
   rcases List.mem_cons.1 ((insK_perm x r).mem_iff.1 hz) with rfl | hz
   ·omega
   ·exact h'.1 z hz
theorem sortK_rise : ∀ (l : List (Int × Int)),Rise (sortK l)
 | []=>.nil
 | _ :: r=>insK_rise (sortK_rise r)
def normK (l : List (Int × Int)) : List (Int × Int):=mergeR (sortK (keepR l))
theorem normK_eq (l : List (Int × Int)) : normK l = normR l:=mergeR_eq (sortK_perm _) (sortK_rise _)
def addK (d : DbP) (name set : List UInt8) : Except Int DbP :=
 if nameL name = false∨name = otherL then .error 40 else
 match parseE (spcL set) with
 | .error e=>.error e
 | .ok l =>
  match d.num name with
  | some c=>if d.clash c (normK l) then .error 41 else .ok ⟨d.names,d.sets.set c (normK ((d.sets.getD c [])++normK l))⟩
  | none=>if 64≤d.names.length then .error 6 else if d.clash d.names.length (normK l) then .error 41 else .ok ⟨d.names++[name],d.sets++[normK l]⟩
theorem addK_eq (d : DbP) (n s : List UInt8) : addK d n s = addL d n s:=by
 have e : ∀ l,normK l = orR [] (normR l):=fun l=>by unfold orR;rw [normK_eq,List.nil_append,normR_of_NF (normR_NF l)]
 have e1 : ∀ a b,normK (a++b) = orR a b:=fun a b=>by rw [normK_eq];rfl
 unfold addK addL
 split
 ·rfl
 ·cases parseE (spcL s) with
  | error e=>rfl
  | ok l =>
   simp only
   cases d.num n with
   | some c=>simp only [e1,normK_eq]
   | none=>simp only;rw [e,show orR [] (normR l) = normR l by rw [← e,normK_eq]]
def stepK (d : DbP) (l : List UInt8) : Except Int DbP :=
 match lineP l with
 | .none_=>.ok d
 | .noLine=>.error 42
 | .says n s=>addK d n s
theorem stepK_eq (d : DbP) (l : List UInt8) : stepK d l = stepL d l:=by
 unfold stepK stepL
 cases lineP l with
 | none_=>rfl
 | noLine=>rfl
 | says n s=>exact addK_eq d n s
def goK (d : DbP) : List (List UInt8)→Nat→Except (Int × Nat) DbP
 | [],_=>.ok d
 | l :: r,i=>match stepK d l with
  | .error e=>.error (e,i+1)
  | .ok d'=>goK d' r (i+1)
theorem goK_eq : ∀ (L : List (List UInt8)) (d : DbP) (i : Nat),goK d L i = linesGo d L i
 | [],_,_=>rfl
 | l :: r,d,i=>by
  unfold goK linesGo
  rw [stepK_eq]
  cases stepL d l with
  | error e=>rfl
  | ok d'=>exact goK_eq r d' (i+1)
theorem new_K {t : List UInt8} {d : DbP} (hl : decide (t.length≤65536) = true) (h : goK DbP.first (splitL t) 0 = .ok d) : newP t = .ok d:=by
 unfold newP
 rw [if_neg (by have:=of_decide_eq_true hl;omega),← goK_eq,h]
end
section
def graphsD : DbP:=⟨[otherL,[67,82],[76,70],[67,111,110,116,114,111,108],[69,120,116,101,110,100],[90,87,74],[77,97,114,107],[80,114,101,112,101,110,100],[76],[86],[84],[72],[80,105,99,116],[70,108,97,103]],[[],[(13,13)],[(10,10)],[(0,9),(11,12),(14,31),(127,159),(173,173),(8203,8203),(8232,8233),(65279,65279)],[(768,879),(1155,1161),(1425,1469),(1611,1631),(2364,2364),(2381,2381),(3636,3642),(8204,8204),(8400,8432),(12441,12442),(65024,65039),(127995,127999),(917536,917631)],[(8205,8205)],[(2307,2307),(2366,2368),(2377,2380),(3635,3635)],[(1536,1541),(1757,1757),(1807,1807),(69821,69821)],[(4352,4447)],[(4448,4519)],[(4520,4607)],[(44032,55203)],[(169,169),(174,174),(8252,8252),(8265,8265),(8482,8482),(8592,8703),(8960,9215),(9632,10175),(10548,10549),(11013,11093),(12336,12336),(12349,12349),(12951,12951),(12953,12953),(126976,127231),(127744,127994),(128000,129791)],[(127462,127487)]]⟩
theorem graphs_ok : graphsD.okB = true:=by kernel_rfl
theorem graphsOk : graphsD.Ok∧Apart graphsD.sets∧graphsD.Named:=DbP.okB_spec graphs_ok
def gG (r : Int) : Nat:=graphsD.get r
theorem gG_lt (r : Int) : gG r < 14:=get_lt graphsOk.1 r
end
section
end
end Go.Proofs.YtlfpdpbbkjnapaaGreatDoor
/- -/
namespace Go.Proofs.YtlfpdpbbkjnapaaGreatDoor
set_option maxRecDepth 100000
set_option maxHeartbeats 40000000
section
end
section
def runeB (r : Int) : Bool:=decide (0≤r) && decide (r≤1114111) && (decide (r < 55296) || decide (57343 < r))
end
section
theorem bounds_len (s : ByteArray) : (boundsG gG s).length≤s.size+1:=by
 unfold boundsG
 split
 ·simp
 ·rw [List.length_append,starts_len]
  have h1:=List.count_le_length (a:=true) (l:=cutsG (clsG gG (runesP s)))
  rw [cutsG_len,clsG_len] at h1
  have h2:=runesP_len s
  simp;omega
theorem bounds_le (g : Int→Nat) (s : ByteArray) : ∀ a ∈ boundsG g s,a≤s.size:=fun a ha=>by
 unfold boundsG at ha
 split at ha
 ·cases ha
 ·rcases List.mem_append.1 ha with h | h
  ·have:=starts_lt g s a h;omega
  ·rw [List.mem_singleton] at h;omega
end
section
def endsQ (r : Nat) : Bool:=(decide (10≤r) && decide (r≤13)) || r == 133 || r == 8232 || r == 8233
def headIs (v : Nat) : List (Nat × Nat × Nat)→Bool
 | []=>false
 | x :: _=>x.1 == v
def lnGo (z : Nat) : Nat × Nat→Nat→List (Nat × Nat × Nat)→List (Nat × Nat × Nat)
 | _,f,[]=>[(f,z,z)]
 | p,f,x :: r =>
  if (endsQ x.1 && !(x.1 == 13 && headIs 10 r)) = true then (f,(if (x.1 == 10 && p.1 == 13) = true then p.2 else x.2.1),x.2.2) :: lnGo z (x.1,x.2.1) x.2.2 r
  else lnGo z (x.1,x.2.1) f r
def lnP (s : ByteArray) : List (Nat × Nat × Nat):=lnGo s.size (0,0) 0 (runesP s)
def letS (t : ByteArray) : List Nat:=(boundsG gG t).dropLast
def letQ (s : ByteArray) (x : Nat × Nat × Nat) : List Nat:=letS (s.extract x.1 x.2.1)
def unitsP (s : ByteArray) : List Nat:=(runesP s).flatMap fun x=>if 65535 < x.1 then [x.2.1,x.2.1+1] else [x.2.1]
def startsP (s : ByteArray) : List Nat:=(runesP s).map fun x=>x.2.1
def begP (s : ByteArray) (b : Int) : List Nat :=
 if b = 0 then unitsP s else if b = 1 then startsP s else if b = 2 then List.range s.size else if b = 3 then letS s else []
def belowP (l : List Nat) (x : Int) : Nat:=(l.filter fun (a : Nat)=>decide ((a : Int) < x)).length
def pickP (l : List Nat) (n : Int) (e : Nat) : Nat:=if n < 0 then 0 else if (l.length : Int)≤n then e else l.getD n.toNat 0
def toP (s : ByteArray) (b x : Int) : Nat:=belowP (begP s b) x
def fromQ (s : ByteArray) (b n : Int) : Nat:=pickP (begP s b) n s.size
def rowGo (x : Int) : Nat→Nat→List (Nat × Nat × Nat)→Nat
 | _,row,[]=>row
 | i,row,y :: r=>rowGo x (i+1) (if (y.1 : Int)≤x then i else row) r
def rowP (L : List (Nat × Nat × Nat)) (x : Int) : Nat:=rowGo x 0 0 L
def lineQ (s : ByteArray) (k : Nat) : Nat × Nat × Nat:=(lnP s).getD k (0,0,0)
def colP (s : ByteArray) (k : Nat) (x : Int) : Nat:=belowP (letQ s (lineQ s k)) (max x 0 - ((lineQ s k).1 : Int))
def pointP (s : ByteArray) (x : Int) : Nat × Nat:=(rowP (lnP s) x,colP s (rowP (lnP s) x) x)
def atP (s : ByteArray) (r c : Int) : Nat :=
 if r < 0 then 0 else if ((lnP s).length : Int)≤r then s.size
 else (lineQ s r.toNat).1+pickP (letQ s (lineQ s r.toNat)) c ((lineQ s r.toNat).2.1 - (lineQ s r.toNat).1)
structure LnOk (z : Nat) (p : Nat × Nat) (f q : Nat) (r : List (Nat × Nat × Nat)) : Prop where
 contig : Contig q r z
 le : f≤q
 prev : p.1 = 13→headIs 10 r = true→f≤p.2∧p.2 < q
theorem LnOk.step {z : Nat} {p : Nat × Nat} {f q : Nat} {x : Nat × Nat × Nat} {r : List (Nat × Nat × Nat)} (h : LnOk z p f q (x :: r)) :
  x.2.1 = q∧q < x.2.2∧LnOk z (x.1,x.2.1) (if (endsQ x.1 && !(x.1 == 13 && headIs 10 r)) = true then x.2.2 else f) x.2.2 r:=by
 obtain ⟨hq,h1,hc⟩:=h.contig
 have h2:=h.le
 refine ⟨hq,h1,hc,?_,?_⟩
 ·split <;> omega
 ·intro h3 h4
  simp only at h3 ⊢
  rw [h3,h4]
  simp only [beq_self_eq_true,Bool.and_self,Bool.not_true,Bool.and_false,Bool.false_eq_true,if_false]
  omega
theorem lnOk_first (s : ByteArray) : LnOk s.size (0,0) 0 0 (runesP s):=⟨runesP_contig s,Nat.le_refl _,fun h=>by cases h⟩
def Tiles (z : Nat) : Nat→List (Nat × Nat × Nat)→Prop
 | _,[]=>False
 | f,[x]=>x.1 = f∧f≤x.2.1∧x.2.1 = x.2.2∧x.2.2 = z
 | f,x :: y :: r=>x.1 = f∧f≤x.2.1∧x.2.1 < x.2.2∧Tiles z x.2.2 (y :: r)
theorem lnGo_ne (z : Nat) : ∀ (r : List (Nat × Nat × Nat)) (p : Nat × Nat) (f : Nat),∃ x t,lnGo z p f r = x :: t
 | [],p,f=>⟨_,_,rfl⟩
 | y :: r,p,f=>by
  rw [lnGo]
  split
  ·exact ⟨_,_,rfl⟩
  ·exact lnGo_ne z r _ _
theorem lnGo_tiles {z : Nat} : ∀ (r : List (Nat × Nat × Nat)) (p : Nat × Nat) (f q : Nat),LnOk z p f q r→Tiles z f (lnGo z p f r)
 | [],p,f,q,h=>by
  have h1 : q = z:=h.contig
  have h2:=h.le
  exact ⟨rfl,by simp only;omega,rfl,rfl⟩
 | x :: r,p,f,q,h=>by
  obtain ⟨hq,hlt,h2⟩:=h.step
  have hle:=h.le
  rw [lnGo]
  by_cases hc : (endsQ x.1 && !(x.1 == 13 && headIs 10 r)) = true
  ·rw [if_pos hc] at h2 ⊢
   have ih:=lnGo_tiles r _ _ _ h2
   obtain ⟨y,t,e⟩:=lnGo_ne z r (x.1,x.2.1) x.2.2
   rw [e] at ih ⊢
   refine ⟨rfl,?_,?_,ih⟩
   ·simp only
    split
    ·rename_i h3
     rw [Bool.and_eq_true,beq_iff_eq,beq_iff_eq] at h3
     exact (h.prev h3.2 (by rw [headIs,h3.1];rfl)).1
    ·omega
   ·simp only
    split
    ·rename_i h3
     rw [Bool.and_eq_true,beq_iff_eq,beq_iff_eq] at h3
     have:=(h.prev h3.2 (by rw [headIs,h3.1];rfl)).2
     omega
    ·omega
  ·rw [if_neg hc] at h2 ⊢
   exact lnGo_tiles r _ _ _ h2
theorem lnP_tiles (s : ByteArray) : Tiles s.size 0 (lnP s):=lnGo_tiles _ _ _ _ (lnOk_first s)
theorem tiles_ge {z : Nat} : ∀ {L : List (Nat × Nat × Nat)} {f : Nat},Tiles z f L→∀ y ∈ L,f≤y.1∧y.1≤y.2.1∧y.2.1≤y.2.2∧y.2.2≤z
 | [],f,h,y,hy=>by cases hy
 | [x],f,h,y,hy=>by
  obtain ⟨h1,h2,h3,h4⟩:=h
  simp only [List.mem_singleton] at hy
  subst hy
  omega
 | x :: y' :: r,f,h,y,hy=>by
  obtain ⟨h1,h2,h3,h4⟩:=h
  have ih:=fun u hu=>tiles_ge h4 u hu
  rcases List.mem_cons.1 hy with rfl | hy
  ·have h5:=ih y' (by simp)
   omega
  ·have:=ih y hy
   omega
theorem tiles_rise {z : Nat} : ∀ {L : List (Nat × Nat × Nat)} {f : Nat},Tiles z f L→L.Pairwise fun x y=>x.2.2≤y.1∧x.2.1 < y.1∧x.1 < y.1
 | [],f,h=>by cases h
 | [x],f,h=>by simp
 | x :: y :: r,f,h=>by
  obtain ⟨h1,h2,h3,h4⟩:=h
  rw [List.pairwise_cons]
  refine ⟨fun u hu=>?_,tiles_rise h4⟩
  have:=tiles_ge h4 u hu
  omega
theorem tiles_next {z : Nat} : ∀ {L : List (Nat × Nat × Nat)} {f : Nat},Tiles z f L→∀ (k : Nat) (x y : Nat × Nat × Nat),L[k]? = some x→L[k+1]? = some y→y.1 = x.2.2
 | [],f,h,_,_,_,_,_=>by cases h
 | [x'],f,h,k,x,y,hx,hy=>by simp at hy
 | x' :: y' :: r,f,h,0,x,y,hx,hy=>by
  obtain ⟨h1,h2,h3,h4⟩:=h
  obtain rfl : x' = x:=by simpa using hx
  obtain rfl : y' = y:=by simpa using hy
  cases r with
  | nil=>exact h4.1
  | cons _ _=>exact h4.1
 | x' :: y' :: r,f,h,k+1,x,y,hx,hy=>tiles_next h.2.2.2 k x y (by simpa using hx) (by simpa using hy)
theorem tiles_first {z : Nat} {L : List (Nat × Nat × Nat)} {f : Nat} (h : Tiles z f L) : ∃ x t,L = x :: t∧x.1 = f:=by
 cases L with
 | nil=>cases h
 | cons x t=>cases t with
  | nil=>exact ⟨x,[],rfl,h.1⟩
  | cons y r=>exact ⟨x,y :: r,rfl,h.1⟩
theorem tiles_last {z : Nat} : ∀ {L : List (Nat × Nat × Nat)} {f : Nat},Tiles z f L→∀ x,L[L.length - 1]? = some x→x.2.2 = z
 | [],f,h,_,_=>by cases h
 | [x'],f,h,x,hx=>by
  obtain rfl : x' = x:=by simpa using hx
  exact h.2.2.2
 | x' :: y' :: r,f,h,x,hx=>tiles_last h.2.2.2 x (by simpa using hx)
theorem lnP_len (s : ByteArray) : (lnP s).length≤s.size+1:=by
 have h : ∀ (r : List (Nat × Nat × Nat)) (p : Nat × Nat) (f : Nat),(lnGo s.size p f r).length≤r.length+1:=fun r=>by
  induction r with
  | nil=>intro p f;simp [lnGo]
  | cons x r ih =>
   intro p f
   rw [lnGo]
   split
   ·have:=ih (x.1,x.2.1) x.2.2;simp only [List.length_cons];omega
   ·have:=ih (x.1,x.2.1) f;simp only [List.length_cons];omega
 have h1:=h (runesP s) (0,0) 0
 have:=runesP_len s
 unfold lnP;omega
theorem decN_low {n b0 b1 b2 b3 R W : Nat} (h : Lib.decodeN n b0 b1 b2 b3 = (R,W)) (hR : R < 128) : W = 1∧b0 = R:=by
 unfold Lib.decodeN at h
 repeat' split at h
 all_goals (injection h with h1 h2;omega)
theorem decN_high {n b0 b1 b2 b3 R W : Nat} (h : Lib.decodeN n b0 b1 b2 b3 = (R,W)) (hR : 65535 < R) : W = 4:=by
 unfold Lib.decodeN at h
 repeat' split at h
 all_goals (injection h with h1 h2;omega)
theorem rune_byte {s : ByteArray} {x : Nat × Nat × Nat} (hx : x ∈ runesP s) (h : x.1 < 128) : x.2.2 = x.2.1+1∧(s.get! x.2.1).toNat = x.1:=by
 have hd:=runesGo_dec _ _ x hx
 have hb:=runesP_bd x hx
 rw [Lib.decode_at] at hd
 obtain ⟨h1,h2⟩:=decN_low hd h
 exact ⟨by omega,h2⟩
theorem rune_wide {s : ByteArray} {x : Nat × Nat × Nat} (hx : x ∈ runesP s) (h : 65535 < x.1) : x.2.2 = x.2.1+4:=by
 have hd:=runesGo_dec _ _ x hx
 have hb:=runesP_bd x hx
 rw [Lib.decode_at] at hd
 have:=decN_high hd h
 omega
theorem byte_rune {s : ByteArray} {z : Nat} (hz : z < s.size) (h : (s.get! z).toNat < 128) : ((s.get! z).toNat,z,z+1) ∈ runesP s:=by
 obtain ⟨y,hy,e⟩:=ascii_at s hz h s.size 0 (by omega) (Nat.zero_le _)
 have hd:=runesGo_dec _ _ y hy
 have hb:=runesP_bd y hy
 rw [e,Lib.decode_at] at hd
 unfold Lib.decodeN at hd
 rw [if_pos h] at hd
 injection hd with h1 h2
 have : y = ((s.get! z).toNat,z,z+1):=by
  obtain ⟨a,b,c⟩:=y
  simp only at h1 h2 e hb
  rw [h1,e]
  congr 2
  omega
 rw [← this];exact hy
theorem rune_inj {s : ByteArray} {x y : Nat × Nat × Nat} (hx : x ∈ runesP s) (hy : y ∈ runesP s) (h : x.2.1 = y.2.1) : x = y:=by
 obtain ⟨i,hi,ei⟩:=List.getElem_of_mem hx
 obtain ⟨j,hj,ej⟩:=List.getElem_of_mem hy
 have hp:=List.pairwise_iff_getElem.1 (runes_rise s)
 rcases Nat.lt_trichotomy i j with hlt | heq | hgt
 ·have:=hp _ _ hi hj hlt;rw [ei,ej] at this;omega
 ·subst heq;rw [← ei,← ej]
 ·have:=hp _ _ hj hi hgt;rw [ei,ej] at this;omega
theorem next_ten {s : ByteArray} {x : Nat × Nat × Nat} {r : List (Nat × Nat × Nat)} (hx : x ∈ runesP s) (hr : ∀ y ∈ r,y ∈ runesP s) (hc : Contig x.2.2 r s.size) (h : x.1 = 13) :
  headIs 10 r = true ↔ x.2.1+1 < s.size∧(s.get! (x.2.1+1)).toNat = 10:=by
 obtain ⟨h1,h2⟩:=rune_byte hx (by omega)
 constructor
 ·intro hh
  cases r with
  | nil=>cases hh
  | cons y t =>
   have hy : y.1 = 10:=eq_of_beq hh
   obtain ⟨h3,h4⟩:=rune_byte (hr y (by simp)) (by omega)
   have h5:=runesP_bd y (hr y (by simp))
   have h6 : y.2.1 = x.2.2:=hc.1
   rw [h1] at h6
   rw [← h6]
   exact ⟨by omega,by omega⟩
 ·rintro ⟨h3,h4⟩
  have hm:=byte_rune h3 (by omega)
  rw [h4] at hm
  cases r with
  | nil=>have : x.2.2 = s.size:=hc;omega
  | cons y t =>
   have h6 : y.2.1 = x.2.2:=hc.1
   have:=rune_inj (hr y (by simp)) hm (by simp only;omega)
   rw [headIs,this];rfl
def PrevOk (s : ByteArray) (p : Nat × Nat) (q : Nat) : Prop:=(p.1 = 13→p.2+1 = q∧(s.get! p.2).toNat = 13)∧(0 < q→(s.get! (q - 1)).toNat = 13→p.1 = 13)
theorem prevOk_step {s : ByteArray} {x : Nat × Nat × Nat} (hx : x ∈ runesP s) : PrevOk s (x.1,x.2.1) x.2.2:=by
 have hb:=runesP_bd x hx
 refine ⟨fun h=>?_,fun h0 h=>?_⟩
 ·obtain ⟨h1,h2⟩:=rune_byte hx (by simp only at h;omega)
  exact ⟨by omega,by simp only at h ⊢;omega⟩
 ·have hm:=byte_rune (s:=s) (z:=x.2.2 - 1) (by omega) (by omega)
  rw [h] at hm
  have hg:=place_gap s _ 0 s.size (runesP_contig s) x hx _ hm
  simp only at hg
  have:=rune_inj hx hm (by simp only;omega)
  rw [this]
structure LnSt (s : ByteArray) (g q : Nat) (p : Nat × Nat) (f : Nat) (out : List (Nat × Nat × Nat)) : Prop where
 fuel : s.size≤q+g
 ok : LnOk s.size p f q (runesGo s g q)
 byte : PrevOk s p q
 out : out++lnGo s.size p f (runesGo s g q) = lnP s
 mem : ∀ x ∈ runesGo s g q,x ∈ runesP s
theorem lnSt_first (s : ByteArray) : LnSt s s.size 0 (0,0) 0 []:=⟨by omega,lnOk_first s,⟨fun h=>absurd h (by decide),fun h=>absurd h (by decide)⟩,rfl,fun _ h=>h⟩
theorem lnSt_end {s : ByteArray} {g q : Nat} {p : Nat × Nat} {f : Nat} {out : List (Nat × Nat × Nat)} (h : LnSt s g q p f out) (hq : ¬ q < s.size) : out++[(f,s.size,s.size)] = lnP s:=by
 have h1:=h.out
 rw [runesGo_end (by omega)] at h1
 exact h1
def lnEnds (s : ByteArray) (q R : Nat) : Bool:=endsQ R && !(R == 13 && (decide (q+1 < s.size) && ((s.get! (q+1)).toNat == 10)))
def lnTo (s : ByteArray) (f q R : Nat) : Nat:=if (R == 10 && (decide (f < q) && ((s.get! (q - 1)).toNat == 13))) = true then q - 1 else q
theorem lnSt_step {s : ByteArray} {g q : Nat} {p : Nat × Nat} {f : Nat} {out : List (Nat × Nat × Nat)} (h : LnSt s g q p f out) (hq : q < s.size) {R W : Nat} (hd : Utf8.decode s q = (R,W)) :
  ∃ g',if lnEnds s q R = true then LnSt s g' (q+W) (R,q) (q+W) (out++[(f,lnTo s f q R,q+W)]) else LnSt s g' (q+W) (R,q) f out:=by
 obtain ⟨g',rfl,hg⟩:=runesGo_step (s:=s) (f:=g) hq h.fuel
 rw [hd] at hg
 simp only at hg
 have hok:=h.ok
 have hm:=h.mem
 have ho:=h.out
 rw [hg] at hok hm ho
 have hx:=hm _ (List.mem_cons_self)
 have hm' : ∀ y ∈ runesGo s g' (q+W),y ∈ runesP s:=fun y hy=>hm y (List.mem_cons_of_mem _ hy)
 obtain ⟨_,hlt,hst⟩:=hok.step
 simp only at hlt hst
 have hb:=h.byte
 have e1 : lnEnds s q R = (endsQ R && !(R == 13 && headIs 10 (runesGo s g' (q+W)))):=by
  unfold lnEnds
  by_cases h13 : R = 13
  ·have:=next_ten hx hm' hst.contig h13
   simp only at this
   congr 3
   rw [Bool.eq_iff_iff,Bool.and_eq_true,decide_eq_true_iff,beq_iff_eq]
   exact this.symm
  ·rw [show (R == 13) = false from beq_eq_false_iff_ne.2 h13,Bool.false_and,Bool.false_and]
 rw [lnGo] at ho
 simp only at ho
 refine ⟨g',?_⟩
 rw [e1]
 have hf : s.size≤q+W+g':=by have:=h.fuel;omega
 by_cases hc : (endsQ R && !(R == 13 && headIs 10 (runesGo s g' (q+W)))) = true
 ·rw [if_pos hc] at hst ho ⊢
  have e2 : lnTo s f q R = if (R == 10 && p.1 == 13) = true then p.2 else q:=by
   unfold lnTo
   by_cases h10 : R = 10
   ·subst h10
    by_cases h3 : p.1 = 13
    ·obtain ⟨h4,h5⟩:=hb.1 h3
     have h6:=(hok.prev h3 rfl).1
     rw [if_pos (by rw [show q - 1 = p.2 by omega,h5];simp;omega),if_pos (by rw [h3];rfl)]
     omega
    ·rw [if_neg,if_neg]
     ·rw [Bool.and_eq_true,beq_iff_eq,beq_iff_eq];exact fun h=>h3 h.2
     ·rw [Bool.and_eq_true,Bool.and_eq_true,beq_iff_eq,beq_iff_eq,decide_eq_true_iff]
      exact fun h=>h3 (hb.2 (by omega) h.2.2)
   ·rw [show (R == 10) = false from beq_eq_false_iff_ne.2 h10,Bool.false_and,Bool.false_and,if_neg (by decide),if_neg (by decide)]
  rw [e2]
  exact ⟨hf,hst,prevOk_step hx,by rw [List.append_assoc];exact ho,hm'⟩
 ·rw [if_neg hc] at hst ho ⊢
  exact ⟨hf,hst,prevOk_step hx,ho,hm'⟩
theorem below_rise : ∀ {l : List Nat} {k : Nat} {a : Nat},l.Pairwise (· < ·)→l[k]? = some a→belowP l (a : Nat) = k
 | [],k,a,_,h=>by simp at h
 | x :: l,0,a,hp,h=>by
  obtain rfl : x = a:=by simpa using h
  rw [List.pairwise_cons] at hp
  unfold belowP
  rw [List.filter_cons,if_neg (by simp),List.filter_eq_nil_iff.2 (fun y hy=>by have:=hp.1 y hy;simp;omega)]
  rfl
 | x :: l,k+1,a,hp,h=>by
  rw [List.pairwise_cons] at hp
  have h' : l[k]? = some a:=by simpa using h
  have ih:=below_rise hp.2 h'
  have hx:=hp.1 a (List.mem_of_getElem? h')
  unfold belowP at ih ⊢
  rw [List.filter_cons,if_pos (by simp;omega),List.length_cons,ih]
theorem below_all {l : List Nat} {z : Int} (h : ∀ a ∈ l,(a : Int) < z) : belowP l z = l.length:=by
 unfold belowP
 rw [List.filter_eq_self.2 (fun a ha=>by simpa using h a ha)]
theorem below_none {l : List Nat} {z : Int} (h : ∀ a ∈ l,z≤(a : Int)) : belowP l z = 0:=by
 unfold belowP
 rw [List.filter_eq_nil_iff.2 (fun a ha=>by have:=h a ha;simp;omega)]
 rfl
theorem pick_below {l : List Nat} {z : Nat} (hp : l.Pairwise (· < ·)) (hz : ∀ a ∈ l,a < z) {n : Nat} (hn : n≤l.length) : belowP l (pickP l (n : Nat) z : Nat) = n:=by
 unfold pickP
 rw [if_neg (by omega)]
 by_cases h : n = l.length
 ·subst h
  rw [if_pos (by omega)]
  exact below_all (fun a ha=>by have:=hz a ha;omega)
 ·rw [if_neg (by omega),Int.toNat_natCast]
  have h2 : l[n]? = some (l.getD n 0):=by rw [List.getD_eq_getElem?_getD,List.getElem?_eq_getElem (by omega)];rfl
  exact below_rise hp h2
theorem units_rise : ∀ {R : List (Nat × Nat × Nat)},(R.Pairwise fun x y=>x.2.2≤y.2.1)→(∀ x ∈ R,x.2.1 < x.2.2∧(65535 < x.1→x.2.2 = x.2.1+4)) →
  (R.flatMap fun x=>if 65535 < x.1 then [x.2.1,x.2.1+1] else [x.2.1]).Pairwise (· < ·)
 | [],_,_=>by simp
 | x :: R,hp,hw=>by
  rw [List.pairwise_cons] at hp
  rw [List.flatMap_cons,List.pairwise_append]
  have hx:=hw x (by simp)
  refine ⟨by split <;> simp,units_rise hp.2 (fun y hy=>hw y (by simp [hy])),fun a ha b hb=>?_⟩
  obtain ⟨y,hy,hb⟩:=List.mem_flatMap.1 hb
  have h1:=hp.1 y hy
  have h2 : a < x.2.2:=by
   split at ha
   ·rename_i h3
    have:=hx.2 h3
    simp only [List.mem_cons,List.not_mem_nil,or_false] at ha
    omega
   ·simp only [List.mem_cons,List.not_mem_nil,or_false] at ha
    omega
  have h3 : y.2.1≤b:=by
   split at hb <;> simp only [List.mem_cons,List.not_mem_nil,or_false] at hb <;> omega
  omega
theorem contig_pair {z : Nat} : ∀ {R : List (Nat × Nat × Nat)} {q : Nat},Contig q R z→(∀ x ∈ R,q≤x.2.1)∧R.Pairwise fun x y=>x.2.2≤y.2.1
 | [],q,_=>⟨fun _ h=>(by cases h),List.Pairwise.nil⟩
 | x :: R,q,h=>by
  obtain ⟨h1,h2,h3⟩:=h
  obtain ⟨h4,h5⟩:=contig_pair h3
  refine ⟨fun y hy=>?_,List.pairwise_cons.2 ⟨h4,h5⟩⟩
  rcases List.mem_cons.1 hy with rfl | hy
  ·omega
  ·have:=h4 y hy;omega
theorem beg_rise (s : ByteArray) (b : Int) : (begP s b).Pairwise (· < ·):=by
 unfold begP
 split
 ·exact units_rise (contig_pair (runesP_contig s)).2 (fun x hx=>⟨(runesP_bd x hx).1,rune_wide hx⟩)
 split
 ·exact List.pairwise_map.2 (runes_rise s)
 split
 ·exact List.pairwise_lt_range
 split
 ·exact (bounds_rise gG s).sublist (List.dropLast_sublist _)
 ·exact List.Pairwise.nil
theorem let_lt (t : ByteArray) : ∀ a ∈ letS t,a < t.size:=by
 intro a ha
 unfold letS boundsG at ha
 split at ha
 ·cases ha
 ·rw [List.dropLast_concat] at ha
  exact starts_lt gG t a ha
theorem beg_lt (s : ByteArray) (b : Int) : ∀ a ∈ begP s b,a < s.size:=by
 intro a ha
 unfold begP at ha
 split at ha
 ·obtain ⟨x,hx,ha⟩:=List.mem_flatMap.1 ha
  have h1:=runesP_bd x hx
  split at ha
  ·rename_i h3
   have:=rune_wide hx h3
   simp only [List.mem_cons,List.not_mem_nil,or_false] at ha
   omega
  ·simp only [List.mem_cons,List.not_mem_nil,or_false] at ha
   omega
 split at ha
 ·obtain ⟨x,hx,rfl⟩:=List.mem_map.1 ha
  have:=runesP_bd x hx
  omega
 split at ha
 ·exact List.mem_range.1 ha
 split at ha
 ·exact let_lt s a ha
 ·cases ha
theorem there_back (s : ByteArray) (b : Int) {n : Nat} (hn : n≤(begP s b).length) : toP s b (fromQ s b (n : Nat) : Nat) = n:=pick_below (beg_rise s b) (beg_lt s b) hn
theorem rowGo_past {x : Int} : ∀ {L : List (Nat × Nat × Nat)} {i row : Nat},(∀ y ∈ L,x < (y.1 : Int))→rowGo x i row L = row
 | [],_,_,_=>rfl
 | y :: L,i,row,h=>by
  rw [rowGo,if_neg (by have:=h y (by simp);omega)]
  exact rowGo_past (fun u hu=>h u (by simp [hu]))
theorem rowGo_at {x : Int} : ∀ {A B : List (Nat × Nat × Nat)} {y : Nat × Nat × Nat} {i row : Nat},(y.1 : Int)≤x→(∀ u ∈ B,x < (u.1 : Int))→rowGo x i row (A++y :: B) = i+A.length
 | [],B,y,i,row,h1,h2=>by
  rw [List.nil_append,rowGo,if_pos h1,rowGo_past h2];simp
 | a :: A,B,y,i,row,h1,h2=>by
  rw [List.cons_append,rowGo,rowGo_at h1 h2,List.length_cons];omega
theorem row_at {s : ByteArray} {k : Nat} {y : Nat × Nat × Nat} (hk : (lnP s)[k]? = some y) {x : Nat} (h1 : y.1≤x) (h2 : x≤y.2.1) : rowP (lnP s) (x : Nat) = k:=by
 have hlt:=(List.getElem?_eq_some_iff.1 hk).1
 have he:=(List.getElem?_eq_some_iff.1 hk).2
 have hL : lnP s = (lnP s).take k++y :: (lnP s).drop (k+1):=by
  conv=>lhs;rw [← List.take_append_drop k (lnP s),List.drop_eq_getElem_cons hlt,he]
 have hr:=tiles_rise (lnP_tiles s)
 rw [hL,List.pairwise_append,List.pairwise_cons] at hr
 unfold rowP
 rw [hL,rowGo_at (by omega) (fun u hu=>by have:=hr.2.1.1 u hu;omega),List.length_take]
 omega
theorem let_first {t : ByteArray} (h : 0 < t.size) : ∃ T,letS t = 0 :: T:=by
 obtain ⟨T,hT⟩:=starts_zero gG h
 exact ⟨T,by unfold letS boundsG;rw [if_neg (by omega),List.dropLast_concat,hT]⟩
theorem let_none {t : ByteArray} (h : t.size = 0) : letS t = []:=by unfold letS boundsG;rw [if_pos h];rfl
theorem line_in {s : ByteArray} {k : Nat} {y : Nat × Nat × Nat} (hk : (lnP s)[k]? = some y) : lineQ s k = y∧y.1≤y.2.1∧y.2.1≤y.2.2∧y.2.2≤s.size:=by
 have:=tiles_ge (lnP_tiles s) y (List.mem_of_getElem? hk)
 exact ⟨by unfold lineQ;rw [List.getD_eq_getElem?_getD,hk];rfl,this.2.1,this.2.2.1,this.2.2.2⟩
theorem point_from {s : ByteArray} {k : Nat} {y : Nat × Nat × Nat} (hk : (lnP s)[k]? = some y) : atP s ((pointP s (y.1 : Nat)).1 : Nat) ((pointP s (y.1 : Nat)).2 : Nat) = y.1:=by
 obtain ⟨hd,h1,h2,h3⟩:=line_in hk
 have hlt:=(List.getElem?_eq_some_iff.1 hk).1
 have hr:=row_at hk (x:=y.1) (Nat.le_refl _) h1
 unfold pointP
 simp only [hr]
 unfold atP
 rw [if_neg (by omega),if_neg (by omega),Int.toNat_natCast]
 have hc : colP s k (y.1 : Nat) = 0:=by
  unfold colP
  rw [hd,show max ((y.1 : Nat) : Int) 0 - (y.1 : Nat) = 0 by omega]
  exact below_none (fun a _=>by omega)
 rw [hc,hd]
 unfold pickP letQ
 rw [if_neg (by decide)]
 rcases Nat.eq_zero_or_pos (s.extract y.1 y.2.1).size with h0 | h0
 ·rw [let_none h0]
  rw [ByteArray.size_extract] at h0
  simp
  omega
 ·obtain ⟨T,hT⟩:=let_first h0
  rw [hT]
  simp
  omega
theorem point_to {s : ByteArray} {k : Nat} {y : Nat × Nat × Nat} (hk : (lnP s)[k]? = some y) : atP s ((pointP s (y.2.1 : Nat)).1 : Nat) ((pointP s (y.2.1 : Nat)).2 : Nat) = y.2.1:=by
 obtain ⟨hd,h1,h2,h3⟩:=line_in hk
 have hlt:=(List.getElem?_eq_some_iff.1 hk).1
 have hr:=row_at hk (x:=y.2.1) h1 (Nat.le_refl _)
 unfold pointP
 simp only [hr]
 unfold atP
 rw [if_neg (by omega),if_neg (by omega),Int.toNat_natCast]
 have hc : colP s k (y.2.1 : Nat) = (letQ s y).length:=by
  unfold colP
  rw [hd]
  refine below_all (fun a ha=>?_)
  have:=let_lt _ a ha
  rw [ByteArray.size_extract] at this
  omega
 rw [hc,hd]
 unfold pickP
 rw [if_neg (by omega),if_pos (by omega)]
 omega
theorem below_abs (l : List Nat) (f : Nat) (x : Int) : belowP (l.map (f+·)) x = belowP l (max x 0 - (f : Int)):=by
 unfold belowP
 rw [List.filter_map,List.length_map]
 congr 2
 funext a
 simp only [Function.comp]
 rw [decide_eq_decide]
 omega
end
section
open Go.RowKit
end
section
open Go.RowKit Go.Shelf
attribute [local go_sem] Oper.semAt_some
structure Mid (m n : Nat) (W W' : World) : Prop where
 size : W.heap.size≤W'.heap.size
 block : ∀ k,m≤k→k < n→W'.heap[k]? = W.heap[k]?
def Kp (m n : Nat) (W W' : World) : Prop:=Mid m n W W'∧KeepsWalks W W'
theorem grown_of_below {w w' : World} (h : RowKit.Below w.heap.size w w') : w.grownBy w' none:=⟨h.os,h.tape,h.output,h.size,fun k hk _=>h.block k hk⟩
theorem grown_iterAt (w : World) (k : Nat) (s : ByteArray) (p : Nat) : w.grownBy (w.iterAt k s p) (some k) :=
 ⟨rfl,rfl,rfl,by rw [Lib.iterAt_size];exact Nat.le_refl _,fun j _ hj=>Lib.iterAt_other w k j s p (fun e=>hj (by rw [e]))⟩
theorem abides_below {β : Type} {B : Nat} {J : β→World→Prop} (h : AbidesFrom B J) {x : β} {w w' : World} (hx : J x w) (hb : RowKit.Below w.heap.size w w') : J x w':=h x w w' none hx (grown_of_below hb) (fun _ e=>by cases e)
theorem abides_iterAt {β : Type} {B : Nat} {J : β→World→Prop} (h : AbidesFrom B J) {x : β} {w : World} (hx : J x w) {k : Nat} {s : ByteArray} {p : Nat} (hk : w.heap[k]? = some (.stringIter s p)) (hB : B≤k) (p' : Nat) : J x (w.iterAt k s p') :=
 h x w _ (some k) hx (grown_iterAt w k s p') (fun r e=>by cases e;exact ⟨hB,_,hk,rfl⟩)
section
variable {s : ByteArray} {set : List (Int × Int)} {f p : Nat} {cur : Option Nat} {pre : List (Nat × Nat)} {R W : Nat}
end
theorem not_row {w : World} {row : Option Nat} {b : Nat} {o : Obj} (hb : w.heap[b]? = some o) (hc : o.isCells = true) (hr : ∀ r,row = some r→∃ o : Obj,w.heap[r]? = some o∧o.isCells = false) : some b ≠ row:=by
 rintro rfl
 obtain ⟨o',h1,h2⟩:=hr b rfl
 rw [hb] at h1;cases h1;rw [hc] at h2;cases h2
theorem Blk.kept {w w' : World} {row : Option Nat} {g : Nat} {t : TypeId} {cs : Array Value} (h : Blk w g t cs) (hg : w.grownBy w' row) (hr : ∀ r,row = some r→∃ o : Obj,w.heap[r]? = some o∧o.isCells = false) : Blk w' g t cs:=h.grown hg (not_row h rfl hr)
end
section
open Go.RowKit Go.Shelf
attribute [local go_sem] Oper.semAt_some
def UAt (s : ByteArray) (f p : Nat) (pre : List (Nat × Nat × Nat)) : Prop:=pre++runesGo s f p = runesP s∧s.size≤p+f∧p≤s.size
theorem uAt_first (s : ByteArray) : UAt s s.size 0 []:=⟨rfl,by omega,by omega⟩
theorem uAt_next {s : ByteArray} {f p R W : Nat} {pre : List (Nat × Nat × Nat)} (h : UAt s f p pre) (hp : p < s.size) (hd : Utf8.decode s p = (R,W)) (hw : 1≤W∧p+W≤s.size) : ∃ g,UAt s g (p+W) (pre++[(R,p,p+W)]):=by
 obtain ⟨g,rfl,hg⟩:=runesGo_step (s:=s) (f:=f) hp h.2.1
 rw [hd] at hg
 exact ⟨g,by rw [← h.1,hg];simp,by have:=h.2.1;omega,hw.2⟩
theorem uAt_pre {s : ByteArray} {f p : Nat} {pre : List (Nat × Nat × Nat)} (h : UAt s f p pre) : pre <+: runesP s:=⟨_,h.1⟩
theorem uAt_end {s : ByteArray} {f p : Nat} {pre : List (Nat × Nat × Nat)} (h : UAt s f p pre) (hp : ¬ p < s.size) : pre = runesP s:=by
 have:=h.1
 rw [runesGo_end (by omega),List.append_nil] at this
 exact this
theorem uEach_any (s : ByteArray) (w : World) : Calls Tryz.prog 52 #[.string s] w fun e w'=>∃ bs,e = .returned (.func (.func 83) #[] #[.pointer (some ⟨bs,0,none⟩)])∧w'.cell? ⟨bs,0,none⟩ = some (.string s)∧RowKit.Below w.heap.size w w':=by
 have hmf : ∀ (fn : Fn) (first cap : Array Value) (w : World),(Instr.makeFunc fn first cap).run Tryz.prog w = .ok (.func fn first cap) w:=fun _ _ _ _=>rfl
 go_enter Tryz.func52,Tryz.ntmps52
 go_wp2
 go_ret
 exact ⟨_,rfl,(Blk.new w 9 #[.string s]).cell 0,(RowKit.Below.refl _ _).alloc (Nat.le_refl _) _⟩
end
section
open Go.RowKit
section
variable {P : Program} {F : Fence} {n : Nat}
theorem rngH {α : Type} {g : Operand} {ps : Array Tmp} {assign body : Code} {Q : Exit→Act→World→Prop} {a : Act} {w : World}
  (hro : F.round = none) (h1 : 1≤n) {gf : Nat} {lb : Array Value} (hg : a.eval g = .func (.func gf) #[] lb) (hFg : F.fn gf) (eg : ∀ args w,(callFunc gf args).run P w = .ok (.enter gf args) w)
  {encs : α→Array Value} {Kp : World→World→Prop} {S Sp : List α→Prop} {N : Nat} {w0 : World} (hseq : SeqStopsK F (n - 1) P gf lb encs Kp S Sp N w0)
  (hKt : ∀ {A B C : World},Kp A B→Kp B C→Kp A C) (hKb : ∀ (W : World) (l : Nat) (o o' : Obj),w.heap.size≤l→W.heap[l]? = some o→o.isCells = false→o.isWalk = false→Kp W (W.putObj l o')) (hb0 : Below w0.heap.size w0 w) (hps : ∀ x,(encs x).size = ps.size) (hKr : ∀ W,Kp W W)
  (I : List α→World→Prop) (Ix : Code→List α→World→Prop) (hI : OwnFrom w.heap.size I) (hIx : ∀ c,OwnFrom w.heap.size (Ix c)) (h0 : I [] w) (f : Array Value→α→Array Value)
  (hassign : ∀ (l : Nat) (x : α) (W : World) (K : Act→World→Prop),K { tmps:=f a.tmps x,defers:=[] } W →
   assign.wpIn (F.inRound l) (n - 1 - 1) P (Exit.then K (fun _ _ _=>False)) { tmps:=(ps.zip (encs x)).foldl (fun t (p,v)=>t.setIfInBounds p v) a.tmps,defers:=[] } W)
  (hbody : ∀ (l : Nat) (pre : List α) (x : α) (W : World),w.heap.size≤l→(∃ r,W.heap[l]? = some (.loop r))→I pre W→pre.length < N→body.wpIn (F.inRound l) (n - 1 - 1) P (ownPostG w.heap.size Kp I Ix (pre++[x]) W) { tmps:=f a.tmps x,defers:=[] } W)
  (hdone : ∀ (D : Nat) (xs : List α) (W : World),w.heap.size≤D→S xs→I xs W→W.heap[D]? = some (.deferred (some []))→Q .normal { a with defers:={ target:=.collected D,args:=#[] } :: a.defers } W)
  (hstop : ∀ (D : Nat) (c : Code) (pre : List α) (W : World),w.heap.size≤D→Sp pre→Ix c pre W→W.heap[D]? = some (.deferred (some []))→c.wpIn F n P Q { a with defers:={ target:=.collected D,args:=#[] } :: a.defers } W) :
  (Code.rangeFunc g ps assign body).wpIn F n P Q a w :=
 wpIn_rangeFunc_ownH hro h1 hg hFg eg hseq (fun h k=>hKt h k) hKb hb0 hps I Ix hI hIx h0 (fun x a' _=>a' = { tmps:=f a.tmps x,defers:=[] }) (fun _ _ _ _ _ _ hs _ _=>hs)
  (fun l _ x W K hi hK=>hassign l x W K (hK _ _ (KeepsFrom.refl _ _) (hKr W) hi rfl)) (fun l pre x a' W hl hr hi e=>by subst e;exact hbody l pre x W hl hr hi) hdone hstop
end
end
section
open Go.RowKit
section
variable {P : Program}
theorem run_app {w : World} (t ty : TypeId)
  (base : Nat) (e : TypeId) (i : TypeInfo) (z : Value) (size bytes : Nat) (ht : P.underlying t = some (.slice e)) (hi : P.info? e = some i) (hz : i.zero = some z)
  (hsize : i.size = size) (hby : i.bytes = bytes) (hzs : z.cells.size = size) (hsz : 0 < size)
  (A : Option Addr) (n c : Nat) (cs : List (List Value)) (hown : Own w base e size A n c cs)
  (A2 : Option Addr) (m c2 : Nat) (xs : List (List Value)) (hm : xs.length = m) (hr : Rd w size A2 xs) (h1 : ∀ y ∈ xs,y.length = size∧∀ u ∈ y,u.oneCell' = true)
  (h63 : n+m≤maxLen) (hbytes : (n+m)*bytes≤140737488355328) (hbase : base≤w.heap.size) :
  ∃ A' c' w',(Builtin.append_ #[t,t] ty #[.slice A n c,.slice A2 m c2]).run P w = .ok (.slice A' (n+m) c') w'∧Own w' base e size A' (n+m) c' (cs++xs)∧w.grownBy w' (A.map (·.block))∧(A' = A∨A' = some ⟨w.heap.size,0,none⟩):=by
 have hxl : ∀ y ∈ xs,y.length = size:=fun y hy=>(h1 y hy).1
 have hall : ∀ y ∈ cs++xs,y.length = size:=fun y hy=>by
  rcases List.mem_append.1 hy with hy | hy
  ·exact hown.2.1 y hy
  ·exact hxl y hy
 have hob : (Value.slice A n c).ownBlock = A.map (·.block):=by cases A <;> rfl
 have key : ∃ v' w',(Builtin.append_ #[t,t] ty #[.slice A n c,.slice A2 m c2]).run P w = .ok v' w'∧w'.ownsRow base e size v' (n+m) (cs.flatten++xs.flatten)∧w.grownBy w' (Value.slice A n c).ownBlock ∧
   (v'.ownBlock = (Value.slice A n c).ownBlock∨v'.ownBlock = some w.heap.size):=by
  cases A2 with
  | none =>
   have hnil : xs = []:=Classical.byContradiction fun hne=>by obtain ⟨b,off,hb,_⟩:=hr hne;cases hb
   subst hnil
   subst hm
   refine ⟨.slice A n c,w,?_,by simpa using hown.2.2,World.grownBy.refl w _,.inl rfl⟩
   rcases hown.2.2.2 with ⟨h0,rfl⟩ | ⟨g,cap,cur,h0,_,_,hnc,_⟩
   ·rw [h0];simp [Builtin.append_,run_underlying ht,sizeOf,typeInfo,hi,Builtin.lenOf,Builtin.firstCells]
   ·injection h0 with hA _ hc
    subst hA;subst hc
    simp [Builtin.append_,run_underlying ht,sizeOf,typeInfo,hi,Builtin.lenOf,Builtin.firstCells,hnc,storeCells]
  | some ad =>
   have hcells : ∀ j u,xs.flatten[j]? = some u→w.cell? (ad.add j) = some u:=by
    intro j u hu
    obtain ⟨k,r,y,rfl,h2,h3⟩:=flatten_at hxl hu
    have hne : xs ≠ []:=fun e=>by subst e;simp at h2
    obtain ⟨b,off,hb,hc⟩:=hr hne
    injection hb with hb
    subst hb
    have:=hc k r y u h2 h3
    unfold Addr.add
    split
    ·rename_i h0;rw [show off+k*size+r = off by omega] at this;exact this
    ·simpa [Nat.add_assoc] using this
   obtain ⟨v',w',hrun,h2,h3,_,h5⟩:=run_append_own_at (P:=P) w base t ty e i z size bytes ht hi hz hsize hby hzs hsz (.slice A n c) n cs.flatten hown.2.2 ad m c2 xs.flatten
    (by rw [flatten_len hxl,hm]) hcells (fun u hu=>by obtain ⟨y,hy,hu⟩:=List.mem_flatten.1 hu;exact (h1 y hy).2 u hu) h63 hbytes hbase
   exact ⟨v',w',hrun,h2,h3,h5⟩
 obtain ⟨v',w',hrun,h2,h3,h4⟩:=key
 rw [hob] at h3 h4
 have hv : ∃ A' c',v' = .slice A' (n+m) c'∧(A' = A∨A' = some ⟨w.heap.size,0,none⟩):=by
  rcases h2.2 with ⟨rfl,h0⟩ | ⟨g,cap,cur,rfl,_⟩
  ·refine ⟨none,0,by rw [h0],.inl ?_⟩
   rcases hown.2.2.2 with ⟨h9,_⟩ | ⟨g',cap',cur',h9,_⟩
   ·injection h9 with h9;exact h9.symm
   ·injection h9 with h9
    rcases h4 with h4 | h4 <;> simp [Value.ownBlock,h9] at h4
  ·refine ⟨_,_,rfl,?_⟩
   rcases h4 with h4 | h4
   ·left
    rcases hown.2.2.2 with ⟨h9,_⟩ | ⟨g',cap',cur',h9,_⟩
    ·injection h9 with h9;subst h9;simp [Value.ownBlock] at h4
    ·injection h9 with h9;subst h9;simp [Value.ownBlock] at h4;rw [h4]
   ·right;simp [Value.ownBlock] at h4;rw [h4]
 obtain ⟨A',c',rfl,hA'⟩:=hv
 exact ⟨A',c',w',hrun,⟨by rw [List.length_append,hown.1,hm],hall,by rw [List.flatten_append];exact h2⟩,h3,hA'⟩
theorem wpListIn_app {F : Fence} {nF : Nat} {ops : Array Oper} {rest : List Oper} {o : Oper} {a : Act} {w : World} {Q : Exit→Act→World→Prop} (hgd : o.guard = none) (s x : Operand) (t : TypeId)
  (ho : o.op = .call { callee:=.builtin .append,args:=#[s,x],argTypes:=#[t,t] })
  (base : Nat) (e : TypeId) (i : TypeInfo) (z : Value) (size bytes : Nat) (ht : P.underlying t = some (.slice e)) (hi : P.info? e = some i) (hz : i.zero = some z)
  (hsize : i.size = size) (hby : i.bytes = bytes) (hzs : z.cells.size = size) (hsz : 0 < size)
  (A : Option Addr) (n c : Nat) (cs : List (List Value)) (hs : a.eval s = .slice A n c) (hown : Own w base e size A n c cs)
  (A2 : Option Addr) (m c2 : Nat) (xs : List (List Value)) (hx : a.eval x = .slice A2 m c2) (hm : xs.length = m) (hr : Rd w size A2 xs) (h1 : ∀ y ∈ xs,y.length = size∧∀ u ∈ y,u.oneCell' = true)
  (h63 : n+m≤maxLen) (hbytes : (n+m)*bytes≤140737488355328) (hbase : base≤w.heap.size)
  (h : ∀ A' c' w',Own w' base e size A' (n+m) c' (cs++xs)→w.grownBy w' (A.map (·.block))→(A' = A∨A' = some ⟨w.heap.size,0,none⟩)→wpListIn F nF P ops Q rest (a.put o.dst (.slice A' (n+m) c')) w') : wpListIn F nF P ops Q (o :: rest) a w:=by
 refine wpListIn_plain hgd fun K hK'=>?_
 obtain ⟨A',c',w',hrun,r1,r2,r3⟩:=run_app (P:=P) t o.type base e i z size bytes ht hi hz hsize hby hzs hsz A n c cs hown A2 m c2 xs hm hr h1 h63 hbytes hbase
 unfold Oper.wpIn
 refine ⟨?_,?_⟩
 ·simp [Oper.about,ho,resolve,Target.leads,Sem.run_pure]
 ·rw [Oper.semAt_plain F _ _ (by rw [ho];intro c hc';cases hc')]
  simp [execOp,ho,resolve,invoke,builtin,hs,hx,hrun,Result.andThen]
  exact hK' _ _ (h A' c' w' r1 r2 r3)
end
end
section
open Go.RowKit
section
variable {P : Program} {F : Fence} {n : Nat} {α : Type}
variable {encs : α→Array Value} {Kp : World→World→Prop} {I : List α→World→Prop} {Ix : Code→List α→World→Prop} {ps : Array Tmp} {assign body : Code}
variable {g : Operand} {Q : Exit→Act→World→Prop} {a : Act} {w : World}
end
end
section
open Go.RowKit Go.Shelf
attribute [local go_sem] Oper.semAt_some
theorem Own.kept1 {w w' : World} {base : Nat} {e : TypeId} {s : Nat} {A : Option Addr} {n c : Nat} {cs : List (List Value)} {row : Option Nat} (h : Own w base e s A n c cs) (hg : w.grownBy w' row) (hr : ∀ r,row = some r→∃ o : Obj,w.heap[r]? = some o∧o.isCells = false) : Own w' base e s A n c cs:=by
 refine h.keep fun a ha=>?_
 have hl:=(h.lt a ha).2
 refine hg.block _ hl fun e=>?_
 obtain ⟨o,h1,h2⟩:=hr _ e.symm
 rcases h.2.2.2 with ⟨h0,_⟩ | ⟨g,cap,cur,hv,_,hh,_⟩
 ·injection h0 with h0;rw [ha] at h0;cases h0
 ·injection hv with hv
  rw [ha] at hv
  injection hv with hv
  subst hv
  rw [hh] at h1
  cases h1
  cases h2
def Gat (w0 : World) (ab : Nat) (vt e : TypeId) (cs : List (List Value)) (W : World) : Prop :=
 ∃ A n c,Blk W ab vt #[.slice A n c]∧Own W w0.heap.size e 1 A n c cs∧w0.grownBy W (some ab)
theorem Gat.own {α : Type} {w0 : World} {ab B : Nat} {vt e : TypeId} {f : List α→List (List Value)} (hB : w0.heap.size≤B) : OwnFrom B (fun (pre : List α) W=>Gat w0 ab vt e (f pre) W):=fun pre X Y row hs hg hr=>by
 obtain ⟨A,n,c,h1,h2,h3⟩:=hs
 refine ⟨A,n,c,h1.kept hg (fun r e=>(hr r e).2),h2.kept1 hg (fun r e=>(hr r e).2),⟨hg.os.trans h3.os,hg.tape.trans h3.tape,hg.output.trans h3.output,Nat.le_trans h3.size hg.size,fun k hk hne=>?_⟩⟩
 refine (hg.block k (Nat.lt_of_lt_of_le hk h3.size) (fun e=>?_)).trans (h3.block k hk hne)
 have:=(hr k e.symm).1
 omega
theorem Gat.step {w0 W V : World} {ab : Nat} {vt e : TypeId} {A A3 : Option Addr} {n c n3 c3 : Nat} {cs cs3 : List (List Value)} (hab : ab < w0.heap.size) (hB : Blk W ab vt #[.slice A n c]) (ho : Own W w0.heap.size e 1 A n c cs) (hg : w0.grownBy W (some ab))
  (hV : W.grownBy V (A.map (·.block))) (ho3 : Own V w0.heap.size e 1 A3 n3 c3 cs3) :
  KeepsFrom w0.heap.size W (V.setCell ⟨ab,0,none⟩ (.slice A3 n3 c3))∧KeepsWalks W (V.setCell ⟨ab,0,none⟩ (.slice A3 n3 c3))∧Gat w0 ab vt e cs3 (V.setCell ⟨ab,0,none⟩ (.slice A3 n3 c3)):=by
 have hzW:=hg.size
 have hA:=ho.lt
 have hrow : ∀ (j : Nat) (o : Obj),A.map (·.block) = some j→W.heap[j]? = some o→o.isCells = true:=fun j o hj hoo=>by
  cases A with
  | none=>simp at hj
  | some q =>
   simp at hj;subst hj
   rcases ho.2.2.2 with ⟨h0,_⟩ | ⟨g,cap,cur,hv,_,hh,_⟩
   ·injection h0 with h0;cases h0
   ·injection hv with hv
    injection hv with hv
    subst hv
    rw [hh] at hoo
    cases hoo;rfl
 have hkk:=(KeepsOthers.of_grownBy hV hrow).trans (KeepsOthers.setCell V ⟨ab,0,none⟩ (.slice A3 n3 c3))
 have hge : ∀ q,A.map (·.block) = some q→w0.heap.size≤q:=fun q hq=>by
  cases A with
  | none=>simp at hq
  | some z=>have:=(hA z rfl).1;simp at hq;omega
 have hblk : ∀ k,k < w0.heap.size→V.heap[k]? = W.heap[k]?:=fun k hk=>hV.block k (by omega) (fun e=>by have:=hge k e.symm;omega)
 have hz3 : W.heap.size≤V.heap.size:=hV.size
 have hB3 : Blk V ab vt #[.slice A n c]:=(hblk ab hab).trans hB
 refine ⟨hkk.from _,hkk.walks,A3,n3,c3,hB3.set_ 0 _,ho3.keep (fun q hq=>Below.heap_setCell V ⟨ab,0,none⟩ _ _ (by have:=(ho3.lt q hq).1;simp only;omega)),?_⟩
 refine ⟨hV.os.trans hg.os,hV.tape.trans hg.tape,hV.output.trans hg.output,by simpa [World.setCell] using Nat.le_trans hzW hz3,fun k hk hne=>?_⟩
 exact (Below.heap_setCell V ⟨ab,0,none⟩ _ k (fun e=>hne (by rw [e]))).trans ((hblk k hk).trans (hg.block k hk hne))
end
section
open Go.RowKit Go.Shelf
attribute [local go_sem] Oper.semAt_some
end
section
open Go Go.RowKit
theorem Rd.atQ {w : World} {A : Option Addr} {l : List Nat} {k x : Nat} (h : Rd w 1 A (l.map fun a=>[.int .i64 (a : Nat)])) (hk : l[k]? = some x) : ∃ b off,A = some ⟨b,off,none⟩∧w.cell? ⟨b,off+k,none⟩ = some (.int .i64 (x : Nat)):=by
 obtain ⟨b,off,rfl,hc⟩:=h (by intro e;have:=congrArg List.length e;rw [List.length_map] at this;have h2:=(List.getElem?_eq_some_iff.1 hk).1;simp at this;rw [this] at h2;simp at h2)
 have h0:=hc k 0 [.int .i64 (x : Nat)] (.int .i64 (x : Nat)) (by simp [hk]) rfl
 refine ⟨b,off,rfl,?_⟩
 simpa using h0
section
variable {t : TypeId} {X : Nat→Prop} {A B C : World}
end
end
section
open Go.RowKit Go.Maps
def ofC (d : DbP) (s : ByteArray) : List Nat:=(runesP s).map fun x=>d.get (x.1 : Int)
def encN (x : Nat) : List Value:=[.int .i64 (x : Int)]
theorem encN_ok (l : List Nat) : ∀ y ∈ l.map encN,y.length = 1∧∀ u ∈ y,u.oneCell' = true:=by
 intro y hy;obtain ⟨r,_,rfl⟩:=List.mem_map.1 hy
 exact ⟨rfl,by simp [encN,Value.oneCell']⟩
def OfCAt (d : DbP) (s : ByteArray) (f p : Nat) (o : List Nat) : Prop:=(o++(runesGo s f p).map fun x=>d.get (x.1 : Int)) = ofC d s∧s.size≤p+f∧p≤s.size
theorem ofCAt_first (d : DbP) (s : ByteArray) : OfCAt d s s.size 0 []:=⟨by rw [List.nil_append];rfl,by omega,by omega⟩
theorem ofCAt_add {d : DbP} {s : ByteArray} {f p R W : Nat} {o : List Nat} (h : OfCAt d s f p o) (hp : p < s.size) (hd : Utf8.decode s p = (R,W)) (hw : 1≤W∧p+W≤s.size) : ∃ g,OfCAt d s g (p+W) (o++[d.get (R : Int)]):=by
 obtain ⟨g,rfl,hg⟩:=runesGo_step (s:=s) (f:=f) hp h.2.1
 rw [hd] at hg
 refine ⟨g,?_,by have:=h.2.1;omega,hw.2⟩
 rw [← h.1,hg];simp
theorem ofCAt_end {d : DbP} {s : ByteArray} {f p : Nat} {o : List Nat} (h : OfCAt d s f p o) (hp : ¬ p < s.size) : o = ofC d s:=by
 have:=h.1
 rw [runesGo_end (by omega)] at this
 simpa using this
theorem wOf_any (p : Nat) (d : DbP) (s : ByteArray) (w : World) (h : DbAt w p d) (ho : d.Ok) (ha : Apart d.sets) (hs : s.size≤1000000) :
  Calls Tryz.prog 113 #[.pointer (some ⟨p,0,none⟩),.string s] w fun e w'=>∃ A n c,e = .returned (.slice A n c)∧Own w' w.heap.size 3 1 A n c ((ofC d s).map encN)∧Below w.heap.size w w':=by
 obtain ⟨i0,hi0,hz0,hz1,hz2⟩:=info_parts infoInt
 have HD:=Lib.hid (And.intro h (And.intro ho ha))
 clear h ho ha
 go_enter Tryz.func113,Tryz.ntmps113
 go_wp2
 go_loopw [5] (fun v wr=>∃ (q f : Nat) (A1 : Option Addr) (n1 c1 : Nat) (o : List Nat),v = .slice A1 n1 c1∧wr.heap[w.heap.size]? = some (.stringIter s q)∧Own wr (w.heap.size+1) 3 1 A1 n1 c1 (o.map encN) ∧
   n1≤q∧q≤s.size∧Hid (OfCAt d s f q o)∧Below w.heap.size w wr) (fun _ wr=>s.size - wr.iterPos w.heap.size)
 case atStart=>exact ⟨0,s.size,none,0,0,[],rfl,iter_new _ _ _,Own.nil_ _ _ _ _,by omega,by omega,ofCAt_first d s,below_iter (Below.refl _ _) (Nat.le_refl _) _ _⟩
 case round =>
  obtain ⟨q,f,A1,n1,c1,o,rfl,hit,ho,hn1,hps,HR,hb⟩:=hrel
  have hsz : w.heap.size < wr.heap.size:=(Array.getElem?_eq_some_iff.1 hit).1
  have Hpos:=Lib.hid (iterPos_of hit)
  by_cases hp : q < s.size
  ·obtain ⟨⟨R,W⟩,HDc⟩ : ∃ d,Utf8.decode s q = d:=⟨_,rfl⟩
   have hd:=dec_bd s q hp
   have hnx : ∀ ty,(Instr.next (.pointer (some ⟨w.heap.size,0,none⟩)) true ty).run Tryz.prog wr = _:=fun ty=>Lib.run_next_any_at wr w.heap.size s q ty hit hp
   have hit2:=Lib.iterAt_heap wr w.heap.size s q (q+(Utf8.decode s q).2) hit
   have hb2:=Lib.below_iterAt hb (k:=w.heap.size) (Nat.le_refl _) s (q+(Utf8.decode s q).2)
   have ho2:=ho.iterAt (k:=w.heap.size) (by omega) s (q+(Utf8.decode s q).2)
   have hsz2 : w.heap.size < (wr.iterAt w.heap.size s (q+(Utf8.decode s q).2)).heap.size:=by rw [Lib.iterAt_size];exact hsz
   rw [HDc] at hd hnx hit2 hb2 ho2 hsz2
   simp only at hd hnx hit2 hb2 ho2 hsz2
   obtain ⟨g,HA⟩:=ofCAt_add HR.out hp HDc (by omega)
   have HA:=Lib.hid HA
   clear HR HDc
   generalize wr.iterAt w.heap.size s (q+W) = w2 at hnx hit2 hb2 ho2 hsz2
   have HG:=Lib.hid (wGet_any p d R w2 (HD.out.1.below hb2) HD.out.2.1 HD.out.2.2)
   clear ho hb hit hsz
   go_wp2_with (first | (go_at_call 134;refine HG.out.mono ?_;rintro e w4 ⟨rfl,hb4⟩;have hit4:=(hb4.block _ hsz2).trans hit2;have ho4:=ho2.below hb4;have hbb:=below_step hb2 hb4 hb2.size;have hsz4:=Nat.lt_of_lt_of_le hsz2 hb4.size;clear hit2 ho2 hb2) | (at_builtin;go_must (refine wpList_app rfl (.tmp 15) (.tmp 19) _ rfl (w.heap.size+1) 3 i0 _ 1 8 Tryz.underlying65 hi0 hz0 hz1 hz2 rfl (by omega) A1 n1 c1 (o.map encN) rfl (ho4.alloc _) _ 1 1 [encN (d.get R)] rfl rfl (Rd.newAt (by simp) rfl) (encN_ok [d.get R]) (by unfold maxLen;omega) (by omega) (by simp;omega) ?_);intro A3 c3 w3 ho3 hg3 hA3;have hit3:=hg3.block w.heap.size (by simp;omega) (fun e=>by cases A1 with | none=>simp at e | some a=>have:=(ho4.lt a rfl).1;simp at e;omega);have hb3:=below_app (hbb.alloc (by omega) _) hg3 (by simp;omega) (fun a ha=>by have:=(ho4.lt a ha).1;omega);clear hg3))
   have hit5 : w3.heap[w.heap.size]? = some (.stringIter s (q+W)):=hit3.trans ((Below.heap_alloc _ _ _ hsz4).trans hit4)
   have Ho3 : Own w3 (w.heap.size+1) 3 1 A3 (n1+1) c3 ((o++[d.get (R : Int)]).map encN):=by rw [List.map_append];exact ho3
   clear hit3 ho3
   go_roundw
   case rel=>exact ⟨q+W,g,A3,n1+1,c3,o++[d.get (R : Int)],rfl,hit5,Ho3,by omega,by omega,HA,hb3⟩
   case measure=>rw [iterPos_of hit5,Hpos.out];omega
  ·have hnx : ∀ ty,(Instr.next (.pointer (some ⟨w.heap.size,0,none⟩)) true ty).run Tryz.prog wr = _:=fun ty=>Lib.run_next_end_at wr w.heap.size s q ty hit hp
   have HE:=Lib.hid (ofCAt_end HR.out hp)
   go_wp2
   go_ret
   exact ⟨A1,n1,c1,rfl,by rw [← HE.out];exact ho.more (by omega),hb⟩
end
section
open Go.RowKit
def itemsD : DataW Unit→List Int
 | .slice l _=>l.filterMap fun x=>match x with | .lit (.int _ z)=>some z | _=>none
 | _=>[]
theorem items_lits (l : List Int) : itemsD (.slice (ChangeShapes.lits .i64 l) []) = l:=by
 show List.filterMap _ (l.map fun n=>(DataW.lit (.int .i64 n) : DataW Unit)) = l
 induction l with
 | nil=>rfl
 | cons a l ih =>
  rw [List.map_cons,List.filterMap_cons]
  exact congrArg (a :: ·) ih
theorem items_row {w : World} {base : Nat} {v : Value} {zs : List Int} (h : w.ownsInts base 3 .i64 v zs) : itemsD (rowDatum .i64 v zs) = zs:=by
 rcases h.datum (H:=Unit) with ⟨h1,h2⟩ | h1
 ·rw [h1,h2];rfl
 ·rw [h1];exact items_lits zs
def GrM (w : World) (base b n : Nat) (G : Int→List Int) : Prop :=
 ∃ D : DataW Unit,w.ownsGroups Tryz.prog 3 base 3 .i64 b n D∧∀ k : Int,itemsD (D.atKey (.int .i64 k) .nil) = G k
theorem GrM.lt {w : World} {base b n : Nat} {G : Int→List Int} (h : GrM w base b n G) : b < base∧b < w.heap.size:=by
 obtain ⟨D,⟨es,clock,hb,F,hs,hD,hbb,_,_⟩,_⟩:=h
 exact ⟨hbb,(Array.getElem?_eq_some_iff.1 hb).1⟩
theorem GrM.mono {w : World} {base b n m : Nat} {G : Int→List Int} (h : GrM w base b n G) (hm : n≤m) : GrM w base b m G:=by
 obtain ⟨D,⟨es,clock,hb,F,hs,hD,hbb,hl,hap⟩,hG⟩:=h
 exact ⟨D,⟨es,clock,hb,F,Nat.le_trans hs hm,hD,hbb,fun x hx zs hz=>Nat.le_trans (hl x hx zs hz) hm,hap⟩,hG⟩
theorem GrM.kept {w w' : World} {base b n : Nat} {G : Int→List Int} {row : Option Nat} (h : GrM w base b n G) (hg : w.grownBy w' row) (hb : row ≠ some b) (hr : ∀ r,row = some r→(∃ o : Obj,w.heap[r]? = some o∧o.isCells = false)∨r < base) : GrM w' base b n G:=by
 obtain ⟨D,⟨es,clock,hbk,F,hs,hD,hbb,hl,hap⟩,hG⟩:=h
 have hne : ∀ {v : Value} {zs : List Int},w.ownsInts base 3 .i64 v zs→v.ownBlock = none∨v.ownBlock ≠ row:=fun {v zs} ho=>by
  rcases ho.1.2 with ⟨rfl,_⟩ | ⟨g,cap,cur,rfl,hbg,hh,_⟩
  ·exact .inl rfl
  ·refine .inr fun e=>?_
   rcases hr g e.symm with ⟨o,h1,h2⟩ | h1
   ·rw [hh] at h1;cases h1;cases h2
   ·omega
 have own : ∀ x ∈ es.toList,∃ zs,w.ownsInts base 3 .i64 x.val zs:=fun x hx=>by
  obtain ⟨y,hy⟩:=F.reads x hx
  obtain ⟨z,hz,_⟩:=WideElems.rd_val hy
  obtain ⟨zs,ho,_⟩:=rowElem_inv hz
  exact ⟨zs,ho⟩
 obtain ⟨F1,hmap,_⟩:=F.stay (R':=rowElem (H:=Unit) w' base 3 .i64) (fun x hx z hz=>by
  obtain ⟨zs,ho,rfl⟩:=rowElem_inv hz
  exact rowElem_mk (ho.kept hg (hne ho)))
 refine ⟨D,⟨es,clock,(hg.block b (Array.getElem?_eq_some_iff.1 hbk).1 (Ne.symm hb)).trans hbk,F1,hs,by rw [hmap];exact hD,hbb,fun x hx zs hz=>?_,hap⟩,hG⟩
 obtain ⟨zs0,ho⟩:=own x hx
 rw [hz.unique (ho.kept hg (hne ho))]
 exact hl x hx zs0 ho
theorem GrM.below {w w' : World} {base b n : Nat} {G : Int→List Int} (h : GrM w base b n G) (hb : Below w.heap.size w w') : GrM w' base b n G :=
 h.kept (row:=none) ⟨hb.os,hb.tape,hb.output,hb.size,fun i hi _=>hb.block i hi⟩ (by simp) (fun _ e=>by cases e)
theorem GrM.look {w : World} {base b n : Nat} {G : Int→List Int} (h : GrM w base b n G) {t E : TypeId} (ht : Tryz.prog.underlying t = some (.map 3 E)) (hz : (zeroValue E).run Tryz.prog w = .ok (.slice none 0 0) w) (hn : n < maxLen) {k : Int} (hk : (Lit.int .i64 k).wf = true) :
  ∃ v D,(Instr.lookup t (.map (some b)) (.int .i64 k) false).run Tryz.prog w = .ok v w∧w.ownsInts base 3 .i64 v (G k)∧(G k).length≤n∧(∀ j : Int,itemsD (D.atKey (.int .i64 j) .nil) = G j)∧Maps.IsMap D∧w.groupBack (H:=Unit) Tryz.prog t 3 base 3 .i64 b n D (.int .i64 k) (.int .i64 k) v:=by
 obtain ⟨D,ho,hG⟩:=h
 obtain ⟨v,zs,hrun,hat,hoi,hl,hback⟩:=ho.at (Maps.int_keyed Tryz.underlying3) ht hz hn (Maps.keyOf_int_mk Tryz.underlying3 hk)
 have e : zs = G k:=by rw [← hG k,hat,items_row hoi]
 subst e
 obtain ⟨es,clock,_,_,_,hD,_⟩:=ho
 exact ⟨v,D,hrun,hoi,hl,hG,⟨_,hD⟩,hback⟩
theorem flat_ints (l : List Nat) : (l.map fun (a : Nat)=>(a : Int)).map (Value.int .i64) = (l.map encN).flatten:=by
 induction l with
 | nil=>rfl
 | cons a l ih =>
  rw [List.map_cons,List.map_cons,List.map_cons,List.flatten_cons,ih];rfl
theorem ownsInts_own {w : World} {base : Nat} {v : Value} {l : List Nat} (h : w.ownsInts base 3 .i64 v (l.map fun (a : Nat)=>(a : Int))) : ∃ A c,v = .slice A l.length c∧Own w base 3 1 A l.length c (l.map encN):=by
 have hz:=h.1
 rw [List.length_map] at hz
 rw [flat_ints] at hz
 rcases hz.2 with ⟨rfl,h0⟩ | ⟨g,cap,cur,rfl,_⟩
 ·have : l = []:=List.eq_nil_of_length_eq_zero (by simpa using h0)
  subst this
  exact ⟨none,0,rfl,by simp,by simp,hz⟩
 ·exact ⟨_,_,rfl,by simp,by intro x hx;obtain ⟨a,_,rfl⟩:=List.mem_map.1 hx;rfl,hz⟩
theorem own_ownsInts {w : World} {base : Nat} {A : Option Addr} {n c : Nat} {l : List Nat} (h : Own w base 3 1 A n c (l.map encN)) (hw : ∀ a ∈ l,a≤4294967296) : w.ownsInts base 3 .i64 (.slice A n c) (l.map fun (a : Nat)=>(a : Int)):=by
 have hl:=h.len
 rw [List.length_map] at hl
 refine ⟨?_,fun z hz=>?_⟩
 ·rw [List.length_map,hl]
  rw [flat_ints]
  exact h.2.2
 ·obtain ⟨a,ha,rfl⟩:=List.mem_map.1 hz
  have:=hw a ha
  simp only [Lit.wf,Bool.and_eq_true,IntKind.min,IntKind.max];simp [IntKind.signed,IntKind.bits];omega
theorem grM_put {w2 : World} {base b n : Nat} {G : Int→List Int} {D : DataW Unit} {k : Int} {v : Value} {zs : List Int} (h : w2.ownsGroups Tryz.prog 3 base 3 .i64 b n (D.put (.int .i64 k) (rowDatum .i64 v zs)))
  {w1 : World} (hv : w1.ownsInts base 3 .i64 v zs) (hG : ∀ j : Int,itemsD (D.atKey (.int .i64 j) .nil) = G j) (hD : Maps.IsMap D) : GrM w2 base b n (fun j=>if j = k then zs else G j):=by
 refine ⟨_,h,fun j=>?_⟩
 show itemsD _ = if j = k then zs else G j
 by_cases e : j = k
 ·subst e
  rw [if_pos rfl,Maps.atKey_put_same hD (by trivial),items_row hv]
 ·rw [if_neg e,Maps.atKey_put_other (by intro h;injection h with _ h;exact e h),hG]
end
section
open Go.RowKit
def encLnR (x : Nat × Nat × Nat) (v : Value) : List Value:=[.int .i64 (x.1 : Nat),.int .i64 (x.2.1 : Nat),.int .i64 (x.2.2 : Nat),v]
def LnM (w : World) (A : Option Addr) (L : List (Nat × Nat × Nat)) (lt : Nat × Nat × Nat→List Nat) : Prop :=
 ∃ V : List Value,V.length = L.length∧Rd w 4 A (List.zipWith encLnR L V)∧∀ (k : Nat) (x : Nat × Nat × Nat) (v : Value),L[k]? = some x→V[k]? = some v→∃ B c,v = .slice B (lt x).length c∧Rd w 1 B ((lt x).map encN)
theorem LnM.below {w w' : World} {A : Option Addr} {L : List (Nat × Nat × Nat)} {lt : Nat × Nat × Nat→List Nat} (h : LnM w A L lt) (hb : Below w.heap.size w w') : LnM w' A L lt:=by
 obtain ⟨V,h1,h2,h3⟩:=h
 exact ⟨V,h1,h2.below hb,fun k x v hx hv=>let ⟨B,c,e,hB⟩:=h3 k x v hx hv;⟨B,c,e,hB.below hb⟩⟩
theorem LnM.at_ {w : World} {A : Option Addr} {L : List (Nat × Nat × Nat)} {lt : Nat × Nat × Nat→List Nat} (h : LnM w A L lt) {k : Nat} {x : Nat × Nat × Nat} (hx : L[k]? = some x) :
  ∃ b off B c,A = some ⟨b,off,none⟩∧w.cell? ⟨b,off+k*4,none⟩ = some (.int .i64 (x.1 : Nat))∧w.cell? ⟨b,off+k*4+1,none⟩ = some (.int .i64 (x.2.1 : Nat))∧w.cell? ⟨b,off+k*4+2,none⟩ = some (.int .i64 (x.2.2 : Nat)) ∧
   w.cell? ⟨b,off+k*4+3,none⟩ = some (.slice B (lt x).length c)∧Rd w 1 B ((lt x).map encN):=by
 obtain ⟨V,h1,h2,h3⟩:=h
 have hk:=(List.getElem?_eq_some_iff.1 hx).1
 obtain ⟨v,hv⟩ : ∃ v,V[k]? = some v:=⟨_,List.getElem?_eq_getElem (by omega)⟩
 obtain ⟨B,c,rfl,hB⟩:=h3 k x v hx hv
 have hz : (List.zipWith encLnR L V)[k]? = some (encLnR x (.slice B (lt x).length c)):=by rw [List.getElem?_zipWith,hx,hv]
 obtain ⟨b,off,rfl,hc⟩:=h2 (by intro e;rw [e] at hz;simp at hz)
 exact ⟨b,off,B,c,rfl,by simpa using hc k 0 _ _ hz rfl,hc k 1 _ _ hz rfl,hc k 2 _ _ hz rfl,hc k 3 _ _ hz rfl,hB⟩
def letAbs (s : ByteArray) (x : Nat × Nat × Nat) : List Nat:=(letQ s x).map (x.1+·)
def begZ (s : ByteArray) (k : Int) : List Int:=(begP s k).map fun (a : Nat)=>(a : Int)
def IdxAt (w : World) (p : Nat) (s : ByteArray) : Prop :=
 ∃ (base bm n : Nat) (A : Option Addr) (c : Nat),Blk w p 93 #[.string s,.map (some bm),.slice A (lnP s).length c]∧GrM w base bm n (begZ s)∧n≤100000000∧LnM w A (lnP s) (letAbs s)
theorem IdxAt.below {w w' : World} {p : Nat} {s : ByteArray} (h : IdxAt w p s) (hb : Below w.heap.size w w') : IdxAt w' p s:=by
 obtain ⟨base,bm,n,A,c,h1,h2,h3,h4⟩:=h
 exact ⟨base,bm,n,A,c,h1.below hb,h2.below hb,h3,h4.below hb⟩
theorem IdxAt.things {w : World} {p : Nat} {s : ByteArray} (h : IdxAt w p s) {t E : TypeId} (ht : Tryz.prog.underlying t = some (.map 3 E)) (hz : (zeroValue E).run Tryz.prog w = .ok (.slice none 0 0) w) {k : Int} (hk : (Lit.int .i64 k).wf = true) :
  ∃ bm B c,w.cell? ⟨p,1,none⟩ = some (.map (some bm))∧(Instr.lookup t (.map (some bm)) (.int .i64 k) false).run Tryz.prog w = .ok (.slice B (begP s k).length c) w∧Rd w 1 B ((begP s k).map encN):=by
 obtain ⟨base,bm,n,A,c,h1,h2,h3,h4⟩:=h
 obtain ⟨v,D,hrun,ho,_⟩:=h2.look ht hz (by unfold maxLen;omega) hk
 obtain ⟨B,d,rfl,hB⟩:=ownsInts_own ho
 exact ⟨bm,B,d,by simpa using h1.cell 1,hrun,hB.rd (by decide)⟩
end
section
end
end Go.Proofs.YtlfpdpbbkjnapaaGreatDoor
/- -/
namespace Go.Proofs.YtlfpdpbbkjnapaaGreatDoor
set_option maxRecDepth 100000
set_option maxHeartbeats 40000000
section
open Go.RowKit
theorem gdb_any (w : World) (hE : Env w) :
  Calls Tryz.prog 112 #[] w fun e w'=>∃ p,e = .returned (.pointer (some ⟨p,0,none⟩))∧DbAt w' p graphsD∧Below w.heap.size w w':=by
 go_enter Tryz.func112,Tryz.ntmps112
 generalize hT : ByteArray.mk _ = T
 have HN : newP T.data.toList = .ok graphsD:=by rw [← hT];exact new_K (by kernel_rfl) (by kernel_rfl)
 have hTl : T.data.toList.length≤maxLen:=by rw [← hT];exact of_decide_eq_true (by kernel_rfl)
 clear hT
 have HC:=wNew_any T.data.toList w hE hTl
 rw [HN,show bytesOf T.data.toList = T from bytesOf_data T] at HC
 replace HC:=Lib.hid HC
 clear HN hTl
 go_wp2_with fail
 refine HC.out.mono ?_
 rintro e w1 ⟨⟨p,rfl,hd⟩,hb1⟩
 go_wp2
 go_ret
 exact ⟨p,rfl,hd,hb1⟩
def endZ (c : Int) : Bool:=c == 1 || c == 2 || c == 3
theorem gends_any (c : Int) (w : World) : Calls Tryz.prog 135 #[.int .i64 c] w fun e w'=>e = .returned (.bool (endZ c))∧w = w':=by
 rcases (by omega : c = 1∨c = 2∨c = 3∨(c ≠ 1∧c ≠ 2∧c ≠ 3)) with rfl | rfl | rfl | ⟨h1,h2,h3⟩
 iterate 3
  ·go_enter Tryz.func135,Tryz.ntmps135
   go_wp2
   go_ret
   exact ⟨rfl,rfl⟩
 ·have HV : Hid (endZ c = false):=Lib.hid (by simp [endZ,h1,h2,h3])
  have e1:=beq_eq_false_iff_ne.2 h1
  have e2:=beq_eq_false_iff_ne.2 h2
  have e3:=beq_eq_false_iff_ne.2 h3
  clear h1 h2 h3
  go_enter Tryz.func135,Tryz.ntmps135
  go_wp2
  go_ret
  exact ⟨by rw [HV.out];rfl,rfl⟩
def joinZ (x y : Int) : Bool :=
 if (x == 1) && (y == 2) then true
 else if endZ x || endZ y then false
 else if ((y == 4) || (y == 5) || (y == 6) || (x == 7)) then true
 else if x == 8 then (y == 8) || (y == 9) || (y == 11)
 else if (x == 9) || (x == 11) then (y == 9) || (y == 10)
 else (x == 10) && (y == 10)
theorem joinZ_eq : ∀ x : Nat,x < 14→∀ y : Nat,y < 14→joinZ (x : Int) (y : Int) = joinG x y:=by decide
theorem gjoins_any (x y : Int) (w : World) : Calls Tryz.prog 114 #[.int .i64 x,.int .i64 y] w fun e w'=>e = .returned (.bool (joinZ x y))∧w = w':=by
 obtain ⟨x1,H1⟩ : ∃ b,Hid (((x == 1) && (y == 2)) = b):=⟨_,Lib.hid rfl⟩
 obtain ⟨x2,H2⟩ : ∃ b,Hid (((endZ x) || (endZ y)) = b):=⟨_,Lib.hid rfl⟩
 obtain ⟨x3,H3⟩ : ∃ b,Hid (((y == 4) || (y == 5) || (y == 6) || (x == 7)) = b):=⟨_,Lib.hid rfl⟩
 have HW : Hid (joinZ x y = if x1 then true else if x2 then false else if x3 then true else if x == 8 then ((y == 8) || (y == 9) || (y == 11)) else if ((x == 9) || (x == 11)) then ((y == 9) || (y == 10)) else ((x == 10) && (y == 10))):=Lib.hid (by rw [← H1.out,← H2.out,← H3.out];rfl)
 go_enter Tryz.func114,Tryz.ntmps114
 go_upto_region 1 with fail
 go_cut [5] from 5 (fun v wx=>v = .bool x1∧w = wx)
 case first =>
  cases h1 : (x == 1) with
  | true =>
   cases h2 : (y == 2) with
   | true =>
    go_wp2_with fail
    go_meet
    exact ⟨by rw [← H1.out,h1,h2] <;> rfl,rfl⟩
   | false =>
    go_wp2_with fail
    go_meet
    exact ⟨by rw [← H1.out,h1,h2] <;> rfl,rfl⟩
  | false =>
   go_wp2_with fail
   go_meet
   exact ⟨by rw [← H1.out,h1] <;> rfl,rfl⟩
 case rest =>
  obtain ⟨rfl,rfl⟩:=hcut
  cases x1 with
  | true =>
   go_wp2
   go_ret
   exact ⟨by rw [HW.out];simp,rfl⟩
  | false =>
   go_upto_region 3 with fail
   go_cut [12] from 5 (fun v wx=>v = .bool x2∧w = wx)
   case first =>
    cases h1 : (endZ x) with
    | true =>
     go_wp2_with fail
     refine (gends_any _ _).mono ?_
     rw [h1]
     rintro e wn ⟨rfl,rfl⟩
     go_wp2_with fail
     go_meet
     exact ⟨by rw [← H2.out,h1] <;> rfl,rfl⟩
    | false =>
     cases h2 : (endZ y) with
     | true =>
      go_wp2_with fail
      refine (gends_any _ _).mono ?_
      rw [h1]
      rintro e wn ⟨rfl,rfl⟩
      go_wp2_with fail
      refine (gends_any _ _).mono ?_
      rw [h2]
      rintro e wn ⟨rfl,rfl⟩
      go_wp2_with fail
      go_meet
      exact ⟨by rw [← H2.out,h1,h2] <;> rfl,rfl⟩
     | false =>
      go_wp2_with fail
      refine (gends_any _ _).mono ?_
      rw [h1]
      rintro e wn ⟨rfl,rfl⟩
      go_wp2_with fail
      refine (gends_any _ _).mono ?_
      rw [h2]
      rintro e wn ⟨rfl,rfl⟩
      go_wp2_with fail
      go_meet
      exact ⟨by rw [← H2.out,h1,h2] <;> rfl,rfl⟩
   case rest =>
    obtain ⟨rfl,rfl⟩:=hcut
    cases x2 with
    | true =>
     go_wp2
     go_ret
     exact ⟨by rw [HW.out];simp,rfl⟩
    | false =>
     go_upto_region 5 with fail
     go_cut [19] from 5 (fun v wx=>v = .bool x3∧w = wx)
     case first =>
      cases h1 : (y == 4) with
      | true =>
       go_wp2_with fail
       go_meet
       exact ⟨by rw [← H3.out,h1] <;> rfl,rfl⟩
      | false =>
       cases h2 : (y == 5) with
       | true =>
        go_wp2_with fail
        go_meet
        exact ⟨by rw [← H3.out,h1,h2] <;> rfl,rfl⟩
       | false =>
        cases h3 : (y == 6) with
        | true =>
         go_wp2_with fail
         go_meet
         exact ⟨by rw [← H3.out,h1,h2,h3] <;> rfl,rfl⟩
        | false =>
         cases h4 : (x == 7) with
         | true =>
          go_wp2_with fail
          go_meet
          exact ⟨by rw [← H3.out,h1,h2,h3,h4] <;> rfl,rfl⟩
         | false =>
          go_wp2_with fail
          go_meet
          exact ⟨by rw [← H3.out,h1,h2,h3,h4] <;> rfl,rfl⟩
     case rest =>
      obtain ⟨rfl,rfl⟩:=hcut
      cases x3 with
      | true =>
       go_wp2
       go_ret
       exact ⟨by rw [HW.out];simp,rfl⟩
      | false =>
       cases h1 : (x == 8) with
       | true =>
        cases h2 : (y == 8) with
        | true =>
         go_wp2
         go_ret
         exact ⟨by rw [HW.out];simp [h1,h2],rfl⟩
        | false =>
         cases h3 : (y == 9) with
         | true =>
          go_wp2
          go_ret
          exact ⟨by rw [HW.out];simp [h1,h2,h3],rfl⟩
         | false =>
          cases h4 : (y == 11) with
          | true =>
           go_wp2
           go_ret
           exact ⟨by rw [HW.out];simp [h1,h2,h3,h4],rfl⟩
          | false =>
           go_wp2
           go_ret
           exact ⟨by rw [HW.out];simp [h1,h2,h3,h4],rfl⟩
       | false =>
        cases h2 : (x == 9) with
        | true =>
         cases h3 : (y == 9) with
         | true =>
          go_wp2
          go_ret
          exact ⟨by rw [HW.out];simp [h1,h2,h3],rfl⟩
         | false =>
          cases h4 : (y == 10) with
          | true =>
           go_wp2
           go_ret
           exact ⟨by rw [HW.out];simp [h1,h2,h3,h4],rfl⟩
          | false =>
           go_wp2
           go_ret
           exact ⟨by rw [HW.out];simp [h1,h2,h3,h4],rfl⟩
        | false =>
         cases h3 : (x == 11) with
         | true =>
          cases h4 : (y == 9) with
          | true =>
           go_wp2
           go_ret
           exact ⟨by rw [HW.out];simp [h1,h2,h3,h4],rfl⟩
          | false =>
           cases h5 : (y == 10) with
           | true =>
            go_wp2
            go_ret
            exact ⟨by rw [HW.out];simp [h1,h2,h3,h4,h5],rfl⟩
           | false =>
            go_wp2
            go_ret
            exact ⟨by rw [HW.out];simp [h1,h2,h3,h4,h5],rfl⟩
         | false =>
          cases h4 : (x == 10) with
          | true =>
           cases h5 : (y == 10) with
           | true =>
            go_wp2
            go_ret
            exact ⟨by rw [HW.out];simp [h1,h2,h3,h4,h5],rfl⟩
           | false =>
            go_wp2
            go_ret
            exact ⟨by rw [HW.out];simp [h1,h2,h3,h4,h5],rfl⟩
          | false =>
           go_wp2
           go_ret
           exact ⟨by rw [HW.out];simp [h1,h2,h3,h4],rfl⟩
end
section
open Go.RowKit
end
section
open Go.RowKit
end
section
open Go Go.RowKit
section
variable {P : Program} {Q : Exit→Act→World→Prop} {l n : Nat}
def noDefer (ops : Array Oper) : Bool:=ops.toList.all fun o=>match o.op with | .defer _=>false | _=>true
theorem noDefer_at {ops : Array Oper} (h : noDefer ops = true) {i : Nat} {o : Oper} (ho : ops[i]? = some o) : ∀ c,o.op ≠ .defer c:=fun c hc=>by
 unfold noDefer at h
 rw [List.all_eq_true] at h
 have:=h o (by rw [← Array.getElem?_toList] at ho;exact List.mem_of_getElem? ho)
 rw [hc] at this
 cases this
theorem wpIn_of_wp_round {o : Oper} (hd : ∀ c,o.op ≠ .defer c) {a : Act} {w : World} {K : Act→World→Prop} (h : o.wp P a w K Q) : o.wpIn (Fence.wide.inRound l) n P a w K Q:=by
 refine ⟨fun _ _=>trivial,?_⟩
 rw [Oper.semAt_plain _ _ _ hd]
 unfold Oper.wp at h
 generalize (execOp a.eval o).run P w = r at h ⊢
 cases r with
 | ok x w' =>
  cases x with
  | enter f args=>exact ⟨fun h=>by simp [Fence.wide,Fence.inRound] at h,CallsIn.inRound l (callsIn_wide.2 h)⟩
  | row row args=>exact ⟨fun h=>by simp [Fence.wide,Fence.inRound] at h,fun c cs _=>let ⟨v,w2,r1,s1⟩:=h c cs;⟨v,w2,r1,stepsIn_wide.2 s1⟩⟩
  | round=>exact False.elim h
  | _=>exact h
 | halt x w'=>cases x <;> exact h
theorem wpOpsIn_round {ops : Array Oper} (hd : noDefer ops = true) (hL : ¬ LetsOut Q) : ∀ (L : List Nat) (a : Act) (w : World),wpOps P ops Q L a w→wpOpsIn (Fence.wide.inRound l) n P ops Q L a w
 | [],_,_,h=>h
 | i :: rest,a,w,h=>by
  unfold wpOps at h
  unfold wpOpsIn
  cases ho : ops[i]? with
  | none=>simp only [ho] at h ⊢;exact wpOpsIn_round hd hL rest a w h
  | some o =>
   simp only [ho] at h ⊢
   by_cases hw : Region.wanted o (yielded ops a.tmps) = true
   ·simp only [hw,if_true] at h ⊢
    rcases h with h | h
    ·exact Oper.wpIn_mono (fun a w h=>wpOpsIn_round hd hL rest a w h) (wpIn_of_wp_round (noDefer_at hd ho) h)
    ·exact absurd h.2 hL
   ·simp only [hw,if_false,Bool.false_eq_true] at h ⊢
    exact ⟨fun _ _=>trivial,wpOpsIn_round hd hL rest _ w h⟩
end
end
section
open Go Go.RowKit
section
variable {P : Program} {Q : Exit→Act→World→Prop} {md : Region.Mode}
def tailQ (N : Act→World→Prop) (Q : Exit→Act→World→Prop) : Exit→Act→World→Prop
 | .normal,a,w=>N a w
 | e,a,w=>Q e a w
theorem wp_tailQ {N : Act→World→Prop} {o : Oper} {a : Act} {w : World} {K : Act→World→Prop} : Oper.wp P o a w K (tailQ N Q) = Oper.wp P o a w K Q:=by
 unfold Oper.wp
 generalize (execOp a.eval o).run P w = r
 cases r with
 | ok n w'=>cases n <;> simp only [Oper.upon] <;> rfl
 | halt x w'=>cases x <;> rfl
theorem lets_tailQ {N : Act→World→Prop} : LetsOut (tailQ N Q) = LetsOut Q:=rfl
def lastSink (md : Region.Mode) (l : List Oper) : Bool :=
 (List.range (l.length - 1)).all fun i=>(List.range l.length).any fun j=>decide (i < j) && ((l[j]?).map fun o=>o.after.any fun e=>Region.binds md e && e.on == i).getD false
def lastDown (md : Region.Mode) (l : List Oper) : Bool :=
 (List.range l.length).all fun j=>((l[j]?).map fun o=>o.guard.isNone && o.after.all fun e=>!Region.binds md e || decide (e.on < j)).getD true
theorem lastSink_spec {l : List Oper} (h : lastSink md l = true) {i : Nat} (hi : i < l.length - 1) : ∃ j o,i < j∧l[j]? = some o∧∃ e ∈ o.after,Region.binds md e = true∧e.on = i:=by
 unfold lastSink at h
 rw [List.all_eq_true] at h
 have h1:=h i (List.mem_range.2 hi)
 rw [List.any_eq_true] at h1
 obtain ⟨j,_,h2⟩:=h1
 rw [Bool.and_eq_true,decide_eq_true_eq] at h2
 obtain ⟨h3,h4⟩:=h2
 cases ho : l[j]? with
 | none=>rw [ho] at h4;cases h4
 | some o =>
  rw [ho] at h4
  simp only [Option.map_some,Option.getD_some,Array.any_eq_true] at h4
  obtain ⟨k,hk,h5⟩:=h4
  simp only [Bool.and_eq_true,beq_iff_eq] at h5
  exact ⟨j,o,h3,ho,_,Array.getElem_mem hk,h5.1,h5.2⟩
theorem lastDown_spec {l : List Oper} (h : lastDown md l = true) {j : Nat} {o : Oper} (hj : l[j]? = some o) : o.guard = none∧∀ e ∈ o.after,Region.binds md e = true→e.on < j:=by
 unfold lastDown at h
 rw [List.all_eq_true] at h
 have h1:=h j (List.mem_range.2 (List.getElem?_eq_some_iff.1 hj).1)
 rw [hj] at h1
 simp only [Option.map_some,Option.getD_some,Bool.and_eq_true,Option.isNone_iff_eq_none] at h1
 refine ⟨h1.1,fun e he hb=>?_⟩
 have h2:=Array.all_eq_true_iff_forall_mem.1 h1.2 e he
 rw [hb] at h2
 simpa using h2
structure SameHead (md : Region.Mode) (l : List Oper) (L L' : Array Bool) : Prop where
 size : L.size = l.length
 size' : L'.size = l.length - 1
 same : ∀ i,i < l.length - 1→∀ d,L.getD i d = L'.getD i d
 inv : ∀ (j : Nat) (o : Oper),l[j]? = some o→L.getD j false = true→∀ e ∈ o.after,Region.binds md e = true→L.getD e.on false = true
 last : L.getD (l.length - 1) false = false
theorem getD_any {L : Array Bool} {i : Nat} (h : i < L.size) (d d' : Bool) : L.getD i d = L.getD i d':=by simp [h]
theorem head_get {l : List Oper} {i : Nat} (h : i < l.length - 1) : (l.dropLast.toArray)[i]? = l[i]?:=by
 rw [zG,List.getElem?_dropLast,if_pos h]
theorem SameHead.ready {l : List Oper} {L L' : Array Bool} (h : SameHead md l L L') (hd : lastDown md l = true) {i : Nat} (hi : i < l.length - 1) : i ∈ Region.ready md l.toArray L ↔ i ∈ Region.ready md l.dropLast.toArray L':=by
 rw [mem_ready,mem_ready,head_get hi,zG,h.same i hi]
 constructor
 ·rintro ⟨h0,o,ho,h1⟩
  exact ⟨h0,o,ho,fun e he hb=>by rw [← h.same e.on (by have:=(lastDown_spec hd ho).2 e he hb;omega)];exact h1 e he hb⟩
 ·rintro ⟨h0,o,ho,h1⟩
  exact ⟨h0,o,ho,fun e he hb=>by rw [h.same e.on (by have:=(lastDown_spec hd ho).2 e he hb;omega)];exact h1 e he hb⟩
theorem SameHead.all {l : List Oper} {L L' : Array Bool} (h : SameHead md l L L') (hs : lastSink md l = true) (hr : l.length - 1 ∈ Region.ready md l.toArray L) : ∀ (k i : Nat),i < l.length - 1→l.length - 1≤i+k→L.getD i false = true
 | 0,i,hi,hk=>by omega
 | k+1,i,hi,hk=>by
  obtain ⟨j,o,hij,ho,e,he,hb,rfl⟩:=lastSink_spec hs hi
  have hjl:=(List.getElem?_eq_some_iff.1 ho).1
  by_cases hj : j = l.length - 1
  ·obtain ⟨_,o',ho',hall⟩:=mem_ready.1 hr
   rw [zG,← hj,ho] at ho'
   injection ho' with ho';subst ho'
   exact hall e he hb
  ·exact h.inv j o ho (h.all hs hr k j (by omega) (by omega)) e he hb
theorem SameHead.some_ready {l : List Oper} {L L' : Array Bool} (h : SameHead md l L L') (hd : lastDown md l = true) (hn : 0 < l.length) : Region.ready md l.toArray L ≠ []:=fun h0=>by
 have key : ∀ k,k < l.length→L.getD k false = true:=by
  intro k
  induction k using Nat.strongRecOn with
  | ind k ih =>
   intro hk
   cases hq : L.getD k false with
   | true=>rfl
   | false =>
    obtain ⟨o,ho⟩ : ∃ o,l[k]? = some o:=⟨_,List.getElem?_eq_getElem hk⟩
    have : k ∈ Region.ready md l.toArray L:=mem_ready.2 ⟨by rw [getD_any (by rw [h.size];exact hk) true false];exact hq,o,by rw [zG];exact ho,fun e he hb=>by
     have:=(lastDown_spec hd ho).2 e he hb
     exact ih e.on this (by omega)⟩
    rw [h0] at this;cases this
 have:=key (l.length - 1) (by omega)
 rw [h.last] at this;cases this
theorem SameHead.step {l : List Oper} {L L' : Array Bool} (h : SameHead md l L L') {i : Nat} (hi : i < l.length - 1) (hr : i ∈ Region.ready md l.toArray L) : SameHead md l (L.setIfInBounds i true) (L'.setIfInBounds i true):=by
 refine ⟨by simpa using h.size,by simpa using h.size',fun k hk d=>?_,fun j o ho hj e he hb=>?_,by rw [getD_set_ne false (by omega)];exact h.last⟩
 ·by_cases e : i = k
  ·subst e;simp [h.size,h.size',hk,show i < l.length by omega]
  ·rw [getD_set_ne d e,getD_set_ne d e];exact h.same k hk d
 ·by_cases e1 : i = j
  ·subst e1
   obtain ⟨_,o',ho',hall⟩:=mem_ready.1 hr
   rw [zG,ho] at ho'
   injection ho' with ho';subst ho'
   exact getD_set_true (hall e he hb)
  ·rw [getD_set_ne false e1] at hj
   exact getD_set_true (h.inv j o ho hj e he hb)
theorem wpOp_head {l : List Oper} (hd : lastDown md l = true) {N : Act→World→Prop} {i : Nat} (hi : i < l.length - 1) {K K' : Act→World→Prop} {a : Act} {w : World} (hK : ∀ a w,K a w→K' a w)
  (h : wpOp P l.dropLast.toArray (tailQ N Q) i K a w) : wpOp P l.toArray Q i K' a w:=by
 refine wpOp_mono hK ?_
 obtain ⟨o,ho⟩ : ∃ o,l[i]? = some o:=⟨_,List.getElem?_eq_getElem (by omega)⟩
 have hg:=(lastDown_spec hd ho).1
 unfold wpOp at h ⊢
 simp only [head_get hi,zG,ho,Region.wanted,hg,if_true,wp_tailQ,lets_tailQ] at h ⊢
 exact h
theorem last_step {l : List Oper} {L L' : Array Bool} (h : SameHead md l L L') (hs : lastSink md l = true) (hr : l.length - 1 ∈ Region.ready md l.toArray L) (hn : 0 < l.length) {fuel : Nat} {a : Act} {w : World}
  (H : wpOp P l.toArray Q (l.length - 1) (Q .normal) a w) : wpOp P l.toArray Q (l.length - 1) (wpAny P md l.toArray Q fuel (L.setIfInBounds (l.length - 1) true)) a w:=by
 have h0 : Region.ready md l.toArray (L.setIfInBounds (l.length - 1) true) = []:=by
  refine List.eq_nil_iff_forall_not_mem.2 fun j hj=>?_
  obtain ⟨h1,o,ho,_⟩:=mem_ready.1 hj
  have hjl : j < l.length:=by rw [zG] at ho;exact (List.getElem?_eq_some_iff.1 ho).1
  by_cases e : l.length - 1 = j
  ·subst e;simp [h.size,hjl] at h1
  ·rw [getD_set_ne true e,getD_any (by rw [h.size];exact hjl) true false,h.all hs hr (l.length - 1) j (by omega) (by omega)] at h1
   cases h1
 refine wpOp_mono (fun a w hq=>?_) H
 cases fuel with
 | zero=>exact ⟨h0,hq⟩
 | succ k=>exact ⟨fun _=>hq,by rw [h0];simp⟩
theorem wpAny_last {l : List Oper} (hs : lastSink md l = true) (hd : lastDown md l = true) (hn : 0 < l.length) :
  ∀ (fuel : Nat) (L L' : Array Bool) (a : Act) (w : World),SameHead md l L L' →
   wpAny P md l.dropLast.toArray (tailQ (wpOp P l.toArray Q (l.length - 1) (Q .normal)) Q) fuel L' a w→wpAny P md l.toArray Q (fuel+1) L a w:=by
 intro fuel
 induction fuel with
 | zero =>
  intro L L' a w hS H
  refine ⟨fun h0=>absurd h0 (hS.some_ready hd hn),fun i hi=>?_⟩
  obtain ⟨_,o,ho,_⟩:=mem_ready.1 hi
  have hil : i < l.length:=by rw [zG] at ho;exact (List.getElem?_eq_some_iff.1 ho).1
  by_cases e : i < l.length - 1
  ·have:=(hS.ready hd e).1 hi
   rw [H.1] at this;cases this
  ·obtain rfl : i = l.length - 1:=by omega
   exact last_step hS hs hi hn H.2
 | succ fuel ih =>
  intro L L' a w hS H
  refine ⟨fun h0=>absurd h0 (hS.some_ready hd hn),fun i hi=>?_⟩
  obtain ⟨_,o,ho,_⟩:=mem_ready.1 hi
  have hil : i < l.length:=by rw [zG] at ho;exact (List.getElem?_eq_some_iff.1 ho).1
  by_cases e : i < l.length - 1
  ·exact wpOp_head hd e (fun a w h=>ih _ _ a w (hS.step e hi) h) (H.2 i ((hS.ready hd e).1 hi))
  ·obtain rfl : i = l.length - 1:=by omega
   refine last_step hS hs hi hn (H.1 (List.eq_nil_iff_forall_not_mem.2 fun j hj=>?_))
   obtain ⟨h1,o,ho,_⟩:=mem_ready.1 hj
   have hjl : j < l.length - 1:=by rw [zG] at ho;have:=(List.getElem?_eq_some_iff.1 ho).1;rwa [List.length_dropLast] at this
   rw [← hS.same j hjl true,getD_any (by rw [hS.size];omega) true false,hS.all hs hi (l.length - 1) j hjl (by omega)] at h1
   cases h1
theorem tailQ_end {N : Act→World→Prop} {a : Act} {w : World} (h : N a w) : tailQ N Q .normal a w:=h
theorem wp_region_last {id : Nat} {l : List Oper} {a : Act} {w : World} {S : World→Prop} (n : Nat) (hn : l.length = n+1) (hm : P.follows .mixedOrders = true) (hs : lastSink .any l = true) (hd : lastDown .any l = true) (hS : S w.drew)
  (h : S w.drew→wpAnyH P .any l.dropLast.toArray (tailQ (wpOp P l.toArray Q n (Q .normal)) Q) S n (Array.replicate n false) a w.drew) : (Code.region id l.toArray true).wp P Q a w:=by
 obtain rfl : n = l.length - 1:=by omega
 have hH : SameHead .any l (Array.replicate l.length false) (Array.replicate (l.length - 1) false):=by
  refine ⟨by simp,by simp,fun i hi d=>?_,fun j o ho hj=>?_,?_⟩
  ·simp [hi,show i < l.length by omega]
  ·have hl:=(List.getElem?_eq_some_iff.1 ho).1
   simp [hl] at hj
  ·simp [show l.length - 1 < l.length by omega]
 have:=wpAny_last (Q:=Q) hs hd (by omega) (l.length - 1) _ _ a w.drew hH (wpAny_of_held _ _ _ _ (h hS))
 rw [show l.length - 1+1 = l.toArray.size by simp;omega] at this
 refine wp_region_any hm ?_
 rw [show Array.replicate l.toArray.size false = Array.replicate l.length false by simp]
 exact this
end
end
section
open Go Go.RowKit
section
variable {P : Program} {Q : Exit→Act→World→Prop} {l₀ n : Nat}
theorem wpIn_region_last {id : Nat} {l : List Oper} {a : Act} {w : World} {S : World→Prop} (k : Nat) (hn : l.length = k+1) (hm : P.follows .mixedOrders = true) (hs : lastSink .any l = true) (hd : lastDown .any l = true) (hnd : noDefer l.toArray = true) (hL : ¬ LetsOut Q) (hS : S w.drew)
  (h : S w.drew→wpAnyH P .any l.dropLast.toArray (tailQ (wpOp P l.toArray Q k (Q .normal)) Q) S k (Array.replicate k false) a w.drew) : (Code.region id l.toArray true).wpIn (Fence.wide.inRound l₀) n P Q a w :=
 wpIn_region_draw fun t=>by
  simp only [Region.schedule,hm,Bool.true_or,if_true]
  obtain rfl : k = l.length - 1:=by omega
  have hH : SameHead .any l (Array.replicate l.length false) (Array.replicate (l.length - 1) false):=by
   refine ⟨by simp,by simp,fun i hi d=>?_,fun j o ho hj=>?_,?_⟩
   ·simp [hi,show i < l.length by omega]
   ·have hl:=(List.getElem?_eq_some_iff.1 ho).1
    simp [hl] at hj
   ·simp [show l.length - 1 < l.length by omega]
  have:=wpAny_last (Q:=Q) hs hd (by omega) (l.length - 1) _ _ a w.drew hH (wpAny_of_held _ _ _ _ (h hS))
  rw [show l.length - 1+1 = l.toArray.size by simp;omega] at this
  refine wpOpsIn_round hnd hL _ _ _ (wpAny_sound l.toArray.size t _ a _ ?_)
  rw [show Array.replicate l.toArray.size false = Array.replicate l.length false by simp]
  exact this
end
end
section
open Go.RowKit
theorem findNow_int (q : IntKind) (a : Int) : ∀ (es : List MapEntry) (i : Nat),(∀ e ∈ es,∃ c,e.key = .int q c)→∃ r,Instr.findNow (.int q) (.int q a) es i = some r
 | [],i,_=>⟨none,rfl⟩
 | e :: es,i,h=>by
  obtain ⟨c,hc⟩:=h e (by simp)
  rw [Instr.findNow,hc]
  simp only [Instr.sameNow,if_true]
  cases a == c with
  | true=>exact ⟨_,rfl⟩
  | false=>exact findNow_int q a es (i+1) (fun x hx=>h x (by simp [hx]))
theorem look_pure {P : Program} {t k E : TypeId} {q : IntKind} {es : Array MapEntry} {clock b : Nat} {a : Int} {z : Value} (ht : P.underlying t = some (.map k E)) (hk : P.underlying k = some (.int q)) (hes : ∀ e ∈ es.toList,∃ c,e.key = .int q c)
  (hz : ∀ V,(zeroValue E).run P V = .ok z V) : ∃ v,(es = #[]→v = z)∧∀ V : World,V.heap[b]? = some (.map es clock)→(Instr.lookup t (.map (some b)) (.int q a) false).run P V = .ok v V:=by
 obtain ⟨r,hr⟩:=findNow_int q a es.toList 0 hes
 cases r with
 | none =>
  refine ⟨z,fun _=>rfl,fun V hb=>?_⟩
  have hc : ∀ (n : Nat),(Instr.checkKey es.isEmpty (n+1) k (.int q a)).run P V = .ok () V:=fun n=>by
   unfold Instr.checkKey
   simp [run_underlying hk]
  simp [Instr.lookup,run_underlying ht,MapKept.run_getObj_map hb,hc 9999,Instr.findKey,run_underlying hk,hr,hz,Result.andThen]
 | some x =>
  refine ⟨x.2,fun e=>by subst e;simp [Instr.findNow] at hr,fun V hb=>?_⟩
  have hc : ∀ (n : Nat),(Instr.checkKey es.isEmpty (n+1) k (.int q a)).run P V = .ok () V:=fun n=>by
   unfold Instr.checkKey
   simp [run_underlying hk]
  simp [Instr.lookup,run_underlying ht,MapKept.run_getObj_map hb,hc 9999,Instr.findKey,run_underlying hk,hr,Result.andThen]
theorem key_int {P : Program} {k : TypeId} {q : IntKind} {v : Value} {l : Lit} (hk : P.underlying k = some (.int q)) (h : keyOf P k v = some l) : ∃ c,v = .int q c:=by
 unfold keyOf mapKey at h
 rw [hk] at h
 cases v <;> simp at h
 obtain ⟨⟨rfl,_⟩,_⟩:=h
 exact ⟨_,rfl⟩
theorem GrM.look2 {w : World} {base b n : Nat} {G : Int→List Int} (h : GrM w base b n G) {t E : TypeId} (ht : Tryz.prog.underlying t = some (.map 3 E)) (hz : ∀ V,(zeroValue E).run Tryz.prog V = .ok (.slice none 0 0) V) (hn : n < maxLen) {k : Int} (hk : (Lit.int .i64 k).wf = true) :
  ∃ v D,(∀ V : World,V.heap[b]? = w.heap[b]?→(Instr.lookup t (.map (some b)) (.int .i64 k) false).run Tryz.prog V = .ok v V)∧w.ownsInts base 3 .i64 v (G k)∧(G k).length≤n∧(∀ j : Int,itemsD (D.atKey (.int .i64 j) .nil) = G j)∧Maps.IsMap D∧w.groupBack (H:=Unit) Tryz.prog t 3 base 3 .i64 b n D (.int .i64 k) (.int .i64 k) v∧(n = 0→v = .slice none 0 0):=by
 obtain ⟨v,D,hrun,h1,h2,h3,h4,h5⟩:=h.look ht (hz w) hn hk
 obtain ⟨D0,⟨es,clock,hb,F,hsz,_,_,_,_⟩,_⟩:=h
 have hes : ∀ e ∈ es.toList,∃ c,e.key = .int .i64 c:=fun e he=>by
  obtain ⟨y,hy⟩:=F.reads e he
  exact key_int Tryz.underlying3 (WideElems.rd_key hy)
 obtain ⟨v2,hv0,hv2⟩:=look_pure (P:=Tryz.prog) (a:=k) (b:=b) (clock:=clock) ht Tryz.underlying3 hes hz
 have e : v2 = v:=by
  have:=hv2 w hb
  rw [hrun] at this
  injection this with this _
  exact this.symm
 subst e
 exact ⟨v2,D,fun V hV=>hv2 V (hV.trans hb),h1,h2,h3,h4,h5,fun hn0=>hv0 (by apply Array.eq_empty_of_size_eq_zero;omega)⟩
end
section
section
variable {A B : List Int}
end
end
section
end
end Go.Proofs.YtlfpdpbbkjnapaaGreatDoor
/- -/
namespace Go.Proofs.YtlfpdpbbkjnapaaGreatDoor
set_option maxRecDepth 100000
set_option maxHeartbeats 40000000
section
def piecesF : List Nat→List (Nat × Nat)
 | a :: b :: r=>(a,b) :: piecesF (b :: r)
 | _=>[]
theorem piecesF_len : ∀ (L : List Nat),(piecesF L).length = L.length - 1
 | []=>rfl
 | [_]=>rfl
 | a :: b :: r=>by rw [piecesF,List.length_cons,piecesF_len (b :: r)];simp
theorem piecesF_at : ∀ (L : List Nat) (k x y : Nat),L[k]? = some x→L[k+1]? = some y→(piecesF L)[k]? = some (x,y)
 | [],_,_,_,h,_=>by simp at h
 | [_],k,_,_,_,h=>by simp at h
 | a :: b :: r,0,x,y,hx,hy=>by
  simp only [zH,zI,Option.some.injEq] at hx hy
  subst hx hy
  rfl
 | a :: b :: r,k+1,x,y,hx,hy=>by
  rw [piecesF,zI]
  exact piecesF_at (b :: r) k x y (by simpa using hx) (by simpa using hy)
theorem piecesF_le {s : ByteArray} : ∀ {L : List Nat},L.Pairwise (· < ·)→(∀ a ∈ L,a≤s.size)→∀ x ∈ piecesF L,x.1≤x.2∧x.2≤s.size
 | [],_,_,x,h=>by simp [piecesF] at h
 | [_],_,_,x,h=>by simp [piecesF] at h
 | a :: b :: r,hp,hz,x,h=>by
  rw [List.pairwise_cons] at hp
  rw [piecesF] at h
  rcases List.mem_cons.1 h with rfl | h
  ·exact ⟨Nat.le_of_lt (hp.1 b (by simp)),hz b (by simp)⟩
  ·exact piecesF_le hp.2 (fun c hc=>hz c (by simp [hc])) x h
def clP (s : ByteArray) (x : Nat × Nat) : Nat × Nat:=if x.1≤x.2∧x.2≤s.size then x else (0,0)
theorem clP_in {s : ByteArray} {x : Nat × Nat} (h : x.1≤x.2∧x.2≤s.size) : clP s x = x:=if_pos h
end
section
open Go.RowKit Go.Shelf Go.Maps
attribute [local go_sem] Oper.semAt_some
end
section
open Go.RowKit
end
section
open Go.RowKit
end
section
open Go.RowKit
end
section
open Go.RowKit
end
section
open Go.RowKit
theorem gcell {w w' : World} {row : Option Nat} (h : w.grownBy w' row) {b i : Nat} {v : Value} (hv : w.cell? ⟨b,i,none⟩ = some v) (hr : some b ≠ row) : w'.cell? ⟨b,i,none⟩ = some v :=
 (World.cell?_of_block (h.block b (cell_lt hv) hr)).trans hv
end
end Go.Proofs.YtlfpdpbbkjnapaaGreatDoor
