/-
 Several texts in one,in their build order: PrsD,HexR,PropsL,Last,UtfJ,UtfS,TrD,DbK,Dg,Ds,PrsE,SenP,PrsS,GraS,GraR,GraT,GraV,WorP,WorQ,WorR,WorT,Dw,Ka,Kb,LinP,LinQ,LinR,UtfI,Rng,AppIn,RngC,Rgn,Li,PlcP,Rgq.
-/
import Derived.Deep.LoopGhost
import Derived.Deep.RegionHeld3
import Derived.Laws.BitsAllLaws
import Derived.Laws.Bits
import Derived.KernelRfl
import Derived.Lib.MapLaws
import Derived.Deep.DeepMust
import Derived.RangeFuncNested
import Derived.RangeFuncLeaves
import Derived.OwnWalkIn
import Derived.RangeFuncBound
import Derived.CallsIn
import Derived.OrdersIn
import Derived.RangeFuncCalls
import Derived.Deep.QuietTactic
import Derived.BigQuiet
import Derived.Test.YtlfpdpbbkjnapaaGreatDoorR0a
/- -/
namespace Go.Proofs.YtlfpdpbbkjnapaaGreatDoor
set_option maxRecDepth 100000
set_option maxHeartbeats 40000000
section
theorem pick_filter : ∀ (n : Nat) (r : List (Nat × Nat × Nat)) (t : List Bool),r.length = n→t.length = n→pickG r t = ((List.range n).filter fun i=>t.getD i false).map fun i=>(r.map fun x=>x.2.1).getD i 0
 | 0,r,t,hr,ht=>by
  obtain rfl:=List.eq_nil_of_length_eq_zero hr
  obtain rfl:=List.eq_nil_of_length_eq_zero ht
  rfl
 | n+1,r,t,hr,ht=>by
  rcases List.eq_nil_or_concat r with rfl | ⟨r',x,rfl⟩
  ·simp at hr
  rcases List.eq_nil_or_concat t with rfl | ⟨t',b,rfl⟩
  ·simp at ht
  simp only [List.concat_eq_append,List.length_append,List.length_singleton,Nat.add_right_cancel_iff] at hr ht ⊢
  rw [pickG_snoc r' t' x b (by omega),pick_filter n r' t' hr ht,List.range_succ,List.filter_append,List.map_append]
  have e1 : (List.range n).filter (fun i=>(t'++[b]).getD i false) = (List.range n).filter (fun i=>t'.getD i false):=by
   refine List.filter_congr fun i hi=>?_
   rw [List.mem_range] at hi
   rw [List.getD_eq_getElem?_getD,List.getD_eq_getElem?_getD,List.getElem?_append_left (by omega)]
  have e2 : ((List.range n).filter (fun i=>t'.getD i false)).map (fun i=>((r'++[x]).map fun x=>x.2.1).getD i 0) = ((List.range n).filter (fun i=>t'.getD i false)).map fun i=>(r'.map fun x=>x.2.1).getD i 0:=by
   refine List.map_congr_left fun i hi=>?_
   have hi:=(List.mem_filter.1 hi).1
   rw [List.mem_range] at hi
   rw [List.getD_eq_getElem?_getD,List.getD_eq_getElem?_getD,List.map_append,List.getElem?_append_left (by rw [List.length_map];omega)]
  rw [e1,e2]
  congr 1
  have e3 : (t'++[b]).getD n false = b:=by rw [List.getD_eq_getElem?_getD,List.getElem?_append_right (by omega),ht,Nat.sub_self];rfl
  have e4 : ((r'++[x]).map fun x=>x.2.1).getD n 0 = x.2.1:=by rw [List.getD_eq_getElem?_getD,List.map_append,List.getElem?_append_right (by rw [List.length_map];omega),List.length_map,hr,Nat.sub_self];rfl
  cases b with
  | true=>simp only [List.filter_cons,List.filter_nil,e3,if_true,List.map_cons,List.map_nil,e4]
  | false=>simp only [List.filter_cons,List.filter_nil,e3,if_false,Bool.false_eq_true,List.map_nil]
end
section
open Go.RowKit
end
section
def offB (x y : Int × Int × Nat) : Bool:=decide (x.2.1 < y.1) || decide (y.2.1 < x.1)
def offAll : List (Int × Int × Nat)→Bool
 | []=>true
 | x :: r=>r.all (offB x) && offAll r
theorem offAll_spec : ∀ {l : List (Int × Int × Nat)},offAll l = true→l.Pairwise Off
 | [],_=>.nil
 | x :: r,h=>by
  simp only [offAll,Bool.and_eq_true,List.all_eq_true] at h
  refine .cons (fun y hy=>?_) (offAll_spec h.2)
  have:=h.1 y hy
  simpa [offB,Off] using this
theorem entG_apart : ∀ {S : List (List (Int × Int))} {c : Nat},(entG c S).Pairwise Off→Apart S
 | [],c,_=>fun i j a b hi=>by simp at hi
 | s :: S,c,h=>by
  unfold entG at h
  rw [List.pairwise_append] at h
  have ih:=entG_apart h.2.1
  have hx : ∀ (j : Nat) (b : List (Int × Int)),S[j]? = some b→∀ r,memR s r→memR b r→False:=fun j b hb r ⟨x,hx,h1,h2⟩ ⟨y,hy,h3,h4⟩=>by
   have:=h.2.2 (x.1,x.2,c) (List.mem_map.2 ⟨x,hx,rfl⟩) (y.1,y.2,c+1+j) (mem_entG.2 ⟨j,b,hb,hy,rfl⟩)
   unfold Off at this;simp only at this;omega
  intro i j a b hi hj hij r ha hb
  cases i with
  | zero =>
   cases j with
   | zero=>omega
   | succ j=>simp at hi hj;subst hi;exact hx j b hj r ha hb
  | succ i =>
   cases j with
   | zero=>simp at hi hj;subst hj;exact hx i a hi r hb ha
   | succ j=>exact ih i j a b (by simpa using hi) (by simpa using hj) (by omega) r ha hb
def nfB : List (Int × Int)→Bool
 | []=>true
 | x :: r=>decide (0≤x.1) && decide (x.1≤x.2) && decide (x.2≤1114111) && r.all (fun y=>decide (x.2+1 < y.1)) && nfB r
theorem nfB_spec : ∀ {l : List (Int × Int)},nfB l = true→NF l
 | [],_=>⟨trivial,by simp⟩
 | x :: r,h=>by
  simp only [nfB,Bool.and_eq_true,List.all_eq_true,decide_eq_true_eq] at h
  obtain ⟨⟨⟨⟨h1,h2⟩,h3⟩,h4⟩,h5⟩:=h
  have ih:=nfB_spec h5
  refine ⟨⟨h2,h4,ih.1⟩,fun y hy=>?_⟩
  rcases List.mem_cons.1 hy with rfl | hy
  ·exact ⟨h1,h3⟩
  ·exact ih.2 y hy
def nodB : List (List UInt8)→Bool
 | []=>true
 | x :: r=>r.all (fun y=>!(y == x)) && nodB r
theorem nodB_spec : ∀ {l : List (List UInt8)},nodB l = true→l.Nodup
 | [],_=>.nil
 | x :: r,h=>by
  simp only [nodB,Bool.and_eq_true,List.all_eq_true] at h
  refine List.nodup_cons.2 ⟨fun hx=>?_,nodB_spec h.2⟩
  have:=h.1 x hx
  simp at this
def DbP.okB (d : DbP) : Bool :=
 decide (d.sets.length = d.names.length) && d.sets.all nfB && nodB d.names && decide (d.names.head? = some otherL) && decide (d.sets.head? = some []) && decide (d.names.length≤64) && offAll (entG 0 d.sets) && d.names.all nameL
theorem DbP.okB_spec {d : DbP} (h : d.okB = true) : d.Ok∧Apart d.sets∧d.Named:=by
 simp only [DbP.okB,Bool.and_eq_true,List.all_eq_true,decide_eq_true_eq] at h
 obtain ⟨⟨⟨⟨⟨⟨⟨h1,h2⟩,h3⟩,h4⟩,h5⟩,h6⟩,h7⟩,h8⟩:=h
 exact ⟨⟨h1,fun l hl=>nfB_spec (h2 l hl),nodB_spec h3,h4,h5,h6⟩,entG_apart (offAll_spec h7),h8⟩
end
section
open Go Go.RowKit
section
variable {P : Program} {Q : Exit→Act→World→Prop} {md : Region.Mode}
def tailQ (N : Act→World→Prop) (Q : Exit→Act→World→Prop) : Exit→Act→World→Prop
 | .normal,a,w=>N a w
 | e,a,w=>Q e a w
theorem wp_tailQ {N : Act→World→Prop} {o : Oper} {a : Act} {w : World} {K : Act→World→Prop} : Oper.wp P o a w K (tailQ N Q) = Oper.wp P o a w K Q:=by
 unfold Oper.wp
 generalize (execOp a.eval o).run P w = r
 cases r with
 | ok n w'=>cases n <;> simp only [Oper.upon] <;> rfl
 | halt x w'=>cases x <;> rfl
theorem lets_tailQ {N : Act→World→Prop} : LetsOut (tailQ N Q) = LetsOut Q:=rfl
def lastSink (md : Region.Mode) (l : List Oper) : Bool :=
 (List.range (l.length - 1)).all fun i=>(List.range l.length).any fun j=>decide (i < j) && ((l[j]?).map fun o=>o.after.any fun e=>Region.binds md e && e.on == i).getD false
def lastDown (md : Region.Mode) (l : List Oper) : Bool :=
 (List.range l.length).all fun j=>((l[j]?).map fun o=>o.guard.isNone && o.after.all fun e=>!Region.binds md e || decide (e.on < j)).getD true
theorem lastSink_spec {l : List Oper} (h : lastSink md l = true) {i : Nat} (hi : i < l.length - 1) : ∃ j o,i < j∧l[j]? = some o∧∃ e ∈ o.after,Region.binds md e = true∧e.on = i:=by
 unfold lastSink at h
 rw [List.all_eq_true] at h
 have h1:=h i (List.mem_range.2 hi)
 rw [List.any_eq_true] at h1
 obtain ⟨j,_,h2⟩:=h1
 rw [Bool.and_eq_true,decide_eq_true_eq] at h2
 obtain ⟨h3,h4⟩:=h2
 cases ho : l[j]? with
 | none=>rw [ho] at h4;cases h4
 | some o =>
  rw [ho] at h4
  simp only [Option.map_some,Option.getD_some,Array.any_eq_true] at h4
  obtain ⟨k,hk,h5⟩:=h4
  simp only [Bool.and_eq_true,beq_iff_eq] at h5
  exact ⟨j,o,h3,ho,_,Array.getElem_mem hk,h5.1,h5.2⟩
theorem lastDown_spec {l : List Oper} (h : lastDown md l = true) {j : Nat} {o : Oper} (hj : l[j]? = some o) : o.guard = none∧∀ e ∈ o.after,Region.binds md e = true→e.on < j:=by
 unfold lastDown at h
 rw [List.all_eq_true] at h
 have h1:=h j (List.mem_range.2 (List.getElem?_eq_some_iff.1 hj).1)
 rw [hj] at h1
 simp only [Option.map_some,Option.getD_some,Bool.and_eq_true,Option.isNone_iff_eq_none] at h1
 refine ⟨h1.1,fun e he hb=>?_⟩
 have h2:=Array.all_eq_true_iff_forall_mem.1 h1.2 e he
 rw [hb] at h2
 simpa using h2
structure SameHead (md : Region.Mode) (l : List Oper) (L L' : Array Bool) : Prop where
 size : L.size = l.length
 size' : L'.size = l.length - 1
 same : ∀ i,i < l.length - 1→∀ d,L.getD i d = L'.getD i d
 inv : ∀ (j : Nat) (o : Oper),l[j]? = some o→L.getD j false = true→∀ e ∈ o.after,Region.binds md e = true→L.getD e.on false = true
 last : L.getD (l.length - 1) false = false
theorem getD_any {L : Array Bool} {i : Nat} (h : i < L.size) (d d' : Bool) : L.getD i d = L.getD i d':=by simp [h]
theorem head_get {l : List Oper} {i : Nat} (h : i < l.length - 1) : (l.dropLast.toArray)[i]? = l[i]?:=by
 rw [zG,List.getElem?_dropLast,if_pos h]
theorem SameHead.ready {l : List Oper} {L L' : Array Bool} (h : SameHead md l L L') (hd : lastDown md l = true) {i : Nat} (hi : i < l.length - 1) : i ∈ Region.ready md l.toArray L ↔ i ∈ Region.ready md l.dropLast.toArray L':=by
 rw [mem_ready,mem_ready,head_get hi,zG,h.same i hi]
 constructor
 ·rintro ⟨h0,o,ho,h1⟩
  exact ⟨h0,o,ho,fun e he hb=>by rw [← h.same e.on (by have:=(lastDown_spec hd ho).2 e he hb;omega)];exact h1 e he hb⟩
 ·rintro ⟨h0,o,ho,h1⟩
  exact ⟨h0,o,ho,fun e he hb=>by rw [h.same e.on (by have:=(lastDown_spec hd ho).2 e he hb;omega)];exact h1 e he hb⟩
theorem SameHead.all {l : List Oper} {L L' : Array Bool} (h : SameHead md l L L') (hs : lastSink md l = true) (hr : l.length - 1 ∈ Region.ready md l.toArray L) : ∀ (k i : Nat),i < l.length - 1→l.length - 1≤i+k→L.getD i false = true
 | 0,i,hi,hk=>by omega
 | k+1,i,hi,hk=>by
  obtain ⟨j,o,hij,ho,e,he,hb,rfl⟩:=lastSink_spec hs hi
  have hjl:=(List.getElem?_eq_some_iff.1 ho).1
  by_cases hj : j = l.length - 1
  ·obtain ⟨_,o',ho',hall⟩:=mem_ready.1 hr
   rw [zG,← hj,ho] at ho'
   injection ho' with ho';subst ho'
   exact hall e he hb
  ·exact h.inv j o ho (h.all hs hr k j (by omega) (by omega)) e he hb
theorem SameHead.some_ready {l : List Oper} {L L' : Array Bool} (h : SameHead md l L L') (hd : lastDown md l = true) (hn : 0 < l.length) : Region.ready md l.toArray L ≠ []:=fun h0=>by
 have key : ∀ k,k < l.length→L.getD k false = true:=by
  intro k
  induction k using Nat.strongRecOn with
  | ind k ih =>
   intro hk
   cases hq : L.getD k false with
   | true=>rfl
   | false =>
    obtain ⟨o,ho⟩ : ∃ o,l[k]? = some o:=⟨_,List.getElem?_eq_getElem hk⟩
    have : k ∈ Region.ready md l.toArray L:=mem_ready.2 ⟨by rw [getD_any (by rw [h.size];exact hk) true false];exact hq,o,by rw [zG];exact ho,fun e he hb=>by
     have:=(lastDown_spec hd ho).2 e he hb
     exact ih e.on this (by omega)⟩
    rw [h0] at this;cases this
 have:=key (l.length - 1) (by omega)
 rw [h.last] at this;cases this
theorem SameHead.step {l : List Oper} {L L' : Array Bool} (h : SameHead md l L L') {i : Nat} (hi : i < l.length - 1) (hr : i ∈ Region.ready md l.toArray L) : SameHead md l (L.setIfInBounds i true) (L'.setIfInBounds i true):=by
 refine ⟨by simpa using h.size,by simpa using h.size',fun k hk d=>?_,fun j o ho hj e he hb=>?_,by rw [getD_set_ne false (by omega)];exact h.last⟩
 ·by_cases e : i = k
  ·subst e;simp [h.size,h.size',hk,show i < l.length by omega]
  ·rw [getD_set_ne d e,getD_set_ne d e];exact h.same k hk d
 ·by_cases e1 : i = j
  ·subst e1
   obtain ⟨_,o',ho',hall⟩:=mem_ready.1 hr
   rw [zG,ho] at ho'
   injection ho' with ho';subst ho'
   exact getD_set_true (hall e he hb)
  ·rw [getD_set_ne false e1] at hj
   exact getD_set_true (h.inv j o ho hj e he hb)
theorem wpOp_head {l : List Oper} (hd : lastDown md l = true) {N : Act→World→Prop} {i : Nat} (hi : i < l.length - 1) {K K' : Act→World→Prop} {a : Act} {w : World} (hK : ∀ a w,K a w→K' a w)
  (h : wpOp P l.dropLast.toArray (tailQ N Q) i K a w) : wpOp P l.toArray Q i K' a w:=by
 refine wpOp_mono hK ?_
 obtain ⟨o,ho⟩ : ∃ o,l[i]? = some o:=⟨_,List.getElem?_eq_getElem (by omega)⟩
 have hg:=(lastDown_spec hd ho).1
 unfold wpOp at h ⊢
 simp only [head_get hi,zG,ho,Region.wanted,hg,if_true,wp_tailQ,lets_tailQ] at h ⊢
 exact h
theorem last_step {l : List Oper} {L L' : Array Bool} (h : SameHead md l L L') (hs : lastSink md l = true) (hr : l.length - 1 ∈ Region.ready md l.toArray L) (hn : 0 < l.length) {fuel : Nat} {a : Act} {w : World}
  (H : wpOp P l.toArray Q (l.length - 1) (Q .normal) a w) : wpOp P l.toArray Q (l.length - 1) (wpAny P md l.toArray Q fuel (L.setIfInBounds (l.length - 1) true)) a w:=by
 have h0 : Region.ready md l.toArray (L.setIfInBounds (l.length - 1) true) = []:=by
  refine List.eq_nil_iff_forall_not_mem.2 fun j hj=>?_
  obtain ⟨h1,o,ho,_⟩:=mem_ready.1 hj
  have hjl : j < l.length:=by rw [zG] at ho;exact (List.getElem?_eq_some_iff.1 ho).1
  by_cases e : l.length - 1 = j
  ·subst e;simp [h.size,hjl] at h1
  ·rw [getD_set_ne true e,getD_any (by rw [h.size];exact hjl) true false,h.all hs hr (l.length - 1) j (by omega) (by omega)] at h1
   cases h1
 refine wpOp_mono (fun a w hq=>?_) H
 cases fuel with
 | zero=>exact ⟨h0,hq⟩
 | succ k=>exact ⟨fun _=>hq,by rw [h0];simp⟩
theorem wpAny_last {l : List Oper} (hs : lastSink md l = true) (hd : lastDown md l = true) (hn : 0 < l.length) :
  ∀ (fuel : Nat) (L L' : Array Bool) (a : Act) (w : World),SameHead md l L L' →
   wpAny P md l.dropLast.toArray (tailQ (wpOp P l.toArray Q (l.length - 1) (Q .normal)) Q) fuel L' a w→wpAny P md l.toArray Q (fuel+1) L a w:=by
 intro fuel
 induction fuel with
 | zero =>
  intro L L' a w hS H
  refine ⟨fun h0=>absurd h0 (hS.some_ready hd hn),fun i hi=>?_⟩
  obtain ⟨_,o,ho,_⟩:=mem_ready.1 hi
  have hil : i < l.length:=by rw [zG] at ho;exact (List.getElem?_eq_some_iff.1 ho).1
  by_cases e : i < l.length - 1
  ·have:=(hS.ready hd e).1 hi
   rw [H.1] at this;cases this
  ·obtain rfl : i = l.length - 1:=by omega
   exact last_step hS hs hi hn H.2
 | succ fuel ih =>
  intro L L' a w hS H
  refine ⟨fun h0=>absurd h0 (hS.some_ready hd hn),fun i hi=>?_⟩
  obtain ⟨_,o,ho,_⟩:=mem_ready.1 hi
  have hil : i < l.length:=by rw [zG] at ho;exact (List.getElem?_eq_some_iff.1 ho).1
  by_cases e : i < l.length - 1
  ·exact wpOp_head hd e (fun a w h=>ih _ _ a w (hS.step e hi) h) (H.2 i ((hS.ready hd e).1 hi))
  ·obtain rfl : i = l.length - 1:=by omega
   refine last_step hS hs hi hn (H.1 (List.eq_nil_iff_forall_not_mem.2 fun j hj=>?_))
   obtain ⟨h1,o,ho,_⟩:=mem_ready.1 hj
   have hjl : j < l.length - 1:=by rw [zG] at ho;have:=(List.getElem?_eq_some_iff.1 ho).1;rwa [List.length_dropLast] at this
   rw [← hS.same j hjl true,getD_any (by rw [hS.size];omega) true false,hS.all hs hi (l.length - 1) j hjl (by omega)] at h1
   cases h1
theorem tailQ_end {N : Act→World→Prop} {a : Act} {w : World} (h : N a w) : tailQ N Q .normal a w:=h
theorem wp_region_last {id : Nat} {l : List Oper} {a : Act} {w : World} {S : World→Prop} (n : Nat) (hn : l.length = n+1) (hm : P.follows .mixedOrders = true) (hs : lastSink .any l = true) (hd : lastDown .any l = true) (hS : S w.drew)
  (h : S w.drew→wpAnyH P .any l.dropLast.toArray (tailQ (wpOp P l.toArray Q n (Q .normal)) Q) S n (Array.replicate n false) a w.drew) : (Code.region id l.toArray true).wp P Q a w:=by
 obtain rfl : n = l.length - 1:=by omega
 have hH : SameHead .any l (Array.replicate l.length false) (Array.replicate (l.length - 1) false):=by
  refine ⟨by simp,by simp,fun i hi d=>?_,fun j o ho hj=>?_,?_⟩
  ·simp [hi,show i < l.length by omega]
  ·have hl:=(List.getElem?_eq_some_iff.1 ho).1
   simp [hl] at hj
  ·simp [show l.length - 1 < l.length by omega]
 have:=wpAny_last (Q:=Q) hs hd (by omega) (l.length - 1) _ _ a w.drew hH (wpAny_of_held _ _ _ _ (h hS))
 rw [show l.length - 1+1 = l.toArray.size by simp;omega] at this
 refine wp_region_any hm ?_
 rw [show Array.replicate l.toArray.size false = Array.replicate l.length false by simp]
 exact this
end
end
section
end
end Go.Proofs.YtlfpdpbbkjnapaaGreatDoor
/- -/
namespace Go.Proofs.YtlfpdpbbkjnapaaGreatDoor
set_option maxRecDepth 100000
set_option maxHeartbeats 40000000
section
end
section
open Go.RowKit
section
variable {g : Nat→Nat} {n : Nat}
end
end
section
def insK (x : Int × Int) : List (Int × Int)→List (Int × Int)
 | []=>[x]
 | y :: r=>if x.1≤y.1 then x :: y :: r else y :: insK x r
def sortK : List (Int × Int)→List (Int × Int)
 | []=>[]
 | x :: r=>insK x (sortK r)
theorem insK_perm (x : Int × Int) : ∀ (l : List (Int × Int)),(insK x l).Perm (x :: l)
 | []=>.refl _
 | y :: r=>by
  unfold insK
  split
  ·exact .refl _
  ·exact ((insK_perm x r).cons y).trans (List.Perm.swap x y r)
theorem sortK_perm : ∀ (l : List (Int × Int)),(sortK l).Perm l
 | []=>.refl _
 | x :: r=>(insK_perm x (sortK r)).trans ((sortK_perm r).cons x)
theorem insK_rise {x : Int × Int} : ∀ {l : List (Int × Int)},Rise l→Rise (insK x l)
 | [],_=>by unfold insK Rise;simp
 | y :: r,h=>by
  have h':=List.pairwise_cons.1 h
  unfold insK
  split
  ·rename_i hxy
   refine List.pairwise_cons.2 ⟨fun z hz=>?_,h⟩
   rcases List.mem_cons.1 hz with rfl | hz
   ·exact hxy
   ·have:=h'.1 z hz;omega
  ·rename_i hxy
   refine List.pairwise_cons.2 ⟨fun z hz=>?_,insK_rise h'.2⟩
   rcases List.mem_cons.1 ((insK_perm x r).mem_iff.1 hz) with rfl | hz
   ·omega
   ·exact h'.1 z hz
theorem sortK_rise : ∀ (l : List (Int × Int)),Rise (sortK l)
 | []=>.nil
 | _ :: r=>insK_rise (sortK_rise r)
def normK (l : List (Int × Int)) : List (Int × Int):=mergeR (sortK (keepR l))
theorem normK_eq (l : List (Int × Int)) : normK l = normR l:=mergeR_eq (sortK_perm _) (sortK_rise _)
def addK (d : DbP) (name set : List UInt8) : Except Int DbP :=
 if nameL name = false∨name = otherL then .error 40 else
 match parseE (spcL set) with
 | .error e=>.error e
 | .ok l =>
  match d.num name with
  | some c=>if d.clash c (normK l) then .error 41 else .ok ⟨d.names,d.sets.set c (normK ((d.sets.getD c [])++normK l))⟩
  | none=>if 64≤d.names.length then .error 6 else if d.clash d.names.length (normK l) then .error 41 else .ok ⟨d.names++[name],d.sets++[normK l]⟩
theorem addK_eq (d : DbP) (n s : List UInt8) : addK d n s = addL d n s:=by
 have e : ∀ l,normK l = orR [] (normR l):=fun l=>by unfold orR;rw [normK_eq,List.nil_append,normR_of_NF (normR_NF l)]
 have e1 : ∀ a b,normK (a++b) = orR a b:=fun a b=>by rw [normK_eq];rfl
 unfold addK addL
 split
 ·rfl
 ·cases parseE (spcL s) with
  | error e=>rfl
  | ok l =>
   simp only
   cases d.num n with
   | some c=>simp only [e1,normK_eq]
   | none=>simp only;rw [e,show orR [] (normR l) = normR l by rw [← e,normK_eq]]
def stepK (d : DbP) (l : List UInt8) : Except Int DbP :=
 match lineP l with
 | .none_=>.ok d
 | .noLine=>.error 42
 | .says n s=>addK d n s
theorem stepK_eq (d : DbP) (l : List UInt8) : stepK d l = stepL d l:=by
 unfold stepK stepL
 cases lineP l with
 | none_=>rfl
 | noLine=>rfl
 | says n s=>exact addK_eq d n s
def goK (d : DbP) : List (List UInt8)→Nat→Except (Int × Nat) DbP
 | [],_=>.ok d
 | l :: r,i=>match stepK d l with
  | .error e=>.error (e,i+1)
  | .ok d'=>goK d' r (i+1)
theorem goK_eq : ∀ (L : List (List UInt8)) (d : DbP) (i : Nat),goK d L i = linesGo d L i
 | [],_,_=>rfl
 | l :: r,d,i=>by
  unfold goK linesGo
  rw [stepK_eq]
  cases stepL d l with
  | error e=>rfl
  | ok d'=>exact goK_eq r d' (i+1)
theorem new_K {t : List UInt8} {d : DbP} (hl : decide (t.length≤65536) = true) (h : goK DbP.first (splitL t) 0 = .ok d) : newP t = .ok d:=by
 unfold newP
 rw [if_neg (by have:=of_decide_eq_true hl;omega),← goK_eq,h]
end
section
def graphsD : DbP:=⟨[otherL,[67,82],[76,70],[67,111,110,116,114,111,108],[69,120,116,101,110,100],[90,87,74],[77,97,114,107],[80,114,101,112,101,110,100],[76],[86],[84],[72],[80,105,99,116],[70,108,97,103]],[[],[(13,13)],[(10,10)],[(0,9),(11,12),(14,31),(127,159),(173,173),(8203,8203),(8232,8233),(65279,65279)],[(768,879),(1155,1161),(1425,1469),(1611,1631),(2364,2364),(2381,2381),(3636,3642),(8204,8204),(8400,8432),(12441,12442),(65024,65039),(127995,127999),(917536,917631)],[(8205,8205)],[(2307,2307),(2366,2368),(2377,2380),(3635,3635)],[(1536,1541),(1757,1757),(1807,1807),(69821,69821)],[(4352,4447)],[(4448,4519)],[(4520,4607)],[(44032,55203)],[(169,169),(174,174),(8252,8252),(8265,8265),(8482,8482),(8592,8703),(8960,9215),(9632,10175),(10548,10549),(11013,11093),(12336,12336),(12349,12349),(12951,12951),(12953,12953),(126976,127231),(127744,127994),(128000,129791)],[(127462,127487)]]⟩
theorem graphs_ok : graphsD.okB = true:=by kernel_rfl
theorem graphsOk : graphsD.Ok∧Apart graphsD.sets∧graphsD.Named:=DbP.okB_spec graphs_ok
def gG (r : Int) : Nat:=graphsD.get r
theorem gG_lt (r : Int) : gG r < 14:=get_lt graphsOk.1 r
end
section
def sentsD : DbP:=⟨[otherL,[67,82],[76,70],[83,101,112],[83,112],[76,111,119,101,114],[85,112,112,101,114],[76,101,116,116,101,114],[68,105,103,105,116],[83,116,111,112],[84,101,114,109],[67,108,111,115,101],[79,110],[69,120,116,101,110,100]],[[],[(13,13)],[(10,10)],[(133,133),(8232,8233)],[(9,9),(11,12),(32,32),(160,160),(5760,5760),(8192,8202),(8239,8239),(8287,8287),(12288,12288)],[(97,122),(181,181),(223,246),(248,255),(945,969),(1072,1119)],[(65,90),(192,214),(216,222),(913,929),(931,937),(1024,1071)],[(170,170),(186,186),(1488,1514),(1569,1610),(2308,2361),(3585,3632),(4352,4607),(12353,12438),(12449,12538),(19968,40959),(44032,55203)],[(48,57),(1632,1641),(1776,1785),(2406,2415)],[(46,46),(8228,8228),(65106,65106),(65294,65294)],[(33,33),(63,63),(1417,1417),(1567,1567),(1748,1748),(2404,2405),(8252,8253),(8263,8265),(12290,12290),(65281,65281),(65311,65311),(65377,65377)],[(34,34),(39,41),(91,91),(93,93),(123,123),(125,125),(171,171),(187,187),(8216,8223),(8249,8250),(8261,8262),(12296,12305)],[(44,45),(58,58),(1373,1373),(1548,1549),(8211,8212),(12289,12289),(65292,65293),(65306,65306)],[(173,173),(768,879),(1155,1161),(1611,1631),(2364,2364),(2381,2381),(8203,8207),(8234,8238),(8288,8292),(8400,8432),(65024,65039),(65279,65279),(127995,127999)]]⟩
theorem sents_ok : sentsD.okB = true:=by kernel_rfl
theorem sentsOk : sentsD.Ok∧Apart sentsD.sets∧sentsD.Named:=DbP.okB_spec sents_ok
def gS (r : Int) : Nat:=sentsD.get r
end
section
inductive El where
 | one (cs : List Nat)
 | many (cs : List Nat)
 | may (cs : List Nat)
def eat : List El→List Nat→Bool
 | [],_=>true
 | .one _ :: _,[]=>false
 | .one cs :: es,x :: r=>cs.contains x && eat es r
 | .many cs :: es,r=>eat es (r.dropWhile fun x=>cs.contains x)
 | .may _ :: es,[]=>eat es []
 | .may cs :: es,x :: r=>if cs.contains x then eat es r else eat es (x :: r)
structure RB where
 cut : Bool
 f : List Nat→Bool
 g : List Nat→Bool
def boundsX (cut : List Nat→Nat→Bool) (g : Int→Nat) (s : ByteArray) : List Nat :=
 if s.size = 0 then [] else pickG (runesP s) ((List.range (runesP s).length).map fun i=>decide (i = 0) || cut (clsG g (runesP s)) i)++[s.size]
end
section
def sOver (c : List Int) (a b : Int) : Nat→Nat
 | 0=>0
 | n+1=>if c.getD n 0 = a∨c.getD n 0 = b then sOver c a b n else n+1
def sStop (x : Int) : Bool:=x == 9 || x == 10
def sEnded (c : List Int) (at_ : Nat) (blanks : Bool) : Int :=
 let n:=sOver c 11 13 (if blanks then sOver c 4 13 at_ else at_)
 if n ≠ 0∧sStop (c.getD (n - 1) 0) = true then c.getD (n - 1) 0 else 0
def sGoesL : List Int→Bool
 | []=>false
 | x :: r=>if x = 5 then true else if [7,6,3,1,2,9,10].contains x then false else sGoesL r
def sInitial (c : List Int) (at_ : Nat) : Bool :=
 let n:=sOver c 13 13 at_
 if n = 0∨c.getD (n - 1) 0 ≠ 9 then false
 else
  let m:=sOver c 13 13 (n - 1)
  decide (m ≠ 0) && (c.getD (m - 1) 0 == 6 || c.getD (m - 1) 0 == 5)
def sLine (x : Int) : Bool:=x == 1 || x == 2 || x == 3
def sCuts (c : List Int) (at_ : Nat) : Bool :=
 let x:=c.getD (at_ - 1) 0
 let y:=c.getD at_ 0
 if x = 1∧y = 2 then false
 else if sLine x then true
 else
  let near:=sOver c 13 13 at_
  let stopped:=decide (near ≠ 0) && c.getD (near - 1) 0 == 9
  let last:=sEnded c at_ true
  if y = 13∨last = 0 then false
  else if stopped && y == 8 || y == 6 && sInitial c at_ then false
  else if last == 9 && sGoesL (c.drop at_) then false
  else if y = 12∨y = 9∨y = 10 then false
  else if y == 11 && sEnded c at_ false != 0 then false
  else if y = 4∨y = 3∨y = 1∨y = 2 then false
  else true
theorem sOver_le (c : List Int) (a b : Int) : ∀ n,sOver c a b n≤n
 | 0=>Nat.le_refl _
 | n+1=>by
  have:=sOver_le c a b n
  unfold sOver;split <;> omega
end
section
def toI (c : List Nat) : List Int:=c.map fun (x : Nat)=>(x : Int)
theorem toI_get (c : List Nat) (i : Nat) : (toI c).getD i 0 = ((c.getD i 0 : Nat) : Int):=by
 unfold toI
 rw [List.getD_eq_getElem?_getD,List.getD_eq_getElem?_getD,List.getElem?_map]
 cases c[i]? <;> rfl
def endT (r : List Nat) : Nat:=match r.dropWhile fun x=>[11,13].contains x with
 | []=>0
 | x :: _=>if x = 9∨x = 10 then x else 0
def goR : List Nat→Bool
 | []=>false
 | x :: r=>if x = 5 then true else if [7,6,3,1,2,9,10].contains x then false else goR r
theorem go_eq : ∀ (l : List Nat),sGoesL (toI l) = goR l
 | []=>rfl
 | x :: r=>by
  have ih:=go_eq r
  unfold toI at ih ⊢
  rw [List.map_cons,sGoesL,goR,ih]
  by_cases h5 : x = 5
  ·rw [if_pos (by omega),if_pos h5]
  rw [if_neg (by omega),if_neg h5]
  have e : ([7,6,3,1,2,9,10] : List Int).contains (x : Int) = ([7,6,3,1,2,9,10] : List Nat).contains x:=by
   rw [Bool.eq_iff_iff]
   simp only [List.contains_iff_mem,List.mem_cons,List.not_mem_nil,or_false]
   omega
  rw [e]
theorem toI_drop (c : List Nat) (i : Nat) : (toI c).drop i = toI (c.drop i):=by unfold toI;rw [List.map_drop]
def tests : List RB:=[
 ⟨false,eat [.one [1]],eat [.one [2]]⟩,
 ⟨true,eat [.one [1,2,3]],eat []⟩,
 ⟨false,eat [],eat [.one [13]]⟩,
 ⟨false,eat [.many [13],.one [9]],eat [.one [8]]⟩,
 ⟨false,eat [.many [13],.one [9],.many [13],.one [6,5]],eat [.one [6]]⟩,
 ⟨false,eat [.many [4,13],.many [11,13],.one [9]],eat [.many [0,4,8,11,12,13],.one [5]]⟩,
 ⟨false,eat [.many [4,13],.many [11,13],.one [9,10]],eat [.one [12,9,10]]⟩,
 ⟨false,eat [.many [11,13],.one [9,10]],eat [.one [11,4,3,1,2]]⟩,
 ⟨false,eat [.many [4,13],.many [11,13],.one [9,10]],eat [.one [4,3,1,2]]⟩,
 ⟨true,eat [.many [4,13],.many [11,13],.one [9,10]],eat []⟩]
end
section
end
end Go.Proofs.YtlfpdpbbkjnapaaGreatDoor
/- -/
namespace Go.Proofs.YtlfpdpbbkjnapaaGreatDoor
set_option maxRecDepth 100000
set_option maxHeartbeats 40000000
section
end
section
end
end Go.Proofs.YtlfpdpbbkjnapaaGreatDoor
/- -/
namespace Go.Proofs.YtlfpdpbbkjnapaaGreatDoor
set_option maxRecDepth 100000
set_option maxHeartbeats 40000000
section
theorem bounds_len (s : ByteArray) : (boundsG gG s).length≤s.size+1:=by
 unfold boundsG
 split
 ·simp
 ·rw [List.length_append,starts_len]
  have h1:=List.count_le_length (a:=true) (l:=cutsG (clsG gG (runesP s)))
  rw [cutsG_len,clsG_len] at h1
  have h2:=runesP_len s
  simp;omega
theorem bounds_le (g : Int→Nat) (s : ByteArray) : ∀ a ∈ boundsG g s,a≤s.size:=fun a ha=>by
 unfold boundsG at ha
 split at ha
 ·cases ha
 ·rcases List.mem_append.1 ha with h | h
  ·have:=starts_lt g s a h;omega
  ·rw [List.mem_singleton] at h;omega
end
section
def wEnd (c : Int) : Bool:=c == 3 || c == 1 || c == 2
def wHang (c : Int) : Bool:=c == 4 || c == 6 || c == 5
def wLet (c : Int) : Bool:=c == 10 || c == 9
def wInW (c : Int) : Bool:=c == 14 || c == 13 || c == 11
def wInN (c : Int) : Bool:=c == 15 || c == 13 || c == 11
def wJoin (c : Int) : Bool:=wLet c || c == 16 || c == 8
def wBack (c : List Int) : Nat→Int
 | 0=>-1
 | i+1=>if wHang (c.getD i 0) then wBack c i else i
def wOf (c : List Int) (i : Int) : Int:=if i < 0∨(c.length : Int)≤i then -1 else c.getD i.toNat 0
def wOn (c : List Int) (i : Nat) : Int:=(((c.drop (i+1)).dropWhile wHang).head?).getD (-1)
def wRegGo (c : List Int) : Nat→Nat→Nat
 | 0,_=>0
 | f+1,i=>if wOf c (wBack c i) = 7 then wRegGo c f (wBack c i).toNat+1 else 0
def wReg (c : List Int) (i : Nat) : Nat:=wRegGo c (i+1) i
def wLetters (z a q n : Int) : Bool :=
 (wLet a && wLet q || wLet a && wInW q && wLet n || wLet z && wInW a && wLet q) ||
 (a == 9 && q == 11 || a == 9 && q == 12 && n == 9 || z == 9 && a == 12 && q == 9) ||
 (a == 16 && (q == 16 || wLet q) || wLet a && q == 16) ||
 (z == 16 && wInN a && q == 16 || a == 16 && wInN q && n == 16) ||
 (a == 8 && q == 8 || (wJoin a || a == 17) && q == 17 || a == 17 && wJoin q)
def wCut (c : List Int) (i : Nat) : Bool :=
 let p:=c.getD (i - 1) 0
 let q:=c.getD i 0
 if p = 1∧q = 2 then false
 else if wEnd p || wEnd q then true
 else if (p == 5 && q == 19) || (p == 18 && q == 18) || wHang q then false
 else
  let b:=wBack c i
  if wLetters (wOf c (wBack c b.toNat)) (wOf c b) q (wOn c i) then false
  else !(q == 7) || wReg c i % 2 == 0
theorem wBack_lt (c : List Int) : ∀ i,wBack c i < (i : Int)∧-1≤wBack c i
 | 0=>by simp [wBack]
 | i+1=>by
  have ih:=wBack_lt c i
  unfold wBack
  split <;> omega
theorem wBack_here {c : List Int} {i : Nat} (h : wHang (c.getD i 0) = false) : wBack c (i+1) = i:=by unfold wBack;rw [h];rfl
theorem wOf_nat {c : List Int} {i : Nat} (h : i < c.length) : wOf c (i : Int) = c.getD i 0:=by unfold wOf;rw [if_neg (by omega),Int.toNat_natCast]
end
section
section
variable {A B : List Int}
end
end
section
def wCls (g : Int→Nat) (s : ByteArray) : List Int:=(runesP s).map fun x=>(g x.1 : Int)
def wPick (c : List Int) : Nat→List Nat→List Nat
 | _,[]=>[]
 | i,a :: r=>(if i = 0∨wCut c i = true then [a] else [])++wPick c (i+1) r
def wBounds (g : Int→Nat) (s : ByteArray) : List Nat:=wPick (wCls g s) 0 ((runesP s).map (·.2.1))++(if s.size = 0 then [] else [s.size])
theorem wCls_len (g : Int→Nat) (s : ByteArray) : (wCls g s).length = (runesP s).length:=by simp [wCls]
theorem wPick_append (c : List Int) : ∀ (P Q : List Nat) (i : Nat),wPick c i (P++Q) = wPick c i P++wPick c (i+P.length) Q
 | [],Q,i=>by simp [wPick]
 | a :: P,Q,i=>by
  rw [List.cons_append,wPick,wPick,wPick_append c P Q (i+1),List.append_assoc,List.length_cons,show i+1+P.length = i+(P.length+1) by omega]
end
section
theorem wPick_sub (c : List Int) : ∀ (l : List Nat) (i : Nat),List.Sublist (wPick c i l) l
 | [],_=>List.Sublist.refl _
 | a :: r,i=>by
  rw [wPick]
  split
  ·exact (wPick_sub c r (i+1)).cons_cons a
  ·exact (wPick_sub c r (i+1)).cons a
theorem wBounds_le (g : Int→Nat) (s : ByteArray) : ∀ a ∈ wBounds g s,a≤s.size:=fun a ha=>by
 unfold wBounds at ha
 rcases List.mem_append.1 ha with h | h
 ·obtain ⟨x,hx,rfl⟩:=List.mem_map.1 ((wPick_sub _ _ 0).mem h)
  have:=runesP_bd x hx
  omega
 ·split at h
  ·simp at h
  ·simp at h;omega
theorem wBounds_len (g : Int→Nat) (s : ByteArray) : (wBounds g s).length≤s.size+1:=by
 unfold wBounds
 rw [List.length_append]
 have h1:=(wPick_sub (wCls g s) ((runesP s).map (fun x=>x.2.1)) 0).length_le
 rw [List.length_map] at h1
 have h2:=runesP_len s
 have h3 : (if s.size = 0 then [] else [s.size]).length≤1:=by split <;> simp
 omega
end
section
def wordD : DbP:=⟨[otherL,[67,114],[76,102],[78,101,119,108,105,110,101],[69,120,116,101,110,100],[90,119,106],[70,111,114,109,97,116],[82,101,103,105,111,110],[75,97,116,97,107,97,110,97],[72,101,98,114,101,119],[76,101,116,116,101,114],[81,117,111,116,101],[68,111,117,98,108,101],[77,105,100,78,117,109,76,101,116],[77,105,100,76,101,116,116,101,114],[77,105,100,78,117,109],[68,105,103,105,116],[76,111,119],[83,112,97,99,101],[80,105,99,116]],[[],[(13,13)],[(10,10)],[(11,12),(133,133),(8232,8233)],[(768,879),(1425,1469),(8204,8204),(12441,12442),(65024,65039),(127995,127999)],[(8205,8205)],[(173,173),(8206,8207),(8288,8288),(65279,65279)],[(127462,127487)],[(12449,12538),(12540,12540),(65382,65437)],[(1488,1514)],[(65,90),(97,122),(170,170),(181,181),(192,214),(216,246),(248,687),(880,883),(902,902),(904,1153),(1162,1366),(1568,1610),(7680,8124),(44032,55203),(64256,64262)],[(39,39)],[(34,34)],[(46,46),(8216,8217)],[(58,58),(183,183)],[(44,44),(59,59),(1644,1644)],[(48,57),(1632,1641)],[(95,95),(8255,8255)],[(32,32),(8192,8198),(12288,12288)],[(169,169),(174,174),(9728,10175),(127744,127994),(128000,128591),(128640,128767)]]⟩
theorem word_ok : wordD.okB = true:=by kernel_rfl
theorem wordOk : wordD.Ok∧Apart wordD.sets∧wordD.Named:=DbP.okB_spec word_ok
def gW (r : Int) : Nat:=wordD.get r
end
section
open Go.RowKit
theorem klettered_any (c : Int) (w : World) : Calls Tryz.prog 167 #[.int .i64 c] w fun e w'=>e = .returned (.bool (wLet c))∧w = w':=by
 rcases (by omega : c = 10∨c = 9∨(c ≠ 10∧c ≠ 9)) with rfl | rfl | ⟨h1,h2⟩
 iterate 2
  ·go_enter Tryz.func167,Tryz.ntmps167
   go_wp2
   go_ret
   exact ⟨rfl,rfl⟩
 ·have HV : Hid (wLet c = false):=Lib.hid (by simp [wLet,h1,h2])
  have e1:=beq_eq_false_iff_ne.2 h1
  have e2:=beq_eq_false_iff_ne.2 h2
  clear h1 h2
  go_enter Tryz.func167,Tryz.ntmps167
  go_wp2
  go_ret
  exact ⟨by rw [HV.out];rfl,rfl⟩
theorem kends_any (c : Int) (w : World) : Calls Tryz.prog 136 #[.int .i64 c] w fun e w'=>e = .returned (.bool (wEnd c))∧w = w':=by
 rcases (by omega : c = 3∨c = 1∨c = 2∨(c ≠ 3∧c ≠ 1∧c ≠ 2)) with rfl | rfl | rfl | ⟨h1,h2,h3⟩
 iterate 3
  ·go_enter Tryz.func136,Tryz.ntmps136
   go_wp2
   go_ret
   exact ⟨rfl,rfl⟩
 ·have HV : Hid (wEnd c = false):=Lib.hid (by simp [wEnd,h1,h2,h3])
  have e1:=beq_eq_false_iff_ne.2 h1
  have e2:=beq_eq_false_iff_ne.2 h2
  have e3:=beq_eq_false_iff_ne.2 h3
  clear h1 h2 h3
  go_enter Tryz.func136,Tryz.ntmps136
  go_wp2
  go_ret
  exact ⟨by rw [HV.out];rfl,rfl⟩
theorem khangs_any (c : Int) (w : World) : Calls Tryz.prog 137 #[.int .i64 c] w fun e w'=>e = .returned (.bool (wHang c))∧w = w':=by
 rcases (by omega : c = 4∨c = 6∨c = 5∨(c ≠ 4∧c ≠ 6∧c ≠ 5)) with rfl | rfl | rfl | ⟨h1,h2,h3⟩
 iterate 3
  ·go_enter Tryz.func137,Tryz.ntmps137
   go_wp2
   go_ret
   exact ⟨rfl,rfl⟩
 ·have HV : Hid (wHang c = false):=Lib.hid (by simp [wHang,h1,h2,h3])
  have e1:=beq_eq_false_iff_ne.2 h1
  have e2:=beq_eq_false_iff_ne.2 h2
  have e3:=beq_eq_false_iff_ne.2 h3
  clear h1 h2 h3
  go_enter Tryz.func137,Tryz.ntmps137
  go_wp2
  go_ret
  exact ⟨by rw [HV.out];rfl,rfl⟩
theorem kinWord_any (c : Int) (w : World) : Calls Tryz.prog 168 #[.int .i64 c] w fun e w'=>e = .returned (.bool (wInW c))∧w = w':=by
 rcases (by omega : c = 14∨c = 13∨c = 11∨(c ≠ 14∧c ≠ 13∧c ≠ 11)) with rfl | rfl | rfl | ⟨h1,h2,h3⟩
 iterate 3
  ·go_enter Tryz.func168,Tryz.ntmps168
   go_wp2
   go_ret
   exact ⟨rfl,rfl⟩
 ·have HV : Hid (wInW c = false):=Lib.hid (by simp [wInW,h1,h2,h3])
  have e1:=beq_eq_false_iff_ne.2 h1
  have e2:=beq_eq_false_iff_ne.2 h2
  have e3:=beq_eq_false_iff_ne.2 h3
  clear h1 h2 h3
  go_enter Tryz.func168,Tryz.ntmps168
  go_wp2
  go_ret
  exact ⟨by rw [HV.out];rfl,rfl⟩
theorem kinNumber_any (c : Int) (w : World) : Calls Tryz.prog 169 #[.int .i64 c] w fun e w'=>e = .returned (.bool (wInN c))∧w = w':=by
 rcases (by omega : c = 15∨c = 13∨c = 11∨(c ≠ 15∧c ≠ 13∧c ≠ 11)) with rfl | rfl | rfl | ⟨h1,h2,h3⟩
 iterate 3
  ·go_enter Tryz.func169,Tryz.ntmps169
   go_wp2
   go_ret
   exact ⟨rfl,rfl⟩
 ·have HV : Hid (wInN c = false):=Lib.hid (by simp [wInN,h1,h2,h3])
  have e1:=beq_eq_false_iff_ne.2 h1
  have e2:=beq_eq_false_iff_ne.2 h2
  have e3:=beq_eq_false_iff_ne.2 h3
  clear h1 h2 h3
  go_enter Tryz.func169,Tryz.ntmps169
  go_wp2
  go_ret
  exact ⟨by rw [HV.out];rfl,rfl⟩
theorem kjoined_any (c : Int) (w : World) : Calls Tryz.prog 170 #[.int .i64 c] w fun e w'=>e = .returned (.bool (wJoin c))∧w = w':=by
 rcases (by cases wLet c <;> simp : wLet c = true∨wLet c = false) with h | h
 ·have HV : Hid (wJoin c = true):=Lib.hid (by simp [wJoin,h])
  go_enter Tryz.func170,Tryz.ntmps170
  go_wp2_with (go_at_call 167;refine (klettered_any _ _).mono ?_;rw [h];rintro e w' ⟨rfl,rfl⟩)
  go_ret
  exact ⟨by rw [HV.out];rfl,rfl⟩
 ·rcases (by omega : c = 16∨c = 8∨(c ≠ 16∧c ≠ 8)) with rfl | rfl | ⟨h1,h2⟩
  iterate 2
   ·go_enter Tryz.func170,Tryz.ntmps170
    go_wp2_with (go_at_call 167;refine (klettered_any _ _).mono ?_;rintro e w' ⟨rfl,rfl⟩)
    go_ret
    exact ⟨rfl,rfl⟩
  ·have HV : Hid (wJoin c = false):=Lib.hid (by simp [wJoin,h,h1,h2])
   have e1:=beq_eq_false_iff_ne.2 h1
   have e2:=beq_eq_false_iff_ne.2 h2
   clear h1 h2
   go_enter Tryz.func170,Tryz.ntmps170
   go_wp2_with (go_at_call 167;refine (klettered_any _ _).mono ?_;rw [h];rintro e w' ⟨rfl,rfl⟩)
   go_ret
   exact ⟨by rw [HV.out];rfl,rfl⟩
end
section
open Go.RowKit
def encZ (x : Int) : List Value:=[.int .i64 x]
theorem encZ_ok (l : List Int) : ∀ y ∈ l.map encZ,y.length = 1∧∀ u ∈ y,u.oneCell' = true:=by
 intro y hy;obtain ⟨r,_,rfl⟩:=List.mem_map.1 hy
 exact ⟨rfl,by simp [encZ,Value.oneCell']⟩
theorem Rd.atZ {w : World} {A : Option Addr} {l : List Int} {k : Nat} {x : Int} (h : Rd w 1 A (l.map encZ)) (hk : l[k]? = some x) : ∃ b off,A = some ⟨b,off,none⟩∧w.cell? ⟨b,off+k,none⟩ = some (.int .i64 x):=by
 obtain ⟨b,off,rfl,hc⟩:=h (by intro e;cases l with | nil=>simp at hk | cons _ _=>simp at e)
 have h0:=hc k 0 (encZ x) (.int .i64 x) (by simp [hk]) rfl
 exact ⟨b,off,rfl,by simpa using h0⟩
theorem getD_of {c : List Int} {k : Nat} {x : Int} (h : c[k]? = some x) : c.getD k 0 = x:=by rw [List.getD_eq_getElem?_getD,h];rfl
theorem kback_any (A B : Option Addr) (na ca n cb : Nat) (z : Int) (c : List Int) (i : Nat) (w : World) (hB : Rd w 1 B (c.map encZ)) (hl : c.length = n) (hi : i≤n) (hn : n≤4000000) :
  Calls Tryz.prog 138 #[.agg #[.slice A na ca,.slice B n cb,.int .i64 z],.int .i64 i] w fun e w'=>e = .returned (.int .i64 (wBack c i))∧Below w.heap.size w w':=by
 have Hl:=Lib.hid hl
 clear hl
 have hBz : Below w.heap.size w (w.alloc (.cells #[.slice A na ca,.slice B n cb,.int .i64 z] 165)):=(Below.refl _ _).alloc (Nat.le_refl _) _
 have hK:=Blk.new w 165 #[.slice A na ca,.slice B n cb,.int .i64 z]
 have k1:=hK.cell 1
 simp only [zG,zH,zI] at k1
 go_enter Tryz.func138,Tryz.ntmps138
 go_wp2
 go_loopw [1] (fun v wr=>∃ (j : Nat) (x : Int),v = .int .i64 x∧x = (j : Int) - 1∧j≤i∧Hid (wBack c j = wBack c i)∧wr = w.alloc (.cells #[.slice A na ca,.slice B n cb,.int .i64 z] 165)) (fun v _=>(intOf v+1).toNat)
 case atStart=>exact ⟨i,_,rfl,by go_num,Nat.le_refl _,Lib.hid rfl,rfl⟩
 case round =>
  obtain ⟨j,x,rfl,hx,hj,HW,rfl⟩:=hrel
  cases j with
  | zero =>
   have hx1 : x < 0:=by omega
   have hx0 : ¬ 0≤x:=by omega
   have HV : Hid (wBack c i = x):=Lib.hid (by rw [← HW.out,show x = -1 by omega];rfl)
   clear hx
   go_wp2
   go_ret
   exact ⟨by rw [HV.out];rfl,hBz⟩
  | succ j =>
   obtain rfl : x = (j : Int):=by omega
   clear hx
   obtain ⟨q,Hq⟩ : ∃ q,Hid (c[j]? = some q):=⟨_,Lib.hid (List.getElem?_eq_getElem (by have:=Hl.out;omega))⟩
   obtain ⟨b,off,rfl,hc⟩:=hB.atZ Hq.out
   have hc:=cell_keep hc hBz
   cases hh : wHang q with
   | true =>
    have HW' : Hid (wBack c j = wBack c i):=Lib.hid (by rw [← HW.out,wBack,getD_of Hq.out,hh];rfl)
    go_wp2_with (go_at_call 137;refine (khangs_any _ _).mono ?_;rw [hh];rintro e w' ⟨rfl,rfl⟩)
    go_roundw
    case rel=>exact ⟨j,_,rfl,by go_num,by omega,HW',trivial⟩
    case measure=>simp [intOf]
   | false =>
    have HV : Hid (wBack c i = j):=Lib.hid (by rw [← HW.out];exact wBack_here (by rw [getD_of Hq.out];exact hh))
    go_wp2_with (go_at_call 137;refine (khangs_any _ _).mono ?_;rw [hh];rintro e w' ⟨rfl,rfl⟩)
    go_ret
    exact ⟨by rw [HV.out];rfl,hBz⟩
theorem kof_any (A B : Option Addr) (na ca n cb : Nat) (z : Int) (c : List Int) (i : Int) (w : World) (hB : Rd w 1 B (c.map encZ)) (hl : c.length = n) (_hn : n≤4000000) (hi : -10≤i∧i≤4000000) :
  Calls Tryz.prog 140 #[.agg #[.slice A na ca,.slice B n cb,.int .i64 z],.int .i64 i] w fun e w'=>e = .returned (.int .i64 (wOf c i))∧Below w.heap.size w w':=by
 have hBz : Below w.heap.size w (w.alloc (.cells #[.slice A na ca,.slice B n cb,.int .i64 z] 165)):=(Below.refl _ _).alloc (Nat.le_refl _) _
 have hK:=Blk.new w 165 #[.slice A na ca,.slice B n cb,.int .i64 z]
 have k1:=hK.cell 1
 simp only [zG,zH,zI] at k1
 rcases (by omega : i < 0∨(¬ i < 0∧(n : Int)≤i)∨(0≤i∧i < n)) with h | ⟨h,h2⟩ | ⟨h,h2⟩
 ·have HV : Hid (wOf c i = -1):=Lib.hid (by unfold wOf;rw [if_pos (.inl h)])
  go_enter Tryz.func140,Tryz.ntmps140
  go_wp2
  go_ret
  exact ⟨by rw [HV.out];rfl,hBz⟩
 ·have HV : Hid (wOf c i = -1):=Lib.hid (by unfold wOf;rw [if_pos (.inr (by omega))])
  clear hl
  go_enter Tryz.func140,Tryz.ntmps140
  go_wp2
  go_ret
  exact ⟨by rw [HV.out];rfl,hBz⟩
 ·obtain ⟨k,rfl⟩ : ∃ k : Nat,i = k:=⟨i.toNat,by omega⟩
  have hk : k < n:=by omega
  obtain ⟨q,Hq⟩ : ∃ q,Hid (c[k]? = some q):=⟨_,Lib.hid (List.getElem?_eq_getElem (by omega))⟩
  obtain ⟨b,off,rfl,hc⟩:=hB.atZ Hq.out
  have hc:=cell_keep hc hBz
  have HV : Hid (wOf c (k : Int) = q):=Lib.hid (by rw [wOf_nat (by omega),getD_of Hq.out])
  clear hl
  go_enter Tryz.func140,Tryz.ntmps140
  go_wp2
  go_ret
  exact ⟨by rw [HV.out];rfl,hBz⟩
theorem kon_any (A B : Option Addr) (na ca n cb : Nat) (z : Int) (c : List Int) (i : Nat) (w : World) (hB : Rd w 1 B (c.map encZ)) (hl : c.length = n) (hi : i < n) (hn : n≤3000000) :
  Calls Tryz.prog 141 #[.agg #[.slice A na ca,.slice B n cb,.int .i64 z],.int .i64 i] w fun e w'=>e = .returned (.int .i64 (wOn c i))∧Below w.heap.size w w':=by
 have Hl:=Lib.hid hl
 clear hl
 have hBz : Below w.heap.size w (w.alloc (.cells #[.slice A na ca,.slice B n cb,.int .i64 z] 165)):=(Below.refl _ _).alloc (Nat.le_refl _) _
 have hK:=Blk.new w 165 #[.slice A na ca,.slice B n cb,.int .i64 z]
 have k0:=hK.cell 0
 have k1:=hK.cell 1
 have k2:=hK.cell 2
 simp only [zG,zH,zI] at k0 k1 k2
 have HO:=Lib.hid (fun (j : Nat) (hj : j≤n)=>kof_any A B na ca n cb z c j _ (hB.below hBz) Hl.out (by omega) (by omega))
 go_enter Tryz.func141,Tryz.ntmps141
 go_wp2
 go_loopw [1] (fun v wr=>∃ j : Nat,v = .int .i64 j∧j≤n∧Hid (((c.drop j).dropWhile wHang).head?.getD (-1) = wOn c i)∧wr = w.alloc (.cells #[.slice A na ca,.slice B n cb,.int .i64 z] 165)) (fun v _=>n - (intOf v).toNat)
 case atStart=>exact ⟨i+1,by go_num,by omega,Lib.hid rfl,rfl⟩
 case round =>
  obtain ⟨j,rfl,hj,HW,rfl⟩:=hrel
  by_cases hlt : j < n
  ·obtain ⟨q,Hq⟩ : ∃ q,Hid (c[j]? = some q):=⟨_,Lib.hid (List.getElem?_eq_getElem (by have:=Hl.out;omega))⟩
   have hd : Hid (c.drop j = q :: c.drop (j+1)):=Lib.hid (by
    obtain ⟨h1,h2⟩:=List.getElem?_eq_some_iff.1 Hq.out
    rw [List.drop_eq_getElem_cons h1,h2])
   obtain ⟨b,off,e0,hc⟩:=hB.atZ Hq.out
   have hc:=cell_keep hc hBz
   cases hh : wHang q with
   | true =>
    have HW' : Hid (((c.drop (j+1)).dropWhile wHang).head?.getD (-1) = wOn c i):=Lib.hid (by rw [← HW.out,hd.out,List.dropWhile_cons,hh];rfl)
    subst e0
    go_wp2_with (go_at_call 137;refine (khangs_any _ _).mono ?_;rw [hh];rintro e w' ⟨rfl,rfl⟩)
    go_roundw
    case rel=>exact ⟨j+1,by go_num,by omega,HW',trivial⟩
    case measure=>simp [intOf];omega
   | false =>
    have HV : Hid (wOf c (j : Int) = wOn c i):=Lib.hid (by rw [← HW.out,hd.out,List.dropWhile_cons,hh,wOf_nat (by have:=Hl.out;omega),getD_of Hq.out];rfl)
    have HOj:=Lib.hid (HO.out j hj)
    subst e0
    clear HO
    go_wp2_with (first | (go_at_call 137;refine (khangs_any _ _).mono ?_;rw [hh];rintro e w' ⟨rfl,rfl⟩) | (go_at_call 140;refine HOj.out.mono ?_;rintro e w' ⟨rfl,hb⟩))
    go_ret
    exact ⟨by rw [HV.out];rfl,hBz.trans (hb.mono hBz.size)⟩
  ·obtain rfl : j = n:=by omega
   have HV : Hid (wOf c (j : Int) = wOn c i):=Lib.hid (by
    rw [← HW.out,List.drop_eq_nil_of_le (by have:=Hl.out;omega)]
    unfold wOf
    rw [if_pos (.inr (by have:=Hl.out;omega))];rfl)
   have HOj:=Lib.hid (HO.out j hj)
   clear HO
   go_wp2_with (go_at_call 140;refine HOj.out.mono ?_;rintro e w' ⟨rfl,hb⟩)
   go_ret
   exact ⟨by rw [HV.out];rfl,hBz.trans (hb.mono hBz.size)⟩
def RegAt (c : List Int) (i k : Nat) (x : Int) : Prop:=-1≤x∧(k : Int)+x < i∧∃ f j,x = wBack c j∧j < f∧k+wRegGo c f j = wReg c i
theorem regAt_first (c : List Int) (i : Nat) : RegAt c i 0 (wBack c i):=⟨(wBack_lt c i).2,by have:=(wBack_lt c i).1;omega,i+1,i,rfl,by omega,by rw [Nat.zero_add];rfl⟩
theorem regAt_next {c : List Int} {i k : Nat} {x : Int} (h : RegAt c i k x) (h7 : wOf c x = 7) : ∃ m : Nat,x = m∧m < c.length∧RegAt c i (k+1) (wBack c m):=by
 obtain ⟨h1,h2,f,j,rfl,hf,hk⟩:=h
 have h0 : 0≤wBack c j∧wBack c j < c.length:=by
  unfold wOf at h7
  split at h7
  ·omega
  ·omega
 obtain ⟨m,hm⟩ : ∃ m : Nat,wBack c j = m:=⟨(wBack c j).toNat,by omega⟩
 rw [hm] at h0 h2 h7 ⊢
 cases f with
 | zero=>omega
 | succ f =>
  rw [wRegGo,hm,if_pos h7,Int.toNat_natCast] at hk
  have hl:=(wBack_lt c m)
  have hj:=(wBack_lt c j).1
  exact ⟨m,rfl,by omega,hl.2,by omega,f,m,rfl,by omega,by omega⟩
theorem regAt_end {c : List Int} {i k : Nat} {x : Int} (h : RegAt c i k x) (h7 : wOf c x ≠ 7) : k = wReg c i:=by
 obtain ⟨h1,h2,f,j,rfl,hf,hk⟩:=h
 cases f with
 | zero=>omega
 | succ f=>rw [wRegGo,if_neg h7] at hk;omega
theorem kregions_any (A B : Option Addr) (na ca n cb : Nat) (z : Int) (c : List Int) (i : Nat) (w : World) (hB : Rd w 1 B (c.map encZ)) (hl : c.length = n) (hi : i≤n) (hn : n≤3000000) :
  Calls Tryz.prog 142 #[.agg #[.slice A na ca,.slice B n cb,.int .i64 z],.int .i64 i] w fun e w'=>e = .returned (.int .i64 (wReg c i : Nat))∧Below w.heap.size w w':=by
 have Hl:=Lib.hid hl
 clear hl
 have hBz : Below w.heap.size w (w.alloc (.cells #[.slice A na ca,.slice B n cb,.int .i64 z] 165)):=(Below.refl _ _).alloc (Nat.le_refl _) _
 have hK:=Blk.new w 165 #[.slice A na ca,.slice B n cb,.int .i64 z]
 have HOf:=Lib.hid (fun (j : Int) W (h : Below w.heap.size w W) (hj : -10≤j∧j≤4000000)=>kof_any A B na ca n cb z c j W (hB.below h) Hl.out (by omega) hj)
 have HBk:=Lib.hid (fun (j : Nat) W (h : Below w.heap.size w W) (hj : j≤n)=>kback_any A B na ca n cb z c j W (hB.below h) Hl.out hj (by omega))
 have HR0:=Lib.hid (regAt_first c i)
 have hs0 : w.heap.size < (w.alloc (.cells #[.slice A na ca,.slice B n cb,.int .i64 z] 165)).heap.size:=by simp
 have k0:=hK.cell 0
 have k1:=hK.cell 1
 have k2:=hK.cell 2
 simp only [zG,zH,zI] at k0 k1 k2
 go_enter Tryz.func142,Tryz.ntmps142
 go_wp2_with fail
 refine (HBk.out i _ hBz hi).mono ?_
 generalize wBack c i = x0 at HR0
 rintro e w1 ⟨rfl,hb1⟩
 replace k0:=cell_keep k0 hb1
 replace k1:=cell_keep k1 hb1
 replace k2:=cell_keep k2 hb1
 have hB1:=hBz.trans (hb1.mono hBz.size)
 clear hBz hb1
 go_wp2_with fail
 go_loopw [1,5] (fun u v wr=>∃ (x : Int) (k : Nat),u = .int .i64 x∧v = .int .i64 k∧Hid (RegAt c i k x)∧Below w.heap.size w wr∧wr.cell? ⟨w.heap.size,0,none⟩ = some (.slice A na ca)∧wr.cell? ⟨w.heap.size,1,none⟩ = some (.slice B n cb)∧wr.cell? ⟨w.heap.size,2,none⟩ = some (.int .i64 z)) (fun u _ _=>(intOf u+1).toNat)
 case atStart=>exact ⟨_,0,rfl,rfl,HR0,hB1,k0,k1,k2⟩
 case round =>
  clear k0 k1 k2 hB1
  obtain ⟨x,k,rfl,rfl,HR,hb,k0,k1,k2⟩:=hrel
  have hx1:=HR.out.1
  have hx2:=HR.out.2.1
  have HOx:=Lib.hid (HOf.out x wr hb (by omega))
  by_cases h7 : wOf c x = 7
  ·rw [h7] at HOx
   obtain ⟨m,rfl,hm,hR'⟩:=regAt_next HR.out h7
   have HR':=Lib.hid hR'
   have hm2 : m≤n:=by have:=Hl.out;omega
   clear hR' h7 hm HR
   have hx3:=HR'.out.1
   have hx4:=HR'.out.2.1
   go_wp2_with fail
   refine HOx.out.mono ?_
   rintro e w2 ⟨rfl,hb2⟩
   replace k0:=cell_keep k0 hb2
   replace k1:=cell_keep k1 hb2
   replace k2:=cell_keep k2 hb2
   have hbb:=below_step hb hb2 hb.size
   go_wp2_with fail
   refine (HBk.out m w2 hbb hm2).mono ?_
   have hlt : wBack c m < (m : Int):=(wBack_lt c m).1
   generalize wBack c m = y at HR' hx3 hx4 hlt
   rintro e w3 ⟨rfl,hb3⟩
   replace k0:=cell_keep k0 hb3
   replace k1:=cell_keep k1 hb3
   replace k2:=cell_keep k2 hb3
   have hbc:=below_step hbb hb3 hbb.size
   go_wp2
   go_roundw
   case rel=>exact ⟨y,k+1,rfl,by go_num,HR',hbc,k0,k1,k2⟩
   case measure=>simp [intOf];omega
  ·have HV : Hid (k = wReg c i):=Lib.hid (regAt_end HR.out h7)
   have e7 : (wOf c x == 7) = false:=beq_eq_false_iff_ne.2 h7
   clear h7
   generalize wOf c x = y at HOx e7
   go_wp2_with fail
   refine HOx.out.mono ?_
   rintro e w2 ⟨rfl,hb2⟩
   go_wp2
   go_ret
   exact ⟨by rw [HV.out];rfl,below_step hb hb2 hb.size⟩
end
section
end
end Go.Proofs.YtlfpdpbbkjnapaaGreatDoor
/- -/
namespace Go.Proofs.YtlfpdpbbkjnapaaGreatDoor
set_option maxRecDepth 100000
set_option maxHeartbeats 40000000
section
section
variable {A B : List Int} {e : Int}
end
end
section
end
end Go.Proofs.YtlfpdpbbkjnapaaGreatDoor
/- -/
namespace Go.Proofs.YtlfpdpbbkjnapaaGreatDoor
set_option maxRecDepth 100000
set_option maxHeartbeats 40000000
section
end
section
open Go.RowKit
section
variable {P : Program} {F : Fence} {n : Nat}
theorem rngH {α : Type} {g : Operand} {ps : Array Tmp} {assign body : Code} {Q : Exit→Act→World→Prop} {a : Act} {w : World}
  (hro : F.round = none) (h1 : 1≤n) {gf : Nat} {lb : Array Value} (hg : a.eval g = .func (.func gf) #[] lb) (hFg : F.fn gf) (eg : ∀ args w,(callFunc gf args).run P w = .ok (.enter gf args) w)
  {encs : α→Array Value} {Kp : World→World→Prop} {S Sp : List α→Prop} {N : Nat} {w0 : World} (hseq : SeqStopsK F (n - 1) P gf lb encs Kp S Sp N w0)
  (hKt : ∀ {A B C : World},Kp A B→Kp B C→Kp A C) (hKb : ∀ (W : World) (l : Nat) (o o' : Obj),w.heap.size≤l→W.heap[l]? = some o→o.isCells = false→o.isWalk = false→Kp W (W.putObj l o')) (hb0 : Below w0.heap.size w0 w) (hps : ∀ x,(encs x).size = ps.size) (hKr : ∀ W,Kp W W)
  (I : List α→World→Prop) (Ix : Code→List α→World→Prop) (hI : OwnFrom w.heap.size I) (hIx : ∀ c,OwnFrom w.heap.size (Ix c)) (h0 : I [] w) (f : Array Value→α→Array Value)
  (hassign : ∀ (l : Nat) (x : α) (W : World) (K : Act→World→Prop),K { tmps:=f a.tmps x,defers:=[] } W →
   assign.wpIn (F.inRound l) (n - 1 - 1) P (Exit.then K (fun _ _ _=>False)) { tmps:=(ps.zip (encs x)).foldl (fun t (p,v)=>t.setIfInBounds p v) a.tmps,defers:=[] } W)
  (hbody : ∀ (l : Nat) (pre : List α) (x : α) (W : World),w.heap.size≤l→(∃ r,W.heap[l]? = some (.loop r))→I pre W→pre.length < N→body.wpIn (F.inRound l) (n - 1 - 1) P (ownPostG w.heap.size Kp I Ix (pre++[x]) W) { tmps:=f a.tmps x,defers:=[] } W)
  (hdone : ∀ (D : Nat) (xs : List α) (W : World),w.heap.size≤D→S xs→I xs W→W.heap[D]? = some (.deferred (some []))→Q .normal { a with defers:={ target:=.collected D,args:=#[] } :: a.defers } W)
  (hstop : ∀ (D : Nat) (c : Code) (pre : List α) (W : World),w.heap.size≤D→Sp pre→Ix c pre W→W.heap[D]? = some (.deferred (some []))→c.wpIn F n P Q { a with defers:={ target:=.collected D,args:=#[] } :: a.defers } W) :
  (Code.rangeFunc g ps assign body).wpIn F n P Q a w :=
 wpIn_rangeFunc_ownH hro h1 hg hFg eg hseq (fun h k=>hKt h k) hKb hb0 hps I Ix hI hIx h0 (fun x a' _=>a' = { tmps:=f a.tmps x,defers:=[] }) (fun _ _ _ _ _ _ hs _ _=>hs)
  (fun l _ x W K hi hK=>hassign l x W K (hK _ _ (KeepsFrom.refl _ _) (hKr W) hi rfl)) (fun l pre x a' W hl hr hi e=>by subst e;exact hbody l pre x W hl hr hi) hdone hstop
end
end
section
open Go.RowKit
section
variable {P : Program}
end
end
section
open Go.RowKit
section
variable {P : Program} {F : Fence} {n : Nat} {α : Type}
variable {encs : α→Array Value} {Kp : World→World→Prop} {I : List α→World→Prop} {Ix : Code→List α→World→Prop} {ps : Array Tmp} {assign body : Code}
variable {g : Operand} {Q : Exit→Act→World→Prop} {a : Act} {w : World}
end
end
section
open Go Go.RowKit
section
variable {P : Program} {Q : Exit→Act→World→Prop} {l n : Nat}
end
end
section
open Go.RowKit
end
section
end
end Go.Proofs.YtlfpdpbbkjnapaaGreatDoor
/- -/
namespace Go.Proofs.YtlfpdpbbkjnapaaGreatDoor
set_option maxRecDepth 100000
set_option maxHeartbeats 40000000
section
open Go Go.RowKit
section
variable {P : Program} {Q : Exit→Act→World→Prop} {l₀ n : Nat}
end
end
end Go.Proofs.YtlfpdpbbkjnapaaGreatDoor
