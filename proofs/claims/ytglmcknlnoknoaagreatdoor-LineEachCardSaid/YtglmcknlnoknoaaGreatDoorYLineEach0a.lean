/-
 Several texts in one,in their build order: RunD,RunT,Ue,Rng,AppIn,RngC,Ge,Each,Kt,LinT,LinU,WorT,Tz,LeA,Kc,Kd,Kf,Kg,Wl,Wq,Rgn,Wr,Ws,Wt,ZfA,Rgq,LeB.
-/
import Derived.RangeFuncNested
import Derived.RangeFuncBound
import Derived.RangeFuncCalls
import Derived.RangeFuncLeaves
import Derived.Shelf.Abstract
import Derived.Shelf.RegionOpen
import Derived.OwnWalkIn
import Derived.TacticsInMore
import Derived.LoopNIn
import Derived.LoopIn
import Derived.RangeFuncKeeps
import Derived.Deep.CutRange
import Derived.Deep.RegionHeld3
import Derived.CallsIn
import Derived.OrdersIn
import Derived.Laws.EntriesVeiled
import Derived.Deep.QuietTactic
import Derived.BigQuiet
import Derived.Test.YtglmcknlnoknoaaGreatDoorV2a
import Derived.Test.YtglmcknlnoknoaaGreatDoorV1a
import Derived.Test.YtglmcknlnoknoaaGreatDoorV0a
import Derived.Test.YtglmcknlnoknoaaGreatDoorV0b
import Derived.Test.YtglmcknlnoknoaaGreatDoorV5a
import Derived.Test.YtglmcknlnoknoaaGreatDoorVTzA
import Derived.Test.YtglmcknlnoknoaaGreatDoorV3a
import Derived.Test.YtglmcknlnoknoaaGreatDoorVWc
import Derived.Test.YtglmcknlnoknoaaGreatDoorV9a
import Derived.Test.YtglmcknlnoknoaaGreatDoorV5b
/- -/
namespace Go.Proofs.YtglmcknlnoknoaaGreatDoor
set_option maxRecDepth 100000
set_option maxHeartbeats 40000000
section
open Go.RowKit
end
section
open Go.RowKit Go.Shelf
attribute [local go_sem] Oper.semAt_some
structure Mid (m n : Nat) (W W' : World) : Prop where
 size : W.heap.size≤W'.heap.size
 block : ∀ k,m≤k→k < n→W'.heap[k]? = W.heap[k]?
def Kp (m n : Nat) (W W' : World) : Prop:=Mid m n W W'∧KeepsWalks W W'
theorem grown_of_below {w w' : World} (h : RowKit.Below w.heap.size w w') : w.grownBy w' none:=⟨h.os,h.tape,h.output,h.size,fun k hk _=>h.block k hk⟩
theorem abides_below {β : Type} {B : Nat} {J : β→World→Prop} (h : AbidesFrom B J) {x : β} {w w' : World} (hx : J x w) (hb : RowKit.Below w.heap.size w w') : J x w':=h x w w' none hx (grown_of_below hb) (fun _ e=>by cases e)
section
variable {s : ByteArray} {set : List (Int × Int)} {f p : Nat} {cur : Option Nat} {pre : List (Nat × Nat)} {R W : Nat}
end
theorem not_row {w : World} {row : Option Nat} {b : Nat} {o : Obj} (hb : w.heap[b]? = some o) (hc : o.isCells = true) (hr : ∀ r,row = some r→∃ o : Obj,w.heap[r]? = some o∧o.isCells = false) : some b ≠ row:=by
 rintro rfl
 obtain ⟨o',h1,h2⟩:=hr b rfl
 rw [hb] at h1;cases h1;rw [hc] at h2;cases h2
theorem Blk.kept {w w' : World} {row : Option Nat} {g : Nat} {t : TypeId} {cs : Array Value} (h : Blk w g t cs) (hg : w.grownBy w' row) (hr : ∀ r,row = some r→∃ o : Obj,w.heap[r]? = some o∧o.isCells = false) : Blk w' g t cs:=h.grown hg (not_row h rfl hr)
end
section
open Go.RowKit Go.Shelf
attribute [local go_sem] Oper.semAt_some
end
section
open Go.RowKit
section
variable {P : Program} {F : Fence} {n : Nat}
theorem rngH {α : Type} {g : Operand} {ps : Array Tmp} {assign body : Code} {Q : Exit→Act→World→Prop} {a : Act} {w : World}
  (hro : F.round = none) (h1 : 1≤n) {gf : Nat} {lb : Array Value} (hg : a.eval g = .func (.func gf) #[] lb) (hFg : F.fn gf) (eg : ∀ args w,(callFunc gf args).run P w = .ok (.enter gf args) w)
  {encs : α→Array Value} {Kp : World→World→Prop} {S Sp : List α→Prop} {N : Nat} {w0 : World} (hseq : SeqStopsK F (n - 1) P gf lb encs Kp S Sp N w0)
  (hKt : ∀ {A B C : World},Kp A B→Kp B C→Kp A C) (hKb : ∀ (W : World) (l : Nat) (o o' : Obj),w.heap.size≤l→W.heap[l]? = some o→o.isCells = false→o.isWalk = false→Kp W (W.putObj l o')) (hb0 : Below w0.heap.size w0 w) (hps : ∀ x,(encs x).size = ps.size) (hKr : ∀ W,Kp W W)
  (I : List α→World→Prop) (Ix : Code→List α→World→Prop) (hI : OwnFrom w.heap.size I) (hIx : ∀ c,OwnFrom w.heap.size (Ix c)) (h0 : I [] w) (f : Array Value→α→Array Value)
  (hassign : ∀ (l : Nat) (x : α) (W : World) (K : Act→World→Prop),K { tmps:=f a.tmps x,defers:=[] } W →
   assign.wpIn (F.inRound l) (n - 1 - 1) P (Exit.then K (fun _ _ _=>False)) { tmps:=(ps.zip (encs x)).foldl (fun t (p,v)=>t.setIfInBounds p v) a.tmps,defers:=[] } W)
  (hbody : ∀ (l : Nat) (pre : List α) (x : α) (W : World),w.heap.size≤l→(∃ r,W.heap[l]? = some (.loop r))→I pre W→pre.length < N→body.wpIn (F.inRound l) (n - 1 - 1) P (ownPostG w.heap.size Kp I Ix (pre++[x]) W) { tmps:=f a.tmps x,defers:=[] } W)
  (hdone : ∀ (D : Nat) (xs : List α) (W : World),w.heap.size≤D→S xs→I xs W→W.heap[D]? = some (.deferred (some []))→Q .normal { a with defers:={ target:=.collected D,args:=#[] } :: a.defers } W)
  (hstop : ∀ (D : Nat) (c : Code) (pre : List α) (W : World),w.heap.size≤D→Sp pre→Ix c pre W→W.heap[D]? = some (.deferred (some []))→c.wpIn F n P Q { a with defers:={ target:=.collected D,args:=#[] } :: a.defers } W) :
  (Code.rangeFunc g ps assign body).wpIn F n P Q a w :=
 wpIn_rangeFunc_ownH hro h1 hg hFg eg hseq (fun h k=>hKt h k) hKb hb0 hps I Ix hI hIx h0 (fun x a' _=>a' = { tmps:=f a.tmps x,defers:=[] }) (fun _ _ _ _ _ _ hs _ _=>hs)
  (fun l _ x W K hi hK=>hassign l x W K (hK _ _ (KeepsFrom.refl _ _) (hKr W) hi rfl)) (fun l pre x a' W hl hr hi e=>by subst e;exact hbody l pre x W hl hr hi) hdone hstop
end
end
section
open Go.RowKit
section
variable {P : Program}
end
end
section
open Go.RowKit
section
variable {P : Program} {F : Fence} {n : Nat} {α : Type}
variable {encs : α→Array Value} {Kp : World→World→Prop} {I : List α→World→Prop} {Ix : Code→List α→World→Prop} {ps : Array Tmp} {assign body : Code}
variable {g : Operand} {Q : Exit→Act→World→Prop} {a : Act} {w : World}
end
end
section
open Go.RowKit Go.Shelf
attribute [local go_sem] Oper.semAt_some
end
section
open Go.RowKit Go.Shelf
attribute [local go_sem] Oper.semAt_some
end
section
open Go Go.RowKit
def KT (t : TypeId) (X : Nat→Prop) (W W' : World) : Prop:=W.heap.size≤W'.heap.size∧∀ (k : Nat) (cur : Array Value) (fz : Nat × Nat),¬ X k→W.heap[k]? = some (.cells cur t fz)→W'.heap[k]? = some (.cells cur t fz)
theorem Rd.atQ {w : World} {A : Option Addr} {l : List Nat} {k x : Nat} (h : Rd w 1 A (l.map fun a=>[.int .i64 (a : Nat)])) (hk : l[k]? = some x) : ∃ b off,A = some ⟨b,off,none⟩∧w.cell? ⟨b,off+k,none⟩ = some (.int .i64 (x : Nat)):=by
 obtain ⟨b,off,rfl,hc⟩:=h (by intro e;have:=congrArg List.length e;rw [List.length_map] at this;have h2:=(List.getElem?_eq_some_iff.1 hk).1;simp at this;rw [this] at h2;simp at h2)
 have h0:=hc k 0 [.int .i64 (x : Nat)] (.int .i64 (x : Nat)) (by simp [hk]) rfl
 refine ⟨b,off,rfl,?_⟩
 simpa using h0
theorem Rd.manyQ (W : World) (t : TypeId) (s : Nat) (cs : List (List Value)) (arr : Array Value) (harr : arr = cs.flatten.toArray) (h : ∀ x ∈ cs,x.length = s) : Rd (W.alloc (.cells arr t)) s (some ⟨W.heap.size,0,none⟩) cs:=fun _ =>
 ⟨W.heap.size,0,rfl,fun k j x u hx hu=>by
  subst harr
  rw [(Blk.new W t cs.flatten.toArray).cell (0+k*s+j),zG,Nat.zero_add]
  exact flatten_get h hx hu⟩
section
variable {t : TypeId} {X : Nat→Prop} {A B C : World}
theorem KT.refl (t : TypeId) (X : Nat→Prop) (W : World) : KT t X W W:=⟨Nat.le_refl _,fun _ _ _ _ h=>h⟩
theorem KT.trans (h : KT t X A B) (k : KT t X B C) : KT t X A C:=⟨Nat.le_trans h.1 k.1,fun i c z hx hc=>k.2 i c z hx (h.2 i c z hx hc)⟩
theorem KT.put (W : World) (l : Nat) (o o' : Obj) (h : W.heap[l]? = some o) (hc : o.isCells = false) : KT t X W (W.putObj l o') :=
 ⟨by simp,fun k c z _ hk=>by
  by_cases e : k = l
  ·subst e;rw [h] at hk;cases hk;cases hc
  ·exact (World.putObj_heap_other e).trans hk⟩
theorem KT.below (h : Below A.heap.size A B) : KT t X A B:=⟨h.size,fun k _ _ _ hk=>(h.block k (Array.getElem?_eq_some_iff.1 hk).1).trans hk⟩
theorem KT.own {base : Nat} {s : Nat} {P : Option Addr} {n c : Nat} {cs : List (List Value)} (h : KT t X A B) (ho : Own A base t s P n c cs) (hX : ∀ b,X b→b < base) : Own B base t s P n c cs:=by
 refine ho.keep fun a ha=>?_
 rcases ho.2.2.2 with ⟨h0,_⟩ | ⟨g,cap,cur,hv,hg,hh,_⟩
 ·injection h0 with h0;rw [h0] at ha;cases ha
 ·injection hv with hv
  rw [hv] at ha
  injection ha with ha
  subst ha
  exact (h.2 _ _ _ (fun hx=>by have:=hX _ hx;omega) hh).trans hh.symm
theorem KT.blk (h : KT t X A B) {g : Nat} {cs : Array Value} (hB : Blk A g t cs) (hx : ¬ X g) : Blk B g t cs:=h.2 g cs (0,0) hx hB
theorem KT.setCell {b : Nat} {t' : TypeId} {cs : Array Value} (hB : Blk A b t' cs) (ht : t' ≠ t) (i : Nat) (u : Value) : KT t X A (A.setCell ⟨b,i,none⟩ u) :=
 ⟨by simp [World.setCell],fun k cur fz _ hk=>(Below.heap_setCell A ⟨b,i,none⟩ u k (fun e=>by
  subst e
  have h2 : A.heap[k]? = some _:=hB
  rw [h2] at hk
  injection hk with hk
  injection hk with _ hk
  exact ht hk)).trans hk⟩
end
end
section
theorem lPick_mem {c : List Int} {a : Nat} {b : Bool} : ∀ {P : List Nat} {i : Nat},(a,b) ∈ lPick c i P ↔ ∃ k,P[k]? = some a∧i+k ≠ 0∧lCut c (i+k) = true∧b = lMust (c.getD (i+k - 1) 0)
 | [],i=>by simp [lPick]
 | d :: P,i=>by
  rw [lPick,List.mem_append,lPick_mem (P:=P)]
  constructor
  ·rintro (h | ⟨k,h1,h2,h3,h4⟩)
   ·split at h
    ·rename_i hc
     simp only [List.mem_singleton,Prod.mk.injEq] at h
     exact ⟨0,by simp [h.1],hc.1,hc.2,h.2⟩
    ·simp at h
   ·refine ⟨k+1,by simpa using h1,by omega,?_,?_⟩
    ·rw [show i+(k+1) = i+1+k by omega];exact h3
    ·rw [show i+(k+1) - 1 = i+1+k - 1 by omega];exact h4
  ·rintro ⟨k,h1,h2,h3,h4⟩
   cases k with
   | zero =>
    simp at h1;subst h1
    exact .inl (by rw [if_pos ⟨h2,h3⟩,h4];exact List.mem_singleton.2 rfl)
   | succ k =>
    refine .inr ⟨k,by simpa using h1,by omega,?_,?_⟩
    ·rw [show i+1+k = i+(k+1) by omega];exact h3
    ·rw [show i+1+k - 1 = i+(k+1) - 1 by omega];exact h4
theorem lInj (s : ByteArray) {k j : Nat} {x y : Nat × Nat × Nat} (hk : (runesP s)[k]? = some x) (hj : (runesP s)[j]? = some y) (h : x.2.1 = y.2.1) : k = j:=by
 have hr:=List.pairwise_iff_getElem.1 (runes_rise' s)
 obtain ⟨h1,rfl⟩:=List.getElem?_eq_some_iff.1 hk
 obtain ⟨h2,rfl⟩:=List.getElem?_eq_some_iff.1 hj
 rcases Nat.lt_trichotomy k j with hlt | he | hgt
 ·have:=hr k j h1 h2 hlt;omega
 ·exact he
 ·have:=hr j k h2 h1 hgt;omega
theorem lChances_at {g : Int→Nat} {s : ByteArray} {k : Nat} {x : Nat × Nat × Nat} (hx : (runesP s)[k]? = some x) (b : Bool) : (x.2.1,b) ∈ lChances g s ↔ k ≠ 0∧lCut (lCls g s) k = true∧b = lMust ((lCls g s).getD (k - 1) 0):=by
 have hb:=runesP_bd x (List.mem_of_getElem? hx)
 unfold lChances
 rw [List.mem_append]
 constructor
 ·rintro (h | h)
  ·obtain ⟨j,h1,h2,h3,h4⟩:=lPick_mem.1 h
   rw [List.getElem?_map] at h1
   obtain ⟨y,hy,e⟩:=Option.map_eq_some_iff.1 h1
   have:=lInj s hx hy e.symm
   subst this
   rw [Nat.zero_add] at h2 h3 h4
   exact ⟨h2,h3,h4⟩
  ·split at h
   ·simp at h
   ·simp at h;omega
 ·rintro ⟨h2,h3,h4⟩
  exact .inl (lPick_mem.2 ⟨k,by rw [List.getElem?_map,hx];rfl,by rw [Nat.zero_add];exact ⟨h2,h3,h4⟩⟩)
theorem line_inside {g : Int→Nat} {s : ByteArray} {a b : Nat} (hab : a≤b) (ha : PlaceAt s a) (hb : PlaceAt s b) (hno : ∀ p,a < p→p < b→(p,true) ∉ lChances g s) {i : Nat} {p q : Int} (hp : (lCls g (s.extract a b))[i]? = some p) (hq : (lCls g (s.extract a b))[i+1]? = some q) :
  p ≠ 1∧p ≠ 3∧(p = 2→q = 3∧i+2 = (lCls g (s.extract a b)).length):=by
 obtain ⟨P,Q,hPQ,hP,hQ⟩:=runes_sub s hab ha hb
 have hbz:=hb.le
 have ht : (s.extract a b).size = b - a:=by rw [ByteArray.size_extract];omega
 have hcs : lCls g s = P.map (fun x=>(g x.1 : Int))++lCls g (s.extract a b)++Q.map (fun x=>(g x.1 : Int)):=by
  unfold lCls
  rw [hPQ,List.map_append,List.map_append,List.map_map];rfl
 have hget : ∀ k (v : Int),(lCls g (s.extract a b))[k]? = some v→(lCls g s).getD (P.length+k) 0 = v:=fun k v hk=>by
  have hlt:=(List.getElem?_eq_some_iff.1 hk).1
  rw [hcs,List.getD_eq_getElem?_getD,List.append_assoc,List.getElem?_append_right (by rw [List.length_map];omega),List.length_map,Nat.add_sub_cancel_left,List.getElem?_append_left hlt,hk];rfl
 have hin : ∀ k,0 < k→k < (lCls g (s.extract a b)).length→¬ (lCut (lCls g s) (P.length+k) = true∧lMust ((lCls g s).getD (P.length+k - 1) 0) = true):=fun k hk0 hk hc=>by
  rw [lCls_len] at hk
  have hx : (runesP s)[P.length+k]? = some (shR a (runesP (s.extract a b))[k]):=by
   rw [hPQ,List.append_assoc,List.getElem?_append_right (by omega),Nat.add_sub_cancel_left,List.getElem?_append_left (by rw [List.length_map];exact hk),List.getElem?_map,List.getElem?_eq_getElem hk];rfl
  have hb2:=runesP_bd _ (List.getElem_mem hk)
  have h0 : (runesP (s.extract a b))[0].2.1 < (runesP (s.extract a b))[k].2.1:=List.pairwise_iff_getElem.1 (runes_rise' _) 0 k (by omega) hk hk0
  refine hno (shR a (runesP (s.extract a b))[k]).2.1 (by simp only [shR];omega) (by simp only [shR];omega) ?_
  exact (lChances_at hx true).2 ⟨by omega,hc.1,hc.2.symm⟩
 have hlq:=(List.getElem?_eq_some_iff.1 hq).1
 have gp:=hget i p hp
 have gq:=hget (i+1) q hq
 have step : lMust p = true→p = 2∧q = 3:=fun hm=>by
  have hc:=lCut_end (c:=lCls g s) (i:=P.length+i) (by rw [gp];exact hm)
  have gq' : (lCls g s).getD (P.length+i+1) 0 = q:=gq
  rw [gp,gq'] at hc
  by_cases h23 : p = 2∧q = 3
  ·exact h23
  ·exfalso
   rw [decide_eq_false h23] at hc
   exact hin (i+1) (by omega) hlq ⟨hc,by rw [show P.length+(i+1) - 1 = P.length+i by omega,gp];exact hm⟩
 refine ⟨fun h=>?_,fun h=>?_,fun h=>?_⟩
 ·have:=step (by rw [h];rfl);omega
 ·have:=step (by rw [h];rfl);omega
 ·obtain ⟨_,hq3⟩:=step (by rw [h];rfl)
  refine ⟨hq3,?_⟩
  rcases Nat.lt_or_ge (i+2) (lCls g (s.extract a b)).length with hlt | hge
  ·exfalso
   have hc:=lCut_end (c:=lCls g s) (i:=P.length+(i+1)) (by rw [gq,hq3];rfl)
   rw [gq,decide_eq_false (by omega)] at hc
   exact hin (i+2) (by omega) hlt ⟨hc,by rw [show P.length+(i+2) - 1 = P.length+(i+1) by omega,gq,hq3];rfl⟩
  ·omega
end
section
def linP (f : Nat) : List (Nat × Bool)→List (Nat × Nat)
 | []=>[]
 | (a,m) :: r=>if m then (f,a) :: linP a r else linP f r
theorem linP_mem : ∀ (L : List (Nat × Bool)) (f : Nat),(∀ y ∈ L,f < y.1)→L.Pairwise (fun x y=>x.1 < y.1)→∀ x ∈ linP f L,
  f≤x.1∧x.1 < x.2∧(x.1 = f∨(x.1,true) ∈ L)∧(x.2,true) ∈ L∧∀ p,x.1 < p→p < x.2→(p,true) ∉ L
 | [],_,_,_,x,h=>by simp [linP] at h
 | (a,m) :: r,f,hf,hp,x,h=>by
  rw [List.pairwise_cons] at hp
  have hfa : f < a:=hf (a,m) (by simp)
  rw [linP] at h
  cases m with
  | true =>
   rw [if_pos rfl] at h
   rcases List.mem_cons.1 h with rfl | h
   ·refine ⟨Nat.le_refl _,hfa,.inl rfl,by simp,fun p h1 h2 hm=>?_⟩
    rcases List.mem_cons.1 hm with e | hm
    ·injection e with e _;omega
    ·have:=hp.1 _ hm;simp only at this;omega
   ·obtain ⟨h1,h2,h3,h4,h5⟩:=linP_mem r a (fun y hy=>hp.1 y hy) hp.2 x h
    refine ⟨by omega,h2,.inr ?_,List.mem_cons_of_mem _ h4,fun p h6 h7 hm=>?_⟩
    ·rcases h3 with h3 | h3
     ·rw [h3];simp
     ·exact List.mem_cons_of_mem _ h3
    ·rcases List.mem_cons.1 hm with e | hm
     ·injection e with e _;omega
     ·exact h5 p h6 h7 hm
  | false =>
   rw [if_neg (by decide)] at h
   obtain ⟨h1,h2,h3,h4,h5⟩:=linP_mem r f (fun y hy=>hf y (List.mem_cons_of_mem _ hy)) hp.2 x h
   refine ⟨h1,h2,h3.imp id (List.mem_cons_of_mem _),List.mem_cons_of_mem _ h4,fun p h6 h7 hm=>?_⟩
   rcases List.mem_cons.1 hm with e | hm
   ·injection e with _ e;cases e
   ·exact h5 p h6 h7 hm
def lastP (f : Nat) (pre : List (Nat × Nat)) : Nat:=((pre.getLast?).map fun x=>x.2).getD f
theorem lastP_cons (f : Nat) (x : Nat × Nat) (pre : List (Nat × Nat)) : lastP f (x :: pre) = lastP x.2 pre:=by
 unfold lastP
 cases pre with
 | nil=>rfl
 | cons y r =>
  rw [List.getLast?_cons_cons]
  cases h : (y :: r).getLast? with
  | none=>simp at h
  | some z=>rfl
theorem linP_next : ∀ (L : List (Nat × Bool)) (f : Nat) (pre : List (Nat × Nat)) (x : Nat × Nat),pre++[x] <+: linP f L→x.1 = lastP f pre
 | [],f,pre,x,h=>by
  have:=h.length_le
  simp [linP] at this
 | (a,m) :: r,f,pre,x,h=>by
  rw [linP] at h
  cases m with
  | true =>
   rw [if_pos rfl] at h
   cases pre with
   | nil =>
    obtain ⟨t,ht⟩:=h
    simp at ht
    rw [ht.1];rfl
   | cons y pre =>
    obtain ⟨t,ht⟩:=h
    simp only [List.cons_append] at ht
    injection ht with h1 h2
    rw [lastP_cons,h1]
    exact linP_next r a pre x ⟨t,h2⟩
  | false =>
   rw [if_neg (by decide)] at h
   exact linP_next r f pre x h
theorem linP_snoc (L : List (Nat × Bool)) (k : Nat) {a : Nat} {m : Bool} (h : L[k]? = some (a,m)) : L.drop k = (a,m) :: L.drop (k+1):=by
 rw [List.drop_eq_getElem_cons (List.getElem?_eq_some_iff.1 h).1,(List.getElem?_eq_some_iff.1 h).2]
theorem chances_rise (g : Int→Nat) (s : ByteArray) : (lChances g s).Pairwise (fun x y=>x.1 < y.1)∧(∀ y ∈ lChances g s,0 < y.1)∧∀ y ∈ lChances g s,PlaceAt s y.1:=by
 have hsub : ∀ (c : List Int) (P : List Nat) (i : Nat),List.Sublist ((lPick c i P).map fun x=>x.1) P:=by
  intro c P
  induction P with
  | nil=>intro i;simp [lPick]
  | cons a r ih =>
   intro i
   rw [lPick,List.map_append]
   split
   ·exact (ih (i+1)).cons_cons a
   ·exact (ih (i+1)).cons a
 have h1 : ((runesP s).map (fun x=>x.2.1)).Pairwise (· < ·):=by
  rw [List.pairwise_map];exact runes_rise' s
 have h2:=h1.sublist (hsub (lCls g s) _ 0)
 rw [List.pairwise_map] at h2
 have h3 : ∀ y ∈ lPick (lCls g s) 0 ((runesP s).map (fun x=>x.2.1)),0 < y.1∧y.1 < s.size∧PlaceAt s y.1:=fun y hy=>by
  obtain ⟨k,e1,e2,_,_⟩:=(lPick_mem (a:=y.1) (b:=y.2)).1 hy
  rw [List.getElem?_map] at e1
  obtain ⟨x,hx,e⟩:=Option.map_eq_some_iff.1 e1
  have hm:=List.mem_of_getElem? hx
  have hb:=runesP_bd x hm
  have hk:=(List.getElem?_eq_some_iff.1 hx).1
  have hlt : (runesP s)[0].2.1 < (runesP s)[k].2.1:=List.pairwise_iff_getElem.1 (runes_rise' s) 0 k (by omega) hk (by omega)
  rw [(List.getElem?_eq_some_iff.1 hx).2] at hlt
  exact ⟨by omega,by omega,.inr ⟨x,hm,e⟩⟩
 unfold lChances
 refine ⟨?_,fun y hy=>?_,fun y hy=>?_⟩
 ·rw [List.pairwise_append]
  refine ⟨h2,?_,fun x hx y hy=>?_⟩
  ·split
   ·exact List.Pairwise.nil
   ·exact List.pairwise_singleton _ _
  ·split at hy
   ·simp at hy
   ·rw [List.mem_singleton] at hy
    subst hy
    exact (h3 x hx).2.1
 ·rcases List.mem_append.1 hy with h | h
  ·exact (h3 y h).1
  ·split at h
   ·simp at h
   ·rw [List.mem_singleton] at h;subst h;simp only;omega
 ·rcases List.mem_append.1 hy with h | h
  ·exact (h3 y h).2.2
  ·split at h
   ·simp at h
   ·rw [List.mem_singleton] at h;subst h;exact .inl rfl
def linesP (g : Int→Nat) (s : ByteArray) : List (Nat × Nat):=linP 0 (lChances g s)
theorem lines_in {g : Int→Nat} {s : ByteArray} {x : Nat × Nat} (hx : x ∈ linesP g s) : x.1 < x.2∧x.2≤s.size ∧
  ∀ (i : Nat) (p q : Int),(lCls g (s.extract x.1 x.2))[i]? = some p→(lCls g (s.extract x.1 x.2))[i+1]? = some q→p ≠ 1∧p ≠ 3∧(p = 2→q = 3∧i+2 = (lCls g (s.extract x.1 x.2)).length):=by
 obtain ⟨h1,h2,h3⟩:=chances_rise g s
 obtain ⟨_,k2,k3,k4,k5⟩:=linP_mem _ 0 h2 h1 x hx
 have hb:=h3 _ k4
 have ha : PlaceAt s x.1:=by
  rcases k3 with k3 | k3
  ·rw [k3]
   rcases Nat.eq_zero_or_pos s.size with h0 | h0
   ·exact .inl h0.symm
   ·have hc:=runesP_contig s
    cases hr : runesP s with
    | nil=>rw [hr] at hc;have : 0 = s.size:=hc;omega
    | cons y r=>rw [hr] at hc;exact .inr ⟨y,by rw [hr];simp,hc.1⟩
  ·exact h3 _ k3
 exact ⟨k2,hb.le,fun i p q hp hq=>line_inside (Nat.le_of_lt k2) ha hb k5 hp hq⟩
end
section
def clP (s : ByteArray) (x : Nat × Nat) : Nat × Nat:=if x.1≤x.2∧x.2≤s.size then x else (0,0)
theorem clP_in {s : ByteArray} {x : Nat × Nat} (h : x.1≤x.2∧x.2≤s.size) : clP s x = x:=if_pos h
end
section
open Go.RowKit Go.Shelf
attribute [local go_sem] Oper.semAt_some
def encLn (s : ByteArray) (x : Nat × Nat) : Array Value:=#[.int .i64 ((clP s x).1 : Nat),.int .i64 ((clP s x).2 : Nat)]
theorem linP_len : ∀ (L : List (Nat × Bool)) (f : Nat),(linP f L).length≤L.length
 | [],_=>by simp [linP]
 | (a,m) :: r,f=>by
  rw [linP]
  split
  ·have:=linP_len r a;simp only [List.length_cons];omega
  ·have:=linP_len r f;simp only [List.length_cons];omega
theorem chances_len' (s : ByteArray) : (lChances gL s).length≤s.size+1:=by
 have h1 : ∀ (c : List Int) (P : List Nat) (i : Nat),(lPick c i P).length≤P.length:=fun c P=>by
  induction P with
  | nil=>intro i;simp [lPick]
  | cons a r ih=>intro i;rw [lPick,List.length_append];have:=ih (i+1);split <;> simp <;> omega
 unfold lChances
 rw [List.length_append]
 have h2:=h1 (lCls gL s) ((runesP s).map (·.2.1)) 0
 rw [List.length_map] at h2
 have h3:=runesP_len s
 have h4 : (if s.size = 0 then [] else [(s.size,true)] : List (Nat × Bool)).length≤1:=by split <;> simp
 omega
theorem tLines_any (s : ByteArray) (w : World) : Calls Tryz.prog 38 #[.string s] w fun e w'=>∃ bs,e = .returned (.func (.func 96) #[] #[.pointer (some ⟨bs,0,none⟩)])∧w'.cell? ⟨bs,0,none⟩ = some (.string s)∧Below w.heap.size w w':=by
 have hmf : ∀ (fn : Fn) (first cap : Array Value) (w : World),(Instr.makeFunc fn first cap).run Tryz.prog w = .ok (.func fn first cap) w:=fun _ _ _ _=>rfl
 go_enter Tryz.func38,Tryz.ntmps38
 go_wp2
 go_ret
 exact ⟨_,rfl,(Blk.new w 9 #[.string s]).cell 0,(Below.refl _ _).alloc (Nat.le_refl _) _⟩
theorem tLines_seq (n : Nat) (hn : 1≤n) (w : World) (s : ByteArray) (bs : Nat) (hE : Env w) (hs : s.size≤1000000) (h : w.cell? ⟨bs,0,none⟩ = some (.string s)) :
  SeqStopsK Fence.wide n Tryz.prog 96 #[.pointer (some ⟨bs,0,none⟩)] (encLn s) (KT 40 (fun _=>False)) (fun ys=>ys = linesP gL s) (fun pre=>pre <+: linesP gL s) (linesP gL s).length w:=by
 intro l J Jx W hW hJ _ hY h0
 have hc1 : W.cell? ⟨bs,0,none⟩ = some (.string s):=cell_keep h hW
 have hWz:=hW.size
 have HC:=Lib.hid (tChances_any s W (hE.below hW) hs)
 have HCl : Hid (∀ x ∈ linesP gL s,clP s x = x):=Lib.hid (fun x hx=>by
  obtain ⟨h1,h2,_⟩:=lines_in hx
  exact clP_in ⟨Nat.le_of_lt h1,h2⟩)
 have HLz:=Lib.hid (chances_len' s)
 unfold linesP at hY HCl ⊢
 obtain ⟨L,HL⟩ : ∃ L,Hid (lChances gL s = L):=⟨_,Lib.hid rfl⟩
 rw [HL.out] at HC hY HCl HLz ⊢
 clear hE h
 refine callsIn_of_wp Tryz.func96 rfl trivial ?_ rfl
 simp only [Tryz.ntmps96,List.size_toArray,List.length_cons,List.length_nil,Nat.reduceAdd,Nat.reduceSub,Array.replicate_succ,Array.replicate_zero,List.push_toArray,List.append_toArray,List.nil_append,List.cons_append]
 refine wpIn_wide.2 ?_
 go_wp2_with fail
 refine HC.out.mono ?_
 rintro e w1 ⟨A,m,c,rfl,ho,hb1⟩
 have hJ1 : J [] w1:=abides_below hJ h0 hb1
 have hm : L.length = m:=by have:=ho.len;simpa using this
 have hz : m≤1000001:=by have:=HLz.out;omega
 have Hm:=Lib.hid hm
 clear hm
 go_wp2_with fail
 refine (wpIn_wide (n:=n)).1 ?_
 gi_loopw [3,9] (fun u v wr=>∃ (f i : Nat) (pre : List (Nat × Nat)),u = .int .i64 f∧v = .int .i64 i∧i≤m∧Hid (pre++linP f (L.drop i) = linP 0 L)∧J pre wr∧Own wr W.heap.size 40 2 A m c (L.map encC)) (fun _ v _=>m - (intOf v).toNat)
 case atStart=>exact ⟨0,0,[],rfl,rfl,by omega,Lib.hid rfl,hJ1,ho⟩
 case round =>
  obtain ⟨f,i,pre,rfl,rfl,hi,HP,hJr,hor⟩:=hrel
  by_cases hlt : i < m
  ·obtain ⟨⟨a,q⟩,Hx⟩ : ∃ x,Hid (L[i]? = some x):=⟨_,Lib.hid (List.getElem?_eq_getElem (by have:=Hm.out;omega))⟩
   have rd:=hor.rd (by decide)
   obtain ⟨b,off,rfl,c0,c1⟩:=rd.atC Hx.out
   have hdr:=linP_snoc L i Hx.out
   have HP2:=HP.out
   rw [hdr,linP] at HP2
   have hJa : J pre (wr.alloc (.cells #[.int .i64 (a : Nat),.bool q] 40)):=abides_below hJ hJr ((Below.refl _ _).alloc (Nat.le_refl _) _)
   have hoa:=hor.alloc (.cells #[.int .i64 (a : Nat),.bool q] 40)
   have Ba : Blk (wr.alloc (.cells #[.int .i64 (a : Nat),.bool q] 40)) wr.heap.size 40 #[.int .i64 (a : Nat),.bool q]:=Blk.new _ _ _
   simp only at c0 c1
   clear hdr HP rd
   cases q with
   | false =>
    have HP3 : Hid (pre++linP f (L.drop (i+1)) = linP 0 L):=Lib.hid HP2
    clear HP2
    gi_wp2
    go_roundw
    case rel=>exact ⟨f,i+1,pre,rfl,by go_num,by omega,HP3,hJa,hoa⟩
    case measure=>simp [intOf];omega
   | true =>
    have HP3 : Hid (pre++[(f,a)]++linP a (L.drop (i+1)) = linP 0 L):=Lib.hid (by rw [List.append_assoc];exact HP2)
    have hpx : pre++[(f,a)] <+: linP 0 L:=⟨_,HP3.out⟩
    have hlen : pre.length < (linP 0 L).length:=by have:=hpx.length_le;rw [List.length_append,List.length_singleton] at this;omega
    have hcl:=HCl.out (f,a) (hpx.subset (by simp))
    clear HP2
    obtain ⟨fn,tmps,assign,body,hy,hR⟩:=hY pre (f,a) _ hJa hlen
    unfold encLn at hy
    rw [hcl] at hy
    simp only at hy
    clear hcl hlen
    gi_wp2_with fail
    refine hR.mono ?_
    rintro e W4 (⟨rfl,hJ4,hk4⟩ | ⟨rfl,hJx4⟩)
    ·have ho4:=hk4.own hoa (fun _ h=>h.elim)
     have B4:=hk4.blk Ba (fun h=>h)
     have e0:=B4.cell 0
     simp only [zG,zH] at e0
     gi_wp2_with fail
     go_roundw
     case rel=>exact ⟨a,i+1,pre++[(f,a)],rfl,by go_num,by omega,HP3,hJ4,ho4⟩
     case measure=>simp [intOf];omega
    ·gi_wp2
     refine bodyPost_ret (results_none rfl _ _ _) rfl ?_
     exact ⟨⟨_,rfl⟩,.inr ⟨_,hpx,hJx4⟩⟩
  ·have hend : pre = linP 0 L:=by
    have h:=HP.out
    rw [List.drop_eq_nil_of_le (by have:=Hm.out;omega),linP,List.append_nil] at h
    exact h
   subst hend
   gi_wp2
   go_end0
   first | exact ⟨⟨_,rfl⟩,.inl ⟨_,rfl,hJr⟩⟩ | exact ⟨⟨_,rfl⟩,.inl hJr⟩
end
section
open Go.RowKit Go.Shelf
attribute [local go_sem] Oper.semAt_some
def encCh (x : Nat × Bool) : Array Value:=#[.int .i64 (x.1 : Nat),.bool x.2]
theorem tEach_any (s : ByteArray) (w : World) : Calls Tryz.prog 37 #[.string s] w fun e w'=>∃ bs,e = .returned (.func (.func 95) #[] #[.pointer (some ⟨bs,0,none⟩)])∧w'.cell? ⟨bs,0,none⟩ = some (.string s)∧Below w.heap.size w w':=by
 have hmf : ∀ (fn : Fn) (first cap : Array Value) (w : World),(Instr.makeFunc fn first cap).run Tryz.prog w = .ok (.func fn first cap) w:=fun _ _ _ _=>rfl
 go_enter Tryz.func37,Tryz.ntmps37
 go_wp2
 go_ret
 exact ⟨_,rfl,(Blk.new w 9 #[.string s]).cell 0,(Below.refl _ _).alloc (Nat.le_refl _) _⟩
theorem tEach_seq (n : Nat) (hn : 1≤n) (w : World) (s : ByteArray) (bs : Nat) (hE : Env w) (hs : s.size≤1000000) (h : w.cell? ⟨bs,0,none⟩ = some (.string s)) :
  SeqStopsK Fence.wide n Tryz.prog 95 #[.pointer (some ⟨bs,0,none⟩)] encCh (KT 40 (fun _=>False)) (fun ys=>ys = lChances gL s) (fun pre=>pre <+: lChances gL s) (lChances gL s).length w:=by
 intro l J Jx W hW hJ _ hY h0
 have hc1 : W.cell? ⟨bs,0,none⟩ = some (.string s):=cell_keep h hW
 have hWz:=hW.size
 have HC:=Lib.hid (tChances_any s W (hE.below hW) hs)
 have HLz:=Lib.hid (chances_len' s)
 generalize lChances gL s = L at HC hY HLz ⊢
 clear hE h
 refine callsIn_of_wp Tryz.func95 rfl trivial ?_ rfl
 simp only [Tryz.ntmps95,List.size_toArray,List.length_cons,List.length_nil,Nat.reduceAdd,Nat.reduceSub,Array.replicate_succ,Array.replicate_zero,List.push_toArray,List.append_toArray,List.nil_append,List.cons_append]
 refine wpIn_wide.2 ?_
 go_wp2_with fail
 refine HC.out.mono ?_
 rintro e w1 ⟨A,m,c,rfl,ho,hb1⟩
 have hJ1 : J [] w1:=abides_below hJ h0 hb1
 have hm : L.length = m:=by have:=ho.len;simpa using this
 have hz : m≤1000001:=by have:=HLz.out;omega
 have Hm:=Lib.hid hm
 clear hm
 go_wp2_with fail
 refine (wpIn_wide (n:=n)).1 ?_
 gi_loopw [8] (fun v wr=>∃ (i : Nat),v = .int .i64 i∧i≤m∧J (L.take i) wr∧Own wr W.heap.size 40 2 A m c (L.map encC)) (fun v _=>m - (intOf v).toNat)
 case atStart=>exact ⟨0,rfl,by omega,hJ1,ho⟩
 case round =>
  obtain ⟨i,rfl,hi,hJr,hor⟩:=hrel
  by_cases hlt : i < m
  ·obtain ⟨⟨a,q⟩,Hx⟩ : ∃ x,Hid (L[i]? = some x):=⟨_,Lib.hid (List.getElem?_eq_getElem (by have:=Hm.out;omega))⟩
   have rd:=hor.rd (by decide)
   obtain ⟨b,off,rfl,c0,c1⟩:=rd.atC Hx.out
   have hJa : J (L.take i) (wr.alloc (.cells #[.int .i64 (a : Nat),.bool q] 40)):=abides_below hJ hJr ((Below.refl _ _).alloc (Nat.le_refl _) _)
   have hoa:=hor.alloc (.cells #[.int .i64 (a : Nat),.bool q] 40)
   simp only at c0 c1
   have hp : L.take i++[(a,q)] = L.take (i+1):=by rw [List.take_add_one,Hx.out];rfl
   have hlen : (L.take i).length < L.length:=by rw [List.length_take,Hm.out];omega
   have hYW:=YieldAt.mono (R':=fun e W'=>∃ t : Bool,e = .returned (.bool t)∧(t = true→J (L.take (i+1)) W'∧KT 40 (fun _=>False) (wr.alloc (.cells #[.int .i64 (a : Nat),.bool q] 40)) W')∧(t = false→Jx (L.take (i+1)) W')) (hY _ (a,q) _ hJa hlen) (by
    rw [hp]
    rintro e W' (⟨h1,h2,h3⟩ | ⟨h1,h2⟩)
    ·exact ⟨true,h1,fun _=>⟨h2,h3⟩,fun h=>absurd h (by decide)⟩
    ·exact ⟨false,h1,fun h=>absurd h (by decide),fun _=>h2⟩)
   obtain ⟨fn,tmps,assign,body,hy,hR⟩:=hYW
   dsimp only [encCh] at hy
   clear hp hlen rd
   gi_wp2_with fail
   refine hR.mono ?_
   rintro e W4 ⟨t,rfl,ht1,ht2⟩
   cases t with
   | true =>
    obtain ⟨hJ4,hk4⟩:=ht1 rfl
    have ho4:=hk4.own hoa (fun _ h=>h.elim)
    gi_wp2_with fail
    go_roundw
    case rel=>exact ⟨i+1,by go_num,by omega,hJ4,ho4⟩
    case measure=>simp [intOf];omega
   | false =>
    have hJ4:=ht2 rfl
    gi_wp2
    refine bodyPost_ret (results_none rfl _ _ _) rfl ?_
    exact ⟨⟨_,rfl⟩,.inr ⟨_,List.take_prefix _ _,hJ4⟩⟩
  ·have hend : L.take i = L:=List.take_of_length_le (by have:=Hm.out;omega)
   rw [hend] at hJr
   gi_wp2
   go_end0
   first | exact ⟨⟨_,rfl⟩,.inl ⟨_,rfl,hJr⟩⟩ | exact ⟨⟨_,rfl⟩,.inl hJr⟩
def linF (l : List (Nat × Nat)) : List Nat:=l.flatMap fun x=>[x.1,x.2]
theorem linF_len (l : List (Nat × Nat)) : (linF l).length = 2*l.length:=by
 unfold linF
 induction l with
 | nil=>rfl
 | cons x l ih=>rw [List.flatMap_cons,List.length_append,ih];simp;omega
theorem linF_at : ∀ {l : List (Nat × Nat)} {k : Nat} {x : Nat × Nat},l[k]? = some x→(linF l)[2*k]? = some x.1∧(linF l)[2*k+1]? = some x.2
 | [],k,x,h=>by simp at h
 | y :: l,0,x,h=>by
  obtain rfl : y = x:=by simpa using h
  exact ⟨rfl,rfl⟩
 | y :: l,k+1,x,h=>by
  obtain ⟨h1,h2⟩:=linF_at (l:=l) (k:=k) (x:=x) (by simpa using h)
  have e : linF (y :: l) = y.1 :: y.2 :: linF l:=rfl
  rw [e]
  exact ⟨by simpa [Nat.mul_add] using h1,by simpa [Nat.mul_add] using h2⟩
theorem rd_two {w : World} {t : TypeId} {b f a : Nat} (hb : b = w.heap.size) : Rd (w.alloc (.cells #[.int .i64 (f : Nat),.int .i64 (a : Nat)] t)) 1 (some ⟨b,0,none⟩) [encN f,encN a]:=by
 subst hb
 exact Rd.manyQ w t 1 [encN f,encN a] _ rfl (by intro x hx;simp only [List.mem_cons,List.not_mem_nil,or_false] at hx;rcases hx with rfl | rfl <;> rfl)
theorem xLines_any (s : ByteArray) (w : World) (hs : s.size≤60) :
  Calls Tryz.prog 40 #[.string s] w fun e w'=>∃ (A : Option Addr) (k c : Nat),e = .returned (.slice A k c)∧Own w' w.heap.size 3 1 A k c ((linF (linesP gL s)).map encN)∧Below w.heap.size w w':=by
 obtain ⟨i0,hi0,hz0,hz1,hz2⟩:=info_parts infoInt
 have HC:=Lib.hid (xChances_any s w (by omega))
 have hLz:=chances_len' s
 unfold linesP
 generalize lChances gL s = L at HC hLz ⊢
 go_enter Tryz.func40,Tryz.ntmps40
 go_wp2_with fail
 refine HC.out.mono ?_
 rintro e w1 ⟨A,m,c,rfl,ho,hb1⟩
 obtain rfl : L.length = m:=by have:=ho.len;simpa using this
 have rd:=ho.rd (by decide)
 clear HC ho
 go_wp2_with fail
 go_loopw [3,4,6] (fun u v x wr=>∃ (A2 : Option Addr) (n2 c2 f i : Nat) (o : List (Nat × Nat)),u = .slice A2 n2 c2∧v = .int .i64 f∧x = .int .i64 i∧i≤L.length∧n2≤2*i∧Own wr w1.heap.size 3 1 A2 n2 c2 ((linF o).map encN)∧Hid (o++linP f (L.drop i) = linP 0 L)∧Below w1.heap.size w1 wr) (fun _ _ x _=>L.length - (intOf x).toNat)
 case atStart=>exact ⟨none,0,0,0,0,[],rfl,rfl,rfl,by omega,by omega,Own.nil_ _ _ _ _,Lib.hid rfl,Below.refl _ _⟩
 case round =>
  obtain ⟨A2,n2,c2,f,i,o,rfl,rfl,rfl,hi,hn2,ho2,HP,hb⟩:=hrel
  have hsz:=hb.size
  by_cases hlt : i < L.length
  ·obtain ⟨⟨a,q⟩,Hx⟩ : ∃ x,Hid (L[i]? = some x):=⟨_,Lib.hid (List.getElem?_eq_getElem hlt)⟩
   obtain ⟨b,off,rfl,c0,c1⟩:=rd.atC Hx.out
   have H0:=Lib.hid c0
   replace c0:=cell_keep c0 hb
   replace c1:=cell_keep c1 hb
   have HP2:=HP.out
   rw [linP_snoc L i Hx.out,linP] at HP2
   simp only at c0 c1
   clear HP
   cases q with
   | false =>
    have HP3 : Hid (o++linP f (L.drop (i+1)) = linP 0 L):=Lib.hid HP2
    clear HP2
    go_wp2
    go_roundw
    case rel=>exact ⟨A2,n2,c2,f,i+1,o,rfl,rfl,by go_num,by omega,by omega,ho2,HP3,hb⟩
    case measure=>simp [intOf];omega
   | true =>
    have HP3 : Hid (o++[(f,a)]++linP a (L.drop (i+1)) = linP 0 L):=Lib.hid (by rw [List.append_assoc];exact HP2)
    have HF : Hid (linF (o++[(f,a)]) = linF o++[f,a]):=Lib.hid (by unfold linF;rw [List.flatMap_append];rfl)
    clear HP2
    go_wp2_with (at_builtin;go_must (refine wpList_app rfl (.tmp 20) (.tmp 27) _ rfl w1.heap.size 3 i0 _ 1 8 Tryz.underlying52 hi0 hz0 hz1 hz2 rfl (by omega) A2 n2 c2 _ rfl (ho2.alloc _) _ 2 2 [encN f,encN a] rfl rfl (rd_two rfl) (encN_ok' [f,a]) (by unfold maxLen;omega) (by omega) (by simp;omega) ?_);intro A3 c3 w7 ho3 hg3 hA3;have hb7:=below_app (hb.alloc hsz (.cells #[.int .i64 (f : Nat),.int .i64 (a : Nat)] 3)) hg3 (by simp;omega) (fun a ha=>(ho2.lt a ha).1);have c07:=cell_keep H0.out hb7;simp only at c07)
    go_roundw
    case rel=>exact ⟨A3,n2+2,c3,a,i+1,o++[(f,a)],rfl,by first | rfl | go_num,by go_num,by omega,by omega,by rw [HF.out,List.map_append];exact ho3,HP3,hb7⟩
    case measure=>simp [intOf];omega
  ·have hend : o = linP 0 L:=by
    have h:=HP.out
    rw [List.drop_eq_nil_of_le (by omega),linP,List.append_nil] at h
    exact h
   subst hend
   go_wp2
   go_ret
   exact ⟨A2,n2,c2,rfl,ho2.more hb1.size,below_two hb1 hb⟩
end
section
open Go.RowKit
end
section
open Go.RowKit
end
section
open Go.RowKit
end
section
open Go.RowKit
end
section
open Go.RowKit Go.Shelf Go.Maps
attribute [local go_sem] Oper.semAt_some
end
section
open Go.RowKit Go.Shelf
attribute [local go_sem] Oper.semAt_some
end
section
open Go Go.RowKit
section
variable {P : Program} {Q : Exit→Act→World→Prop} {l n : Nat}
end
end
section
open Go.RowKit Go.Shelf
attribute [local go_sem] Oper.semAt_some
end
section
open Go.RowKit Go.Shelf
attribute [local go_sem] Oper.semAt_some
end
section
open Go.RowKit
end
section
open Go.RowKit Go.Shelf
attribute [local go_sem] Oper.semAt_some
theorem others_below {A B : World} (h : Below A.heap.size A B) : KeepsOthers A B:=⟨h.size,fun j _ hj _=>(h.block j (Array.getElem?_eq_some_iff.1 hj).1).trans hj⟩
theorem prefix_nextP {α : Type} {R pre : List α} {x : α} (h : pre++[x] <+: R) : R[pre.length]? = some x:=by
 obtain ⟨r,rfl⟩:=h
 simp
section
variable {F : Fence} {n : Nat} {P : Program}
theorem rngN2 {α : Type} {g : Operand} {ps : Array Tmp} {assign body : Code} {Q : Exit→Act→World→Prop} {a : Act} {w : World}
  {l₀ : Nat} {r₀ : Loop} (hro : F.round = some l₀) (hl₀ : w.heap[l₀]? = some (.loop r₀)) (h1 : 1≤n) {gf : Nat} {lb : Array Value} (hg : a.eval g = .func (.func gf) #[] lb) (hFg : F.fn gf) (eg : ∀ args w,(callFunc gf args).run P w = .ok (.enter gf args) w)
  {encs : α→Array Value} {Kp : World→World→Prop} {S Sp : List α→Prop} {N : Nat} {w0 : World} (hseq : SeqStopsK F (n - 1) P gf lb encs Kp S Sp N w0)
  (hKt : ∀ {A B C : World},Kp A B→Kp B C→Kp A C) (hKb : ∀ (W : World) (l : Nat) (o o' : Obj),w.heap.size≤l→W.heap[l]? = some o→o.isCells = false→o.isWalk = false→Kp W (W.putObj l o')) (hb0 : Below w0.heap.size w0 w) (hps : ∀ x,(encs x).size = ps.size) (hKr : ∀ W,Kp W W)
  (I : List α→World→Prop) (Ix : Code→List α→World→Prop) (hI : OwnFrom w.heap.size I) (hIx : ∀ c,OwnFrom w.heap.size (Ix c)) (h0 : I [] w) (f : Array Value→α→Array Value)
  (hassign : ∀ (l : Nat) (x : α) (W : World) (K : Act→World→Prop),K { tmps:=f a.tmps x,defers:=[] } W →
   assign.wpIn (F.inRound l) (n - 1 - 1) P (Exit.then K (fun _ _ _=>False)) { tmps:=(ps.zip (encs x)).foldl (fun t (p,v)=>t.setIfInBounds p v) a.tmps,defers:=[] } W)
  (hbody : ∀ (l : Nat) (pre : List α) (x : α) (W : World),w.heap.size≤l→(∃ r,W.heap[l]? = some (.loop r))→I pre W→pre.length < N→body.wpIn (F.inRound l) (n - 1 - 1) P (ownPostG w.heap.size Kp I Ix (pre++[x]) W) { tmps:=f a.tmps x,defers:=[] } W)
  (hdone : ∀ (xs : List α) (W : World),S xs→I xs W→Q .normal a W)
  (hstop : ∀ (c : Code) (pre : List α) (W : World),Sp pre→Ix c pre W→c.wpIn F n P Q a W) :
  (Code.rangeFunc g ps assign body).wpIn F n P Q a w :=
 wpIn_rangeFunc_ownN hro hl₀ h1 hg hFg eg hseq (fun h k=>hKt h k) hKb hb0 hps I Ix hI hIx h0 (fun x a' _=>a' = { tmps:=f a.tmps x,defers:=[] }) (fun _ _ _ _ _ _ hs _ _=>hs)
  (fun l _ x W K hi hK=>hassign l x W K (hK _ _ (KeepsFrom.refl _ _) (hKr W) hi rfl)) (fun l pre x a' W hl hr hi e=>by subst e;exact hbody l pre x W hl hr hi) hdone hstop
end
end
section
open Go Go.RowKit
section
variable {P : Program} {Q : Exit→Act→World→Prop} {l₀ n : Nat}
end
end
section
open Go.RowKit Go.Shelf
attribute [local go_sem] Oper.semAt_some
theorem seqL_nil (fn : Fn) (first captured : Array Value) (W : World) : (binOp .eql 45 (.func fn first captured) .nilFunc).run Tryz.prog W = .ok (.bool false) W:=by kernel_rfl
theorem seqM_nil (fn : Fn) (first captured : Array Value) (W : World) : (binOp .eql 48 (.func fn first captured) .nilFunc).run Tryz.prog W = .ok (.bool false) W:=by kernel_rfl
structure PcE (w : World) (s : ByteArray) (stop : Int) (A : Option Addr) (c : Nat) (L : List (Nat × Bool)) (B : Option Addr) (d : Nat) (M : List (Nat × Nat)) (g5 g7 be bl : Nat) (fa fb : Value) (V : World) : Prop where
 b3 : Blk V w.heap.size 3 #[.int .i64 stop]
 b4 : Blk V (w.heap.size+1) 4 #[.bool false]
 b5 : Blk V g5 45 #[fa]
 b6 : Blk V (g5+1) 48 #[fb]
 b7 : Blk V g7 50 #[.slice A L.length c]
 b8 : Blk V (g7+1) 52 #[.slice B (2*M.length) d]
 rd : Rd V 2 A (L.map encC)
 rm : Rd V 1 B ((linF M).map encN)
 ce : V.cell? ⟨be,0,none⟩ = some (.string s)
 cl : V.cell? ⟨bl,0,none⟩ = some (.string s)
 hb : Below w.heap.size w V
theorem PcE.below {w V V' : World} {s : ByteArray} {stop : Int} {A : Option Addr} {c : Nat} {L : List (Nat × Bool)} {B : Option Addr} {d : Nat} {M : List (Nat × Nat)} {g5 g7 be bl : Nat} {fa fb : Value} (h : PcE w s stop A c L B d M g5 g7 be bl fa fb V) (hb : Below V.heap.size V V') : PcE w s stop A c L B d M g5 g7 be bl fa fb V' :=
 ⟨h.b3.below hb,h.b4.below hb,h.b5.below hb,h.b6.below hb,h.b7.below hb,h.b8.below hb,h.rd.below hb,h.rm.below hb,cell_keep h.ce hb,cell_keep h.cl hb,below_two h.hb hb⟩
theorem res_lineEach (w : World) (b : Nat) (tmps : Array Value) (ht : tmps.getD 4 undef = .pointer (some ⟨b,0,none⟩)) {v : Bool} (hc : w.cell? ⟨b,0,none⟩ = some (.bool v)) : (results Tryz.f6 tmps).run Tryz.prog w = .ok (.bool v) w:=by
 have ht' : tmps[4]?.getD undef = .pointer (some ⟨b,0,none⟩):=by simpa [Array.getD_eq_getD_getElem?] using ht
 simp [results,Tryz.results6,go_sem,ht',hc]
theorem yLineEach_any (s : ByteArray) (stop : Int) (w : World) (hE : Env w) (hs : s.size ≤ 140737488355328) :
    Calls Tryz.prog 6 #[.string s, .int .i64 stop] w fun e w' => e = .returned (.bool true) ∧ Below w.heap.size w w' := by
  have HB : Below w.heap.size w ((w.alloc (.cells #[.int .i64 stop] 3)).alloc (.cells #[.bool false] 4)) := ((Below.refl _ _).alloc (Nat.le_refl _) _).alloc (by simp) _
  have B3 : Blk ((w.alloc (.cells #[.int .i64 stop] 3)).alloc (.cells #[.bool false] 4)) w.heap.size 3 #[.int .i64 stop] := (Blk.new w 3 #[.int .i64 stop]).alloc _
  have B4 : Blk ((w.alloc (.cells #[.int .i64 stop] 3)).alloc (.cells #[.bool false] 4)) (w.heap.size + 1) 4 #[.bool false] := by
    have := Blk.new (w.alloc (.cells #[.int .i64 stop] 3)) 4 #[.bool false]
    simpa using this
  have HLv := Lib.hid (fun W (h : Env W) => ylive_any W h)
  refine (callsIn_wide (n := 6)).1 ?_
  refine callsIn_of_wp_marks Tryz.func6 rfl trivial ?_ rfl
  simp only [Tryz.ntmps6, List.size_toArray, List.length_cons, List.length_nil, Nat.reduceAdd, Nat.reduceSub, Array.replicate_succ, Array.replicate_zero, List.push_toArray, List.append_toArray, List.nil_append, List.cons_append]
  refine wpIn_wide.2 ?_
  by_cases h1 : 60 < s.size
  · have g1 : (60 : Int) < (s.size : Int) := by omega
    clear hs B3
    go_wp2_with fail
    generalize ((w.alloc (.cells #[.int .i64 stop] 3)).alloc (.cells #[.bool false] 4)) = w0 at HB B4 ⊢
    refine (HLv.out _ (hE.below HB)).mono ?_
    rintro e wz ⟨rfl, hb⟩
    replace B4 := B4.below hb
    replace HB := below_two HB hb
    have c4 := B4.cell 0
    have f4 := B4.frozen 0
    simp only [zG, zH] at c4
    go_wp2_with fail
    have c7 := (B4.set_ 0 (.bool true)).cell 0
    simp only [zG, zH, zD, zE] at c7
    exact ⟨_, res_lineEach _ (w.heap.size + 1) _ rfl c7, rfl, HB.setCell (p := ⟨w.heap.size + 1, 0, none⟩) (by simp only; omega) _⟩
  have g1 : ¬ (60 : Int) < (s.size : Int) := by omega
  have hsz : s.size ≤ 60 := by omega
  have HX := Lib.hid (fun W => xChances_any s W (by omega))
  have HY := Lib.hid (fun W => xLines_any s W hsz)
  have hLz := chances_len' s
  have HEa := Lib.hid (fun W => tEach_any s W)
  have HLa := Lib.hid (fun W => tLines_any s W)
  have HES := Lib.hid (fun W bs (h : Env W) hc => tEach_seq 5 (by decide) W s bs h (by omega) hc)
  have HES3 := Lib.hid (fun W bs (h : Env W) hc => tEach_seq 3 (by decide) W s bs h (by omega) hc)
  have HLS := Lib.hid (fun W bs (h : Env W) hc => tLines_seq 5 (by decide) W s bs h (by omega) hc)
  have HLS3 := Lib.hid (fun W bs (h : Env W) hc => tLines_seq 3 (by decide) W s bs h (by omega) hc)
  have HF1 := Lib.hid (fun x (h : x ∈ linesP gL s) => (show clP s x = x from by
    obtain ⟨h1, h2, _⟩ := lines_in h
    exact clP_in ⟨Nat.le_of_lt h1, h2⟩))
  have HF0 : Hid (∀ x, (linesP gL s)[0]? = some x → x.1 = 0) := Lib.hid (fun x h => by
    have hp : ([] : List (Nat × Nat)) ++ [x] <+: linP 0 (lChances gL s) := by
      unfold linesP at h
      cases hL : linP 0 (lChances gL s) with
      | nil => rw [hL] at h; simp at h
      | cons y t => rw [hL] at h; obtain rfl : y = x := by simpa using h
                    exact ⟨t, rfl⟩
    exact linP_next _ 0 [] x hp)
  have hMz : (linesP gL s).length ≤ s.size + 1 := Nat.le_trans (linP_len _ _) hLz
  generalize linesP gL s = M at HY HLS HLS3 HF1 HF0 hMz
  generalize lChances gL s = L at HX hLz HES HES3
  clear h1 hs
  go_wp2_with fail
  generalize ((w.alloc (.cells #[.int .i64 stop] 3)).alloc (.cells #[.bool false] 4)) = w0 at HB B3 B4 ⊢
  refine (HEa.out w0).mono ?_
  rintro e w1 ⟨be, rfl, hce, hb1⟩
  have hnil1 := seqL_nil (.func 95) #[] #[.pointer (some ⟨be, 0, none⟩)]
  have C3 := B3.below hb1
  have C4 := B4.below hb1
  have HC := below_two HB hb1
  clear B3 B4 HB hb1
  go_wp2_with fail
  refine (HLa.out w1).mono ?_
  rintro e w2 ⟨bl, rfl, hcl, hb2⟩
  have hnil2 := seqM_nil (.func 96) #[] #[.pointer (some ⟨bl, 0, none⟩)]
  have D3 := C3.below hb2
  have D4 := C4.below hb2
  have D0 := cell_keep hce hb2
  have HD := below_two HC hb2
  clear C3 C4 HC hb2 hce
  have B5 := (Blk.new w2 45 #[.func (.func 95) #[] #[.pointer (some ⟨be, 0, none⟩)]]).alloc (.cells #[.func (.func 96) #[] #[.pointer (some ⟨bl, 0, none⟩)]] 48)
  have B6 := Blk.new (w2.alloc (.cells #[.func (.func 95) #[] #[.pointer (some ⟨be, 0, none⟩)]] 45)) 48 #[.func (.func 96) #[] #[.pointer (some ⟨bl, 0, none⟩)]]
  rw [World.size_alloc] at B6
  have hbA : Below w2.heap.size w2 ((w2.alloc (.cells #[.func (.func 95) #[] #[.pointer (some ⟨be, 0, none⟩)]] 45)).alloc (.cells #[.func (.func 96) #[] #[.pointer (some ⟨bl, 0, none⟩)]] 48)) := ((Below.refl _ _).alloc (Nat.le_refl _) _).alloc (by simp) _
  go_upto_region 4 with fail
  generalize ((w2.alloc (.cells #[.func (.func 95) #[] #[.pointer (some ⟨be, 0, none⟩)]] 45)).alloc (.cells #[.func (.func 96) #[] #[.pointer (some ⟨bl, 0, none⟩)]] 48)) = w3 at B5 B6 hbA ⊢
  have E3 := D3.below hbA
  have E4 := D4.below hbA
  have E0 := cell_keep D0 hbA
  have E1 := cell_keep hcl hbA
  have HE3 := below_two HD hbA
  have c50 := B5.cell 0
  have c60 := B6.cell 0
  simp only [zG, zH] at c50 c60
  generalize w2.heap.size = g5 at B5 B6 c50 c60 ⊢
  clear D3 D4 D0 hcl HD hbA
  go_wp2_with fail
  refine (HX.out w3).mono ?_
  rintro e w4 ⟨A, n, c, rfl, hoA, hb4⟩
  obtain rfl : L.length = n := by have := hoA.len; simpa using this
  go_wp2_with fail
  refine (HY.out w4).mono ?_
  rintro e w5 ⟨B, n2, d, rfl, hoB, hb5⟩
  obtain rfl : 2 * M.length = n2 := by have := hoB.len; rw [List.length_map, linF_len] at this; exact this
  have hb35 := below_two hb4 hb5
  have B7 := (Blk.new w5 50 #[.slice A L.length c]).alloc (.cells #[.slice B (2 * M.length) d] 52)
  have B8 := Blk.new (w5.alloc (.cells #[.slice A L.length c] 50)) 52 #[.slice B (2 * M.length) d]
  rw [World.size_alloc] at B8
  have hbB : Below w5.heap.size w5 ((w5.alloc (.cells #[.slice A L.length c] 50)).alloc (.cells #[.slice B (2 * M.length) d] 52)) := ((Below.refl _ _).alloc (Nat.le_refl _) _).alloc (by simp) _
  have hb3B := below_two hb35 hbB
  have hP3 : PcE w s stop A c L B d M g5 w5.heap.size be bl (.func (.func 95) #[] #[.pointer (some ⟨be, 0, none⟩)]) (.func (.func 96) #[] #[.pointer (some ⟨bl, 0, none⟩)]) ((w5.alloc (.cells #[.slice A L.length c] 50)).alloc (.cells #[.slice B (2 * M.length) d] 52)) :=
    ⟨E3.below hb3B, E4.below hb3B, B5.below hb3B, B6.below hb3B, B7, B8, (hoA.rd (by decide)).below (below_two hb5 hbB), (hoB.rd (by decide)).below hbB, cell_keep E0 hb3B, cell_keep E1 hb3B, below_two HE3 hb3B⟩
  clear E3 E4 B5 B6 B7 B8 E0 E1 HE3 hb35 hb4 hb5 hb3B hbB hoA hoB c50 c60 hnil1 hnil2 HX HY HEa HLa
  go_upto_region 7 with fail
  generalize ((w5.alloc (.cells #[.slice A L.length c] 50)).alloc (.cells #[.slice B (2 * M.length) d] 52)) = U at hP3 ⊢
  generalize w5.heap.size = g7 at hP3 ⊢
  have B9 := Blk.new U 3 #[.int .i64 0]
  have hb9 : Below U.heap.size U (U.alloc (.cells #[.int .i64 0] 3)) := (Below.refl _ _).alloc (Nat.le_refl _) _
  have c51 := (hP3.b5.below hb9).cell 0
  simp only [zG, zH] at c51
  go_wp2_with fail
  generalize U.alloc (.cells #[.int .i64 0] 3) = V at B9 hb9 c51 ⊢
  have hz9 := B9.lt
  have hzU := hb9.size
  have hP5 := hP3.below hb9
  have hz4 := hP3.b4.lt
  have hEV := hE.below hP5.hb
  clear c51
  refine (wpIn_wide (n := 6)).1 ?_
  refine rngH rfl (by decide) (gf := 95) (lb := #[.pointer (some ⟨be, 0, none⟩)]) rfl trivial (enters_of Tryz.func95 (by kernel_rfl) rfl)
    (HES.out V be hEV hP5.ce) (fun h k => h.trans k) (fun W l o o' _ h hc _ => KT.put W l o o' h hc) (Below.refl _ _) (fun _ => rfl)
    (fun W => KT.refl _ _ W)
    (fun (pre : List (Nat × Bool)) W => Blk W U.heap.size 3 #[.int .i64 (pre.length : Nat)] ∧ Below U.heap.size U W)
    (fun cc pre W => cc = .ret ∧ ¬ pre <+: L)
    (OwnFrom.and (Go.Own.from (fun s A B row hs hg hr => hs.kept hg hr) _) (ownFrom_below (Nat.le_refl _) (by omega)))
    (fun _ _ _ _ _ hs _ _ => hs)
    ⟨B9, hb9⟩
    (fun T (x : Nat × Bool) => (((T.setIfInBounds 37 (.int .i64 (x.1 : Nat))).setIfInBounds 38 (.bool x.2)).setIfInBounds 10 (.int .i64 (x.1 : Nat))).setIfInBounds 11 (.bool x.2))
    ?assign0 ?body0 ?done0 ?stop0
  case assign0 =>
    intro l2 x W K hK
    simp only [zD, zF, zE] at hK
    simp only [encCh]
    gi_wp2
    exact hK
  case stop0 =>
    rintro D cc pre W hD hp ⟨rfl, hnp⟩
    exact absurd hp hnp
  case body0 =>
    rintro l2 pre ⟨a, q⟩ W hl2 ⟨r0, hr0⟩ ⟨B9W, hbW⟩ hlen
    simp only [zD, zF, zE]
    obtain ⟨⟨x, m⟩, hx⟩ : ∃ x, L[pre.length]? = some x := ⟨_, List.getElem?_eq_getElem hlen⟩
    have Hne : Hid ((a, q) ≠ (x, m) → ¬ pre ++ [(a, q)] <+: L) := Lib.hid (fun h hp => by
      have h2 := prefix_nextP hp
      rw [hx] at h2
      injection h2 with h2
      exact h h2.symm)
    have PW := hP3.below hbW
    obtain ⟨bk, off, rfl, x0, x1⟩ := PW.rd.atC hx
    simp only at x0 x1
    have hzW := B9W.lt
    have hzVW : V.heap.size ≤ W.heap.size := Nat.le_trans hl2 (Nat.le_of_lt (Array.getElem?_eq_some_iff.1 hr0).1)
    have c9 := B9W.cell 0
    have f9 := B9W.frozen 0
    have c3 := PW.b3.cell 0
    have c4 := PW.b4.cell 0
    have f4 := PW.b4.frozen 0
    have c5 := PW.b5.cell 0
    have c7 := PW.b7.cell 0
    simp only [zG, zH] at c9 c3 c4 c5 c7
    obtain ⟨k, hk⟩ : ∃ k, k = pre.length := ⟨_, rfl⟩
    rw [← hk] at c9 B9W hlen x0 x1
    have Hk := Lib.hid hk
    have hcast : Hid ((k : Int) + 1 = ((pre ++ [(a, q)]).length : Nat)) := Lib.hid (by rw [hk]; simp only [List.length_append, List.length_singleton]; omega)
    have ew : IntKind.i64.wrap ((k : Int) + 1) = (k : Int) + 1 := IntWalk.i64_in _ (by omega)
    have hge : ¬ (k : Int) ≥ (L.length : Int) := by omega
    have hkL : (k : Int) < (L.length : Int) := by omega
    clear hk hx
    by_cases hax : a = x
    · subst hax
      by_cases hqm : q = m
      · subst hqm
        have hqq : (q != q) = false := by cases q <;> rfl
        clear Hne
        cases hst : ((k : Int) == stop) with
        | false =>
          gi_wp2_with fail
          refine ⟨(KeepsOthers.setCell _ _ _).from _, KT.setCell B9W (by decide) 0 _, ?_, hbW.setCell (p := ⟨U.heap.size, 0, none⟩) (Nat.le_refl _) _⟩
          exact cast (congrArg (fun z => Blk _ _ _ #[Value.int .i64 z]) hcast.out) (B9W.set_ 0 (.int .i64 ((k : Int) + 1)))
        | true =>
          gi_wp2_with fail
          refine rngN2 (l₀ := l2) (r₀ := r0) rfl hr0 (by decide) (gf := 95) (lb := #[.pointer (some ⟨be, 0, none⟩)]) rfl trivial (enters_of Tryz.func95 (by kernel_rfl) rfl)
            ((HES3.out W be (hE.below PW.hb) PW.ce).inRound l2) (fun h k => h.trans k) (fun W l o o' _ h hc _ => KT.put W l o o' h hc) (Below.refl _ _) (fun _ => rfl) (fun W => KT.refl _ _ W)
            (fun (pre2 : List (Nat × Bool)) W2 => pre2 = [] ∧ Below W.heap.size W W2)
            (fun cc pre2 W2 => (cc = .exit 2 ∧ Below W.heap.size W W2) ∨ (cc = .ret ∧ ¬ pre2 <+: L))
            (OwnFrom.and (fun _ _ _ _ hs _ _ => hs) (ownFrom_below (Nat.le_refl _) (Nat.le_refl _)))
            (fun cc pre2 A B row hs hg hr => hs.imp (fun h => ⟨h.1, ownFrom_below (β := Unit) (Nat.le_refl W.heap.size) (Nat.le_refl _) () A B row h.2 hg hr⟩) id)
            ⟨rfl, Below.refl _ _⟩
            (fun T (x : Nat × Bool) => ((T.setIfInBounds 65 (.int .i64 (x.1 : Nat))).setIfInBounds 66 (.bool x.2)).setIfInBounds 12 (.int .i64 (x.1 : Nat))) ?assignI ?bodyI ?doneI ?stopI
          case assignI =>
            intro l3 x W K hK
            simp only [zD, zF, zE] at hK
            simp only [encCh]
            gi_wp2
            exact hK
          case doneI =>
            rintro ys W2 hys ⟨h0, hb2⟩
            exfalso
            rw [h0] at hys
            rw [← hys] at hlen
            simp at hlen
          case stopI =>
            rintro cc pre2 W2 hp (⟨rfl, hb2⟩ | ⟨rfl, hnp⟩)
            · have F9 := B9W.below hb2
              have e9 := F9.cell 0
              have g9 := F9.frozen 0
              simp only [zG, zH] at e9
              clear c9 f9 c3 c4 f4 c5 c7 x0 x1
              gi_wp2
              refine ⟨((others_below hb2).trans (KeepsOthers.setCell _ _ _)).from _, KT.trans (KT.below hb2) (KT.setCell F9 (by decide) 0 _), ?_, (hbW.trans (hb2.mono hbW.size)).setCell (p := ⟨U.heap.size, 0, none⟩) (Nat.le_refl _) _⟩
              exact cast (congrArg (fun z => Blk _ _ _ #[Value.int .i64 z]) hcast.out) (F9.set_ 0 (.int .i64 ((k : Int) + 1)))
            · exact absurd hp hnp
          case bodyI =>
            rintro l3 pre2 ⟨a2, q2⟩ W2 hl3 _ ⟨rfl, hb2⟩ hlen2
            simp only [zD, zF, zE]
            obtain ⟨⟨x2, m2⟩, hx2⟩ : ∃ x, L[0]? = some x := ⟨_, List.getElem?_eq_getElem (by omega)⟩
            have Hne2 : Hid (a2 ≠ x2 → ¬ ([] : List (Nat × Bool)) ++ [(a2, q2)] <+: L) := Lib.hid (fun h hp => by
              have h2 := prefix_nextP hp
              rw [List.length_nil, hx2] at h2
              injection h2 with h2
              injection h2 with h2 _
              exact h h2.symm)
            have P2 := PW.below hb2
            obtain ⟨bk2, off2, e2, z0, z1⟩ := P2.rd.atC hx2
            injection e2 with e2
            injection e2 with e2 e3
            subst e2 e3
            have c42 := P2.b4.cell 0
            have f42 := P2.b4.frozen 0
            have c72 := P2.b7.cell 0
            simp only [zG, zH] at c42 c72
            simp only [Nat.zero_mul, Nat.add_zero] at z0 z1
            have hn0 : 0 < L.length := by omega
            have hn0' : (0 : Int) < (L.length : Int) := by omega
            clear hx2 c9 f9 c3 c4 f4 c5 c7 x0 x1
            by_cases h2 : a2 = x2
            · subst h2
              gi_wp2
              exact ⟨KeepsFrom.refl _ _, .inl ⟨rfl, hb2⟩⟩
            · have hne : ((a2 : Int) != (x2 : Int)) = true := by rw [bne_iff_ne]; omega
              have hnp := Lib.hid (Hne2.out h2)
              clear h2 Hne2
              gi_wp2
              exact ⟨(KeepsOthers.setCell _ _ _).from _, .inr ⟨rfl, hnp.out⟩⟩
      · have hnp := Lib.hid (Hne.out (fun h => hqm (by injection h)))
        clear Hne
        cases q with
        | false =>
          cases m with
          | false => exact absurd rfl hqm
          | true =>
            clear hqm
            gi_wp2
            exact ⟨(KeepsOthers.setCell _ _ _).from _, rfl, hnp.out⟩
        | true =>
          cases m with
          | true => exact absurd rfl hqm
          | false =>
            clear hqm
            gi_wp2
            exact ⟨(KeepsOthers.setCell _ _ _).from _, rfl, hnp.out⟩
    · have hne : ((a : Int) != (x : Int)) = true := by rw [bne_iff_ne]; omega
      have hnp := Lib.hid (Hne.out (fun h => hax (by injection h)))
      clear hax Hne
      gi_wp2
      exact ⟨(KeepsOthers.setCell _ _ _).from _, rfl, hnp.out⟩
  case done0 =>
    rintro D xs W hD rfl ⟨B9W, hbW⟩ hK
    have hWz := B9W.lt
    have hzW := hbW.size
    have PZ := hP3.below hbW
    have HD := Lib.hid hK
    have hDlt : D < W.heap.size := (Array.getElem?_eq_some_iff.1 hK).1
    clear hK B9 hb9 hP5 HES HES3
    have hb13 : Below W.heap.size W (W.alloc (.cells #[.int .i64 0] 3)) := (Below.refl _ _).alloc (Nat.le_refl _) _
    have B13 := Blk.new W 3 #[.int .i64 0]
    have c6w := (PZ.b6.below hb13).cell 0
    simp only [zG, zH] at c6w
    go_wp2_with fail
    generalize W.alloc (.cells #[.int .i64 0] 3) = V2 at B13 hb13 c6w ⊢
    have hz13 := B13.lt
    have hzV2 := hb13.size
    have P13 := PZ.below hb13
    have hEV2 := hE.below P13.hb
    clear c6w
    refine (wpIn_wide (n := 6)).1 ?_
    refine rngH rfl (by decide) (gf := 96) (lb := #[.pointer (some ⟨bl, 0, none⟩)]) rfl trivial (enters_of Tryz.func96 (by kernel_rfl) rfl)
      (HLS.out V2 bl hEV2 P13.cl) (fun h k => h.trans k) (fun W l o o' _ h hc _ => KT.put W l o o' h hc) (Below.refl _ _) (fun _ => rfl)
      (fun W => KT.refl _ _ W)
      (fun (pre : List (Nat × Nat)) V => Blk V W.heap.size 3 #[.int .i64 (2 * pre.length : Nat)] ∧ Below W.heap.size W V)
      (fun cc pre V => cc = .ret ∧ ¬ pre <+: M)
      (OwnFrom.and (Go.Own.from (fun s A B row hs hg hr => hs.kept hg hr) _) (ownFrom_below (Nat.le_refl _) (by omega)))
      (fun _ _ _ _ _ hs _ _ => hs)
      ⟨B13, hb13⟩
      (fun T (x : Nat × Nat) => (((T.setIfInBounds 76 (.int .i64 ((clP s x).1 : Nat))).setIfInBounds 77 (.int .i64 ((clP s x).2 : Nat))).setIfInBounds 14 (.int .i64 ((clP s x).1 : Nat))).setIfInBounds 15 (.int .i64 ((clP s x).2 : Nat)))
      ?assign1 ?body1 ?done1 ?stop1
    case assign1 =>
      intro l2 x W K hK
      simp only [zD, zF, zE] at hK
      simp only [encLn]
      gi_wp2
      exact hK
    case stop1 =>
      rintro D2 cc pre W hD hp ⟨rfl, hnp⟩
      exact absurd hp hnp
    case body1 =>
      rintro l2 pre y Wr hl2 ⟨r0, hr0⟩ ⟨B13W, hbr⟩ hlen
      simp only [zD, zF, zE]
      obtain ⟨⟨a, b⟩, hab⟩ : ∃ z, clP s y = z := ⟨_, rfl⟩
      rw [hab]
      simp only
      obtain ⟨⟨x, z⟩, hx⟩ : ∃ x, M[pre.length]? = some x := ⟨_, List.getElem?_eq_getElem hlen⟩
      have Hne : Hid ((a, b) ≠ (x, z) → ¬ pre ++ [y] <+: M) := Lib.hid (fun h hp => by
        have h2 := prefix_nextP hp
        rw [hx] at h2
        injection h2 with h2
        have hm := HF1.out (x, z) (List.mem_of_getElem? hx)
        rw [h2, hab, ← h2] at hm
        exact h hm)
      have PW := PZ.below hbr
      obtain ⟨k2, hk2⟩ : ∃ k, k = 2 * pre.length := ⟨_, rfl⟩
      obtain ⟨j, hj⟩ : ∃ j, j = k2 + 1 := ⟨_, rfl⟩
      have hF := linF_at hx
      rw [← hk2] at hF B13W
      rw [← hj] at hF
      obtain ⟨bk, off, rfl, x0⟩ := PW.rm.atQ hF.1
      obtain ⟨bk', off', e2, x1⟩ := PW.rm.atQ hF.2
      injection e2 with e2
      injection e2 with e2 e3
      subst e2 e3
      simp only at x0 x1
      have hzVW : V2.heap.size ≤ Wr.heap.size := Nat.le_trans hl2 (Nat.le_of_lt (Array.getElem?_eq_some_iff.1 hr0).1)
      have c13 := B13W.cell 0
      have f13 := B13W.frozen 0
      have c3 := PW.b3.cell 0
      have c4 := PW.b4.cell 0
      have f4 := PW.b4.frozen 0
      have c6 := PW.b6.cell 0
      have c8 := PW.b8.cell 0
      simp only [zG, zH] at c13 c3 c4 c6 c8
      have hcast : Hid ((k2 : Int) + 2 = (2 * (pre ++ [y]).length : Nat)) := Lib.hid (by rw [hk2]; simp only [List.length_append, List.length_singleton]; omega)
      have HM0 := Lib.hid (show 0 < M.length by omega)
      obtain ⟨mz, hmz⟩ : ∃ mz, mz = 2 * M.length := ⟨_, rfl⟩
      rw [← hmz] at c8
      have ej : (k2 : Int) + 1 = (j : Int) := by omega
      have ej2 : IntKind.i64.wrap ((k2 : Int) + 1) = (j : Int) := by rw [ej]; exact IntWalk.i64_in _ (by omega)
      have ej3 : IntKind.i64.wrap (j : Int) = (j : Int) := IntWalk.i64_in _ (by omega)
      have ek : IntKind.i64.wrap ((k2 : Int) + 2) = (k2 : Int) + 2 := IntWalk.i64_in _ (by omega)
      have hge : ¬ (j : Int) ≥ (mz : Int) := by omega
      have hjm : (j : Int) < (mz : Int) := by omega
      have hjn : j < mz := by omega
      have hkm : (k2 : Int) < (mz : Int) := by omega
      have hkn : k2 < mz := by omega
      have h1m : 1 < mz := by omega
      have h1m' : (1 : Int) < (mz : Int) := by omega
      clear hab hx hF hk2 hj hmz hlen
      by_cases hax : a = x
      · subst hax
        by_cases hbz : b = z
        · subst hbz
          clear Hne
          cases hst : ((k2 : Int) == wrap64 (2 * stop)) with
          | false =>
            gi_wp2_with fail
            refine ⟨(KeepsOthers.setCell _ _ _).from _, KT.setCell B13W (by decide) 0 _, ?_, hbr.setCell (p := ⟨W.heap.size, 0, none⟩) (Nat.le_refl _) _⟩
            exact cast (congrArg (fun z => Blk _ _ _ #[Value.int .i64 z]) hcast.out) (B13W.set_ 0 (.int .i64 ((k2 : Int) + 2)))
          | true =>
            gi_wp2_with fail
            refine rngN2 (l₀ := l2) (r₀ := r0) rfl hr0 (by decide) (gf := 96) (lb := #[.pointer (some ⟨bl, 0, none⟩)]) rfl trivial (enters_of Tryz.func96 (by kernel_rfl) rfl)
              ((HLS3.out Wr bl (hE.below PW.hb) PW.cl).inRound l2) (fun h k => h.trans k) (fun W l o o' _ h hc _ => KT.put W l o o' h hc) (Below.refl _ _) (fun _ => rfl) (fun W => KT.refl _ _ W)
              (fun (pre2 : List (Nat × Nat)) W2 => pre2 = [] ∧ Below Wr.heap.size Wr W2)
              (fun cc pre2 W2 => (cc = .exit 6 ∧ Below Wr.heap.size Wr W2) ∨ (cc = .ret ∧ ¬ pre2 <+: M))
              (OwnFrom.and (fun _ _ _ _ hs _ _ => hs) (ownFrom_below (Nat.le_refl _) (Nat.le_refl _)))
              (fun cc pre2 A B row hs hg hr => hs.imp (fun h => ⟨h.1, ownFrom_below (β := Unit) (Nat.le_refl Wr.heap.size) (Nat.le_refl _) () A B row h.2 hg hr⟩) id)
              ⟨rfl, Below.refl _ _⟩
              (fun T (x : Nat × Nat) => (((T.setIfInBounds 105 (.int .i64 ((clP s x).1 : Nat))).setIfInBounds 106 (.int .i64 ((clP s x).2 : Nat))).setIfInBounds 16 (.int .i64 ((clP s x).1 : Nat))).setIfInBounds 17 (.int .i64 ((clP s x).2 : Nat))) ?assignJ ?bodyJ ?doneJ ?stopJ
            case assignJ =>
              intro l3 x W K hK
              simp only [zD, zF, zE] at hK
              simp only [encLn]
              gi_wp2
              exact hK
            case doneJ =>
              rintro ys W2 hys ⟨h0, hb2⟩
              exfalso
              have := HM0.out
              rw [← hys, h0] at this
              simp at this
            case stopJ =>
              rintro cc pre2 W2 hp (⟨rfl, hb2⟩ | ⟨rfl, hnp⟩)
              · have F9 := B13W.below hb2
                have e9 := F9.cell 0
                have g9 := F9.frozen 0
                simp only [zG, zH] at e9
                clear c13 f13 c3 c4 f4 c6 c8 x0 x1
                gi_wp2
                refine ⟨((others_below hb2).trans (KeepsOthers.setCell _ _ _)).from _, KT.trans (KT.below hb2) (KT.setCell F9 (by decide) 0 _), ?_, (hbr.trans (hb2.mono hbr.size)).setCell (p := ⟨W.heap.size, 0, none⟩) (Nat.le_refl _) _⟩
                exact cast (congrArg (fun z => Blk _ _ _ #[Value.int .i64 z]) hcast.out) (F9.set_ 0 (.int .i64 ((k2 : Int) + 2)))
              · exact absurd hp hnp
            case bodyJ =>
              rintro l3 pre2 y2 W2 hl3 _ ⟨rfl, hb2⟩ hlen2
              simp only [zD, zF, zE]
              obtain ⟨⟨a2, b2⟩, hab2⟩ : ∃ z, clP s y2 = z := ⟨_, rfl⟩
              rw [hab2]
              simp only
              obtain ⟨⟨x2, z2⟩, hx2⟩ : ∃ x, M[0]? = some x := ⟨_, List.getElem?_eq_getElem HM0.out⟩
              have hx20 : x2 = 0 := HF0.out _ hx2
              subst hx20
              have Hne2 : Hid ((a2, b2) ≠ (0, z2) → ¬ ([] : List (Nat × Nat)) ++ [y2] <+: M) := Lib.hid (fun h hp => by
                have h2 := prefix_nextP hp
                rw [List.length_nil, hx2] at h2
                injection h2 with h2
                have hm := HF1.out (0, z2) (List.mem_of_getElem? hx2)
                rw [h2, hab2, ← h2] at hm
                exact h hm)
              have P2 := PW.below hb2
              have hF2 := (linF_at hx2).2
              obtain ⟨bk2, off2, e2, w1⟩ := P2.rm.atQ hF2
              injection e2 with e2
              injection e2 with e2 e3
              subst e2 e3
              have c42 := P2.b4.cell 0
              have f42 := P2.b4.frozen 0
              have c82 := P2.b8.cell 0
              simp only [zG, zH] at c42 c82
              simp only [Nat.mul_zero, Nat.zero_add] at w1
              try simp only at w1
              have h1M : 1 < 2 * M.length := by have := HM0.out; omega
              generalize 2 * M.length = mz2 at c82 h1M
              have h1M' : (1 : Int) < (mz2 : Int) := by omega
              clear hx2 hab2 hF2 c13 f13 c3 c4 f4 c6 c8 x0 x1
              by_cases h2 : a2 = 0
              · subst h2
                by_cases h3 : b2 = z2
                · subst h3
                  gi_wp2
                  exact ⟨KeepsFrom.refl _ _, .inl ⟨rfl, hb2⟩⟩
                · have hne : ((b2 : Int) != (z2 : Int)) = true := by rw [bne_iff_ne]; omega
                  have hnp := Lib.hid (Hne2.out (fun h => h3 (by injection h)))
                  clear h3 Hne2
                  gi_wp2
                  exact ⟨(KeepsOthers.setCell _ _ _).from _, .inr ⟨rfl, hnp.out⟩⟩
              · have hne : ((a2 : Int) != 0) = true := by rw [bne_iff_ne]; omega
                have hnp := Lib.hid (Hne2.out (fun h => h2 (by injection h)))
                clear h2 Hne2
                gi_wp2
                exact ⟨(KeepsOthers.setCell _ _ _).from _, .inr ⟨rfl, hnp.out⟩⟩
        · have hne : ((b : Int) != (z : Int)) = true := by rw [bne_iff_ne]; omega
          have hnp := Lib.hid (Hne.out (fun h => hbz (by injection h)))
          clear hbz Hne
          gi_wp2
          exact ⟨(KeepsOthers.setCell _ _ _).from _, rfl, hnp.out⟩
      · have hne : ((a : Int) != (x : Int)) = true := by rw [bne_iff_ne]; omega
        have hnp := Lib.hid (Hne.out (fun h => hax (by injection h)))
        clear hax Hne
        gi_wp2
        exact ⟨(KeepsOthers.setCell _ _ _).from _, rfl, hnp.out⟩
    case done1 =>
      rintro D2 ys V hD2 hys ⟨B13V, hbV⟩ hK2
      subst hys
      have PV := PZ.below hbV
      have B9V := B9W.below hbV
      have c9 := B9V.cell 0
      have c13 := B13V.cell 0
      have c7 := PV.b7.cell 0
      have c8 := PV.b8.cell 0
      simp only [zG, zH] at c9 c13 c7 c8
      have Hsz := Lib.hid (And.intro hD (And.intro hD2 (And.intro hDlt hz4)))
      have HD2 := Lib.hid hK2
      have HzW := Lib.hid (And.intro hzW (And.intro hzV2 hzU))
      have HDV : Hid (V.heap[D]? = some (.deferred (some []))) := Lib.hid ((hbV.block D hDlt).trans HD.out)
      clear hK2 B9W B13 hb13 P13
      go_wp2_with fail
      refine (HLv.out _ (hE.below PV.hb)).mono ?_
      rintro e we ⟨rfl, hbe⟩
      have PE := PV.below hbe
      have c4 := PE.b4.cell 0
      have f4 := PE.b4.frozen 0
      simp only [zG, zH] at c4
      clear c9 c13 c7 c8
      go_wp2_with fail
      obtain ⟨s1, s2, s3, s4⟩ := Hsz.out
      obtain ⟨u1, u2, u3⟩ := HzW.out
      have kD2 : (we.setCell ⟨w.heap.size + 1, 0, none⟩ (.bool true)).heap[D2]? = some (.deferred (some [])) := (Below.heap_setCell we ⟨w.heap.size + 1, 0, none⟩ (.bool true) D2 (by simp only; omega)).trans ((hbe.block D2 (Array.getElem?_eq_some_iff.1 HD2.out).1).trans HD2.out)
      have kD : (we.setCell ⟨w.heap.size + 1, 0, none⟩ (.bool true)).heap[D]? = some (.deferred (some [])) := (Below.heap_setCell we ⟨w.heap.size + 1, 0, none⟩ (.bool true) D (by simp only; omega)).trans ((hbe.block D (Array.getElem?_eq_some_iff.1 HDV.out).1).trans HDV.out)
      have B4v := PE.b4.set_ 0 (.bool true)
      have c7 := B4v.cell 0
      simp only [zG, zH, zD, zE] at c7
      have HBv := PE.hb.setCell (p := ⟨w.heap.size + 1, 0, none⟩) (by simp only; omega) (.bool true)
      generalize we.setCell ⟨w.heap.size + 1, 0, none⟩ (.bool true) = Wv at kD2 kD c7 HBv ⊢
      have hDD : D ≠ D2 := by omega
      refine ⟨by simp, .inl ⟨_, _, rfl, run_takeDeferred kD2, ?_⟩⟩
      have kD3 := (World.putObj_heap_other (w := Wv) (o := .deferred none) hDD).trans kD
      have c72 := (World.cell?_of_block (a := ⟨w.heap.size + 1, 0, none⟩) (World.putObj_heap_other (w := Wv) (r := D2) (o := .deferred none) (by simp only; omega))).trans c7
      have HB2 := HBv.trans (belowK_b (w := w) (Nat.le_refl _) _ D2 _ (.deferred none) (by omega) kD2 rfl rfl)
      generalize Wv.putObj D2 (.deferred none) = Wq at kD3 c72 HB2 ⊢
      refine ⟨by simp, .inl ⟨_, _, rfl, run_takeDeferred kD3, ?_⟩⟩
      refine ⟨_, res_lineEach _ (w.heap.size + 1) _ rfl ((World.cell?_of_block (World.putObj_heap_other (by simp only; omega))).trans c72), rfl, ?_⟩
      exact HB2.trans (belowK_b (w := w) (Nat.le_refl _) _ D _ _ (by omega) kD3 rfl rfl)
end
end Go.Proofs.YtglmcknlnoknoaaGreatDoor
