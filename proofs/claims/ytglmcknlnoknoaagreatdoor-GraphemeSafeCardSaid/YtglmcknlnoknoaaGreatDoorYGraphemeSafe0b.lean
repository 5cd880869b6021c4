/-
 Several texts in one,in their build order: RunT,Ue,Rng,AppIn,RngC,Ge,Each,Kt,WorT,Rgn,Wl,RefY,RefZ.
-/
import Derived.RangeFuncNested
import Derived.RangeFuncBound
import Derived.RangeFuncCalls
import Derived.RangeFuncLeaves
import Derived.Shelf.Abstract
import Derived.Shelf.RegionOpen
import Derived.OwnWalkIn
import Derived.TacticsInMore
import Derived.LoopNIn
import Derived.LoopIn
import Derived.RangeFuncKeeps
import Derived.Deep.RegionHeld3
import Derived.CallsIn
import Derived.OrdersIn
import Derived.Lib.AppendStr
import Derived.Lib.BufferRead
import Derived.Lib.UnsafeStr
import Derived.Test.YtglmcknlnoknoaaGreatDoorG0a
import Derived.Test.YtglmcknlnoknoaaGreatDoorYGraphemeSafe0a
import Derived.Test.YtglmcknlnoknoaaGreatDoorG1a
import Derived.Test.YtglmcknlnoknoaaGreatDoorGWc
import Derived.Test.YtglmcknlnoknoaaGreatDoorGRefU
/- -/
namespace Go.Proofs.YtglmcknlnoknoaaGreatDoor
open Go.RowKit Go.Shelf
attribute [local go_sem] Oper.semAt_some
structure Mid (m n : Nat) (W W' : World) : Prop where
 size : W.heap.size ≤ W'.heap.size
 block : ∀ k,m ≤ k → k < n → W'.heap[k]? = W.heap[k]?
def Kp (m n : Nat) (W W' : World) : Prop:=Mid m n W W' ∧ KeepsWalks W W'
theorem grown_of_below {w w' : World} (h : RowKit.Below w.heap.size w w') : w.grownBy w' none:=⟨h.os,h.tape,h.output,h.size,fun k hk _=>h.block k hk⟩
theorem abides_below {β : Type} {B : Nat} {J : β → World → Prop} (h : AbidesFrom B J) {x : β} {w w' : World} (hx : J x w) (hb : RowKit.Below w.heap.size w w') : J x w':=h x w w' none hx (grown_of_below hb) (fun _ e=>by cases e)
section
variable {s : ByteArray} {set : List (Int × Int)} {f p : Nat} {cur : Option Nat} {pre : List (Nat × Nat)} {R W : Nat}
end
theorem not_row {w : World} {row : Option Nat} {b : Nat} {o : Obj} (hb : w.heap[b]? = some o) (hc : o.isCells = true) (hr : ∀ r,row = some r → ∃ o : Obj,w.heap[r]? = some o ∧ o.isCells = false) : some b ≠ row:=by
 rintro rfl
 obtain ⟨o',h1,h2⟩:=hr b rfl
 rw [hb] at h1;cases h1;rw [hc] at h2;cases h2
theorem Blk.kept {w w' : World} {row : Option Nat} {g : Nat} {t : TypeId} {cs : Array Value} (h : Blk w g t cs) (hg : w.grownBy w' row) (hr : ∀ r,row = some r → ∃ o : Obj,w.heap[r]? = some o ∧ o.isCells = false) : Blk w' g t cs:=h.grown hg (not_row h rfl hr)
end Go.Proofs.YtglmcknlnoknoaaGreatDoor
/- -/
namespace Go.Proofs.YtglmcknlnoknoaaGreatDoor
open Go.RowKit Go.Shelf
attribute [local go_sem] Oper.semAt_some
end Go.Proofs.YtglmcknlnoknoaaGreatDoor
/- -/
namespace Go.Proofs.YtglmcknlnoknoaaGreatDoor
open Go.RowKit
section
variable {P : Program} {F : Fence} {n : Nat}
theorem rngH {α : Type} {g : Operand} {ps : Array Tmp} {assign body : Code} {Q : Exit → Act → World → Prop} {a : Act} {w : World}
  (hro : F.round = none) (h1 : 1 ≤ n) {gf : Nat} {lb : Array Value} (hg : a.eval g = .func (.func gf) #[] lb) (hFg : F.fn gf) (eg : ∀ args w,(callFunc gf args).run P w = .ok (.enter gf args) w)
  {encs : α → Array Value} {Kp : World → World → Prop} {S Sp : List α → Prop} {N : Nat} {w0 : World} (hseq : SeqStopsK F (n - 1) P gf lb encs Kp S Sp N w0)
  (hKt : ∀ {A B C : World},Kp A B → Kp B C → Kp A C) (hKb : ∀ (W : World) (l : Nat) (o o' : Obj),w.heap.size ≤ l → W.heap[l]? = some o → o.isCells = false → o.isWalk = false → Kp W (W.putObj l o')) (hb0 : Below w0.heap.size w0 w) (hps : ∀ x,(encs x).size = ps.size) (hKr : ∀ W,Kp W W)
  (I : List α → World → Prop) (Ix : Code → List α → World → Prop) (hI : OwnFrom w.heap.size I) (hIx : ∀ c,OwnFrom w.heap.size (Ix c)) (h0 : I [] w) (f : Array Value → α → Array Value)
  (hassign : ∀ (l : Nat) (x : α) (W : World) (K : Act → World → Prop),K { tmps:=f a.tmps x,defers:=[] } W →
   assign.wpIn (F.inRound l) (n - 1 - 1) P (Exit.then K (fun _ _ _=>False)) { tmps:=(ps.zip (encs x)).foldl (fun t (p,v)=>t.setIfInBounds p v) a.tmps,defers:=[] } W)
  (hbody : ∀ (l : Nat) (pre : List α) (x : α) (W : World),w.heap.size ≤ l → (∃ r,W.heap[l]? = some (.loop r)) → I pre W → pre.length < N → body.wpIn (F.inRound l) (n - 1 - 1) P (ownPostG w.heap.size Kp I Ix (pre ++ [x]) W) { tmps:=f a.tmps x,defers:=[] } W)
  (hdone : ∀ (D : Nat) (xs : List α) (W : World),w.heap.size ≤ D → S xs → I xs W → W.heap[D]? = some (.deferred (some [])) → Q .normal { a with defers:={ target:=.collected D,args:=#[] } :: a.defers } W)
  (hstop : ∀ (D : Nat) (c : Code) (pre : List α) (W : World),w.heap.size ≤ D → Sp pre → Ix c pre W → W.heap[D]? = some (.deferred (some [])) → c.wpIn F n P Q { a with defers:={ target:=.collected D,args:=#[] } :: a.defers } W) :
  (Code.rangeFunc g ps assign body).wpIn F n P Q a w :=
 wpIn_rangeFunc_ownH hro h1 hg hFg eg hseq (fun h k=>hKt h k) hKb hb0 hps I Ix hI hIx h0 (fun x a' _=>a' = { tmps:=f a.tmps x,defers:=[] }) (fun _ _ _ _ _ _ hs _ _=>hs)
  (fun l _ x W K hi hK=>hassign l x W K (hK _ _ (KeepsFrom.refl _ _) (hKr W) hi rfl)) (fun l pre x a' W hl hr hi e=>by subst e;exact hbody l pre x W hl hr hi) hdone hstop
end
end Go.Proofs.YtglmcknlnoknoaaGreatDoor
/- -/
namespace Go.Proofs.YtglmcknlnoknoaaGreatDoor
open Go.RowKit
section
variable {P : Program}
end
end Go.Proofs.YtglmcknlnoknoaaGreatDoor
/- -/
namespace Go.Proofs.YtglmcknlnoknoaaGreatDoor
open Go.RowKit
section
variable {P : Program} {F : Fence} {n : Nat} {α : Type}
variable {encs : α → Array Value} {Kp : World → World → Prop} {I : List α → World → Prop} {Ix : Code → List α → World → Prop} {ps : Array Tmp} {assign body : Code}
variable {g : Operand} {Q : Exit → Act → World → Prop} {a : Act} {w : World}
end
end Go.Proofs.YtglmcknlnoknoaaGreatDoor
/- -/
namespace Go.Proofs.YtglmcknlnoknoaaGreatDoor
open Go.RowKit Go.Shelf
attribute [local go_sem] Oper.semAt_some
theorem Own.kept1 {w w' : World} {base : Nat} {e : TypeId} {s : Nat} {A : Option Addr} {n c : Nat} {cs : List (List Value)} {row : Option Nat} (h : Own w base e s A n c cs) (hg : w.grownBy w' row) (hr : ∀ r,row = some r → ∃ o : Obj,w.heap[r]? = some o ∧ o.isCells = false) : Own w' base e s A n c cs:=by
 refine h.keep fun a ha=>?_
 have hl:=(h.lt a ha).2
 refine hg.block _ hl fun e=>?_
 obtain ⟨o,h1,h2⟩:=hr _ e.symm
 rcases h.2.2.2 with ⟨h0,_⟩ | ⟨g,cap,cur,hv,_,hh,_⟩
 ·injection h0 with h0;rw [ha] at h0;cases h0
 ·injection hv with hv
  rw [ha] at hv
  injection hv with hv
  subst hv
  rw [hh] at h1
  cases h1
  cases h2
def Gat (w0 : World) (ab : Nat) (vt e : TypeId) (cs : List (List Value)) (W : World) : Prop :=
 ∃ A n c,Blk W ab vt #[.slice A n c] ∧ Own W w0.heap.size e 1 A n c cs ∧ w0.grownBy W (some ab)
theorem Gat.own {α : Type} {w0 : World} {ab B : Nat} {vt e : TypeId} {f : List α → List (List Value)} (hB : w0.heap.size ≤ B) : OwnFrom B (fun (pre : List α) W=>Gat w0 ab vt e (f pre) W):=fun pre X Y row hs hg hr=>by
 obtain ⟨A,n,c,h1,h2,h3⟩:=hs
 refine ⟨A,n,c,h1.kept hg (fun r e=>(hr r e).2),h2.kept1 hg (fun r e=>(hr r e).2),⟨hg.os.trans h3.os,hg.tape.trans h3.tape,hg.output.trans h3.output,Nat.le_trans h3.size hg.size,fun k hk hne=>?_⟩⟩
 refine (hg.block k (Nat.lt_of_lt_of_le hk h3.size) (fun e=>?_)).trans (h3.block k hk hne)
 have:=(hr k e.symm).1
 omega
theorem Gat.step {w0 W V : World} {ab : Nat} {vt e : TypeId} {A A3 : Option Addr} {n c n3 c3 : Nat} {cs cs3 : List (List Value)} (hab : ab < w0.heap.size) (hB : Blk W ab vt #[.slice A n c]) (ho : Own W w0.heap.size e 1 A n c cs) (hg : w0.grownBy W (some ab))
  (hV : W.grownBy V (A.map (·.block))) (ho3 : Own V w0.heap.size e 1 A3 n3 c3 cs3) :
  KeepsFrom w0.heap.size W (V.setCell ⟨ab,0,none⟩ (.slice A3 n3 c3)) ∧ KeepsWalks W (V.setCell ⟨ab,0,none⟩ (.slice A3 n3 c3)) ∧ Gat w0 ab vt e cs3 (V.setCell ⟨ab,0,none⟩ (.slice A3 n3 c3)):=by
 have hzW:=hg.size
 have hA:=ho.lt
 have hrow : ∀ (j : Nat) (o : Obj),A.map (·.block) = some j → W.heap[j]? = some o → o.isCells = true:=fun j o hj hoo=>by
  cases A with
  | none=>simp at hj
  | some q =>
   simp at hj;subst hj
   rcases ho.2.2.2 with ⟨h0,_⟩ | ⟨g,cap,cur,hv,_,hh,_⟩
   ·injection h0 with h0;cases h0
   ·injection hv with hv
    injection hv with hv
    subst hv
    rw [hh] at hoo
    cases hoo;rfl
 have hkk:=(KeepsOthers.of_grownBy hV hrow).trans (KeepsOthers.setCell V ⟨ab,0,none⟩ (.slice A3 n3 c3))
 have hge : ∀ q,A.map (·.block) = some q → w0.heap.size ≤ q:=fun q hq=>by
  cases A with
  | none=>simp at hq
  | some z=>have:=(hA z rfl).1;simp at hq;omega
 have hblk : ∀ k,k < w0.heap.size → V.heap[k]? = W.heap[k]?:=fun k hk=>hV.block k (by omega) (fun e=>by have:=hge k e.symm;omega)
 have hz3 : W.heap.size ≤ V.heap.size:=hV.size
 have hB3 : Blk V ab vt #[.slice A n c]:=(hblk ab hab).trans hB
 refine ⟨hkk.from _,hkk.walks,A3,n3,c3,hB3.set_ 0 _,ho3.keep (fun q hq=>Below.heap_setCell V ⟨ab,0,none⟩ _ _ (by have:=(ho3.lt q hq).1;simp only;omega)),?_⟩
 refine ⟨hV.os.trans hg.os,hV.tape.trans hg.tape,hV.output.trans hg.output,by simpa [World.setCell] using Nat.le_trans hzW hz3,fun k hk hne=>?_⟩
 exact (Below.heap_setCell V ⟨ab,0,none⟩ _ k (fun e=>hne (by rw [e]))).trans ((hblk k hk).trans (hg.block k hk hne))
end Go.Proofs.YtglmcknlnoknoaaGreatDoor
/- -/
namespace Go.Proofs.YtglmcknlnoknoaaGreatDoor
open Go.RowKit Go.Shelf
attribute [local go_sem] Oper.semAt_some
end Go.Proofs.YtglmcknlnoknoaaGreatDoor
/- -/
namespace Go.Proofs.YtglmcknlnoknoaaGreatDoor
open Go Go.RowKit
def KT (t : TypeId) (X : Nat → Prop) (W W' : World) : Prop:=W.heap.size ≤ W'.heap.size ∧ ∀ (k : Nat) (cur : Array Value) (fz : Nat × Nat),¬ X k → W.heap[k]? = some (.cells cur t fz) → W'.heap[k]? = some (.cells cur t fz)
theorem Rd.atQ {w : World} {A : Option Addr} {l : List Nat} {k x : Nat} (h : Rd w 1 A (l.map fun a=>[.int .i64 (a : Nat)])) (hk : l[k]? = some x) : ∃ b off,A = some ⟨b,off,none⟩ ∧ w.cell? ⟨b,off + k,none⟩ = some (.int .i64 (x : Nat)):=by
 obtain ⟨b,off,rfl,hc⟩:=h (by intro e;have:=congrArg List.length e;rw [List.length_map] at this;have h2:=(List.getElem?_eq_some_iff.1 hk).1;simp at this;rw [this] at h2;simp at h2)
 have h0:=hc k 0 [.int .i64 (x : Nat)] (.int .i64 (x : Nat)) (by simp [hk]) rfl
 refine ⟨b,off,rfl,?_⟩
 simpa using h0
theorem Rd.manyQ (W : World) (t : TypeId) (s : Nat) (cs : List (List Value)) (arr : Array Value) (harr : arr = cs.flatten.toArray) (h : ∀ x ∈ cs,x.length = s) : Rd (W.alloc (.cells arr t)) s (some ⟨W.heap.size,0,none⟩) cs:=fun _ =>
 ⟨W.heap.size,0,rfl,fun k j x u hx hu=>by
  subst harr
  rw [(Blk.new W t cs.flatten.toArray).cell (0 + k * s + j),List.getElem?_toArray,Nat.zero_add]
  exact flatten_get h hx hu⟩
section
variable {t : TypeId} {X : Nat → Prop} {A B C : World}
theorem KT.refl (t : TypeId) (X : Nat → Prop) (W : World) : KT t X W W:=⟨Nat.le_refl _,fun _ _ _ _ h=>h⟩
theorem KT.trans (h : KT t X A B) (k : KT t X B C) : KT t X A C:=⟨Nat.le_trans h.1 k.1,fun i c z hx hc=>k.2 i c z hx (h.2 i c z hx hc)⟩
theorem KT.put (W : World) (l : Nat) (o o' : Obj) (h : W.heap[l]? = some o) (hc : o.isCells = false) : KT t X W (W.putObj l o') :=
 ⟨by simp,fun k c z _ hk=>by
  by_cases e : k = l
  ·subst e;rw [h] at hk;cases hk;cases hc
  ·exact (World.putObj_heap_other e).trans hk⟩
theorem KT.own {base : Nat} {s : Nat} {P : Option Addr} {n c : Nat} {cs : List (List Value)} (h : KT t X A B) (ho : Own A base t s P n c cs) (hX : ∀ b,X b → b < base) : Own B base t s P n c cs:=by
 refine ho.keep fun a ha=>?_
 rcases ho.2.2.2 with ⟨h0,_⟩ | ⟨g,cap,cur,hv,hg,hh,_⟩
 ·injection h0 with h0;rw [h0] at ha;cases ha
 ·injection hv with hv
  rw [hv] at ha
  injection ha with ha
  subst ha
  exact (h.2 _ _ _ (fun hx=>by have:=hX _ hx;omega) hh).trans hh.symm
theorem Gat.stepT {w0 W V : World} {ab : Nat} {vt e : TypeId} {P : Option Addr} {n c : Nat} {cs : List (List Value)} (he : e ≠ t) (hv : vt ≠ t) (hB : Blk W ab vt #[.slice P n c]) (ho : Own W w0.heap.size e 1 P n c cs) (hV : W.grownBy V (P.map (·.block))) (x : Value) :
  KT t X W (V.setCell ⟨ab,0,none⟩ x):=by
 refine ⟨by simpa [World.setCell] using hV.size,fun k cur fz _ hk=>?_⟩
 have h1 : k ≠ ab:=fun e=>by
  subst e
  have h2 : W.heap[k]? = some _:=hB
  rw [h2] at hk
  injection hk with hk
  injection hk with _ hk
  exact hv hk
 refine (Below.heap_setCell V ⟨ab,0,none⟩ _ k h1).trans ((hV.block k (Array.getElem?_eq_some_iff.1 hk).1 (fun e2=>?_)).trans hk)
 rcases ho.2.2.2 with ⟨h0,_⟩ | ⟨g,cap,cur2,hv2,_,hh,_⟩
 ·injection h0 with h0;rw [h0] at e2;cases e2
 ·injection hv2 with hv2
  rw [hv2] at e2
  injection e2 with e2
  simp only at e2
  subst e2
  rw [hh] at hk
  injection hk with hk
  injection hk with _ hk
  exact he hk
end
end Go.Proofs.YtglmcknlnoknoaaGreatDoor
/- -/
namespace Go.Proofs.YtglmcknlnoknoaaGreatDoor
def clP (s : ByteArray) (x : Nat × Nat) : Nat × Nat:=if x.1 ≤ x.2 ∧ x.2 ≤ s.size then x else (0,0)
theorem clP_le (s : ByteArray) (x : Nat × Nat) : (clP s x).1 ≤ (clP s x).2 ∧ (clP s x).2 ≤ s.size:=by
 unfold clP
 split
 ·assumption
 ·exact ⟨Nat.le_refl _,Nat.zero_le _⟩
theorem clP_in {s : ByteArray} {x : Nat × Nat} (h : x.1 ≤ x.2 ∧ x.2 ≤ s.size) : clP s x = x:=if_pos h
end Go.Proofs.YtglmcknlnoknoaaGreatDoor
/- -/
namespace Go.Proofs.YtglmcknlnoknoaaGreatDoor
open Go Go.RowKit
section
variable {P : Program} {Q : Exit → Act → World → Prop} {l n : Nat}
def noDefer (ops : Array Oper) : Bool:=ops.toList.all fun o=>match o.op with | .defer _=>false | _=>true
theorem noDefer_at {ops : Array Oper} (h : noDefer ops = true) {i : Nat} {o : Oper} (ho : ops[i]? = some o) : ∀ c,o.op ≠ .defer c:=fun c hc=>by
 unfold noDefer at h
 rw [List.all_eq_true] at h
 have:=h o (by rw [← Array.getElem?_toList] at ho;exact List.mem_of_getElem? ho)
 rw [hc] at this
 cases this
theorem wpIn_of_wp_round {o : Oper} (hd : ∀ c,o.op ≠ .defer c) {a : Act} {w : World} {K : Act → World → Prop} (h : o.wp P a w K Q) : o.wpIn (Fence.wide.inRound l) n P a w K Q:=by
 refine ⟨fun _ _=>trivial,?_⟩
 rw [Oper.semAt_plain _ _ _ hd]
 unfold Oper.wp at h
 generalize (execOp a.eval o).run P w = r at h ⊢
 cases r with
 | ok x w' =>
  cases x with
  | enter f args=>exact ⟨fun h=>by simp [Fence.wide,Fence.inRound] at h,CallsIn.inRound l (callsIn_wide.2 h)⟩
  | row row args=>exact ⟨fun h=>by simp [Fence.wide,Fence.inRound] at h,fun c cs _=>let ⟨v,w2,r1,s1⟩:=h c cs;⟨v,w2,r1,stepsIn_wide.2 s1⟩⟩
  | round=>exact False.elim h
  | _=>exact h
 | halt x w'=>cases x <;> exact h
theorem wpOpsIn_round {ops : Array Oper} (hd : noDefer ops = true) (hL : ¬ LetsOut Q) : ∀ (L : List Nat) (a : Act) (w : World),wpOps P ops Q L a w → wpOpsIn (Fence.wide.inRound l) n P ops Q L a w
 | [],_,_,h=>h
 | i :: rest,a,w,h=>by
  unfold wpOps at h
  unfold wpOpsIn
  cases ho : ops[i]? with
  | none=>simp only [ho] at h ⊢;exact wpOpsIn_round hd hL rest a w h
  | some o =>
   simp only [ho] at h ⊢
   by_cases hw : Region.wanted o (yielded ops a.tmps) = true
   ·simp only [hw,if_true] at h ⊢
    rcases h with h | h
    ·exact Oper.wpIn_mono (fun a w h=>wpOpsIn_round hd hL rest a w h) (wpIn_of_wp_round (noDefer_at hd ho) h)
    ·exact absurd h.2 hL
   ·simp only [hw,if_false,Bool.false_eq_true] at h ⊢
    exact ⟨fun _ _=>trivial,wpOpsIn_round hd hL rest _ w h⟩
theorem wpIn_region_round {S : World → Prop} {id : Nat} {ops : Array Oper} {a : Act} {w : World} (hm : P.follows .mixedOrders = true) (hd : noDefer ops = true) (hL : ¬ LetsOut Q) (hS : S w.drew)
  (h : S w.drew → wpAnyH P .any ops Q S ops.size (Array.replicate ops.size false) a w.drew) : (Code.region id ops true).wpIn (Fence.wide.inRound l) n P Q a w :=
 wpIn_region_draw fun t=>by
  simp only [Region.schedule,hm,Bool.true_or,if_true]
  exact wpOpsIn_round hd hL _ _ _ (wpAny_sound ops.size t _ a _ (wpAny_of_held _ _ _ _ (h hS)))
end
end Go.Proofs.YtglmcknlnoknoaaGreatDoor
/- -/
namespace Go.Proofs.YtglmcknlnoknoaaGreatDoor
open Go.RowKit Go.Shelf Go.Maps
attribute [local go_sem] Oper.semAt_some
end Go.Proofs.YtglmcknlnoknoaaGreatDoor
/- -/
namespace Go.Proofs.YtglmcknlnoknoaaGreatDoor
open Go.RowKit
end Go.Proofs.YtglmcknlnoknoaaGreatDoor
/- -/
namespace Go.Proofs.YtglmcknlnoknoaaGreatDoor
open Go.RowKit
theorem step_appS {P : Program} {ops : Array Oper} {o : Oper} {a : Act} {w : World} {K : Act → World → Prop} {Q : Exit → Act → World → Prop} {E : Prop} (hgd : o.guard = none) (sl x : Operand) (t u : TypeId)
  (ho : o.op = .call { callee:=.builtin .append,args:=#[sl,x],argTypes:=#[t,u] })
  (base : Nat) (e : TypeId) (i : TypeInfo) (ht : P.underlying t = some (.slice e)) (hu : P.underlying u = some .string) (hi : P.info? e = some i) (hz : i.zero = some (.int .u8 0))
  (hsize : i.size = 1) (hby : i.bytes = 1)
  (v : Value) (n : Nat) (xs : List Value) (hs : a.eval sl = v) (hown : w.ownsRow base e 1 v n xs) (s : ByteArray) (hx : a.eval x = .string s)
  (h63 : n + s.size ≤ maxLen) (hbytes : n + s.size ≤ 140737488355328) (hbase : base ≤ w.heap.size)
  (h : ∀ v' w',w'.ownsRow base e 1 v' (n + s.size) (xs ++ Lib.strCells s) → w.grownBy w' v.ownBlock → K (a.put o.dst v') w') :
  if Region.wanted o (yielded ops a.tmps) = true then Oper.wp P o a w K Q else E:=by
 have hw : Region.wanted o (yielded ops a.tmps) = true:=by simp [Region.wanted,hgd]
 rw [if_pos hw]
 obtain ⟨v',w',hr,h2,h3,_⟩:=Lib.run_append_own_string (P:=P) w base t u o.type e i ht hu hi hz hsize hby v n xs hown s h63 hbytes hbase
 unfold Oper.wp execOp
 simp only [ho,resolve,invoke,builtin,Sem.run_bind,Sem.run_pure,Result.andThen_ok,List.map_toArray,List.map_cons,List.map_nil,hs,hx,hr]
 exact h v' w' h2 h3
end Go.Proofs.YtglmcknlnoknoaaGreatDoor
