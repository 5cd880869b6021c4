/-
 Several texts in one,in their build order: Mem,App,Plain,Base,Hex,Par,Par2,PropsP,PropsQ,PropsR,PropsS,PropsT,PrintP,PropsU,Alg,PropsV,PropsW,PropsX,DbM,WP,WP2,WP3,DbX,Same,Sort,Txt,PropsY,Fmt,Post.
-/
import Derived.Deep.RegionHeld3
import Derived.KernelRfl
import Derived.Below
import Derived.Laws.OwnMore
import Derived.Deep.AppendLies
import Derived.Deep.Draws
import Derived.Lib.Hide
import Derived.Maps.AppendAt
import Derived.RegionTactic
import Derived.OwnWalk
import Derived.Test.YtlfpdpbbkjnapaaGreatDoorProg
import Derived.WalkKit
import Derived.WalkSpells
import Derived.WalkLawsBesides
import Derived.Outline
import Derived.BigQuiet
import Derived.Deep.QuietTactic
import Derived.Laws.StructEq
import Derived.Deep.DeepFit
import Derived.Lib.ConvBytes
import Derived.Deep.DeepMust
import Derived.Lib.Strings
import Derived.Lib.DecodeN
import Derived.Lib.RuneCountTail
import Derived.Lib.SlTrimSet
import Derived.Maps.OwnSet
import Derived.Maps.OwnOps
import Derived.Shelf.SlSortCmp.WholeK
import Derived.Lib.Replace
import Derived.Lib.IndexBytes
import Derived.Deep.LoopGhost
import Derived.Laws.Bits64b
import Derived.Carry
import Derived.ChangeSame
import Derived.OpenShut
import Derived.ProofKit
import Derived.Deep.SlicePairs
import Derived.SizedLaws
import Derived.ChangeSlices
/- -/
namespace Go.Proofs.YtlfpdpbbkjnapaaGreatDoor
set_option maxRecDepth 100000
set_option maxHeartbeats 40000000
section
section
open Go
theorem zA {α : Type _} {xs : List α} {i : Nat} (h : i < xs.toArray.size) : xs.toArray[i] = xs[i]:=rfl
theorem zB {α : Type _} (a : α) (l : List α) (i : Nat) (h : i+1 < (a :: l).length) : (a :: l)[i+1] = l[i]'(Nat.lt_of_succ_lt_succ h):=rfl
theorem zC {α : Type _} (a : α) (l : List α) (h : 0 < (a :: l).length) : (a :: l)[0] = a:=rfl
theorem zD {α : Type _} (l : List α) (i : Nat) (a : α) : l.toArray.setIfInBounds i a = (l.set i a).toArray:=List.setIfInBounds_toArray l i a
theorem zE {α : Type _} {x : α} {xs : List α} {a : α} : (x :: xs).set 0 a = a :: xs:=rfl
theorem zF {α : Type _} {x : α} {xs : List α} {i : Nat} {a : α} : (x :: xs).set (i+1) a = x :: xs.set i a:=rfl
theorem zG {α : Type _} {xs : List α} {i : Nat} : xs.toArray[i]? = xs[i]?:=List.getElem?_toArray
theorem zH {α : Type _} {a : α} {l : List α} : (a :: l)[0]? = some a:=rfl
theorem zI {α : Type _} {a : α} {i : Nat} {l : List α} : (a :: l)[i+1]? = l[i]?:=rfl
theorem tkH {P : Program} {ops : Array Oper} {Q : Exit→Act→World→Prop} {md : Region.Mode} {S : World→Prop} {i : Nat} {oi : Oper} {v : Value} {fuel : Nat} {listed : Array Bool} {a : Act} {w : World} (hi : ops[i]? = some oi)
  (hy : ∀ w : World,S w→Sem.run P (execOp a.eval oi) w = Result.ok (Next.value v) w) (h : wpAnyH P md ops Q S fuel (listed.setIfInBounds i true) (a.put oi.dst v) w)
  (hs : Region.noSelect ops = true:=by kernel_rfl) (hf : Region.free md ops listed i = true:=by kernel_rfl) (hr : (Region.ready md ops listed).contains i = true:=by kernel_rfl)
  (hQ : ∀ (c : List PanicEntry) (a : Act) (w : World),Q (Exit.panic c) (a.put oi.dst v) w→Q (Exit.panic c) a w:=by exact fun _ _ _ h=>h) (hw : Region.wanted oi (yielded ops a.tmps) = true:=by rfl) (hS : S w:=by assumption) : wpAnyH P md ops Q S (fuel+1) listed a w :=
 wpAnyH_take hi hs hf hr hQ (Or.inl ⟨hw,hy⟩) hS h
end
open Go.RowKit
theorem cell_lt {w : World} {p : Addr} {u : Value} (h : w.cell? p = some u) : p.block < w.heap.size:=by
 rcases Nat.lt_or_ge p.block w.heap.size with hlt | hge
 ·exact hlt
 ·unfold World.cell? at h;rw [Array.getElem?_eq_none hge] at h;cases h
theorem cell_keep {w w' : World} {p : Addr} {u : Value} (h : w.cell? p = some u) (hb : Below w.heap.size w w') : w'.cell? p = some u:=(hb.cell (cell_lt h)).trans h
theorem below_drewN {B : Nat} {a w : World} (h : Below B a w) (n : Nat) : Below B a (w.drewN n):=⟨h.os,h.tape,h.output,h.size,h.block⟩
theorem below_refl_drewN {B : Nat} (w : World) (n : Nat) : Below B w (w.drewN n):=below_drewN (Below.refl _ _) n
theorem below_step {B : Nat} {a b c : World} (h : Below B a b) (k : Below b.heap.size b c) (hB : B≤b.heap.size) : Below B a c:=h.trans (k.mono hB)
theorem below_two {a b c : World} (h : Below a.heap.size a b) (k : Below b.heap.size b c) : Below a.heap.size a c:=below_step h k h.size
def Rd (w : World) (s : Nat) (A : Option Addr) (cs : List (List Value)) : Prop :=
 cs ≠ []→∃ b off,A = some ⟨b,off,none⟩∧∀ (k j : Nat) (x : List Value) (u : Value),cs[k]? = some x→x[j]? = some u→w.cell? ⟨b,off+k*s+j,none⟩ = some u
section
variable {w w' : World} {s : Nat} {A : Option Addr} {cs : List (List Value)}
theorem Rd.nil_ (w : World) (s : Nat) (A : Option Addr) : Rd w s A []:=fun h=>absurd rfl h
theorem Rd.keep (h : Rd w s A cs) (hk : ∀ (b off i : Nat) (u : Value),A = some ⟨b,off,none⟩→w.cell? ⟨b,i,none⟩ = some u→w'.cell? ⟨b,i,none⟩ = some u) : Rd w' s A cs:=fun hn=>by
 obtain ⟨b,off,rfl,hc⟩:=h hn
 exact ⟨b,off,rfl,fun k j x u hx hu=>hk b off _ u rfl (hc k j x u hx hu)⟩
theorem Rd.below (h : Rd w s A cs) (hb : Below w.heap.size w w') : Rd w' s A cs:=h.keep fun _ _ _ _ _ hp=>cell_keep hp hb
theorem Rd.drewN (h : Rd w s A cs) (n : Nat) : Rd (w.drewN n) s A cs:=h
theorem Rd.drew (h : Rd w s A cs) : Rd w.drew s A cs:=h
theorem Rd.alloc (h : Rd w s A cs) (o : Obj) : Rd (w.alloc o) s A cs:=h.below ((Below.refl _ _).alloc (Nat.le_refl _) o)
theorem flatten_get {s : Nat} : ∀ {cs : List (List Value)} (_ : ∀ x ∈ cs,x.length = s) {k j : Nat} {x : List Value} {u : Value} (_ : cs[k]? = some x) (_ : x[j]? = some u),cs.flatten[k*s+j]? = some u
 | [],_,k,j,x,u,hx,_=>by simp at hx
 | y :: r,hs,0,j,x,u,hx,hu=>by
  obtain rfl : y = x:=by simpa using hx
  have hj : j < y.length:=(List.getElem?_eq_some_iff.1 hu).1
  simp only [List.flatten_cons,Nat.zero_mul,Nat.zero_add]
  rw [List.getElem?_append_left hj];exact hu
 | y :: r,hs,k+1,j,x,u,hx,hu=>by
  have hy : y.length = s:=hs y (by simp)
  have:=flatten_get (cs:=r) (fun z hz=>hs z (by simp [hz])) (k:=k) (j:=j) (x:=x) (u:=u) (by simpa using hx) hu
  simp only [List.flatten_cons]
  rw [List.getElem?_append_right (by rw [hy,Nat.add_mul];omega),hy,show (k+1)*s+j - s = k*s+j by rw [Nat.add_mul];omega]
  exact this
theorem Rd.of_own {base n c : Nat} {e : TypeId} (h : w.ownsRow base e s (.slice A n c) n cs.flatten) (hs : ∀ x ∈ cs,x.length = s) (hpos : 0 < s) : Rd w s A cs:=by
 intro hn
 have hl : 0 < n:=by
  rcases Nat.eq_zero_or_pos n with h0 | h0
  ·subst h0
   have h1:=h.1
   cases cs with
   | nil=>exact absurd rfl hn
   | cons x r=>have:=hs x (by simp);simp at h1;simp [h1.1] at this;omega
  ·exact h0
 obtain ⟨g,cap,hv,_,_⟩:=h.form hl
 injection hv with hA
 subst hA
 refine ⟨g,0,rfl,fun k j x u hx hu=>?_⟩
 have:=h.cells (g:=g) rfl (k*s+j) u (flatten_get hs hx hu)
 unfold Addr.add at this
 split at this
 ·rename_i h0
  rw [show 0+k*s+j = 0 by omega];exact this
 ·simpa using this
end
def encR (r : Int × Int) : List Value:=[.int .i32 r.1,.int .i32 r.2]
theorem Rd.atR {w : World} {A : Option Addr} {l : List (Int × Int)} (h : Rd w 2 A (l.map encR)) {k : Nat} (hk : k < l.length) :
  ∃ b off lo hi,A = some ⟨b,off,none⟩∧Hid (l[k]? = some (lo,hi))∧w.cell? ⟨b,off+k*2,none⟩ = some (.int .i32 lo)∧w.cell? ⟨b,off+k*2+1,none⟩ = some (.int .i32 hi):=by
 obtain ⟨b,off,rfl,hc⟩:=h (by intro e;cases l with | nil=>simp at hk | cons _ _=>simp at e)
 have h0:=hc k 0 (encR l[k]) (.int .i32 l[k].1) (by simp [hk]) rfl
 have h1:=hc k 1 (encR l[k]) (.int .i32 l[k].2) (by simp [hk]) rfl
 exact ⟨b,off,l[k].1,l[k].2,rfl,List.getElem?_eq_getElem hk,by simpa using h0,h1⟩
theorem ret_bool {a b : Bool} (h : a = b) : Ending.returned (.bool a) = .returned (.bool b):=by rw [h]
end
section
open Go.RowKit
def Own (w : World) (base : Nat) (e : TypeId) (s : Nat) (A : Option Addr) (n c : Nat) (cs : List (List Value)) : Prop :=
 cs.length = n∧(∀ x ∈ cs,x.length = s)∧w.ownsRow base e s (.slice A n c) n cs.flatten
theorem flatten_len {s : Nat} : ∀ {cs : List (List Value)} (_ : ∀ x ∈ cs,x.length = s),cs.flatten.length = cs.length*s
 | [],_=>by simp
 | x :: r,h=>by
  rw [List.flatten_cons,List.length_append,h x (by simp),flatten_len (fun y hy=>h y (by simp [hy])),List.length_cons,Nat.add_mul];omega
theorem flatten_at {s : Nat} : ∀ {cs : List (List Value)} (_ : ∀ x ∈ cs,x.length = s) {j : Nat} {u : Value} (_ : cs.flatten[j]? = some u),∃ k r x,j = k*s+r∧cs[k]? = some x∧x[r]? = some u
 | [],_,j,u,h=>by simp at h
 | x :: r,hs,j,u,h=>by
  have hx:=hs x (by simp)
  rw [List.flatten_cons] at h
  rcases Nat.lt_or_ge j x.length with hj | hj
  ·rw [List.getElem?_append_left hj] at h
   exact ⟨0,j,x,by simp,rfl,h⟩
  ·rw [List.getElem?_append_right hj] at h
   obtain ⟨k,q,y,h1,h2,h3⟩:=flatten_at (fun y hy=>hs y (by simp [hy])) h
   exact ⟨k+1,q,y,by rw [Nat.add_mul];omega,by simpa using h2,h3⟩
theorem flatten_set {s : Nat} : ∀ {cs : List (List Value)} (_ : ∀ x ∈ cs,x.length = s) {k j : Nat} {x : List Value} {u : Value} (_ : cs[k]? = some x) (_ : j < s),cs.flatten.set (k*s+j) u = (cs.set k (x.set j u)).flatten
 | [],_,k,j,x,u,h,_=>by simp at h
 | y :: r,hs,0,j,x,u,h,hj=>by
  obtain rfl : y = x:=by simpa using h
  have hy:=hs y (by simp)
  simp only [List.flatten_cons,Nat.zero_mul,Nat.zero_add,zE]
  rw [List.set_append_left _ _ (by omega)]
 | y :: r,hs,k+1,j,x,u,h,hj=>by
  have hy:=hs y (by simp)
  simp only [List.flatten_cons,zF]
  rw [List.set_append_right _ _ (by rw [hy,Nat.add_mul];omega),hy,show (k+1)*s+j - s = k*s+j by rw [Nat.add_mul];omega,
   flatten_set (fun z hz=>hs z (by simp [hz])) (by simpa using h) hj]
section
variable {w w' : World} {base : Nat} {e : TypeId} {s : Nat} {A : Option Addr} {n c : Nat} {cs : List (List Value)}
theorem Own.nil_ (w : World) (base : Nat) (e : TypeId) (s : Nat) : Own w base e s none 0 0 []:=⟨rfl,by simp,World.ownsRow_nil w base e s⟩
theorem Own.len (h : Own w base e s A n c cs) : cs.length = n:=h.1
theorem Own.rd (h : Own w base e s A n c cs) (hs : 0 < s) : Rd w s A cs:=Rd.of_own h.2.2 h.2.1 hs
theorem Own.lt (h : Own w base e s A n c cs) : ∀ a,A = some a→base≤a.block∧a.block < w.heap.size:=fun a ha=>h.2.2.lt a.block (by rw [ha];rfl)
theorem Own.keep (h : Own w base e s A n c cs) (hk : ∀ a,A = some a→w'.heap[a.block]? = w.heap[a.block]?) : Own w' base e s A n c cs:=by
 refine ⟨h.1,h.2.1,h.2.2.1,?_⟩
 rcases h.2.2.2 with h0 | ⟨g,cap,cur,hv,hg,hh,r⟩
 ·exact .inl h0
 ·refine .inr ⟨g,cap,cur,hv,hg,?_,r⟩
  injection hv with hA
  rw [hk ⟨g,0,none⟩ hA];exact hh
theorem Own.below (h : Own w base e s A n c cs) (hb : Below w.heap.size w w') : Own w' base e s A n c cs:=h.keep fun a ha=>hb.block _ (h.lt a ha).2
theorem Own.drewN (h : Own w base e s A n c cs) (q : Nat) : Own (w.drewN q) base e s A n c cs:=h
theorem Own.drew (h : Own w base e s A n c cs) : Own w.drew base e s A n c cs:=h
theorem Own.alloc (h : Own w base e s A n c cs) (o : Obj) : Own (w.alloc o) base e s A n c cs:=h.below ((Below.refl _ _).alloc (Nat.le_refl _) o)
theorem Own.setCell (h : Own w base e s A n c cs) {p : Addr} (hp : ∀ a,A = some a→a.block ≠ p.block) (u : Value) : Own (w.setCell p u) base e s A n c cs :=
 h.keep fun a ha=>Below.heap_setCell w p u a.block (hp a ha)
theorem Own.grown (h : Own w base e s A n c cs) {row : Option Nat} (hg : w.grownBy w' row) (hne : ∀ a,A = some a→some a.block ≠ row) : Own w' base e s A n c cs :=
 h.keep fun a ha=>hg.block _ (h.lt a ha).2 (hne a ha)
theorem Own.more {b' : Nat} (h : Own w base e s A n c cs) (hb : b'≤base) : Own w b' e s A n c cs:=by
 refine ⟨h.1,h.2.1,h.2.2.1,?_⟩
 rcases h.2.2.2 with h0 | ⟨g,cap,cur,hv,hg,r⟩
 ·exact .inl h0
 ·exact .inr ⟨g,cap,cur,hv,by omega,r⟩
theorem Own.form (h : Own w base e s A n c cs) (hn : 0 < n) : ∃ g,A = some ⟨g,0,none⟩∧base≤g∧g < w.heap.size:=by
 obtain ⟨g,cap,hv,h1,h2⟩:=h.2.2.form hn
 injection hv with hA
 exact ⟨g,hA,h1,h2⟩
theorem Own.frozen {g : Nat} (h : Own w base e s (some ⟨g,0,none⟩) n c cs) (i : Nat) : w.frozen? ⟨g,i,none⟩ = false:=h.2.2.frozenAt i
theorem Own.cell {g k j : Nat} {x : List Value} {u : Value} (h : Own w base e s (some ⟨g,0,none⟩) n c cs) (hx : cs[k]? = some x) (hu : x[j]? = some u) : w.cell? ⟨g,k*s+j,none⟩ = some u:=by
 have hj : j < s:=by rw [← h.2.1 x (List.mem_of_getElem? hx)];exact (List.getElem?_eq_some_iff.1 hu).1
 have hk : k < n:=by rw [← h.1];exact (List.getElem?_eq_some_iff.1 hx).1
 have : k*s+j < n*s:=by
  have : (k+1)*s≤n*s:=Nat.mul_le_mul_right s hk
  rw [Nat.add_mul] at this;omega
 rw [h.2.2.cellAt _ this]
 exact flatten_get h.2.1 hx hu
theorem Own.stored {g k j : Nat} {x : List Value} (h : Own w base e s (some ⟨g,0,none⟩) n c cs) (hx : cs[k]? = some x) (hj : j < s) (u : Value) :
  Own (w.setCell ⟨g,k*s+j,none⟩ u) base e s (some ⟨g,0,none⟩) n c (cs.set k (x.set j u)):=by
 refine ⟨by simpa using h.1,fun y hy=>?_,?_⟩
 ·rcases List.mem_or_eq_of_mem_set hy with hy | rfl
  ·exact h.2.1 y hy
  ·rw [List.length_set];exact h.2.1 x (List.mem_of_getElem? hx)
 ·rw [← flatten_set h.2.1 hx hj]
  exact (h.2.2.stored _ u).1
theorem Own.cap (h : Own w base e s A n c cs) : n≤c∧c≤maxLen:=by
 rcases h.2.2.2 with ⟨h0,h1⟩ | ⟨g,cap,cur,hv,_,_,h1,h2,_⟩
 ·injection h0 with _ _ hc
  subst hc;subst h1;exact ⟨Nat.le_refl _,by unfold maxLen;omega⟩
 ·injection hv with _ _ hc
  subst hc;exact ⟨h1,h2⟩
end
theorem Rd.new (w : World) (t : TypeId) (s : Nat) (x : List Value) : Rd (w.alloc (.cells x.toArray t)) s (some ⟨w.heap.size,0,none⟩) [x]:=by
 intro _
 refine ⟨w.heap.size,0,rfl,fun k j y u hy hu=>?_⟩
 match k,hy with
 | 0,hy =>
  obtain rfl : x = y:=by simpa using hy
  unfold World.cell?
  rw [show (w.alloc (.cells x.toArray t)).heap[w.heap.size]? = some (.cells x.toArray t (0,0)) from heap_alloc_new w _]
  simpa using hu
theorem Rd.newAt {w : World} {t : TypeId} {s b : Nat} {x : List Value} {xs : Array Value} (hb : b = w.heap.size) (hx : xs = x.toArray) : Rd (w.alloc (.cells xs t)) s (some ⟨b,0,none⟩) [x]:=by
 subst hb;subst hx;exact Rd.new w t s x
section
variable {P : Program}
theorem wp_app {o : Oper} {a : Act} {w : World} {K : Act→World→Prop} {Q : Exit→Act→World→Prop} (s x : Operand) (t : TypeId)
  (ho : o.op = .call { callee:=.builtin .append,args:=#[s,x],argTypes:=#[t,t] })
  (base : Nat) (e : TypeId) (i : TypeInfo) (z : Value) (size bytes : Nat) (ht : P.underlying t = some (.slice e)) (hi : P.info? e = some i) (hz : i.zero = some z)
  (hsize : i.size = size) (hby : i.bytes = bytes) (hzs : z.cells.size = size) (hsz : 0 < size)
  (A : Option Addr) (n c : Nat) (cs : List (List Value)) (hs : a.eval s = .slice A n c) (hown : Own w base e size A n c cs)
  (A2 : Option Addr) (m c2 : Nat) (xs : List (List Value)) (hx : a.eval x = .slice A2 m c2) (hm : xs.length = m) (hr : Rd w size A2 xs) (h1 : ∀ y ∈ xs,y.length = size∧∀ u ∈ y,u.oneCell' = true)
  (h63 : n+m≤maxLen) (hbytes : (n+m)*bytes≤140737488355328) (hbase : base≤w.heap.size)
  (h : ∀ A' c' w',Own w' base e size A' (n+m) c' (cs++xs)→w.grownBy w' (A.map (·.block))→(A' = A∨A' = some ⟨w.heap.size,0,none⟩)→K (a.put o.dst (.slice A' (n+m) c')) w') : o.wp P a w K Q:=by
 have hxl : ∀ y ∈ xs,y.length = size:=fun y hy=>(h1 y hy).1
 have hall : ∀ y ∈ cs++xs,y.length = size:=fun y hy=>by
  rcases List.mem_append.1 hy with hy | hy
  ·exact hown.2.1 y hy
  ·exact hxl y hy
 have hob : (Value.slice A n c).ownBlock = A.map (·.block):=by cases A <;> rfl
 have key : ∃ v' w',(Builtin.append_ #[t,t] o.type #[.slice A n c,.slice A2 m c2]).run P w = .ok v' w'∧w'.ownsRow base e size v' (n+m) (cs.flatten++xs.flatten)∧w.grownBy w' (Value.slice A n c).ownBlock ∧
   (v'.ownBlock = (Value.slice A n c).ownBlock∨v'.ownBlock = some w.heap.size):=by
  cases A2 with
  | none =>
   have hnil : xs = []:=Classical.byContradiction fun hne=>by obtain ⟨b,off,hb,_⟩:=hr hne;cases hb
   subst hnil
   subst hm
   refine ⟨.slice A n c,w,?_,by simpa using hown.2.2,World.grownBy.refl w _,.inl rfl⟩
   rcases hown.2.2.2 with ⟨h0,rfl⟩ | ⟨g,cap,cur,h0,_,_,hnc,_⟩
   ·rw [h0];simp [Builtin.append_,run_underlying ht,sizeOf,typeInfo,hi,Builtin.lenOf,Builtin.firstCells]
   ·injection h0 with hA _ hc
    subst hA;subst hc
    simp [Builtin.append_,run_underlying ht,sizeOf,typeInfo,hi,Builtin.lenOf,Builtin.firstCells,hnc,storeCells]
  | some ad =>
   have hcells : ∀ j u,xs.flatten[j]? = some u→w.cell? (ad.add j) = some u:=by
    intro j u hu
    obtain ⟨k,r,y,rfl,h2,h3⟩:=flatten_at hxl hu
    have hne : xs ≠ []:=fun e=>by subst e;simp at h2
    obtain ⟨b,off,hb,hc⟩:=hr hne
    injection hb with hb
    subst hb
    have:=hc k r y u h2 h3
    unfold Addr.add
    split
    ·rename_i h0;rw [show off+k*size+r = off by omega] at this;exact this
    ·simpa [Nat.add_assoc] using this
   obtain ⟨v',w',hrun,h2,h3,_,h5⟩:=run_append_own_at (P:=P) w base t o.type e i z size bytes ht hi hz hsize hby hzs hsz (.slice A n c) n cs.flatten hown.2.2 ad m c2 xs.flatten
    (by rw [flatten_len hxl,hm]) hcells (fun u hu=>by obtain ⟨y,hy,hu⟩:=List.mem_flatten.1 hu;exact (h1 y hy).2 u hu) h63 hbytes hbase
   exact ⟨v',w',hrun,h2,h3,h5⟩
 obtain ⟨v',w',hrun,h2,h3,h4⟩:=key
 rw [hob] at h3 h4
 have hv : ∃ A' c',v' = .slice A' (n+m) c'∧(A' = A∨A' = some ⟨w.heap.size,0,none⟩):=by
  rcases h2.2 with ⟨rfl,h0⟩ | ⟨g,cap,cur,rfl,_⟩
  ·refine ⟨none,0,by rw [h0],.inl ?_⟩
   rcases hown.2.2.2 with ⟨h9,_⟩ | ⟨g',cap',cur',h9,_⟩
   ·injection h9 with h9;exact h9.symm
   ·injection h9 with h9
    rcases h4 with h4 | h4 <;> simp [Value.ownBlock,h9] at h4
  ·refine ⟨_,_,rfl,?_⟩
   rcases h4 with h4 | h4
   ·left
    rcases hown.2.2.2 with ⟨h9,_⟩ | ⟨g',cap',cur',h9,_⟩
    ·injection h9 with h9;subst h9;simp [Value.ownBlock] at h4
    ·injection h9 with h9;subst h9;simp [Value.ownBlock] at h4;rw [h4]
   ·right;simp [Value.ownBlock] at h4;rw [h4]
 obtain ⟨A',c',rfl,hA'⟩:=hv
 unfold Oper.wp execOp
 simp only [ho,resolve,invoke,builtin,Sem.run_bind,Sem.run_pure,Result.andThen_ok,List.map_toArray,List.map_cons,List.map_nil,hs,hx,hrun]
 exact h A' c' w' ⟨by rw [List.length_append,hown.1,hm],hall,by rw [List.flatten_append];exact h2⟩ h3 hA'
theorem wpList_app {ops : Array Oper} {rest : List Oper} {o : Oper} {a : Act} {w : World} {Q : Exit→Act→World→Prop} (hgd : o.guard = none) (s x : Operand) (t : TypeId)
  (ho : o.op = .call { callee:=.builtin .append,args:=#[s,x],argTypes:=#[t,t] })
  (base : Nat) (e : TypeId) (i : TypeInfo) (z : Value) (size bytes : Nat) (ht : P.underlying t = some (.slice e)) (hi : P.info? e = some i) (hz : i.zero = some z)
  (hsize : i.size = size) (hby : i.bytes = bytes) (hzs : z.cells.size = size) (hsz : 0 < size)
  (A : Option Addr) (n c : Nat) (cs : List (List Value)) (hs : a.eval s = .slice A n c) (hown : Own w base e size A n c cs)
  (A2 : Option Addr) (m c2 : Nat) (xs : List (List Value)) (hx : a.eval x = .slice A2 m c2) (hm : xs.length = m) (hr : Rd w size A2 xs) (h1 : ∀ y ∈ xs,y.length = size∧∀ u ∈ y,u.oneCell' = true)
  (h63 : n+m≤maxLen) (hbytes : (n+m)*bytes≤140737488355328) (hbase : base≤w.heap.size)
  (h : ∀ A' c' w',Own w' base e size A' (n+m) c' (cs++xs)→w.grownBy w' (A.map (·.block))→(A' = A∨A' = some ⟨w.heap.size,0,none⟩)→wpList P ops Q rest (a.put o.dst (.slice A' (n+m) c')) w') : wpList P ops Q (o :: rest) a w :=
 wpList_plain hgd fun _ hK=>wp_app s x t ho base e i z size bytes ht hi hz hsize hby hzs hsz A n c cs hs hown A2 m c2 xs hx hm hr h1 h63 hbytes hbase fun A' c' w' h2 h3 h4=>hK _ _ (h A' c' w' h2 h3 h4)
theorem step_app {ops : Array Oper} {o : Oper} {a : Act} {w : World} {K : Act→World→Prop} {Q : Exit→Act→World→Prop} {E : Prop} (hgd : o.guard = none) (s x : Operand) (t : TypeId)
  (ho : o.op = .call { callee:=.builtin .append,args:=#[s,x],argTypes:=#[t,t] })
  (base : Nat) (e : TypeId) (i : TypeInfo) (z : Value) (size bytes : Nat) (ht : P.underlying t = some (.slice e)) (hi : P.info? e = some i) (hz : i.zero = some z)
  (hsize : i.size = size) (hby : i.bytes = bytes) (hzs : z.cells.size = size) (hsz : 0 < size)
  (A : Option Addr) (n c : Nat) (cs : List (List Value)) (hs : a.eval s = .slice A n c) (hown : Own w base e size A n c cs)
  (A2 : Option Addr) (m c2 : Nat) (xs : List (List Value)) (hx : a.eval x = .slice A2 m c2) (hm : xs.length = m) (hr : Rd w size A2 xs) (h1 : ∀ y ∈ xs,y.length = size∧∀ u ∈ y,u.oneCell' = true)
  (h63 : n+m≤maxLen) (hbytes : (n+m)*bytes≤140737488355328) (hbase : base≤w.heap.size)
  (h : ∀ A' c' w',Own w' base e size A' (n+m) c' (cs++xs)→w.grownBy w' (A.map (·.block))→(A' = A∨A' = some ⟨w.heap.size,0,none⟩)→K (a.put o.dst (.slice A' (n+m) c')) w') :
  if Region.wanted o (yielded ops a.tmps) = true then Oper.wp P o a w K Q else E:=by
 have hw : Region.wanted o (yielded ops a.tmps) = true:=by simp [Region.wanted,hgd]
 rw [if_pos hw]
 exact wp_app s x t ho base e i z size bytes ht hi hz hsize hby hzs hsz A n c cs hs hown A2 m c2 xs hx hm hr h1 h63 hbytes hbase h
end
theorem set_mid {α : Type} (l1 : List α) (z y : α) (l2 : List α) : (l1++z :: l2).set l1.length y = l1++y :: l2:=by
 induction l1 with
 | nil=>rfl
 | cons a l1 ih=>simp [ih]
theorem get_mid {α : Type} (l1 : List α) (z : α) (l2 : List α) : (l1++z :: l2)[l1.length]? = some z:=by simp
theorem Own.cellR {w : World} {base : Nat} {e : TypeId} {g n c k : Nat} {l : List (Int × Int)} {x : Int × Int} (h : Own w base e 2 (some ⟨g,0,none⟩) n c (l.map encR)) (hk : l[k]? = some x) :
  w.cell? ⟨g,k*2,none⟩ = some (.int .i32 x.1)∧w.cell? ⟨g,k*2+1,none⟩ = some (.int .i32 x.2):=by
 have hx : (l.map encR)[k]? = some (encR x):=by simp [hk]
 exact ⟨h.cell (j:=0) hx rfl,h.cell (j:=1) hx rfl⟩
theorem Own.storedHi {w : World} {base : Nat} {e : TypeId} {g n c j : Nat} {o : List (Int × Int)} {y1 y2 : Int} (h : Own w base e 2 (some ⟨g,0,none⟩) n c ((o++[(y1,y2)]).map encR)) (hj : o.length = j) (b : Int) :
  Own (w.setCell ⟨g,j*2+1,none⟩ (.int .i32 b)) base e 2 (some ⟨g,0,none⟩) n c ((o++[(y1,b)]).map encR):=by
 subst hj
 have h1:=h.stored (k:=o.length) (j:=1) (x:=encR (y1,y2)) (by simp) (by omega) (.int .i32 b)
 have e : ((o++[(y1,y2)]).map encR).set o.length ((encR (y1,y2)).set 1 (.int .i32 b)) = (o++[(y1,b)]).map encR:=by
  rw [List.map_append,List.map_append]
  have:=set_mid (o.map encR) (encR (y1,y2)) ((encR (y1,y2)).set 1 (.int .i32 b)) []
  rw [List.length_map] at this
  exact this
 rw [e] at h1
 exact h1
def Blk (w : World) (g : Nat) (t : TypeId) (cs : Array Value) : Prop:=w.heap[g]? = some (.cells cs t (0,0))
section
variable {w w' : World} {g : Nat} {t : TypeId} {cs : Array Value}
theorem Blk.lt (h : Blk w g t cs) : g < w.heap.size:=(Array.getElem?_eq_some_iff.1 h).1
theorem Blk.cell (h : Blk w g t cs) (i : Nat) : w.cell? ⟨g,i,none⟩ = cs[i]?:=by unfold Blk at h;simp [World.cell?,h]
theorem Blk.frozen (h : Blk w g t cs) (i : Nat) : w.frozen? ⟨g,i,none⟩ = false:=by unfold Blk at h;simp [World.frozen?,h]
theorem Blk.new (w : World) (t : TypeId) (cs : Array Value) : Blk (w.alloc (.cells cs t)) w.heap.size t cs:=heap_alloc_new w _
theorem Blk.drew (h : Blk w g t cs) : Blk w.drew g t cs:=h
theorem Blk.drewN (h : Blk w g t cs) (n : Nat) : Blk (w.drewN n) g t cs:=h
theorem Blk.alloc (h : Blk w g t cs) (o : Obj) : Blk (w.alloc o) g t cs:=(Below.heap_alloc w o g h.lt).trans h
theorem Blk.set_ (h : Blk w g t cs) (i : Nat) (u : Value) : Blk (w.setCell ⟨g,i,none⟩ u) g t (cs.setIfInBounds i u):=by
 unfold Blk at h ⊢;simp [World.setCell,Array.getElem?_modify,h]
theorem Blk.far (h : Blk w g t cs) {p : Addr} (hp : g ≠ p.block) (u : Value) : Blk (w.setCell p u) g t cs:=(Below.heap_setCell w p u g hp).trans h
theorem Blk.below (h : Blk w g t cs) (hb : Below w.heap.size w w') : Blk w' g t cs:=(hb.block g h.lt).trans h
theorem Blk.grown {row : Option Nat} (h : Blk w g t cs) (hb : w.grownBy w' row) (hg : some g ≠ row) : Blk w' g t cs:=(hb.block g h.lt hg).trans h
end
theorem only_drewN {a w : World} {row : Option Nat} (h : a.grownBy w row) (n : Nat) : a.grownBy (w.drewN n) row:=⟨h.os,h.tape,h.output,h.size,h.block⟩
theorem only_drew {a w : World} {row : Option Nat} (h : a.grownBy w row) : a.grownBy w.drew row:=⟨h.os,h.tape,h.output,h.size,h.block⟩
theorem only_alloc {a w : World} {row : Option Nat} (h : a.grownBy w row) (o : Obj) : a.grownBy (w.alloc o) row :=
 ⟨h.os,h.tape,h.output,Nat.le_trans h.size (by simp),fun i hi hne=>(Below.heap_alloc w o i (Nat.lt_of_lt_of_le hi h.size)).trans (h.block i hi hne)⟩
theorem only_setCell {a w : World} {g : Nat} (h : a.grownBy w (some g)) {p : Addr} (hp : p.block = g∨a.heap.size≤p.block) (u : Value) : a.grownBy (w.setCell p u) (some g) :=
 ⟨h.os,h.tape,h.output,by simpa [World.setCell] using h.size,fun i hi hne=>(Below.heap_setCell w p u i (by
  rintro rfl
  rcases hp with hp | hp
  ·exact hne (by rw [hp])
  ·omega)).trans (h.block i hi hne)⟩
theorem only_below {a w w' : World} {row : Option Nat} (h : a.grownBy w row) (hb : Below w.heap.size w w') : a.grownBy w' row :=
 ⟨hb.os.trans h.os,hb.tape.trans h.tape,hb.output.trans h.output,Nat.le_trans h.size hb.size,fun i hi hne=>(hb.block i (Nat.lt_of_lt_of_le hi h.size)).trans (h.block i hi hne)⟩
theorem only_trans {a b c : World} {row : Option Nat} (h : a.grownBy b row) (k : b.grownBy c row) : a.grownBy c row :=
 ⟨k.os.trans h.os,k.tape.trans h.tape,k.output.trans h.output,Nat.le_trans h.size k.size,fun i hi hne=>(k.block i (Nat.lt_of_lt_of_le hi h.size) hne).trans (h.block i hi hne)⟩
theorem only_refl (w : World) (row : Option Nat) : w.grownBy w row:=⟨rfl,rfl,rfl,Nat.le_refl _,fun _ _ _=>rfl⟩
theorem below_only {B : Nat} {w w' : World} {g : Nat} (h : w.grownBy w' (some g)) (hB : B≤w.heap.size) (hg : B≤g) : Below B w w' :=
 ⟨h.os,h.tape,h.output,h.size,fun k hk=>h.block k (by omega) (fun e=>by injection e;omega)⟩
theorem below_app {B : Nat} {a w w' : World} {A : Option Addr} (h : Below B a w) (hg : w.grownBy w' (A.map (·.block))) (hB : B≤w.heap.size) (hA : ∀ ad,A = some ad→B≤ad.block) : Below B a w' :=
 h.grown hg hB fun k hk=>by
  cases A with
  | none=>simp at hk
  | some ad=>simp at hk;rw [← hk];exact hA ad rfl
end
section
def memR (l : List (Int × Int)) (r : Int) : Prop:=∃ x ∈ l,x.1≤r∧r≤x.2
def Nf : List (Int × Int)→Prop
 | []=>True
 | x :: r=>x.1≤x.2∧(∀ y ∈ r,x.2+1 < y.1)∧Nf r
def NF (l : List (Int × Int)) : Prop:=Nf l∧∀ x ∈ l,0≤x.1∧x.2≤1114111
theorem memR_nil (r : Int) : ¬ memR [] r:=fun ⟨_,h,_⟩=>by simp at h
theorem memR_cons (x : Int × Int) (l : List (Int × Int)) (r : Int) : memR (x :: l) r ↔ (x.1≤r∧r≤x.2)∨memR l r:=by
 constructor
 ·rintro ⟨y,hy,h⟩
  rcases List.mem_cons.1 hy with rfl | hy
  ·exact .inl h
  ·exact .inr ⟨y,hy,h⟩
 ·rintro (h | ⟨y,hy,h⟩)
  ·exact ⟨x,by simp,h⟩
  ·exact ⟨y,by simp [hy],h⟩
theorem memR_append (a b : List (Int × Int)) (r : Int) : memR (a++b) r ↔ memR a r∨memR b r:=by
 induction a with
 | nil=>simp [memR_nil]
 | cons x a ih=>rw [List.cons_append,memR_cons,memR_cons,ih,or_assoc]
theorem memR_perm {a b : List (Int × Int)} (h : a.Perm b) (r : Int) : memR a r ↔ memR b r :=
 ⟨fun ⟨x,hx,k⟩=>⟨x,h.mem_iff.1 hx,k⟩,fun ⟨x,hx,k⟩=>⟨x,h.mem_iff.2 hx,k⟩⟩
theorem Nf_append (a b : List (Int × Int)) : Nf (a++b) ↔ Nf a∧Nf b∧∀ x ∈ a,∀ y ∈ b,x.2+1 < y.1:=by
 induction a with
 | nil=>simp [Nf]
 | cons x a ih =>
  simp only [List.cons_append,Nf,ih,List.mem_append,List.mem_cons]
  constructor
  ·rintro ⟨h1,h2,h3,h4,h5⟩
   refine ⟨⟨h1,fun y hy=>h2 y (.inl hy),h3⟩,h4,?_⟩
   rintro z (rfl | hz) y hy
   ·exact h2 y (.inr hy)
   ·exact h5 z hz y hy
  ·rintro ⟨⟨h1,h2,h3⟩,h4,h5⟩
   refine ⟨h1,?_,h3,h4,fun z hz y hy=>h5 z (.inr hz) y hy⟩
   rintro y (hy | hy)
   ·exact h2 y hy
   ·exact h5 x (.inl rfl) y hy
theorem Nf_le {l : List (Int × Int)} (h : Nf l) : ∀ x ∈ l,x.1≤x.2:=by
 induction l with
 | nil=>intro x hx;simp at hx
 | cons y l ih =>
  intro x hx
  rcases List.mem_cons.1 hx with rfl | hx
  ·exact h.1
  ·exact ih h.2.2 x hx
theorem Nf_ext : ∀ {a b : List (Int × Int)} (_ : Nf a) (_ : Nf b) (_ : ∀ r,memR a r ↔ memR b r),a = b
 | [],[],_,_,_=>rfl
 | [],y :: rb,_,hb,h=>absurd ((h y.1).2 ⟨y,by simp,by omega,hb.1⟩) (memR_nil _)
 | x :: ra,[],ha,_,h=>absurd ((h x.1).1 ⟨x,by simp,by omega,ha.1⟩) (memR_nil _)
 | x :: ra,y :: rb,ha,hb,h=>by
  have e1 : y.1≤x.1:=by
   obtain ⟨z,hz,h1,h2⟩:=(h x.1).1 ⟨x,by simp,by omega,ha.1⟩
   rcases List.mem_cons.1 hz with rfl | hz
   ·exact h1
   ·have:=hb.2.1 z hz;have:=hb.1;omega
  have e2 : x.1≤y.1:=by
   obtain ⟨z,hz,h1,h2⟩:=(h y.1).2 ⟨y,by simp,by omega,hb.1⟩
   rcases List.mem_cons.1 hz with rfl | hz
   ·exact h1
   ·have:=ha.2.1 z hz;have:=ha.1;omega
  have e3 : y.2≤x.2:=by
   rcases Int.lt_or_le x.2 y.2 with hlt | hle
   ·obtain ⟨z,hz,h1,h2⟩:=(h (x.2+1)).2 ⟨y,by simp,by have:=ha.1;omega,by omega⟩
    rcases List.mem_cons.1 hz with rfl | hz
    ·omega
    ·have:=ha.2.1 z hz;omega
   ·exact hle
  have e4 : x.2≤y.2:=by
   rcases Int.lt_or_le y.2 x.2 with hlt | hle
   ·obtain ⟨z,hz,h1,h2⟩:=(h (y.2+1)).1 ⟨x,by simp,by have:=hb.1;omega,by omega⟩
    rcases List.mem_cons.1 hz with rfl | hz
    ·omega
    ·have:=hb.2.1 z hz;omega
   ·exact hle
  have hxy : x = y:=Prod.ext (by omega) (by omega)
  subst hxy
  have : ra = rb:=Nf_ext ha.2.2 hb.2.2 (fun r=>by
   have hr:=h r
   rw [memR_cons,memR_cons] at hr
   constructor
   ·intro hm
    rcases hr.1 (.inr hm) with hx | hx
    ·obtain ⟨z,hz,h1,_⟩:=hm
     have:=ha.2.1 z hz;omega
    ·exact hx
   ·intro hm
    rcases hr.2 (.inr hm) with hx | hx
    ·obtain ⟨z,hz,h1,_⟩:=hm
     have:=hb.2.1 z hz;omega
    ·exact hx)
  rw [this]
def mstep (out : List (Int × Int)) (x : Int × Int) : List (Int × Int) :=
 match out.getLast? with
 | some y=>if x.1≤y.2+1 then out.dropLast++[(y.1,max y.2 x.2)] else out++[x]
 | none=>[x]
theorem mstep_nil (x : Int × Int) : mstep [] x = [x]:=rfl
theorem mstep_snoc (o : List (Int × Int)) (y x : Int × Int) : mstep (o++[y]) x = if x.1≤y.2+1 then o++[(y.1,max y.2 x.2)] else o++[y]++[x]:=by
 simp [mstep]
def mergeR (s : List (Int × Int)) : List (Int × Int):=s.foldl mstep []
def Rise (s : List (Int × Int)) : Prop:=s.Pairwise fun a b=>a.1≤b.1
theorem snoc_cases {α : Type} (l : List α) : l = []∨∃ o y,l = o++[y]:=by
 rcases List.eq_nil_or_concat l with h | ⟨o,y,h⟩
 ·exact .inl h
 ·exact .inr ⟨o,y,by simpa using h⟩
theorem merge_go : ∀ (s out : List (Int × Int)) (_ : Nf out) (_ : Rise s) (_ : ∀ x ∈ s,x.1≤x.2) (_ : ∀ x ∈ s,∀ y ∈ out,y.1≤x.1),
  Nf (s.foldl mstep out)∧∀ r,memR (s.foldl mstep out) r ↔ memR out r∨memR s r
 | [],out,ho,_,_,_=>⟨ho,fun r=>by simp [memR_nil]⟩
 | x :: s,out,ho,hs,hle,hlt=>by
  have hs' : Rise s:=(List.pairwise_cons.1 hs).2
  have hx:=(List.pairwise_cons.1 hs).1
  have hxle:=hle x (by simp)
  have hle' : ∀ z ∈ s,z.1≤z.2:=fun z hz=>hle z (by simp [hz])
  have key : Nf (mstep out x)∧(∀ r,memR (mstep out x) r ↔ memR out r∨(x.1≤r∧r≤x.2))∧(∀ z ∈ s,∀ y ∈ mstep out x,y.1≤z.1):=by
   rcases snoc_cases out with rfl | ⟨o,y,rfl⟩
   ·refine ⟨⟨hxle,by simp,trivial⟩,fun r=>?_,fun z hz y hy=>?_⟩
    ·rw [mstep_nil,memR_cons];simp [memR_nil]
    ·rw [mstep_nil] at hy;simp at hy;subst hy;exact hx z hz
   ·rw [mstep_snoc]
    rw [Nf_append] at ho
    have hy:=hlt x (by simp) y (by simp)
    have hyle : y.1≤y.2:=ho.2.1.1
    split
    ·rename_i hc
     refine ⟨?_,fun r=>?_,fun z hz q hq=>?_⟩
     ·rw [Nf_append]
      refine ⟨ho.1,⟨by simp only;omega,by simp,trivial⟩,fun q hq p hp=>?_⟩
      simp at hp;subst hp
      exact ho.2.2 q hq y (by simp)
     ·rw [memR_append,memR_append,memR_cons,memR_cons]
      simp only [memR_nil,or_false]
      constructor
      ·rintro (h | h)
       ·exact .inl (.inl h)
       ·by_cases hr : r≤y.2
        ·exact .inl (.inr (by omega))
        ·exact .inr (by omega)
      ·rintro ((h | h) | h)
       ·exact .inl h
       ·exact .inr (by omega)
       ·exact .inr (by omega)
     ·rcases List.mem_append.1 hq with hq | hq
      ·exact hlt z (by simp [hz]) q (by simp [hq])
      ·simp at hq;subst hq;exact hlt z (by simp [hz]) y (by simp)
    ·rename_i hc
     refine ⟨?_,fun r=>?_,fun z hz q hq=>?_⟩
     ·rw [Nf_append,Nf_append]
      refine ⟨ho,⟨hxle,by simp,trivial⟩,fun q hq p hp=>?_⟩
      simp at hp;subst hp
      rcases List.mem_append.1 hq with hq | hq
      ·have:=ho.2.2 q hq y (by simp);omega
      ·simp at hq;subst hq;omega
     ·rw [memR_append,memR_cons];simp [memR_nil]
     ·rcases List.mem_append.1 hq with hq | hq
      ·exact hlt z (by simp [hz]) q hq
      ·simp at hq;subst hq;exact hx z hz
  obtain ⟨k1,k2,k3⟩:=key
  obtain ⟨g1,g2⟩:=merge_go s (mstep out x) k1 hs' hle' k3
  refine ⟨g1,fun r=>?_⟩
  rw [List.foldl_cons,g2,k2,memR_cons,or_assoc]
def clampR (r : Int × Int) : Int × Int:=(max r.1 0,min r.2 1114111)
def keepR (l : List (Int × Int)) : List (Int × Int):=(l.map clampR).filter fun x=>decide (x.1≤x.2)
def normR (l : List (Int × Int)) : List (Int × Int):=mergeR ((keepR l).mergeSort fun a b=>decide (a.1≤b.1))
def hasP (l : List (Int × Int)) (r : Int) : Prop:=0≤r∧r≤1114111∧memR l r
theorem keepR_le (l : List (Int × Int)) : ∀ x ∈ keepR l,x.1≤x.2∧0≤x.1∧x.2≤1114111:=by
 intro x hx
 obtain ⟨h1,h2⟩:=List.mem_filter.1 hx
 obtain ⟨y,_,rfl⟩:=List.mem_map.1 h1
 simp only [decide_eq_true_eq] at h2
 simp only [clampR] at h2 ⊢
 omega
theorem memR_keepR (l : List (Int × Int)) (r : Int) : memR (keepR l) r ↔ hasP l r:=by
 constructor
 ·rintro ⟨x,hx,h⟩
  obtain ⟨h1,h2⟩:=List.mem_filter.1 hx
  obtain ⟨y,hy,rfl⟩:=List.mem_map.1 h1
  simp only [clampR] at h
  exact ⟨by omega,by omega,y,hy,by omega⟩
 ·rintro ⟨h0,h1,y,hy,h⟩
  refine ⟨clampR y,List.mem_filter.2 ⟨List.mem_map.2 ⟨y,hy,rfl⟩,?_⟩,?_⟩
  ·refine decide_eq_true ?_;show max y.1 0≤min y.2 1114111;omega
  ·show max y.1 0≤r∧r≤min y.2 1114111;omega
theorem merge_of {s l : List (Int × Int)} (hp : s.Perm (keepR l)) (hs : Rise s) : Nf (mergeR s)∧∀ r,memR (mergeR s) r ↔ hasP l r:=by
 obtain ⟨h1,h2⟩:=merge_go s [] trivial hs (fun x hx=>(keepR_le l x (hp.mem_iff.1 hx)).1) (fun _ _ y hy=>by simp at hy)
 refine ⟨h1,fun r=>?_⟩
 rw [← memR_keepR,← memR_perm hp]
 rw [show mergeR s = s.foldl mstep [] from rfl,h2]
 simp [memR_nil]
theorem sort_rise (l : List (Int × Int)) : Rise (l.mergeSort fun a b=>decide (a.1≤b.1)):=by
 have:=List.pairwise_mergeSort (le:=fun a b : Int × Int=>decide (a.1≤b.1)) (by simp;intros;omega) (by simp;intros;omega) l
 exact this.imp (by simp)
theorem normR_nf (l : List (Int × Int)) : Nf (normR l):=(merge_of (List.mergeSort_perm _ _) (sort_rise _)).1
theorem memR_normR (l : List (Int × Int)) (r : Int) : memR (normR l) r ↔ hasP l r:=(merge_of (List.mergeSort_perm _ _) (sort_rise _)).2 r
theorem mergeR_eq {s l : List (Int × Int)} (hp : s.Perm (keepR l)) (hs : Rise s) : mergeR s = normR l :=
 Nf_ext (merge_of hp hs).1 (normR_nf l) fun r=>((merge_of hp hs).2 r).trans (memR_normR l r).symm
theorem merge_bd {s l : List (Int × Int)} (hp : s.Perm (keepR l)) (hs : Rise s) (k : Nat) : ∀ y ∈ (s.take k).foldl mstep [],0≤y.1∧y.1≤y.2∧y.2≤1114111:=by
 have hk : ∀ x ∈ s.take k,x.1≤x.2∧0≤x.1∧x.2≤1114111:=fun x hx=>keepR_le l x (hp.mem_iff.1 (List.mem_of_mem_take hx))
 obtain ⟨h1,h2⟩:=merge_go (s.take k) [] trivial (List.Pairwise.sublist (List.take_sublist _ _) hs) (fun x hx=>(hk x hx).1) (fun _ _ y hy=>by simp at hy)
 intro y hy
 have hle:=Nf_le h1 y hy
 obtain ⟨z,hz,_,_⟩:=((h2 y.1).1 ⟨y,hy,by omega,hle⟩).resolve_left (memR_nil _)
 obtain ⟨q,hq,_,_⟩:=((h2 y.2).1 ⟨y,hy,hle,by omega⟩).resolve_left (memR_nil _)
 have:=hk z hz;have:=hk q hq;omega
theorem merge_snoc {s : List (Int × Int)} {k : Nat} {x : Int × Int} (h : s[k]? = some x) : (s.take (k+1)).foldl mstep [] = mstep ((s.take k).foldl mstep []) x:=by
 rw [List.take_add_one,h];simp
theorem NF_of {l : List (Int × Int)} (h : Nf l) (hb : ∀ r,memR l r→0≤r∧r≤1114111) : NF l :=
 ⟨h,fun x hx=>⟨(hb x.1 ⟨x,hx,by omega,Nf_le h x hx⟩).1,(hb x.2 ⟨x,hx,Nf_le h x hx,by omega⟩).2⟩⟩
theorem normR_NF (l : List (Int × Int)) : NF (normR l):=NF_of (normR_nf l) fun r h=>by have:=(memR_normR l r).1 h;exact ⟨this.1,this.2.1⟩
theorem NF_mem {l : List (Int × Int)} (h : NF l) (r : Int) : hasP l r ↔ memR l r :=
 ⟨fun k=>k.2.2,fun ⟨x,hx,k⟩=>by have:=h.2 x hx;exact ⟨by omega,by omega,x,hx,k⟩⟩
theorem normR_of_NF {l : List (Int × Int)} (h : NF l) : normR l = l:=Nf_ext (normR_nf l) h.1 fun r=>(memR_normR l r).trans (NF_mem h r)
theorem hasP_normR (l : List (Int × Int)) (r : Int) : hasP (normR l) r ↔ hasP l r:=(NF_mem (normR_NF l) r).trans (memR_normR l r)
def notGo : Int→List (Int × Int)→List (Int × Int)
 | next,[]=>if next≤1114111 then [(next,1114111)] else []
 | next,x :: r=>(if next < x.1 then [(next,x.1 - 1)] else [])++notGo (x.2+1) r
def notR (l : List (Int × Int)) : List (Int × Int):=notGo 0 (normR l)
theorem notGo_spec : ∀ (l : List (Int × Int)) (next : Int) (_ : NF l) (_ : 0≤next) (_ : ∀ x ∈ l,next≤x.1),
  Nf (notGo next l)∧(∀ x ∈ notGo next l,next≤x.1)∧∀ r,memR (notGo next l) r ↔ (next≤r∧r≤1114111∧¬ memR l r)
 | [],next,_,h0,_=>by
  unfold notGo
  split
  ·refine ⟨⟨by simp only;omega,by simp,trivial⟩,by simp,fun r=>?_⟩
   rw [memR_cons];simp [memR_nil]
  ·exact ⟨trivial,by simp,fun r=>by simp [memR_nil];omega⟩
 | x :: l,next,hn,h0,hx=>by
  have hxb:=hn.2 x (by simp)
  have hxl:=hn.1.1
  obtain ⟨g1,g2,g3⟩:=notGo_spec l (x.2+1) ⟨hn.1.2.2,fun z hz=>hn.2 z (by simp [hz])⟩ (by omega) (fun z hz=>by have:=hn.1.2.1 z hz;omega)
  have hx1:=hx x (by simp)
  unfold notGo
  refine ⟨?_,?_,fun r=>?_⟩
  ·rw [Nf_append]
   refine ⟨?_,g1,?_⟩
   ·split
    ·exact ⟨by simp only;omega,by simp,trivial⟩
    ·trivial
   ·intro q hq p hp
    have:=g2 p hp
    split at hq
    ·simp at hq;subst hq;simp only;omega
    ·simp at hq
  ·intro q hq
   rcases List.mem_append.1 hq with hq | hq
   ·split at hq
    ·simp at hq;subst hq;simp
    ·simp at hq
   ·have:=g2 q hq;omega
  ·rw [memR_append,g3,memR_cons]
   have hl : ∀ q,memR l q→x.2+1 < q:=fun q ⟨z,hz,h1,_⟩=>by have:=hn.1.2.1 z hz;omega
   split
   ·rw [memR_cons]
    simp only [memR_nil,or_false,not_or]
    constructor
    ·rintro (h | ⟨h1,h2,h3⟩)
     ·refine ⟨by omega,by omega,by omega,fun hm=>?_⟩
      have:=hl r hm;omega
     ·exact ⟨by omega,h2,by omega,h3⟩
    ·rintro ⟨h1,h2,h3,h4⟩
     by_cases hr : r < x.1
     ·exact .inl (by omega)
     ·exact .inr ⟨by omega,h2,h4⟩
   ·simp only [memR_nil,false_or,not_or]
    constructor
    ·rintro ⟨h1,h2,h3⟩;exact ⟨by omega,h2,by omega,h3⟩
    ·rintro ⟨h1,h2,h3,h4⟩;exact ⟨by omega,h2,h4⟩
theorem notR_spec (l : List (Int × Int)) : Nf (notR l)∧∀ r,memR (notR l) r ↔ (0≤r∧r≤1114111∧¬ hasP l r):=by
 obtain ⟨h1,_,h3⟩:=notGo_spec (normR l) 0 (normR_NF l) (by omega) (fun x hx=>((normR_NF l).2 x hx).1)
 exact ⟨h1,fun r=>by rw [← memR_normR];exact h3 r⟩
theorem notR_NF (l : List (Int × Int)) : NF (notR l):=NF_of (notR_spec l).1 fun r h=>by have:=((notR_spec l).2 r).1 h;exact ⟨this.1,this.2.1⟩
theorem hasP_notR (l : List (Int × Int)) (r : Int) : hasP (notR l) r ↔ (0≤r∧r≤1114111∧¬ hasP l r):=(NF_mem (notR_NF l) r).trans ((notR_spec l).2 r)
def orR (a b : List (Int × Int)) : List (Int × Int):=normR (a++b)
theorem hasP_orR (a b : List (Int × Int)) (r : Int) : hasP (orR a b) r ↔ hasP a r∨hasP b r:=by
 rw [orR,hasP_normR];unfold hasP;rw [memR_append]
 constructor
 ·rintro ⟨h0,h1,h | h⟩
  ·exact .inl ⟨h0,h1,h⟩
  ·exact .inr ⟨h0,h1,h⟩
 ·rintro (⟨h0,h1,h⟩ | ⟨h0,h1,h⟩)
  ·exact ⟨h0,h1,.inl h⟩
  ·exact ⟨h0,h1,.inr h⟩
theorem orR_NF (a b : List (Int × Int)) : NF (orR a b):=normR_NF _
theorem NF_len : ∀ {l : List (Int × Int)} {b : Int} (_ : Nf l) (_ : ∀ x ∈ l,b≤x.1∧x.2≤1114111) (_ : b≤1114113),b+2*(l.length : Int)≤1114113
 | [],b,_,_,h=>by simp;omega
 | x :: l,b,hn,hb,_=>by
  have hx:=hb x (by simp)
  have:=hn.1
  have ih:=NF_len (l:=l) (b:=x.2+2) hn.2.2 (fun z hz=>⟨by have:=hn.2.1 z hz;omega,(hb z (by simp [hz])).2⟩) (by omega)
  simp only [List.length_cons];omega
theorem NF.len {l : List (Int × Int)} (h : NF l) : l.length≤557056:=by have:=NF_len (b:=0) h.1 h.2 (by omega);omega
def hasB (l : List (Int × Int)) (r : Int) : Bool:=decide (0≤r) && decide (r≤1114111) && l.any fun x=>decide (x.1≤r) && decide (r≤x.2)
theorem hasB_iff (l : List (Int × Int)) (r : Int) : hasB l r = true ↔ hasP l r:=by
 simp only [hasB,hasP,memR,Bool.and_eq_true,decide_eq_true_eq,List.any_eq_true]
 constructor
 ·rintro ⟨⟨h0,h1⟩,x,hx,h⟩;exact ⟨h0,h1,x,hx,h⟩
 ·rintro ⟨h0,h1,x,hx,h⟩;exact ⟨⟨h0,h1⟩,x,hx,h⟩
theorem notGo_cons (next : Int) (x : Int × Int) (r : List (Int × Int)) : notGo next (x :: r) = (if next < x.1 then [(next,x.1 - 1)] else [])++notGo (x.2+1) r:=rfl
theorem notGo_nil (next : Int) : notGo next [] = if next≤1114111 then [(next,1114111)] else []:=rfl
theorem drop_cons_of {α : Type} {l : List α} {k : Nat} {x : α} (h : l[k]? = some x) : l.drop k = x :: l.drop (k+1):=by
 obtain ⟨hk,rfl⟩:=List.getElem?_eq_some_iff.1 h
 exact List.drop_eq_getElem_cons hk
def atGo : List (Int × Int)→Int→Int × Bool
 | [],_=>(0,false)
 | x :: r,i=>if i < x.2 - x.1+1 then (x.1+i,true) else atGo r (i - (x.2 - x.1+1))
def atR (l : List (Int × Int)) (i : Int) : Int × Bool:=if i < 0 then (0,false) else atGo (normR l) i
end
section
open Go.RowKit
theorem infoR : (Tryz.prog.info? 262).map (fun i=>(i.zero,i.size,i.bytes)) = some (some (.agg #[.int .i32 0,.int .i32 0]),2,8):=by kernel_rfl
theorem infoInt : (Tryz.prog.info? 3).map (fun i=>(i.zero,i.size,i.bytes)) = some (some (.int .i64 0),1,8):=by kernel_rfl
theorem encR_ok (l : List (Int × Int)) : ∀ y ∈ l.map encR,y.length = 2∧∀ u ∈ y,u.oneCell' = true:=by
 intro y hy;obtain ⟨r,_,rfl⟩:=List.mem_map.1 hy
 exact ⟨rfl,by simp [encR,Value.oneCell']⟩
def eqRB (a b c d : Int) : Bool:=decide ((a,b) = (c,d))
theorem eqlR (a b c d : Int) (w : World) : (binOp .eql 262 (.agg #[.int .i32 a,.int .i32 b]) (.agg #[.int .i32 c,.int .i32 d])).run Tryz.prog w = .ok (.bool (eqRB a b c d)) w:=by
 have hS : Tryz.prog.underlying 262 = some (.struct (Tryz.prog.fieldsOf 262)):=by kernel_rfl
 have hp : Tryz.prog.stoodInHeld 262 = false:=by kernel_rfl
 have u3:=Tryz.underlying21
 have a3:=Tryz.isAgg21
 have z3:=Tryz.sizeOf21
 rw [run_eql_struct,show (10000 : Nat) = 9999+1 from rfl,run_equalIn_agg w 9999 _ _ _ hS hp]
 simp only [Program.fieldsOf,Tryz.underlying262]
 go_simp
 by_cases h1 : a = c <;> by_cases h2 : b = d <;> simp [eqRB,h1,h2]
theorem neqR (a b c d : Int) (w : World) : (binOp .neq 262 (.agg #[.int .i32 a,.int .i32 b]) (.agg #[.int .i32 c,.int .i32 d])).run Tryz.prog w = .ok (.bool (!eqRB a b c d)) w:=by
 have h:=eqlR a b c d w
 rw [run_eql_struct] at h
 rw [run_neq_struct]
 cases hq : (Op.equalIn 10000 262 (.agg #[.int .i32 a,.int .i32 b]) (.agg #[.int .i32 c,.int .i32 d])).run Tryz.prog w with
 | ok b' w'=>rw [hq] at h;simp at h;simp [h]
 | _=>rw [hq] at h;simp at h
theorem index_at (s : ByteArray) (i : Int) (p : Nat) (hi : i = p) (hp : p < s.size) (W : World) : (Instr.index 9 (.string s) (.int .i64 i)).run Tryz.prog W = .ok (.int .u8 ((s[p]'hp).toNat : Int)) W:=by
 subst hi
 rw [run_index_string _ _ _ _ _ Tryz.underlying9]
 simp [hp]
theorem quiet_left {P : Program} {f : FuncId} {args : Array Value} {w : World} {n : Nat} {v : Value}
  (h : Calls P f args (w.drewN n) fun e w'=>e = .returned v∧w.drewN n = w') : Calls P f args (w.drewN n) fun e w''=>e = .returned v∧∃ m,w'' = w.drewN m :=
 h.mono fun _ _ ⟨he,hm⟩=>⟨he,n,hm.symm⟩
end
section
open Go.RowKit
def isHexN (c : Int) : Bool:=decide ((48≤c∧c≤57)∨(65≤c∧c≤70))
def hexDig (c : Int) : Int:=if c≤57 then c - 48 else c - 55
theorem isHexN_t {c : Int} (h : (48≤c∧c≤57)∨(65≤c∧c≤70)) : true = isHexN c:=(decide_eq_true h).symm
theorem isHexN_f {c : Int} (h : ¬ ((48≤c∧c≤57)∨(65≤c∧c≤70))) : false = isHexN c:=(decide_eq_false h).symm
theorem rhex_any (c : Int) (w : World) (h0 : 0≤c) (h1 : c≤255) : Calls Tryz.prog 313 #[.int .u8 c] w fun e w'=>e = .returned (.bool (isHexN c))∧w = w':=by
 rcases (by omega : c < 48∨(48≤c∧c≤57)∨(57 < c∧c < 65)∨(65≤c∧c≤70)∨70 < c) with h | ⟨h,h'⟩ | ⟨h,h'⟩ | ⟨h,h'⟩ | h
 all_goals
  go_enter Tryz.func313,Tryz.ntmps313
  go_wp2
  go_ret
  exact ⟨ret_bool (by first | (refine isHexN_t ?_;omega) | (refine isHexN_f ?_;omega) | (unfold isHexN;rw [Bool.eq_iff_iff];simp only [Bool.or_eq_true,decide_eq_true_eq];omega)),rfl⟩
theorem ilower_any (c : Int) (w : World) (h0 : 65≤c) (h1 : c≤70) : Calls Tryz.prog 337 #[.int .u8 c] w fun e w'=>e = .returned (.int .u8 (c+32))∧w = w':=by
 rcases (by omega : c = 65∨c = 66∨c = 67∨c = 68∨c = 69∨c = 70) with rfl | rfl | rfl | rfl | rfl | rfl
 all_goals
  go_enter Tryz.func337,Tryz.ntmps337
  go_wp2
  go_ret
  exact ⟨rfl,rfl⟩
def hexVal (l : List UInt8) : Int:=l.foldl (fun a c=>a*16+hexDig c.toNat) 0
theorem hexVal_snoc (l : List UInt8) (c : UInt8) : hexVal (l++[c]) = hexVal l*16+hexDig c.toNat:=by simp [hexVal]
def allHex (l : List UInt8) : Prop:=∀ c ∈ l,isHexN (c.toNat : Int) = true
theorem hexDig_bd {c : Int} (h : isHexN c = true) : 0≤hexDig c∧hexDig c≤15:=by
 have:=of_decide_eq_true h
 unfold hexDig;split <;> omega
theorem hexVal_bd : ∀ (n : Nat) (l : List UInt8) (_ : l.length = n) (_ : allHex l),0≤hexVal l∧hexVal l < (16 : Int) ^ n
 | 0,l,h,_=>by
  have : l = []:=List.eq_nil_of_length_eq_zero h
  subst this;simp [hexVal]
 | n+1,l,h,ha=>by
  rcases List.eq_nil_or_concat l with rfl | ⟨o,y,rfl⟩
  ·simp at h
  ·rw [List.concat_eq_append] at *
   have ih:=hexVal_bd n o (by simpa using h) (fun c hc=>ha c (by simp [hc]))
   have hd:=hexDig_bd (ha y (by simp))
   rw [hexVal_snoc,Int.pow_succ]
   omega
theorem below_bytesWorld (w : World) (e : TypeId) (s : ByteArray) : Below w.heap.size w (Lib.bytesWorld w e s):=by
 refine ⟨?_,?_,?_,by rw [Lib.bytesWorld_size];omega,fun k hk=>Lib.bytesWorld_at_old w e s k hk⟩ <;> simp [Lib.bytesWorld,World.freeze,World.alloc,World.drew,-World.alloc_eq,-World.drew_eq]
theorem take_snoc_u8 {l : List UInt8} {k : Nat} {c : UInt8} (h : l[k]? = some c) : l.take (k+1) = l.take k++[c]:=by rw [List.take_add_one,h];rfl
theorem notEmpty {s : ByteArray} (h0 : 0 < s.size) : s.toList.isEmpty = false:=by
 rw [ByteArray.toList_eq]
 cases h : s.data.toList with
 | nil =>
  have h1 : s.data.toList.length = 0:=by rw [h];rfl
  have h2 : s.size = s.data.size:=rfl
  rw [Array.length_toList] at h1;omega
 | cons _ _=>rfl
theorem iParseUint_any (s : ByteArray) (w : World) (h0 : 0 < s.size) (h6 : s.size≤6) (hs : allHex s.data.toList) :
  Calls Tryz.prog 331 #[.string s,.int .i64 16,.int .i64 32] w fun e w'=>e = .returned (.tuple #[.int .u64 (hexVal s.data.toList),.nilIface])∧Below w.heap.size w w':=by
 have Hs:=Lib.hid hs
 clear hs
 have hcv:=fun W=>Lib.run_convert_string_bytes (P:=Tryz.prog) W 9 155 5 s Tryz.underlying9 Tryz.underlying155 Tryz.underlying5
 have he:=notEmpty h0
 go_enter Tryz.func331,Tryz.ntmps331
 go_wp2
 have hcell:=fun j hj=>Lib.bytesWorld_cell w 5 s j hj
 have hbw:=below_bytesWorld w 5 s
 generalize Lib.bytesWorld w 5 s = w1 at hcell hbw ⊢
 have Hcell:=Lib.hid hcell
 clear hcell hcv
 go_loop [12,13,101] (fun u v i=>∃ (k : Nat) (m : Int),u = .bool false∧k≤s.size∧v = .int .u64 m∧i = .int .i64 k∧Hid (m = hexVal (s.data.toList.take k))∧0≤m∧m≤16777215) (fun _ _ i=>s.size - (intOf i).toNat)
 case atStart=>exact ⟨0,0,rfl,by omega,rfl,rfl,rfl,by omega,by omega⟩
 case round =>
  obtain ⟨k,m,rfl,hk,rfl,rfl,Hm,hm0,hm1⟩:=hrel
  by_cases hlt : k < s.size
  ·obtain ⟨c,Hc⟩ : ∃ c,Hid (s.data.toList[k]? = some c):=⟨_,Lib.hid (List.getElem?_eq_getElem (by simpa using hlt))⟩
   have hc:=Hcell.out k hlt
   rw [List.getD_eq_getElem?_getD,Hc.out,Option.getD_some] at hc
   have HT:=Lib.hid (take_snoc_u8 Hc.out)
   have Hh : Hid (isHexN (c.toNat : Int) = true):=Lib.hid (Hs.out c (List.mem_of_getElem? Hc.out))
   have hbm : m≤1048575:=by
    have h1:=hexVal_bd k (s.data.toList.take k) (by simp;omega) (fun c hc=>Hs.out c (List.mem_of_mem_take hc))
    rw [← Hm.out] at h1
    have : (16 : Int) ^ k≤16 ^ 5:=by
     rcases (by omega : k = 0∨k = 1∨k = 2∨k = 3∨k = 4∨k = 5) with h | h | h | h | h | h <;> rw [h] <;> decide
    omega
   have hcr:=of_decide_eq_true Hh.out
   have hbd:=hexDig_bd Hh.out
   have HV : Hid (hexVal (s.data.toList.take (k+1)) = m*16+hexDig c.toNat):=Lib.hid (by rw [HT.out,hexVal_snoc,Hm.out])
   rcases hcr with ⟨h48,h57⟩ | ⟨h65,h70⟩
   ·have hd : hexDig (c.toNat : Int) = c.toNat - 48:=if_pos h57
    have HV' : Hid (hexVal (s.data.toList.take (k+1)) = m*16+(c.toNat - 48)):=Lib.hid (by rw [HV.out,hd])
    clear hd hbd
    go_wp2
    refine ⟨⟨k+1,m*16+(c.toNat - 48),rfl,by omega,rfl,by go_num,Lib.hid HV'.out.symm,by omega,by omega⟩,?_⟩
    simp [intOf];omega
   ·have hd : hexDig (c.toNat : Int) = c.toNat - 55:=if_neg (by omega)
    have HV' : Hid (hexVal (s.data.toList.take (k+1)) = m*16+(c.toNat - 55)):=Lib.hid (by rw [HV.out,hd])
    clear hd hbd
    go_wp2_with (go_at_call 337;go_must (refine (ilower_any c.toNat _ h65 h70).mono ?_);rintro e w' ⟨rfl,rfl⟩)
    refine ⟨⟨k+1,m*16+(c.toNat+32 - 97+10),rfl,by omega,rfl,by go_num,Lib.hid (by rw [HV'.out];omega),by omega,by omega⟩,?_⟩
    simp [intOf];omega
  ·have HE : Hid (m = hexVal s.data.toList):=Lib.hid (by rw [Hm.out,List.take_of_length_le (by simp;omega)])
   go_wp2
   go_ret2
   exact ⟨by rw [HE.out];rfl,hbw⟩
theorem iParseInt_any (s : ByteArray) (w : World) (h0 : 0 < s.size) (h6 : s.size≤6) (hs : allHex s.data.toList) :
  Calls Tryz.prog 326 #[.string s,.int .i64 16,.int .i64 32] w fun e w'=>e = .returned (.tuple #[.int .i64 (hexVal s.data.toList),.nilIface])∧Below w.heap.size w w':=by
 have hbd:=hexVal_bd s.size s.data.toList rfl hs
 have hb2 : hexVal s.data.toList≤16777215:=by
  have : (16 : Int) ^ s.size≤16777216:=by
   rcases (by omega : s.size = 1∨s.size = 2∨s.size = 3∨s.size = 4∨s.size = 5∨s.size = 6) with h | h | h | h | h | h <;> rw [h] <;> decide
  omega
 have hb1:=hbd.1
 clear hbd
 have he:=notEmpty h0
 have hc : (48≤((s[0]'h0).toNat : Int)∧((s[0]'h0).toNat : Int)≤57)∨(65≤((s[0]'h0).toNat : Int)∧((s[0]'h0).toNat : Int)≤70) :=
  of_decide_eq_true (hs (s[0]'h0) (by rw [show s[0]'h0 = s.data.toList[0]'(by simpa using h0) from rfl];exact List.getElem_mem _))
 have h43 : (((s[0]'h0).toNat : Int) == 43) = false:=beq_eq_false_iff_ne.2 (by omega)
 have h45 : (((s[0]'h0).toNat : Int) == 45) = false:=beq_eq_false_iff_ne.2 (by omega)
 clear hc
 have Hs:=Lib.hid hs
 clear hs
 have hP:=fun W=>iParseUint_any s W h0 h6 Hs.out
 generalize hexVal s.data.toList = V at hb1 hb2 hP ⊢
 have HP:=Lib.hid hP
 clear hP
 go_enter Tryz.func326,Tryz.ntmps326
 go_wp2_with fail
 refine (HP.out _).mono ?_
 rintro e w1 ⟨rfl,hb⟩
 go_wp2
 go_ret2
 exact ⟨rfl,hb⟩
theorem lParseInt_any (s : ByteArray) (w : World) (h0 : 0 < s.size) (h6 : s.size≤6) (hs : allHex s.data.toList) :
  Calls Tryz.prog 314 #[.string s,.int .i64 16,.int .i64 32] w fun e w'=>e = .returned (.tuple #[.int .i64 (hexVal s.data.toList),.nilIface])∧Below w.heap.size w w':=by
 have hP:=fun W=>iParseInt_any s W h0 h6 hs
 generalize hexVal s.data.toList = V at hP ⊢
 have HP:=Lib.hid hP
 clear hP hs
 go_enter Tryz.func314,Tryz.ntmps314
 go_wp2_with fail
 refine (HP.out _).mono ?_
 rintro e w1 ⟨rfl,hb⟩
 go_wp2
 go_ret2
 exact ⟨rfl,hb⟩
end
section
def rest (s : ByteArray) (a : Nat) : List UInt8:=s.data.toList.drop a
def hexRun (s : ByteArray) (a : Nat) : List UInt8:=(rest s a).takeWhile fun c=>isHexN (c.toNat : Int)
def runeAt (s : ByteArray) (a : Nat) : Nat × Nat:=if a < s.size then Utf8.decode s a else (65533,0)
def numP (s : ByteArray) (a : Nat) : Except (Int × Nat) (Int × Nat) :=
 if (hexRun s (a+2)).length < 4∨6 < (hexRun s (a+2)).length then .error (21,a)
 else if 1114111 < hexVal (hexRun s (a+2)) then .error (22,a)
 else .ok (hexVal (hexRun s (a+2)),a+2+(hexRun s (a+2)).length)
def quoP (s : ByteArray) (a : Nat) : Except (Int × Nat) (Int × Nat) :=
 if (runeAt s (a+1)).2 = 0 then .error (21,a)
 else if (rest s (a+1+(runeAt s (a+1)).2)).head? ≠ some 39 then .error (21,a)
 else if (runeAt s (a+1)).1 = 65533∧(runeAt s (a+1)).2 = 1 then .error (23,a+1)
 else .ok ((runeAt s (a+1)).1,a+2+(runeAt s (a+1)).2)
def runeP (s : ByteArray) (a : Nat) : Except (Int × Nat) (Int × Nat) :=
 if [85,43].isPrefixOf (rest s a) then numP s a else if [39].isPrefixOf (rest s a) then quoP s a else .error (21,a)
def itemP (s : ByteArray) (a : Nat) : Except (Int × Nat) ((Int × Int) × Nat) :=
 match runeP s a with
 | .error e=>.error e
 | .ok (lo,p) =>
  match (if (rest s p).head? = some 45 then runeP s (p+1) else .ok (lo,p)) with
  | .error e=>.error e
  | .ok (hi,q)=>if hi < lo then .error (20,a) else if (rest s q).head? ≠ none∧(rest s q).head? ≠ some 32 then .error (21,q) else .ok ((lo,hi),q)
def parseGo (s : ByteArray) : Nat→Nat→List (Int × Int)→Except (Int × Nat) (List (Int × Int))
 | 0,_,l=>.ok l
 | f+1,a,l =>
  match (rest s a).head? with
  | none=>.ok l
  | some c=>if c = 32 then parseGo s f (a+1) l else
   match itemP s a with
   | .error e=>.error e
   | .ok (x,q)=>parseGo s f q (l++[x])
def parseP (s : ByteArray) : Except (Int × Nat) (List (Int × Int)):=parseGo s (s.size+1) 0 []
theorem size_data (s : ByteArray) : s.data.toList.length = s.size:=by rw [Array.length_toList];rfl
theorem rest_head {s : ByteArray} {a : Nat} (h : a < s.size) : (rest s a).head? = some (s[a]'h):=by
 unfold rest;rw [List.head?_drop,List.getElem?_eq_getElem (by rw [size_data];exact h)];rfl
theorem rest_none {s : ByteArray} {a : Nat} (h : s.size≤a) : rest s a = []:=List.drop_of_length_le (by rw [size_data];exact h)
theorem rest_cons {s : ByteArray} {a : Nat} (h : a < s.size) : rest s a = s[a]'h :: rest s (a+1):=by
 unfold rest;rw [List.drop_eq_getElem_cons (by rw [size_data];exact h)];rfl
theorem hexRun_cons {s : ByteArray} {a : Nat} (h : a < s.size) : hexRun s a = if isHexN ((s[a]'h).toNat : Int) then s[a]'h :: hexRun s (a+1) else []:=by
 unfold hexRun;rw [rest_cons h,List.takeWhile_cons]
theorem hexRun_none {s : ByteArray} {a : Nat} (h : s.size≤a) : hexRun s a = []:=by unfold hexRun;rw [rest_none h];rfl
theorem hexRun_all (s : ByteArray) (a : Nat) : allHex (hexRun s a):=fun c hc=>by
 unfold hexRun at hc
 generalize rest s a = l at hc
 induction l with
 | nil=>simp at hc
 | cons x l ih =>
  rw [List.takeWhile_cons] at hc
  split at hc
  ·rename_i hx
   rcases List.mem_cons.1 hc with rfl | hc
   ·exact hx
   ·exact ih hc
  ·simp at hc
theorem hexRun_le (s : ByteArray) (a : Nat) (h : a≤s.size) : a+(hexRun s a).length≤s.size:=by
 have h1 : (hexRun s a).length≤(rest s a).length:=(List.takeWhile_sublist _).length_le
 unfold rest at h1;rw [List.length_drop,size_data] at h1;omega
theorem hexRun_extract (s : ByteArray) (a : Nat) : (s.extract a (a+(hexRun s a).length)).data.toList = hexRun s a:=by
 rw [Lib.extract_data,Nat.add_sub_cancel_left]
 exact (List.prefix_iff_eq_take.1 (List.takeWhile_prefix _)).symm
theorem dec_bd (s : ByteArray) (i : Nat) (h : i < s.size) : 1≤(Utf8.decode s i).2∧(Utf8.decode s i).2≤4∧i+(Utf8.decode s i).2≤s.size∧(Utf8.decode s i).1≤1114111:=by
 unfold Utf8.decode
 simp only [Bool.and_eq_true,beq_iff_eq,decide_eq_true_eq]
 have hb : ∀ k,(s.get! (i+k)).toNat < 256:=fun k=>(s.get! (i+k)).toNat_lt
 have h0:=hb 0;have h1:=hb 1;have h2:=hb 2;have h3:=hb 3
 generalize (s.get! (i+0)).toNat = b0 at *
 generalize (s.get! (i+1)).toNat = b1 at *
 generalize (s.get! (i+2)).toNat = b2 at *
 generalize (s.get! (i+3)).toNat = b3 at *
 split
 ·simp only;omega
 ·split
  ·split <;> simp only [Utf8.runeError] <;> omega
  ·split
   ·split <;> simp only [Utf8.runeError] <;> omega
   ·split
    ·split
     ·rename_i hv
      have : Utf8.valid (b0 % 8*262144+b1 % 64*4096+b2 % 64*64+b3 % 64) = true:=hv.2
      unfold Utf8.valid at this
      simp at this
      simp only;omega
     ·simp only [Utf8.runeError];omega
    ·simp only [Utf8.runeError];omega
theorem runeAt_bd (s : ByteArray) (a : Nat) (h : a≤s.size) : (runeAt s a).2≤4∧a+(runeAt s a).2≤s.size∧(runeAt s a).1≤1114111:=by
 unfold runeAt
 split
 ·rename_i h;have:=dec_bd s a h;omega
 ·simp only;omega
end
section
theorem rest_len (s : ByteArray) (a : Nat) : (rest s a).length = s.size - a:=by unfold rest;rw [List.length_drop,size_data]
theorem byte_ne {x : UInt8} {n : Nat} (h : ¬ x = UInt8.ofNat n) (hn : n < 256:=by decide) : ((x.toNat : Int) != (n : Int)) = true:=by
 rw [bne_iff_ne];intro e
 exact h (UInt8.toNat_inj.1 (by rw [show x.toNat = n by omega];exact (UInt8.toNat_ofNat_of_lt' hn).symm))
theorem numP_ok {s : ByteArray} {a q : Nat} {r : Int} (ha : a+2≤s.size) (h : numP s a = .ok (r,q)) : a < q∧q≤s.size∧0≤r∧r≤1114111:=by
 unfold numP at h
 have h1:=hexRun_le s (a+2) ha
 have h2:=(hexVal_bd _ (hexRun s (a+2)) rfl (hexRun_all s _)).1
 split at h
 ·cases h
 ·split at h
  ·cases h
  ·injection h with h;injection h with h3 h4;subst h3;subst h4;omega
theorem quoP_ok' {s : ByteArray} {a q : Nat} {r : Int} (ha : a+1≤s.size) (h : quoP s a = .ok (r,q)) : a < q∧q≤s.size∧0≤r∧r≤1114111:=by
 unfold quoP at h
 obtain ⟨h1,h2,h3⟩:=runeAt_bd s (a+1) ha
 split at h
 ·cases h
 ·split at h
  ·cases h
  ·rename_i hq
   split at h
   ·cases h
   ·injection h with h;injection h with h4 h5;subst h4;subst h5
    have : a+1+(runeAt s (a+1)).2 < s.size:=by
     rcases Nat.lt_or_ge (a+1+(runeAt s (a+1)).2) s.size with hlt | hge
     ·exact hlt
     ·rw [rest_none hge] at hq;simp at hq
    omega
theorem runeP_ok {s : ByteArray} {a q : Nat} {r : Int} (h : runeP s a = .ok (r,q)) : a < q∧q≤s.size∧0≤r∧r≤1114111:=by
 unfold runeP at h
 split at h
 ·rename_i h1
  have:=(List.isPrefixOf_iff_prefix.1 h1).length_le
  rw [rest_len] at this;simp at this
  exact numP_ok (by omega) h
 ·split at h
  ·rename_i h1
   have:=(List.isPrefixOf_iff_prefix.1 h1).length_le
   rw [rest_len] at this;simp at this
   exact quoP_ok' (by omega) h
  ·cases h
def ParseEnd (base : Nat) (r : Except (Int × Nat) (List (Int × Int))) (e : Ending) (w' : World) : Prop :=
 match r with
 | .error x=>e = .returned (.tuple #[.slice none 0 0,.int .i64 x.1,.int .i64 x.2])
 | .ok l=>∃ A n c,e = .returned (.tuple #[.slice A n c,.int .i64 0,.int .i64 0])∧Own w' base 262 2 A n c ((normR l).map encR)
theorem ParseEnd.err {base : Nat} {r : Except (Int × Nat) (List (Int × Int))} {x : Int × Nat} {w' : World} (h : r = .error x) :
  ParseEnd base r (.returned (.tuple #[.slice none 0 0,.int .i64 x.1,.int .i64 x.2])) w':=by rw [h];exact rfl
theorem ParseEnd.fine {base : Nat} {r : Except (Int × Nat) (List (Int × Int))} {l : List (Int × Int)} {w' : World} {A : Option Addr} {n c : Nat} (h : r = .ok l) (ho : Own w' base 262 2 A n c ((normR l).map encR)) :
  ParseEnd base r (.returned (.tuple #[.slice A n c,.int .i64 0,.int .i64 0])) w':=by rw [h];exact ⟨_,_,_,rfl,ho⟩
theorem itemP_ok {s : ByteArray} {a q : Nat} {x : Int × Int} (h : itemP s a = .ok (x,q)) : a < q∧q≤s.size:=by
 unfold itemP at h
 cases h1 : runeP s a with
 | error e=>rw [h1] at h;cases h
 | ok y =>
  obtain ⟨lo,p⟩:=y
  have b1:=runeP_ok h1
  rw [h1] at h
  by_cases h45 : (rest s p).head? = some 45
  ·simp only [h45,if_true] at h
   cases h2 : runeP s (p+1) with
   | error e=>rw [h2] at h;cases h
   | ok z =>
    obtain ⟨hi,q'⟩:=z
    have b2:=runeP_ok h2
    rw [h2] at h
    simp only at h
    split at h
    ·cases h
    ·split at h
     ·cases h
     ·cases h;omega
  ·simp only [h45,if_false] at h
   split at h
   ·cases h
   ·split at h
    ·cases h
    ·cases h;omega
theorem runeP_err {s : ByteArray} {a p : Nat} {e : Int} (h : runeP s a = .error (e,p)) : 21≤e∧e≤23∧p≤a+1:=by
 unfold runeP numP quoP at h
 repeat' split at h
 all_goals first
  | (injection h with h;injection h with h1 h2;subst h1;subst h2;omega)
  | cases h
end
section
def bytesOf (l : List UInt8) : ByteArray:=⟨l.toArray⟩
theorem bytesOf_list (l : List UInt8) : (bytesOf l).data.toList = l:=by simp [bytesOf]
theorem bytesOf_size (l : List UInt8) : (bytesOf l).size = l.length:=by rw [← size_data,bytesOf_list]
theorem bytesOf_get (l : List UInt8) (k : Nat) : (bytesOf l).get! k = l.getD k 0:=by rw [← Lib.getD_get!',bytesOf_list]
theorem bytesOf_data (s : ByteArray) : bytesOf s.data.toList = s:=by simp [bytesOf]
def qtL : List UInt8→Option Nat
 | []=>none
 | c :: r=>if c = 39∧r ≠ []∧r[(Utf8.decode (bytesOf r) 0).2]? = some 39 then some ((Utf8.decode (bytesOf r) 0).2+2) else none
theorem qtL_cons (c : UInt8) (r : List UInt8) : qtL (c :: r) = if c = 39∧r ≠ []∧r[(Utf8.decode (bytesOf r) 0).2]? = some 39 then some ((Utf8.decode (bytesOf r) 0).2+2) else none:=rfl
theorem decL_bd {r : List UInt8} (h : r ≠ []) : 1≤(Utf8.decode (bytesOf r) 0).2∧(Utf8.decode (bytesOf r) 0).2≤4∧(Utf8.decode (bytesOf r) 0).2≤r.length:=by
 have hl : 0 < (bytesOf r).size:=by rw [bytesOf_size];exact List.length_pos_iff.2 h
 have:=dec_bd (bytesOf r) 0 hl
 rw [bytesOf_size] at this
 omega
theorem qtL_some {l : List UInt8} {k : Nat} (h : qtL l = some k) : 3≤k∧k≤6∧k≤l.length∧l[0]? = some 39∧l[k - 1]? = some 39:=by
 cases l with
 | nil=>simp [qtL] at h
 | cons c r =>
  rw [qtL_cons] at h
  split at h
  ·rename_i hc
   obtain ⟨rfl,h2,h3⟩:=hc
   injection h with h
   have hd:=decL_bd h2
   have hlt:=(List.getElem?_eq_some_iff.1 h3).1
   refine ⟨by omega,by omega,by simp only [List.length_cons];omega,rfl,?_⟩
   rw [← h,show (Utf8.decode (bytesOf r) 0).2+2 - 1 = (Utf8.decode (bytesOf r) 0).2+1 by omega,zI]
   exact h3
  ·cases h
def findL (c : UInt8) : Nat→List UInt8→Option Nat
 | 0,_=>none
 | _+1,[]=>none
 | f+1,x :: r=>match qtL (x :: r) with
  | some k=>(findL c f ((x :: r).drop k)).map (·+k)
  | none=>if x = c then some 0 else (findL c f r).map (·+1)
def findP (c : UInt8) (l : List UInt8) : Option Nat:=findL c l.length l
theorem findL_fuel (c : UInt8) : ∀ (f g : Nat) (l : List UInt8),l.length≤f→l.length≤g→findL c f l = findL c g l
 | 0,g,l,hf,_=>by
  have : l = []:=List.eq_nil_of_length_eq_zero (by omega)
  subst this
  cases g <;> rfl
 | f+1,0,l,_,hg=>by
  have : l = []:=List.eq_nil_of_length_eq_zero (by omega)
  subst this;rfl
 | f+1,g+1,[],_,_=>rfl
 | f+1,g+1,x :: r,hf,hg=>by
  simp only [List.length_cons] at hf hg
  unfold findL
  cases hq : qtL (x :: r) with
  | some k =>
   have:=qtL_some hq
   simp only
   rw [findL_fuel c f g _ (by rw [List.length_drop,List.length_cons];omega) (by rw [List.length_drop,List.length_cons];omega)]
  | none=>simp only;rw [findL_fuel c f g r (by omega) (by omega)]
theorem findP_nil (c : UInt8) : findP c [] = none:=rfl
theorem findP_qt {c : UInt8} {l : List UInt8} {k : Nat} (h : qtL l = some k) : findP c l = (findP c (l.drop k)).map (·+k):=by
 cases l with
 | nil=>simp [qtL] at h
 | cons x r =>
  have:=qtL_some h
  unfold findP
  rw [List.length_cons]
  show (match qtL (x :: r) with | some k=>_ | none=>_) = _
  rw [h]
  simp only
  rw [findL_fuel c r.length ((x :: r).drop k).length _ (by rw [List.length_drop,List.length_cons];omega) (Nat.le_refl _)]
theorem findP_cons {c x : UInt8} {r : List UInt8} (h : qtL (x :: r) = none) : findP c (x :: r) = if x = c then some 0 else (findP c r).map (·+1):=by
 unfold findP
 rw [List.length_cons]
 show (match qtL (x :: r) with | some k=>_ | none=>_) = _
 rw [h]
theorem findP_lt {c : UInt8} : ∀ (n : Nat) (l : List UInt8),l.length≤n→∀ i,findP c l = some i→l[i]? = some c
 | 0,l,hn,i,h=>by
  have : l = []:=List.eq_nil_of_length_eq_zero (by omega)
  subst this;simp [findP_nil] at h
 | n+1,[],_,i,h=>by simp [findP_nil] at h
 | n+1,x :: r,hn,i,h=>by
  cases hq : qtL (x :: r) with
  | some k =>
   have:=qtL_some hq
   rw [findP_qt hq] at h
   obtain ⟨j,hj,rfl⟩:=Option.map_eq_some_iff.1 h
   have ih:=findP_lt n _ (by rw [List.length_drop,List.length_cons];simp at hn;omega) j hj
   rw [List.getElem?_drop] at ih
   rw [Nat.add_comm];exact ih
  | none =>
   rw [findP_cons hq] at h
   split at h
   ·rename_i hx
    injection h with h;subst h;subst hx;rfl
   ·obtain ⟨j,hj,rfl⟩:=Option.map_eq_some_iff.1 h
    rw [zI]
    exact findP_lt n r (by simpa using hn) j hj
def blkB (c : UInt8) : Bool:=c == 32 || c == 9
def trimL (l : List UInt8) : List UInt8:=((l.dropWhile blkB).reverse.dropWhile blkB).reverse
end
section
def trimR (l : List UInt8) : List UInt8:=(l.reverse.dropWhile blkB).reverse
theorem trimL_eq (l : List UInt8) : trimL l = trimR (l.dropWhile blkB):=rfl
theorem dropWhile_all {p : UInt8→Bool} : ∀ {l : List UInt8},(∀ c ∈ l,p c = true)→l.dropWhile p = []
 | [],_=>rfl
 | x :: r,h=>by rw [List.dropWhile_cons,if_pos (h x (by simp)),dropWhile_all (fun c hc=>h c (by simp [hc]))]
theorem dropWhile_app {p : UInt8→Bool} : ∀ {b l : List UInt8},(∀ c ∈ b,p c = true)→(b++l).dropWhile p = l.dropWhile p
 | [],_,_=>rfl
 | x :: b,l,h=>by rw [List.cons_append,List.dropWhile_cons,if_pos (h x (by simp)),dropWhile_app (fun c hc=>h c (by simp [hc]))]
theorem dropWhile_stop {p : UInt8→Bool} {x : UInt8} {r : List UInt8} (h : p x = false) : (x :: r).dropWhile p = x :: r:=by
 rw [List.dropWhile_cons,if_neg (by rw [h];decide)]
def Bare (u : List UInt8) : Prop:=u = []∨(∃ x,u.head? = some x∧blkB x = false)∧∃ y,u.getLast? = some y∧blkB y = false
theorem bare_last {u : List UInt8} (h : Bare u) : trimR u = u:=by
 unfold trimR
 have : u.reverse.dropWhile blkB = u.reverse:=by
  rcases h with rfl | ⟨_,⟨y,hy,hb⟩⟩
  ·rfl
  ·rcases List.eq_nil_or_concat u with rfl | ⟨o,z,rfl⟩
   ·simp at hy
   ·rw [List.concat_eq_append] at hy ⊢
    simp at hy;subst hy
    rw [List.reverse_append,List.reverse_singleton,List.singleton_append]
    exact dropWhile_stop hb
 rw [this,List.reverse_reverse]
theorem trimR_app {l e : List UInt8} (he : ∀ c ∈ e,blkB c = true) : trimR (l++e) = trimR l:=by
 unfold trimR
 rw [List.reverse_append,dropWhile_app (fun c hc=>he c (List.mem_reverse.1 hc))]
theorem trim_unique {b u e : List UInt8} (hb : ∀ c ∈ b,blkB c = true) (he : ∀ c ∈ e,blkB c = true) (hu : Bare u) : trimL (b++u++e) = u:=by
 rw [trimL_eq,List.append_assoc,dropWhile_app hb]
 by_cases h0 : u = []
 ·subst h0
  rw [List.nil_append,dropWhile_all he];rfl
 ·have hne : (u++e).dropWhile blkB = u++e:=by
   rcases hu with h | ⟨⟨x,hx,hb⟩,_⟩
   ·exact absurd h h0
   ·cases u with
    | nil=>simp at hx
    | cons y r=>simp at hx;subst hx;rw [List.cons_append];exact dropWhile_stop hb
  rw [hne,trimR_app he,bare_last hu]
theorem takeWhile_all {p : UInt8→Bool} : ∀ (l : List UInt8),∀ c ∈ l.takeWhile p,p c = true
 | [],c,h=>by simp at h
 | x :: r,c,h=>by
  rw [List.takeWhile_cons] at h
  split at h
  ·rename_i hx
   rcases List.mem_cons.1 h with rfl | h
   ·exact hx
   ·exact takeWhile_all r c h
  ·simp at h
theorem dropWhile_head {p : UInt8→Bool} : ∀ (l : List UInt8),l.dropWhile p = []∨∃ x,(l.dropWhile p).head? = some x∧p x = false
 | []=>.inl rfl
 | x :: r=>by
  rw [List.dropWhile_cons]
  cases hx : p x with
  | true=>rw [if_pos rfl];exact dropWhile_head r
  | false=>rw [if_neg (by decide)];exact .inr ⟨x,rfl,hx⟩
theorem trimR_parts (l : List UInt8) : ∃ e,l = trimR l++e∧(∀ c ∈ e,blkB c = true)∧(trimR l = []∨∃ y,(trimR l).getLast? = some y∧blkB y = false):=by
 refine ⟨(l.reverse.takeWhile blkB).reverse,?_,fun c hc=>takeWhile_all _ c (List.mem_reverse.1 hc),?_⟩
 ·unfold trimR
  rw [← List.reverse_append,List.takeWhile_append_dropWhile,List.reverse_reverse]
 ·unfold trimR
  rcases dropWhile_head (p:=blkB) l.reverse with h | ⟨x,h1,h2⟩
  ·rw [h];exact .inl rfl
  ·exact .inr ⟨x,by rw [List.getLast?_reverse];exact h1,h2⟩
theorem trimL_parts (l : List UInt8) : ∃ b e,l = b++trimL l++e∧(∀ c ∈ b,blkB c = true)∧(∀ c ∈ e,blkB c = true)∧Bare (trimL l):=by
 obtain ⟨e,h1,h2,h3⟩:=trimR_parts (l.dropWhile blkB)
 refine ⟨l.takeWhile blkB,e,?_,takeWhile_all l,h2,?_⟩
 ·rw [List.append_assoc,trimL_eq,← h1,List.takeWhile_append_dropWhile]
 ·rw [trimL_eq]
  rcases h3 with h3 | h3
  ·exact .inl h3
  ·refine .inr ⟨?_,h3⟩
   rcases dropWhile_head (p:=blkB) l with h | ⟨x,hx,hb⟩
   ·rw [h] at h3;obtain ⟨y,hy,_⟩:=h3;simp [trimR] at hy
   ·refine ⟨x,?_,hb⟩
    have hne : trimR (l.dropWhile blkB) ≠ []:=by intro e0;obtain ⟨y,hy,_⟩:=h3;rw [e0] at hy;simp at hy
    rw [h1] at hx
    cases hz : trimR (l.dropWhile blkB) with
    | nil=>exact absurd hz hne
    | cons z zs=>rw [hz,List.cons_append,List.head?_cons] at hx;rw [List.head?_cons];exact hx
theorem trimS_eq (l : List UInt8) : Lib.trimS l [32,9] = trimL l:=by
 have hp : (fun c=>([32,9] : List UInt8).contains c) = blkB:=by
  funext c
  simp only [blkB,List.contains_cons,List.contains_nil,Bool.or_false]
 unfold Lib.trimS Lib.trimLeftS Lib.trimRightS
 rw [hp]
 show (trimR l).dropWhile blkB = trimL l
 obtain ⟨e,h1,h2,h3⟩:=trimR_parts l
 have hb : Bare ((trimR l).dropWhile blkB):=by
  rcases dropWhile_head (p:=blkB) (trimR l) with h | h
  ·exact .inl h
  ·refine .inr ⟨h,?_⟩
   obtain ⟨x,hx,_⟩:=h
   rcases h3 with h3 | ⟨y,hy,hyb⟩
   ·rw [h3] at hx;simp at hx
   ·refine ⟨y,?_,hyb⟩
    have hne : (trimR l).dropWhile blkB ≠ []:=by intro e0;rw [e0] at hx;simp at hx
    have h5:=List.takeWhile_append_dropWhile (p:=blkB) (l:=trimR l)
    rw [← h5,List.getLast?_append] at hy
    cases hz : ((trimR l).dropWhile blkB).getLast? with
    | none=>exact absurd (List.getLast?_eq_none_iff.1 hz) hne
    | some z=>rw [hz] at hy;simpa using hy
 have h5:=List.takeWhile_append_dropWhile (p:=blkB) (l:=trimR l)
 have h6 : l = (trimR l).takeWhile blkB++(trimR l).dropWhile blkB++e:=by rw [h5];exact h1
 conv=>rhs;rw [h6]
 exact (trim_unique (takeWhile_all _) h2 hb).symm
def hashP (l : List UInt8) : Nat:=(findP 35 l).getD l.length
def spcL (l : List UInt8) : List UInt8:=l.map fun c=>if c = 9 then 32 else c
def parseE (l : List UInt8) : Except Int (List (Int × Int)):=match parseP (bytesOf l) with | .error x=>.error x.1 | .ok l=>.ok l
section
variable {l : List UInt8}
theorem runeAt_sh (c : UInt8) (a : Nat) : runeAt (bytesOf (c :: l)) (a+1) = runeAt (bytesOf l) a:=by
 unfold runeAt
 have h1 : a+1 < (bytesOf (c :: l)).size ↔ a < (bytesOf l).size:=by rw [bytesOf_size,bytesOf_size,List.length_cons];omega
 have hd : Utf8.decode (bytesOf (c :: l)) (a+1) = Utf8.decode (bytesOf l) a:=by
  rw [Lib.decode_at,Lib.decode_at]
  have hs : (bytesOf (c :: l)).size - (a+1) = (bytesOf l).size - a:=by rw [bytesOf_size,bytesOf_size,List.length_cons];omega
  have hg : ∀ k,(bytesOf (c :: l)).get! (a+1+k) = (bytesOf l).get! (a+k):=fun k=>by
   rw [bytesOf_get,bytesOf_get,show a+1+k = a+k+1 by omega];rfl
  have hg0 : (bytesOf (c :: l)).get! (a+1) = (bytesOf l).get! a:=hg 0
  rw [hs,hg0,hg 1,hg 2,hg 3]
 by_cases h : a < (bytesOf l).size
 ·rw [if_pos h,if_pos (h1.2 h),hd]
 ·rw [if_neg h,if_neg (fun k=>h (h1.1 k))]
end
inductive Line where
 | none_ : Line
 | noLine : Line
 | says (name : List UInt8) (set : List UInt8) : Line
def lineP (l : List UInt8) : Line :=
 let u:=trimL (l.take (hashP l))
 if u = [] then .none_ else match findP 59 u with
 | none=>.noLine
 | some j=>.says (trimL (u.drop (j+1))) (u.take j)
end
section
def letB (c : UInt8) : Bool:=decide (65≤c.toNat∧c.toNat≤90) || decide (97≤c.toNat∧c.toNat≤122)
def partB (c : UInt8) : Bool:=letB c || decide (48≤c.toNat∧c.toNat≤57) || c == 95
def nameL : List UInt8→Bool
 | []=>false
 | c :: r=>letB c && r.all partB && decide (r.length≤31)
def otherL : List UInt8:=[79,116,104,101,114]
def meetB (a b : List (Int × Int)) : Bool:=a.any fun x=>b.any fun y=>decide (x.1≤y.2) && decide (y.1≤x.2)
theorem meetB_nil_left (b : List (Int × Int)) : meetB [] b = false:=rfl
theorem meetB_nil_right (a : List (Int × Int)) : meetB a [] = false:=by simp [meetB]
theorem meetB_iff {a b : List (Int × Int)} (ha : Nf a) (hb : Nf b) : meetB a b = true ↔ ∃ r,memR a r∧memR b r:=by
 simp only [meetB,List.any_eq_true,Bool.and_eq_true,decide_eq_true_eq,memR]
 constructor
 ·rintro ⟨x,hx,y,hy,h1,h2⟩
  have:=Nf_le ha x hx;have:=Nf_le hb y hy
  rcases Int.le_total x.1 y.1 with h | h
  ·exact ⟨y.1,⟨x,hx,h,h2⟩,y,hy,by omega,by omega⟩
  ·exact ⟨x.1,⟨x,hx,by omega,by omega⟩,y,hy,h,h1⟩
 ·rintro ⟨r,⟨x,hx,h1,h2⟩,y,hy,h3,h4⟩
  exact ⟨x,hx,y,hy,by omega,by omega⟩
theorem meetB_left {x : Int × Int} {a : List (Int × Int)} {y : Int × Int} {b : List (Int × Int)} (hb : Nf (y :: b)) (h : x.2 < y.1) : meetB (x :: a) (y :: b) = meetB a (y :: b):=by
 have e : ((y :: b).any fun z=>decide (x.1≤z.2) && decide (z.1≤x.2)) = false:=by
  rw [List.any_eq_false]
  intro z hz
  have : y.1≤z.1:=by
   rcases List.mem_cons.1 hz with rfl | hz
   ·omega
   ·have:=hb.2.1 z hz;have:=hb.1;omega
  simp;omega
 unfold meetB
 rw [List.any_cons,e,Bool.false_or]
theorem meetB_right {x : Int × Int} {a : List (Int × Int)} {y : Int × Int} {b : List (Int × Int)} (ha : Nf (x :: a)) (h : y.2 < x.1) : meetB (x :: a) (y :: b) = meetB (x :: a) b:=by
 have e : ∀ z ∈ x :: a,(decide (z.1≤y.2) && decide (y.1≤z.2)) = false:=fun z hz=>by
  have : x.1≤z.1:=by
   rcases List.mem_cons.1 hz with rfl | hz
   ·omega
   ·have:=ha.2.1 z hz;have:=ha.1;omega
  simp;omega
 unfold meetB
 rw [Bool.eq_iff_iff,List.any_eq_true,List.any_eq_true]
 constructor
 ·rintro ⟨z,hz,hq⟩
  rw [List.any_cons,e z hz,Bool.false_or] at hq
  exact ⟨z,hz,hq⟩
 ·rintro ⟨z,hz,hq⟩
  exact ⟨z,hz,by rw [List.any_cons,hq,Bool.or_true]⟩
theorem meetB_here {x : Int × Int} {a : List (Int × Int)} {y : Int × Int} {b : List (Int × Int)} (h1 : ¬ x.2 < y.1) (h2 : ¬ y.2 < x.1) : meetB (x :: a) (y :: b) = true:=by
 unfold meetB
 rw [List.any_cons,List.any_cons]
 have : (decide (x.1≤y.2) && decide (y.1≤x.2)) = true:=by simp;omega
 rw [this];simp
structure DbP where
 names : List (List UInt8)
 sets : List (List (Int × Int))
def DbP.first : DbP:=⟨[otherL],[[]]⟩
def DbP.num (d : DbP) (n : List UInt8) : Option Nat:=d.names.idxOf? n
def DbP.clash (d : DbP) (c : Nat) (l : List (Int × Int)) : Bool:=(List.range d.sets.length).any fun k=>decide (k ≠ c) && meetB (d.sets.getD k []) l
def addL (d : DbP) (name set : List UInt8) : Except Int DbP :=
 if nameL name = false∨name = otherL then .error 40 else
 match parseE (spcL set) with
 | .error e=>.error e
 | .ok l =>
  match d.num name with
  | some c=>if d.clash c (normR l) then .error 41 else .ok ⟨d.names,d.sets.set c (orR (d.sets.getD c []) (normR l))⟩
  | none=>if 64≤d.names.length then .error 6 else if d.clash d.names.length (normR l) then .error 41 else .ok ⟨d.names++[name],d.sets++[orR [] (normR l)]⟩
def stepL (d : DbP) (l : List UInt8) : Except Int DbP :=
 match lineP l with
 | .none_=>.ok d
 | .noLine=>.error 42
 | .says n s=>addL d n s
def splitL : List UInt8→List (List UInt8)
 | []=>[[]]
 | c :: r=>if c = 10 then [] :: splitL r else match splitL r with
  | []=>[[c]]
  | x :: t=>(c :: x) :: t
def linesGo (d : DbP) : List (List UInt8)→Nat→Except (Int × Nat) DbP
 | [],_=>.ok d
 | l :: r,i=>match stepL d l with
  | .error e=>.error (e,i+1)
  | .ok d'=>linesGo d' r (i+1)
def newP (t : List UInt8) : Except (Int × Nat) DbP:=if 65536 < t.length then .error (1,0) else linesGo DbP.first (splitL t) 0
def DbP.rest (d : DbP) : List (Int × Int):=notR (d.sets.tail.flatten)
structure DbP.Ok (d : DbP) : Prop where
 len : d.sets.length = d.names.length
 nf : ∀ l ∈ d.sets,NF l
 nodup : d.names.Nodup
 head : d.names.head? = some otherL
 head' : d.sets.head? = some []
 few : d.names.length≤64
theorem DbP.first_ok : DbP.first.Ok:=⟨rfl,fun l hl=>by simp [DbP.first] at hl;subst hl;exact ⟨trivial,by simp⟩,by simp [DbP.first],rfl,rfl,by simp [DbP.first]⟩
theorem idxOf?_some {α : Type} [BEq α] [LawfulBEq α] {l : List α} {x : α} {i : Nat} (h : l.idxOf? x = some i) : l[i]? = some x:=by
 rw [List.idxOf?,List.findIdx?_eq_some_iff_getElem] at h
 obtain ⟨hi,h1,_⟩:=h
 rw [List.getElem?_eq_getElem hi]
 simpa using h1
theorem idxOf?_none {α : Type} [BEq α] [LawfulBEq α] {l : List α} {x : α} (h : l.idxOf? x = none) : x ∉ l:=by
 rw [List.idxOf?,List.findIdx?_eq_none_iff] at h
 intro hx
 have:=h x hx
 simp at this
theorem addL_ok {d d' : DbP} {n s : List UInt8} (h : d.Ok) (ha : addL d n s = .ok d') : d'.Ok:=by
 unfold addL at ha
 split at ha
 ·cases ha
 ·rename_i hn
  split at ha
  ·cases ha
  ·rename_i l _
   have hno : n ≠ otherL:=fun e=>hn (.inr e)
   split at ha
   ·rename_i c hc
    split at ha
    ·cases ha
    ·injection ha with ha;subst ha
     have hci:=idxOf?_some hc
     have hc0 : c ≠ 0:=by
      rintro rfl
      have:=h.head
      rw [List.head?_eq_getElem?,hci] at this
      injection this with this;exact hno this
     refine ⟨by simp [h.len],fun q hq=>?_,h.nodup,h.head,?_,h.few⟩
     ·rcases List.mem_or_eq_of_mem_set hq with hq | rfl
      ·exact h.nf q hq
      ·exact orR_NF _ _
     ·have:=h.head'
      rw [List.head?_eq_getElem?] at this ⊢
      rw [List.getElem?_set_ne hc0];exact this
   ·rename_i hc
    split at ha
    ·cases ha
    ·rename_i h64
     split at ha
     ·cases ha
     ·injection ha with ha;subst ha
      have hne : d.sets ≠ []:=by intro e;have:=h.head';rw [e] at this;cases this
      have hne' : d.names ≠ []:=by intro e;have:=h.head;rw [e] at this;cases this
      refine ⟨by simp [h.len],fun q hq=>?_,?_,?_,?_,by simp only [List.length_append,List.length_singleton];omega⟩
      ·rcases List.mem_append.1 hq with hq | hq
       ·exact h.nf q hq
       ·simp at hq;subst hq;exact orR_NF _ _
      ·rw [List.nodup_append]
       exact ⟨h.nodup,by simp,fun a ha b hb e=>by simp at hb;subst hb;subst e;exact idxOf?_none hc ha⟩
      ·cases hz : d.names with
       | nil=>exact absurd hz hne'
       | cons z zs=>have:=h.head;rw [hz] at this;simpa using this
      ·cases hz : d.sets with
       | nil=>exact absurd hz hne
       | cons z zs=>have:=h.head';rw [hz] at this;simpa using this
theorem stepL_ok {d d' : DbP} {l : List UInt8} (h : d.Ok) (hs : stepL d l = .ok d') : d'.Ok:=by
 unfold stepL at hs
 split at hs
 ·injection hs with hs;subst hs;exact h
 ·cases hs
 ·exact addL_ok h hs
end
section
def Apart (S : List (List (Int × Int))) : Prop:=∀ (i j : Nat) (a b : List (Int × Int)),S[i]? = some a→S[j]? = some b→i ≠ j→∀ r,memR a r→memR b r→False
theorem apart_first : Apart DbP.first.sets:=fun i j a b hi hj hij r ha _=>by
 have : i = 0:=by have:=(List.getElem?_eq_some_iff.1 hi).1;simp [DbP.first] at this;exact this
 have : j = 0:=by have:=(List.getElem?_eq_some_iff.1 hj).1;simp [DbP.first] at this;exact this
 omega
theorem clash_false {d : DbP} {c : Nat} {l : List (Int × Int)} (h : d.clash c l = false) (hd : ∀ s ∈ d.sets,NF s) (hl : Nf l) : ∀ (k : Nat) (s : List (Int × Int)),d.sets[k]? = some s→k ≠ c→∀ r,memR s r→memR l r→False:=by
 intro k s hk hkc r h1 h2
 unfold DbP.clash at h
 rw [List.any_eq_false] at h
 have hlt:=(List.getElem?_eq_some_iff.1 hk).1
 have h3:=h k (List.mem_range.2 hlt)
 rw [List.getD_eq_getElem?_getD,hk,Option.getD_some] at h3
 have : meetB s l = true:=(meetB_iff (hd s (List.mem_of_getElem? hk)).1 hl).2 ⟨r,h1,h2⟩
 rw [this] at h3
 simp [hkc] at h3
theorem memR_orR {a b : List (Int × Int)} (ha : NF a) (hb : NF b) (r : Int) : memR (orR a b) r ↔ memR a r∨memR b r:=by
 rw [← NF_mem (orR_NF a b),hasP_orR,NF_mem ha,NF_mem hb]
theorem apart_set {S : List (List (Int × Int))} {c : Nat} {s l : List (Int × Int)} (h : Apart S) (hc : S[c]? = some s) (hs : NF s) (hl : NF l) (hcl : ∀ (k : Nat) (q : List (Int × Int)),S[k]? = some q→k ≠ c→∀ r,memR q r→memR l r→False) : Apart (S.set c (orR s l)):=by
 intro i j a b hi hj hij r ha hb
 by_cases h1 : i = c
 ·subst h1
  have hlt:=(List.getElem?_eq_some_iff.1 hc).1
  rw [List.getElem?_set_self hlt] at hi
  rw [List.getElem?_set_ne (by omega)] at hj
  injection hi with hi;subst hi
  rcases (memR_orR hs hl r).1 ha with ha | ha
  ·exact h i j s b hc hj hij r ha hb
  ·exact hcl j b hj (by omega) r hb ha
 ·rw [List.getElem?_set_ne (by omega)] at hi
  by_cases h2 : j = c
  ·subst h2
   have hlt:=(List.getElem?_eq_some_iff.1 hc).1
   rw [List.getElem?_set_self hlt] at hj
   injection hj with hj;subst hj
   rcases (memR_orR hs hl r).1 hb with hb | hb
   ·exact h i j a s hi hc hij r ha hb
   ·exact hcl i a hi (by omega) r ha hb
  ·rw [List.getElem?_set_ne (by omega)] at hj
   exact h i j a b hi hj hij r ha hb
theorem memR_or_nil {l : List (Int × Int)} (hl : NF l) (r : Int) : memR (orR [] l) r ↔ memR l r:=by
 rw [memR_orR (show NF [] from ⟨trivial,by simp⟩) hl];simp [memR_nil]
theorem apart_snoc {S : List (List (Int × Int))} {l : List (Int × Int)} (h : Apart S) (hl : NF l) (hcl : ∀ (k : Nat) (q : List (Int × Int)),S[k]? = some q→∀ r,memR q r→memR l r→False) : Apart (S++[orR [] l]):=by
 intro i j a b hi hj hij r ha hb
 have hlen:=(List.getElem?_eq_some_iff.1 hi).1
 have hlen2:=(List.getElem?_eq_some_iff.1 hj).1
 simp only [List.length_append,List.length_singleton] at hlen hlen2
 by_cases h1 : i < S.length
 ·rw [List.getElem?_append_left h1] at hi
  by_cases h2 : j < S.length
  ·rw [List.getElem?_append_left h2] at hj
   exact h i j a b hi hj hij r ha hb
  ·rw [List.getElem?_append_right (by omega),show j - S.length = 0 by omega] at hj
   simp at hj;subst hj
   exact hcl i a hi r ha ((memR_or_nil hl r).1 hb)
 ·rw [List.getElem?_append_right (by omega),show i - S.length = 0 by omega] at hi
  simp at hi;subst hi
  rw [List.getElem?_append_left (by omega)] at hj
  exact hcl j b hj r hb ((memR_or_nil hl r).1 ha)
theorem addL_apart {d d' : DbP} {n s : List UInt8} (h : d.Ok) (ha : Apart d.sets) (hs : addL d n s = .ok d') : Apart d'.sets:=by
 unfold addL at hs
 split at hs
 ·cases hs
 ·split at hs
  ·cases hs
  ·rename_i l _
   split at hs
   ·rename_i c hc
    split at hs
    ·cases hs
    ·rename_i hcl
     injection hs with hs;subst hs
     have hlt : c < d.sets.length:=by rw [h.len];exact (List.getElem?_eq_some_iff.1 (idxOf?_some hc)).1
     have hsc : d.sets[c]? = some (d.sets.getD c []):=by rw [List.getD_eq_getElem?_getD,List.getElem?_eq_getElem hlt];rfl
     exact apart_set ha hsc (h.nf _ (List.mem_of_getElem? hsc)) (normR_NF l) (clash_false (by simpa using hcl) h.nf (normR_nf l))
   ·split at hs
    ·cases hs
    ·split at hs
     ·cases hs
     ·rename_i hcl
      injection hs with hs;subst hs
      refine apart_snoc ha (normR_NF l) fun k q hk r h1 h2=>?_
      exact clash_false (by simpa using hcl) h.nf (normR_nf l) k q hk (by have:=(List.getElem?_eq_some_iff.1 hk).1;rw [h.len] at this;omega) r h1 h2
theorem linesGo_apart : ∀ {L : List (List UInt8)} {d d' : DbP} {i : Nat},d.Ok→Apart d.sets→linesGo d L i = .ok d'→Apart d'.sets
 | [],d,d',i,_,ha,hs=>by injection hs with hs;subst hs;exact ha
 | l :: r,d,d',i,h,ha,hs=>by
  unfold linesGo at hs
  split at hs
  ·cases hs
  ·rename_i d2 h2
   refine linesGo_apart (stepL_ok h h2) ?_ hs
   unfold stepL at h2
   split at h2
   ·injection h2 with h2;subst h2;exact ha
   ·cases h2
   ·exact addL_apart h ha h2
def askR (r : Int) : Int:=if r < 0∨1114111 < r then 65533 else r
def getGo (r : Int) : Nat→List (List (Int × Int))→Nat
 | _,[]=>0
 | i,s :: t=>if hasB s r then i else getGo r (i+1) t
def DbP.get (d : DbP) (r : Int) : Nat:=getGo (askR r) 1 d.sets.tail
theorem getGo_spec {r : Int} : ∀ {S : List (List (Int × Int))} {i : Nat},1≤i→(getGo r i S = 0∧∀ s ∈ S,hasB s r = false)∨∃ k s,S[k]? = some s∧hasB s r = true∧getGo r i S = i+k
 | [],i,_=>.inl ⟨rfl,by simp⟩
 | s :: t,i,hi=>by
  unfold getGo
  cases hb : hasB s r with
  | true=>exact .inr ⟨0,s,rfl,hb,by simp⟩
  | false =>
   simp only [Bool.false_eq_true,if_false]
   rcases getGo_spec (r:=r) (S:=t) (i:=i+1) (by omega) with ⟨h1,h2⟩ | ⟨k,q,h1,h2,h3⟩
   ·exact .inl ⟨h1,fun z hz=>(List.mem_cons.1 hz).elim (fun e=>by rw [e];exact hb) (h2 z)⟩
   ·exact .inr ⟨k+1,q,by simpa using h1,h2,by omega⟩
end
section
def entG : Nat→List (List (Int × Int))→List (Int × Int × Nat)
 | _,[]=>[]
 | c,s :: t=>s.map (fun x=>(x.1,x.2,c))++entG (c+1) t
def DbP.ents (d : DbP) : List (Int × Int × Nat):=entG 1 d.sets.tail
def RiseC (l : List (Int × Int × Nat)) : Prop:=l.Pairwise fun a b=>a.1≤b.1
def DbP.rng (d : DbP) : List (Int × Int × Nat):=d.ents.mergeSort fun a b=>decide (a.1≤b.1)
theorem rng_rise (d : DbP) : RiseC d.rng:=by
 have:=List.pairwise_mergeSort (le:=fun a b : Int × Int × Nat=>decide (a.1≤b.1)) (by simp;intros;omega) (by simp;intros;omega) d.ents
 exact this.imp (by simp)
theorem rng_perm (d : DbP) : d.rng.Perm d.ents:=List.mergeSort_perm _ _
theorem entG_append : ∀ (S T : List (List (Int × Int))) (c : Nat),entG c (S++T) = entG c S++entG (c+S.length) T
 | [],T,c=>by simp [entG]
 | s :: S,T,c=>by
  rw [List.cons_append]
  show _++entG (c+1) (S++T) = (_++entG (c+1) S)++_
  rw [entG_append S T (c+1),List.length_cons,List.append_assoc,show c+1+S.length = c+(S.length+1) by omega]
theorem mem_entG : ∀ {S : List (List (Int × Int))} {c : Nat} {x : Int × Int × Nat},x ∈ entG c S ↔ ∃ k s,S[k]? = some s∧(x.1,x.2.1) ∈ s∧x.2.2 = c+k
 | [],c,x=>by simp [entG]
 | s :: S,c,x=>by
  unfold entG
  rw [List.mem_append,mem_entG (S:=S)]
  constructor
  ·rintro (h | ⟨k,q,h1,h2,h3⟩)
   ·obtain ⟨y,hy,rfl⟩:=List.mem_map.1 h
    exact ⟨0,s,rfl,hy,rfl⟩
   ·exact ⟨k+1,q,by simpa using h1,h2,by omega⟩
  ·rintro ⟨k,q,h1,h2,h3⟩
   cases k with
   | zero =>
    simp at h1;subst h1
    exact .inl (List.mem_map.2 ⟨_,h2,by obtain ⟨a,b,e⟩:=x;simp at h3 ⊢;exact h3.symm⟩)
   | succ k=>exact .inr ⟨k,q,by simpa using h1,h2,by omega⟩
def Off (x y : Int × Int × Nat) : Prop:=x.2.1 < y.1∨y.2.1 < x.1
theorem Nf_pair : ∀ {l : List (Int × Int)},Nf l→l.Pairwise fun a b=>a.2 < b.1
 | [],_=>.nil
 | x :: r,h=>.cons (fun y hy=>by have:=h.2.1 y hy;omega) (Nf_pair h.2.2)
theorem apart_tail {s : List (Int × Int)} {S : List (List (Int × Int))} (h : Apart (s :: S)) : Apart S:=fun i j a b hi hj hij=>h (i+1) (j+1) a b (by simpa using hi) (by simpa using hj) (by omega)
theorem entG_off : ∀ {S : List (List (Int × Int))} {c : Nat},Apart S→(∀ s ∈ S,Nf s)→(entG c S).Pairwise Off
 | [],_,_,_=>.nil
 | s :: S,c,ha,hn=>by
  unfold entG
  rw [List.pairwise_append]
  refine ⟨?_,entG_off (apart_tail ha) (fun q hq=>hn q (by simp [hq])),fun x hx y hy=>?_⟩
  ·rw [List.pairwise_map]
   exact (Nf_pair (hn s (by simp))).imp (fun h=>.inl h)
  ·obtain ⟨z,hz,rfl⟩:=List.mem_map.1 hx
   obtain ⟨k,q,h1,h2,_⟩:=mem_entG.1 hy
   have hq : Nf q:=hn q (by simp [List.mem_of_getElem? h1])
   have l1:=Nf_le (hn s (by simp)) z hz
   have l2:=Nf_le hq _ h2
   simp only at l2
   show z.2 < y.1∨y.2.1 < z.1
   rcases Int.lt_or_le z.2 y.1 with h | h
   ·exact .inl h
   ·rcases Int.lt_or_le y.2.1 z.1 with h' | h'
    ·exact .inr h'
    ·exfalso
     have:=ha 0 (k+1) s q rfl (by simpa using h1) (by omega)
     rcases Int.le_total z.1 y.1 with h3 | h3
     ·exact this y.1 ⟨z,hz,h3,h⟩ ⟨_,h2,Int.le_refl _,l2⟩
     ·exact this z.1 ⟨z,hz,Int.le_refl _,l1⟩ ⟨_,h2,h3,h'⟩
theorem DbP.tail_apart {d : DbP} (h : Apart d.sets) : Apart d.sets.tail:=by
 cases hs : d.sets with
 | nil=>intro i j a b hi;simp at hi
 | cons s S=>rw [hs] at h;exact apart_tail h
theorem DbP.Ok.tailNF {d : DbP} (h : d.Ok) : ∀ s ∈ d.sets.tail,NF s:=fun s hs=>h.nf s (List.mem_of_mem_tail hs)
theorem ents_off {d : DbP} (h : d.Ok) (ha : Apart d.sets) : d.ents.Pairwise Off:=entG_off (DbP.tail_apart ha) fun s hs=>(h.tailNF s hs).1
theorem ents_bd {d : DbP} (h : d.Ok) : ∀ x ∈ d.ents,0≤x.1∧x.1≤x.2.1∧x.2.1≤1114111∧1≤x.2.2∧x.2.2 < d.sets.length:=fun x hx=>by
 obtain ⟨k,s,h1,h2,h3⟩:=mem_entG.1 hx
 have hs:=h.tailNF s (List.mem_of_getElem? h1)
 have:=hs.2 _ h2;have:=Nf_le hs.1 _ h2
 have hk:=(List.getElem?_eq_some_iff.1 h1).1
 rw [List.length_tail] at hk
 simp only at *
 omega
theorem off_symm {x y : Int × Int × Nat} (h : Off x y) : Off y x:=h.symm
theorem rng_unique {d : DbP} (h : d.Ok) (ha : Apart d.sets) {l : List (Int × Int × Nat)} (hp : l.Perm d.ents) (hr : RiseC l) : l = d.rng:=by
 refine List.Perm.eq_of_pairwise (le:=fun a b : Int × Int × Nat=>a.1≤b.1) (fun a b hal hbl h1 h2=>?_) hr (rng_rise d) (hp.trans (rng_perm d).symm)
 have ha':=hp.mem_iff.1 hal
 have hb':=(rng_perm d).mem_iff.1 hbl
 have ba:=ents_bd h a ha';have bb:=ents_bd h b hb'
 obtain ⟨i,hi,rfl⟩:=List.getElem_of_mem ha'
 obtain ⟨j,hj,rfl⟩:=List.getElem_of_mem hb'
 have hP:=List.pairwise_iff_getElem.1 (ents_off h ha)
 rcases Nat.lt_trichotomy i j with hij | hij | hij
 ·have:=hP i j hi hj hij
  unfold Off at this;omega
 ·subst hij;rfl
 ·have:=hP j i hj hi hij
  unfold Off at this;omega
theorem rng_bd {d : DbP} (h : d.Ok) : ∀ x ∈ d.rng,0≤x.1∧x.1≤x.2.1∧x.2.1≤1114111∧1≤x.2.2∧x.2.2 < d.sets.length:=fun x hx=>ents_bd h x ((rng_perm d).mem_iff.1 hx)
theorem rng_next {d : DbP} (h : d.Ok) (ha : Apart d.sets) : d.rng.Pairwise fun a b=>a.2.1 < b.1:=by
 have h1 : d.rng.Pairwise Off:=(List.Perm.pairwise_iff off_symm (rng_perm d)).2 (ents_off h ha)
 have h2:=(rng_rise d).and h1
 exact h2.imp_of_mem fun {a b} hA hB hab=>by
  have:=rng_bd h a hA;have:=rng_bd h b hB
  obtain ⟨h3,h4⟩:=hab
  unfold Off at h4;omega
def endB (r : Int) (x : Int × Int × Nat) : Bool:=decide (x.2.1 < r)
def findC (l : List (Int × Int × Nat)) (r : Int) : Nat :=
 match l[l.countP (endB r)]? with
 | some x=>if x.1≤r then x.2.2 else 0
 | none=>0
theorem findC_hit {r : Int} {x : Int × Int × Nat} : ∀ {l : List (Int × Int × Nat)},(l.Pairwise fun a b=>a.2.1 < b.1)→(∀ y ∈ l,y.1≤y.2.1)→x ∈ l→x.1≤r→r≤x.2.1→l[l.countP (endB r)]? = some x
 | [],_,_,hx,_,_=>by simp at hx
 | a :: l,hp,hl,hx,h1,h2=>by
  rw [List.pairwise_cons] at hp
  rcases List.mem_cons.1 hx with rfl | hx
  ·have : (x :: l).countP (endB r) = 0:=by
    rw [List.countP_eq_zero]
    intro y hy
    rcases List.mem_cons.1 hy with rfl | hy
    ·simp [endB];omega
    ·have:=hp.1 y hy;have:=hl y (by simp [hy]);simp [endB];omega
   rw [this];rfl
  ·have hax:=hp.1 x hx
   rw [List.countP_cons_of_pos (by simp [endB];omega),zI]
   exact findC_hit hp.2 (fun y hy=>hl y (by simp [hy])) hx h1 h2
theorem findC_at {r : Int} {x : Int × Int × Nat} : ∀ {l : List (Int × Int × Nat)},(l.Pairwise fun a b=>a.2.1 < b.1)→(∀ y ∈ l,y.1≤y.2.1)→l[l.countP (endB r)]? = some x→r≤x.2.1
 | [],_,_,hx=>by simp at hx
 | a :: l,hp,hl,hx=>by
  rw [List.pairwise_cons] at hp
  by_cases h : a.2.1 < r
  ·rw [List.countP_cons_of_pos (by simp [endB];omega),zI] at hx
   exact findC_at hp.2 (fun y hy=>hl y (by simp [hy])) hx
  ·have : (a :: l).countP (endB r) = 0:=by
    rw [List.countP_eq_zero]
    intro y hy
    rcases List.mem_cons.1 hy with rfl | hy
    ·simp [endB];omega
    ·have:=hp.1 y hy;have:=hl y (by simp [hy]);simp [endB];omega
   rw [this] at hx
   simp at hx;subst hx;omega
theorem hasB_NF {s : List (Int × Int)} (h : NF s) (r : Int) : hasB s r = true ↔ ∃ x ∈ s,x.1≤r∧r≤x.2:=by rw [hasB_iff,NF_mem h];rfl
theorem find_get {d : DbP} (h : d.Ok) (ha : Apart d.sets) (r : Int) : findC d.rng (askR r) = d.get r:=by
 have hn:=rng_next h ha
 have hle : ∀ y ∈ d.rng,y.1≤y.2.1:=fun y hy=>(rng_bd h y hy).2.1
 unfold DbP.get
 rcases getGo_spec (r:=askR r) (S:=d.sets.tail) (i:=1) (by omega) with ⟨h1,h2⟩ | ⟨k,s,h1,h2,h3⟩
 ·rw [h1]
  unfold findC
  cases hx : d.rng[d.rng.countP (endB (askR r))]? with
  | none=>rfl
  | some x =>
   have hr:=findC_at hn hle hx
   simp only
   split
   ·rename_i hlo
    exfalso
    obtain ⟨k,s,h3,h4,_⟩:=mem_entG.1 ((rng_perm d).mem_iff.1 (List.mem_of_getElem? hx))
    have hs:=h.tailNF s (List.mem_of_getElem? h3)
    have:=h2 s (List.mem_of_getElem? h3)
    rw [(hasB_NF hs _).2 ⟨_,h4,hlo,hr⟩] at this;cases this
   ·rfl
 ·rw [h3]
  have hs:=h.tailNF s (List.mem_of_getElem? h1)
  obtain ⟨y,hy,hy1,hy2⟩:=(hasB_NF hs _).1 h2
  have hm : (y.1,y.2,1+k) ∈ d.rng:=(rng_perm d).mem_iff.2 (mem_entG.2 ⟨k,s,h1,hy,rfl⟩)
  unfold findC
  rw [findC_hit hn hle hm hy1 hy2]
  simp only [hy1,if_true]
theorem count_place {r : Int} {l : List (Int × Int × Nat)} {i : Nat} (hi : i≤l.length) (h1 : ∀ t x,t < i→l[t]? = some x→x.2.1 < r) (h2 : ∀ t x,i≤t→l[t]? = some x→¬ x.2.1 < r) : l.countP (endB r) = i:=by
 have e : l = l.take i++l.drop i:=(List.take_append_drop i l).symm
 rw [e,List.countP_append]
 have a1 : (l.take i).countP (endB r) = i:=by
  rw [List.countP_eq_length.2,List.length_take,Nat.min_eq_left hi]
  intro x hx
  obtain ⟨t,ht,rfl⟩:=List.getElem_of_mem hx
  rw [List.length_take] at ht
  have:=h1 t _ (by omega) (List.getElem?_eq_getElem (by omega))
  rw [List.getElem_take];simpa [endB] using this
 have a2 : (l.drop i).countP (endB r) = 0:=by
  rw [List.countP_eq_zero]
  intro x hx
  obtain ⟨t,ht,rfl⟩:=List.getElem_of_mem hx
  rw [List.length_drop] at ht
  have:=h2 (i+t) _ (by omega) (List.getElem?_eq_getElem (by omega))
  rw [List.getElem_drop];simpa [endB] using this
 rw [a1,a2];rfl
end
section
end
end Go.Proofs.YtlfpdpbbkjnapaaGreatDoor
/- -/
namespace Go.Proofs.YtlfpdpbbkjnapaaGreatDoor
set_option maxRecDepth 100000
set_option maxHeartbeats 40000000
section
theorem splitL_line {x r : List UInt8} (h : ∀ c ∈ x,c ≠ 10) : splitL (x++10 :: r) = x :: splitL r:=by
 induction x with
 | nil=>rw [List.nil_append];show (if (10 : UInt8) = 10 then _ else _) = _;rw [if_pos rfl]
 | cons c x ih =>
  rw [List.cons_append]
  show (if c = 10 then _ else _) = _
  rw [if_neg (h c (by simp)),ih (fun d hd=>h d (by simp [hd]))]
def DbP.Named (d : DbP) : Prop:=∀ n ∈ d.names,nameL n = true
end
section
def ind (l : List (Int × Int)) (i : Nat) : Int:=if memB l i then 1 else 0
where memB (l : List (Int × Int)) (i : Nat) : Bool:=l.any fun x=>decide (x.1≤(i : Int)) && decide ((i : Int)≤x.2)
end
section
def lenS {α : Type} : List (List α)→Nat
 | []=>0
 | x :: r=>x.length+lenS r
theorem lenS_append {α : Type} : ∀ (a b : List (List α)),lenS (a++b) = lenS a+lenS b
 | [],b=>by simp [lenS]
 | x :: a,b=>by rw [List.cons_append,lenS,lenS,lenS_append a b];omega
theorem trimL_len (l : List UInt8) : (trimL l).length≤l.length:=by
 obtain ⟨b,e,h,_⟩:=trimL_parts l
 have:=congrArg List.length h
 simp only [List.length_append] at this;omega
def lenL : List (List UInt8)→Nat
 | []=>0
 | x :: r=>x.length+1+lenL r
theorem split_len : ∀ (t : List UInt8),lenL (splitL t) = t.length+1
 | []=>rfl
 | c :: r=>by
  have ih:=split_len r
  unfold splitL
  split
  ·rw [lenL,ih];simp;omega
  ·cases hs : splitL r with
   | nil=>rw [hs] at ih;simp [lenL] at ih
   | cons x t=>rw [hs] at ih;simp only [lenL,List.length_cons] at ih ⊢;omega
def DbP.full (d : DbP) : List (List (Int × Int)):=d.rest :: d.sets.tail
theorem hasP_flat {S : List (List (Int × Int))} {r : Int} : hasP S.flatten r ↔ ∃ s ∈ S,hasP s r:=by
 constructor
 ·rintro ⟨h0,h1,x,hx,h⟩
  obtain ⟨s,hs,hxs⟩:=List.mem_flatten.1 hx
  exact ⟨s,hs,h0,h1,x,hxs,h⟩
 ·rintro ⟨s,hs,h0,h1,x,hx,h⟩
  exact ⟨h0,h1,x,List.mem_flatten.2 ⟨s,hs,hx⟩,h⟩
theorem full_NF {d : DbP} (h : d.Ok) : ∀ s ∈ d.full,NF s:=fun s hs=>by
 rcases List.mem_cons.1 hs with rfl | hs
 ·exact notR_NF _
 ·exact h.tailNF s hs
theorem full_len {d : DbP} (h : d.Ok) : d.full.length = d.names.length:=by
 unfold DbP.full
 rw [List.length_cons,List.length_tail,h.len]
 cases hn : d.names with
 | nil=>have:=h.head;rw [hn] at this;cases this
 | cons n N=>simp
theorem full_apart {d : DbP} (h : d.Ok) (ha : Apart d.sets) : Apart d.full:=by
 have hrest : ∀ (j : Nat) (b : List (Int × Int)),d.sets.tail[j]? = some b→∀ r,memR d.rest r→memR b r→False:=fun j b hb r h1 h2=>by
  have hm:=List.mem_of_getElem? hb
  have h3:=(NF_mem (h.tailNF b hm) r).2 h2
  have h4:=(NF_mem (notR_NF d.sets.tail.flatten) r).2 h1
  exact ((hasP_notR _ r).1 h4).2.2 (hasP_flat.2 ⟨b,hm,h3⟩)
 intro i j a b hi hj hij r h1 h2
 unfold DbP.full at hi hj
 cases i with
 | zero =>
  cases j with
  | zero=>exact hij rfl
  | succ j=>simp at hi hj;subst hi;exact hrest j b (by simpa using hj) r h1 h2
 | succ i =>
  cases j with
  | zero=>simp at hi hj;subst hj;exact hrest i a (by simpa using hi) r h2 h1
  | succ j=>exact DbP.tail_apart ha i j a b (by simpa using hi) (by simpa using hj) (by omega) r h1 h2
end
section
def DbP.allE (d : DbP) : List (Int × Int × Nat):=entG 0 d.full
def DbP.allR (d : DbP) : List (Int × Int × Nat):=d.allE.mergeSort fun a b=>decide (a.1≤b.1)
theorem allR_rise (d : DbP) : RiseC d.allR:=by
 have:=List.pairwise_mergeSort (le:=fun a b : Int × Int × Nat=>decide (a.1≤b.1)) (by simp;intros;omega) (by simp;intros;omega) d.allE
 exact this.imp (by simp)
theorem allR_perm (d : DbP) : d.allR.Perm d.allE:=List.mergeSort_perm _ _
theorem allE_off {d : DbP} (h : d.Ok) (ha : Apart d.sets) : d.allE.Pairwise Off:=entG_off (full_apart h ha) fun s hs=>(full_NF h s hs).1
theorem allE_bd {d : DbP} (h : d.Ok) : ∀ x ∈ d.allE,0≤x.1∧x.1≤x.2.1∧x.2.1≤1114111∧x.2.2 < d.names.length:=fun x hx=>by
 obtain ⟨k,s,h1,h2,h3⟩:=mem_entG.1 hx
 have hs:=full_NF h s (List.mem_of_getElem? h1)
 have:=hs.2 _ h2;have:=Nf_le hs.1 _ h2
 have hk:=(List.getElem?_eq_some_iff.1 h1).1
 rw [full_len h] at hk
 simp only at *
 omega
theorem allR_bd {d : DbP} (h : d.Ok) : ∀ x ∈ d.allR,0≤x.1∧x.1≤x.2.1∧x.2.1≤1114111∧x.2.2 < d.names.length:=fun x hx=>allE_bd h x ((allR_perm d).mem_iff.1 hx)
theorem allR_next {d : DbP} (h : d.Ok) (ha : Apart d.sets) : d.allR.Pairwise fun a b=>a.2.1 < b.1:=by
 have h1 : d.allR.Pairwise Off:=(List.Perm.pairwise_iff off_symm (allR_perm d)).2 (allE_off h ha)
 have h2:=(allR_rise d).and h1
 exact h2.imp_of_mem fun {a b} hA hB hab=>by
  have:=allR_bd h a hA;have:=allR_bd h b hB
  obtain ⟨h3,h4⟩:=hab
  unfold Off at h4;omega
theorem get_lt {d : DbP} (h : d.Ok) (r : Int) : d.get r < d.names.length:=by
 have h0 : 0 < d.names.length:=by
  cases hn : d.names with
  | nil=>have:=h.head;rw [hn] at this;cases this
  | cons=>simp
 unfold DbP.get
 rcases getGo_spec (r:=askR r) (S:=d.sets.tail) (i:=1) (by omega) with ⟨h1,_⟩ | ⟨k,s,h1,_,h3⟩
 ·omega
 ·have:=(List.getElem?_eq_some_iff.1 h1).1
  rw [List.length_tail,h.len] at this;omega
end
section
theorem next_len : ∀ {l : List (Int × Int × Nat)} {m : Int},(l.Pairwise fun a b=>a.2.1 < b.1)→(∀ x ∈ l,m≤x.1∧x.1≤x.2.1∧x.2.1≤1114111)→m≤1114112→(l.length : Int)+m≤1114112
 | [],m,_,_,hm=>by simpa using hm
 | x :: l,m,hp,hb,hm=>by
  rw [List.pairwise_cons] at hp
  have hx:=hb x (by simp)
  have:=next_len (l:=l) (m:=x.2.1+1) hp.2 (fun y hy=>by have:=hp.1 y hy;have:=hb y (by simp [hy]);omega) (by omega)
  simp only [List.length_cons];omega
theorem entG_len : ∀ (S : List (List (Int × Int))) (c : Nat),(entG c S).length = lenS S
 | [],_=>rfl
 | s :: S,c=>by rw [entG,List.length_append,List.length_map,entG_len S (c+1),lenS]
theorem lenS_flat : ∀ (S : List (List (Int × Int))),S.flatten.length = lenS S
 | []=>rfl
 | s :: S=>by rw [List.flatten_cons,List.length_append,lenS_flat S,lenS]
theorem allR_len {d : DbP} (h : d.Ok) (ha : Apart d.sets) : d.allR.length≤1114112:=by
 have:=next_len (m:=0) (allR_next h ha) (fun x hx=>by have:=allR_bd h x hx;omega) (by omega)
 omega
theorem full_lenS {d : DbP} (h : d.Ok) (ha : Apart d.sets) : lenS d.full≤1114112:=by
 have:=allR_len h ha
 rw [(allR_perm d).length_eq,DbP.allE,entG_len] at this;exact this
theorem rng_len {d : DbP} (h : d.Ok) (ha : Apart d.sets) : d.rng.length≤1114112∧d.rng.length = lenS d.sets.tail:=by
 have h1:=full_lenS h ha
 have h2 : d.rng.length = lenS d.sets.tail:=by rw [(rng_perm d).length_eq,DbP.ents,entG_len]
 unfold DbP.full at h1
 rw [lenS] at h1
 omega
end
section
open Go.RowKit Go.Maps
def encNm (n : List UInt8) : List Value:=[.string (bytesOf n)]
def encSl (x : Option Addr × Nat × Nat) : List Value:=[.slice x.1 x.2.1 x.2.2]
def encD (x : Int × Int × Nat) : List Value:=[.int .i32 x.1,.int .i32 x.2.1,.int .i64 (x.2.2 : Int)]
theorem encNm_ok (l : List (List UInt8)) : ∀ y ∈ l.map encNm,y.length = 1∧∀ u ∈ y,u.oneCell' = true:=by
 intro y hy;obtain ⟨r,_,rfl⟩:=List.mem_map.1 hy
 exact ⟨rfl,by simp [encNm,Value.oneCell']⟩
theorem encSl_ok (l : List (Option Addr × Nat × Nat)) : ∀ y ∈ l.map encSl,y.length = 1∧∀ u ∈ y,u.oneCell' = true:=by
 intro y hy;obtain ⟨r,_,rfl⟩:=List.mem_map.1 hy
 exact ⟨rfl,by simp [encSl,Value.oneCell']⟩
theorem encD_ok (l : List (Int × Int × Nat)) : ∀ y ∈ l.map encD,y.length = 3∧∀ u ∈ y,u.oneCell' = true:=by
 intro y hy;obtain ⟨r,_,rfl⟩:=List.mem_map.1 hy
 exact ⟨rfl,by simp [encD,Value.oneCell']⟩
def MapIs (D : DataW Unit) (l : List (List UInt8)) : Prop :=
 IsMap D∧(∀ n,Maps.has D (.string n) = decide (n ∈ l))∧∀ (n : List UInt8) (i : Nat),l[i]? = some n→l.Nodup→∀ z,D.atKey (.string n) z = .lit (.int .i64 (i : Int))
theorem MapIs.nil_ : MapIs (.map []) []:=⟨isMap_empty,fun n=>by simp [Maps.has_eq],fun n i h=>by simp at h⟩
theorem MapIs.put {D : DataW Unit} {l : List (List UInt8)} (h : MapIs D l) (n : List UInt8) {k : Int} (hk : k = l.length) : MapIs (D.put (.string n) (.lit (.int .i64 k))) (l++[n]):=by
 subst hk
 refine ⟨h.1.put _ _,fun m=>?_,fun m i hi hnd z=>?_⟩
 ·by_cases e : m = n
  ·subst e;rw [has_put_same (k:=.string m) h.1 (by trivial)];simp
  ·rw [has_put_other (by simpa using e),h.2.1];simp [e]
 ·have hnd2:=List.nodup_append.1 hnd
  by_cases e : m = n
  ·subst e
   rw [atKey_put_same (k:=.string m) h.1 (by trivial)]
   have hi2:=(List.getElem?_eq_some_iff.1 hi).1
   rcases Nat.lt_or_ge i l.length with hlt | hge
   ·rw [List.getElem?_append_left hlt] at hi
    exact absurd rfl (hnd2.2.2 m (List.mem_of_getElem? hi) m (by simp))
   ·simp at hi2
    rw [show i = l.length by omega]
  ·rw [atKey_put_other (by simpa using e)]
   refine h.2.2 m i ?_ hnd2.1 z
   rcases Nat.lt_or_ge i l.length with hlt | hge
   ·rwa [List.getElem?_append_left hlt] at hi
   ·rw [List.getElem?_append_right hge] at hi
    cases hq : i - l.length with
    | zero=>rw [hq] at hi;simp at hi;exact absurd hi.symm e
    | succ q=>rw [hq] at hi;simp at hi
theorem MapIs.look {D : DataW Unit} {l : List (List UInt8)} (h : MapIs D l) (hn : l.Nodup) (n : List UInt8) : D.atKey (.string n) (.lit (.int .i64 0)) = .lit (.int .i64 (((l.idxOf? n).getD 0 : Nat) : Int))∧Maps.has D (.string n) = (l.idxOf? n).isSome:=by
 cases hq : l.idxOf? n with
 | none =>
  have:=idxOf?_none hq
  have h2 : Maps.has D (.string n) = false:=by rw [h.2.1];simpa using this
  exact ⟨by rw [atKey_of_not_has h2];rfl,by rw [h2];rfl⟩
 | some i =>
  have:=idxOf?_some hq
  exact ⟨h.2.2 n i this hn _,by rw [h.2.1];simpa using List.mem_of_getElem? this⟩
theorem Own.apart {w : World} {b1 b2 : Nat} {e1 e2 : TypeId} {s1 s2 : Nat} {A1 A2 : Option Addr} {n1 c1 n2 c2 : Nat} {x1 x2 : List (List Value)} (h : Own w b1 e1 s1 A1 n1 c1 x1) (k : Own w b2 e2 s2 A2 n2 c2 x2) (hne : e1 ≠ e2) :
  ∀ a b,A1 = some a→A2 = some b→a.block ≠ b.block:=by
 intro a b ha hb e
 rcases h.2.2.2 with ⟨h0,_⟩ | ⟨g1,cap1,cur1,hv1,_,hh1,_⟩
 ·injection h0 with h0;rw [h0] at ha;cases ha
 ·rcases k.2.2.2 with ⟨k0,_⟩ | ⟨g2,cap2,cur2,hv2,_,hh2,_⟩
  ·injection k0 with k0;rw [k0] at hb;cases hb
  ·injection hv1 with hv1;injection hv2 with hv2
   subst ha;subst hb
   injection hv1 with hv1;injection hv2 with hv2
   subst hv1;subst hv2
   simp only at e
   subst e
   rw [hh1] at hh2
   injection hh2 with hh2;injection hh2 with _ h3 _
   exact hne h3
theorem Own.off {w : World} {b1 : Nat} {e1 t : TypeId} {s1 : Nat} {A1 : Option Addr} {n1 c1 g : Nat} {x1 : List (List Value)} {cs : Array Value} (h : Own w b1 e1 s1 A1 n1 c1 x1) (k : Blk w g t cs) (hne : e1 ≠ t) :
  ∀ a,A1 = some a→a.block ≠ g:=by
 intro a ha e
 rcases h.2.2.2 with ⟨h0,_⟩ | ⟨g1,cap1,cur1,hv1,_,hh1,_⟩
 ·injection h0 with h0;rw [h0] at ha;cases ha
 ·injection hv1 with hv1
  subst ha;injection hv1 with hv1;subst hv1
  simp only at e;subst e
  unfold Blk at k
  rw [hh1] at k
  injection k with k;injection k with _ h3 _
  exact hne h3
theorem Own.offMap {w : World} {b1 : Nat} {e1 : TypeId} {s1 : Nat} {A1 : Option Addr} {n1 c1 b n : Nat} {x1 : List (List Value)} {P : Program} {k : TypeId} {R : Value→Option (DataW Unit × List MemPlace)} {D : DataW Unit} (h : Own w b1 e1 s1 A1 n1 c1 x1) (m : w.ownsMap P k R b n D) :
  ∀ a,A1 = some a→a.block ≠ b:=by
 intro a ha e
 obtain ⟨es,clock,hb,_⟩:=m
 rcases h.2.2.2 with ⟨h0,_⟩ | ⟨g1,cap1,cur1,hv1,_,hh1,_⟩
 ·injection h0 with h0;rw [h0] at ha;cases ha
 ·injection hv1 with hv1
  subst ha;injection hv1 with hv1;subst hv1
  simp only at e;subst e
  rw [hh1] at hb
  cases hb
theorem Blk.offMap {w : World} {g b n : Nat} {t : TypeId} {cs : Array Value} {P : Program} {k : TypeId} {R : Value→Option (DataW Unit × List MemPlace)} {D : DataW Unit} (h : Blk w g t cs) (m : w.ownsMap P k R b n D) : g ≠ b:=by
 intro e;obtain ⟨es,clock,hb,_⟩:=m;subst e;unfold Blk at h;rw [hb] at h;cases h
structure Sets (w : World) (base : Nat) (xs : List (Option Addr × Nat × Nat)) (S : List (List (Int × Int))) : Prop where
 len : xs.length = S.length
 own : ∀ (k : Nat) (x : Option Addr × Nat × Nat) (l : List (Int × Int)),xs[k]? = some x→S[k]? = some l→Own w base 262 2 x.1 x.2.1 x.2.2 (l.map encR)
theorem Sets.keep {w w' : World} {base : Nat} {xs : List (Option Addr × Nat × Nat)} {S : List (List (Int × Int))} (h : Sets w base xs S) (hk : ∀ (g : Nat) (cs : Array Value),base≤g→w.heap[g]? = some (.cells cs 262 (0,0))→w'.heap[g]? = w.heap[g]?) : Sets w' base xs S :=
 ⟨h.len,fun k x l hx hl=>by
  have ho:=h.own k x l hx hl
  refine ho.keep fun a ha=>?_
  rcases ho.2.2.2 with ⟨h0,_⟩ | ⟨g1,cap1,cur1,hv1,hg,hh1,_⟩
  ·injection h0 with h0;rw [h0] at ha;cases ha
  ·injection hv1 with hv1;rw [hv1] at ha;injection ha with ha;subst ha
   exact hk g1 cur1 hg hh1⟩
theorem Sets.below {w w' : World} {base : Nat} {xs : List (Option Addr × Nat × Nat)} {S : List (List (Int × Int))} (h : Sets w base xs S) (hb : Below w.heap.size w w') : Sets w' base xs S :=
 h.keep fun g _ _ hg=>hb.block g (Array.getElem?_eq_some_iff.1 hg).1
theorem Sets.grown {w w' : World} {base : Nat} {xs : List (Option Addr × Nat × Nat)} {S : List (List (Int × Int))} {row : Option Nat} (h : Sets w base xs S) (hg : w.grownBy w' row) (hr : ∀ g (q : Array Value),row = some g→w.heap[g]? ≠ some (.cells q 262 (0,0))) : Sets w' base xs S :=
 h.keep fun g cs _ hh=>hg.block g (Array.getElem?_eq_some_iff.1 hh).1 fun e=>hr g cs e.symm hh
theorem Sets.more {w : World} {b b' : Nat} {xs : List (Option Addr × Nat × Nat)} {S : List (List (Int × Int))} (h : Sets w b xs S) (hb : b'≤b) : Sets w b' xs S:=⟨h.len,fun k x l hx hl=>(h.own k x l hx hl).more hb⟩
theorem Sets.snoc {w : World} {base : Nat} {xs : List (Option Addr × Nat × Nat)} {S : List (List (Int × Int))} {A : Option Addr} {n c : Nat} {l : List (Int × Int)} (h : Sets w base xs S) (ho : Own w base 262 2 A n c (l.map encR)) : Sets w base (xs++[(A,n,c)]) (S++[l]):=by
 refine ⟨by simp [h.len],fun k x q hx hq=>?_⟩
 rcases Nat.lt_or_ge k xs.length with hlt | hge
 ·rw [List.getElem?_append_left hlt] at hx
  rw [List.getElem?_append_left (by rw [← h.len];exact hlt)] at hq
  exact h.own k x q hx hq
 ·rw [List.getElem?_append_right hge] at hx
  rw [List.getElem?_append_right (by rw [← h.len];exact hge),← h.len] at hq
  cases hz : k - xs.length with
  | zero=>rw [hz] at hx hq;simp at hx hq;subst hx;subst hq;exact ho
  | succ z=>rw [hz] at hx;simp at hx
theorem Sets.set_ {w : World} {base : Nat} {xs : List (Option Addr × Nat × Nat)} {S : List (List (Int × Int))} {A : Option Addr} {n c i : Nat} {l : List (Int × Int)} (h : Sets w base xs S) (ho : Own w base 262 2 A n c (l.map encR)) : Sets w base (xs.set i (A,n,c)) (S.set i l):=by
 refine ⟨by simp [h.len],fun k x q hx hq=>?_⟩
 by_cases e : i = k
 ·subst e
  rw [List.getElem?_set_self' ] at hx hq
  cases h1 : xs[i]? with
  | none=>rw [h1] at hx;simp at hx
  | some y =>
   rw [h1] at hx;simp at hx;subst hx
   cases h2 : S[i]? with
   | none=>rw [h2] at hq;simp at hq
   | some z=>rw [h2] at hq;simp at hq;subst hq;exact ho
 ·rw [List.getElem?_set_ne e] at hx hq
  exact h.own k x q hx hq
theorem keyedS : Keyed Tryz.prog 9:=string_keyed Tryz.underlying9
theorem zeroI (w : World) : (zeroValue 3).run Tryz.prog w = .ok (.int .i64 0) w:=by kernel_rfl
theorem keyS {n : List UInt8} (h : n.length≤1000000) : keyOf Tryz.prog 9 (.string (bytesOf n)) = some (.string n):=by
 rw [WideMaps.keyOf_string_mk Tryz.underlying9 (by rw [bytesOf_size];unfold maxLen;omega),bytesOf_list]
structure DbX (w : World) (base p x : Nat) (An : Option Addr) (nn cn bm nm : Nat) (D : DataW Unit) (As : Option Addr) (ns cs : Nat) (xs : List (Option Addr × Nat × Nat)) (N : List (List UInt8)) (S : List (List (Int × Int))) : Prop where
 blk : Blk w p 229 #[.slice An nn cn,.map (some bm),.slice As ns cs,.slice none 0 0]
 pb : base≤p
 hn : Own w base 9 1 An nn cn (N.map encNm)
 hm : w.ownsMap Tryz.prog 9 (plainElem (H:=Unit) Tryz.prog 3) bm nm D
 nle : nm≤nn
 bb : base≤bm
 hD : MapIs D N
 hs : Own w base 239 1 As ns cs (xs.map encSl)
 hx : Sets w base xs S
 xp : x ≠ p
 xb : x ≠ bm
 xn : ∀ a,An = some a→a.block ≠ x
 xs_ : ∀ a,As = some a→a.block ≠ x
structure DbB (w : World) (base p x : Nat) (d : DbP) : Prop where
 ex : ∃ (An : Option Addr) (nn cn bm nm : Nat) (D : DataW Unit) (As : Option Addr) (ns cs : Nat) (xs : List (Option Addr × Nat × Nat)),DbX w base p x An nn cn bm nm D As ns cs xs d.names d.sets
structure DbAt (w : World) (p : Nat) (d : DbP) : Prop where
 ex : ∃ (An : Option Addr) (nn cn bm nm : Nat) (D : DataW Unit) (As : Option Addr) (ns cs : Nat) (xs : List (Option Addr × Nat × Nat)) (Ar : Option Addr) (nr cr : Nat),
  Blk w p 229 #[.slice An nn cn,.map (some bm),.slice As ns cs,.slice Ar nr cr]∧Own w 0 9 1 An nn cn (d.names.map encNm) ∧
  w.ownsMap Tryz.prog 9 (plainElem (H:=Unit) Tryz.prog 3) bm nm D∧MapIs D d.names∧Own w 0 239 1 As ns cs (xs.map encSl)∧Sets w 0 xs d.full∧Own w 0 235 3 Ar nr cr (d.rng.map encD)
theorem map_below {w w' : World} {P : Program} {k : TypeId} {R : Value→Option (DataW Unit × List MemPlace)} {b n : Nat} {D : DataW Unit} (h : w.ownsMap P k R b n D) (hb : Below w.heap.size w w') : w'.ownsMap P k R b n D:=by
 have hlt:=h.lt
 obtain ⟨es,clock,h1,h2⟩:=h
 exact ⟨es,clock,(hb.block b hlt).trans h1,h2⟩
theorem DbAt.below {w w' : World} {p : Nat} {d : DbP} (h : DbAt w p d) (hb : Below w.heap.size w w') : DbAt w' p d:=by
 obtain ⟨An,nn,cn,bm,nm,D,As,ns,cs,xs,Ar,nr,cr,h1,h2,h3,h4,h5,h6,h7⟩:=h.ex
 exact ⟨An,nn,cn,bm,nm,D,As,ns,cs,xs,Ar,nr,cr,h1.below hb,h2.below hb,map_below h3 hb,h4,h5.below hb,h6.below hb,h7.below hb⟩
section
variable {w w' : World} {base p x : Nat} {An : Option Addr} {nn cn bm nm : Nat} {D : DataW Unit} {As : Option Addr} {ns cs : Nat} {xs : List (Option Addr × Nat × Nat)} {N : List (List UInt8)} {S : List (List (Int × Int))}
theorem DbX.below (h : DbX w base p x An nn cn bm nm D As ns cs xs N S) (hb : Below w.heap.size w w') : DbX w' base p x An nn cn bm nm D As ns cs xs N S :=
 ⟨h.blk.below hb,h.pb,h.hn.below hb,map_below h.hm hb,h.nle,h.bb,h.hD,h.hs.below hb,h.hx.below hb,h.xp,h.xb,h.xn,h.xs_⟩
def KX (base x : Nat) (w w' : World) : Prop:=Below base w w'∧(x < w.heap.size→w'.heap[x]? = w.heap[x]?)
theorem KX.trans {a b c : World} (h : KX base x a b) (k : KX base x b c) : KX base x a c:=⟨h.1.trans k.1,fun hx=>(k.2 (Nat.lt_of_lt_of_le hx h.1.size)).trans (h.2 hx)⟩
theorem KX.below (hb : Below w.heap.size w w') (hB : base≤w.heap.size) : KX base x w w':=⟨hb.mono hB,fun hx=>hb.block x hx⟩
theorem KX.grown {row : Option Nat} (hg : w.grownBy w' row) (hB : base≤w.heap.size) (hr : ∀ k,row = some k→base≤k∧k ≠ x) : KX base x w w' :=
 ⟨(Below.refl _ _).grown hg hB fun k hk=>(hr k hk).1,fun hx=>hg.block x hx fun e=>(hr x e.symm).2 rfl⟩
theorem KX.setCell (w : World) {q : Addr} (hq : base≤q.block) (hx : q.block ≠ x) (u : Value) : KX base x w (w.setCell q u) :=
 ⟨(Below.refl _ _).setCell hq u,fun _=>Below.heap_setCell w q u x (Ne.symm hx)⟩
theorem blk_not_R {g : Nat} {t : TypeId} {cur : Array Value} (h : Blk w g t cur) (ht : t ≠ 262) : ∀ q : Array Value,w.heap[g]? ≠ some (.cells q 262 (0,0)):=fun q e=>by
 unfold Blk at h;rw [h] at e;injection e with e;injection e with _ e _;exact ht e
theorem own_not_R {b1 : Nat} {e1 : TypeId} {s1 : Nat} {A1 : Option Addr} {n1 c1 : Nat} {x1 : List (List Value)} (h : Own w b1 e1 s1 A1 n1 c1 x1) (ht : e1 ≠ 262) : ∀ g (q : Array Value),A1.map (·.block) = some g→w.heap[g]? ≠ some (.cells q 262 (0,0)):=fun g q hg e=>by
 rcases h.2.2.2 with ⟨h0,_⟩ | ⟨g1,cap1,cur1,hv1,_,hh1,_⟩
 ·injection h0 with h0;rw [h0] at hg;cases hg
 ·injection hv1 with hv1;subst hv1
  simp at hg;subst hg
  rw [hh1] at e;injection e with e;injection e with _ e _;exact ht e
theorem map_not_R {P : Program} {k : TypeId} {R : Value→Option (DataW Unit × List MemPlace)} {b n : Nat} (m : w.ownsMap P k R b n D) : ∀ q : Array Value,w.heap[b]? ≠ some (.cells q 262 (0,0)):=fun q e=>by
 obtain ⟨es,clock,hb,_⟩:=m;rw [hb] at e;cases e
theorem grown_alloc {a b : World} {row : Option Nat} {o : Obj} (h : (a.alloc o).grownBy b row) : a.grownBy b row :=
 ⟨h.os,h.tape,h.output,Nat.le_trans (by simp) h.size,fun i hi hne=>(h.block i (by simp;omega) hne).trans (Below.heap_alloc a o i hi)⟩
theorem map_kept {P : Program} {k : TypeId} {R : Value→Option (DataW Unit × List MemPlace)} {b n : Nat} {row : Option Nat} (m : w.ownsMap P k R b n D) (hg : w.grownBy w' row) (hr : some b ≠ row) : w'.ownsMap P k R b n D:=m.kept hg hr
theorem map_setCell {P : Program} {k : TypeId} {R : Value→Option (DataW Unit × List MemPlace)} {b n : Nat} (m : w.ownsMap P k R b n D) {q : Addr} (hq : b ≠ q.block) (u : Value) : (w.setCell q u).ownsMap P k R b n D:=m.setCell hq u
theorem Sets.setCell (h : Sets w base xs S) {q : Addr} (hq : ∀ r : Array Value,w.heap[q.block]? ≠ some (.cells r 262 (0,0))) (u : Value) : Sets (w.setCell q u) base xs S :=
 h.keep fun g cur _ hg=>Below.heap_setCell w q u g fun e=>hq cur (by rw [← e];exact hg)
end
theorem DbB.below {w w' : World} {base p x : Nat} {d : DbP} (h : DbB w base p x d) (hb : Below w.heap.size w w') : DbB w' base p x d:=by
 obtain ⟨An,nn,cn,bm,nm,D,As,ns,cs,xs,h⟩:=h.ex
 exact ⟨An,nn,cn,bm,nm,D,As,ns,cs,xs,h.below hb⟩
end
section
theorem qtS_cons (c : UInt8) (r : List UInt8) : qtL (c :: r) = if c = 39∧(runeAt (bytesOf (c :: r)) 1).2 ≠ 0∧r[(runeAt (bytesOf (c :: r)) 1).2]? = some 39 then some ((runeAt (bytesOf (c :: r)) 1).2+2) else none:=by
 rw [qtL_cons,show (1 : Nat) = 0+1 from rfl,runeAt_sh]
 by_cases hr : r = []
 ·subst hr
  rw [if_neg (by simp),if_neg (fun h=>by simp at h)]
 ·have hb:=decL_bd hr
  have e : runeAt (bytesOf r) 0 = Utf8.decode (bytesOf r) 0:=by
   unfold runeAt
   rw [if_pos (by rw [bytesOf_size];omega)]
  rw [e]
  by_cases h : c = 39∧r[(Utf8.decode (bytesOf r) 0).2]? = some 39
  ·rw [if_pos ⟨h.1,hr,h.2⟩,if_pos ⟨h.1,by omega,h.2⟩]
  ·rw [if_neg (fun k=>h ⟨k.1,k.2.2⟩),if_neg (fun k=>h ⟨k.1,k.2.2⟩)]
theorem qt_no {s : ByteArray} (h : ∀ h0 : 0 < s.size,s[0]'h0 ≠ 39) : qtL s.data.toList = none:=by
 cases hl : s.data.toList with
 | nil=>rfl
 | cons c r =>
  have h0 : 0 < s.size:=by rw [← size_data,hl];simp
  have : s[0]'h0 = c:=by
   have h1 : s.data.toList[0]? = some (s[0]'h0):=List.getElem?_eq_getElem (by simpa using h0)
   rw [hl] at h1;simpa using h1.symm
  rw [qtS_cons,if_neg (fun k=>h h0 (by rw [this,k.1]))]
theorem qt_zero {s : ByteArray} (h : (runeAt s 1).2 = 0) : qtL s.data.toList = none:=by
 cases hl : s.data.toList with
 | nil=>rfl
 | cons c r =>
  have hs : s = bytesOf (c :: r):=by rw [← hl,bytesOf_data]
  rw [qtS_cons,← hs,if_neg (fun k=>k.2.1 h)]
theorem qt_open {s : ByteArray} (h : s.data.toList[(runeAt s 1).2+1]? ≠ some 39) : qtL s.data.toList = none:=by
 cases hl : s.data.toList with
 | nil=>rfl
 | cons c r =>
  have hs : s = bytesOf (c :: r):=by rw [← hl,bytesOf_data]
  rw [qtS_cons,← hs,if_neg (fun k=>h (by rw [hl];exact k.2.2))]
theorem qt_ok {s : ByteArray} (h0 : 0 < s.size) (h1 : s[0]'h0 = 39) (h2 : (runeAt s 1).2 ≠ 0) (h3 : s.data.toList[(runeAt s 1).2+1]? = some 39) : qtL s.data.toList = some ((runeAt s 1).2+2):=by
 cases hl : s.data.toList with
 | nil=>rw [← size_data,hl] at h0;simp at h0
 | cons c r =>
  have hs : s = bytesOf (c :: r):=by rw [← hl,bytesOf_data]
  have hc : s[0]'h0 = c:=by
   have h1 : s.data.toList[0]? = some (s[0]'h0):=List.getElem?_eq_getElem (by simpa using h0)
   rw [hl] at h1;simpa using h1.symm
  rw [qtS_cons,← hs,if_pos ⟨by rw [← hc,h1],h2,by rw [hl] at h3;exact h3⟩]
def nameU : List UInt8→Bool
 | []=>true
 | c :: r=>letB c && r.all partB
theorem nameL_eq (l : List UInt8) : nameL l = (nameU l && decide (1≤l.length∧l.length≤32)):=by
 cases l with
 | nil=>rfl
 | cons c r=>
  simp only [nameL,nameU,List.length_cons]
  congr 1
  rw [decide_eq_decide];omega
theorem nameU_first (c : UInt8) : nameU [c] = letB c:=by simp [nameU]
theorem nameU_snoc {l : List UInt8} (h : l ≠ []) (c : UInt8) : nameU (l++[c]) = (nameU l && partB c):=by
 cases l with
 | nil=>exact absurd rfl h
 | cons a r=>simp [nameU,List.all_append,Bool.and_assoc]
theorem nameU_take {l : List UInt8} {k : Nat} (h : nameU (l.take k) = false) : nameU l = false:=by
 cases l with
 | nil=>simpa using h
 | cons c r =>
  cases k with
  | zero=>simp [nameU] at h
  | succ k =>
   simp only [List.take_succ_cons,nameU] at h ⊢
   cases hc : letB c with
   | false=>rfl
   | true =>
    rw [hc] at h
    simp only [Bool.true_and] at h ⊢
    rw [List.all_eq_false] at h ⊢
    obtain ⟨x,hx,h2⟩:=h
    exact ⟨x,List.mem_of_mem_take hx,h2⟩
theorem nameU_next {l : List UInt8} {k : Nat} {c : UInt8} (h : l[k]? = some c) (hk : nameU (l.take k) = true) : nameU (l.take (k+1)) = if k = 0 then letB c else partB c:=by
 have hs : l.take (k+1) = l.take k++[c]:=by rw [List.take_add_one,h];rfl
 have hlt:=(List.getElem?_eq_some_iff.1 h).1
 rw [hs]
 split
 ·rename_i h0;subst h0;rw [List.take_zero,List.nil_append,nameU_first]
 ·rw [nameU_snoc (by intro e;have h1:=congrArg List.length e;rw [List.length_take] at h1;simp only [List.length_nil] at h1;omega),hk,Bool.true_and]
def FindAt (c : UInt8) (l : List UInt8) (i : Nat) : Prop:=i≤l.length∧findP c l = (findP c (l.drop i)).map (·+i)
theorem findAt_first (c : UInt8) (l : List UInt8) : FindAt c l 0:=⟨by omega,by rw [List.drop_zero];cases findP c l <;> rfl⟩
theorem findAt_qt {c : UInt8} {l : List UInt8} {i k : Nat} (h : FindAt c l i) (hq : qtL (l.drop i) = some k) : FindAt c l (i+k):=by
 have hk:=(qtL_some hq).2.2.1
 rw [List.length_drop] at hk
 have:=h.1
 refine ⟨by have:=(qtL_some hq).1;omega,?_⟩
 rw [h.2,findP_qt hq,List.drop_drop]
 cases findP c (l.drop (i+k)) with
 | none=>rfl
 | some j=>simp;omega
theorem findAt_byte {c x : UInt8} {l : List UInt8} {i : Nat} (h : FindAt c l i) (hx : l[i]? = some x) (hq : qtL (l.drop i) = none) (hne : x ≠ c) : FindAt c l (i+1):=by
 have hlt:=(List.getElem?_eq_some_iff.1 hx).1
 have hd : l.drop i = x :: l.drop (i+1):=by
  have:=(List.getElem?_eq_some_iff.1 hx).2
  rw [List.drop_eq_getElem_cons hlt,this]
 refine ⟨by omega,?_⟩
 rw [h.2,hd,findP_cons (by rw [← hd];exact hq),if_neg hne]
 cases findP c (l.drop (i+1)) with
 | none=>rfl
 | some j=>simp;omega
theorem findAt_hit {c : UInt8} {l : List UInt8} {i : Nat} (h : FindAt c l i) (hx : l[i]? = some c) (hq : qtL (l.drop i) = none) : findP c l = some i:=by
 have hlt:=(List.getElem?_eq_some_iff.1 hx).1
 have hd : l.drop i = c :: l.drop (i+1):=by
  have:=(List.getElem?_eq_some_iff.1 hx).2
  rw [List.drop_eq_getElem_cons hlt,this]
 rw [h.2,hd,findP_cons (by rw [← hd];exact hq),if_pos rfl];simp
theorem findAt_end {c : UInt8} {l : List UInt8} {i : Nat} (h : FindAt c l i) (hi : ¬ i < l.length) : findP c l = none:=by
 rw [h.2,List.drop_of_length_le (by omega)];rfl
def fv : Option Nat→Int
 | none=>-1
 | some i=>i
end
section
def MeetAt (a b : List (Int × Int)) (i j : Nat) : Prop:=i≤a.length∧j≤b.length∧meetB a b = meetB (a.drop i) (b.drop j)
theorem meetAt_first (a b : List (Int × Int)) : MeetAt a b 0 0:=⟨by omega,by omega,by rw [List.drop_zero,List.drop_zero]⟩
theorem Nf_drop {l : List (Int × Int)} (k : Nat) (h : Nf l) : Nf (l.drop k):=by
 rw [← List.take_append_drop k l] at h
 exact ((Nf_append _ _).1 h).2.1
theorem drop_at {α : Type} {l : List α} {i : Nat} {x : α} (h : l[i]? = some x) : l.drop i = x :: l.drop (i+1):=by
 obtain ⟨hlt,e⟩:=List.getElem?_eq_some_iff.1 h
 rw [List.drop_eq_getElem_cons hlt,e]
theorem meetAt_left {a b : List (Int × Int)} {i j : Nat} {x y : Int × Int} (h : MeetAt a b i j) (hb : Nf b) (hx : a[i]? = some x) (hy : b[j]? = some y) (hlt : x.2 < y.1) : MeetAt a b (i+1) j:=by
 have h1:=(List.getElem?_eq_some_iff.1 hx).1
 refine ⟨h1,h.2.1,?_⟩
 rw [h.2.2,drop_at hx,drop_at hy]
 exact meetB_left (by rw [← drop_at hy];exact Nf_drop j hb) hlt
theorem meetAt_right {a b : List (Int × Int)} {i j : Nat} {x y : Int × Int} (h : MeetAt a b i j) (ha : Nf a) (hx : a[i]? = some x) (hy : b[j]? = some y) (hlt : y.2 < x.1) : MeetAt a b i (j+1):=by
 have h1:=(List.getElem?_eq_some_iff.1 hy).1
 refine ⟨h.1,h1,?_⟩
 rw [h.2.2,drop_at hx,drop_at hy]
 exact meetB_right (by rw [← drop_at hx];exact Nf_drop i ha) hlt
theorem meetAt_here {a b : List (Int × Int)} {i j : Nat} {x y : Int × Int} (h : MeetAt a b i j) (hx : a[i]? = some x) (hy : b[j]? = some y) (h1 : ¬ x.2 < y.1) (h2 : ¬ y.2 < x.1) : meetB a b = true:=by
 rw [h.2.2,drop_at hx,drop_at hy]
 exact meetB_here h1 h2
theorem meetAt_end {a b : List (Int × Int)} {i j : Nat} (h : MeetAt a b i j) (hij : ¬ i < a.length∨¬ j < b.length) : meetB a b = false:=by
 rw [h.2.2]
 rcases hij with hi | hj
 ·rw [List.drop_of_length_le (by omega)];exact meetB_nil_left _
 ·rw [List.drop_of_length_le (l:=b) (by omega)];exact meetB_nil_right _
def ClashAt (d : DbP) (c : Nat) (l : List (Int × Int)) (k : Nat) : Prop:=∀ q,q < k→q ≠ c→meetB (d.sets.getD q []) l = false
theorem clashAt_first (d : DbP) (c : Nat) (l : List (Int × Int)) : ClashAt d c l 0:=fun q hq=>by omega
theorem clashAt_next {d : DbP} {c : Nat} {l s : List (Int × Int)} {k : Nat} (h : ClashAt d c l k) (hs : d.sets[k]? = some s) (hk : k = c∨meetB s l = false) : ClashAt d c l (k+1):=fun q hq hqc=>by
 rcases Nat.lt_or_ge q k with hlt | hge
 ·exact h q hlt hqc
 ·obtain rfl : q = k:=by omega
  rcases hk with e | e
  ·exact absurd e hqc
  ·rw [List.getD_eq_getElem?_getD,hs];exact e
theorem clashAt_end {d : DbP} {c : Nat} {l : List (Int × Int)} {k : Nat} (h : ClashAt d c l k) (hk : ¬ k < d.sets.length) : d.clash c l = false:=by
 unfold DbP.clash
 rw [List.any_eq_false]
 intro q hq
 have:=List.mem_range.1 hq
 by_cases e : q = c
 ·simp [e]
 ·rw [h q (by omega) e];simp
theorem clash_here {d : DbP} {c : Nat} {l s : List (Int × Int)} {k : Nat} (hs : d.sets[k]? = some s) (hk : k ≠ c) (h : meetB s l = true) : d.clash c l = true:=by
 unfold DbP.clash
 rw [List.any_eq_true]
 refine ⟨k,List.mem_range.2 (List.getElem?_eq_some_iff.1 hs).1,?_⟩
 rw [List.getD_eq_getElem?_getD,hs]
 simp [hk,h]
def addS (d : DbP) (u : List UInt8) : Except Int DbP :=
 match findP 59 u with
 | none=>.error 42
 | some j=>addL d (trimL (u.drop (j+1))) (u.take j)
def lineU (l : List UInt8) : List UInt8:=trimL (l.take (hashP l))
theorem step_nil {d : DbP} {l : List UInt8} (h : lineU l = []) : stepL d l = .ok d:=by
 unfold stepL lineP
 simp only [show trimL (l.take (hashP l)) = [] from h,if_true]
theorem step_add {d : DbP} {l : List UInt8} (h : lineU l ≠ []) : stepL d l = addS d (lineU l):=by
 unfold stepL lineP addS
 simp only [show trimL (l.take (hashP l)) = lineU l from rfl,if_neg h]
 cases findP 59 (lineU l) with
 | none=>rfl
 | some j=>rfl
def nbrP (d : DbP) (n : List UInt8) : Except Int Nat:=match d.num n with
 | some c=>.ok c
 | none=>if 64≤d.names.length then .error 6 else .ok d.names.length
def putP (d : DbP) (n : List UInt8) (c : Nat) (l : List (Int × Int)) : DbP :=
 if c = d.names.length then ⟨d.names++[n],d.sets++[orR [] l]⟩ else ⟨d.names,d.sets.set c (orR (d.sets.getD c []) l)⟩
theorem addS_none {d : DbP} {u : List UInt8} (h : findP 59 u = none) : addS d u = .error 42:=by unfold addS;rw [h]
section
variable {d : DbP} {u : List UInt8} {j : Nat} (h : findP 59 u = some j)
include h
theorem addS_name (hn : nameL (trimL (u.drop (j+1))) = false∨trimL (u.drop (j+1)) = otherL) : addS d u = .error 40:=by
 unfold addS addL;rw [h];simp only [if_pos hn]
theorem addS_parse (hn : ¬ (nameL (trimL (u.drop (j+1))) = false∨trimL (u.drop (j+1)) = otherL)) {e : Int} (hp : parseE (spcL (u.take j)) = .error e) : addS d u = .error e:=by
 unfold addS addL;rw [h];simp only [if_neg hn,hp]
theorem addS_many (hn : ¬ (nameL (trimL (u.drop (j+1))) = false∨trimL (u.drop (j+1)) = otherL)) {l : List (Int × Int)} (hp : parseE (spcL (u.take j)) = .ok l) {e : Int} (hm : nbrP d (trimL (u.drop (j+1))) = .error e) : addS d u = .error e:=by
 unfold addS addL;rw [h];simp only [if_neg hn,hp]
 unfold nbrP at hm
 cases hq : d.num (trimL (u.drop (j+1))) with
 | some c=>rw [hq] at hm;cases hm
 | none =>
  rw [hq] at hm
  simp only at hm ⊢
  split at hm
  ·rename_i h6;rw [if_pos h6];injection hm with hm;rw [hm]
  ·cases hm
theorem addS_clash (hn : ¬ (nameL (trimL (u.drop (j+1))) = false∨trimL (u.drop (j+1)) = otherL)) {l : List (Int × Int)} (hp : parseE (spcL (u.take j)) = .ok l) {c : Nat} (hm : nbrP d (trimL (u.drop (j+1))) = .ok c) (hc : d.clash c (normR l) = true) : addS d u = .error 41:=by
 unfold addS addL;rw [h];simp only [if_neg hn,hp]
 unfold nbrP at hm
 cases hq : d.num (trimL (u.drop (j+1))) with
 | some c'=>rw [hq] at hm;injection hm with hm;subst hm;simp only [hc,if_true]
 | none =>
  rw [hq] at hm
  simp only at hm ⊢
  split at hm
  ·cases hm
  ·rename_i h6;rw [if_neg h6];injection hm with hm;subst hm;simp only [hc,if_true]
theorem addS_ok (hn : ¬ (nameL (trimL (u.drop (j+1))) = false∨trimL (u.drop (j+1)) = otherL)) {l : List (Int × Int)} (hp : parseE (spcL (u.take j)) = .ok l) {c : Nat} (hm : nbrP d (trimL (u.drop (j+1))) = .ok c) (hc : d.clash c (normR l) = false) : addS d u = .ok (putP d (trimL (u.drop (j+1))) c (normR l)):=by
 unfold addS addL;rw [h];simp only [if_neg hn,hp]
 unfold nbrP at hm
 cases hq : d.num (trimL (u.drop (j+1))) with
 | some c' =>
  rw [hq] at hm;injection hm with hm;subst hm
  have:=(List.getElem?_eq_some_iff.1 (idxOf?_some (show d.names.idxOf? _ = some c' from hq))).1
  simp only [hc,putP,if_neg (show ¬ c' = d.names.length by omega)]
  rfl
 | none =>
  rw [hq] at hm
  simp only at hm ⊢
  split at hm
  ·cases hm
  ·rename_i h6;rw [if_neg h6];injection hm with hm;subst hm;simp only [hc,putP,if_true];rfl
end
theorem nbrP_le {d : DbP} {n : List UInt8} {c : Nat} (h : nbrP d n = .ok c) : c≤d.names.length:=by
 unfold nbrP at h
 cases hq : d.num n with
 | some c' =>
  rw [hq] at h;injection h with h;subst h
  exact Nat.le_of_lt (List.getElem?_eq_some_iff.1 (idxOf?_some (show d.names.idxOf? _ = some c' from hq))).1
 | none =>
  rw [hq] at h;simp only at h
  split at h
  ·cases h
  ·injection h with h;omega
end
section
def gotR (S : List (List (Int × Int))) (c k : Nat) : List (Int × Int × Nat):=entG 1 (S.take c)++((S.getD c []).take k).map fun x=>(x.1,x.2,c+1)
theorem gotR_first (S : List (List (Int × Int))) : gotR S 0 0 = []:=by simp [gotR,entG]
theorem gotR_in {S : List (List (Int × Int))} {c k : Nat} {s : List (Int × Int)} {x : Int × Int} (hs : S[c]? = some s) (hx : s[k]? = some x) : gotR S c (k+1) = gotR S c k++[(x.1,x.2,c+1)]:=by
 unfold gotR
 rw [List.getD_eq_getElem?_getD,hs,Option.getD_some,List.take_add_one,hx,Option.toList_some,List.map_append,List.append_assoc];rfl
theorem gotR_out {S : List (List (Int × Int))} {c k : Nat} {s : List (Int × Int)} (hs : S[c]? = some s) (hk : ¬ k < s.length) : gotR S c k = gotR S (c+1) 0:=by
 unfold gotR
 rw [List.getD_eq_getElem?_getD,hs,Option.getD_some,List.take_of_length_le (l:=s) (i:=k) (by omega),List.take_zero,List.map_nil,List.append_nil,List.take_add_one,hs,Option.toList_some,entG_append]
 have hlt:=(List.getElem?_eq_some_iff.1 hs).1
 rw [List.length_take,Nat.min_eq_left (Nat.le_of_lt hlt)]
 simp [entG,Nat.add_comm]
theorem gotR_end {S : List (List (Int × Int))} {c : Nat} (hc : ¬ c < S.length) : gotR S c 0 = entG 1 S:=by
 unfold gotR
 rw [List.take_of_length_le (by omega),List.take_zero,List.map_nil,List.append_nil]
theorem flat_next {S : List (List (Int × Int))} {c : Nat} {s : List (Int × Int)} (hs : S[c]? = some s) : (S.take (c+1)).flatten = (S.take c).flatten++s:=by
 rw [List.take_add_one,hs,Option.toList_some,List.flatten_append];simp
theorem gotR_len {S : List (List (Int × Int))} {c k : Nat} : (gotR S c k).length≤lenS S:=by
 unfold gotR
 rw [List.length_append,List.length_map,entG_len,List.length_take]
 rcases Nat.lt_or_ge c S.length with h | h
 ·have hd : S = S.take c++S[c] :: S.drop (c+1):=by rw [← List.drop_eq_getElem_cons h,List.take_append_drop]
  have h2 : lenS S = lenS (S.take c)+lenS (S[c] :: S.drop (c+1)):=by
   conv=>lhs;rw [hd]
   exact lenS_append _ _
  rw [List.getD_eq_getElem?_getD,List.getElem?_eq_getElem h,Option.getD_some,h2]
  have : lenS (S[c] :: S.drop (c+1)) = S[c].length+lenS (S.drop (c+1)):=rfl
  omega
 ·rw [List.getD_eq_getElem?_getD,List.getElem?_eq_none h,List.take_of_length_le h];simp
theorem flat_le (S : List (List (Int × Int))) (c : Nat) : (S.take c).flatten.length≤lenS S:=by
 rw [lenS_flat]
 have h2 : lenS S = lenS (S.take c)+lenS (S.drop c):=by
  conv=>lhs;rw [← List.take_append_drop c S]
  exact lenS_append _ _
 omega
structure BinAt (l : List (Int × Int × Nat)) (r : Int) (i j : Nat) : Prop where
 le : i≤j
 len : j≤l.length
 lo : ∀ t x,t < i→l[t]? = some x→x.2.1 < r
 hi : ∀ t x,j≤t→l[t]? = some x→¬ x.2.1 < r
theorem binAt_first (l : List (Int × Int × Nat)) (r : Int) : BinAt l r 0 l.length:=⟨by omega,by omega,fun t x h=>by omega,fun t x h hx=>by have:=(List.getElem?_eq_some_iff.1 hx).1;omega⟩
theorem hi_rise {l : List (Int × Int × Nat)} (hp : l.Pairwise fun a b=>a.2.1 < b.1) (hl : ∀ y ∈ l,y.1≤y.2.1) {t h : Nat} {x y : Int × Int × Nat} (hth : t < h) (hx : l[t]? = some x) (hy : l[h]? = some y) : x.2.1 < y.2.1:=by
 obtain ⟨h1,e1⟩:=List.getElem?_eq_some_iff.1 hx
 obtain ⟨h2,e2⟩:=List.getElem?_eq_some_iff.1 hy
 have:=List.pairwise_iff_getElem.1 hp t h h1 h2 hth
 have:=hl y (List.mem_of_getElem? hy)
 rw [e1,e2] at *
 omega
theorem binAt_left {l : List (Int × Int × Nat)} {r : Int} {i j h : Nat} {y : Int × Int × Nat} (hb : BinAt l r i j) (hp : l.Pairwise fun a b=>a.2.1 < b.1) (hl : ∀ y ∈ l,y.1≤y.2.1) (h2 : h < j) (hy : l[h]? = some y) (hlt : y.2.1 < r) : BinAt l r (h+1) j :=
 ⟨h2,hb.len,fun t x ht hx=>by
  rcases Nat.lt_or_ge t h with h3 | h3
  ·have:=hi_rise hp hl h3 hx hy;omega
  ·obtain rfl : t = h:=by omega
   rw [hy] at hx;injection hx with hx;subst hx;exact hlt,hb.hi⟩
theorem binAt_right {l : List (Int × Int × Nat)} {r : Int} {i j h : Nat} {y : Int × Int × Nat} (hb : BinAt l r i j) (hp : l.Pairwise fun a b=>a.2.1 < b.1) (hl : ∀ y ∈ l,y.1≤y.2.1) (h1 : i≤h) (h2 : h < j) (hy : l[h]? = some y) (hlt : ¬ y.2.1 < r) : BinAt l r i h :=
 ⟨h1,by have:=hb.len;omega,hb.lo,fun t x ht hx=>by
  rcases Nat.lt_or_ge h t with h3 | h3
  ·have:=hi_rise hp hl h3 hy hx;omega
  ·obtain rfl : t = h:=by omega
   rw [hy] at hx;injection hx with hx;subst hx;exact hlt⟩
theorem binAt_end {l : List (Int × Int × Nat)} {r : Int} {i j : Nat} (hb : BinAt l r i j) (h : ¬ i < j) : l.countP (endB r) = i:=by
 obtain rfl : i = j:=by have:=hb.le;omega
 exact count_place hb.len hb.lo hb.hi
theorem findC_in {l : List (Int × Int × Nat)} {r : Int} {x : Int × Int × Nat} (h : l[l.countP (endB r)]? = some x) : findC l r = if x.1≤r then x.2.2 else 0:=by unfold findC;rw [h]
theorem findC_out {l : List (Int × Int × Nat)} {r : Int} (h : ¬ l.countP (endB r) < l.length) : findC l r = 0:=by unfold findC;rw [List.getElem?_eq_none (by omega)]
def NewAt (L : List (List UInt8)) (i : Nat) (d : DbP) : Prop:=i≤L.length∧linesGo DbP.first L 0 = linesGo d (L.drop i) i∧d.Ok∧Apart d.sets
theorem newAt_first (L : List (List UInt8)) : NewAt L 0 DbP.first:=⟨by omega,by rw [List.drop_zero],DbP.first_ok,apart_first⟩
theorem stepL_apart {d d' : DbP} {l : List UInt8} (h : d.Ok) (ha : Apart d.sets) (hs : stepL d l = .ok d') : Apart d'.sets:=by
 have h1 : linesGo d [l] 0 = .ok d':=by simp only [linesGo,hs]
 exact linesGo_apart h ha h1
theorem newAt_next {L : List (List UInt8)} {i : Nat} {d d' : DbP} {l : List UInt8} (h : NewAt L i d) (hl : L[i]? = some l) (hs : stepL d l = .ok d') : NewAt L (i+1) d' :=
 ⟨(List.getElem?_eq_some_iff.1 hl).1,by rw [h.2.1,drop_at hl];simp only [linesGo,hs],stepL_ok h.2.2.1 hs,stepL_apart h.2.2.1 h.2.2.2 hs⟩
theorem newAt_err {L : List (List UInt8)} {i : Nat} {d : DbP} {l : List UInt8} {e : Int} (h : NewAt L i d) (hl : L[i]? = some l) (hs : stepL d l = .error e) : linesGo DbP.first L 0 = .error (e,i+1):=by
 rw [h.2.1,drop_at hl];simp only [linesGo,hs]
theorem newAt_end {L : List (List UInt8)} {i : Nat} {d : DbP} (h : NewAt L i d) (hi : ¬ i < L.length) : linesGo DbP.first L 0 = .ok d:=by
 rw [h.2.1,List.drop_of_length_le (by omega)];rfl
theorem newP_long {t : List UInt8} (h : 65536 < t.length) : newP t = .error (1,0):=if_pos h
theorem newP_go {t : List UInt8} (h : ¬ 65536 < t.length) : newP t = linesGo DbP.first (splitL t) 0:=if_neg h
theorem full_set {d : DbP} (h : d.Ok) : d.sets.set 0 d.rest = d.full:=by
 have:=h.head;have:=h.len
 unfold DbP.full
 cases hs : d.sets with
 | nil =>
  have h1:=h.len;have h2:=h.head
  rw [hs] at h1
  cases hn : d.names with
  | nil=>rw [hn] at h2;cases h2
  | cons a b=>rw [hn] at h1;simp at h1
 | cons a b=>rw [show d.rest = DbP.rest d from rfl];simp
end
section
open Go.RowKit Go.Maps
section
variable {w : World} {base p x : Nat} {An : Option Addr} {nn cn bm nm : Nat} {D : DataW Unit} {As : Option Addr} {ns cs : Nat} {xs : List (Option Addr × Nat × Nat)} {N : List (List UInt8)} {S : List (List (Int × Int))}
theorem DbX.lenN (h : DbX w base p x An nn cn bm nm D As ns cs xs N S) : N.length = nn:=by simpa using h.hn.len
theorem DbX.lenS (h : DbX w base p x An nn cn bm nm D As ns cs xs N S) : xs.length = ns∧S.length = ns:=by
 have:=h.hs.len;rw [List.length_map] at this
 exact ⟨this,by rw [← h.hx.len];exact this⟩
theorem types_ne : (9 : TypeId) ≠ 239∧(9 : TypeId) ≠ 229∧(239 : TypeId) ≠ 229∧(9 : TypeId) ≠ 262∧(239 : TypeId) ≠ 262∧(229 : TypeId) ≠ 262:=by decide
def KeepR (base : Nat) (w w' : World) : Prop:=∀ (g : Nat) (cur : Array Value),base≤g→w.heap[g]? = some (.cells cur 262 (0,0))→w'.heap[g]? = w.heap[g]?
theorem KeepR.trans {base : Nat} {a b c : World} (h : KeepR base a b) (k : KeepR base b c) : KeepR base a c:=fun g cur hg e=>(k g cur hg ((h g cur hg e).trans e)).trans (h g cur hg e)
theorem KeepR.grown {base : Nat} {w w' : World} {row : Option Nat} (hg : w.grownBy w' row) (hr : ∀ g (q : Array Value),row = some g→w.heap[g]? ≠ some (.cells q 262 (0,0))) : KeepR base w w':=fun g cur _ e=>hg.block g (Array.getElem?_eq_some_iff.1 e).1 fun k=>hr g cur k.symm e
theorem KeepR.setCell {base : Nat} {w : World} {q : Addr} (hq : ∀ r : Array Value,w.heap[q.block]? ≠ some (.cells r 262 (0,0))) (u : Value) : KeepR base w (w.setCell q u):=fun g cur _ e=>Below.heap_setCell w q u g fun k=>hq cur (by rw [← k];exact e)
theorem Own.keepR {base b : Nat} {w w' : World} {A : Option Addr} {n c : Nat} {cs : List (List Value)} (h : Own w b 262 2 A n c cs) (k : KeepR base w w') (hb : base≤b) : Own w' b 262 2 A n c cs:=by
 refine h.keep fun a ha=>?_
 rcases h.2.2.2 with ⟨h0,_⟩ | ⟨g1,cap1,cur1,hv1,hg,hh1,_⟩
 ·injection h0 with h0;rw [h0] at ha;cases ha
 ·injection hv1 with hv1;rw [hv1] at ha;injection ha with ha;subst ha
  exact k g1 cur1 (by omega) hh1
theorem DbX.mapped {w1 : World} (h : DbX w base p x An nn cn bm nm D As ns cs xs N S) (hg : w.grownBy w1 (some bm)) :
  Blk w1 p 229 #[.slice An nn cn,.map (some bm),.slice As ns cs,.slice none 0 0]∧Own w1 base 9 1 An nn cn (N.map encNm)∧Own w1 base 239 1 As ns cs (xs.map encSl)∧Sets w1 base xs S :=
 ⟨h.blk.grown hg (fun e=>h.blk.offMap h.hm (by injection e)),h.hn.grown hg (fun a ha e=>h.hn.offMap h.hm a ha (by injection e)),h.hs.grown hg (fun a ha e=>h.hs.offMap h.hm a ha (by injection e)),
  h.hx.grown hg (fun g q e=>by injection e with e;subst e;exact map_not_R h.hm q)⟩
theorem DbX.named {w1 w3 : World} {o : Obj} {n : List UInt8} {k : Int} {A3 : Option Addr} {c3 : Nat} (h : DbX w base p x An nn cn bm nm D As ns cs xs N S) (hk : k = N.length) (hown : w1.ownsMap Tryz.prog 9 (plainElem (H:=Unit) Tryz.prog 3) bm (nm+1) (D.put (.string n) (.lit (.int .i64 k))))
  (hg1 : w.grownBy w1 (some bm)) (ho3 : Own w3 base 9 1 A3 (nn+1) c3 ((N++[n]).map encNm)) (hg3 : (w1.alloc o).grownBy w3 (An.map (·.block))) (hA3 : A3 = An∨A3 = some ⟨(w1.alloc o).heap.size,0,none⟩) (hx : x < w.heap.size) (hB : base≤w.heap.size) :
  Blk w3 p 229 #[.slice An nn cn,.map (some bm),.slice As ns cs,.slice none 0 0]∧DbX (w3.setCell ⟨p,0,none⟩ (.slice A3 (nn+1) c3)) base p x A3 (nn+1) c3 bm (nm+1) (D.put (.string n) (.lit (.int .i64 k))) As ns cs xs (N++[n]) S ∧
   KX base x w (w3.setCell ⟨p,0,none⟩ (.slice A3 (nn+1) c3))∧KeepR base w (w3.setCell ⟨p,0,none⟩ (.slice A3 (nn+1) c3)):=by
 obtain ⟨t1,t2,t3,t4,t5,t6⟩:=types_ne
 obtain ⟨b1,n1,s1,x1⟩:=h.mapped hg1
 have hg:=grown_alloc hg3
 have hpA : ∀ a,An = some a→a.block ≠ p:=n1.off b1 t2
 have b3 : Blk w3 p 229 #[.slice An nn cn,.map (some bm),.slice As ns cs,.slice none 0 0]:=b1.grown hg (fun e=>by cases An with | none=>cases e | some a=>simp at e;exact hpA a rfl e.symm)
 have s3 : Own w3 base 239 1 As ns cs (xs.map encSl):=s1.grown hg (fun a ha e=>by cases An with | none=>cases e | some b=>simp at e;exact n1.apart s1 t1 b a rfl ha e.symm)
 have x3 : Sets w3 base xs S:=x1.grown hg (fun g q e=>own_not_R n1 t4 g q e)
 have m3:=map_kept hown hg (fun e=>by cases An with | none=>cases e | some a=>simp at e;exact n1.offMap hown a rfl e.symm)
 have hsz1:=hg1.size
 have hxA3 : ∀ a,A3 = some a→a.block ≠ x:=fun a ha=>by
  rcases hA3 with e | e
  ·exact h.xn a (by rw [← e];exact ha)
  ·rw [e] at ha;injection ha with ha;subst ha;simp;omega
 refine ⟨b3,⟨?_,h.pb,?_,?_,?_,h.bb,h.hD.put n hk,?_,?_,h.xp,h.xb,hxA3,h.xs_⟩,?_,?_⟩
 ·have:=b3.set_ 0 (.slice A3 (nn+1) c3)
  simpa using this
 ·exact ho3.setCell (fun a ha=>ho3.off b3 t2 a ha) _
 ·exact map_setCell m3 (fun e=>b3.offMap m3 e.symm) _
 ·have:=h.nle;omega
 ·exact s3.setCell (fun a ha=>s3.off b3 t3 a ha) _
 ·exact x3.setCell (blk_not_R b3 t6) _
 ·refine (KX.grown hg1 hB (fun k hk=>by injection hk with hk;subst hk;exact ⟨h.bb,fun e=>h.xb e.symm⟩)).trans ((KX.grown hg (by omega) (fun k hk=>?_)).trans (KX.setCell w3 h.pb (fun e=>h.xp e.symm) _))
  cases An with
  | none=>cases hk
  | some a=>simp at hk;subst hk;exact ⟨(n1.lt a rfl).1,h.xn a rfl⟩
 ·exact (KeepR.grown hg1 (fun g q e=>by injection e with e;subst e;exact map_not_R h.hm q)).trans ((KeepR.grown hg (fun g q e=>own_not_R n1 t4 g q e)).trans (KeepR.setCell (blk_not_R b3 t6) _))
theorem DbX.moreSet {w3 : World} {o : Obj} {A3 : Option Addr} {c3 : Nat} (h : DbX w base p x An nn cn bm nm D As ns cs xs N S) (ho3 : Own w3 base 239 1 A3 (ns+1) c3 ((xs++[(none,0,0)]).map encSl))
  (hg3 : (w.alloc o).grownBy w3 (As.map (·.block))) (hA3 : A3 = As∨A3 = some ⟨(w.alloc o).heap.size,0,none⟩) (hx : x < w.heap.size) (hB : base≤w.heap.size) :
  Blk w3 p 229 #[.slice An nn cn,.map (some bm),.slice As ns cs,.slice none 0 0]∧DbX (w3.setCell ⟨p,2,none⟩ (.slice A3 (ns+1) c3)) base p x An nn cn bm nm D A3 (ns+1) c3 (xs++[(none,0,0)]) N (S++[[]]) ∧
   KX base x w (w3.setCell ⟨p,2,none⟩ (.slice A3 (ns+1) c3))∧KeepR base w (w3.setCell ⟨p,2,none⟩ (.slice A3 (ns+1) c3)):=by
 obtain ⟨t1,t2,t3,t4,t5,t6⟩:=types_ne
 have hg:=grown_alloc hg3
 have b3 : Blk w3 p 229 #[.slice An nn cn,.map (some bm),.slice As ns cs,.slice none 0 0]:=h.blk.grown hg (fun e=>by cases As with | none=>cases e | some a=>simp at e;exact h.hs.off h.blk t3 a rfl e.symm)
 have n3 : Own w3 base 9 1 An nn cn (N.map encNm):=h.hn.grown hg (fun a ha e=>by cases As with | none=>cases e | some b=>simp at e;exact h.hn.apart h.hs t1 a b ha rfl e)
 have x3 : Sets w3 base xs S:=h.hx.grown hg (fun g q e=>own_not_R h.hs t5 g q e)
 have m3:=map_kept h.hm hg (fun e=>by cases As with | none=>cases e | some a=>simp at e;exact h.hs.offMap h.hm a rfl e.symm)
 have hxA3 : ∀ a,A3 = some a→a.block ≠ x:=fun a ha=>by
  rcases hA3 with e | e
  ·exact h.xs_ a (by rw [← e];exact ha)
  ·rw [e] at ha;injection ha with ha;subst ha;simp;omega
 refine ⟨b3,⟨?_,h.pb,?_,?_,h.nle,h.bb,h.hD,?_,?_,h.xp,h.xb,h.xn,hxA3⟩,?_,?_⟩
 ·have:=b3.set_ 2 (.slice A3 (ns+1) c3)
  simpa using this
 ·exact n3.setCell (fun a ha=>n3.off b3 t2 a ha) _
 ·exact map_setCell m3 (fun e=>b3.offMap m3 e.symm) _
 ·exact ho3.setCell (fun a ha=>ho3.off b3 t3 a ha) _
 ·exact (x3.setCell (blk_not_R b3 t6) _).snoc (Own.nil_ _ _ _ _)
 ·refine (KX.grown hg hB (fun k hk=>?_)).trans (KX.setCell w3 h.pb (fun e=>h.xp e.symm) _)
  cases As with
  | none=>cases hk
  | some a=>simp at hk;subst hk;exact ⟨(h.hs.lt a rfl).1,h.xs_ a rfl⟩
 ·exact (KeepR.grown hg (fun g q e=>own_not_R h.hs t5 g q e)).trans (KeepR.setCell (blk_not_R b3 t6) _)
theorem Own.storedSl {w : World} {base : Nat} {e : TypeId} {g n c k : Nat} {xs : List (Option Addr × Nat × Nat)} (h : Own w base e 1 (some ⟨g,0,none⟩) n c (xs.map encSl)) (hk : k < xs.length) (y : Option Addr × Nat × Nat) :
  Own (w.setCell ⟨g,k,none⟩ (.slice y.1 y.2.1 y.2.2)) base e 1 (some ⟨g,0,none⟩) n c ((xs.set k y).map encSl):=by
 have h1:=h.stored (k:=k) (j:=0) (x:=encSl xs[k]) (by simp [hk]) (by omega) (.slice y.1 y.2.1 y.2.2)
 rw [Nat.mul_one,Nat.add_zero] at h1
 have e : (xs.map encSl).set k ((encSl xs[k]).set 0 (.slice y.1 y.2.1 y.2.2)) = (xs.set k y).map encSl:=by rw [List.map_set];rfl
 rw [e] at h1
 exact h1
theorem Own.cell' {w : World} {base n c g k : Nat} {e : TypeId} {A : Option Addr} {xs : List (Option Addr × Nat × Nat)} {y : Option Addr × Nat × Nat} (h : Own w base e 1 A n c (xs.map encSl)) (hA : A = some ⟨g,0,none⟩) (hy : xs[k]? = some y) : w.cell? ⟨g,k,none⟩ = some (.slice y.1 y.2.1 y.2.2):=by
 subst hA
 have:=h.cell (k:=k) (j:=0) (x:=encSl y) (u:=.slice y.1 y.2.1 y.2.2) (by rw [List.getElem?_map,hy];rfl) rfl
 simpa using this
theorem DbX.storeSet {g k b' : Nat} {y : Option Addr × Nat × Nat} {l : List (Int × Int)} (h : DbX w base p x An nn cn bm nm D (some ⟨g,0,none⟩) ns cs xs N S) (hk : k < ns) (ho : Own w b' 262 2 y.1 y.2.1 y.2.2 (l.map encR)) (hb : base≤b') :
  DbX (w.setCell ⟨g,k,none⟩ (.slice y.1 y.2.1 y.2.2)) base p x An nn cn bm nm D (some ⟨g,0,none⟩) ns cs (xs.set k y) N (S.set k l)∧KX base x w (w.setCell ⟨g,k,none⟩ (.slice y.1 y.2.1 y.2.2)):=by
 obtain ⟨t1,t2,t3,t4,t5,t6⟩:=types_ne
 have hgp : g ≠ p:=h.hs.off h.blk t3 _ rfl
 refine ⟨⟨h.blk.far (p:=⟨g,k,none⟩) (Ne.symm hgp) _,h.pb,?_,?_,h.nle,h.bb,h.hD,?_,?_,h.xp,h.xb,h.xn,h.xs_⟩,KX.setCell w (q:=⟨g,k,none⟩) (h.hs.lt _ rfl).1 (h.xs_ ⟨g,0,none⟩ rfl) _⟩
 ·exact h.hn.setCell (p:=⟨g,k,none⟩) (fun a ha e=>h.hn.apart h.hs t1 a ⟨g,0,none⟩ ha rfl e) _
 ·exact map_setCell h.hm (q:=⟨g,k,none⟩) (fun e=>h.hs.offMap h.hm ⟨g,0,none⟩ rfl e.symm) _
 ·exact h.hs.storedSl (by rw [h.lenS.1];exact hk) y
 ·refine Sets.set_ (h.hx.setCell (q:=⟨g,k,none⟩) (fun r=>own_not_R h.hs t5 g r rfl) _) ?_
  exact (ho.setCell (p:=⟨g,k,none⟩) (fun a ha e=>ho.apart h.hs (Ne.symm t5) a ⟨g,0,none⟩ ha rfl e) _).more hb
end
end
section
open Go.RowKit
attribute [local go_sem ↓] neqR eqlR
end
section
open Go.RowKit Go.Sort
section
variable {α : Type} [Inhabited α] {enc : α→List Value} {k : Nat} {w : World} {base : Nat} {e : TypeId} {g n c : Nat} {d : Array α}
theorem own_holdsK (hk : ∀ x,(enc x).length = k) (hpos : 0 < k) (h : Own w base e k (some ⟨g,0,none⟩) n c (d.toList.map enc)) : HoldsK enc k w g 0 d:=by
 intro j hj
 rw [size_flatK] at hj
 have hq : j / k < d.size:=(Nat.div_lt_iff_lt_mul hpos).2 hj
 have hr : j % k < (enc d[j / k]!).length:=by rw [hk];exact Nat.mod_lt _ hpos
 refine ⟨?_,?_⟩
 ·rw [id,get_flatK enc k d j hj]
  have h1:=h.cell (k:=j / k) (j:=j % k) (x:=enc d[j / k]!) (u:=(enc d[j / k]!)[j % k]!) (by rw [List.getElem?_map];simp [hq]) (by rw [List.getElem?_eq_getElem hr,getElem!_pos (enc d[j / k]!) (j % k) hr])
  rw [show 0+j = j / k*k+j % k by rw [Nat.zero_add,Nat.div_add_mod']]
  exact h1
 ·exact h.frozen _
theorem flat_take (hk : ∀ x,(enc x).length = k) (hpos : 0 < k) {d' : Array α} {cur : Array Value} (hc : d'.size*k≤cur.size) :
  ((putCells id 0 (flatK enc k d') cur).toList.take (d'.size*k)) = (d'.toList.map enc).flatten:=by
 apply List.ext_getElem?
 intro t
 have hall : ∀ x ∈ d'.toList.map enc,x.length = k:=fun x hx=>by obtain ⟨y,_,rfl⟩:=List.mem_map.1 hx;exact hk y
 by_cases ht : t < d'.size*k
 ·have hq : t / k < d'.size:=(Nat.div_lt_iff_lt_mul hpos).2 ht
  have hr : t % k < (enc d'[t / k]!).length:=by rw [hk];exact Nat.mod_lt _ hpos
  have h1:=flatten_get hall (k:=t / k) (j:=t % k) (x:=enc d'[t / k]!) (u:=(enc d'[t / k]!)[t % k]!) (by rw [List.getElem?_map];simp [hq]) (by rw [List.getElem?_eq_getElem hr,getElem!_pos (enc d'[t / k]!) (t % k) hr])
  rw [Nat.div_add_mod'] at h1
  rw [h1,List.getElem?_take,if_pos ht,Array.getElem?_toList,putCells,Array.getElem?_mapIdx,Array.getElem?_eq_getElem (by omega)]
  have h2:=get_flatK enc k d' t ht
  simp only [Option.map_some,Nat.zero_le,true_and,Nat.zero_add,size_flatK,ht,if_true,id,Nat.sub_zero]
  rw [h2]
 ·rw [List.getElem?_take,if_neg ht,List.getElem?_eq_none]
  rw [flatten_len hall];simp;omega
theorem own_sorted (hk : ∀ x,(enc x).length = k) (hpos : 0 < k) (h : Own w base e k (some ⟨g,0,none⟩) n c (d.toList.map enc)) {d' : Array α} (hs : d'.size = d.size) (m : Nat) (os : Array Obj) :
  Own (sortWorldK enc k w g 0 m d' os) base e k (some ⟨g,0,none⟩) n c (d'.toList.map enc)∧w.grownBy (sortWorldK enc k w g 0 m d' os) (some g):=by
 have hn : d.size = n:=by have:=h.1;simpa using this
 rcases h.2.2.2 with ⟨h0,_⟩ | ⟨g',cap,cur,hv,hb,hh,h1,h2,h3,h4⟩
 ·cases h0
 ·injection hv with hA _ hc
  injection hA with hA
  injection hA with hA
  subst hA;subst hc
  have hlt : g < w.heap.size:=(Array.getElem?_eq_some_iff.1 hh).1
  refine ⟨⟨by simp [hs,hn],fun x hx=>by obtain ⟨y,_,rfl⟩:=List.mem_map.1 hx;exact hk y,?_,.inr ⟨g,c,putCells id 0 (flatK enc k d') cur,rfl,hb,?_,h1,h2,?_,?_⟩⟩,?_⟩
  ·rw [flatten_len (s:=k) (fun x hx=>by obtain ⟨y,_,rfl⟩:=List.mem_map.1 hx;exact hk y)];simp [hs,hn]
  ·show (grow _ os).heap[g]? = _
   rw [heap_grow_old _ _ (by simp [putRowK,putRow,mapBlock];exact hlt)]
   simp only [putRowK,putRow,mapBlock,Array.getElem?_modify,if_true]
   rw [show (Go.Sort.ahead w m).heap = w.heap from rfl,hh];rfl
  ·simp [putCells,h3]
  ·have:=flat_take (d':=d') (cur:=cur) hk hpos (by rw [h3,hs,hn];exact Nat.mul_le_mul_right k h1)
   rw [hs,hn] at this
   exact this
  ·refine ⟨rfl,rfl,rfl,by simp [sortWorldK,putRowK,putRow,mapBlock],fun i hi hne=>?_⟩
   show (grow _ os).heap[i]? = _
   rw [heap_grow_old _ _ (by simp [putRowK,putRow,mapBlock];exact hi)]
   simp only [putRowK,putRow,mapBlock,Array.getElem?_modify]
   rw [if_neg (fun e=>hne (by rw [e]))];rfl
end
end
section
def runesGo (s : ByteArray) : Nat→Nat→List (Nat × Nat × Nat)
 | 0,_=>[]
 | f+1,a=>if a < s.size then ((Utf8.decode s a).1,a,a+(Utf8.decode s a).2) :: runesGo s f (a+(Utf8.decode s a).2) else []
def runesP (s : ByteArray) : List (Nat × Nat × Nat):=runesGo s s.size 0
theorem runesGo_end {s : ByteArray} {f a : Nat} (h : s.size≤a) : runesGo s f a = []:=by
 cases f with
 | zero=>rfl
 | succ f=>rw [runesGo,if_neg (by omega)]
theorem runesGo_step {s : ByteArray} {f a : Nat} (h : a < s.size) (hf : s.size≤a+f) : ∃ g,f = g+1∧runesGo s f a = ((Utf8.decode s a).1,a,a+(Utf8.decode s a).2) :: runesGo s g (a+(Utf8.decode s a).2):=by
 obtain ⟨g,rfl⟩ : ∃ g,f = g+1:=⟨f - 1,by omega⟩
 exact ⟨g,rfl,by rw [runesGo,if_pos h]⟩
theorem runesGo_bd {s : ByteArray} : ∀ (f a : Nat),∀ x ∈ runesGo s f a,a≤x.2.1∧x.2.1 < x.2.2∧x.2.2≤s.size∧x.2.2≤x.2.1+4∧x.1≤1114111
 | 0,a,x,h=>by simp [runesGo] at h
 | f+1,a,x,h=>by
  rw [runesGo] at h
  split at h
  ·rename_i hlt
   have hd:=dec_bd s a hlt
   rcases List.mem_cons.1 h with rfl | h
   ·simp only;omega
   ·have:=runesGo_bd f _ x h;omega
  ·simp at h
theorem runesP_bd {s : ByteArray} : ∀ x ∈ runesP s,x.2.1 < x.2.2∧x.2.2≤s.size∧x.2.2≤x.2.1+4∧x.1≤1114111:=fun x h=>(runesGo_bd _ _ x h).2
theorem runesGo_len {s : ByteArray} : ∀ (f a : Nat),a+(runesGo s f a).length≤max a s.size
 | 0,a=>by simp [runesGo];omega
 | f+1,a=>by
  rw [runesGo]
  split
  ·rename_i hlt
   have hd:=dec_bd s a hlt
   have:=runesGo_len (s:=s) f (a+(Utf8.decode s a).2)
   simp only [List.length_cons];omega
  ·simp;omega
theorem runesP_len (s : ByteArray) : (runesP s).length≤s.size:=by have:=runesGo_len (s:=s) s.size 0;unfold runesP;omega
end
section
theorem indexByte_at {c : UInt8} (r : List UInt8) : ∀ (a : List UInt8),c ∉ a→Lib.indexByte (a++c :: r) c = a.length
 | [],_=>by rw [List.nil_append,Lib.indexByte,if_pos (by simp)];rfl
 | b :: a,h=>by
  have ih:=indexByte_at r a (fun hm=>h (List.mem_cons_of_mem _ hm))
  have hb : ¬ (b == c) = true:=fun e=>h (by rw [beq_iff_eq.1 e];exact List.mem_cons_self)
  rw [List.cons_append,Lib.indexByte,ih,if_neg hb,if_neg (by simp)]
  simp
theorem splitL_no : ∀ {x : List UInt8},(∀ c ∈ x,c ≠ 10)→splitL x = [x]
 | [],_=>rfl
 | c :: x,h=>by
  show (if c = 10 then _ else _) = _
  rw [if_neg (h c (by simp)),splitL_no (fun d hd=>h d (by simp [hd]))]
theorem splitK_lines : ∀ (k : Nat) (s : List UInt8),s.count 10 = k→Lib.splitK [10] 0 k s = splitL s
 | 0,s,h=>by
  rw [splitL_no (fun c hc e=>by subst e;exact absurd hc (List.count_eq_zero.1 h))];rfl
 | k+1,s,h=>by
  have hm : (10 : UInt8) ∈ s:=List.count_pos_iff.1 (by omega)
  obtain ⟨a,r,rfl,ha⟩:=List.eq_append_cons_of_mem hm
  have hi : Lib.index (a++10 :: r) [10] = a.length:=by rw [Lib.index_one];exact indexByte_at r a ha
  have hr : r.count 10 = k:=by
   rw [List.count_append,List.count_eq_zero.2 ha,List.count_cons_self] at h;omega
  rw [Lib.splitK,hi,if_neg (by simp),splitL_line (fun c hc e=>ha (e ▸ hc))]
  congr 1
  ·simp
  ·rw [← splitK_lines k r hr]
   congr 1
   show List.drop ((a.length : Int).toNat+1) _ = r
   rw [Int.toNat_natCast,← List.drop_drop,List.drop_left];rfl
theorem split_lines (s : ByteArray) : (Lib.splitB (bytesOf [10]) 0 (Lib.countB s (bytesOf [10])) s).map (·.data.toList) = splitL s.data.toList:=by
 rw [Lib.splitB_data,bytesOf_list]
 refine splitK_lines _ _ ?_
 show _ = Lib.count s.data.toList (bytesOf [10]).data.toList
 rw [bytesOf_list,Lib.count_one]
theorem spcL_no : ∀ {x : List UInt8},(9 : UInt8) ∉ x→spcL x = x
 | [],_=>rfl
 | c :: x,h=>by
  show (if c = 9 then 32 else c) :: spcL x = _
  rw [if_neg (fun e=>h (by simp [e])),spcL_no (fun hm=>h (by simp [hm]))]
theorem replaceK_spc : ∀ (k : Nat) (s : List UInt8),s.count 9 = k→Lib.replaceK [9] [32] k s = spcL s
 | 0,s,h=>by rw [spcL_no (List.count_eq_zero.1 h)];rfl
 | k+1,s,h=>by
  have hm : (9 : UInt8) ∈ s:=List.count_pos_iff.1 (by omega)
  obtain ⟨a,r,rfl,ha⟩:=List.eq_append_cons_of_mem hm
  have hi : Lib.index (a++9 :: r) [9] = a.length:=by rw [Lib.index_one];exact indexByte_at r a ha
  have hr : r.count 9 = k:=by
   rw [List.count_append,List.count_eq_zero.2 ha,List.count_cons_self] at h;omega
  rw [Lib.replaceK_hit _ _ _ _ _ hi]
  have e : (a++9 :: r).drop (a.length+[(9 : UInt8)].length) = r:=by
   show List.drop (a.length+1) _ = r
   rw [← List.drop_drop,List.drop_left];rfl
  rw [e,replaceK_spc k r hr,List.take_left]
  unfold spcL
  rw [List.map_append,List.map_cons,if_pos rfl]
  have : a.map (fun c=>if c = 9 then (32 : UInt8) else c) = a:=spcL_no ha
  rw [this];simp
theorem replace_spc (s : List UInt8) : Lib.replaceAll s [9] [32] = spcL s:=by
 unfold Lib.replaceAll Lib.replace
 rw [if_neg (by decide)]
 refine replaceK_spc _ _ ?_
 unfold Lib.replaceNum
 rw [if_pos (.inl (by decide)),Lib.count_one]
theorem splitL_ne : ∀ (s : List UInt8),splitL s ≠ []
 | []=>by simp [splitL]
 | c :: r=>by
  unfold splitL
  split
  ·simp
  ·split <;> simp
theorem splitL_count : ∀ (s : List UInt8),(splitL s).length = s.count 10+1
 | []=>rfl
 | c :: r=>by
  have ih:=splitL_count r
  unfold splitL
  split
  ·rename_i h;subst h;rw [List.length_cons,ih,List.count_cons_self]
  ·rename_i h
   rw [List.count_cons_of_ne h]
   cases hs : splitL r with
   | nil=>exact absurd hs (splitL_ne r)
   | cons x t=>rw [hs] at ih;simpa using ih
end
section
open Go.RowKit
def TabB (w : World) : Prop:=w.cell? ⟨7,15,none⟩ = some (.int .u8 4)
end
section
open Go.ChangeShapes Go.WideShapes Go.ChangeAt Go.RowKit
section
variable {H : Type} {enc : TypeId × Value→H} {P : Program}
theorem trodAll_stays {W W' : World} {sp' : Nat→Bool} (hl : laidOutB P = true) : ∀ {ts : List TypeId} {vs : List Value} {ds : List (DataW H)} {ps : List MemPlace},(∀ t ∈ ts,P.readableRec t = true∧t < P.types.size) →
  DataW.TrodAll enc P W 0 (fun _=>true) true ts vs ds ps→(∀ p ∈ ps,W.sameAt W' p)→(∀ p ∈ ps,sp' p.block = true)→DataW.TrodAll enc P W' 0 sp' true ts vs ds ps
 | [],vs,ds,ps,_,h,_,_=>by
  obtain ⟨rfl,rfl,rfl⟩:=trodAll_nil h
  exact trodAll_mk0
 | t :: ts,vs,ds,ps,ht,h,h1,h2=>by
  obtain ⟨v,vs',d,ds',p,q,rfl,rfl,rfl,h0,hr⟩:=trodAll_cons h
  exact trodAll_cons_mk (WideElems.Trod_stays hl (ht t (by simp)).1 (ht t (by simp)).2 h0 (fun x hx=>h1 x (by simp [hx])) (fun x hx=>h2 x (by simp [hx])))
   (trodAll_stays hl (fun u hu=>ht u (by simp [hu])) hr (fun x hx=>h1 x (by simp [hx])) (fun x hx=>h2 x (by simp [hx])))
theorem post_law {f : Func} {s : ChangeSpec} {apart fresh handsOn again : Bool} {W W' : World} {args : Array Value} {ds gs : List (DataW H)} {before : List MemPlace} {tb : TypeId}
  (hl : laidOutB P = true) (hps : (f.params.toList.all fun t=>P.readableRec t && decide (t < P.types.size)) = true) (hres : f.resultTypes = #[tb]) (htb : P.underlying tb = some .bool) (hv : s.vars = [])
  (hfn : ∀ (gs' : List (DataW H)),gs' = []→s.fn H (ds++gs') = { results:=[.lit (.bool true)],args:=ds })
  (hW : DataW.Whole enc P f.params.toList s.vars apart W args.toList ds gs before) (hb : Below W.heap.size W W') :
  s.post enc P f apart fresh handsOn again W args (.bool true) W':=by
 have hlt : ∀ p ∈ before,p.block < W.heap.size:=fun p hp=>hW.lt p hp
 have hW':=hW
 obtain ⟨p,q,hA,hV,rfl,hfz,hnd⟩:=hW'
 have hA' : DataW.TrodAll enc P W 0 (fun _=>true) true f.params.toList args.toList ds p:=hA
 rw [hv] at hV
 obtain ⟨rfl,rfl⟩:=trodVars_none hV
 have hpr : ∀ t ∈ f.params.toList,P.readableRec t = true∧t < P.types.size:=fun t ht=>by
  have:=List.all_eq_true.1 hps t ht
  simpa using this
 have hres' : ∀ (b : Nat) (sp : Nat→Bool) (hd : Bool),DataW.TrodAll enc P W' b sp hd f.resultTypes.toList ((Value.bool true).resultList f.resultTypes.size) (s.fn H (ds++[])).results []:=fun b sp hd=>by
  rw [hres,hfn [] rfl]
  exact trodAll_cons_mk (shut_bool htb _) trodAll_mk0
 have hargs : ∀ sp : Nat→Bool,(∀ x ∈ p++[],sp x.block = true)→DataW.TrodAll enc P W' 0 sp true f.params.toList args.toList (s.fn H (ds++[])).args p:=fun sp hsp=>by
  rw [hfn [] rfl]
  exact trodAll_stays hl hpr hA' (fun x hx=>hb.same (hlt x (by simp [hx]))) (fun x hx=>hsp x (by simp [hx]))
 have hvars : ∀ sp : Nat→Bool,DataW.TrodVars enc P W' sp s.vars (s.fn H (ds++[])).vars []:=fun sp=>by
  rw [hv,hfn [] rfl]
  exact rfl
 have hold : ∀ x ∈ p++[],(fun b=>decide (b < W.heap.size)) x.block = true:=fun x hx=>by simpa using hlt x hx
 refine ⟨ds,[],p++[],[],p,[],hW,hres' _ _ _,hargs _ hold,hvars _,World.keptBut_mono (fun x hx=>⟨hx,?_⟩) (hb.frame (· ∈ p++[])),fun _=>?_⟩
 ·simpa using hx
 ·refine ⟨?_,_,_,([]++p)++[],⟨[]++p,[],trodAll_append (hargs _ (fun _ _=>rfl)) (hres' _ _ _),hvars _,rfl,?_,?_⟩,?_⟩
  ·exact ok_one hres rfl (okWide_bool_mk htb _)
  ·intro b off hp
   have hin : MemPlace.cell b off ∈ p++[]:=by simpa using hp
   rw [hb.frozen (hlt _ hin)]
   exact hfz b off hin
  ·intro ha
   simpa using hnd ha
  ·intro x hx _
   simpa using hx
end
end
end Go.Proofs.YtlfpdpbbkjnapaaGreatDoor
