/-
 Several texts in one,in their build order: AppIn,RngC,Ge,Each,Kt,We,PlcM,PlcN,WorP,Ga,Ka,Kb,Rgn,Last,Rgq,PlcK0,WorQ,WorR,WorT,Wl,HexR,PrintS,RefY,Bld,RefZ,PtA,PtB,PtC,PtD,PtE,PtF,PtG,PrsC,PrsD,VP,Grow,Upper,Repeat,Spell,Join,Print,Wi,Wj,Vb,Qt,Vd,Vf,PrK,PrL,Qd,Vi.
-/
import Derived.OwnWalkIn
import Derived.RangeFuncBound
import Derived.RangeFuncKeeps
import Derived.Deep.DeepMust
import Derived.Maps.OwnRows
import Derived.Maps.OwnIn
import Derived.Maps.Views
import Derived.Deep.CutRange
import Derived.Deep.RegionHeld3
import Derived.CallsIn
import Derived.OrdersIn
import Derived.RangeFuncCalls
import Derived.Deep.QuietTactic
import Derived.BigQuiet
import Derived.Deep.LoopGhost
import Derived.Lib.AppendStr
import Derived.Lib.BufferRead
import Derived.Lib.UnsafeStr
import Derived.Shelf.Strings.BuilderK
import Derived.Lib.OthersKept
import Derived.RangeFuncOwn
import Derived.Laws.Bits64b
import Derived.Laws.ShiftsVarLaws
import Derived.WalkSmall
import Derived.RegionTactic
import Derived.BigRegion
import Derived.OwnWalk
import Derived.Deep.RegionLaw
import Derived.Lib.Builder
import Derived.Lib.FrozenHead2
import Derived.Test.YtlfpdpbbkjnapaaGreatDoorP0a
import Derived.Test.YtlfpdpbbkjnapaaGreatDoorYPlacesTells0a
import Derived.Test.YtlfpdpbbkjnapaaGreatDoorPWc
import Derived.Test.YtlfpdpbbkjnapaaGreatDoorPRefU
import Derived.Test.YtlfpdpbbkjnapaaGreatDoorP6a
import Derived.Test.YtlfpdpbbkjnapaaGreatDoorP1a
import Derived.Test.YtlfpdpbbkjnapaaGreatDoorPShelf
import Derived.Test.YtlfpdpbbkjnapaaGreatDoorP2a
import Derived.Test.YtlfpdpbbkjnapaaGreatDoorPWa
/- -/
namespace Go.Proofs.YtlfpdpbbkjnapaaGreatDoor
set_option maxRecDepth 100000
set_option maxHeartbeats 40000000
section
open Go.RowKit
section
variable {P : Program}
theorem run_app {w : World} (t ty : TypeId)
  (base : Nat) (e : TypeId) (i : TypeInfo) (z : Value) (size bytes : Nat) (ht : P.underlying t = some (.slice e)) (hi : P.info? e = some i) (hz : i.zero = some z)
  (hsize : i.size = size) (hby : i.bytes = bytes) (hzs : z.cells.size = size) (hsz : 0 < size)
  (A : Option Addr) (n c : Nat) (cs : List (List Value)) (hown : Own w base e size A n c cs)
  (A2 : Option Addr) (m c2 : Nat) (xs : List (List Value)) (hm : xs.length = m) (hr : Rd w size A2 xs) (h1 : ∀ y ∈ xs,y.length = size∧∀ u ∈ y,u.oneCell' = true)
  (h63 : n+m≤maxLen) (hbytes : (n+m)*bytes≤140737488355328) (hbase : base≤w.heap.size) :
  ∃ A' c' w',(Builtin.append_ #[t,t] ty #[.slice A n c,.slice A2 m c2]).run P w = .ok (.slice A' (n+m) c') w'∧Own w' base e size A' (n+m) c' (cs++xs)∧w.grownBy w' (A.map (·.block))∧(A' = A∨A' = some ⟨w.heap.size,0,none⟩):=by
 have hxl : ∀ y ∈ xs,y.length = size:=fun y hy=>(h1 y hy).1
 have hall : ∀ y ∈ cs++xs,y.length = size:=fun y hy=>by
  rcases List.mem_append.1 hy with hy | hy
  ·exact hown.2.1 y hy
  ·exact hxl y hy
 have hob : (Value.slice A n c).ownBlock = A.map (·.block):=by cases A <;> rfl
 have key : ∃ v' w',(Builtin.append_ #[t,t] ty #[.slice A n c,.slice A2 m c2]).run P w = .ok v' w'∧w'.ownsRow base e size v' (n+m) (cs.flatten++xs.flatten)∧w.grownBy w' (Value.slice A n c).ownBlock ∧
   (v'.ownBlock = (Value.slice A n c).ownBlock∨v'.ownBlock = some w.heap.size):=by
  cases A2 with
  | none =>
   have hnil : xs = []:=Classical.byContradiction fun hne=>by obtain ⟨b,off,hb,_⟩:=hr hne;cases hb
   subst hnil
   subst hm
   refine ⟨.slice A n c,w,?_,by simpa using hown.2.2,World.grownBy.refl w _,.inl rfl⟩
   rcases hown.2.2.2 with ⟨h0,rfl⟩ | ⟨g,cap,cur,h0,_,_,hnc,_⟩
   ·rw [h0];simp [Builtin.append_,run_underlying ht,sizeOf,typeInfo,hi,Builtin.lenOf,Builtin.firstCells]
   ·injection h0 with hA _ hc
    subst hA;subst hc
    simp [Builtin.append_,run_underlying ht,sizeOf,typeInfo,hi,Builtin.lenOf,Builtin.firstCells,hnc,storeCells]
  | some ad =>
   have hcells : ∀ j u,xs.flatten[j]? = some u→w.cell? (ad.add j) = some u:=by
    intro j u hu
    obtain ⟨k,r,y,rfl,h2,h3⟩:=flatten_at hxl hu
    have hne : xs ≠ []:=fun e=>by subst e;simp at h2
    obtain ⟨b,off,hb,hc⟩:=hr hne
    injection hb with hb
    subst hb
    have:=hc k r y u h2 h3
    unfold Addr.add
    split
    ·rename_i h0;rw [show off+k*size+r = off by omega] at this;exact this
    ·simpa [Nat.add_assoc] using this
   obtain ⟨v',w',hrun,h2,h3,_,h5⟩:=run_append_own_at (P:=P) w base t ty e i z size bytes ht hi hz hsize hby hzs hsz (.slice A n c) n cs.flatten hown.2.2 ad m c2 xs.flatten
    (by rw [flatten_len hxl,hm]) hcells (fun u hu=>by obtain ⟨y,hy,hu⟩:=List.mem_flatten.1 hu;exact (h1 y hy).2 u hu) h63 hbytes hbase
   exact ⟨v',w',hrun,h2,h3,h5⟩
 obtain ⟨v',w',hrun,h2,h3,h4⟩:=key
 rw [hob] at h3 h4
 have hv : ∃ A' c',v' = .slice A' (n+m) c'∧(A' = A∨A' = some ⟨w.heap.size,0,none⟩):=by
  rcases h2.2 with ⟨rfl,h0⟩ | ⟨g,cap,cur,rfl,_⟩
  ·refine ⟨none,0,by rw [h0],.inl ?_⟩
   rcases hown.2.2.2 with ⟨h9,_⟩ | ⟨g',cap',cur',h9,_⟩
   ·injection h9 with h9;exact h9.symm
   ·injection h9 with h9
    rcases h4 with h4 | h4 <;> simp [Value.ownBlock,h9] at h4
  ·refine ⟨_,_,rfl,?_⟩
   rcases h4 with h4 | h4
   ·left
    rcases hown.2.2.2 with ⟨h9,_⟩ | ⟨g',cap',cur',h9,_⟩
    ·injection h9 with h9;subst h9;simp [Value.ownBlock] at h4
    ·injection h9 with h9;subst h9;simp [Value.ownBlock] at h4;rw [h4]
   ·right;simp [Value.ownBlock] at h4;rw [h4]
 obtain ⟨A',c',rfl,hA'⟩:=hv
 exact ⟨A',c',w',hrun,⟨by rw [List.length_append,hown.1,hm],hall,by rw [List.flatten_append];exact h2⟩,h3,hA'⟩
theorem wpListIn_app {F : Fence} {nF : Nat} {ops : Array Oper} {rest : List Oper} {o : Oper} {a : Act} {w : World} {Q : Exit→Act→World→Prop} (hgd : o.guard = none) (s x : Operand) (t : TypeId)
  (ho : o.op = .call { callee:=.builtin .append,args:=#[s,x],argTypes:=#[t,t] })
  (base : Nat) (e : TypeId) (i : TypeInfo) (z : Value) (size bytes : Nat) (ht : P.underlying t = some (.slice e)) (hi : P.info? e = some i) (hz : i.zero = some z)
  (hsize : i.size = size) (hby : i.bytes = bytes) (hzs : z.cells.size = size) (hsz : 0 < size)
  (A : Option Addr) (n c : Nat) (cs : List (List Value)) (hs : a.eval s = .slice A n c) (hown : Own w base e size A n c cs)
  (A2 : Option Addr) (m c2 : Nat) (xs : List (List Value)) (hx : a.eval x = .slice A2 m c2) (hm : xs.length = m) (hr : Rd w size A2 xs) (h1 : ∀ y ∈ xs,y.length = size∧∀ u ∈ y,u.oneCell' = true)
  (h63 : n+m≤maxLen) (hbytes : (n+m)*bytes≤140737488355328) (hbase : base≤w.heap.size)
  (h : ∀ A' c' w',Own w' base e size A' (n+m) c' (cs++xs)→w.grownBy w' (A.map (·.block))→(A' = A∨A' = some ⟨w.heap.size,0,none⟩)→wpListIn F nF P ops Q rest (a.put o.dst (.slice A' (n+m) c')) w') : wpListIn F nF P ops Q (o :: rest) a w:=by
 refine wpListIn_plain hgd fun K hK'=>?_
 obtain ⟨A',c',w',hrun,r1,r2,r3⟩:=run_app (P:=P) t o.type base e i z size bytes ht hi hz hsize hby hzs hsz A n c cs hown A2 m c2 xs hm hr h1 h63 hbytes hbase
 unfold Oper.wpIn
 refine ⟨?_,?_⟩
 ·simp [Oper.about,ho,resolve,Target.leads,Sem.run_pure]
 ·rw [Oper.semAt_plain F _ _ (by rw [ho];intro c hc';cases hc')]
  simp [execOp,ho,resolve,invoke,builtin,hs,hx,hrun,Result.andThen]
  exact hK' _ _ (h A' c' w' r1 r2 r3)
end
end
section
open Go.RowKit
section
variable {P : Program} {F : Fence} {n : Nat} {α : Type}
variable {encs : α→Array Value} {Kp : World→World→Prop} {I : List α→World→Prop} {Ix : Code→List α→World→Prop} {ps : Array Tmp} {assign body : Code}
variable {g : Operand} {Q : Exit→Act→World→Prop} {a : Act} {w : World}
end
end
section
open Go.RowKit Go.Shelf
attribute [local go_sem] Oper.semAt_some
theorem Own.kept1 {w w' : World} {base : Nat} {e : TypeId} {s : Nat} {A : Option Addr} {n c : Nat} {cs : List (List Value)} {row : Option Nat} (h : Own w base e s A n c cs) (hg : w.grownBy w' row) (hr : ∀ r,row = some r→∃ o : Obj,w.heap[r]? = some o∧o.isCells = false) : Own w' base e s A n c cs:=by
 refine h.keep fun a ha=>?_
 have hl:=(h.lt a ha).2
 refine hg.block _ hl fun e=>?_
 obtain ⟨o,h1,h2⟩:=hr _ e.symm
 rcases h.2.2.2 with ⟨h0,_⟩ | ⟨g,cap,cur,hv,_,hh,_⟩
 ·injection h0 with h0;rw [ha] at h0;cases h0
 ·injection hv with hv
  rw [ha] at hv
  injection hv with hv
  subst hv
  rw [hh] at h1
  cases h1
  cases h2
def Gat (w0 : World) (ab : Nat) (vt e : TypeId) (cs : List (List Value)) (W : World) : Prop :=
 ∃ A n c,Blk W ab vt #[.slice A n c]∧Own W w0.heap.size e 1 A n c cs∧w0.grownBy W (some ab)
theorem Gat.own {α : Type} {w0 : World} {ab B : Nat} {vt e : TypeId} {f : List α→List (List Value)} (hB : w0.heap.size≤B) : OwnFrom B (fun (pre : List α) W=>Gat w0 ab vt e (f pre) W):=fun pre X Y row hs hg hr=>by
 obtain ⟨A,n,c,h1,h2,h3⟩:=hs
 refine ⟨A,n,c,h1.kept hg (fun r e=>(hr r e).2),h2.kept1 hg (fun r e=>(hr r e).2),⟨hg.os.trans h3.os,hg.tape.trans h3.tape,hg.output.trans h3.output,Nat.le_trans h3.size hg.size,fun k hk hne=>?_⟩⟩
 refine (hg.block k (Nat.lt_of_lt_of_le hk h3.size) (fun e=>?_)).trans (h3.block k hk hne)
 have:=(hr k e.symm).1
 omega
theorem Gat.step {w0 W V : World} {ab : Nat} {vt e : TypeId} {A A3 : Option Addr} {n c n3 c3 : Nat} {cs cs3 : List (List Value)} (hab : ab < w0.heap.size) (hB : Blk W ab vt #[.slice A n c]) (ho : Own W w0.heap.size e 1 A n c cs) (hg : w0.grownBy W (some ab))
  (hV : W.grownBy V (A.map (·.block))) (ho3 : Own V w0.heap.size e 1 A3 n3 c3 cs3) :
  KeepsFrom w0.heap.size W (V.setCell ⟨ab,0,none⟩ (.slice A3 n3 c3))∧KeepsWalks W (V.setCell ⟨ab,0,none⟩ (.slice A3 n3 c3))∧Gat w0 ab vt e cs3 (V.setCell ⟨ab,0,none⟩ (.slice A3 n3 c3)):=by
 have hzW:=hg.size
 have hA:=ho.lt
 have hrow : ∀ (j : Nat) (o : Obj),A.map (·.block) = some j→W.heap[j]? = some o→o.isCells = true:=fun j o hj hoo=>by
  cases A with
  | none=>simp at hj
  | some q =>
   simp at hj;subst hj
   rcases ho.2.2.2 with ⟨h0,_⟩ | ⟨g,cap,cur,hv,_,hh,_⟩
   ·injection h0 with h0;cases h0
   ·injection hv with hv
    injection hv with hv
    subst hv
    rw [hh] at hoo
    cases hoo;rfl
 have hkk:=(KeepsOthers.of_grownBy hV hrow).trans (KeepsOthers.setCell V ⟨ab,0,none⟩ (.slice A3 n3 c3))
 have hge : ∀ q,A.map (·.block) = some q→w0.heap.size≤q:=fun q hq=>by
  cases A with
  | none=>simp at hq
  | some z=>have:=(hA z rfl).1;simp at hq;omega
 have hblk : ∀ k,k < w0.heap.size→V.heap[k]? = W.heap[k]?:=fun k hk=>hV.block k (by omega) (fun e=>by have:=hge k e.symm;omega)
 have hz3 : W.heap.size≤V.heap.size:=hV.size
 have hB3 : Blk V ab vt #[.slice A n c]:=(hblk ab hab).trans hB
 refine ⟨hkk.from _,hkk.walks,A3,n3,c3,hB3.set_ 0 _,ho3.keep (fun q hq=>Below.heap_setCell V ⟨ab,0,none⟩ _ _ (by have:=(ho3.lt q hq).1;simp only;omega)),?_⟩
 refine ⟨hV.os.trans hg.os,hV.tape.trans hg.tape,hV.output.trans hg.output,by simpa [World.setCell] using Nat.le_trans hzW hz3,fun k hk hne=>?_⟩
 exact (Below.heap_setCell V ⟨ab,0,none⟩ _ k (fun e=>hne (by rw [e]))).trans ((hblk k hk).trans (hg.block k hk hne))
end
section
open Go.RowKit Go.Shelf
attribute [local go_sem] Oper.semAt_some
end
section
open Go Go.RowKit
theorem Rd.atQ {w : World} {A : Option Addr} {l : List Nat} {k x : Nat} (h : Rd w 1 A (l.map fun a=>[.int .i64 (a : Nat)])) (hk : l[k]? = some x) : ∃ b off,A = some ⟨b,off,none⟩∧w.cell? ⟨b,off+k,none⟩ = some (.int .i64 (x : Nat)):=by
 obtain ⟨b,off,rfl,hc⟩:=h (by intro e;have:=congrArg List.length e;rw [List.length_map] at this;have h2:=(List.getElem?_eq_some_iff.1 hk).1;simp at this;rw [this] at h2;simp at h2)
 have h0:=hc k 0 [.int .i64 (x : Nat)] (.int .i64 (x : Nat)) (by simp [hk]) rfl
 refine ⟨b,off,rfl,?_⟩
 simpa using h0
theorem Rd.manyQ (W : World) (t : TypeId) (s : Nat) (cs : List (List Value)) (arr : Array Value) (harr : arr = cs.flatten.toArray) (h : ∀ x ∈ cs,x.length = s) : Rd (W.alloc (.cells arr t)) s (some ⟨W.heap.size,0,none⟩) cs:=fun _ =>
 ⟨W.heap.size,0,rfl,fun k j x u hx hu=>by
  subst harr
  rw [(Blk.new W t cs.flatten.toArray).cell (0+k*s+j),zG,Nat.zero_add]
  exact flatten_get h hx hu⟩
section
variable {t : TypeId} {X : Nat→Prop} {A B C : World}
end
end
section
open Go.RowKit Go.Maps
theorem full_small {d : DbP} (h : d.Ok) (ha : Apart d.sets) {k : Nat} {s : List (Int × Int)} (hk : d.full[k]? = some s) : s.length≤1114112:=by
 have h1:=full_lenS h ha
 obtain ⟨hlt,e⟩:=List.getElem?_eq_some_iff.1 hk
 have hd : d.full = d.full.take k++s :: d.full.drop (k+1):=by rw [← e,← List.drop_eq_getElem_cons hlt,List.take_append_drop]
 rw [hd,lenS_append] at h1
 have : lenS (s :: d.full.drop (k+1)) = s.length+lenS (d.full.drop (k+1)):=rfl
 omega
def ofC (d : DbP) (s : ByteArray) : List Nat:=(runesP s).map fun x=>d.get (x.1 : Int)
def encN (x : Nat) : List Value:=[.int .i64 (x : Int)]
theorem encN_ok (l : List Nat) : ∀ y ∈ l.map encN,y.length = 1∧∀ u ∈ y,u.oneCell' = true:=by
 intro y hy;obtain ⟨r,_,rfl⟩:=List.mem_map.1 hy
 exact ⟨rfl,by simp [encN,Value.oneCell']⟩
def OfCAt (d : DbP) (s : ByteArray) (f p : Nat) (o : List Nat) : Prop:=(o++(runesGo s f p).map fun x=>d.get (x.1 : Int)) = ofC d s∧s.size≤p+f∧p≤s.size
theorem ofCAt_first (d : DbP) (s : ByteArray) : OfCAt d s s.size 0 []:=⟨by rw [List.nil_append];rfl,by omega,by omega⟩
theorem ofCAt_add {d : DbP} {s : ByteArray} {f p R W : Nat} {o : List Nat} (h : OfCAt d s f p o) (hp : p < s.size) (hd : Utf8.decode s p = (R,W)) (hw : 1≤W∧p+W≤s.size) : ∃ g,OfCAt d s g (p+W) (o++[d.get (R : Int)]):=by
 obtain ⟨g,rfl,hg⟩:=runesGo_step (s:=s) (f:=f) hp h.2.1
 rw [hd] at hg
 refine ⟨g,?_,by have:=h.2.1;omega,hw.2⟩
 rw [← h.1,hg];simp
theorem ofCAt_end {d : DbP} {s : ByteArray} {f p : Nat} {o : List Nat} (h : OfCAt d s f p o) (hp : ¬ p < s.size) : o = ofC d s:=by
 have:=h.1
 rw [runesGo_end (by omega)] at this
 simpa using this
theorem wOf_any (p : Nat) (d : DbP) (s : ByteArray) (w : World) (h : DbAt w p d) (ho : d.Ok) (ha : Apart d.sets) (hs : s.size≤1000000) :
  Calls Tryz.prog 113 #[.pointer (some ⟨p,0,none⟩),.string s] w fun e w'=>∃ A n c,e = .returned (.slice A n c)∧Own w' w.heap.size 3 1 A n c ((ofC d s).map encN)∧Below w.heap.size w w':=by
 obtain ⟨i0,hi0,hz0,hz1,hz2⟩:=info_parts infoInt
 have HD:=Lib.hid (And.intro h (And.intro ho ha))
 clear h ho ha
 go_enter Tryz.func113,Tryz.ntmps113
 go_wp2
 go_loopw [5] (fun v wr=>∃ (q f : Nat) (A1 : Option Addr) (n1 c1 : Nat) (o : List Nat),v = .slice A1 n1 c1∧wr.heap[w.heap.size]? = some (.stringIter s q)∧Own wr (w.heap.size+1) 3 1 A1 n1 c1 (o.map encN) ∧
   n1≤q∧q≤s.size∧Hid (OfCAt d s f q o)∧Below w.heap.size w wr) (fun _ wr=>s.size - wr.iterPos w.heap.size)
 case atStart=>exact ⟨0,s.size,none,0,0,[],rfl,iter_new _ _ _,Own.nil_ _ _ _ _,by omega,by omega,ofCAt_first d s,below_iter (Below.refl _ _) (Nat.le_refl _) _ _⟩
 case round =>
  obtain ⟨q,f,A1,n1,c1,o,rfl,hit,ho,hn1,hps,HR,hb⟩:=hrel
  have hsz : w.heap.size < wr.heap.size:=(Array.getElem?_eq_some_iff.1 hit).1
  have Hpos:=Lib.hid (iterPos_of hit)
  by_cases hp : q < s.size
  ·obtain ⟨⟨R,W⟩,HDc⟩ : ∃ d,Utf8.decode s q = d:=⟨_,rfl⟩
   have hd:=dec_bd s q hp
   have hnx : ∀ ty,(Instr.next (.pointer (some ⟨w.heap.size,0,none⟩)) true ty).run Tryz.prog wr = _:=fun ty=>Lib.run_next_any_at wr w.heap.size s q ty hit hp
   have hit2:=Lib.iterAt_heap wr w.heap.size s q (q+(Utf8.decode s q).2) hit
   have hb2:=Lib.below_iterAt hb (k:=w.heap.size) (Nat.le_refl _) s (q+(Utf8.decode s q).2)
   have ho2:=ho.iterAt (k:=w.heap.size) (by omega) s (q+(Utf8.decode s q).2)
   have hsz2 : w.heap.size < (wr.iterAt w.heap.size s (q+(Utf8.decode s q).2)).heap.size:=by rw [Lib.iterAt_size];exact hsz
   rw [HDc] at hd hnx hit2 hb2 ho2 hsz2
   simp only at hd hnx hit2 hb2 ho2 hsz2
   obtain ⟨g,HA⟩:=ofCAt_add HR.out hp HDc (by omega)
   have HA:=Lib.hid HA
   clear HR HDc
   generalize wr.iterAt w.heap.size s (q+W) = w2 at hnx hit2 hb2 ho2 hsz2
   have HG:=Lib.hid (wGet_any p d R w2 (HD.out.1.below hb2) HD.out.2.1 HD.out.2.2)
   clear ho hb hit hsz
   go_wp2_with (first | (go_at_call 134;refine HG.out.mono ?_;rintro e w4 ⟨rfl,hb4⟩;have hit4:=(hb4.block _ hsz2).trans hit2;have ho4:=ho2.below hb4;have hbb:=below_step hb2 hb4 hb2.size;have hsz4:=Nat.lt_of_lt_of_le hsz2 hb4.size;clear hit2 ho2 hb2) | (at_builtin;go_must (refine wpList_app rfl (.tmp 15) (.tmp 19) _ rfl (w.heap.size+1) 3 i0 _ 1 8 Tryz.underlying65 hi0 hz0 hz1 hz2 rfl (by omega) A1 n1 c1 (o.map encN) rfl (ho4.alloc _) _ 1 1 [encN (d.get R)] rfl rfl (Rd.newAt (by simp) rfl) (encN_ok [d.get R]) (by unfold maxLen;omega) (by omega) (by simp;omega) ?_);intro A3 c3 w3 ho3 hg3 hA3;have hit3:=hg3.block w.heap.size (by simp;omega) (fun e=>by cases A1 with | none=>simp at e | some a=>have:=(ho4.lt a rfl).1;simp at e;omega);have hb3:=below_app (hbb.alloc (by omega) _) hg3 (by simp;omega) (fun a ha=>by have:=(ho4.lt a ha).1;omega);clear hg3))
   have hit5 : w3.heap[w.heap.size]? = some (.stringIter s (q+W)):=hit3.trans ((Below.heap_alloc _ _ _ hsz4).trans hit4)
   have Ho3 : Own w3 (w.heap.size+1) 3 1 A3 (n1+1) c3 ((o++[d.get (R : Int)]).map encN):=by rw [List.map_append];exact ho3
   clear hit3 ho3
   go_roundw
   case rel=>exact ⟨q+W,g,A3,n1+1,c3,o++[d.get (R : Int)],rfl,hit5,Ho3,by omega,by omega,HA,hb3⟩
   case measure=>rw [iterPos_of hit5,Hpos.out];omega
  ·have hnx : ∀ ty,(Instr.next (.pointer (some ⟨w.heap.size,0,none⟩)) true ty).run Tryz.prog wr = _:=fun ty=>Lib.run_next_end_at wr w.heap.size s q ty hit hp
   have HE:=Lib.hid (ofCAt_end HR.out hp)
   go_wp2
   go_ret
   exact ⟨A1,n1,c1,rfl,by rw [← HE.out];exact ho.more (by omega),hb⟩
end
section
open Go.RowKit
def itemsD : DataW Unit→List Int
 | .slice l _=>l.filterMap fun x=>match x with | .lit (.int _ z)=>some z | _=>none
 | _=>[]
theorem items_lits (l : List Int) : itemsD (.slice (ChangeShapes.lits .i64 l) []) = l:=by
 show List.filterMap _ (l.map fun n=>(DataW.lit (.int .i64 n) : DataW Unit)) = l
 induction l with
 | nil=>rfl
 | cons a l ih =>
  rw [List.map_cons,List.filterMap_cons]
  exact congrArg (a :: ·) ih
theorem items_row {w : World} {base : Nat} {v : Value} {zs : List Int} (h : w.ownsInts base 3 .i64 v zs) : itemsD (rowDatum .i64 v zs) = zs:=by
 rcases h.datum (H:=Unit) with ⟨h1,h2⟩ | h1
 ·rw [h1,h2];rfl
 ·rw [h1];exact items_lits zs
def GrM (w : World) (base b n : Nat) (G : Int→List Int) : Prop :=
 ∃ D : DataW Unit,w.ownsGroups Tryz.prog 3 base 3 .i64 b n D∧∀ k : Int,itemsD (D.atKey (.int .i64 k) .nil) = G k
theorem GrM.lt {w : World} {base b n : Nat} {G : Int→List Int} (h : GrM w base b n G) : b < base∧b < w.heap.size:=by
 obtain ⟨D,⟨es,clock,hb,F,hs,hD,hbb,_,_⟩,_⟩:=h
 exact ⟨hbb,(Array.getElem?_eq_some_iff.1 hb).1⟩
theorem GrM.mono {w : World} {base b n m : Nat} {G : Int→List Int} (h : GrM w base b n G) (hm : n≤m) : GrM w base b m G:=by
 obtain ⟨D,⟨es,clock,hb,F,hs,hD,hbb,hl,hap⟩,hG⟩:=h
 exact ⟨D,⟨es,clock,hb,F,Nat.le_trans hs hm,hD,hbb,fun x hx zs hz=>Nat.le_trans (hl x hx zs hz) hm,hap⟩,hG⟩
theorem GrM.kept {w w' : World} {base b n : Nat} {G : Int→List Int} {row : Option Nat} (h : GrM w base b n G) (hg : w.grownBy w' row) (hb : row ≠ some b) (hr : ∀ r,row = some r→(∃ o : Obj,w.heap[r]? = some o∧o.isCells = false)∨r < base) : GrM w' base b n G:=by
 obtain ⟨D,⟨es,clock,hbk,F,hs,hD,hbb,hl,hap⟩,hG⟩:=h
 have hne : ∀ {v : Value} {zs : List Int},w.ownsInts base 3 .i64 v zs→v.ownBlock = none∨v.ownBlock ≠ row:=fun {v zs} ho=>by
  rcases ho.1.2 with ⟨rfl,_⟩ | ⟨g,cap,cur,rfl,hbg,hh,_⟩
  ·exact .inl rfl
  ·refine .inr fun e=>?_
   rcases hr g e.symm with ⟨o,h1,h2⟩ | h1
   ·rw [hh] at h1;cases h1;cases h2
   ·omega
 have own : ∀ x ∈ es.toList,∃ zs,w.ownsInts base 3 .i64 x.val zs:=fun x hx=>by
  obtain ⟨y,hy⟩:=F.reads x hx
  obtain ⟨z,hz,_⟩:=WideElems.rd_val hy
  obtain ⟨zs,ho,_⟩:=rowElem_inv hz
  exact ⟨zs,ho⟩
 obtain ⟨F1,hmap,_⟩:=F.stay (R':=rowElem (H:=Unit) w' base 3 .i64) (fun x hx z hz=>by
  obtain ⟨zs,ho,rfl⟩:=rowElem_inv hz
  exact rowElem_mk (ho.kept hg (hne ho)))
 refine ⟨D,⟨es,clock,(hg.block b (Array.getElem?_eq_some_iff.1 hbk).1 (Ne.symm hb)).trans hbk,F1,hs,by rw [hmap];exact hD,hbb,fun x hx zs hz=>?_,hap⟩,hG⟩
 obtain ⟨zs0,ho⟩:=own x hx
 rw [hz.unique (ho.kept hg (hne ho))]
 exact hl x hx zs0 ho
theorem GrM.below {w w' : World} {base b n : Nat} {G : Int→List Int} (h : GrM w base b n G) (hb : Below w.heap.size w w') : GrM w' base b n G :=
 h.kept (row:=none) ⟨hb.os,hb.tape,hb.output,hb.size,fun i hi _=>hb.block i hi⟩ (by simp) (fun _ e=>by cases e)
theorem GrM.look {w : World} {base b n : Nat} {G : Int→List Int} (h : GrM w base b n G) {t E : TypeId} (ht : Tryz.prog.underlying t = some (.map 3 E)) (hz : (zeroValue E).run Tryz.prog w = .ok (.slice none 0 0) w) (hn : n < maxLen) {k : Int} (hk : (Lit.int .i64 k).wf = true) :
  ∃ v D,(Instr.lookup t (.map (some b)) (.int .i64 k) false).run Tryz.prog w = .ok v w∧w.ownsInts base 3 .i64 v (G k)∧(G k).length≤n∧(∀ j : Int,itemsD (D.atKey (.int .i64 j) .nil) = G j)∧Maps.IsMap D∧w.groupBack (H:=Unit) Tryz.prog t 3 base 3 .i64 b n D (.int .i64 k) (.int .i64 k) v:=by
 obtain ⟨D,ho,hG⟩:=h
 obtain ⟨v,zs,hrun,hat,hoi,hl,hback⟩:=ho.at (Maps.int_keyed Tryz.underlying3) ht hz hn (Maps.keyOf_int_mk Tryz.underlying3 hk)
 have e : zs = G k:=by rw [← hG k,hat,items_row hoi]
 subst e
 obtain ⟨es,clock,_,_,_,hD,_⟩:=ho
 exact ⟨v,D,hrun,hoi,hl,hG,⟨_,hD⟩,hback⟩
theorem flat_ints (l : List Nat) : (l.map fun (a : Nat)=>(a : Int)).map (Value.int .i64) = (l.map encN).flatten:=by
 induction l with
 | nil=>rfl
 | cons a l ih =>
  rw [List.map_cons,List.map_cons,List.map_cons,List.flatten_cons,ih];rfl
theorem ownsInts_own {w : World} {base : Nat} {v : Value} {l : List Nat} (h : w.ownsInts base 3 .i64 v (l.map fun (a : Nat)=>(a : Int))) : ∃ A c,v = .slice A l.length c∧Own w base 3 1 A l.length c (l.map encN):=by
 have hz:=h.1
 rw [List.length_map] at hz
 rw [flat_ints] at hz
 rcases hz.2 with ⟨rfl,h0⟩ | ⟨g,cap,cur,rfl,_⟩
 ·have : l = []:=List.eq_nil_of_length_eq_zero (by simpa using h0)
  subst this
  exact ⟨none,0,rfl,by simp,by simp,hz⟩
 ·exact ⟨_,_,rfl,by simp,by intro x hx;obtain ⟨a,_,rfl⟩:=List.mem_map.1 hx;rfl,hz⟩
theorem own_ownsInts {w : World} {base : Nat} {A : Option Addr} {n c : Nat} {l : List Nat} (h : Own w base 3 1 A n c (l.map encN)) (hw : ∀ a ∈ l,a≤4294967296) : w.ownsInts base 3 .i64 (.slice A n c) (l.map fun (a : Nat)=>(a : Int)):=by
 have hl:=h.len
 rw [List.length_map] at hl
 refine ⟨?_,fun z hz=>?_⟩
 ·rw [List.length_map,hl]
  rw [flat_ints]
  exact h.2.2
 ·obtain ⟨a,ha,rfl⟩:=List.mem_map.1 hz
  have:=hw a ha
  simp only [Lit.wf,Bool.and_eq_true,IntKind.min,IntKind.max];simp [IntKind.signed,IntKind.bits];omega
theorem grM_put {w2 : World} {base b n : Nat} {G : Int→List Int} {D : DataW Unit} {k : Int} {v : Value} {zs : List Int} (h : w2.ownsGroups Tryz.prog 3 base 3 .i64 b n (D.put (.int .i64 k) (rowDatum .i64 v zs)))
  {w1 : World} (hv : w1.ownsInts base 3 .i64 v zs) (hG : ∀ j : Int,itemsD (D.atKey (.int .i64 j) .nil) = G j) (hD : Maps.IsMap D) : GrM w2 base b n (fun j=>if j = k then zs else G j):=by
 refine ⟨_,h,fun j=>?_⟩
 show itemsD _ = if j = k then zs else G j
 by_cases e : j = k
 ·subst e
  rw [if_pos rfl,Maps.atKey_put_same hD (by trivial),items_row hv]
 ·rw [if_neg e,Maps.atKey_put_other (by intro h;injection h with _ h;exact e h),hG]
end
section
open Go.RowKit
def encLnR (x : Nat × Nat × Nat) (v : Value) : List Value:=[.int .i64 (x.1 : Nat),.int .i64 (x.2.1 : Nat),.int .i64 (x.2.2 : Nat),v]
def LnM (w : World) (A : Option Addr) (L : List (Nat × Nat × Nat)) (lt : Nat × Nat × Nat→List Nat) : Prop :=
 ∃ V : List Value,V.length = L.length∧Rd w 4 A (List.zipWith encLnR L V)∧∀ (k : Nat) (x : Nat × Nat × Nat) (v : Value),L[k]? = some x→V[k]? = some v→∃ B c,v = .slice B (lt x).length c∧Rd w 1 B ((lt x).map encN)
theorem LnM.below {w w' : World} {A : Option Addr} {L : List (Nat × Nat × Nat)} {lt : Nat × Nat × Nat→List Nat} (h : LnM w A L lt) (hb : Below w.heap.size w w') : LnM w' A L lt:=by
 obtain ⟨V,h1,h2,h3⟩:=h
 exact ⟨V,h1,h2.below hb,fun k x v hx hv=>let ⟨B,c,e,hB⟩:=h3 k x v hx hv;⟨B,c,e,hB.below hb⟩⟩
theorem LnM.at_ {w : World} {A : Option Addr} {L : List (Nat × Nat × Nat)} {lt : Nat × Nat × Nat→List Nat} (h : LnM w A L lt) {k : Nat} {x : Nat × Nat × Nat} (hx : L[k]? = some x) :
  ∃ b off B c,A = some ⟨b,off,none⟩∧w.cell? ⟨b,off+k*4,none⟩ = some (.int .i64 (x.1 : Nat))∧w.cell? ⟨b,off+k*4+1,none⟩ = some (.int .i64 (x.2.1 : Nat))∧w.cell? ⟨b,off+k*4+2,none⟩ = some (.int .i64 (x.2.2 : Nat)) ∧
   w.cell? ⟨b,off+k*4+3,none⟩ = some (.slice B (lt x).length c)∧Rd w 1 B ((lt x).map encN):=by
 obtain ⟨V,h1,h2,h3⟩:=h
 have hk:=(List.getElem?_eq_some_iff.1 hx).1
 obtain ⟨v,hv⟩ : ∃ v,V[k]? = some v:=⟨_,List.getElem?_eq_getElem (by omega)⟩
 obtain ⟨B,c,rfl,hB⟩:=h3 k x v hx hv
 have hz : (List.zipWith encLnR L V)[k]? = some (encLnR x (.slice B (lt x).length c)):=by rw [List.getElem?_zipWith,hx,hv]
 obtain ⟨b,off,rfl,hc⟩:=h2 (by intro e;rw [e] at hz;simp at hz)
 exact ⟨b,off,B,c,rfl,by simpa using hc k 0 _ _ hz rfl,hc k 1 _ _ hz rfl,hc k 2 _ _ hz rfl,hc k 3 _ _ hz rfl,hB⟩
def letAbs (s : ByteArray) (x : Nat × Nat × Nat) : List Nat:=(letQ s x).map (x.1+·)
def begZ (s : ByteArray) (k : Int) : List Int:=(begP s k).map fun (a : Nat)=>(a : Int)
def IdxAt (w : World) (p : Nat) (s : ByteArray) : Prop :=
 ∃ (base bm n : Nat) (A : Option Addr) (c : Nat),Blk w p 93 #[.string s,.map (some bm),.slice A (lnP s).length c]∧GrM w base bm n (begZ s)∧n≤100000000∧LnM w A (lnP s) (letAbs s)
theorem IdxAt.below {w w' : World} {p : Nat} {s : ByteArray} (h : IdxAt w p s) (hb : Below w.heap.size w w') : IdxAt w' p s:=by
 obtain ⟨base,bm,n,A,c,h1,h2,h3,h4⟩:=h
 exact ⟨base,bm,n,A,c,h1.below hb,h2.below hb,h3,h4.below hb⟩
theorem IdxAt.things {w : World} {p : Nat} {s : ByteArray} (h : IdxAt w p s) {t E : TypeId} (ht : Tryz.prog.underlying t = some (.map 3 E)) (hz : (zeroValue E).run Tryz.prog w = .ok (.slice none 0 0) w) {k : Int} (hk : (Lit.int .i64 k).wf = true) :
  ∃ bm B c,w.cell? ⟨p,1,none⟩ = some (.map (some bm))∧(Instr.lookup t (.map (some bm)) (.int .i64 k) false).run Tryz.prog w = .ok (.slice B (begP s k).length c) w∧Rd w 1 B ((begP s k).map encN):=by
 obtain ⟨base,bm,n,A,c,h1,h2,h3,h4⟩:=h
 obtain ⟨v,D,hrun,ho,_⟩:=h2.look ht hz (by unfold maxLen;omega) hk
 obtain ⟨B,d,rfl,hB⟩:=ownsInts_own ho
 exact ⟨bm,B,d,by simpa using h1.cell 1,hrun,hB.rd (by decide)⟩
end
section
end
end Go.Proofs.YtlfpdpbbkjnapaaGreatDoor
/- -/
namespace Go.Proofs.YtlfpdpbbkjnapaaGreatDoor
set_option maxRecDepth 100000
set_option maxHeartbeats 40000000
section
open Go.RowKit
theorem gdb_any (w : World) (hE : Env w) :
  Calls Tryz.prog 112 #[] w fun e w'=>∃ p,e = .returned (.pointer (some ⟨p,0,none⟩))∧DbAt w' p graphsD∧Below w.heap.size w w':=by
 go_enter Tryz.func112,Tryz.ntmps112
 generalize hT : ByteArray.mk _ = T
 have HN : newP T.data.toList = .ok graphsD:=by rw [← hT];exact new_K (by kernel_rfl) (by kernel_rfl)
 have hTl : T.data.toList.length≤maxLen:=by rw [← hT];exact of_decide_eq_true (by kernel_rfl)
 clear hT
 have HC:=wNew_any T.data.toList w hE hTl
 rw [HN,show bytesOf T.data.toList = T from bytesOf_data T] at HC
 replace HC:=Lib.hid HC
 clear HN hTl
 go_wp2_with fail
 refine HC.out.mono ?_
 rintro e w1 ⟨⟨p,rfl,hd⟩,hb1⟩
 go_wp2
 go_ret
 exact ⟨p,rfl,hd,hb1⟩
def endZ (c : Int) : Bool:=c == 1 || c == 2 || c == 3
theorem gends_any (c : Int) (w : World) : Calls Tryz.prog 135 #[.int .i64 c] w fun e w'=>e = .returned (.bool (endZ c))∧w = w':=by
 rcases (by omega : c = 1∨c = 2∨c = 3∨(c ≠ 1∧c ≠ 2∧c ≠ 3)) with rfl | rfl | rfl | ⟨h1,h2,h3⟩
 iterate 3
  ·go_enter Tryz.func135,Tryz.ntmps135
   go_wp2
   go_ret
   exact ⟨rfl,rfl⟩
 ·have HV : Hid (endZ c = false):=Lib.hid (by simp [endZ,h1,h2,h3])
  have e1:=beq_eq_false_iff_ne.2 h1
  have e2:=beq_eq_false_iff_ne.2 h2
  have e3:=beq_eq_false_iff_ne.2 h3
  clear h1 h2 h3
  go_enter Tryz.func135,Tryz.ntmps135
  go_wp2
  go_ret
  exact ⟨by rw [HV.out];rfl,rfl⟩
def joinZ (x y : Int) : Bool :=
 if (x == 1) && (y == 2) then true
 else if endZ x || endZ y then false
 else if ((y == 4) || (y == 5) || (y == 6) || (x == 7)) then true
 else if x == 8 then (y == 8) || (y == 9) || (y == 11)
 else if (x == 9) || (x == 11) then (y == 9) || (y == 10)
 else (x == 10) && (y == 10)
theorem joinZ_eq : ∀ x : Nat,x < 14→∀ y : Nat,y < 14→joinZ (x : Int) (y : Int) = joinG x y:=by decide
theorem gjoins_any (x y : Int) (w : World) : Calls Tryz.prog 114 #[.int .i64 x,.int .i64 y] w fun e w'=>e = .returned (.bool (joinZ x y))∧w = w':=by
 obtain ⟨x1,H1⟩ : ∃ b,Hid (((x == 1) && (y == 2)) = b):=⟨_,Lib.hid rfl⟩
 obtain ⟨x2,H2⟩ : ∃ b,Hid (((endZ x) || (endZ y)) = b):=⟨_,Lib.hid rfl⟩
 obtain ⟨x3,H3⟩ : ∃ b,Hid (((y == 4) || (y == 5) || (y == 6) || (x == 7)) = b):=⟨_,Lib.hid rfl⟩
 have HW : Hid (joinZ x y = if x1 then true else if x2 then false else if x3 then true else if x == 8 then ((y == 8) || (y == 9) || (y == 11)) else if ((x == 9) || (x == 11)) then ((y == 9) || (y == 10)) else ((x == 10) && (y == 10))):=Lib.hid (by rw [← H1.out,← H2.out,← H3.out];rfl)
 go_enter Tryz.func114,Tryz.ntmps114
 go_upto_region 1 with fail
 go_cut [5] from 5 (fun v wx=>v = .bool x1∧w = wx)
 case first =>
  cases h1 : (x == 1) with
  | true =>
   cases h2 : (y == 2) with
   | true =>
    go_wp2_with fail
    go_meet
    exact ⟨by rw [← H1.out,h1,h2] <;> rfl,rfl⟩
   | false =>
    go_wp2_with fail
    go_meet
    exact ⟨by rw [← H1.out,h1,h2] <;> rfl,rfl⟩
  | false =>
   go_wp2_with fail
   go_meet
   exact ⟨by rw [← H1.out,h1] <;> rfl,rfl⟩
 case rest =>
  obtain ⟨rfl,rfl⟩:=hcut
  cases x1 with
  | true =>
   go_wp2
   go_ret
   exact ⟨by rw [HW.out];simp,rfl⟩
  | false =>
   go_upto_region 3 with fail
   go_cut [12] from 5 (fun v wx=>v = .bool x2∧w = wx)
   case first =>
    cases h1 : (endZ x) with
    | true =>
     go_wp2_with fail
     refine (gends_any _ _).mono ?_
     rw [h1]
     rintro e wn ⟨rfl,rfl⟩
     go_wp2_with fail
     go_meet
     exact ⟨by rw [← H2.out,h1] <;> rfl,rfl⟩
    | false =>
     cases h2 : (endZ y) with
     | true =>
      go_wp2_with fail
      refine (gends_any _ _).mono ?_
      rw [h1]
      rintro e wn ⟨rfl,rfl⟩
      go_wp2_with fail
      refine (gends_any _ _).mono ?_
      rw [h2]
      rintro e wn ⟨rfl,rfl⟩
      go_wp2_with fail
      go_meet
      exact ⟨by rw [← H2.out,h1,h2] <;> rfl,rfl⟩
     | false =>
      go_wp2_with fail
      refine (gends_any _ _).mono ?_
      rw [h1]
      rintro e wn ⟨rfl,rfl⟩
      go_wp2_with fail
      refine (gends_any _ _).mono ?_
      rw [h2]
      rintro e wn ⟨rfl,rfl⟩
      go_wp2_with fail
      go_meet
      exact ⟨by rw [← H2.out,h1,h2] <;> rfl,rfl⟩
   case rest =>
    obtain ⟨rfl,rfl⟩:=hcut
    cases x2 with
    | true =>
     go_wp2
     go_ret
     exact ⟨by rw [HW.out];simp,rfl⟩
    | false =>
     go_upto_region 5 with fail
     go_cut [19] from 5 (fun v wx=>v = .bool x3∧w = wx)
     case first =>
      cases h1 : (y == 4) with
      | true =>
       go_wp2_with fail
       go_meet
       exact ⟨by rw [← H3.out,h1] <;> rfl,rfl⟩
      | false =>
       cases h2 : (y == 5) with
       | true =>
        go_wp2_with fail
        go_meet
        exact ⟨by rw [← H3.out,h1,h2] <;> rfl,rfl⟩
       | false =>
        cases h3 : (y == 6) with
        | true =>
         go_wp2_with fail
         go_meet
         exact ⟨by rw [← H3.out,h1,h2,h3] <;> rfl,rfl⟩
        | false =>
         cases h4 : (x == 7) with
         | true =>
          go_wp2_with fail
          go_meet
          exact ⟨by rw [← H3.out,h1,h2,h3,h4] <;> rfl,rfl⟩
         | false =>
          go_wp2_with fail
          go_meet
          exact ⟨by rw [← H3.out,h1,h2,h3,h4] <;> rfl,rfl⟩
     case rest =>
      obtain ⟨rfl,rfl⟩:=hcut
      cases x3 with
      | true =>
       go_wp2
       go_ret
       exact ⟨by rw [HW.out];simp,rfl⟩
      | false =>
       cases h1 : (x == 8) with
       | true =>
        cases h2 : (y == 8) with
        | true =>
         go_wp2
         go_ret
         exact ⟨by rw [HW.out];simp [h1,h2],rfl⟩
        | false =>
         cases h3 : (y == 9) with
         | true =>
          go_wp2
          go_ret
          exact ⟨by rw [HW.out];simp [h1,h2,h3],rfl⟩
         | false =>
          cases h4 : (y == 11) with
          | true =>
           go_wp2
           go_ret
           exact ⟨by rw [HW.out];simp [h1,h2,h3,h4],rfl⟩
          | false =>
           go_wp2
           go_ret
           exact ⟨by rw [HW.out];simp [h1,h2,h3,h4],rfl⟩
       | false =>
        cases h2 : (x == 9) with
        | true =>
         cases h3 : (y == 9) with
         | true =>
          go_wp2
          go_ret
          exact ⟨by rw [HW.out];simp [h1,h2,h3],rfl⟩
         | false =>
          cases h4 : (y == 10) with
          | true =>
           go_wp2
           go_ret
           exact ⟨by rw [HW.out];simp [h1,h2,h3,h4],rfl⟩
          | false =>
           go_wp2
           go_ret
           exact ⟨by rw [HW.out];simp [h1,h2,h3,h4],rfl⟩
        | false =>
         cases h3 : (x == 11) with
         | true =>
          cases h4 : (y == 9) with
          | true =>
           go_wp2
           go_ret
           exact ⟨by rw [HW.out];simp [h1,h2,h3,h4],rfl⟩
          | false =>
           cases h5 : (y == 10) with
           | true =>
            go_wp2
            go_ret
            exact ⟨by rw [HW.out];simp [h1,h2,h3,h4,h5],rfl⟩
           | false =>
            go_wp2
            go_ret
            exact ⟨by rw [HW.out];simp [h1,h2,h3,h4,h5],rfl⟩
         | false =>
          cases h4 : (x == 10) with
          | true =>
           cases h5 : (y == 10) with
           | true =>
            go_wp2
            go_ret
            exact ⟨by rw [HW.out];simp [h1,h2,h3,h4,h5],rfl⟩
           | false =>
            go_wp2
            go_ret
            exact ⟨by rw [HW.out];simp [h1,h2,h3,h4,h5],rfl⟩
          | false =>
           go_wp2
           go_ret
           exact ⟨by rw [HW.out];simp [h1,h2,h3,h4],rfl⟩
end
section
open Go.RowKit
end
section
open Go.RowKit
end
section
open Go Go.RowKit
section
variable {P : Program} {Q : Exit→Act→World→Prop} {l n : Nat}
def noDefer (ops : Array Oper) : Bool:=ops.toList.all fun o=>match o.op with | .defer _=>false | _=>true
theorem noDefer_at {ops : Array Oper} (h : noDefer ops = true) {i : Nat} {o : Oper} (ho : ops[i]? = some o) : ∀ c,o.op ≠ .defer c:=fun c hc=>by
 unfold noDefer at h
 rw [List.all_eq_true] at h
 have:=h o (by rw [← Array.getElem?_toList] at ho;exact List.mem_of_getElem? ho)
 rw [hc] at this
 cases this
theorem wpIn_of_wp_round {o : Oper} (hd : ∀ c,o.op ≠ .defer c) {a : Act} {w : World} {K : Act→World→Prop} (h : o.wp P a w K Q) : o.wpIn (Fence.wide.inRound l) n P a w K Q:=by
 refine ⟨fun _ _=>trivial,?_⟩
 rw [Oper.semAt_plain _ _ _ hd]
 unfold Oper.wp at h
 generalize (execOp a.eval o).run P w = r at h ⊢
 cases r with
 | ok x w' =>
  cases x with
  | enter f args=>exact ⟨fun h=>by simp [Fence.wide,Fence.inRound] at h,CallsIn.inRound l (callsIn_wide.2 h)⟩
  | row row args=>exact ⟨fun h=>by simp [Fence.wide,Fence.inRound] at h,fun c cs _=>let ⟨v,w2,r1,s1⟩:=h c cs;⟨v,w2,r1,stepsIn_wide.2 s1⟩⟩
  | round=>exact False.elim h
  | _=>exact h
 | halt x w'=>cases x <;> exact h
theorem wpOpsIn_round {ops : Array Oper} (hd : noDefer ops = true) (hL : ¬ LetsOut Q) : ∀ (L : List Nat) (a : Act) (w : World),wpOps P ops Q L a w→wpOpsIn (Fence.wide.inRound l) n P ops Q L a w
 | [],_,_,h=>h
 | i :: rest,a,w,h=>by
  unfold wpOps at h
  unfold wpOpsIn
  cases ho : ops[i]? with
  | none=>simp only [ho] at h ⊢;exact wpOpsIn_round hd hL rest a w h
  | some o =>
   simp only [ho] at h ⊢
   by_cases hw : Region.wanted o (yielded ops a.tmps) = true
   ·simp only [hw,if_true] at h ⊢
    rcases h with h | h
    ·exact Oper.wpIn_mono (fun a w h=>wpOpsIn_round hd hL rest a w h) (wpIn_of_wp_round (noDefer_at hd ho) h)
    ·exact absurd h.2 hL
   ·simp only [hw,if_false,Bool.false_eq_true] at h ⊢
    exact ⟨fun _ _=>trivial,wpOpsIn_round hd hL rest _ w h⟩
end
end
section
open Go Go.RowKit
section
variable {P : Program} {Q : Exit→Act→World→Prop} {md : Region.Mode}
def tailQ (N : Act→World→Prop) (Q : Exit→Act→World→Prop) : Exit→Act→World→Prop
 | .normal,a,w=>N a w
 | e,a,w=>Q e a w
theorem wp_tailQ {N : Act→World→Prop} {o : Oper} {a : Act} {w : World} {K : Act→World→Prop} : Oper.wp P o a w K (tailQ N Q) = Oper.wp P o a w K Q:=by
 unfold Oper.wp
 generalize (execOp a.eval o).run P w = r
 cases r with
 | ok n w'=>cases n <;> simp only [Oper.upon] <;> rfl
 | halt x w'=>cases x <;> rfl
theorem lets_tailQ {N : Act→World→Prop} : LetsOut (tailQ N Q) = LetsOut Q:=rfl
def lastSink (md : Region.Mode) (l : List Oper) : Bool :=
 (List.range (l.length - 1)).all fun i=>(List.range l.length).any fun j=>decide (i < j) && ((l[j]?).map fun o=>o.after.any fun e=>Region.binds md e && e.on == i).getD false
def lastDown (md : Region.Mode) (l : List Oper) : Bool :=
 (List.range l.length).all fun j=>((l[j]?).map fun o=>o.guard.isNone && o.after.all fun e=>!Region.binds md e || decide (e.on < j)).getD true
theorem lastSink_spec {l : List Oper} (h : lastSink md l = true) {i : Nat} (hi : i < l.length - 1) : ∃ j o,i < j∧l[j]? = some o∧∃ e ∈ o.after,Region.binds md e = true∧e.on = i:=by
 unfold lastSink at h
 rw [List.all_eq_true] at h
 have h1:=h i (List.mem_range.2 hi)
 rw [List.any_eq_true] at h1
 obtain ⟨j,_,h2⟩:=h1
 rw [Bool.and_eq_true,decide_eq_true_eq] at h2
 obtain ⟨h3,h4⟩:=h2
 cases ho : l[j]? with
 | none=>rw [ho] at h4;cases h4
 | some o =>
  rw [ho] at h4
  simp only [Option.map_some,Option.getD_some,Array.any_eq_true] at h4
  obtain ⟨k,hk,h5⟩:=h4
  simp only [Bool.and_eq_true,beq_iff_eq] at h5
  exact ⟨j,o,h3,ho,_,Array.getElem_mem hk,h5.1,h5.2⟩
theorem lastDown_spec {l : List Oper} (h : lastDown md l = true) {j : Nat} {o : Oper} (hj : l[j]? = some o) : o.guard = none∧∀ e ∈ o.after,Region.binds md e = true→e.on < j:=by
 unfold lastDown at h
 rw [List.all_eq_true] at h
 have h1:=h j (List.mem_range.2 (List.getElem?_eq_some_iff.1 hj).1)
 rw [hj] at h1
 simp only [Option.map_some,Option.getD_some,Bool.and_eq_true,Option.isNone_iff_eq_none] at h1
 refine ⟨h1.1,fun e he hb=>?_⟩
 have h2:=Array.all_eq_true_iff_forall_mem.1 h1.2 e he
 rw [hb] at h2
 simpa using h2
structure SameHead (md : Region.Mode) (l : List Oper) (L L' : Array Bool) : Prop where
 size : L.size = l.length
 size' : L'.size = l.length - 1
 same : ∀ i,i < l.length - 1→∀ d,L.getD i d = L'.getD i d
 inv : ∀ (j : Nat) (o : Oper),l[j]? = some o→L.getD j false = true→∀ e ∈ o.after,Region.binds md e = true→L.getD e.on false = true
 last : L.getD (l.length - 1) false = false
theorem getD_any {L : Array Bool} {i : Nat} (h : i < L.size) (d d' : Bool) : L.getD i d = L.getD i d':=by simp [h]
theorem head_get {l : List Oper} {i : Nat} (h : i < l.length - 1) : (l.dropLast.toArray)[i]? = l[i]?:=by
 rw [zG,List.getElem?_dropLast,if_pos h]
theorem SameHead.ready {l : List Oper} {L L' : Array Bool} (h : SameHead md l L L') (hd : lastDown md l = true) {i : Nat} (hi : i < l.length - 1) : i ∈ Region.ready md l.toArray L ↔ i ∈ Region.ready md l.dropLast.toArray L':=by
 rw [mem_ready,mem_ready,head_get hi,zG,h.same i hi]
 constructor
 ·rintro ⟨h0,o,ho,h1⟩
  exact ⟨h0,o,ho,fun e he hb=>by rw [← h.same e.on (by have:=(lastDown_spec hd ho).2 e he hb;omega)];exact h1 e he hb⟩
 ·rintro ⟨h0,o,ho,h1⟩
  exact ⟨h0,o,ho,fun e he hb=>by rw [h.same e.on (by have:=(lastDown_spec hd ho).2 e he hb;omega)];exact h1 e he hb⟩
theorem SameHead.all {l : List Oper} {L L' : Array Bool} (h : SameHead md l L L') (hs : lastSink md l = true) (hr : l.length - 1 ∈ Region.ready md l.toArray L) : ∀ (k i : Nat),i < l.length - 1→l.length - 1≤i+k→L.getD i false = true
 | 0,i,hi,hk=>by omega
 | k+1,i,hi,hk=>by
  obtain ⟨j,o,hij,ho,e,he,hb,rfl⟩:=lastSink_spec hs hi
  have hjl:=(List.getElem?_eq_some_iff.1 ho).1
  by_cases hj : j = l.length - 1
  ·obtain ⟨_,o',ho',hall⟩:=mem_ready.1 hr
   rw [zG,← hj,ho] at ho'
   injection ho' with ho';subst ho'
   exact hall e he hb
  ·exact h.inv j o ho (h.all hs hr k j (by omega) (by omega)) e he hb
theorem SameHead.some_ready {l : List Oper} {L L' : Array Bool} (h : SameHead md l L L') (hd : lastDown md l = true) (hn : 0 < l.length) : Region.ready md l.toArray L ≠ []:=fun h0=>by
 have key : ∀ k,k < l.length→L.getD k false = true:=by
  intro k
  induction k using Nat.strongRecOn with
  | ind k ih =>
   intro hk
   cases hq : L.getD k false with
   | true=>rfl
   | false =>
    obtain ⟨o,ho⟩ : ∃ o,l[k]? = some o:=⟨_,List.getElem?_eq_getElem hk⟩
    have : k ∈ Region.ready md l.toArray L:=mem_ready.2 ⟨by rw [getD_any (by rw [h.size];exact hk) true false];exact hq,o,by rw [zG];exact ho,fun e he hb=>by
     have:=(lastDown_spec hd ho).2 e he hb
     exact ih e.on this (by omega)⟩
    rw [h0] at this;cases this
 have:=key (l.length - 1) (by omega)
 rw [h.last] at this;cases this
theorem SameHead.step {l : List Oper} {L L' : Array Bool} (h : SameHead md l L L') {i : Nat} (hi : i < l.length - 1) (hr : i ∈ Region.ready md l.toArray L) : SameHead md l (L.setIfInBounds i true) (L'.setIfInBounds i true):=by
 refine ⟨by simpa using h.size,by simpa using h.size',fun k hk d=>?_,fun j o ho hj e he hb=>?_,by rw [getD_set_ne false (by omega)];exact h.last⟩
 ·by_cases e : i = k
  ·subst e;simp [h.size,h.size',hk,show i < l.length by omega]
  ·rw [getD_set_ne d e,getD_set_ne d e];exact h.same k hk d
 ·by_cases e1 : i = j
  ·subst e1
   obtain ⟨_,o',ho',hall⟩:=mem_ready.1 hr
   rw [zG,ho] at ho'
   injection ho' with ho';subst ho'
   exact getD_set_true (hall e he hb)
  ·rw [getD_set_ne false e1] at hj
   exact getD_set_true (h.inv j o ho hj e he hb)
theorem wpOp_head {l : List Oper} (hd : lastDown md l = true) {N : Act→World→Prop} {i : Nat} (hi : i < l.length - 1) {K K' : Act→World→Prop} {a : Act} {w : World} (hK : ∀ a w,K a w→K' a w)
  (h : wpOp P l.dropLast.toArray (tailQ N Q) i K a w) : wpOp P l.toArray Q i K' a w:=by
 refine wpOp_mono hK ?_
 obtain ⟨o,ho⟩ : ∃ o,l[i]? = some o:=⟨_,List.getElem?_eq_getElem (by omega)⟩
 have hg:=(lastDown_spec hd ho).1
 unfold wpOp at h ⊢
 simp only [head_get hi,zG,ho,Region.wanted,hg,if_true,wp_tailQ,lets_tailQ] at h ⊢
 exact h
theorem last_step {l : List Oper} {L L' : Array Bool} (h : SameHead md l L L') (hs : lastSink md l = true) (hr : l.length - 1 ∈ Region.ready md l.toArray L) (hn : 0 < l.length) {fuel : Nat} {a : Act} {w : World}
  (H : wpOp P l.toArray Q (l.length - 1) (Q .normal) a w) : wpOp P l.toArray Q (l.length - 1) (wpAny P md l.toArray Q fuel (L.setIfInBounds (l.length - 1) true)) a w:=by
 have h0 : Region.ready md l.toArray (L.setIfInBounds (l.length - 1) true) = []:=by
  refine List.eq_nil_iff_forall_not_mem.2 fun j hj=>?_
  obtain ⟨h1,o,ho,_⟩:=mem_ready.1 hj
  have hjl : j < l.length:=by rw [zG] at ho;exact (List.getElem?_eq_some_iff.1 ho).1
  by_cases e : l.length - 1 = j
  ·subst e;simp [h.size,hjl] at h1
  ·rw [getD_set_ne true e,getD_any (by rw [h.size];exact hjl) true false,h.all hs hr (l.length - 1) j (by omega) (by omega)] at h1
   cases h1
 refine wpOp_mono (fun a w hq=>?_) H
 cases fuel with
 | zero=>exact ⟨h0,hq⟩
 | succ k=>exact ⟨fun _=>hq,by rw [h0];simp⟩
theorem wpAny_last {l : List Oper} (hs : lastSink md l = true) (hd : lastDown md l = true) (hn : 0 < l.length) :
  ∀ (fuel : Nat) (L L' : Array Bool) (a : Act) (w : World),SameHead md l L L' →
   wpAny P md l.dropLast.toArray (tailQ (wpOp P l.toArray Q (l.length - 1) (Q .normal)) Q) fuel L' a w→wpAny P md l.toArray Q (fuel+1) L a w:=by
 intro fuel
 induction fuel with
 | zero =>
  intro L L' a w hS H
  refine ⟨fun h0=>absurd h0 (hS.some_ready hd hn),fun i hi=>?_⟩
  obtain ⟨_,o,ho,_⟩:=mem_ready.1 hi
  have hil : i < l.length:=by rw [zG] at ho;exact (List.getElem?_eq_some_iff.1 ho).1
  by_cases e : i < l.length - 1
  ·have:=(hS.ready hd e).1 hi
   rw [H.1] at this;cases this
  ·obtain rfl : i = l.length - 1:=by omega
   exact last_step hS hs hi hn H.2
 | succ fuel ih =>
  intro L L' a w hS H
  refine ⟨fun h0=>absurd h0 (hS.some_ready hd hn),fun i hi=>?_⟩
  obtain ⟨_,o,ho,_⟩:=mem_ready.1 hi
  have hil : i < l.length:=by rw [zG] at ho;exact (List.getElem?_eq_some_iff.1 ho).1
  by_cases e : i < l.length - 1
  ·exact wpOp_head hd e (fun a w h=>ih _ _ a w (hS.step e hi) h) (H.2 i ((hS.ready hd e).1 hi))
  ·obtain rfl : i = l.length - 1:=by omega
   refine last_step hS hs hi hn (H.1 (List.eq_nil_iff_forall_not_mem.2 fun j hj=>?_))
   obtain ⟨h1,o,ho,_⟩:=mem_ready.1 hj
   have hjl : j < l.length - 1:=by rw [zG] at ho;have:=(List.getElem?_eq_some_iff.1 ho).1;rwa [List.length_dropLast] at this
   rw [← hS.same j hjl true,getD_any (by rw [hS.size];omega) true false,hS.all hs hi (l.length - 1) j hjl (by omega)] at h1
   cases h1
theorem tailQ_end {N : Act→World→Prop} {a : Act} {w : World} (h : N a w) : tailQ N Q .normal a w:=h
theorem wp_region_last {id : Nat} {l : List Oper} {a : Act} {w : World} {S : World→Prop} (n : Nat) (hn : l.length = n+1) (hm : P.follows .mixedOrders = true) (hs : lastSink .any l = true) (hd : lastDown .any l = true) (hS : S w.drew)
  (h : S w.drew→wpAnyH P .any l.dropLast.toArray (tailQ (wpOp P l.toArray Q n (Q .normal)) Q) S n (Array.replicate n false) a w.drew) : (Code.region id l.toArray true).wp P Q a w:=by
 obtain rfl : n = l.length - 1:=by omega
 have hH : SameHead .any l (Array.replicate l.length false) (Array.replicate (l.length - 1) false):=by
  refine ⟨by simp,by simp,fun i hi d=>?_,fun j o ho hj=>?_,?_⟩
  ·simp [hi,show i < l.length by omega]
  ·have hl:=(List.getElem?_eq_some_iff.1 ho).1
   simp [hl] at hj
  ·simp [show l.length - 1 < l.length by omega]
 have:=wpAny_last (Q:=Q) hs hd (by omega) (l.length - 1) _ _ a w.drew hH (wpAny_of_held _ _ _ _ (h hS))
 rw [show l.length - 1+1 = l.toArray.size by simp;omega] at this
 refine wp_region_any hm ?_
 rw [show Array.replicate l.toArray.size false = Array.replicate l.length false by simp]
 exact this
end
end
section
open Go Go.RowKit
section
variable {P : Program} {Q : Exit→Act→World→Prop} {l₀ n : Nat}
theorem wpIn_region_last {id : Nat} {l : List Oper} {a : Act} {w : World} {S : World→Prop} (k : Nat) (hn : l.length = k+1) (hm : P.follows .mixedOrders = true) (hs : lastSink .any l = true) (hd : lastDown .any l = true) (hnd : noDefer l.toArray = true) (hL : ¬ LetsOut Q) (hS : S w.drew)
  (h : S w.drew→wpAnyH P .any l.dropLast.toArray (tailQ (wpOp P l.toArray Q k (Q .normal)) Q) S k (Array.replicate k false) a w.drew) : (Code.region id l.toArray true).wpIn (Fence.wide.inRound l₀) n P Q a w :=
 wpIn_region_draw fun t=>by
  simp only [Region.schedule,hm,Bool.true_or,if_true]
  obtain rfl : k = l.length - 1:=by omega
  have hH : SameHead .any l (Array.replicate l.length false) (Array.replicate (l.length - 1) false):=by
   refine ⟨by simp,by simp,fun i hi d=>?_,fun j o ho hj=>?_,?_⟩
   ·simp [hi,show i < l.length by omega]
   ·have hl:=(List.getElem?_eq_some_iff.1 ho).1
    simp [hl] at hj
   ·simp [show l.length - 1 < l.length by omega]
  have:=wpAny_last (Q:=Q) hs hd (by omega) (l.length - 1) _ _ a w.drew hH (wpAny_of_held _ _ _ _ (h hS))
  rw [show l.length - 1+1 = l.toArray.size by simp;omega] at this
  refine wpOpsIn_round hnd hL _ _ _ (wpAny_sound l.toArray.size t _ a _ ?_)
  rw [show Array.replicate l.toArray.size false = Array.replicate l.length false by simp]
  exact this
end
end
section
open Go.RowKit
theorem findNow_int (q : IntKind) (a : Int) : ∀ (es : List MapEntry) (i : Nat),(∀ e ∈ es,∃ c,e.key = .int q c)→∃ r,Instr.findNow (.int q) (.int q a) es i = some r
 | [],i,_=>⟨none,rfl⟩
 | e :: es,i,h=>by
  obtain ⟨c,hc⟩:=h e (by simp)
  rw [Instr.findNow,hc]
  simp only [Instr.sameNow,if_true]
  cases a == c with
  | true=>exact ⟨_,rfl⟩
  | false=>exact findNow_int q a es (i+1) (fun x hx=>h x (by simp [hx]))
theorem look_pure {P : Program} {t k E : TypeId} {q : IntKind} {es : Array MapEntry} {clock b : Nat} {a : Int} {z : Value} (ht : P.underlying t = some (.map k E)) (hk : P.underlying k = some (.int q)) (hes : ∀ e ∈ es.toList,∃ c,e.key = .int q c)
  (hz : ∀ V,(zeroValue E).run P V = .ok z V) : ∃ v,(es = #[]→v = z)∧∀ V : World,V.heap[b]? = some (.map es clock)→(Instr.lookup t (.map (some b)) (.int q a) false).run P V = .ok v V:=by
 obtain ⟨r,hr⟩:=findNow_int q a es.toList 0 hes
 cases r with
 | none =>
  refine ⟨z,fun _=>rfl,fun V hb=>?_⟩
  have hc : ∀ (n : Nat),(Instr.checkKey es.isEmpty (n+1) k (.int q a)).run P V = .ok () V:=fun n=>by
   unfold Instr.checkKey
   simp [run_underlying hk]
  simp [Instr.lookup,run_underlying ht,MapKept.run_getObj_map hb,hc 9999,Instr.findKey,run_underlying hk,hr,hz,Result.andThen]
 | some x =>
  refine ⟨x.2,fun e=>by subst e;simp [Instr.findNow] at hr,fun V hb=>?_⟩
  have hc : ∀ (n : Nat),(Instr.checkKey es.isEmpty (n+1) k (.int q a)).run P V = .ok () V:=fun n=>by
   unfold Instr.checkKey
   simp [run_underlying hk]
  simp [Instr.lookup,run_underlying ht,MapKept.run_getObj_map hb,hc 9999,Instr.findKey,run_underlying hk,hr,Result.andThen]
theorem key_int {P : Program} {k : TypeId} {q : IntKind} {v : Value} {l : Lit} (hk : P.underlying k = some (.int q)) (h : keyOf P k v = some l) : ∃ c,v = .int q c:=by
 unfold keyOf mapKey at h
 rw [hk] at h
 cases v <;> simp at h
 obtain ⟨⟨rfl,_⟩,_⟩:=h
 exact ⟨_,rfl⟩
theorem GrM.look2 {w : World} {base b n : Nat} {G : Int→List Int} (h : GrM w base b n G) {t E : TypeId} (ht : Tryz.prog.underlying t = some (.map 3 E)) (hz : ∀ V,(zeroValue E).run Tryz.prog V = .ok (.slice none 0 0) V) (hn : n < maxLen) {k : Int} (hk : (Lit.int .i64 k).wf = true) :
  ∃ v D,(∀ V : World,V.heap[b]? = w.heap[b]?→(Instr.lookup t (.map (some b)) (.int .i64 k) false).run Tryz.prog V = .ok v V)∧w.ownsInts base 3 .i64 v (G k)∧(G k).length≤n∧(∀ j : Int,itemsD (D.atKey (.int .i64 j) .nil) = G j)∧Maps.IsMap D∧w.groupBack (H:=Unit) Tryz.prog t 3 base 3 .i64 b n D (.int .i64 k) (.int .i64 k) v∧(n = 0→v = .slice none 0 0):=by
 obtain ⟨v,D,hrun,h1,h2,h3,h4,h5⟩:=h.look ht (hz w) hn hk
 obtain ⟨D0,⟨es,clock,hb,F,hsz,_,_,_,_⟩,_⟩:=h
 have hes : ∀ e ∈ es.toList,∃ c,e.key = .int .i64 c:=fun e he=>by
  obtain ⟨y,hy⟩:=F.reads e he
  exact key_int Tryz.underlying3 (WideElems.rd_key hy)
 obtain ⟨v2,hv0,hv2⟩:=look_pure (P:=Tryz.prog) (a:=k) (b:=b) (clock:=clock) ht Tryz.underlying3 hes hz
 have e : v2 = v:=by
  have:=hv2 w hb
  rw [hrun] at this
  injection this with this _
  exact this.symm
 subst e
 exact ⟨v2,D,fun V hV=>hv2 V (hV.trans hb),h1,h2,h3,h4,h5,fun hn0=>hv0 (by apply Array.eq_empty_of_size_eq_zero;omega)⟩
end
section
section
variable {A B : List Int}
end
end
section
end
end Go.Proofs.YtlfpdpbbkjnapaaGreatDoor
/- -/
namespace Go.Proofs.YtlfpdpbbkjnapaaGreatDoor
set_option maxRecDepth 100000
set_option maxHeartbeats 40000000
section
def piecesF : List Nat→List (Nat × Nat)
 | a :: b :: r=>(a,b) :: piecesF (b :: r)
 | _=>[]
theorem piecesF_len : ∀ (L : List Nat),(piecesF L).length = L.length - 1
 | []=>rfl
 | [_]=>rfl
 | a :: b :: r=>by rw [piecesF,List.length_cons,piecesF_len (b :: r)];simp
theorem piecesF_at : ∀ (L : List Nat) (k x y : Nat),L[k]? = some x→L[k+1]? = some y→(piecesF L)[k]? = some (x,y)
 | [],_,_,_,h,_=>by simp at h
 | [_],k,_,_,_,h=>by simp at h
 | a :: b :: r,0,x,y,hx,hy=>by
  simp only [zH,zI,Option.some.injEq] at hx hy
  subst hx hy
  rfl
 | a :: b :: r,k+1,x,y,hx,hy=>by
  rw [piecesF,zI]
  exact piecesF_at (b :: r) k x y (by simpa using hx) (by simpa using hy)
theorem piecesF_le {s : ByteArray} : ∀ {L : List Nat},L.Pairwise (· < ·)→(∀ a ∈ L,a≤s.size)→∀ x ∈ piecesF L,x.1≤x.2∧x.2≤s.size
 | [],_,_,x,h=>by simp [piecesF] at h
 | [_],_,_,x,h=>by simp [piecesF] at h
 | a :: b :: r,hp,hz,x,h=>by
  rw [List.pairwise_cons] at hp
  rw [piecesF] at h
  rcases List.mem_cons.1 h with rfl | h
  ·exact ⟨Nat.le_of_lt (hp.1 b (by simp)),hz b (by simp)⟩
  ·exact piecesF_le hp.2 (fun c hc=>hz c (by simp [hc])) x h
def clP (s : ByteArray) (x : Nat × Nat) : Nat × Nat:=if x.1≤x.2∧x.2≤s.size then x else (0,0)
theorem clP_in {s : ByteArray} {x : Nat × Nat} (h : x.1≤x.2∧x.2≤s.size) : clP s x = x:=if_pos h
end
section
open Go.RowKit Go.Shelf Go.Maps
attribute [local go_sem] Oper.semAt_some
end
section
open Go.RowKit
end
section
open Go.RowKit
end
section
open Go.RowKit
end
section
open Go.RowKit
end
section
open Go.RowKit
theorem gcell {w w' : World} {row : Option Nat} (h : w.grownBy w' row) {b i : Nat} {v : Value} (hv : w.cell? ⟨b,i,none⟩ = some v) (hr : some b ≠ row) : w'.cell? ⟨b,i,none⟩ = some v :=
 (World.cell?_of_block (h.block b (cell_lt hv) hr)).trans hv
end
section
open Go.RowKit
abbrev Sv:=Option Addr × Nat × Nat
abbrev Pv:=Nat × Sv × Sv
def encPt (v : Pv) : List Value:=[.int .i64 (v.1 : Int),.slice v.2.1.1 v.2.1.2.1 v.2.1.2.2,.slice v.2.2.1 v.2.2.2.1 v.2.2.2.2]
structure SlX (w : World) (X : Nat→Prop) (s : Nat) (v : Sv) (cs : List (List Value)) : Prop where
 rd : Rd w s v.1 cs
 len : cs.length = v.2.1
 inn : ∀ a,v.1 = some a→X a.block∧a.block < w.heap.size
 cap : v.2.1≤v.2.2
structure KeepX (X X' : Nat→Prop) (w w' : World) : Prop where
 size : w.heap.size≤w'.heap.size
 block : ∀ b,X b→b < w.heap.size→w'.heap[b]? = w.heap[b]?
 more : ∀ b,X b→b < w.heap.size→X' b
theorem KeepX.below {X : Nat→Prop} {w w' : World} (hb : Below w.heap.size w w') : KeepX X X w w':=⟨hb.size,fun b _ h=>hb.block b h,fun _ h _=>h⟩
theorem KeepX.grown {X : Nat→Prop} {w w' : World} {row : Option Nat} (hg : w.grownBy w' row) (hr : ∀ r,row = some r→¬ X r) : KeepX X X w w' :=
 ⟨hg.size,fun b hb h=>hg.block b h (fun e=>hr b e.symm hb),fun _ h _=>h⟩
theorem KeepX.same {X X' : Nat→Prop} {w : World} (h : ∀ b,X b→b < w.heap.size→X' b) : KeepX X X' w w:=⟨Nat.le_refl _,fun _ _ _=>rfl,h⟩
theorem KeepX.trans {X Y Z : Nat→Prop} {a b c : World} (h : KeepX X Y a b) (k : KeepX Y Z b c) : KeepX X Z a c :=
 ⟨Nat.le_trans h.size k.size,fun i hi hl=>(k.block i (h.more i hi hl) (Nat.lt_of_lt_of_le hl h.size)).trans (h.block i hi hl),fun i hi hl=>k.more i (h.more i hi hl) (Nat.lt_of_lt_of_le hl h.size)⟩
theorem SlX.keep {X X' : Nat→Prop} {w w' : World} {s : Nat} {v : Sv} {cs : List (List Value)} (h : SlX w X s v cs) (k : KeepX X X' w w') : SlX w' X' s v cs :=
 ⟨h.rd.keep fun b off i u ha hc=>by
   obtain ⟨h1,h2⟩:=h.inn _ ha
   have:=k.block b h1 h2
   rw [← hc]
   simp [World.cell?,this],
  h.len,fun a ha=>⟨k.more _ (h.inn a ha).1 (h.inn a ha).2,Nat.lt_of_lt_of_le (h.inn a ha).2 k.size⟩,h.cap⟩
theorem SlX.own {w : World} {base : Nat} {e : TypeId} {s : Nat} {A : Option Addr} {n c : Nat} {cs : List (List Value)} {X : Nat→Prop} (h : Own w base e s A n c cs) (hs : 0 < s) (hX : ∀ a,A = some a→X a.block) : SlX w X s (A,n,c) cs :=
 ⟨h.rd hs,h.len,fun a ha=>⟨hX a ha,(h.lt a ha).2⟩,h.cap.1⟩
theorem SlX.nil_ (w : World) (X : Nat→Prop) (s : Nat) : SlX w X s (none,0,0) []:=⟨Rd.nil_ _ _ _,rfl,(fun a h=>by cases h),Nat.le_refl _⟩
mutual
def PatX (w : World) (X : Nat→Prop) : Pat→Pv→Prop
 | .node op cs ks,v=>v.1 = op∧SlX w X 1 v.2.1 (cs.map encN)∧∃ vs,SlX w X 3 v.2.2 (vs.map encPt)∧PatsX w X ks vs
def PatsX (w : World) (X : Nat→Prop) : List Pat→List Pv→Prop
 | [],vs=>vs = []
 | p :: ps,vs=>∃ v r,vs = v :: r∧PatX w X p v∧PatsX w X ps r
end
mutual
theorem PatX.keep {X X' : Nat→Prop} {w w' : World} (k : KeepX X X' w w') : ∀ {p : Pat} {v : Pv},PatX w X p v→PatX w' X' p v
 | .node op cs ks,v,h=>by
  simp only [PatX] at h ⊢
  obtain ⟨h1,h2,vs,h3,h4⟩:=h
  exact ⟨h1,h2.keep k,vs,h3.keep k,PatsX.keep k h4⟩
theorem PatsX.keep {X X' : Nat→Prop} {w w' : World} (k : KeepX X X' w w') : ∀ {ps : List Pat} {vs : List Pv},PatsX w X ps vs→PatsX w' X' ps vs
 | [],vs,h=>by simpa only [PatsX] using h
 | p :: ps,vs,h=>by
  simp only [PatsX] at h ⊢
  obtain ⟨v,r,h1,h2,h3⟩:=h
  exact ⟨v,r,h1,PatX.keep k h2,PatsX.keep k h3⟩
end
theorem PatX.below {X : Nat→Prop} {w w' : World} {p : Pat} {v : Pv} (h : PatX w X p v) (hb : Below w.heap.size w w') : PatX w' X p v:=h.keep (KeepX.below hb)
theorem PatsX.below {X : Nat→Prop} {w w' : World} {p : List Pat} {v : List Pv} (h : PatsX w X p v) (hb : Below w.heap.size w w') : PatsX w' X p v:=h.keep (KeepX.below hb)
theorem PatsX.len {X : Nat→Prop} {w : World} : ∀ {ps : List Pat} {vs : List Pv},PatsX w X ps vs→vs.length = ps.length
 | [],vs,h=>by simp only [PatsX] at h;rw [h];rfl
 | p :: ps,vs,h=>by
  simp only [PatsX] at h
  obtain ⟨v,r,rfl,h2,h3⟩:=h
  simp [PatsX.len h3]
theorem PatsX.at_ {X : Nat→Prop} {w : World} : ∀ {ps : List Pat} {vs : List Pv} {k : Nat} {p : Pat},PatsX w X ps vs→ps[k]? = some p→∃ v,vs[k]? = some v∧PatX w X p v
 | [],vs,k,p,h,hk=>by simp at hk
 | q :: ps,vs,k,p,h,hk=>by
  simp only [PatsX] at h
  obtain ⟨v,r,rfl,h2,h3⟩:=h
  cases k with
  | zero=>simp at hk;subst hk;exact ⟨v,by simp,h2⟩
  | succ k=>simp at hk;obtain ⟨u,hu,hp⟩:=PatsX.at_ h3 hk;exact ⟨u,by simpa using hu,hp⟩
theorem PatsX.snoc {X : Nat→Prop} {w : World} {p : Pat} {v : Pv} (hp : PatX w X p v) : ∀ {ps : List Pat} {vs : List Pv},PatsX w X ps vs→PatsX w X (ps++[p]) (vs++[v])
 | [],vs,h=>by simp only [PatsX] at h;subst h;simp only [List.nil_append,PatsX];exact ⟨v,[],rfl,hp,rfl⟩
 | q :: ps,vs,h=>by
  simp only [PatsX] at h
  obtain ⟨u,r,rfl,h2,h3⟩:=h
  simp only [List.cons_append,PatsX]
  exact ⟨u,r++[v],rfl,h2,PatsX.snoc hp h3⟩
theorem encPt_ok (l : List Pv) : ∀ y ∈ l.map encPt,y.length = 3∧∀ u ∈ y,u.oneCell' = true:=by
 intro y hy
 obtain ⟨x,_,rfl⟩:=List.mem_map.1 hy
 exact ⟨rfl,fun u hu=>by simp [encPt] at hu;rcases hu with rfl | rfl | rfl <;> rfl⟩
theorem SlX.atPt {w : World} {X : Nat→Prop} {v : Sv} {l : List Pv} {k : Nat} {x : Pv} (h : SlX w X 3 v (l.map encPt)) (hk : l[k]? = some x) :
  ∃ b off,v.1 = some ⟨b,off,none⟩∧w.cell? ⟨b,off+k*3,none⟩ = some (.int .i64 (x.1 : Int))∧w.cell? ⟨b,off+k*3+1,none⟩ = some (.slice x.2.1.1 x.2.1.2.1 x.2.1.2.2)∧w.cell? ⟨b,off+k*3+2,none⟩ = some (.slice x.2.2.1 x.2.2.2.1 x.2.2.2.2):=by
 obtain ⟨b,off,e,hc⟩:=h.rd (by intro e;cases l with | nil=>simp at hk | cons _ _=>simp at e)
 have h0:=hc k 0 (encPt x) _ (by simp [hk]) rfl
 have h1:=hc k 1 (encPt x) _ (by simp [hk]) rfl
 have h2:=hc k 2 (encPt x) _ (by simp [hk]) rfl
 exact ⟨b,off,e,by simpa using h0,h1,h2⟩
def encW (x : Nat) : List Value:=[.int .u64 (x : Int)]
theorem encW_ok (l : List Nat) : ∀ y ∈ l.map encW,y.length = 1∧∀ u ∈ y,u.oneCell' = true:=by
 intro y hy
 obtain ⟨x,_,rfl⟩:=List.mem_map.1 hy
 exact ⟨rfl,fun u hu=>by simp [encW] at hu;rcases hu with rfl;rfl⟩
def hasW (r : List Nat) (j : Nat) : Bool:=(r.getD (j / 64) 0).testBit (j % 64)
def orW (a b : List Nat) : List Nat:=List.zipWith (fun x y=>x ||| y) a b
def setW (r : List Nat) (j : Nat) : List Nat:=r.set (j / 64) (r.getD (j / 64) 0 ||| 2 ^ (j % 64))
structure Wide (k : Nat) (r : List Nat) : Prop where
 len : r.length = k
 lt : ∀ x ∈ r,x < 18446744073709551616
theorem Wide.at_ {k : Nat} {r : List Nat} (h : Wide k r) (i : Nat) : r.getD i 0 < 18446744073709551616:=by
 rw [List.getD_eq_getElem?_getD]
 cases hi : r[i]? with
 | none=>simp
 | some x=>exact h.lt x (List.mem_of_getElem? hi)
theorem Wide.zero (k : Nat) : Wide k (List.replicate k 0):=⟨by simp,fun x hx=>by rw [(List.mem_replicate.1 hx).2];omega⟩
theorem hasW_zero (k j : Nat) : hasW (List.replicate k 0) j = false:=by
 unfold hasW
 rw [List.getD_eq_getElem?_getD]
 cases hi : (List.replicate k 0)[j / 64]? with
 | none=>simp
 | some x=>rw [(List.mem_replicate.1 (List.mem_of_getElem? hi)).2];simp
theorem orW_get (a b : List Nat) (h : a.length = b.length) (i : Nat) : (orW a b).getD i 0 = (a.getD i 0 ||| b.getD i 0):=by
 unfold orW
 rw [List.getD_eq_getElem?_getD,List.getD_eq_getElem?_getD,List.getD_eq_getElem?_getD,List.getElem?_zipWith]
 rcases Nat.lt_or_ge i a.length with hl | hl
 ·rw [List.getElem?_eq_getElem hl,List.getElem?_eq_getElem (by omega : i < b.length)];rfl
 ·rw [List.getElem?_eq_none hl,List.getElem?_eq_none (by omega : b.length≤i)];rfl
theorem hasW_or {a b : List Nat} (h : a.length = b.length) (j : Nat) : hasW (orW a b) j = (hasW a j || hasW b j):=by
 unfold hasW
 rw [orW_get a b h,Nat.testBit_or]
theorem Wide.or {k : Nat} {a b : List Nat} (ha : Wide k a) (hb : Wide k b) : Wide k (orW a b):=by
 refine ⟨by unfold orW;rw [List.length_zipWith,ha.len,hb.len,Nat.min_self],fun x hx=>?_⟩
 obtain ⟨i,hi,e⟩:=List.getElem_of_mem hx
 have h1:=orW_get a b (by rw [ha.len,hb.len]) i
 rw [List.getD_eq_getElem?_getD,List.getElem?_eq_getElem hi,e] at h1
 simp only [Option.getD_some] at h1
 rw [h1]
 exact Nat.or_lt_two_pow (n:=64) (ha.at_ i) (hb.at_ i)
theorem hasW_set {r : List Nat} {j : Nat} (h : j / 64 < r.length) (i : Nat) : hasW (setW r j) i = (hasW r i || decide (i = j)):=by
 unfold hasW setW
 rw [List.getD_eq_getElem?_getD,List.getD_eq_getElem?_getD,List.getD_eq_getElem?_getD,List.getElem?_set]
 by_cases e : j / 64 = i / 64
 ·rw [if_pos e,if_pos h,Option.getD_some,Nat.testBit_or,e]
  congr 1
  rw [Nat.testBit_two_pow]
  exact decide_eq_decide.2 ⟨fun k=>by omega,fun k=>by omega⟩
 ·rw [if_neg e,decide_eq_false (by rintro rfl;exact e rfl),Bool.or_false]
theorem Wide.set_ {k : Nat} {r : List Nat} (h : Wide k r) (j : Nat) : Wide k (setW r j):=by
 refine ⟨by unfold setW;rw [List.length_set,h.len],fun x hx=>?_⟩
 rcases List.mem_or_eq_of_mem_set hx with hx | rfl
 ·exact h.lt x hx
 ·exact Nat.or_lt_two_pow (n:=64) (h.at_ _) (Nat.pow_lt_pow_right (by omega) (Nat.mod_lt _ (by omega)))
end
section
open Go.RowKit
structure MtR (w : World) (v : Sv) (n k : Nat) (C : List (List Nat)) : Prop where
 ex : ∃ rows : List Sv,Rd w 1 v.1 (rows.map encSl)∧rows.length = n∧v.2.1 = n∧C.length = n∧∀ (i : Nat) (r : Sv) (x : List Nat),rows[i]? = some r→C[i]? = some x→Rd w 1 r.1 (x.map encW)∧r.2.1 = k∧Wide k x
theorem MtR.below {w w' : World} {v : Sv} {n k : Nat} {C : List (List Nat)} (h : MtR w v n k C) (hb : Below w.heap.size w w') : MtR w' v n k C:=by
 obtain ⟨rows,h1,h2,h3,h4,h5⟩:=h.ex
 exact ⟨rows,h1.below hb,h2,h3,h4,fun i r x hr hx=>⟨(h5 i r x hr hx).1.below hb,(h5 i r x hr hx).2⟩⟩
theorem MtR.at_ {w : World} {v : Sv} {n k i : Nat} {C : List (List Nat)} (h : MtR w v n k C) (hi : i < n) :
  ∃ b off B c x,v.1 = some ⟨b,off,none⟩∧w.cell? ⟨b,off+i,none⟩ = some (.slice B k c)∧C[i]? = some x∧C.getD i [] = x∧Rd w 1 B (x.map encW)∧Wide k x:=by
 obtain ⟨rows,h1,h2,h3,h4,h5⟩:=h.ex
 obtain ⟨r,hr⟩ : ∃ r,rows[i]? = some r:=⟨_,List.getElem?_eq_getElem (by omega)⟩
 obtain ⟨x,hx⟩ : ∃ x,C[i]? = some x:=⟨_,List.getElem?_eq_getElem (by omega)⟩
 obtain ⟨b,off,e,hc⟩:=h1 (by intro e;have:=congrArg List.length e;rw [List.length_map,h2] at this;simp at this;omega)
 obtain ⟨g1,g2,g3⟩:=h5 i _ _ hr hx
 have h0:=hc i 0 (encSl r) (.slice r.1 r.2.1 r.2.2) (by simp [hr]) rfl
 rw [g2] at h0
 exact ⟨b,off,_,_,_,e,by simpa using h0,hx,by rw [List.getD_eq_getElem?_getD,hx];rfl,g1,g3⟩
structure MtO (w : World) (base : Nat) (A : Option Addr) (n c k : Nat) (rows : List Sv) (C : List (List Nat)) : Prop where
 sl : Own w base 275 1 A n c (rows.map encSl)
 len : C.length = n
 row : ∀ (i : Nat) (r : Sv) (x : List Nat),rows[i]? = some r→C[i]? = some x→Own w base 308 1 r.1 r.2.1 r.2.2 (x.map encW)∧Wide k x
 apart : ∀ (i j : Nat) (r q : Sv) (a b : Addr),rows[i]? = some r→rows[j]? = some q→r.1 = some a→q.1 = some b→a.block = b.block→i = j
theorem types_mt : (275 : TypeId) ≠ 308:=by decide
section
variable {w w' : World} {base n c k : Nat} {A : Option Addr} {rows : List Sv} {C : List (List Nat)}
theorem MtO.rlen (h : MtO w base A n c k rows C) : rows.length = n:=by have:=h.sl.len;rwa [List.length_map] at this
theorem MtO.below (h : MtO w base A n c k rows C) (hb : Below w.heap.size w w') : MtO w' base A n c k rows C :=
 ⟨h.sl.below hb,h.len,fun i r x hr hx=>⟨(h.row i r x hr hx).1.below hb,(h.row i r x hr hx).2⟩,h.apart⟩
theorem MtO.more {b' : Nat} (h : MtO w base A n c k rows C) (hb : b'≤base) : MtO w b' A n c k rows C :=
 ⟨h.sl.more hb,h.len,fun i r x hr hx=>⟨(h.row i r x hr hx).1.more hb,(h.row i r x hr hx).2⟩,h.apart⟩
theorem MtO.nil_ (w : World) (base k : Nat) : MtO w base none 0 0 k [] []:=⟨Own.nil_ _ _ _ _,rfl,fun i r x h=>by simp at h,fun i j r q a b h=>by simp at h⟩
theorem MtO.rd (h : MtO w base A n c k rows C) : MtR w (A,n,c) n k C :=
 ⟨rows,h.sl.rd (by omega),h.rlen,rfl,h.len,fun i r x hr hx=>⟨(h.row i r x hr hx).1.rd (by omega),by
  have h1:=(h.row i r x hr hx).1.len
  have h2:=(h.row i r x hr hx).2.len
  rw [List.length_map] at h1
  omega,(h.row i r x hr hx).2⟩⟩
theorem MtO.at_ {i : Nat} (h : MtO w base A n c k rows C) (hi : i < n) (hk : 0 < k) :
  ∃ b g d x,A = some ⟨b,0,none⟩∧rows[i]? = some (some ⟨g,0,none⟩,k,d)∧w.cell? ⟨b,i,none⟩ = some (.slice (some ⟨g,0,none⟩) k d)∧C[i]? = some x∧C.getD i [] = x∧Own w base 308 1 (some ⟨g,0,none⟩) k d (x.map encW)∧Wide k x:=by
 obtain ⟨b,rfl,hb,_⟩:=h.sl.form (by omega)
 obtain ⟨r,hr⟩ : ∃ r,rows[i]? = some r:=⟨_,List.getElem?_eq_getElem (by have:=h.rlen;omega)⟩
 obtain ⟨x,hx⟩ : ∃ x,C[i]? = some x:=⟨_,List.getElem?_eq_getElem (by have:=h.len;omega)⟩
 obtain ⟨g1,g2⟩:=h.row i _ _ hr hx
 have hl : r.2.1 = k:=by have h1:=g1.len;rw [List.length_map,g2.len] at h1;exact h1.symm
 obtain ⟨r1,r2,r3⟩:=r
 simp only at g1 hl
 subst hl
 obtain ⟨g,rfl,_,_⟩:=g1.form hk
 have h0:=h.sl.cell (k:=i) (j:=0) (x:=encSl (some ⟨g,0,none⟩,r2,r3)) (u:=.slice (some ⟨g,0,none⟩) r2 r3) (by simp [hr]) rfl
 exact ⟨b,g,r3,_,rfl,hr,by simpa using h0,hx,by rw [List.getD_eq_getElem?_getD,hx];rfl,g1,g2⟩
theorem MtO.snoc {w3 : World} {A3 : Option Addr} {c3 : Nat} {o : Obj} {r : Sv} {x : List Nat} (h : MtO w base A n c k rows C) (hr : Own w base 308 1 r.1 r.2.1 r.2.2 (x.map encW)) (hx : Wide k x)
  (hf : ∀ (i : Nat) (q : Sv) (a b : Addr),rows[i]? = some q→q.1 = some a→r.1 = some b→a.block ≠ b.block)
  (ho3 : Own w3 base 275 1 A3 (n+1) c3 ((rows++[r]).map encSl)) (hg3 : (w.alloc o).grownBy w3 (A.map (·.block))) : MtO w3 base A3 (n+1) c3 k (rows++[r]) (C++[x]):=by
 have hg : w.grownBy w3 (A.map (·.block)):=grown_alloc hg3
 have keep : ∀ {r : Sv} {x : List Nat},Own w base 308 1 r.1 r.2.1 r.2.2 (x.map encW)→Own w3 base 308 1 r.1 r.2.1 r.2.2 (x.map encW):=fun h1=>h1.grown hg (fun a ha e=>by
  cases hA : A with
  | none=>rw [hA] at e;cases e
  | some b=>rw [hA] at e;simp at e;exact h.sl.apart h1 types_mt b a hA ha e.symm)
 have hl:=h.rlen
 refine ⟨ho3,by simp [h.len],fun i q y hq hy=>?_,fun i j q z a b hq hz ha hb e=>?_⟩
 ·rcases Nat.lt_trichotomy i n with hi | hi | hi
  ·rw [List.getElem?_append_left (by omega)] at hq
   rw [List.getElem?_append_left (by have:=h.len;omega)] at hy
   exact ⟨keep (h.row i q y hq hy).1,(h.row i q y hq hy).2⟩
  ·rw [List.getElem?_append_right (by omega),hi,hl,Nat.sub_self] at hq
   rw [List.getElem?_append_right (by have:=h.len;omega),hi,h.len,Nat.sub_self] at hy
   simp at hq hy
   subst hq;subst hy
   exact ⟨keep hr,hx⟩
  ·rw [List.getElem?_eq_none (by simp;omega)] at hq;cases hq
 ·have hlt : ∀ {i : Nat} {q : Sv},(rows++[r])[i]? = some q→(i < n∧rows[i]? = some q)∨(i = n∧q = r):=fun {i q} hq=>by
   rcases Nat.lt_trichotomy i n with hi | hi | hi
   ·rw [List.getElem?_append_left (by omega)] at hq;exact .inl ⟨hi,hq⟩
   ·rw [List.getElem?_append_right (by omega),hi,hl,Nat.sub_self] at hq;simp at hq;exact .inr ⟨hi,hq.symm⟩
   ·rw [List.getElem?_eq_none (by simp;omega)] at hq;cases hq
  rcases hlt hq with ⟨hi,kq⟩ | ⟨hi,eq_⟩ <;> rcases hlt hz with ⟨hj,kz⟩ | ⟨hj,ez⟩
  ·exact h.apart i j q z a b kq kz ha hb e
  ·subst ez;exact absurd e (hf i q a b kq ha hb)
  ·subst eq_;exact absurd e.symm (hf j z b a kz hb ha)
  ·omega
theorem MtO.wrote {i g d : Nat} {x : List Nat} (h : MtO w base A n c k rows C) (hr : rows[i]? = some (some ⟨g,0,none⟩,k,d)) (hg : w.grownBy w' (some g)) (ho : Own w' base 308 1 (some ⟨g,0,none⟩) k d (x.map encW)) (hx : Wide k x) :
  MtO w' base A n c k rows (C.set i x):=by
 have hl:=h.rlen
 have hi : i < n:=by have:=(List.getElem?_eq_some_iff.1 hr).1;omega
 obtain ⟨y,hC⟩ : ∃ y,C[i]? = some y:=⟨_,List.getElem?_eq_getElem (by have:=h.len;omega)⟩
 have hrow:=(h.row i _ _ hr hC).1
 refine ⟨h.sl.grown hg (fun a ha e=>h.sl.apart hrow types_mt a ⟨g,0,none⟩ ha rfl (by injection e)),by rw [List.length_set];exact h.len,fun j q y hq hy=>?_,h.apart⟩
 by_cases e : i = j
 ·subst e
  rw [hr] at hq
  injection hq with hq
  subst hq
  rw [List.getElem?_set_self (by have:=h.len;omega)] at hy
  injection hy with hy
  subst hy
  exact ⟨ho,hx⟩
 ·rw [List.getElem?_set_ne e] at hy
  obtain ⟨h1,h2⟩:=h.row j q y hq hy
  exact ⟨h1.grown hg (fun a ha e2=>e (h.apart i j _ _ ⟨g,0,none⟩ a hr hq rfl ha (by injection e2 with e2;exact e2.symm))),h2⟩
end
def BitsM (n : Nat) (C : List (List Nat)) (m : Mtx) : Prop:=∀ i j,i < n→j < n→hasW (C.getD i []) j = m i j
theorem getD_set {α : Type} {C : List α} {i j : Nat} {x d : α} (h : i < C.length) : (C.set i x).getD j d = if i = j then x else C.getD j d:=by
 rw [List.getD_eq_getElem?_getD,List.getD_eq_getElem?_getD,List.getElem?_set]
 by_cases e : i = j
 ·rw [if_pos e,if_pos h,if_pos e];rfl
 ·rw [if_neg e,if_neg e]
end
section
open Go.RowKit
theorem Rd.atW {w : World} {A : Option Addr} {l : List Nat} {k x : Nat} (h : Rd w 1 A (l.map encW)) (hk : l[k]? = some x) : ∃ b off,A = some ⟨b,off,none⟩∧w.cell? ⟨b,off+k,none⟩ = some (.int .u64 (x : Nat)):=by
 obtain ⟨b,off,rfl,hc⟩:=h (by intro e;cases l with | nil=>simp at hk | cons _ _=>simp at e)
 have h0:=hc k 0 (encW x) (.int .u64 (x : Nat)) (by simp [hk]) rfl
 exact ⟨b,off,rfl,by simpa using h0⟩
theorem bits_test (y m : Nat) (h : y < 18446744073709551616) : (bits BinOp.and IntKind.u64 ((y : Int) / 2 ^ m) 1 == (1 : Int)) = y.testBit m:=by
 have e : (y : Int) / 2 ^ m = ((y / 2 ^ m : Nat) : Int):=by simp
 have hle : y / 2 ^ m≤y:=Nat.div_le_self _ _
 rw [e,Nat.testBit_eq_decide_div_mod_eq]
 generalize y / 2 ^ m = z at hle ⊢
 rw [and_one_u64 _ (by omega) (by omega),Bool.eq_iff_iff,beq_iff_eq,decide_eq_true_iff]
 omega
theorem jhas_any (A : Option Addr) (n c i : Nat) (x : List Nat) (w : World) (hA : Rd w 1 A (x.map encW)) (hx : Wide n x) (hi : i / 64 < n) (hz : i≤4000000) :
  Calls Tryz.prog 216 #[.slice A n c,.int .i64 i] w fun e w'=>e = .returned (.bool (hasW x i))∧w = w':=by
 obtain ⟨y,hy⟩ : ∃ y,x[i / 64]? = some y:=⟨_,List.getElem?_eq_getElem (by have:=hx.len;omega)⟩
 have HV : Hid (hasW x i = y.testBit (i % 64)):=Lib.hid (by unfold hasW;rw [List.getD_eq_getElem?_getD,hy];rfl)
 have hlt:=hx.lt y (List.mem_of_getElem? hy)
 obtain ⟨b,off,rfl,hc⟩:=hA.atW hy
 obtain ⟨d,hd⟩ : ∃ d,i / 64 = d:=⟨_,rfl⟩
 obtain ⟨m,hm⟩ : ∃ m,i % 64 = m:=⟨_,rfl⟩
 have q1 : Int.tdiv (i : Int) 64 = (d : Int):=by subst hd;rfl
 have q2 : Int.tmod (i : Int) 64 = (m : Int):=by subst hm;rfl
 have hm64 : m < 64:=by omega
 have hdz : d < n:=by omega
 have hdz2 : d≤4000000:=by omega
 rw [hm] at HV
 rw [hd] at hc
 clear hd hm hy hi
 go_enter Tryz.func216,Tryz.ntmps216
 go_wp2
 go_ret
 exact ⟨by rw [HV.out,← bits_test y m hlt];rfl,rfl⟩
theorem jset_any (base g n c i : Nat) (x : List Nat) (w : World) (hA : Own w base 308 1 (some ⟨g,0,none⟩) n c (x.map encW)) (hx : Wide n x) (hi : i / 64 < n) (hz : i≤4000000) :
  Calls Tryz.prog 248 #[.slice (some ⟨g,0,none⟩) n c,.int .i64 i] w fun e w'=>e = .returned (.tuple #[])∧Own w' base 308 1 (some ⟨g,0,none⟩) n c ((setW x i).map encW)∧w.grownBy w' (some g):=by
 obtain ⟨y,hy⟩ : ∃ y,x[i / 64]? = some y:=⟨_,List.getElem?_eq_getElem (by have:=hx.len;omega)⟩
 have HV : Hid (setW x i = x.set (i / 64) (y ||| 2 ^ (i % 64))):=Lib.hid (by unfold setW;rw [List.getD_eq_getElem?_getD,hy];rfl)
 have hlt:=hx.lt y (List.mem_of_getElem? hy)
 have hc:=hA.cell (k:=i / 64) (j:=0) (x:=encW y) (u:=.int .u64 (y : Nat)) (by simp [hy]) rfl
 have hf:=hA.frozen (i / 64)
 have hO:=Lib.hid (fun v=>hA.stored (k:=i / 64) (j:=0) (x:=encW y) (by simp [hy]) (by omega) v)
 obtain ⟨d,hd⟩ : ∃ d,i / 64 = d:=⟨_,rfl⟩
 obtain ⟨m,hm⟩ : ∃ m,i % 64 = m:=⟨_,rfl⟩
 have q1 : Int.tdiv (i : Int) 64 = (d : Int):=by subst hd;rfl
 have q2 : Int.tmod (i : Int) 64 = (m : Int):=by subst hm;rfl
 have hm64 : m < 64:=by omega
 have hdz : d < n:=by omega
 have hdz2 : d≤4000000:=by omega
 rw [hm] at HV
 simp only [Nat.mul_one,Nat.add_zero] at hc hO
 rw [hd] at hc hf hO HV
 clear hd hm hi
 go_enter Tryz.func248,Tryz.ntmps248
 go_wp2
 go_end0
 have hw : IntKind.u64.wrap ((2 : Int) ^ m) = ((2 ^ m : Nat) : Int):=by
  have h2 : 2 ^ m < 18446744073709551616:=Nat.pow_lt_pow_right (a:=2) (m:=m) (n:=64) (by omega) hm64
  have e : ((2 : Int) ^ m) = ((2 ^ m : Nat) : Int):=by simp
  rw [e]
  generalize 2 ^ m = z at h2 ⊢
  rw [IntKind.wrap_u64];omega
 have h2 : 2 ^ m < 18446744073709551616:=Nat.pow_lt_pow_right (a:=2) (m:=m) (n:=64) (by omega) hm64
 rw [hw,bits_or_u64_nat y (2 ^ m) hlt h2]
 refine ⟨rfl,?_,only_setCell (only_refl _ _) (.inl rfl) _⟩
 rw [HV.out,List.map_set]
 exact hO.out _
def orTo (i : Nat) (x y : List Nat) : List Nat:=(orW x y).take i++x.drop i
theorem orTo_all {k : Nat} {x y : List Nat} (hx : Wide k x) (hy : Wide k y) : orTo k x y = orW x y:=by
 unfold orTo
 rw [List.take_of_length_le (by rw [(hx.or hy).len];omega),List.drop_of_length_le (by rw [hx.len];omega),List.append_nil]
theorem orTo_at {k i : Nat} {x y : List Nat} {a b : Nat} (hx : Wide k x) (hy : Wide k y) (ha : x[i]? = some a) (hb : y[i]? = some b) : (orTo i x y)[i]? = some a∧(orTo i x y).set i (a ||| b) = orTo (i+1) x y:=by
 have hi : i < k:=by have:=(List.getElem?_eq_some_iff.1 ha).1;rw [hx.len] at this;exact this
 have hl : ((orW x y).take i).length = i:=by rw [List.length_take,(hx.or hy).len];omega
 have ho : (orW x y)[i]? = some (a ||| b):=by unfold orW;rw [List.getElem?_zipWith,ha,hb]
 have hd : x.drop i = a :: x.drop (i+1):=by
  obtain ⟨h1,h2⟩:=List.getElem?_eq_some_iff.1 ha
  rw [List.drop_eq_getElem_cons h1,h2]
 unfold orTo
 constructor
 ·rw [List.getElem?_append_right (by omega),hl,Nat.sub_self,hd];rfl
 ·rw [List.set_append_right _ _ (by omega),hl,Nat.sub_self,hd,zE,List.take_add_one,ho,List.append_assoc];rfl
theorem jadd_any (base g n c m d : Nat) (B : Option Addr) (x y : List Nat) (w : World) (hA : Own w base 308 1 (some ⟨g,0,none⟩) n c (x.map encW)) (hx : Wide n x) (hB : Rd w 1 B (y.map encW)) (hy : Wide n y)
  (hg : ∀ a,B = some a→a.block ≠ g) (hm : m = n) (hn : n≤4000000) :
  Calls Tryz.prog 285 #[.slice (some ⟨g,0,none⟩) n c,.slice B m d] w fun e w'=>e = .returned (.tuple #[])∧Own w' base 308 1 (some ⟨g,0,none⟩) n c ((orW x y).map encW)∧w.grownBy w' (some g):=by
 subst hm
 have HE:=Lib.hid (orTo_all hx hy)
 go_enter Tryz.func285,Tryz.ntmps285
 go_wp2
 go_loopw [4] (fun v wr=>∃ i : Nat,v = .int .i64 i∧i≤m∧Own wr base 308 1 (some ⟨g,0,none⟩) m c ((orTo i x y).map encW)∧Rd wr 1 B (y.map encW)∧w.grownBy wr (some g)) (fun v _=>m - (intOf v).toNat)
 case atStart=>exact ⟨0,rfl,by omega,hA,hB,only_refl _ _⟩
 case round =>
  obtain ⟨i,rfl,hi,ho,hb,hgr⟩:=hrel
  by_cases hlt : i < m
  ·obtain ⟨a,ha⟩ : ∃ a,x[i]? = some a:=⟨_,List.getElem?_eq_getElem (by have:=hx.len;omega)⟩
   obtain ⟨b,hb'⟩ : ∃ b,y[i]? = some b:=⟨_,List.getElem?_eq_getElem (by have:=hy.len;omega)⟩
   have haz:=hx.lt a (List.mem_of_getElem? ha)
   have hbz:=hy.lt b (List.mem_of_getElem? hb')
   obtain ⟨e1,e2⟩:=orTo_at hx hy ha hb'
   have E2:=Lib.hid e2
   have E3:=Lib.hid e1
   have c1:=ho.cell (k:=i) (j:=0) (x:=encW a) (u:=.int .u64 (a : Nat)) (by simp [e1]) rfl
   have f1:=ho.frozen i
   obtain ⟨bk,off,rfl,c2⟩:=hb.atW hb'
   simp only [Nat.mul_one,Nat.add_zero] at c1
   have hor:=bits_or_u64_nat a b haz hbz
   clear ha hb' e1 e2 haz hbz
   go_wp2_with fail
   go_region
   go_wp2
   go_roundw
   case rel =>
    refine ⟨i+1,by go_num,by omega,?_,(hb.setCell (p:=⟨g,i,none⟩) (fun a ha=>hg a ha) _).drew,only_drew (only_setCell hgr (.inl rfl) _)⟩
    have h1:=(ho.stored (k:=i) (j:=0) (x:=encW a) (by rw [List.getElem?_map,E3.out];rfl) (by omega) (.int .u64 ((a ||| b : Nat) : Int))).drew
    simp only [Nat.mul_one,Nat.add_zero] at h1
    rw [← E2.out,List.map_set]
    exact h1
   case measure=>simp [intOf];omega
  ·obtain rfl : i = m:=by omega
   go_wp2
   go_end0
   exact ⟨rfl,by rw [← HE.out];exact ho,hgr⟩
theorem or_self : ∀ x : List Nat,orW x x = x
 | []=>rfl
 | a :: r=>by show (a ||| a) :: orW r r = _;rw [Nat.or_self,or_self r]
theorem jadd_self (base g n c : Nat) (x : List Nat) (w : World) (hA : Own w base 308 1 (some ⟨g,0,none⟩) n c (x.map encW)) (hx : Wide n x) (hn : n≤4000000) :
  Calls Tryz.prog 285 #[.slice (some ⟨g,0,none⟩) n c,.slice (some ⟨g,0,none⟩) n c] w fun e w'=>e = .returned (.tuple #[])∧Own w' base 308 1 (some ⟨g,0,none⟩) n c ((orW x x).map encW)∧w.grownBy w' (some g):=by
 rw [or_self]
 go_enter Tryz.func285,Tryz.ntmps285
 go_wp2
 go_loopw [4] (fun v wr=>∃ i : Nat,v = .int .i64 i∧i≤n∧Own wr base 308 1 (some ⟨g,0,none⟩) n c (x.map encW)∧w.grownBy wr (some g)) (fun v _=>n - (intOf v).toNat)
 case atStart=>exact ⟨0,rfl,by omega,hA,only_refl _ _⟩
 case round =>
  obtain ⟨i,rfl,hi,ho,hgr⟩:=hrel
  by_cases hlt : i < n
  ·obtain ⟨a,ha⟩ : ∃ a,x[i]? = some a:=⟨_,List.getElem?_eq_getElem (by have:=hx.len;omega)⟩
   have E3:=Lib.hid ha
   have haz:=hx.lt a (List.mem_of_getElem? ha)
   have c1:=ho.cell (k:=i) (j:=0) (x:=encW a) (u:=.int .u64 (a : Nat)) (by simp [ha]) rfl
   have f1:=ho.frozen i
   simp only [Nat.mul_one,Nat.add_zero] at c1
   have hor:=bits_or_u64_nat a a haz haz
   rw [Nat.or_self] at hor
   clear ha haz
   go_wp2_with fail
   go_region
   go_wp2
   go_roundw
   case rel =>
    refine ⟨i+1,by go_num,by omega,?_,only_drew (only_setCell hgr (.inl rfl) _)⟩
    have h1:=(ho.stored (k:=i) (j:=0) (x:=encW a) (by simp [E3.out]) (by omega) (.int .u64 (a : Int))).drew
    simp only [Nat.mul_one,Nat.add_zero] at h1
    have e : (x.map encW).set i ((encW a).set 0 (.int .u64 (a : Int))) = x.map encW:=by
     refine List.ext_getElem? fun j=>?_
     rw [List.getElem?_set]
     split
     ·rename_i h;subst h;split
      ·rw [List.getElem?_map,E3.out];rfl
      ·rw [List.getElem?_eq_none (by omega)]
     ·rfl
    rw [e] at h1
    exact h1
   case measure=>simp [intOf];omega
  ·obtain rfl : i = n:=by omega
   go_wp2
   go_end0
   exact ⟨rfl,ho,hgr⟩
end
section
open Go.RowKit
theorem infoRow : (Tryz.prog.info? 275).map (fun i=>(i.zero,i.size,i.bytes)) = some (some (.slice none 0 0),1,24):=by kernel_rfl
theorem infoU64 : (Tryz.prog.info? 308).map (fun i=>(i.zero,i.size,i.bytes)) = some (some (.int .u64 0),1,8):=by kernel_rfl
theorem below_new {w w' : World} (h : w.grownBy w' none) : Below w.heap.size w w':=⟨h.os,h.tape,h.output,h.size,fun k hk=>h.block k hk (fun e=>by cases e)⟩
theorem made_zero (n : Nat) : (madeCells (Value.int .u64 0).cells (n*1)).toList = ((List.replicate n 0).map encW).flatten:=by
 rw [Nat.mul_one]
 unfold madeCells
 rw [Array.toList_map,Array.toList_range]
 induction n with
 | zero=>rfl
 | succ n ih =>
  rw [List.range_succ,List.map_append,ih,List.replicate_succ',List.map_append,List.flatten_append]
  congr 1
  simp [encW,Value.cells,Nat.mod_one]
theorem own_made {w : World} {base g n : Nat} (h : w.ownsRow base 308 1 (.slice (some ⟨g,0,none⟩) n n) n (madeCells (Value.int .u64 0).cells (n*1)).toList) : Own w base 308 1 (some ⟨g,0,none⟩) n n ((List.replicate n 0).map encW) :=
 ⟨by simp,fun x hx=>(encW_ok _ x hx).1,by rw [← made_zero];exact h⟩
def zeroC (n k : Nat) : List (List Nat):=List.replicate n (List.replicate k 0)
theorem jnone_any (n : Nat) (w : World) (hn : n≤1000000) :
  Calls Tryz.prog 247 #[.int .i64 n] w fun e w'=>∃ A c rows,e = .returned (.slice A n c)∧MtO w' w.heap.size A n c (n / 64+1) rows (zeroC n (n / 64+1))∧Below w.heap.size w w':=by
 obtain ⟨i0,hi0,hz0,hz1,hz2⟩:=info_parts infoRow
 obtain ⟨j0,hj0,hy0,hy1,hy2⟩:=info_parts infoU64
 obtain ⟨d,hd⟩ : ∃ d,n / 64 = d:=⟨_,rfl⟩
 have q1 : Int.tdiv (n : Int) 64 = (d : Int):=by subst hd;rfl
 have hdz : d≤1000000:=by omega
 rw [hd]
 clear hd
 go_enter Tryz.func247,Tryz.ntmps247
 go_wp2
 go_loopw [3,4] (fun u v wr=>∃ (i : Nat) (A : Option Addr) (c : Nat) (rows : List Sv),u = .slice A i c∧v = .int .i64 i∧i≤n∧MtO wr w.heap.size A i c (d+1) rows (zeroC i (d+1))∧Below w.heap.size w wr) (fun _ v _=>n - (intOf v).toNat)
 case atStart=>exact ⟨0,none,0,[],rfl,rfl,by omega,MtO.nil_ _ _ _,Below.refl _ _⟩
 case round =>
  obtain ⟨i,A,c,rows,rfl,rfl,hi,ho,hb⟩:=hrel
  have hsz:=hb.size
  have hlen:=ho.rlen
  by_cases hlt : i < n
  ·go_wp2_with (first
    | (at_make;go_must (refine wpList_make_full _ rfl (.tmp 13) (.tmp 13) 275 rfl w.heap.size 308 j0 (.int .u64 0) 1 Tryz.underlying275 hj0 hy0 hy1 .i64 .i64 _ _ (d+1) rfl rfl (by omega) (by omega) (by rw [hy2];omega) (by unfold maxLen;omega) hsz ?_);intro w2 ho2 hg2)
    | (at_builtin;go_must (refine wpList_app rfl (.tmp 10) (.tmp 15) _ rfl w.heap.size 275 i0 _ 1 24 Tryz.underlying272 hi0 hz0 hz1 hz2 rfl (by omega) A i c (rows.map encSl) rfl ((ho.below (below_new hg2)).sl.alloc _) _ 1 1 [encSl (some ⟨wr.heap.size,0,none⟩,d+1,d+1)] rfl rfl (Rd.newAt (by simp) rfl) (encSl_ok [_]) (by unfold maxLen;omega) (by omega) (by have:=hg2.size;simp;omega) ?_);intro A3 c3 w3 ho3 hg3 hA3))
   have hfr : ∀ (j : Nat) (q : Sv) (a b : Addr),rows[j]? = some q→q.1 = some a→(some ⟨wr.heap.size,0,none⟩ : Option Addr) = some b→a.block ≠ b.block:=fun j q a b hq ha hb e=>by
    injection hb with hb
    subst hb
    obtain ⟨x,hx⟩ : ∃ x,(zeroC i (d+1))[j]? = some x:=⟨_,List.getElem?_eq_getElem (by have:=(List.getElem?_eq_some_iff.1 hq).1;have:=ho.len;omega)⟩
    have:=((ho.row j q x hq hx).1.lt a ha).2
    simp only at e
    omega
   have hm:=(ho.below (below_new hg2)).snoc (r:=(some ⟨wr.heap.size,0,none⟩,d+1,d+1)) (x:=List.replicate (d+1) 0) (own_made ho2) (Wide.zero _) hfr (by rw [List.map_append];exact ho3) hg3
   have hb3 : Below w.heap.size w w3:=below_app ((hb.trans ((below_new hg2).mono hsz)).alloc (by have:=hg2.size;omega) _) hg3 (by have:=hg2.size;simp;omega) (fun a ha=>(ho.sl.lt a ha).1)
   go_roundw
   case rel=>exact ⟨i+1,A3,c3,_,rfl,by go_num,by omega,by rw [show zeroC (i+1) (d+1) = zeroC i (d+1)++[List.replicate (d+1) 0] from List.replicate_succ'];exact hm,hb3⟩
   case measure=>simp [intOf];omega
  ·obtain rfl : i = n:=by omega
   go_wp2
   go_ret
   exact ⟨A,c,rows,rfl,ho,hb⟩
theorem zero_at {n k i : Nat} (hi : i < n) : (zeroC n k).getD i [] = List.replicate k 0:=by unfold zeroC;rw [List.getD_eq_getElem?_getD,List.getElem?_replicate,if_pos hi];rfl
theorem zero_bits (n k : Nat) : BitsM n (zeroC n k) noneM:=fun i j hi _=>by rw [zero_at hi,hasW_zero];rfl
theorem BitsM.step {n i : Nat} {C : List (List Nat)} {m m' : Mtx} {x : List Nat} (h : BitsM n C m) (hi : i < C.length) (h1 : ∀ j,j < n→hasW x j = m' i j) (h2 : ∀ y j,y < n→j < n→y ≠ i→m' y j = m y j) : BitsM n (C.set i x) m':=fun y j hy hj=>by
 rw [getD_set hi]
 by_cases e : i = y
 ·rw [if_pos e];subst e;exact h1 j hj
 ·rw [if_neg e,h y j hy hj,h2 y j hy hj (fun k=>e k.symm)]
theorem BitsM.congr {n : Nat} {C : List (List Nat)} {m m' : Mtx} (h : BitsM n C m) (e : ∀ i j,i < n→j < n→m' i j = m i j) : BitsM n C m':=fun i j hi hj=>by rw [h i j hi hj,e i j hi hj]
theorem BitsM.row {n i : Nat} {C : List (List Nat)} {m : Mtx} {x : List Nat} (h : BitsM n C m) (hx : C.getD i [] = x) (hi : i < n) : ∀ j,j < n→hasW x j = m i j:=fun j hj=>by rw [← hx];exact h i j hi hj
def MtEnd (w : World) (n : Nat) (m : Mtx) (e : Ending) (w' : World) : Prop:=∃ A c rows C,e = .returned (.slice A n c)∧MtO w' w.heap.size A n c (n / 64+1) rows C∧BitsM n C m∧Below w.heap.size w w'
theorem jown_any (n : Nat) (w : World) (hn : n≤1000000) : Calls Tryz.prog 249 #[.int .i64 n] w (MtEnd w n ownM):=by
 have HN:=Lib.hid (jnone_any n w hn)
 obtain ⟨k,Hk⟩ : ∃ k,Hid (n / 64+1 = k):=⟨_,Lib.hid rfl⟩
 have hk0 : 0 < k:=by have:=Hk.out;omega
 rw [Hk.out] at HN
 unfold MtEnd
 rw [Hk.out]
 go_enter Tryz.func249,Tryz.ntmps249
 go_wp2_with fail
 refine HN.out.mono ?_
 rintro e w1 ⟨A,c,rows,rfl,ho1,hb1⟩
 have HZ:=Lib.hid (zero_bits n k)
 generalize zeroC n k = C0 at ho1 HZ
 clear HN
 go_wp2_with fail
 go_loopw [4] (fun v wr=>∃ (i : Nat) (C : List (List Nat)),v = .int .i64 i∧i≤n∧MtO wr w.heap.size A n c k rows C∧Hid (BitsM n C fun x j=>decide (x < i) && decide (x = j))∧Below w.heap.size w wr) (fun v _=>n - (intOf v).toNat)
 case atStart=>exact ⟨0,C0,rfl,by omega,ho1,Lib.hid (HZ.out.congr fun i j _ _=>by simp [noneM]),hb1⟩
 case round =>
  obtain ⟨i,C,rfl,hi,ho,HB,hb⟩:=hrel
  have hsz:=hb.size
  by_cases hlt : i < n
  ·obtain ⟨bk,g,d,x,rfl,hr,hc,hx,hx2,hox,hwx⟩:=ho.at_ hlt hk0
   have HS:=Lib.hid (jset_any w.heap.size g k d i x wr hox hwx (by have:=Hk.out;omega) (by omega))
   have HBx:=Lib.hid (HB.out.row hx2 hlt)
   have HC:=Lib.hid (show i < C.length by rw [ho.len];exact hlt)
   have hgl:=(hox.lt _ rfl).1
   clear hx hx2
   go_wp2_with fail
   refine HS.out.mono ?_
   rintro e w2 ⟨rfl,ho2,hg2⟩
   have hm:=ho.wrote hr hg2 ho2 (hwx.set_ i)
   have hb2 : Below w.heap.size w w2:=hb.trans (below_only hg2 hsz hgl)
   go_wp2
   go_roundw
   case rel =>
    refine ⟨i+1,_,by go_num,by omega,hm,Lib.hid (HB.out.step HC.out (fun j hj=>?_) (fun y j _ _ hy=>?_)),hb2⟩
    ·rw [hasW_set (by rw [hwx.len];have:=Hk.out;omega),HBx.out j hj,decide_eq_true (by omega : i < i+1),decide_eq_false (by omega : ¬ i < i)]
     simp only [Bool.false_and,Bool.false_or,Bool.true_and]
     exact decide_eq_decide.2 ⟨Eq.symm,Eq.symm⟩
    ·congr 1
     exact decide_eq_decide.2 (by omega)
   case measure=>simp [intOf];omega
  ·obtain rfl : i = n:=by omega
   go_wp2
   go_ret
   exact ⟨A,c,rows,C,rfl,ho,HB.out.congr fun x j hx _=>by unfold ownM;rw [decide_eq_true hx,Bool.true_and],hb⟩
end
section
open Go.RowKit
theorem Rd.off {w : World} {A : Option Addr} {l : List Nat} {k g : Nat} (h : Rd w 1 A (l.map encW)) (hk : Wide k l) (h0 : 0 < k) (hg : w.heap.size≤g) : ∀ a,A = some a→a.block ≠ g:=fun a ha=>by
 obtain ⟨b,off,e,hb⟩:=h.lt (fun x hx=>by obtain ⟨y,_,rfl⟩:=List.mem_map.1 hx;simp [encW]) (fun e=>by
  have:=congrArg List.length e
  rw [List.length_map,hk.len] at this
  simp at this;omega)
 rw [e] at ha
 injection ha with ha
 subst ha
 simp only
 omega
theorem MtO.cell {w : World} {base n c k i bk g d : Nat} {rows : List Sv} {C : List (List Nat)} (h : MtO w base (some ⟨bk,0,none⟩) n c k rows C) (hr : rows[i]? = some (some ⟨g,0,none⟩,k,d)) : w.cell? ⟨bk,i,none⟩ = some (.slice (some ⟨g,0,none⟩) k d):=by
 have h0:=h.sl.cell (k:=i) (j:=0) (x:=encSl (some ⟨g,0,none⟩,k,d)) (u:=.slice (some ⟨g,0,none⟩) k d) (by simp [hr]) rfl
 simpa using h0
theorem drew_grown {w w' : World} {r : Option Nat} (h : w.drew.grownBy w' r) : w.grownBy w' r:=⟨h.os,h.tape,h.output,h.size,h.block⟩
theorem jboth_any (A1 A2 : Option Addr) (n c1 c2 : Nat) (CA CB : List (List Nat)) (a b : Mtx) (w : World) (hA : MtR w (A1,n,c1) n (n / 64+1) CA) (ha : BitsM n CA a) (hB : MtR w (A2,n,c2) n (n / 64+1) CB) (hb : BitsM n CB b) (hn : n≤1000000) :
  Calls Tryz.prog 251 #[.slice A1 n c1,.slice A2 n c2] w (MtEnd w n (bothM a b)):=by
 have HN:=Lib.hid (jnone_any n w hn)
 obtain ⟨k,Hk⟩ : ∃ k,Hid (n / 64+1 = k):=⟨_,Lib.hid rfl⟩
 have hk0 : 0 < k:=by have:=Hk.out;omega
 have hkz : k≤4000000:=by have:=Hk.out;omega
 rw [Hk.out] at HN hA hB
 unfold MtEnd
 rw [Hk.out]
 have Ha:=Lib.hid ha
 have Hb:=Lib.hid hb
 clear ha hb
 go_enter Tryz.func251,Tryz.ntmps251
 go_wp2_with fail
 refine HN.out.mono ?_
 rintro e w1 ⟨A,c,rows,rfl,ho1,hb1⟩
 have HZ:=Lib.hid (zero_bits n k)
 generalize zeroC n k = C0 at ho1 HZ
 clear HN
 go_wp2_with fail
 go_loopw [6] (fun v wr=>∃ (i : Nat) (C : List (List Nat)),v = .int .i64 i∧i≤n∧MtO wr w.heap.size A n c k rows C∧Hid (BitsM n C fun x j=>decide (x < i) && (a x j || b x j))∧Below w.heap.size w wr) (fun v _=>n - (intOf v).toNat)
 case atStart=>exact ⟨0,C0,rfl,by omega,ho1,Lib.hid (HZ.out.congr fun i j _ _=>by simp [noneM]),hb1⟩
 case round =>
  obtain ⟨i,C,rfl,hi,ho,HB,hbw⟩:=hrel
  have hsz:=hbw.size
  by_cases hlt : i < n
  ·obtain ⟨bk,g,d,x,rfl,hr,hc,hx,hx2,hox,hwx⟩:=ho.at_ hlt hk0
   obtain ⟨b1,o1,B1,d1,x1,e1,k1,-,hx1,hr1,hw1⟩:=hA.at_ hlt
   obtain ⟨b2,o2,B2,d2,x2,e2,k2,-,hx2',hr2,hw2⟩:=hB.at_ hlt
   simp only at e1 e2
   subst e1
   subst e2
   have hgl:=(hox.lt _ rfl).1
   have hga:=Rd.off hr1 hw1 hk0 hgl
   have hgb:=Rd.off hr2 hw2 hk0 hgl
   have k20:=k2
   replace k1:=cell_keep k1 hbw
   have hr1':=hr1.below hbw
   have HA1:=Lib.hid (jadd_any w.heap.size g k d k d1 B1 x x1 wr.drew hox.drew hwx hr1'.drew hw1 hga rfl hkz)
   have HBx:=Lib.hid (HB.out.row hx2 hlt)
   have HBa:=Lib.hid (Ha.out.row hx1 hlt)
   have HBb:=Lib.hid (Hb.out.row hx2' hlt)
   have HC:=Lib.hid (show i < C.length by rw [ho.len];exact hlt)
   clear hx hx2 hx1 hx2' k2
   go_wp2_with fail
   refine wp_region_noPanic ?_
   go_region_law (go_simp;go_at_call 285;refine HA1.out.mono ?_;rintro e wz ⟨rfl,ho2,hg2⟩)
   all_goals
    refine NoPanic.normal ?_
    have hg2':=drew_grown hg2
    have hm1:=ho.wrote hr hg2' ho2 (hwx.or hw1)
    have hb2 : Below w.heap.size w wz:=hbw.trans (below_only hg2' hsz hgl)
    have hsz2:=hb2.size
    have hc2:=hm1.cell hr
    have k2':=cell_keep k20 hb2
    have HA2:=Lib.hid (jadd_any w.heap.size g k d k d2 B2 (orW x x1) x2 wz.drew ho2.drew (hwx.or hw1) (hr2.below hb2).drew hw2 hgb rfl hkz)
    clear HA1 hg2 hc k1 k20 hr1
    go_wp2_with fail
    refine wp_region_noPanic ?_
    go_region_law (go_simp;go_at_call 285;refine HA2.out.mono ?_;rintro e wy ⟨rfl,ho3,hg3⟩)
    all_goals
     refine NoPanic.normal ?_
     have hg3':=drew_grown hg3
     have hm2:=hm1.wrote hr hg3' ho3 ((hwx.or hw1).or hw2)
     rw [List.set_set] at hm2
     have hb3 : Below w.heap.size w wy:=hb2.trans (below_only hg3' hsz2 hgl)
     go_wp2
     go_roundw
     case rel =>
      refine ⟨i+1,_,by go_num,by omega,hm2,Lib.hid (HB.out.step HC.out (fun j hj=>?_) (fun y j _ _ hy=>?_)),hb3⟩
      ·rw [hasW_or (by rw [(hwx.or hw1).len,hw2.len]),hasW_or (by rw [hwx.len,hw1.len]),HBx.out j hj,HBa.out j hj,HBb.out j hj,decide_eq_true (by omega : i < i+1),decide_eq_false (by omega : ¬ i < i)]
       simp
      ·congr 1
       exact decide_eq_decide.2 (by omega)
     case measure=>simp [intOf];omega
  ·obtain rfl : i = n:=by omega
   go_wp2
   go_ret
   exact ⟨A,c,rows,C,rfl,ho,HB.out.congr fun x j hx _=>by unfold bothM;rw [decide_eq_true hx,Bool.true_and],hbw⟩
end
section
open Go.RowKit
def behTo (n i z : Nat) (a b : Mtx) : Mtx:=fun x j=>if x = i then (List.range z).any (fun k=>a i k && b k j) else decide (x < i) && behindM n a b x j
theorem behTo_first (n i : Nat) (a b : Mtx) (x j : Nat) : behTo n i 0 a b x j = (decide (x < i) && behindM n a b x j):=by
 unfold behTo
 by_cases e : x = i
 ·rw [if_pos e,decide_eq_false (by omega)];rfl
 ·rw [if_neg e]
theorem behTo_last (n i : Nat) (a b : Mtx) (x j : Nat) : (decide (x < i+1) && behindM n a b x j) = behTo n i n a b x j:=by
 unfold behTo
 by_cases e : x = i
 ·rw [if_pos e,decide_eq_true (by omega),Bool.true_and];subst e;rfl
 ·rw [if_neg e]
  congr 1
  exact decide_eq_decide.2 (by omega)
theorem behTo_here (n i z : Nat) (a b : Mtx) (j : Nat) : behTo n i (z+1) a b i j = (behTo n i z a b i j || (a i z && b z j)):=by
 unfold behTo
 rw [if_pos rfl,if_pos rfl,List.range_succ,List.any_append];simp
theorem behTo_there {n i z : Nat} {a b : Mtx} {x j : Nat} (h : x ≠ i) : behTo n i (z+1) a b x j = behTo n i z a b x j:=by
 unfold behTo
 rw [if_neg h,if_neg h]
theorem jbehind_any (A1 A2 : Option Addr) (n c1 c2 : Nat) (CA CB : List (List Nat)) (a b : Mtx) (w : World) (hA : MtR w (A1,n,c1) n (n / 64+1) CA) (ha : BitsM n CA a) (hB : MtR w (A2,n,c2) n (n / 64+1) CB) (hb : BitsM n CB b) (hn : n≤1000000) :
  Calls Tryz.prog 250 #[.slice A1 n c1,.slice A2 n c2] w (MtEnd w n (behindM n a b)):=by
 have HN:=Lib.hid (jnone_any n w hn)
 obtain ⟨k,Hk⟩ : ∃ k,Hid (n / 64+1 = k):=⟨_,Lib.hid rfl⟩
 have hk0 : 0 < k:=by have:=Hk.out;omega
 have hkz : k≤4000000:=by have:=Hk.out;omega
 rw [Hk.out] at HN hA hB
 unfold MtEnd
 rw [Hk.out]
 have Ha:=Lib.hid ha
 have Hb:=Lib.hid hb
 clear ha hb
 go_enter Tryz.func250,Tryz.ntmps250
 go_wp2_with fail
 refine HN.out.mono ?_
 rintro e w1 ⟨A,c,rows,rfl,ho1,hb1⟩
 have HZ:=Lib.hid (zero_bits n k)
 generalize zeroC n k = C0 at ho1 HZ
 clear HN
 go_wp2_with fail
 go_loopw [7,8] (fun v _ wr=>∃ (i : Nat) (C : List (List Nat)),v = .int .i64 i∧i≤n∧MtO wr w.heap.size A n c k rows C∧Hid (BitsM n C fun x j=>decide (x < i) && behindM n a b x j)∧Below w.heap.size w wr) (fun v _ _=>n - (intOf v).toNat)
 case atStart=>exact ⟨0,C0,rfl,by omega,ho1,Lib.hid (HZ.out.congr fun i j _ _=>by simp [noneM]),hb1⟩
 case round =>
  obtain ⟨i,C,rfl,hi,ho,HB,hbw⟩:=hrel
  by_cases hlt : i < n
  ·obtain ⟨b1,o1,B1,d1,x1,e1,k10,-,hx1,hr1,hw1⟩:=hA.at_ hlt
   simp only at e1
   subst e1
   have HBa:=Lib.hid (Ha.out.row hx1 hlt)
   clear hx1
   go_wp2_with fail
   go_loopw [8] (fun v wq=>∃ (z : Nat) (C : List (List Nat)),v = .int .i64 z∧z≤n∧MtO wq w.heap.size A n c k rows C∧Hid (BitsM n C (behTo n i z a b))∧Below w.heap.size w wq) (fun v _=>n - (intOf v).toNat)
   case atStart=>exact ⟨0,C,rfl,by omega,ho,Lib.hid (HB.out.congr fun x j _ _=>behTo_first n i a b x j),hbw⟩
   case round =>
    clear ho HB hbw
    obtain ⟨z,C,rfl,hz,ho,HB,hbw⟩:=hrel
    have hsz:=hbw.size
    by_cases hzt : z < n
    ·have k1:=cell_keep k10 hbw
     obtain ⟨q,Hq⟩ : ∃ q,Hid (a i z = q):=⟨_,Lib.hid rfl⟩
     have HH:=Lib.hid (jhas_any B1 k d1 z x1 wr (hr1.below hbw) hw1 (by have:=Hk.out;omega) (by omega))
     rw [HBa.out z hzt,Hq.out] at HH
     cases q with
     | false =>
      go_wp2_with fail
      refine HH.out.mono ?_
      rintro e w2 ⟨rfl,rfl⟩
      go_wp2
      go_roundw
      case rel=>exact ⟨z+1,C,by go_num,by omega,ho,Lib.hid (HB.out.congr fun x j _ _=>by
       by_cases e : x = i
       ·subst e;rw [behTo_here,Hq.out];simp
       ·exact behTo_there e),hbw⟩
      case measure=>simp [intOf];omega
     | true =>
      obtain ⟨bk,g,d,x,rfl,hr,hc,hx,hx2,hox,hwx⟩:=ho.at_ hlt hk0
      obtain ⟨b2,o2,B2,d2,x2,e2,k2,-,hx2',hr2,hw2⟩:=hB.at_ hzt
      simp only at e2
      subst e2
      have hgl:=(hox.lt _ rfl).1
      have hgb:=Rd.off hr2 hw2 hk0 hgl
      replace k2:=cell_keep k2 hbw
      have HA1:=Lib.hid (jadd_any w.heap.size g k d k d2 B2 x x2 wr.drew hox.drew hwx (hr2.below hbw).drew hw2 hgb rfl hkz)
      have HBx:=Lib.hid (HB.out.row hx2 hlt)
      have HBb:=Lib.hid (Hb.out.row hx2' hzt)
      have HC:=Lib.hid (show i < C.length by rw [ho.len];exact hlt)
      clear hx hx2 hx2'
      go_wp2_with fail
      refine HH.out.mono ?_
      rintro e w2 ⟨rfl,rfl⟩
      go_wp2_with fail
      refine wp_region_noPanic ?_
      go_region_law (go_simp;go_at_call 285;refine HA1.out.mono ?_;rintro e wz ⟨rfl,ho2,hg2⟩)
      all_goals
       refine NoPanic.normal ?_
       have hg2':=drew_grown hg2
       have hm1:=ho.wrote hr hg2' ho2 (hwx.or hw2)
       have hb2 : Below w.heap.size w wz:=hbw.trans (below_only hg2' hsz hgl)
       go_wp2
       go_roundw
       case rel =>
        refine ⟨z+1,_,by go_num,by omega,hm1,Lib.hid (HB.out.step HC.out (fun j hj=>?_) (fun y j _ _ hy=>behTo_there hy)),hb2⟩
        rw [hasW_or (by rw [hwx.len,hw2.len]),HBx.out j hj,HBb.out j hj,behTo_here,Hq.out,Bool.true_and]
       case measure=>simp [intOf];omega
    ·obtain rfl : z = n:=by omega
     go_wp2
     go_roundw
     case rel=>exact ⟨i+1,C,by go_num,by omega,ho,Lib.hid (HB.out.congr fun x j _ _=>behTo_last z i a b x j),hbw⟩
     case measure=>simp [intOf];omega
  ·obtain rfl : i = n:=by omega
   go_wp2
   go_ret
   exact ⟨A,c,rows,C,rfl,ho,HB.out.congr fun x j hx _=>by rw [decide_eq_true hx,Bool.true_and],hbw⟩
end
section
open Go.RowKit
def moreK (n : Nat) (a : Mtx) (k : Nat) : Mtx:=(List.range k).foldl (fun m k=>warRow n k m) (bothM a ownM)
def moreI (n : Nat) (a : Mtx) (k i : Nat) : Mtx:=(List.range i).foldl (fun m i=>warS k i m) (moreK n a k)
theorem moreI_last (n : Nat) (a : Mtx) (k : Nat) : moreI n a k n = moreK n a (k+1):=by
 unfold moreI
 conv=>rhs;unfold moreK
 rw [List.range_succ,List.foldl_append];rfl
theorem moreI_next (n : Nat) (a : Mtx) (k i : Nat) : moreI n a k (i+1) = warS k i (moreI n a k i):=by
 unfold moreI
 rw [List.range_succ,List.foldl_append];rfl
theorem jmore_any (A1 : Option Addr) (n c1 : Nat) (CA : List (List Nat)) (a : Mtx) (w : World) (hA : MtR w (A1,n,c1) n (n / 64+1) CA) (ha : BitsM n CA a) (hn : n≤1000000) :
  Calls Tryz.prog 252 #[.slice A1 n c1] w (MtEnd w n (moreM n a)):=by
 have HO:=Lib.hid (jown_any n w hn)
 have HBo:=Lib.hid (fun A2 c2 CB W (h1 : MtR W (A1,n,c1) n (n / 64+1) CA) (h2 : MtR W (A2,n,c2) n (n / 64+1) CB) (hb : BitsM n CB ownM)=>jboth_any A1 A2 n c1 c2 CA CB a ownM W h1 ha h2 hb hn)
 clear ha
 unfold MtEnd at HO HBo
 obtain ⟨k,Hk⟩ : ∃ k,Hid (n / 64+1 = k):=⟨_,Lib.hid rfl⟩
 have hk0 : 0 < k:=by have:=Hk.out;omega
 have hkz : k≤4000000:=by have:=Hk.out;omega
 simp only [Hk.out] at HO HBo hA
 unfold MtEnd
 rw [Hk.out]
 go_enter Tryz.func252,Tryz.ntmps252
 go_wp2_with fail
 refine HO.out.mono ?_
 rintro e w1 ⟨A2,c2,rows2,C2,rfl,ho1,hb1,hbw1⟩
 have hMB:=ho1.rd
 have HB2:=Lib.hid (HBo.out A2 c2 C2 w1 (hA.below hbw1) hMB hb1)
 clear HO HBo ho1 hMB hb1
 go_wp2_with fail
 refine HB2.out.mono ?_
 rintro e w2 ⟨A,c,rows,C0,rfl,ho2,hb2,hbw2⟩
 have hbw20:=below_two hbw1 hbw2
 have ho20:=ho2.more hbw1.size
 have HZ:=Lib.hid hb2
 clear HB2 hb2 ho2 hA
 go_wp2_with fail
 go_loopw [5,6] (fun v _ wr=>∃ (z : Nat) (C : List (List Nat)),v = .int .i64 z∧z≤n∧MtO wr w.heap.size A n c k rows C∧Hid (BitsM n C (moreK n a z))∧Below w.heap.size w wr) (fun v _ _=>n - (intOf v).toNat)
 case atStart=>exact ⟨0,C0,rfl,by omega,ho20,HZ,hbw20⟩
 case round =>
  clear HZ ho20
  obtain ⟨z,C,rfl,hz,ho,HB,hbw⟩:=hrel
  by_cases hzt : z < n
  ·go_wp2_with fail
   go_loopw [6] (fun v wq=>∃ (i : Nat) (C : List (List Nat)),v = .int .i64 i∧i≤n∧MtO wq w.heap.size A n c k rows C∧Hid (BitsM n C (moreI n a z i))∧Below w.heap.size w wq) (fun v _=>n - (intOf v).toNat)
   case atStart=>exact ⟨0,C,rfl,by omega,ho,HB,hbw⟩
   case round =>
    clear ho HB hbw
    obtain ⟨i,C,rfl,hi,ho,HB,hbw⟩:=hrel
    have hsz:=hbw.size
    by_cases hlt : i < n
    ·obtain ⟨bk,g,d,x,rfl,hr,hc,hx,hx2,hox,hwx⟩:=ho.at_ hlt hk0
     have HBx:=Lib.hid (HB.out.row hx2 hlt)
     obtain ⟨m,Hm⟩ : ∃ m,Hid (moreI n a z i = m):=⟨_,Lib.hid rfl⟩
     rw [Hm.out] at HB HBx
     have HNx:=Lib.hid (show moreI n a z (i+1) = warS z i m by rw [moreI_next,Hm.out])
     obtain ⟨q,Hq⟩ : ∃ q,Hid (m i z = q):=⟨_,Lib.hid rfl⟩
     have HH:=Lib.hid (jhas_any (some ⟨g,0,none⟩) k d z x wr (hox.rd (by omega)) hwx (by have:=Hk.out;omega) (by omega))
     rw [HBx.out z hzt,Hq.out] at HH
     cases q with
     | false =>
      clear hx hx2
      go_wp2_with fail
      refine HH.out.mono ?_
      rintro e w3 ⟨rfl,rfl⟩
      go_wp2
      go_roundw
      case rel=>exact ⟨i+1,C,by go_num,by omega,ho,Lib.hid (HB.out.congr fun x j _ _=>by rw [HNx.out,warS_eq,Hq.out];simp),hbw⟩
      case measure=>simp [intOf];omega
     | true =>
      have hgl:=(hox.lt _ rfl).1
      have HC:=Lib.hid (show i < C.length by rw [ho.len];exact hlt)
      obtain ⟨bk',g2,d2,y,eb,hr2,hc2,hy,hy2,hoy,hwy⟩:=ho.at_ hzt hk0
      injection eb with eb
      injection eb with eb _ _
      subst eb
      have HBy:=Lib.hid (HB.out.row hy2 hzt)
      have HA1 : Hid (Calls Tryz.prog 285 #[.slice (some ⟨g,0,none⟩) k d,.slice (some ⟨g2,0,none⟩) k d2] wr.drew fun e w'=>e = .returned (.tuple #[])∧Own w' w.heap.size 308 1 (some ⟨g,0,none⟩) k d ((orW x y).map encW)∧wr.drew.grownBy w' (some g)):=by
       by_cases e : i = z
       ·subst e
        rw [hr] at hr2
        injection hr2 with hr2
        injection hr2 with h1 h2
        injection h1 with h1
        injection h1 with h1 _ _
        injection h2 with _ h2
        subst h1
        subst h2
        rw [hx] at hy
        injection hy with hy
        subst hy
        exact Lib.hid (jadd_self w.heap.size g k d x wr.drew hox.drew hwx hkz)
       ·refine Lib.hid (jadd_any w.heap.size g k d k d2 (some ⟨g2,0,none⟩) x y wr.drew hox.drew hwx (hoy.rd (by omega)).drew hwy (fun a ha e2=>e (ho.apart i z _ _ ⟨g,0,none⟩ a hr hr2 rfl ha e2.symm)) rfl hkz)
      clear hx hx2 hy hy2 hoy
      go_wp2_with fail
      refine HH.out.mono ?_
      rintro e w3 ⟨rfl,rfl⟩
      go_wp2_with fail
      refine wp_region_noPanic ?_
      go_region_law (go_simp;go_at_call 285;refine HA1.out.mono ?_;rintro e wz ⟨rfl,ho2,hg2⟩)
      all_goals
       refine NoPanic.normal ?_
       have hg2':=drew_grown hg2
       have hm1:=ho.wrote hr hg2' ho2 (hwx.or hwy)
       have hb2 : Below w.heap.size w wz:=hbw.trans (below_only hg2' hsz hgl)
       go_wp2
       go_roundw
       case rel =>
        refine ⟨i+1,_,by go_num,by omega,hm1,Lib.hid (HB.out.step HC.out (fun j hj=>?_) (fun y j _ _ hy=>?_)),hb2⟩
        ·rw [hasW_or (by rw [hwx.len,hwy.len]),HBx.out j hj,HBy.out j hj,HNx.out,warS_eq,Hq.out,decide_eq_true rfl];simp
        ·rw [HNx.out,warS_eq,decide_eq_false hy];simp
       case measure=>simp [intOf];omega
    ·obtain rfl : i = n:=by omega
     rw [moreI_last] at HB
     go_wp2
     go_roundw
     case rel=>exact ⟨z+1,C,by go_num,by omega,ho,HB,hbw⟩
     case measure=>simp [intOf];omega
  ·obtain rfl : z = n:=by omega
   go_wp2
   go_ret
   exact ⟨A,c,rows,C,rfl,ho,HB.out,hbw⟩
end
section
def risesB : List Nat→Bool
 | a :: b :: r=>decide (a < b) && risesB (b :: r)
 | _=>true
theorem risesB_at : ∀ {l : List Nat} {i x y : Nat},risesB l = true→l[i]? = some x→l[i+1]? = some y→x < y
 | [],i,x,y,_,hx,_=>by simp at hx
 | [a],i,x,y,_,_,hy=>by simp at hy
 | a :: b :: r,0,x,y,h,hx,hy=>by
  simp at hx hy
  subst hx;subst hy
  unfold risesB at h
  rw [Bool.and_eq_true] at h
  exact of_decide_eq_true h.1
 | a :: b :: r,i+1,x,y,h,hx,hy=>by
  unfold risesB at h
  rw [Bool.and_eq_true] at h
  exact risesB_at h.2 (by simpa using hx) (by simpa using hy)
def formOk (op kn : Nat) : Bool:=if op = 0∨op = 1 then kn == 0 else if op = 2∨op = 3 then decide (2≤kn) else kn == 1
def nodeOk (N op : Nat) (cs : List Nat) (kn : Nat) : Bool:=decide (op≤6) && (op == 1 || cs.isEmpty) && formOk op kn && cs.all (fun c=>decide (c < N)) && risesB cs
mutual
def sizeP : Pat→Nat
 | .node _ _ ks=>1+sizeL ks
def sizeL : List Pat→Nat
 | []=>0
 | p :: r=>sizeP p+sizeL r
end
mutual
def goodP (N : Nat) : Pat→Bool
 | .node op cs ks=>nodeOk N op cs ks.length && goodL N ks
def goodL (N : Nat) : List Pat→Bool
 | []=>true
 | p :: r=>goodP N p && goodL N r
end
theorem sizeP_pos : ∀ p : Pat,1≤sizeP p
 | .node _ _ ks=>by unfold sizeP;omega
theorem sizeL_take : ∀ {ks : List Pat} {i : Nat} {p : Pat},ks[i]? = some p→sizeL (ks.take (i+1)) = sizeL (ks.take i)+sizeP p
 | [],i,p,h=>by simp at h
 | q :: r,0,p,h=>by simp at h;subst h;simp [sizeL]
 | q :: r,i+1,p,h=>by
  have:=sizeL_take (ks:=r) (i:=i) (p:=p) (by simpa using h)
  rw [List.take_succ_cons,List.take_succ_cons,sizeL,sizeL,this];omega
theorem sizeL_le : ∀ (ks : List Pat) (i : Nat),sizeL (ks.take i)≤sizeL ks
 | [],i=>by simp
 | q :: r,0=>by simp [sizeL]
 | q :: r,i+1=>by rw [List.take_succ_cons,sizeL,sizeL];have:=sizeL_le r i;omega
theorem sizeL_at {ks : List Pat} {i : Nat} {p : Pat} (h : ks[i]? = some p) : sizeL (ks.take i)+sizeP p≤sizeL ks:=by
 rw [← sizeL_take h];exact sizeL_le _ _
theorem goodL_at {N : Nat} : ∀ {ks : List Pat} {i : Nat} {p : Pat},goodL N ks = true→ks[i]? = some p→goodP N p = true
 | [],i,p,_,h=>by simp at h
 | q :: r,0,p,g,h=>by simp at h;subst h;unfold goodL at g;rw [Bool.and_eq_true] at g;exact g.1
 | q :: r,i+1,p,g,h=>by unfold goodL at g;rw [Bool.and_eq_true] at g;exact goodL_at g.2 (by simpa using h)
theorem nodeOk_mono {N M op : Nat} {cs : List Nat} {kn : Nat} (hNM : N≤M) (h : nodeOk N op cs kn = true) : nodeOk M op cs kn = true:=by
 unfold nodeOk at h ⊢
 simp only [Bool.and_eq_true,decide_eq_true_eq,Bool.or_eq_true,beq_iff_eq,List.isEmpty_iff,List.all_eq_true] at h ⊢
 obtain ⟨⟨⟨⟨h1,h2⟩,h3⟩,h4⟩,h5⟩:=h
 exact ⟨⟨⟨⟨h1,h2⟩,h3⟩,fun x hx=>Nat.lt_of_lt_of_le (h4 x hx) hNM⟩,h5⟩
mutual
theorem goodP_mono {N M : Nat} (hNM : N≤M) : ∀ {p : Pat},goodP N p = true→goodP M p = true
 | .node op cs ks,h=>by
  unfold goodP at h ⊢
  rw [Bool.and_eq_true] at h ⊢
  exact ⟨nodeOk_mono hNM h.1,goodL_mono hNM h.2⟩
theorem goodL_mono {N M : Nat} (hNM : N≤M) : ∀ {ks : List Pat},goodL N ks = true→goodL M ks = true
 | [],_=>by unfold goodL;rfl
 | p :: r,h=>by
  unfold goodL at h ⊢
  rw [Bool.and_eq_true] at h ⊢
  exact ⟨goodP_mono hNM h.1,goodL_mono hNM h.2⟩
end
theorem node_parts {N op : Nat} {cs : List Nat} {kn : Nat} (h : nodeOk N op cs kn = true) : op≤6∧(op = 1∨cs = [])∧formOk op kn = true∧(∀ (i c : Nat),cs[i]? = some c→c < N)∧risesB cs = true:=by
 unfold nodeOk at h
 simp only [Bool.and_eq_true,decide_eq_true_eq,Bool.or_eq_true,beq_iff_eq,List.isEmpty_iff,List.all_eq_true] at h
 obtain ⟨⟨⟨⟨h1,h2⟩,h3⟩,h4⟩,h5⟩:=h
 exact ⟨h1,h2,h3,fun i c hc=>h4 c (List.mem_of_getElem? hc),h5⟩
end
section
def startsB (p : Pat) (c : List Nat) : List Nat:=(List.range (c.length+1)).filter fun i=>leadsP c p i c.length
def endsB (p : Pat) (c : List Nat) : List Nat:=(List.range (c.length+1)).filter fun i=>leadsP c p 0 i
def appliesB (r : RuleP) (c : List Nat) (at_ : Nat) : Bool :=
 !(startsB r.left (c.take at_)).isEmpty && !(endsB r.right (c.drop at_)).isEmpty && (!r.start || (startsB r.left (c.take at_)).contains 0) && (!r.stop || (endsB r.right (c.drop at_)).contains (c.length - at_))
theorem mem_starts {p : Pat} {c : List Nat} {i : Nat} : i ∈ startsB p c ↔ i≤c.length∧Lang p (c.drop i):=by
 unfold startsB
 rw [List.mem_filter,List.mem_range]
 constructor
 ·rintro ⟨h1,h2⟩
  have:=((leads_tells c p) i c.length (by omega) (Nat.le_refl _)).1 h2
  refine ⟨by omega,?_⟩
  have h3:=this.2
  unfold part at h3
  rwa [List.take_of_length_le (by rw [List.length_drop];omega)] at h3
 ·rintro ⟨h1,h2⟩
  refine ⟨by omega,((leads_tells c p) i c.length h1 (Nat.le_refl _)).2 ⟨h1,?_⟩⟩
  unfold part
  rwa [List.take_of_length_le (by rw [List.length_drop];omega)]
theorem mem_ends {p : Pat} {c : List Nat} {i : Nat} : i ∈ endsB p c ↔ i≤c.length∧Lang p (c.take i):=by
 unfold endsB
 rw [List.mem_filter,List.mem_range]
 constructor
 ·rintro ⟨h1,h2⟩
  have:=((leads_tells c p) 0 i (Nat.zero_le _) (by omega)).1 h2
  refine ⟨by omega,?_⟩
  have h3:=this.2
  unfold part at h3
  simpa using h3
 ·rintro ⟨h1,h2⟩
  refine ⟨by omega,((leads_tells c p) 0 i (Nat.zero_le _) h1).2 ⟨Nat.zero_le _,?_⟩⟩
  unfold part
  simpa using h2
theorem ahead_iff {p : Pat} {c : List Nat} {s : Bool} : Ahead s (Lang p) c ↔ ∃ i ∈ startsB p c,s = true→i = 0:=by
 constructor
 ·rintro ⟨u,v,rfl,hs,hl⟩
  refine ⟨u.length,mem_starts.2 ⟨by simp,by simpa using hl⟩,fun h=>by rw [hs h];rfl⟩
 ·rintro ⟨i,hi,hs⟩
  obtain ⟨h1,h2⟩:=mem_starts.1 hi
  exact ⟨c.take i,c.drop i,(List.take_append_drop i c).symm,fun h=>by rw [hs h];rfl,h2⟩
theorem behind_iff {p : Pat} {c : List Nat} {s : Bool} : Behind s (Lang p) c ↔ ∃ i ∈ endsB p c,s = true→i = c.length:=by
 constructor
 ·rintro ⟨u,v,rfl,hs,hl⟩
  refine ⟨u.length,mem_ends.2 ⟨by simp,by simpa using hl⟩,fun h=>by rw [hs h];simp⟩
 ·rintro ⟨i,hi,hs⟩
  obtain ⟨h1,h2⟩:=mem_ends.1 hi
  exact ⟨c.take i,c.drop i,(List.take_append_drop i c).symm,fun h=>by rw [hs h];simp,h2⟩
theorem applies_iff (r : RuleP) (c : List Nat) {at_ : Nat} : appliesB r c at_ = true ↔ AppliesL r (c.take at_) (c.drop at_):=by
 unfold AppliesL appliesB
 rw [ahead_iff,behind_iff,List.length_drop]
 have key : ∀ (l : List Nat) (b : Bool) (z : Nat),(∃ i ∈ l,b = true→i = z) ↔ (!l.isEmpty && (!b || l.contains z)) = true:=fun l b z=>by
  cases b with
  | false =>
   cases l with
   | nil=>simp
   | cons a r=>simp
  | true =>
   simp only [forall_const,Bool.not_true,Bool.false_or,Bool.and_eq_true,List.contains_iff_mem]
   constructor
   ·rintro ⟨i,hi,rfl⟩
    exact ⟨by cases l with | nil=>cases hi | cons=>rfl,hi⟩
   ·rintro ⟨_,hi⟩
    exact ⟨z,hi,rfl⟩
 rw [key,key]
 simp only [Bool.and_eq_true]
 exact ⟨fun ⟨⟨⟨a,b⟩,c⟩,d⟩=>⟨⟨a,c⟩,⟨b,d⟩⟩,fun ⟨⟨a,c⟩,⟨b,d⟩⟩=>⟨⟨⟨a,b⟩,c⟩,d⟩⟩
def decideB (rest : Bool) (c : List Nat) (at_ : Nat) : List RuleP→Bool
 | []=>rest
 | r :: l=>if appliesB r c at_ then r.cut else decideB rest c at_ l
theorem decides_B (rest : Bool) (c : List Nat) {at_ : Nat} : ∀ (l : List RuleP),Decides (c.take at_) (c.drop at_) rest l (decideB rest c at_ l)
 | []=>.none
 | r :: l=>by
  unfold decideB
  by_cases ha : appliesB r c at_ = true
  ·rw [if_pos ha];exact .yes ((applies_iff r c).1 ha)
  ·rw [if_neg ha];exact .no (fun g=>ha ((applies_iff r c).2 g)) (decides_B rest c l)
def placeB (rs : List RuleP) (rest : Bool) (c : List Nat) (at_ : Nat) : Bool:=decide (at_ = 0) || decide (at_ = c.length) || decideB rest c at_ rs
def boundsB (rs : List RuleP) (rest : Bool) (c : List Nat) : List Nat:=if c = [] then [] else (List.range (c.length+1)).filter fun i=>placeB rs rest c i
def edgesP (s : ByteArray) : List Nat:=(runesP s).map (fun x=>x.2.1)++[s.size]
def boundsR (rs : List RuleP) (rest : Bool) (g : Int→Nat) (s : ByteArray) : List Nat:=if s.size = 0 then [] else (boundsB rs rest (clsG g (runesP s))).map fun i=>(edgesP s).getD i 0
theorem pick_filter : ∀ (n : Nat) (r : List (Nat × Nat × Nat)) (t : List Bool),r.length = n→t.length = n→pickG r t = ((List.range n).filter fun i=>t.getD i false).map fun i=>(r.map fun x=>x.2.1).getD i 0
 | 0,r,t,hr,ht=>by
  obtain rfl:=List.eq_nil_of_length_eq_zero hr
  obtain rfl:=List.eq_nil_of_length_eq_zero ht
  rfl
 | n+1,r,t,hr,ht=>by
  rcases List.eq_nil_or_concat r with rfl | ⟨r',x,rfl⟩
  ·simp at hr
  rcases List.eq_nil_or_concat t with rfl | ⟨t',b,rfl⟩
  ·simp at ht
  simp only [List.concat_eq_append,List.length_append,List.length_singleton,Nat.add_right_cancel_iff] at hr ht ⊢
  rw [pickG_snoc r' t' x b (by omega),pick_filter n r' t' hr ht,List.range_succ,List.filter_append,List.map_append]
  have e1 : (List.range n).filter (fun i=>(t'++[b]).getD i false) = (List.range n).filter (fun i=>t'.getD i false):=by
   refine List.filter_congr fun i hi=>?_
   rw [List.mem_range] at hi
   rw [List.getD_eq_getElem?_getD,List.getD_eq_getElem?_getD,List.getElem?_append_left (by omega)]
  have e2 : ((List.range n).filter (fun i=>t'.getD i false)).map (fun i=>((r'++[x]).map fun x=>x.2.1).getD i 0) = ((List.range n).filter (fun i=>t'.getD i false)).map fun i=>(r'.map fun x=>x.2.1).getD i 0:=by
   refine List.map_congr_left fun i hi=>?_
   have hi:=(List.mem_filter.1 hi).1
   rw [List.mem_range] at hi
   rw [List.getD_eq_getElem?_getD,List.getD_eq_getElem?_getD,List.map_append,List.getElem?_append_left (by rw [List.length_map];omega)]
  rw [e1,e2]
  congr 1
  have e3 : (t'++[b]).getD n false = b:=by rw [List.getD_eq_getElem?_getD,List.getElem?_append_right (by omega),ht,Nat.sub_self];rfl
  have e4 : ((r'++[x]).map fun x=>x.2.1).getD n 0 = x.2.1:=by rw [List.getD_eq_getElem?_getD,List.map_append,List.getElem?_append_right (by rw [List.length_map];omega),List.length_map,hr,Nat.sub_self];rfl
  cases b with
  | true=>simp only [List.filter_cons,List.filter_nil,e3,if_true,List.map_cons,List.map_nil,e4]
  | false=>simp only [List.filter_cons,List.filter_nil,e3,if_false,Bool.false_eq_true,List.map_nil]
theorem cutsG_decide {c : List Nat} (hc : ∀ x ∈ c,x < 14) {i : Nat} (h0 : 0 < i) (hi : i < c.length) : decideB true c i rulesG = (cutsG c).getD i false:=by
 have h:=decides_B true c (at_:=i) rulesG
 obtain ⟨k,rfl⟩ : ∃ k,i = k+1:=⟨i - 1,by omega⟩
 have e1 : c.take (k+1) = c.take k++[c[k]'(by omega)]:=by rw [List.take_add_one,List.getElem?_eq_getElem (by omega)];rfl
 rw [e1,List.drop_eq_getElem_cons hi] at h
 have h2:=rules_letters (fun y hy=>hc y (by rw [← e1] at hy;exact List.mem_of_mem_take hy)) (hc _ (List.getElem_mem hi)) h
 rw [h2,← e1]
 cases c with
 | nil=>simp at hi
 | cons z l =>
  have hl : k < l.length:=by simpa using hi
  have h3:=cutSt_at (GS.first z) l k _ (List.getElem?_eq_getElem hl)
  rw [cutsG,List.getD_eq_getElem?_getD,zI,h3,first_next]
  rfl
theorem bounds_rules {g : Int→Nat} (hg : ∀ r,g r < 14) (s : ByteArray) : boundsR rulesG true g s = boundsG g s:=by
 unfold boundsR boundsG
 by_cases hs : s.size = 0
 ·rw [if_pos hs,if_pos hs]
 rw [if_neg hs,if_neg hs]
 have hne : clsG g (runesP s) ≠ []:=fun h=>by
  obtain ⟨T,hT⟩:=starts_zero g (s:=s) (by omega)
  have h1:=starts_len g s
  rw [h,hT] at h1
  simp [cutsG] at h1
 have hcl : ∀ x ∈ clsG g (runesP s),x < 14:=fun x hx=>by
  obtain ⟨y,_,rfl⟩:=List.mem_map.1 hx
  exact hg _
 have hlen:=clsG_len g (runesP s)
 unfold boundsB startsG
 rw [if_neg hne,List.range_succ,List.filter_append,List.map_append,pick_filter (runesP s).length (runesP s) _ rfl (by rw [cutsG_len,hlen]),hlen]
 have e1 : (List.range (runesP s).length).filter (fun i=>placeB rulesG true (clsG g (runesP s)) i) = (List.range (runesP s).length).filter (fun i=>(cutsG (clsG g (runesP s))).getD i false):=by
  refine List.filter_congr fun i hi=>?_
  rw [List.mem_range] at hi
  unfold placeB
  rcases Nat.eq_zero_or_pos i with rfl | h0
  ·cases hc : clsG g (runesP s) with
   | nil=>exact absurd hc hne
   | cons y r=>simp [cutsG]
  ·rw [cutsG_decide hcl h0 (by omega)]
   simp [show i ≠ 0 by omega,show i ≠ (clsG g (runesP s)).length by omega]
 have e2 : [(runesP s).length].filter (fun i=>placeB rulesG true (clsG g (runesP s)) i) = [(runesP s).length]:=by
  simp [placeB,hlen]
 rw [e1,e2]
 congr 1
 ·refine List.map_congr_left fun i hi=>?_
  have hi:=(List.mem_filter.1 hi).1
  rw [List.mem_range] at hi
  unfold edgesP
  rw [List.getD_eq_getElem?_getD,List.getD_eq_getElem?_getD,List.getElem?_append_left (by rw [List.length_map];omega)]
 ·unfold edgesP
  simp only [List.map_cons,List.map_nil]
  rw [List.getD_eq_getElem?_getD,List.getElem?_append_right (by rw [List.length_map];omega),List.length_map,Nat.sub_self]
  rfl
end
section
theorem runeAt_app : ∀ (p l : List UInt8) (a : Nat),runeAt (bytesOf (p++l)) (p.length+a) = runeAt (bytesOf l) a
 | [],l,a=>by rw [List.nil_append,List.length_nil,Nat.zero_add]
 | c :: p,l,a=>by rw [List.cons_append,List.length_cons,show p.length+1+a = (p.length+a)+1 by omega,runeAt_sh];exact runeAt_app p l a
theorem runeAt_drop (s : ByteArray) (a b : Nat) (h : a≤s.size) : runeAt s (a+b) = runeAt (bytesOf (s.data.toList.drop a)) b:=by
 have h1:=runeAt_app (s.data.toList.take a) (s.data.toList.drop a) b
 rw [List.take_append_drop,bytesOf_data,List.length_take,size_data,Nat.min_eq_left h] at h1
 exact h1
theorem quoted_qt (s : ByteArray) (a : Nat) (h : a≤s.size) : match qtL (s.data.toList.drop a) with
  | some k=>(quotedP s a).2.2 = true∧(quotedP s a).2.1+2 = k
  | none=>(quotedP s a).2.2 = false:=by
 unfold quotedP
 cases hd : s.data.toList.drop a with
 | nil =>
  have : (rest s a).head? = none:=by unfold rest;rw [hd];rfl
  rw [if_neg (by rw [this];simp)];rfl
 | cons c r =>
  have h1:=runeAt_drop s a 1 h
  rw [hd] at h1
  rw [qtS_cons,← h1]
  have h2 : (rest s a).head? = some c:=by unfold rest;rw [hd];rfl
  have h3 : (rest s (a+1+(runeAt s (a+1)).2)).head? = r[(runeAt s (a+1)).2]?:=by
   unfold rest
   rw [Nat.add_assoc,← List.drop_drop,hd,Nat.add_comm 1,List.drop_succ_cons,List.head?_drop]
  rw [h2,h3]
  by_cases hc : c = 39∧(runeAt s (a+1)).2 ≠ 0∧r[(runeAt s (a+1)).2]? = some 39
  ·rw [if_pos hc,if_pos ⟨by rw [hc.1],hc.2⟩]
   exact ⟨rfl,rfl⟩
  ·rw [if_neg hc,if_neg (fun k=>hc ⟨by injection k.1,k.2⟩)]
def cutD (l : List UInt8) (i : Nat) (semi : Option Nat) : Nat × Option Nat:=cutGo l.length l i semi
theorem cutD_fuel {f : Nat} {l : List UInt8} (i : Nat) (semi : Option Nat) (h : l.length≤f) : cutGo f l i semi = cutD l i semi:=by
 unfold cutD
 rw [cutGo_eq f l i semi h,cutGo_eq l.length l i semi (Nat.le_refl _)]
def CutAt (L : List UInt8) (i : Nat) (semi : Option Nat) : Prop:=i≤L.length∧cutD (L.drop i) i semi = cutD L 0 none∧∀ k,semi = some k→k≤i
theorem cutAt_first (L : List UInt8) : CutAt L 0 none:=⟨by omega,by rw [List.drop_zero],fun k h=>by cases h⟩
theorem cutAt_qt {L : List UInt8} {i k : Nat} {semi : Option Nat} (h : CutAt L i semi) (hq : qtL (L.drop i) = some k) : CutAt L (i+k) semi:=by
 have hk:=qtL_some hq
 rw [List.length_drop] at hk
 refine ⟨by omega,?_,fun j hj=>by have:=h.2.2 j hj;omega⟩
 rw [← h.2.1]
 cases hd : L.drop i with
 | nil=>rw [hd] at hq;cases hq
 | cons x r =>
  rw [hd] at hq
  unfold cutD
  rw [List.length_cons,cutGo]
  simp only [hq]
  have h2 : (x :: r).drop k = L.drop (i+k):=by rw [← hd,List.drop_drop]
  rw [h2]
  have h3 : (L.drop (i+k)).length≤r.length:=by
   have : (L.drop i).length = r.length+1:=by rw [hd];rfl
   rw [List.length_drop] at this ⊢;omega
  rw [cutD_fuel (i+k) semi h3];rfl
section
variable {L : List UInt8} {i : Nat} {semi : Option Nat} {x : UInt8} (h : CutAt L i semi) (hx : L[i]? = some x) (hq : qtL (L.drop i) = none)
include h hx hq
theorem cutAt_step : cutD L 0 none = if x = 35 then (i,semi) else if x = 59∧semi = none then cutD (L.drop (i+1)) (i+1) (some i) else cutD (L.drop (i+1)) (i+1) semi:=by
 rw [← h.2.1,drop_at hx]
 rw [drop_at hx] at hq
 unfold cutD
 rw [List.length_cons,cutGo]
 simp only [hq]
theorem cutAt_hash (he : x = 35) : cutD L 0 none = (i,semi):=by rw [cutAt_step h hx hq,if_pos he]
theorem cutAt_semi (he : x = 59) (hs : semi = none) : CutAt L (i+1) (some i) :=
 ⟨(List.getElem?_eq_some_iff.1 hx).1,by rw [cutAt_step h hx hq,if_neg (by rw [he];decide),if_pos ⟨he,hs⟩],fun k hk=>by injection hk with hk;omega⟩
theorem cutAt_go (he : x ≠ 35) (hs : ¬ (x = 59∧semi = none)) : CutAt L (i+1) semi :=
 ⟨(List.getElem?_eq_some_iff.1 hx).1,by rw [cutAt_step h hx hq,if_neg he,if_neg hs],fun k hk=>by have:=h.2.2 k hk;omega⟩
end
theorem cutAt_end {L : List UInt8} {i : Nat} {semi : Option Nat} (h : CutAt L i semi) (hi : ¬ i < L.length) : cutD L 0 none = (L.length,semi):=by
 rw [← h.2.1,List.drop_of_length_le (by omega)]
 have : i = L.length:=by have:=h.1;omega
 rw [← this];rfl
theorem cutD_is (L : List UInt8) : cutD L 0 none = (hashP L,findP 59 (L.take (hashP L))):=by
 unfold cutD
 rw [cutGo_eq L.length L 0 none (Nat.le_refl _),Nat.zero_add]
 congr 1
 cases findP 59 (L.take (hashP L)) <;> rfl
theorem ext_bytes (l : List UInt8) (a : Nat) : (bytesOf l).extract a (bytesOf l).size = bytesOf (l.drop a):=by
 apply ByteArray.ext;apply Array.toList_inj.1
 rw [rest_extract,bytesOf_list];unfold rest;rw [bytesOf_list]
theorem ext_bytes0 (l : List UInt8) (a : Nat) : (bytesOf l).extract 0 a = bytesOf (l.take a):=by
 apply ByteArray.ext;apply Array.toList_inj.1
 rw [Lib.extract_data,bytesOf_list,bytesOf_list];simp
theorem ext_bytes2 (l : List UInt8) (a b : Nat) : (bytesOf l).extract a b = bytesOf ((l.drop a).take (b - a)):=by
 apply ByteArray.ext;apply Array.toList_inj.1
 rw [Lib.extract_data,bytesOf_list,bytesOf_list]
theorem trim_last {l : List UInt8} {c : UInt8} (hl : l.getLast? = some c) : (blkB c = true→trimR l = trimR (l.take (l.length - 1)))∧(blkB c = false→trimR l = l):=by
 have hs : l = l.dropLast++[c]:=by
  rcases List.eq_nil_or_concat l with rfl | ⟨o,y,rfl⟩
  ·cases hl
  ·simp at hl;subst hl;simp
 have hd : l.take (l.length - 1) = l.dropLast:=by rw [List.dropLast_eq_take]
 rw [hd]
 constructor
 ·intro h
  conv=>lhs;rw [hs]
  exact trimR_app (by intro d hd;simp at hd;subst hd;exact h)
 ·intro h
  unfold trimR
  rw [hs,List.reverse_append]
  rw [show [c].reverse++l.dropLast.reverse = c :: l.dropLast.reverse from rfl,dropWhile_stop h]
  simp
theorem drop_blank {c : UInt8} {r : List UInt8} (h : blkB c = true) : (c :: r).dropWhile blkB = r.dropWhile blkB:=by rw [List.dropWhile_cons,if_pos h]
end
section
open Go.RowKit
end
section
open Go.RowKit
end
section
open Go.RowKit
end
section
open Go.RowKit
end
section
open Go.RowKit
end
section
open Go.RowKit
end
section
open Go.RowKit Go.Maps
end
section
open Go.RowKit Go.Maps
end
section
open Go.RowKit Go.Maps
theorem blk_true {c : UInt8} (h : (c.toNat : Int) = 32∨(c.toNat : Int) = 9) : blkB c = true:=by
 have h1 : c = 32 ↔ c.toNat = 32:=u8_eq (n:=32) (by omega)
 have h2 : c = 9 ↔ c.toNat = 9:=u8_eq (n:=9) (by omega)
 simp only [blkB,Bool.or_eq_true,beq_iff_eq,h1,h2];omega
theorem blk_false {c : UInt8} (h : ¬ ((c.toNat : Int) = 32∨(c.toNat : Int) = 9)) : blkB c = false:=by
 cases hb : blkB c with
 | false=>rfl
 | true =>
  have h1 : c = 32 ↔ c.toNat = 32:=u8_eq (n:=32) (by omega)
  have h2 : c = 9 ↔ c.toNat = 9:=u8_eq (n:=9) (by omega)
  refine absurd ?_ h
  simp only [blkB,Bool.or_eq_true,beq_iff_eq,h1,h2] at hb;omega
theorem vblank_any (c : UInt8) (w : World) : Calls Tryz.prog 218 #[.int .u8 (c.toNat : Int)] w fun e w'=>e = .returned (.bool (blkB c))∧w = w':=by
 have HT:=Lib.hid (@blk_true c)
 have HF:=Lib.hid (@blk_false c)
 generalize (c.toNat : Int) = z at HT HF
 rcases (by omega : z = 32∨z = 9∨(z ≠ 32∧z ≠ 9)) with h | h | ⟨h,h'⟩
 ·have HV:=Lib.hid (HT.out (.inl h))
  subst h
  go_enter Tryz.func218,Tryz.ntmps218
  go_wp2
  go_ret
  exact ⟨by rw [HV.out];rfl,rfl⟩
 ·have HV:=Lib.hid (HT.out (.inr h))
  subst h
  go_enter Tryz.func218,Tryz.ntmps218
  go_wp2
  go_ret
  exact ⟨by rw [HV.out];rfl,rfl⟩
 ·have HV:=Lib.hid (HF.out (by omega))
  have h1 : (z == 32) = false:=beq_eq_false_iff_ne.2 h
  have h2 : (z == 9) = false:=beq_eq_false_iff_ne.2 h'
  go_enter Tryz.func218,Tryz.ntmps218
  go_wp2
  go_ret
  exact ⟨by rw [HV.out];rfl,rfl⟩
def strSize : Value→Nat
 | .string s=>s.size
 | _=>0
theorem vtrim_any (L : List UInt8) (w : World) (hL : L.length≤1000000) : Calls Tryz.prog 186 #[.string (bytesOf L)] w fun e w'=>e = .returned (.string (bytesOf (trimL L)))∧w = w':=by
 have HTE:=Lib.hid (trimL_eq L)
 go_enter Tryz.func186,Tryz.ntmps186
 go_wp2
 go_loopw [0] (fun v wr=>∃ l : List UInt8,v = .string (bytesOf l)∧l.length≤L.length∧Hid (l.dropWhile blkB = L.dropWhile blkB)∧wr = w) (fun v _=>strSize v)
 case atStart=>exact ⟨L,rfl,by omega,rfl,rfl⟩
 case round =>
  obtain ⟨l,rfl,hl,HD,rfl⟩:=hrel
  have hsz : (bytesOf l).size = l.length:=bytesOf_size l
  by_cases hb : ∃ c r,l = c :: r∧blkB c = true
  ·obtain ⟨c,r,rfl,hc⟩:=hb
   have h0 : 0 < (bytesOf (c :: r)).size:=by rw [hsz];simp
   have hix:=index_at (bytesOf (c :: r)) 0 0 rfl h0
   have hg : (bytesOf (c :: r))[0]'h0 = c:=by have:=get_list h0;rw [bytesOf_list] at this;simpa using this.symm
   rw [hg] at hix
   have hgi : (((bytesOf (c :: r))[0]'h0).toNat : Int) = (c.toNat : Int):=by rw [hg]
   have HX:=Lib.hid (ext_bytes (c :: r) 1)
   rw [hsz] at HX
   have hl2 : (r.length : Int)+1≤1000000:=by simp at hl;omega
   clear hg
   go_wp2_with (go_at_call 218;refine (vblank_any c _).mono ?_;rw [hc];rintro e w' ⟨rfl,rfl⟩)
   go_roundw
   case rel=>exact ⟨r,by first | exact congrArg Value.string HX.out | (rw [← ext_bytes (c :: r) 1];rfl),by simp at hl;omega,Lib.hid (by rw [← HD.out,drop_blank hc]),by first | rfl | trivial⟩
   case measure=>simp only [strSize,ByteArray.size_extract,bytesOf_size,List.length_cons];omega
  ·have HLD : Hid (l = L.dropWhile blkB):=Lib.hid (by
    rw [← HD.out]
    cases l with
    | nil=>rfl
    | cons c r =>
     have : blkB c = false:=by
      cases hq : blkB c with
      | false=>rfl
      | true=>exact absurd ⟨c,r,rfl,hq⟩ hb
     exact (dropWhile_stop this).symm)
   have HTR : Hid (trimL L = trimR l):=Lib.hid (by rw [HTE.out,HLD.out])
   have hstop : l = []∨∃ c r,l = c :: r∧blkB c = false:=by
    cases l with
    | nil=>exact .inl rfl
    | cons c r =>
     refine .inr ⟨c,r,rfl,?_⟩
     cases hq : blkB c with
     | false=>rfl
     | true=>exact absurd ⟨c,r,rfl,hq⟩ hb
   clear hb HD HLD
   rcases hstop with rfl | ⟨c,r,rfl,hc⟩
   ·have HT0 : Hid (trimL L = []):=Lib.hid (by rw [HTR.out];rfl)
    have hz0 : (bytesOf []).size = 0:=rfl
    go_wp2_with fail
    go_loopw [0] (fun v wq=>v = .string (bytesOf [])∧wq = wr) (fun _ _=>0)
    case atStart=>exact ⟨rfl,rfl⟩
    case round =>
     obtain ⟨rfl,rfl⟩:=hrel
     go_wp2
     go_ret
     exact ⟨by rw [HT0.out];rfl,rfl⟩
   ·have h0 : 0 < (bytesOf (c :: r)).size:=by rw [hsz];simp
    have hix:=index_at (bytesOf (c :: r)) 0 0 rfl h0
    have hg : (bytesOf (c :: r))[0]'h0 = c:=by have:=get_list h0;rw [bytesOf_list] at this;simpa using this.symm
    rw [hg] at hix
    have hgi : (((bytesOf (c :: r))[0]'h0).toNat : Int) = (c.toNat : Int):=by rw [hg]
    clear hg
    go_wp2_with (go_at_call 218;refine (vblank_any c _).mono ?_;rw [hc];rintro e w' ⟨rfl,rfl⟩)
    go_loopw [0] (fun v wq=>∃ l : List UInt8,v = .string (bytesOf l)∧l.length≤L.length∧Hid (trimR l = trimL L)∧wq = wr) (fun v _=>strSize v)
    case atStart=>exact ⟨c :: r,rfl,hl,Lib.hid HTR.out.symm,rfl⟩
    case round =>
     clear hix hgi h0
     obtain ⟨l,rfl,hl2,HD,rfl⟩:=hrel
     have hsz2 : (bytesOf l).size = l.length:=bytesOf_size l
     rcases List.eq_nil_or_concat l with rfl | ⟨o,y,rfl⟩
     ·have HT0 : Hid (trimL L = []):=Lib.hid (by rw [← HD.out];rfl)
      have hz0 : (bytesOf []).size = 0:=rfl
      go_wp2
      go_ret
      exact ⟨by rw [HT0.out];rfl,rfl⟩
     ·rw [List.concat_eq_append] at *
      have hlast : (o++[y]).getLast? = some y:=by simp
      have hol : (o++[y]).length = o.length+1:=by simp
      rw [hol] at hsz2 hl2
      have hp : o.length < (bytesOf (o++[y])).size:=by omega
      have hix:=index_at (bytesOf (o++[y])) ((o.length : Int)+1 - 1) o.length (by omega) hp
      have hix2:=index_at (bytesOf (o++[y])) (o.length : Int) o.length rfl hp
      have hg : (bytesOf (o++[y]))[o.length]'hp = y:=by have:=get_list hp;rw [bytesOf_list] at this;simpa using this.symm
      rw [hg] at hix hix2
      have hgi : (((bytesOf (o++[y]))[o.length]'hp).toNat : Int) = (y.toNat : Int):=by rw [hg]
      clear hg
      cases hy : blkB y with
      | true =>
       have HX : Hid ((bytesOf (o++[y])).extract 0 o.length = bytesOf o):=Lib.hid (by rw [ext_bytes0];simp)
       have HD' : Hid (trimR o = trimL L):=Lib.hid (by rw [← HD.out,(trim_last hlast).1 hy,hol,Nat.add_sub_cancel];simp)
       go_wp2_with (go_at_call 218;refine (vblank_any y _).mono ?_;rw [hy];rintro e w' ⟨rfl,rfl⟩)
       go_roundw
       case rel=>exact ⟨o,congrArg Value.string HX.out,by omega,HD',by first | rfl | trivial⟩
       case measure=>simp only [strSize,ByteArray.size_extract,bytesOf_size,List.length_append,List.length_singleton];omega
      | false =>
       have HD' : Hid (trimL L = o++[y]):=Lib.hid (by rw [← HD.out,(trim_last hlast).2 hy])
       go_wp2_with (go_at_call 218;refine (vblank_any y _).mono ?_;rw [hy];rintro e w' ⟨rfl,rfl⟩)
       go_ret
       exact ⟨by rw [HD'.out];rfl,rfl⟩
end
section
open Go.RowKit Go.Maps
theorem Rd.atS {w : World} {A : Option Addr} {l : List (List UInt8)} {k : Nat} {x : List UInt8} (h : Rd w 1 A (l.map encNm)) (hk : l[k]? = some x) : ∃ b off,A = some ⟨b,off,none⟩∧w.cell? ⟨b,off+k,none⟩ = some (.string (bytesOf x)):=by
 obtain ⟨b,off,rfl,hc⟩:=h (by intro e;cases l with | nil=>simp at hk | cons _ _=>simp at e)
 have h0:=hc k 0 (encNm x) (.string (bytesOf x)) (by simp [hk]) rfl
 exact ⟨b,off,rfl,by simpa using h0⟩
end
section
open Go.RowKit Go.Maps
structure RfX (w : World) (base p x : Nat) (An : Option Addr) (nn cn : Nat) (As : Option Addr) (ns cs : Nat) (xs : List (Option Addr × Nat × Nat)) (N : List (List UInt8)) (S : List (List (Int × Int))) : Prop where
 blk : Blk w p 206 #[.slice An nn cn,.slice As ns cs]
 pb : base≤p
 hn : Own w base 9 1 An nn cn (N.map encNm)
 hs : Own w base 239 1 As ns cs (xs.map encSl)
 hx : Sets w base xs S
 xp : x ≠ p
 xn : ∀ a,An = some a→a.block ≠ x
 xs_ : ∀ a,As = some a→a.block ≠ x
structure RfB (w : World) (base p x : Nat) (N : List (List UInt8)) (S : List (List (Int × Int))) : Prop where
 ex : ∃ (An : Option Addr) (nn cn : Nat) (As : Option Addr) (ns cs : Nat) (xs : List (Option Addr × Nat × Nat)),RfX w base p x An nn cn As ns cs xs N S
section
variable {w w' : World} {base p x : Nat} {An : Option Addr} {nn cn : Nat} {As : Option Addr} {ns cs : Nat} {xs : List (Option Addr × Nat × Nat)} {N : List (List UInt8)} {S : List (List (Int × Int))}
theorem RfX.below (h : RfX w base p x An nn cn As ns cs xs N S) (hb : Below w.heap.size w w') : RfX w' base p x An nn cn As ns cs xs N S:=⟨h.blk.below hb,h.pb,h.hn.below hb,h.hs.below hb,h.hx.below hb,h.xp,h.xn,h.xs_⟩
theorem RfB.below (h : RfB w base p x N S) (hb : Below w.heap.size w w') : RfB w' base p x N S:=by
 obtain ⟨a1,a2,a3,a4,a5,a6,a7,h⟩:=h.ex
 exact ⟨a1,a2,a3,a4,a5,a6,a7,h.below hb⟩
theorem RfX.lenN (h : RfX w base p x An nn cn As ns cs xs N S) : N.length = nn:=by simpa using h.hn.len
theorem RfX.lenS (h : RfX w base p x An nn cn As ns cs xs N S) : xs.length = ns∧S.length = ns:=by
 have:=h.hs.len;rw [List.length_map] at this
 exact ⟨this,by rw [← h.hx.len];exact this⟩
theorem types_rf : (9 : TypeId) ≠ 239∧(9 : TypeId) ≠ 206∧(239 : TypeId) ≠ 206∧(9 : TypeId) ≠ 262∧(239 : TypeId) ≠ 262∧(206 : TypeId) ≠ 262:=by decide
theorem RfX.named {w3 : World} {o : Obj} {n : List UInt8} {A3 : Option Addr} {c3 : Nat} (h : RfX w base p x An nn cn As ns cs xs N S) (ho3 : Own w3 base 9 1 A3 (nn+1) c3 ((N++[n]).map encNm))
  (hg3 : (w.alloc o).grownBy w3 (An.map (·.block))) (hA3 : A3 = An∨A3 = some ⟨(w.alloc o).heap.size,0,none⟩) (hx : x < w.heap.size) (hB : base≤w.heap.size) :
  Blk w3 p 206 #[.slice An nn cn,.slice As ns cs]∧RfX (w3.setCell ⟨p,0,none⟩ (.slice A3 (nn+1) c3)) base p x A3 (nn+1) c3 As ns cs xs (N++[n]) S ∧
   KX base x w (w3.setCell ⟨p,0,none⟩ (.slice A3 (nn+1) c3))∧KeepR base w (w3.setCell ⟨p,0,none⟩ (.slice A3 (nn+1) c3)):=by
 obtain ⟨t1,t2,t3,t4,t5,t6⟩:=types_rf
 have hg:=grown_alloc hg3
 have b3 : Blk w3 p 206 #[.slice An nn cn,.slice As ns cs]:=h.blk.grown hg (fun e=>by cases An with | none=>cases e | some a=>simp at e;exact h.hn.off h.blk t2 a rfl e.symm)
 have s3 : Own w3 base 239 1 As ns cs (xs.map encSl):=h.hs.grown hg (fun a ha e=>by cases An with | none=>cases e | some b=>simp at e;exact h.hn.apart h.hs t1 b a rfl ha e.symm)
 have x3 : Sets w3 base xs S:=h.hx.grown hg (fun g q e=>own_not_R h.hn t4 g q e)
 have hxA3 : ∀ a,A3 = some a→a.block ≠ x:=fun a ha=>by
  rcases hA3 with e | e
  ·exact h.xn a (by rw [← e];exact ha)
  ·rw [e] at ha;injection ha with ha;subst ha;simp;omega
 refine ⟨b3,⟨?_,h.pb,?_,?_,?_,h.xp,hxA3,h.xs_⟩,?_,?_⟩
 ·have:=b3.set_ 0 (.slice A3 (nn+1) c3)
  simpa using this
 ·exact ho3.setCell (fun a ha=>ho3.off b3 t2 a ha) _
 ·exact s3.setCell (fun a ha=>s3.off b3 t3 a ha) _
 ·exact x3.setCell (blk_not_R b3 t6) _
 ·refine (KX.grown hg hB (fun k hk=>?_)).trans (KX.setCell w3 h.pb (fun e=>h.xp e.symm) _)
  cases An with
  | none=>cases hk
  | some a=>simp at hk;subst hk;exact ⟨(h.hn.lt a rfl).1,h.xn a rfl⟩
 ·exact (KeepR.grown hg (fun g q e=>own_not_R h.hn t4 g q e)).trans (KeepR.setCell (blk_not_R b3 t6) _)
theorem RfX.moreSet {w3 : World} {o : Obj} {A3 : Option Addr} {c3 : Nat} (h : RfX w base p x An nn cn As ns cs xs N S) (ho3 : Own w3 base 239 1 A3 (ns+1) c3 ((xs++[(none,0,0)]).map encSl))
  (hg3 : (w.alloc o).grownBy w3 (As.map (·.block))) (hA3 : A3 = As∨A3 = some ⟨(w.alloc o).heap.size,0,none⟩) (hx : x < w.heap.size) (hB : base≤w.heap.size) :
  Blk w3 p 206 #[.slice An nn cn,.slice As ns cs]∧RfX (w3.setCell ⟨p,1,none⟩ (.slice A3 (ns+1) c3)) base p x An nn cn A3 (ns+1) c3 (xs++[(none,0,0)]) N (S++[[]]) ∧
   KX base x w (w3.setCell ⟨p,1,none⟩ (.slice A3 (ns+1) c3))∧KeepR base w (w3.setCell ⟨p,1,none⟩ (.slice A3 (ns+1) c3)):=by
 obtain ⟨t1,t2,t3,t4,t5,t6⟩:=types_rf
 have hg:=grown_alloc hg3
 have b3 : Blk w3 p 206 #[.slice An nn cn,.slice As ns cs]:=h.blk.grown hg (fun e=>by cases As with | none=>cases e | some a=>simp at e;exact h.hs.off h.blk t3 a rfl e.symm)
 have n3 : Own w3 base 9 1 An nn cn (N.map encNm):=h.hn.grown hg (fun a ha e=>by cases As with | none=>cases e | some b=>simp at e;exact h.hn.apart h.hs t1 a b ha rfl e)
 have x3 : Sets w3 base xs S:=h.hx.grown hg (fun g q e=>own_not_R h.hs t5 g q e)
 have hxA3 : ∀ a,A3 = some a→a.block ≠ x:=fun a ha=>by
  rcases hA3 with e | e
  ·exact h.xs_ a (by rw [← e];exact ha)
  ·rw [e] at ha;injection ha with ha;subst ha;simp;omega
 refine ⟨b3,⟨?_,h.pb,?_,?_,?_,h.xp,h.xn,hxA3⟩,?_,?_⟩
 ·have:=b3.set_ 1 (.slice A3 (ns+1) c3)
  simpa using this
 ·exact n3.setCell (fun a ha=>n3.off b3 t2 a ha) _
 ·exact ho3.setCell (fun a ha=>ho3.off b3 t3 a ha) _
 ·exact (x3.setCell (blk_not_R b3 t6) _).snoc (Own.nil_ _ _ _ _)
 ·refine (KX.grown hg hB (fun k hk=>?_)).trans (KX.setCell w3 h.pb (fun e=>h.xp e.symm) _)
  cases As with
  | none=>cases hk
  | some a=>simp at hk;subst hk;exact ⟨(h.hs.lt a rfl).1,h.xs_ a rfl⟩
 ·exact (KeepR.grown hg (fun g q e=>own_not_R h.hs t5 g q e)).trans (KeepR.setCell (blk_not_R b3 t6) _)
theorem RfX.storeSet {g k b' : Nat} {y : Option Addr × Nat × Nat} {l : List (Int × Int)} (h : RfX w base p x An nn cn (some ⟨g,0,none⟩) ns cs xs N S) (hk : k < ns) (ho : Own w b' 262 2 y.1 y.2.1 y.2.2 (l.map encR)) (hb : base≤b') :
  RfX (w.setCell ⟨g,k,none⟩ (.slice y.1 y.2.1 y.2.2)) base p x An nn cn (some ⟨g,0,none⟩) ns cs (xs.set k y) N (S.set k l)∧KX base x w (w.setCell ⟨g,k,none⟩ (.slice y.1 y.2.1 y.2.2)):=by
 obtain ⟨t1,t2,t3,t4,t5,t6⟩:=types_rf
 have hgp : g ≠ p:=h.hs.off h.blk t3 _ rfl
 refine ⟨⟨h.blk.far (p:=⟨g,k,none⟩) (Ne.symm hgp) _,h.pb,?_,?_,?_,h.xp,h.xn,h.xs_⟩,KX.setCell w (q:=⟨g,k,none⟩) (h.hs.lt _ rfl).1 (h.xs_ ⟨g,0,none⟩ rfl) _⟩
 ·exact h.hn.setCell (p:=⟨g,k,none⟩) (fun a ha e=>h.hn.apart h.hs t1 a ⟨g,0,none⟩ ha rfl e) _
 ·exact h.hs.storedSl (by rw [h.lenS.1];exact hk) y
 ·refine Sets.set_ (h.hx.setCell (q:=⟨g,k,none⟩) (fun r=>own_not_R h.hs t5 g r rfl) _) ?_
  exact (ho.setCell (p:=⟨g,k,none⟩) (fun a ha e=>ho.apart h.hs (Ne.symm t5) a ⟨g,0,none⟩ ha rfl e) _).more hb
end
theorem bytes_inj {a b : List UInt8} : bytesOf a = bytesOf b ↔ a = b:=⟨fun h=>by rw [← bytesOf_list a,← bytesOf_list b,h],fun h=>by rw [h]⟩
theorem idx_step {N : List (List UInt8)} {n y : List UInt8} {i : Nat} (h : n ∉ N.take i) (hy : N[i]? = some y) : (y = n→N.idxOf? n = some i)∧(y ≠ n→n ∉ N.take (i+1)):=by
 constructor
 ·rintro rfl
  rw [List.idxOf?,List.findIdx?_eq_some_iff_getElem]
  obtain ⟨hlt,e⟩:=List.getElem?_eq_some_iff.1 hy
  refine ⟨hlt,by simp [e],fun j hj=>?_⟩
  simp only [Bool.not_eq_true,beq_eq_false_iff_ne]
  intro hjy
  exact h (List.mem_take_iff_getElem.2 ⟨j,by omega,by simpa using hjy⟩)
 ·intro hne hm
  rw [List.take_add_one,hy] at hm
  simp at hm
  rcases hm with hm | hm
  ·exact h hm
  ·exact hne hm.symm
theorem idx_none {N : List (List UInt8)} {n : List UInt8} (h : n ∉ N) : N.idxOf? n = none:=by
 rw [List.idxOf?,List.findIdx?_eq_none_iff]
 intro x hx
 simp only [beq_eq_false_iff_ne]
 rintro rfl;exact h hx
theorem vClass_any (base p x : Nat) (N : List (List UInt8)) (S : List (List (Int × Int))) (n : List UInt8) (w : World) (h : RfB w base p x N S) (hN : N.length≤1000000) :
  Calls Tryz.prog 190 #[.pointer (some ⟨p,0,none⟩),.string (bytesOf n)] w fun e w'=>e = .returned (.tuple #[.int .i64 (((N.idxOf? n).getD 0 : Nat) : Int),.bool (N.idxOf? n).isSome])∧w = w':=by
 obtain ⟨An,nn,cn,As,ns,cs,xs,hX⟩:=h.ex
 have hl:=hX.lenN
 have Hl:=Lib.hid hl
 have hrd:=hX.hn.rd (by omega)
 have c0:=hX.blk.cell 0
 simp only [zG,zH] at c0
 have hnn : nn≤1000000:=by omega
 clear hl h
 go_enter Tryz.func190,Tryz.ntmps190
 go_wp2
 go_loopw [6] (fun v wr=>∃ i : Nat,v = .int .i64 i∧i≤nn∧Hid (n ∉ N.take i)∧wr = w) (fun v _=>nn - (intOf v).toNat)
 case atStart=>exact ⟨0,rfl,by omega,by simp [Hid],rfl⟩
 case round =>
  obtain ⟨i,rfl,hi,HN,rfl⟩:=hrel
  by_cases hlt : i < nn
  ·obtain ⟨y,Hy⟩ : ∃ y,Hid (N[i]? = some y):=⟨_,Lib.hid (List.getElem?_eq_getElem (show i < N.length by have:=Hl.out;omega))⟩
   obtain ⟨b,off,rfl,hc⟩:=hrd.atS Hy.out
   have HI:=Lib.hid (idx_step HN.out Hy.out)
   by_cases hyn : y = n
   ·have HE:=Lib.hid (HI.out.1 hyn)
    subst hyn
    go_wp2
    go_ret2
    exact ⟨by rw [HE.out];rfl,rfl⟩
   ·have HE:=Lib.hid (HI.out.2 hyn)
    have e1 : ((bytesOf y).toList == (bytesOf n).toList) = false:=by rw [ByteArray.toList_eq,ByteArray.toList_eq,bytesOf_list,bytesOf_list];exact beq_eq_false_iff_ne.2 hyn
    have e3 : decide (bytesOf y = bytesOf n) = false:=decide_eq_false (fun k=>hyn (bytes_inj.1 k))
    clear hyn
    go_wp2
    go_roundw
    case rel=>exact ⟨i+1,by go_num,by omega,HE,by first | rfl | trivial⟩
    case measure=>simp [intOf];omega
  ·have HE:=Lib.hid (idx_none (N:=N) (n:=n) (by have:=HN.out;rwa [List.take_of_length_le (by have:=Hl.out;omega)] at this))
   go_wp2
   go_ret2
   exact ⟨by rw [HE.out];rfl,rfl⟩
end
section
open Go.RowKit Go.Maps
structure Byt (w : World) (b : Nat) (L : List UInt8) : Prop where
 cell : ∀ j (h : j < L.length),w.cell? ⟨b,j,none⟩ = some (.int .u8 ((L[j]'h).toNat : Int))
 free : ∀ j,j < L.length→w.frozen? ⟨b,j,none⟩ = false
theorem Byt.set_ {w : World} {b : Nat} {L : List UInt8} (h : Byt w b L) {i : Nat} (hi : i < L.length) (c : UInt8) (v : Int) (hv : v = (c.toNat : Int)) : Byt (w.setCell ⟨b,i,none⟩ (.int .u8 v)) b (L.set i c):=by
 subst hv
 refine ⟨fun j hj=>?_,fun j hj=>?_⟩
 ·rw [List.length_set] at hj
  by_cases e : i = j
  ·subst e
   rw [World.cell?_setCell_same _ _ _ (h.cell i hi)];simp
  ·rw [World.cell?_setCell_other _ _ _ _ (fun k=>e (by injection k)),h.cell j hj];simp [List.getElem_set_ne e]
 ·rw [List.length_set] at hj
  rw [World.frozen?_setCell];exact h.free j hj
theorem byt_world (w : World) (l : List UInt8) : Byt (Lib.bytesWorld w 5 (bytesOf l)) w.heap.size l:=by
 refine ⟨fun j hj=>?_,fun j hj=>?_⟩
 ·have h1:=Lib.bytesWorld_cell w 5 (bytesOf l) j (by rw [bytesOf_size];exact hj)
  rw [bytesOf_list,List.getD_eq_getElem?_getD,List.getElem?_eq_getElem hj] at h1
  exact h1
 ·unfold World.frozen?
  rw [Lib.bytesWorld_at_new]
  have hc : l.length≤(Lib.bytesCells w 5 (bytesOf l)).size:=by
   simp [Lib.bytesCells]
   rw [bytesOf_size];omega
  simp;omega
theorem vspaced_any (l : List UInt8) (w : World) (hs : l.length≤1000000) : Calls Tryz.prog 189 #[.string (bytesOf l)] w fun e w'=>e = .returned (.string (bytesOf (spcL l)))∧Below w.heap.size w w':=by
 have hcv:=fun W=>Lib.run_convert_string_bytes (P:=Tryz.prog) W 9 155 5 (bytesOf l) Tryz.underlying9 Tryz.underlying155 Tryz.underlying5
 have hsz : (bytesOf l).size = l.length:=bytesOf_size l
 have Hlen : Hid ((spcL l).length = l.length):=Lib.hid (by unfold spcL;rw [List.length_map])
 go_enter Tryz.func189,Tryz.ntmps189
 go_wp2
 have hby:=byt_world w l
 have hbw:=below_bytesWorld w 5 (bytesOf l)
 generalize Lib.bytesWorld w 5 (bytesOf l) = w1 at hby hbw ⊢
 clear hcv
 go_loopw [4] (fun v wr=>∃ i : Nat,v = .int .i64 i∧i≤l.length∧Byt wr w.heap.size ((spcL l).take i++l.drop i)∧Below w.heap.size w wr) (fun v _=>l.length - (intOf v).toNat)
 case atStart=>exact ⟨0,rfl,by omega,by simpa using hby,hbw⟩
 case round =>
  clear hby hbw
  obtain ⟨i,rfl,hi,hB,hb⟩:=hrel
  have hll : ((spcL l).take i++l.drop i).length = l.length:=by rw [List.length_append,List.length_take,List.length_drop,Hlen.out];omega
  by_cases hlt : i < l.length
  ·obtain ⟨x,Hx⟩ : ∃ x,Hid (l[i]? = some x):=⟨_,Lib.hid (List.getElem?_eq_getElem hlt)⟩
   have hgx : ((spcL l).take i++l.drop i)[i]'(by omega) = x:=by
    have h1 : ((spcL l).take i++l.drop i)[i]? = some x:=by
     rw [List.getElem?_append_right (by rw [List.length_take,Hlen.out];omega),List.length_take,Hlen.out,Nat.min_eq_left (by omega),Nat.sub_self,List.getElem?_drop];exact Hx.out
    obtain ⟨_,h2⟩:=List.getElem?_eq_some_iff.1 h1
    exact h2
   have hc:=hB.cell i (by omega)
   rw [hgx] at hc
   have hf:=hB.free i (by omega)
   have hnext : ∀ y,y = (if x = 9 then 32 else x)→((spcL l).take i++l.drop i).set i y = (spcL l).take (i+1)++l.drop (i+1):=fun y hy=>by
    have h1 : (spcL l)[i]? = some y:=by unfold spcL;rw [List.getElem?_map,Hx.out,hy];rfl
    rw [drop_at Hx.out,List.take_add_one,h1]
    have h2 : ((spcL l).take i).length = i:=by rw [List.length_take,Hlen.out];omega
    have h3:=set_mid ((spcL l).take i) x y (l.drop (i+1))
    rw [h2] at h3
    rw [h3];simp
   by_cases hx9 : x = 9
   ·have hz : ((x.toNat : Int) == 9) = true:=by rw [hx9];rfl
    have HN:=Lib.hid (hnext 32 (by rw [if_pos hx9]))
    have HB:=Lib.hid (hB.set_ (i:=i) (by omega) 32 32 rfl)
    rw [HN.out] at HB
    clear hnext hx9 hgx
    go_wp2
    go_roundw
    case rel=>exact ⟨i+1,by go_num,by omega,HB.out,hb.setCell (p:=⟨w.heap.size,i,none⟩) (Nat.le_refl _) _⟩
    case measure=>simp [intOf];omega
   ·have hz : ((x.toNat : Int) == 9) = false:=beq_eq_false_iff_ne.2 (fun e=>hx9 ((u8_eq (n:=9) (by omega)).2 (by omega)))
    have HN:=Lib.hid (hnext x (by rw [if_neg hx9]))
    have hsame : ((spcL l).take i++l.drop i).set i x = (spcL l).take i++l.drop i:=by
     conv=>lhs;rw [← hgx]
     exact List.set_getElem_self _
    rw [hsame] at HN
    clear hnext hx9 hgx hsame
    go_wp2
    go_roundw
    case rel=>exact ⟨i+1,by go_num,by omega,by rw [← HN.out];exact hB,hb⟩
    case measure=>simp [intOf];omega
  ·have HE : Hid ((spcL l).take i++l.drop i = spcL l):=Lib.hid (by rw [List.take_of_length_le (by rw [Hlen.out];omega),List.drop_of_length_le (by omega),List.append_nil])
   rw [HE.out] at hB
   have hcb:=fun c=>run_convert_bytes_back (P:=Tryz.prog) wr 155 9 5 ⟨w.heap.size,0,none⟩ c (spcL l) Tryz.underlying155 Tryz.underlying5 Tryz.underlying9 (fun k hk=>by
    have e : (⟨w.heap.size,0,none⟩ : Addr).add k = ⟨w.heap.size,k,none⟩:=by
     unfold Addr.add
     split
     ·rename_i h0;rw [h0]
     ·simp
    rw [e];exact hB.cell k hk)
   rw [Hlen.out] at hcb
   go_wp2
   go_ret
   exact ⟨rfl,hb⟩
theorem take_sub {l : List UInt8} {a b : Nat} : (bytesOf l).extract a b = bytesOf ((l.drop a).take (b - a)):=ext_bytes2 l a b
theorem vLines_any (t : List UInt8) (w : World) (ht : t.length≤1000000) :
  Calls Tryz.prog 157 #[.string (bytesOf t)] w fun e w'=>∃ A n c,e = .returned (.slice A n c)∧Own w' w.heap.size 9 1 A n c ((splitL t).map encNm)∧Below w.heap.size w w':=by
 obtain ⟨i0,hi0,hz0,hz1,hz2⟩:=info_parts info_cloneS
 have hsz : (bytesOf t).size = t.length:=bytesOf_size t
 go_enter Tryz.func157,Tryz.ntmps157
 go_wp2
 go_loopw [3,4,5] (fun a f v wr=>∃ (i frm : Nat) (done : List (List UInt8)) (A : Option Addr) (n c : Nat),a = .slice A n c∧f = .int .i64 frm∧v = .int .i64 i∧i≤t.length∧n≤i∧frm≤i∧Hid (LinesAt t i frm done)∧Own wr w.heap.size 9 1 A n c (done.map encNm)∧Below w.heap.size w wr) (fun _ _ v _=>t.length - (intOf v).toNat)
 case atStart=>exact ⟨0,0,[],none,0,0,rfl,rfl,rfl,by omega,by omega,by omega,LinesAt.start t,Own.nil_ _ _ _ _,Below.refl _ _⟩
 case round =>
  obtain ⟨i,frm,done,A,n,c,rfl,rfl,rfl,hi,hni,hfi,HL,ho,hb⟩:=hrel
  have hszr:=hb.size
  by_cases hlt : i < t.length
  ·have hp : i < (bytesOf t).size:=by omega
   have hix:=index_at (bytesOf t) i i rfl hp
   obtain ⟨x,hx⟩ : ∃ x,(bytesOf t)[i]'hp = x:=⟨_,rfl⟩
   have Hx : Hid (t[i]? = some x):=Lib.hid (by have:=get_list hp;rw [bytesOf_list,hx] at this;exact this)
   have hgi : (((bytesOf t)[i]'hp).toNat : Int) = (x.toNat : Int):=by rw [hx]
   rw [hx] at hix
   clear hx
   by_cases hx10 : x = 10
   ·have hz : ((x.toNat : Int) == 10) = true:=by rw [hx10];rfl
    have HL':=Lib.hid (LinesAt.line HL.out (by rw [Hx.out,hx10]))
    have HX:=Lib.hid (take_sub (l:=t) (a:=frm) (b:=i))
    clear hx10
    go_wp2_with (at_builtin;go_must (refine wpList_app rfl (.tmp 16) (.tmp 21) _ rfl w.heap.size 9 i0 _ 1 16 Tryz.underlying184 hi0 hz0 hz1 hz2 rfl (by omega) A n c (done.map encNm) rfl (ho.alloc _) _ 1 1 [encNm ((t.drop frm).take (i - frm))] rfl rfl (Rd.newAt (by simp) (by simp [encNm,HX.out])) (encNm_ok [(t.drop frm).take (i - frm)]) (by unfold maxLen;omega) (by omega) (by simp;omega) ?_);intro A3 c3 w3 ho3 hg3 hA3;have hb3:=below_app (hb.alloc (by omega) _) hg3 (by simp;omega) (fun a ha=>(ho.lt a ha).1);clear hg3)
    have Ho3 : Own w3 w.heap.size 9 1 A3 (n+1) c3 ((done++[(t.drop frm).take (i - frm)]).map encNm):=by rw [List.map_append];exact ho3
    clear ho3
    go_roundw
    case rel=>exact ⟨i+1,i+1,_,A3,n+1,c3,rfl,by go_num,by go_num,by omega,by omega,by omega,HL',Ho3,hb3⟩
    case measure=>simp [intOf];omega
   ·have hz : ((x.toNat : Int) == 10) = false:=beq_eq_false_iff_ne.2 (fun e=>hx10 ((u8_eq (n:=10) (by omega)).2 (by omega)))
    have HL':=Lib.hid (LinesAt.byte HL.out Hx.out hx10)
    clear hx10
    go_wp2
    go_roundw
    case rel=>exact ⟨i+1,frm,done,A,n,c,rfl,rfl,by go_num,by omega,by omega,by omega,HL',ho,hb⟩
    case measure=>simp [intOf];omega
  ·obtain rfl : i = t.length:=by omega
   have HE:=Lib.hid (LinesAt.done HL.out)
   have HX:=Lib.hid (ext_bytes t frm)
   rw [hsz] at HX
   go_wp2_with (at_builtin;go_must (refine wpList_app rfl (.tmp 25) (.tmp 29) _ rfl w.heap.size 9 i0 _ 1 16 Tryz.underlying184 hi0 hz0 hz1 hz2 rfl (by omega) A n c (done.map encNm) rfl (ho.alloc _) _ 1 1 [encNm (t.drop frm)] rfl rfl (Rd.newAt (by simp) (by simp [encNm,HX.out])) (encNm_ok [t.drop frm]) (by unfold maxLen;omega) (by omega) (by simp;omega) ?_);intro A3 c3 w3 ho3 hg3 hA3;have hb3:=below_app (hb.alloc (by omega) _) hg3 (by simp;omega) (fun a ha=>(ho.lt a ha).1);clear hg3)
   go_ret
   exact ⟨A3,n+1,c3,rfl,by rw [HE.out,List.map_append];exact ho3,hb3⟩
end
section
open Go.RowKit Go.Maps
theorem oblank_any (c : UInt8) (w : World) : Calls Tryz.prog 209 #[.int .u8 (c.toNat : Int)] w fun e w'=>e = .returned (.bool (blkB c))∧w = w':=by
 have HT:=Lib.hid (@blk_true c)
 have HF:=Lib.hid (@blk_false c)
 generalize (c.toNat : Int) = z at HT HF
 rcases (by omega : z = 32∨z = 9∨(z ≠ 32∧z ≠ 9)) with h | h | ⟨h,h'⟩
 ·have HV:=Lib.hid (HT.out (.inl h))
  subst h
  go_enter Tryz.func209,Tryz.ntmps209
  go_wp2
  go_ret
  exact ⟨by rw [HV.out];rfl,rfl⟩
 ·have HV:=Lib.hid (HT.out (.inr h))
  subst h
  go_enter Tryz.func209,Tryz.ntmps209
  go_wp2
  go_ret
  exact ⟨by rw [HV.out];rfl,rfl⟩
 ·have HV:=Lib.hid (HF.out (by omega))
  have h1 : (z == 32) = false:=beq_eq_false_iff_ne.2 h
  have h2 : (z == 9) = false:=beq_eq_false_iff_ne.2 h'
  go_enter Tryz.func209,Tryz.ntmps209
  go_wp2
  go_ret
  exact ⟨by rw [HV.out];rfl,rfl⟩
theorem otrim_any (L : List UInt8) (w : World) (hL : L.length≤1000000) : Calls Tryz.prog 175 #[.string (bytesOf L)] w fun e w'=>e = .returned (.string (bytesOf (trimL L)))∧w = w':=by
 have HTE:=Lib.hid (trimL_eq L)
 go_enter Tryz.func175,Tryz.ntmps175
 go_wp2
 go_loopw [0] (fun v wr=>∃ l : List UInt8,v = .string (bytesOf l)∧l.length≤L.length∧Hid (l.dropWhile blkB = L.dropWhile blkB)∧wr = w) (fun v _=>strSize v)
 case atStart=>exact ⟨L,rfl,by omega,rfl,rfl⟩
 case round =>
  obtain ⟨l,rfl,hl,HD,rfl⟩:=hrel
  have hsz : (bytesOf l).size = l.length:=bytesOf_size l
  by_cases hb : ∃ c r,l = c :: r∧blkB c = true
  ·obtain ⟨c,r,rfl,hc⟩:=hb
   have h0 : 0 < (bytesOf (c :: r)).size:=by rw [hsz];simp
   have hix:=index_at (bytesOf (c :: r)) 0 0 rfl h0
   have hg : (bytesOf (c :: r))[0]'h0 = c:=by have:=get_list h0;rw [bytesOf_list] at this;simpa using this.symm
   rw [hg] at hix
   have hgi : (((bytesOf (c :: r))[0]'h0).toNat : Int) = (c.toNat : Int):=by rw [hg]
   have HX:=Lib.hid (ext_bytes (c :: r) 1)
   rw [hsz] at HX
   have hl2 : (r.length : Int)+1≤1000000:=by simp at hl;omega
   clear hg
   go_wp2_with (go_at_call 209;refine (oblank_any c _).mono ?_;rw [hc];rintro e w' ⟨rfl,rfl⟩)
   go_roundw
   case rel=>exact ⟨r,by first | exact congrArg Value.string HX.out | (rw [← ext_bytes (c :: r) 1];rfl),by simp at hl;omega,Lib.hid (by rw [← HD.out,drop_blank hc]),by first | rfl | trivial⟩
   case measure=>simp only [strSize,ByteArray.size_extract,bytesOf_size,List.length_cons];omega
  ·have HLD : Hid (l = L.dropWhile blkB):=Lib.hid (by
    rw [← HD.out]
    cases l with
    | nil=>rfl
    | cons c r =>
     have : blkB c = false:=by
      cases hq : blkB c with
      | false=>rfl
      | true=>exact absurd ⟨c,r,rfl,hq⟩ hb
     exact (dropWhile_stop this).symm)
   have HTR : Hid (trimL L = trimR l):=Lib.hid (by rw [HTE.out,HLD.out])
   have hstop : l = []∨∃ c r,l = c :: r∧blkB c = false:=by
    cases l with
    | nil=>exact .inl rfl
    | cons c r =>
     refine .inr ⟨c,r,rfl,?_⟩
     cases hq : blkB c with
     | false=>rfl
     | true=>exact absurd ⟨c,r,rfl,hq⟩ hb
   clear hb HD HLD
   rcases hstop with rfl | ⟨c,r,rfl,hc⟩
   ·have HT0 : Hid (trimL L = []):=Lib.hid (by rw [HTR.out];rfl)
    have hz0 : (bytesOf []).size = 0:=rfl
    go_wp2_with fail
    go_loopw [0] (fun v wq=>v = .string (bytesOf [])∧wq = wr) (fun _ _=>0)
    case atStart=>exact ⟨rfl,rfl⟩
    case round =>
     obtain ⟨rfl,rfl⟩:=hrel
     go_wp2
     go_ret
     exact ⟨by rw [HT0.out];rfl,rfl⟩
   ·have h0 : 0 < (bytesOf (c :: r)).size:=by rw [hsz];simp
    have hix:=index_at (bytesOf (c :: r)) 0 0 rfl h0
    have hg : (bytesOf (c :: r))[0]'h0 = c:=by have:=get_list h0;rw [bytesOf_list] at this;simpa using this.symm
    rw [hg] at hix
    have hgi : (((bytesOf (c :: r))[0]'h0).toNat : Int) = (c.toNat : Int):=by rw [hg]
    clear hg
    go_wp2_with (go_at_call 209;refine (oblank_any c _).mono ?_;rw [hc];rintro e w' ⟨rfl,rfl⟩)
    go_loopw [0] (fun v wq=>∃ l : List UInt8,v = .string (bytesOf l)∧l.length≤L.length∧Hid (trimR l = trimL L)∧wq = wr) (fun v _=>strSize v)
    case atStart=>exact ⟨c :: r,rfl,hl,Lib.hid HTR.out.symm,rfl⟩
    case round =>
     clear hix hgi h0
     obtain ⟨l,rfl,hl2,HD,rfl⟩:=hrel
     have hsz2 : (bytesOf l).size = l.length:=bytesOf_size l
     rcases List.eq_nil_or_concat l with rfl | ⟨o,y,rfl⟩
     ·have HT0 : Hid (trimL L = []):=Lib.hid (by rw [← HD.out];rfl)
      have hz0 : (bytesOf []).size = 0:=rfl
      go_wp2
      go_ret
      exact ⟨by rw [HT0.out];rfl,rfl⟩
     ·rw [List.concat_eq_append] at *
      have hlast : (o++[y]).getLast? = some y:=by simp
      have hol : (o++[y]).length = o.length+1:=by simp
      rw [hol] at hsz2 hl2
      have hp : o.length < (bytesOf (o++[y])).size:=by omega
      have hix:=index_at (bytesOf (o++[y])) ((o.length : Int)+1 - 1) o.length (by omega) hp
      have hix2:=index_at (bytesOf (o++[y])) (o.length : Int) o.length rfl hp
      have hg : (bytesOf (o++[y]))[o.length]'hp = y:=by have:=get_list hp;rw [bytesOf_list] at this;simpa using this.symm
      rw [hg] at hix hix2
      have hgi : (((bytesOf (o++[y]))[o.length]'hp).toNat : Int) = (y.toNat : Int):=by rw [hg]
      clear hg
      cases hy : blkB y with
      | true =>
       have HX : Hid ((bytesOf (o++[y])).extract 0 o.length = bytesOf o):=Lib.hid (by rw [ext_bytes0];simp)
       have HD' : Hid (trimR o = trimL L):=Lib.hid (by rw [← HD.out,(trim_last hlast).1 hy,hol,Nat.add_sub_cancel];simp)
       go_wp2_with (go_at_call 209;refine (oblank_any y _).mono ?_;rw [hy];rintro e w' ⟨rfl,rfl⟩)
       go_roundw
       case rel=>exact ⟨o,congrArg Value.string HX.out,by omega,HD',by first | rfl | trivial⟩
       case measure=>simp only [strSize,ByteArray.size_extract,bytesOf_size,List.length_append,List.length_singleton];omega
      | false =>
       have HD' : Hid (trimL L = o++[y]):=Lib.hid (by rw [← HD.out,(trim_last hlast).2 hy])
       go_wp2_with (go_at_call 209;refine (oblank_any y _).mono ?_;rw [hy];rintro e w' ⟨rfl,rfl⟩)
       go_ret
       exact ⟨by rw [HD'.out];rfl,rfl⟩
theorem oLines_any (t : List UInt8) (w : World) (ht : t.length≤1000000) :
  Calls Tryz.prog 150 #[.string (bytesOf t)] w fun e w'=>∃ A n c,e = .returned (.slice A n c)∧Own w' w.heap.size 9 1 A n c ((splitL t).map encNm)∧Below w.heap.size w w':=by
 obtain ⟨i0,hi0,hz0,hz1,hz2⟩:=info_parts info_cloneS
 have hsz : (bytesOf t).size = t.length:=bytesOf_size t
 go_enter Tryz.func150,Tryz.ntmps150
 go_wp2
 go_loopw [3,4,5] (fun a f v wr=>∃ (i frm : Nat) (done : List (List UInt8)) (A : Option Addr) (n c : Nat),a = .slice A n c∧f = .int .i64 frm∧v = .int .i64 i∧i≤t.length∧n≤i∧frm≤i∧Hid (LinesAt t i frm done)∧Own wr w.heap.size 9 1 A n c (done.map encNm)∧Below w.heap.size w wr) (fun _ _ v _=>t.length - (intOf v).toNat)
 case atStart=>exact ⟨0,0,[],none,0,0,rfl,rfl,rfl,by omega,by omega,by omega,LinesAt.start t,Own.nil_ _ _ _ _,Below.refl _ _⟩
 case round =>
  obtain ⟨i,frm,done,A,n,c,rfl,rfl,rfl,hi,hni,hfi,HL,ho,hb⟩:=hrel
  have hszr:=hb.size
  by_cases hlt : i < t.length
  ·have hp : i < (bytesOf t).size:=by omega
   have hix:=index_at (bytesOf t) i i rfl hp
   obtain ⟨x,hx⟩ : ∃ x,(bytesOf t)[i]'hp = x:=⟨_,rfl⟩
   have Hx : Hid (t[i]? = some x):=Lib.hid (by have:=get_list hp;rw [bytesOf_list,hx] at this;exact this)
   have hgi : (((bytesOf t)[i]'hp).toNat : Int) = (x.toNat : Int):=by rw [hx]
   rw [hx] at hix
   clear hx
   by_cases hx10 : x = 10
   ·have hz : ((x.toNat : Int) == 10) = true:=by rw [hx10];rfl
    have HL':=Lib.hid (LinesAt.line HL.out (by rw [Hx.out,hx10]))
    have HX:=Lib.hid (take_sub (l:=t) (a:=frm) (b:=i))
    clear hx10
    go_wp2_with (at_builtin;go_must (refine wpList_app rfl (.tmp 16) (.tmp 21) _ rfl w.heap.size 9 i0 _ 1 16 Tryz.underlying184 hi0 hz0 hz1 hz2 rfl (by omega) A n c (done.map encNm) rfl (ho.alloc _) _ 1 1 [encNm ((t.drop frm).take (i - frm))] rfl rfl (Rd.newAt (by simp) (by simp [encNm,HX.out])) (encNm_ok [(t.drop frm).take (i - frm)]) (by unfold maxLen;omega) (by omega) (by simp;omega) ?_);intro A3 c3 w3 ho3 hg3 hA3;have hb3:=below_app (hb.alloc (by omega) _) hg3 (by simp;omega) (fun a ha=>(ho.lt a ha).1);clear hg3)
    have Ho3 : Own w3 w.heap.size 9 1 A3 (n+1) c3 ((done++[(t.drop frm).take (i - frm)]).map encNm):=by rw [List.map_append];exact ho3
    clear ho3
    go_roundw
    case rel=>exact ⟨i+1,i+1,_,A3,n+1,c3,rfl,by go_num,by go_num,by omega,by omega,by omega,HL',Ho3,hb3⟩
    case measure=>simp [intOf];omega
   ·have hz : ((x.toNat : Int) == 10) = false:=beq_eq_false_iff_ne.2 (fun e=>hx10 ((u8_eq (n:=10) (by omega)).2 (by omega)))
    have HL':=Lib.hid (LinesAt.byte HL.out Hx.out hx10)
    clear hx10
    go_wp2
    go_roundw
    case rel=>exact ⟨i+1,frm,done,A,n,c,rfl,rfl,by go_num,by omega,by omega,by omega,HL',ho,hb⟩
    case measure=>simp [intOf];omega
  ·obtain rfl : i = t.length:=by omega
   have HE:=Lib.hid (LinesAt.done HL.out)
   have HX:=Lib.hid (ext_bytes t frm)
   rw [hsz] at HX
   go_wp2_with (at_builtin;go_must (refine wpList_app rfl (.tmp 25) (.tmp 29) _ rfl w.heap.size 9 i0 _ 1 16 Tryz.underlying184 hi0 hz0 hz1 hz2 rfl (by omega) A n c (done.map encNm) rfl (ho.alloc _) _ 1 1 [encNm (t.drop frm)] rfl rfl (Rd.newAt (by simp) (by simp [encNm,HX.out])) (encNm_ok [t.drop frm]) (by unfold maxLen;omega) (by omega) (by simp;omega) ?_);intro A3 c3 w3 ho3 hg3 hA3;have hb3:=below_app (hb.alloc (by omega) _) hg3 (by simp;omega) (fun a ha=>(ho.lt a ha).1);clear hg3)
   go_ret
   exact ⟨A3,n+1,c3,rfl,by rw [HE.out,List.map_append];exact ho3,hb3⟩
end
section
open Go.RowKit Go.Maps
theorem pBlank_eq : pBlank = blkB:=by
 funext c
 have h1 : c = 32 ↔ c.toNat = 32:=u8_eq (n:=32) (by omega)
 have h2 : c = 9 ↔ c.toNat = 9:=u8_eq (n:=9) (by omega)
 unfold pBlank blkB
 rw [Bool.eq_iff_iff]
 simp only [Bool.or_eq_true,beq_iff_eq,decide_eq_true_iff,h1,h2]
theorem trimB_eq (l : List UInt8) : trimB l = trimL l:=by unfold trimB trimL;rw [pBlank_eq]
theorem byte_of (t : List UInt8) {i : Nat} (hi : i < t.length) : ∃ x,t[i]? = some x∧∀ W,(Instr.index 9 (.string (bytesOf t)) (.int .i64 (i : Nat))).run Tryz.prog W = .ok (.int .u8 (x.toNat : Int)) W:=by
 have hp : i < (bytesOf t).size:=by rw [bytesOf_size];exact hi
 refine ⟨(bytesOf t)[i]'hp,?_,fun W=>index_at (bytesOf t) i i rfl hp W⟩
 have:=get_list hp
 rw [bytesOf_list] at this
 exact this
theorem take_at {q : UInt8→Bool} {l : List UInt8} {i : Nat} {x : UInt8} (hx : l[i]? = some x) : (q x = true→l.take i++(l.drop i).takeWhile q = l.take (i+1)++(l.drop (i+1)).takeWhile q)∧(q x = false→l.take i++(l.drop i).takeWhile q = l.take i):=by
 obtain ⟨hi,e⟩:=List.getElem?_eq_some_iff.1 hx
 rw [List.drop_eq_getElem_cons hi,e]
 constructor
 ·intro hq
  rw [List.takeWhile_cons,if_pos hq,List.take_add_one,hx]
  simp
 ·intro hq
  rw [List.takeWhile_cons,if_neg (by rw [hq];simp),List.append_nil]
theorem oplain_any (L : List UInt8) (w : World) (hL : L.length≤1000000) : Calls Tryz.prog 173 #[.string (bytesOf L)] w fun e w'=>e = .returned (.string (bytesOf (plainB L)))∧w = w':=by
 have hsz : (bytesOf L).size = L.length:=bytesOf_size L
 have HT:=Lib.hid (fun i W=>show Calls Tryz.prog 175 #[.string ((bytesOf L).extract 0 i)] W fun e w'=>e = .returned (.string (bytesOf (trimL (L.take i))))∧W = w' by
  rw [ext_bytes0];exact otrim_any (L.take i) W (by rw [List.length_take];omega))
 have HA:=Lib.hid (fun W=>otrim_any L W hL)
 have HP:=Lib.hid (show plainB L = trimL (L.takeWhile fun c=>decide (c.toNat ≠ 35)) by unfold plainB;rw [trimB_eq])
 go_enter Tryz.func173,Tryz.ntmps173
 go_wp2
 go_loopw [3] (fun v wr=>∃ i : Nat,v = .int .i64 i∧i≤L.length∧Hid ((L.takeWhile fun c=>decide (c.toNat ≠ 35)) = L.take i++(L.drop i).takeWhile fun c=>decide (c.toNat ≠ 35))∧wr = w) (fun v _=>L.length - (intOf v).toNat)
 case atStart=>exact ⟨0,rfl,by omega,Lib.hid rfl,rfl⟩
 case round =>
  obtain ⟨i,rfl,hi,HD,rfl⟩:=hrel
  by_cases hlt : i < L.length
  ·obtain ⟨x,hx,hix⟩:=byte_of L hlt
   by_cases h35 : x.toNat = 35
   ·have t1 : ((x.toNat : Int) == 35) = true:=by rw [beq_iff_eq];omega
    have HE:=Lib.hid (show plainB L = trimL (L.take i) by rw [HP.out,HD.out,(take_at hx).2 (by simp [h35])])
    have HT1:=Lib.hid (HT.out i wr)
    clear hx h35
    go_wp2_with (go_at_call 175;refine HT1.out.mono ?_;rintro e w' ⟨rfl,rfl⟩)
    go_ret
    exact ⟨by rw [HE.out];rfl,rfl⟩
   ·have t1 : ((x.toNat : Int) == 35) = false:=by rw [beq_eq_false_iff_ne];omega
    have HD2:=Lib.hid (HD.out.trans ((take_at hx).1 (by simp [h35])))
    clear hx h35
    go_wp2
    go_roundw
    case rel=>exact ⟨i+1,by go_num,by omega,HD2,by first | rfl | trivial⟩
    case measure=>simp [intOf];omega
  ·obtain rfl : i = L.length:=by omega
   have HE:=Lib.hid (show plainB L = trimL L by rw [HP.out,HD.out];simp)
   have HT1:=Lib.hid (HA.out wr)
   go_wp2_with (go_at_call 175;refine HT1.out.mono ?_;rintro e w' ⟨rfl,rfl⟩)
   go_ret
   exact ⟨by rw [HE.out];rfl,rfl⟩
theorem signP_some {l a b : List UInt8} {cut : Bool} (h : signP l = some (a,cut,b)) : ∃ c,l = a++c :: b∧(∀ x ∈ a,pSign x = false)∧pSign c = true∧(∀ x ∈ b,pSign x = false)∧cut = decide (c.toNat = 47):=by
 unfold signP at h
 split at h
 ·cases h
 ·rename_i c t hd
  split at h
  ·cases h
  ·rename_i hb
   injection h with h
   injection h with h1 h2
   injection h2 with h2 h3
   subst h1 h2 h3
   have hc : (!pSign c) = false:=by
    have h1:=List.head?_dropWhile_not (fun c=>!pSign c) l
    rw [hd] at h1
    simpa using h1
   refine ⟨c,?_,fun x hx=>?_,by simpa using hc,fun x hx=>?_,rfl⟩
   ·rw [← hd,List.takeWhile_append_dropWhile]
   ·have h1:=List.all_takeWhile (p:=fun c=>!pSign c) (l:=l)
    rw [List.all_eq_true] at h1
    simpa using h1 x hx
   ·cases hq : pSign x with
    | false=>rfl
    | true=>exact absurd (List.any_eq_true.2 ⟨x,hx,hq⟩) hb
theorem sign_tests (x : UInt8) : pSign x = (((x.toNat : Int) == 126) || ((x.toNat : Int) == 47)):=by
 unfold pSign
 rw [Bool.eq_iff_iff]
 simp only [Bool.or_eq_true,beq_iff_eq,decide_eq_true_iff]
 omega
theorem osplit_ok (a b : List UInt8) (c : UInt8) (w : World) (hz : (a++c :: b).length≤1000000) (ha : ∀ x ∈ a,pSign x = false) (hc : pSign c = true) (hb : ∀ x ∈ b,pSign x = false) : Calls Tryz.prog 174 #[.string (bytesOf (a++c :: b))] w fun e w'=>e = .returned (.int .i64 (a.length : Nat))∧w = w':=by
 have HI:=Lib.hid (fun i x (hx : (a++c :: b)[i]? = some x)=>show pSign x = decide (i = a.length) by
  rcases Nat.lt_trichotomy i a.length with h | h | h
  ·rw [List.getElem?_append_left h] at hx
   rw [ha x (List.mem_of_getElem? hx),decide_eq_false (by omega)]
  ·subst h
   rw [List.getElem?_append_right (Nat.le_refl _),Nat.sub_self,zH] at hx
   injection hx with hx
   subst hx
   rw [hc,decide_eq_true rfl]
  ·rw [List.getElem?_append_right (by omega)] at hx
   obtain ⟨j,hj⟩ : ∃ j,i - a.length = j+1:=⟨i - a.length - 1,by omega⟩
   rw [hj,zI] at hx
   rw [hb x (List.mem_of_getElem? hx),decide_eq_false (by omega)])
 have hl : (a++c :: b).length = a.length+1+b.length:=by simp;omega
 have hsz : (bytesOf (a++c :: b)).size = (a++c :: b).length:=bytesOf_size _
 have HB:=Lib.hid (fun i (hi : i < (a++c :: b).length)=>byte_of (a++c :: b) hi)
 obtain ⟨m,hm⟩ : ∃ m,a.length = m:=⟨_,rfl⟩
 rw [hm] at HI hl ⊢
 generalize a++c :: b = L at HI HB hsz hl hz ⊢
 clear ha hb hc hm
 go_enter Tryz.func174,Tryz.ntmps174
 go_wp2
 go_loopw [3,4] (fun u v wr=>∃ i : Nat,v = .int .i64 i∧i≤L.length∧((i≤m∧u = .int .i64 (-1))∨(m < i∧u = .int .i64 (m : Nat)))∧wr = w) (fun _ v _=>L.length - (intOf v).toNat)
 case atStart=>exact ⟨0,rfl,by omega,.inl ⟨by omega,rfl⟩,rfl⟩
 case round =>
  obtain ⟨i,rfl,hi,hcs,rfl⟩:=hrel
  by_cases hlt : i < L.length
  ·obtain ⟨x,hx,hix⟩:=HB.out i hlt
   have hq:=HI.out i x hx
   rw [sign_tests] at hq
   rcases Nat.lt_trichotomy i m with h | h | h
   ·rcases hcs with ⟨_,rfl⟩ | ⟨h2,_⟩
    ·rw [decide_eq_false (by omega),Bool.or_eq_false_iff] at hq
     obtain ⟨t1,t2⟩:=hq
     clear hx
     go_wp2
     go_roundw
     case rel=>exact ⟨i+1,by go_num,by omega,.inl ⟨by omega,rfl⟩,by first | rfl | trivial⟩
     case measure=>simp [intOf];omega
    ·omega
   ·subst h
    rcases hcs with ⟨_,rfl⟩ | ⟨h2,_⟩
    ·rw [decide_eq_true rfl,Bool.or_eq_true] at hq
     cases t1 : ((x.toNat : Int) == 126) with
     | true =>
      clear hx hq
      go_wp2
      go_roundw
      case rel=>exact ⟨i+1,by go_num,by omega,.inr ⟨by omega,rfl⟩,by first | rfl | trivial⟩
      case measure=>simp [intOf];omega
     | false =>
      have t2 : ((x.toNat : Int) == 47) = true:=by rcases hq with h | h;rw [t1] at h;cases h;exact h
      clear hx hq
      go_wp2
      go_roundw
      case rel=>exact ⟨i+1,by go_num,by omega,.inr ⟨by omega,rfl⟩,by first | rfl | trivial⟩
      case measure=>simp [intOf];omega
    ·omega
   ·rcases hcs with ⟨h2,_⟩ | ⟨_,rfl⟩
    ·omega
    ·rw [decide_eq_false (by omega),Bool.or_eq_false_iff] at hq
     obtain ⟨t1,t2⟩:=hq
     clear hx
     go_wp2
     go_roundw
     case rel=>exact ⟨i+1,by go_num,by omega,.inr ⟨by omega,rfl⟩,by first | rfl | trivial⟩
     case measure=>simp [intOf];omega
  ·obtain rfl : i = L.length:=by omega
   rcases hcs with ⟨h2,_⟩ | ⟨_,rfl⟩
   ·omega
   ·go_wp2
    go_ret
    exact ⟨rfl,rfl⟩
end
section
open Go.RowKit Go.Maps
end
section
open Go.RowKit Go.Maps
theorem getGo_hit {q : Int} {i : Nat} {s : List (Int × Int)} {S : List (List (Int × Int))} (h : hasB s q = true) : getGo q i (s :: S) = i:=by unfold getGo;rw [if_pos h]
theorem getGo_miss {q : Int} {i : Nat} {s : List (Int × Int)} {S : List (List (Int × Int))} (h : hasB s q = false) : getGo q i (s :: S) = getGo q (i+1) S:=by conv=>lhs;unfold getGo;rw [if_neg (by rw [h];simp)]
theorem vGet_any (base p x : Nat) (d : DbP) (r : Int) (w : World) (h : RfB w base p x d.names d.full) (ho : d.Ok) (hap : Apart d.sets) :
  Calls Tryz.prog 148 #[.pointer (some ⟨p,0,none⟩),.int .i32 r] w fun e w'=>e = .returned (.int .i64 (d.get r : Nat))∧w = w':=by
 obtain ⟨An,nn,cn,As,ns,cs,xs,hX⟩:=h.ex
 have hls:=hX.lenS
 have hfl:=full_len ho
 have hn0 : 0 < ns:=by
  have h3:=ho.head
  cases hd : d.names with
  | nil=>rw [hd] at h3;cases h3
  | cons a b=>rw [hd] at hfl;simp at hfl;omega
 have hn64 : ns≤64:=by have:=ho.few;omega
 obtain ⟨g,rfl,_,_⟩:=hX.hs.form hn0
 have c1:=hX.blk.cell 1
 simp only [zG,zH,zI] at c1
 have HF:=Lib.hid (fun i s (hi : d.full[i]? = some s)=>full_small ho hap hi)
 have HG : Hid (d.get r = getGo (askR r) 1 d.full.tail):=rfl
 have Hls:=Lib.hid (show d.full.length = ns from hls.2)
 have hcase : (r < 0∧askR r = 65533)∨(¬ r < 0∧1114111 < r∧askR r = 65533)∨(¬ r < 0∧¬ 1114111 < r∧askR r = r):=by
  unfold askR;split <;> omega
 obtain ⟨q,hq⟩ : ∃ q,askR r = q:=⟨_,rfl⟩
 rw [hq] at HG hcase
 clear ho hap h hfl hq
 rcases hcase with ⟨h1,rfl⟩ | ⟨h1,h2,rfl⟩ | ⟨h1,h2,rfl⟩
 ·go_enter Tryz.func148,Tryz.ntmps148
  go_wp2_with fail
  go_loopw [5] (fun v wr=>∃ k : Nat,v = .int .i64 (k+1 : Nat)∧k+1≤ns∧wr = w∧Hid (d.get r = getGo 65533 (k+1) (d.full.tail.drop k))) (fun v _=>ns - (intOf v).toNat)
  case atStart=>exact ⟨0,rfl,by omega,rfl,by rw [List.drop_zero];exact HG⟩
  case round =>
   obtain ⟨k,rfl,hk,rfl,HK⟩:=hrel
   by_cases hlt : k+1 < ns
   ·obtain ⟨s,Hs⟩ : ∃ s,Hid (d.full[k+1]? = some s):=⟨_,Lib.hid (List.getElem?_eq_getElem (show k+1 < d.full.length by have:=Hls.out;omega))⟩
    obtain ⟨⟨yA,yn,yc⟩,Hy⟩ : ∃ y,Hid (xs[k+1]? = some y):=⟨_,Lib.hid (List.getElem?_eq_getElem (show k+1 < xs.length by omega))⟩
    have hoy : Own wr base 262 2 yA yn yc (s.map encR):=hX.hx.own (k+1) (yA,yn,yc) s Hy.out Hs.out
    have hly : s.length = yn:=by simpa using hoy.len
    have hsm:=HF.out _ s Hs.out
    have hcell:=hX.hs.cell' rfl Hy.out
    have HH:=Lib.hid (sHas_any yA yn yc s 65533 wr (hoy.rd (by omega)) hly (by omega))
    have HD:=Lib.hid (drop_at (show d.full.tail[k]? = some s by rw [List.getElem?_tail];exact Hs.out))
    have hI : (k : Int)+1 < ns:=by omega
    rw [HD.out] at HK
    cases hv : hasB s 65533 with
    | true =>
     have HE:=Lib.hid (HK.out.trans (getGo_hit hv))
     rw [hv] at HH
     clear hv hly
     go_wp2_with (go_at_call 171;refine HH.out.mono ?_;rintro e w2 ⟨rfl,rfl⟩)
     go_ret
     exact ⟨by rw [HE.out];rfl,rfl⟩
    | false =>
     have HE:=Lib.hid (HK.out.trans (getGo_miss hv))
     rw [hv] at HH
     clear hv hly
     go_wp2_with (go_at_call 171;refine HH.out.mono ?_;rintro e w2 ⟨rfl,rfl⟩)
     go_roundw
     case rel=>exact ⟨k+1,by go_num,by omega,by first | rfl | trivial,HE⟩
     case measure=>simp [intOf];omega
   ·have HE : Hid (d.get r = 0):=Lib.hid (by rw [HK.out,List.drop_of_length_le (by rw [List.length_tail];have:=Hls.out;omega)];rfl)
    obtain rfl : k+1 = ns:=by omega
    go_wp2
    go_ret
    exact ⟨by rw [HE.out];rfl,rfl⟩
 ·go_enter Tryz.func148,Tryz.ntmps148
  go_wp2_with fail
  go_loopw [5] (fun v wr=>∃ k : Nat,v = .int .i64 (k+1 : Nat)∧k+1≤ns∧wr = w∧Hid (d.get r = getGo 65533 (k+1) (d.full.tail.drop k))) (fun v _=>ns - (intOf v).toNat)
  case atStart=>exact ⟨0,rfl,by omega,rfl,by rw [List.drop_zero];exact HG⟩
  case round =>
   obtain ⟨k,rfl,hk,rfl,HK⟩:=hrel
   by_cases hlt : k+1 < ns
   ·obtain ⟨s,Hs⟩ : ∃ s,Hid (d.full[k+1]? = some s):=⟨_,Lib.hid (List.getElem?_eq_getElem (show k+1 < d.full.length by have:=Hls.out;omega))⟩
    obtain ⟨⟨yA,yn,yc⟩,Hy⟩ : ∃ y,Hid (xs[k+1]? = some y):=⟨_,Lib.hid (List.getElem?_eq_getElem (show k+1 < xs.length by omega))⟩
    have hoy : Own wr base 262 2 yA yn yc (s.map encR):=hX.hx.own (k+1) (yA,yn,yc) s Hy.out Hs.out
    have hly : s.length = yn:=by simpa using hoy.len
    have hsm:=HF.out _ s Hs.out
    have hcell:=hX.hs.cell' rfl Hy.out
    have HH:=Lib.hid (sHas_any yA yn yc s 65533 wr (hoy.rd (by omega)) hly (by omega))
    have HD:=Lib.hid (drop_at (show d.full.tail[k]? = some s by rw [List.getElem?_tail];exact Hs.out))
    have hI : (k : Int)+1 < ns:=by omega
    rw [HD.out] at HK
    cases hv : hasB s 65533 with
    | true =>
     have HE:=Lib.hid (HK.out.trans (getGo_hit hv))
     rw [hv] at HH
     clear hv hly
     go_wp2_with (go_at_call 171;refine HH.out.mono ?_;rintro e w2 ⟨rfl,rfl⟩)
     go_ret
     exact ⟨by rw [HE.out];rfl,rfl⟩
    | false =>
     have HE:=Lib.hid (HK.out.trans (getGo_miss hv))
     rw [hv] at HH
     clear hv hly
     go_wp2_with (go_at_call 171;refine HH.out.mono ?_;rintro e w2 ⟨rfl,rfl⟩)
     go_roundw
     case rel=>exact ⟨k+1,by go_num,by omega,by first | rfl | trivial,HE⟩
     case measure=>simp [intOf];omega
   ·have HE : Hid (d.get r = 0):=Lib.hid (by rw [HK.out,List.drop_of_length_le (by rw [List.length_tail];have:=Hls.out;omega)];rfl)
    obtain rfl : k+1 = ns:=by omega
    go_wp2
    go_ret
    exact ⟨by rw [HE.out];rfl,rfl⟩
 ·go_enter Tryz.func148,Tryz.ntmps148
  go_wp2_with fail
  go_loopw [5] (fun v wr=>∃ k : Nat,v = .int .i64 (k+1 : Nat)∧k+1≤ns∧wr = w∧Hid (d.get q = getGo q (k+1) (d.full.tail.drop k))) (fun v _=>ns - (intOf v).toNat)
  case atStart=>exact ⟨0,rfl,by omega,rfl,by rw [List.drop_zero];exact HG⟩
  case round =>
   obtain ⟨k,rfl,hk,rfl,HK⟩:=hrel
   by_cases hlt : k+1 < ns
   ·obtain ⟨s,Hs⟩ : ∃ s,Hid (d.full[k+1]? = some s):=⟨_,Lib.hid (List.getElem?_eq_getElem (show k+1 < d.full.length by have:=Hls.out;omega))⟩
    obtain ⟨⟨yA,yn,yc⟩,Hy⟩ : ∃ y,Hid (xs[k+1]? = some y):=⟨_,Lib.hid (List.getElem?_eq_getElem (show k+1 < xs.length by omega))⟩
    have hoy : Own wr base 262 2 yA yn yc (s.map encR):=hX.hx.own (k+1) (yA,yn,yc) s Hy.out Hs.out
    have hly : s.length = yn:=by simpa using hoy.len
    have hsm:=HF.out _ s Hs.out
    have hcell:=hX.hs.cell' rfl Hy.out
    have HH:=Lib.hid (sHas_any yA yn yc s q wr (hoy.rd (by omega)) hly (by omega))
    have HD:=Lib.hid (drop_at (show d.full.tail[k]? = some s by rw [List.getElem?_tail];exact Hs.out))
    have hI : (k : Int)+1 < ns:=by omega
    rw [HD.out] at HK
    cases hv : hasB s q with
    | true =>
     have HE:=Lib.hid (HK.out.trans (getGo_hit hv))
     rw [hv] at HH
     clear hv hly
     go_wp2_with (go_at_call 171;refine HH.out.mono ?_;rintro e w2 ⟨rfl,rfl⟩)
     go_ret
     exact ⟨by rw [HE.out];rfl,rfl⟩
    | false =>
     have HE:=Lib.hid (HK.out.trans (getGo_miss hv))
     rw [hv] at HH
     clear hv hly
     go_wp2_with (go_at_call 171;refine HH.out.mono ?_;rintro e w2 ⟨rfl,rfl⟩)
     go_roundw
     case rel=>exact ⟨k+1,by go_num,by omega,by first | rfl | trivial,HE⟩
     case measure=>simp [intOf];omega
   ·have HE : Hid (d.get q = 0):=Lib.hid (by rw [HK.out,List.drop_of_length_le (by rw [List.length_tail];have:=Hls.out;omega)];rfl)
    obtain rfl : k+1 = ns:=by omega
    go_wp2
    go_ret
    exact ⟨by rw [HE.out];rfl,rfl⟩
end
end Go.Proofs.YtlfpdpbbkjnapaaGreatDoor
