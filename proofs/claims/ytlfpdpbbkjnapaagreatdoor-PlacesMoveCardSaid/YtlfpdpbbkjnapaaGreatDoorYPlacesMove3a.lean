/-
 Several texts in one,in their build order: PlcB,PlcC,PlcK1,PlcK2,PlcK3,PlcL,PlcK,PlcQ,PlcR,PlcS.
-/
import Derived.Deep.DeepCutAuto
import Derived.Test.YtlfpdpbbkjnapaaGreatDoorYPlacesMoveGo
import Derived.Test.YtlfpdpbbkjnapaaGreatDoorYPlacesMove0a
import Derived.Test.YtlfpdpbbkjnapaaGreatDoorYPlacesMove1a
import Derived.Test.YtlfpdpbbkjnapaaGreatDoorYPlacesMoveTrD
/- -/
namespace Go.Proofs.YtlfpdpbbkjnapaaGreatDoor
set_option maxRecDepth 100000
set_option maxHeartbeats 40000000
section
open Go.RowKit Go.Shelf
attribute [local go_sem] Oper.semAt_some
def ptB (W : World) (ab : Nat) : Option Nat:=match W.cell? ⟨ab,0,none⟩ with
 | some (.slice (some a) _ _)=>some a.block
 | _=>none
def KBox (t : TypeId) (ab : Nat) (A B : World) : Prop :=
 A.heap.size≤B.heap.size∧(∀ (k : Nat) (cur : Array Value) (fz : Nat × Nat),ptB A ab ≠ some k→A.heap[k]? = some (.cells cur t fz)→B.heap[k]? = some (.cells cur t fz))∧(ptB B ab = ptB A ab∨∃ k,ptB B ab = some k∧A.heap.size≤k)
section
variable {t : TypeId} {ab : Nat} {A B C : World}
theorem ptB_of {W : World} {ab : Nat} (h : W.heap[ab]? = A.heap[ab]?) : ptB W ab = ptB A ab:=by
 unfold ptB
 rw [World.cell?_of_block h]
theorem ptB_below (h : Below A.heap.size A B) (hab : ab < A.heap.size) : ptB B ab = ptB A ab:=ptB_of (h.block ab hab)
theorem KBox.refl (t : TypeId) (ab : Nat) (W : World) : KBox t ab W W:=⟨Nat.le_refl _,fun _ _ _ _ h=>h,.inl rfl⟩
theorem KBox.trans (h : KBox t ab A B) (k : KBox t ab B C) : KBox t ab A C:=by
 refine ⟨Nat.le_trans h.1 k.1,fun i cur fz hi hA=>k.2.1 i cur fz (fun e=>?_) (h.2.1 i cur fz hi hA),?_⟩
 ·have hlt:=(Array.getElem?_eq_some_iff.1 hA).1
  rcases h.2.2 with h1 | ⟨q,h1,h2⟩
  ·exact hi (h1 ▸ e)
  ·rw [h1] at e;injection e with e;omega
 ·rcases k.2.2 with k1 | ⟨q,k1,k2⟩
  ·rcases h.2.2 with h1 | ⟨p,h1,h2⟩
   ·exact .inl (k1.trans h1)
   ·exact .inr ⟨p,k1.trans h1,h2⟩
  ·exact .inr ⟨q,k1,Nat.le_trans h.1 k2⟩
theorem KBox.put (W : World) (l : Nat) (o o' : Obj) (hl : ab ≠ l) (h : W.heap[l]? = some o) (hc : o.isCells = false) : KBox t ab W (W.putObj l o') :=
 ⟨by simp,fun k c z _ hk=>by
  by_cases e : k = l
  ·subst e;rw [h] at hk;cases hk;cases hc
  ·exact (World.putObj_heap_other e).trans hk,.inl (ptB_of (World.putObj_heap_other hl))⟩
theorem KBox.own {base : Nat} {s : Nat} {P : Option Addr} {n c : Nat} {cs : List (List Value)} (h : KBox t ab A B) (ho : Own A base t s P n c cs) (hP : ∀ a,P = some a→ptB A ab ≠ some a.block) : Own B base t s P n c cs:=by
 refine ho.keep fun a ha=>?_
 rcases ho.2.2.2 with ⟨h0,_⟩ | ⟨g,cap,cur,hv,hg,hh,_⟩
 ·injection h0 with h0;rw [h0] at ha;cases ha
 ·injection hv with hv
  have hpa:=hP a ha
  rw [hv] at ha
  injection ha with ha
  subst ha
  exact (h.2.1 _ _ _ hpa hh).trans hh.symm
theorem KBox.apart (h : KBox t ab A B) {k : Nat} (hk : ptB A ab ≠ some k) (hlt : k < A.heap.size) : ptB B ab ≠ some k:=by
 rcases h.2.2 with h1 | ⟨q,h1,h2⟩
 ·rwa [h1]
 ·rw [h1];intro e;injection e with e;omega
theorem ptB_blk {W : World} {vt : TypeId} {P : Option Addr} {n c : Nat} (h : Blk W ab vt #[.slice P n c]) : ptB W ab = P.map (·.block):=by
 have c0:=h.cell 0
 simp only [zG,zH] at c0
 unfold ptB
 rw [c0]
 cases P <;> rfl
theorem KBox.step {W V : World} {vt : TypeId} {P P3 : Option Addr} {n c n3 c3 : Nat} (hB : Blk W ab vt #[.slice P n c]) (ht : vt ≠ t) (hV : W.grownBy V (P.map (·.block))) (hne : some ab ≠ P.map (·.block))
  (h3 : P3 = P∨∃ k,P3 = some ⟨k,0,none⟩∧W.heap.size≤k) : KBox t ab W (V.setCell ⟨ab,0,none⟩ (.slice P3 n3 c3)):=by
 have hBV : Blk V ab vt #[.slice P n c]:=(hV.block ab hB.lt hne).trans hB
 have hB3 : Blk (V.setCell ⟨ab,0,none⟩ (.slice P3 n3 c3)) ab vt #[.slice P3 n3 c3]:=by
  have:=hBV.set_ 0 (.slice P3 n3 c3)
  simpa using this
 refine ⟨by simpa [World.setCell] using hV.size,fun k cur fz hk hh=>?_,?_⟩
 ·have hkab : k ≠ ab:=by
   rintro rfl
   have h2 : W.heap[k]? = some _:=hB
   rw [h2] at hh
   injection hh with hh
   injection hh with _ hh
   exact ht hh
  refine (Below.heap_setCell V ⟨ab,0,none⟩ _ k hkab).trans ((hV.block k (Array.getElem?_eq_some_iff.1 hh).1 (fun e=>?_)).trans hh)
  exact hk ((ptB_blk hB).trans e.symm)
 ·rw [ptB_blk hB3,ptB_blk hB]
  rcases h3 with rfl | ⟨k,rfl,hk⟩
  ·exact .inl rfl
  ·exact .inr ⟨k,rfl,hk⟩
end
theorem gEach_seqB (n : Nat) (hn : 1≤n) (w : World) (s : ByteArray) (bs ab : Nat) (hab : ab < w.heap.size) (hpt : ptB w ab = none) (hE : Env w) (hs : s.size≤1000000) (h : w.cell? ⟨bs,0,none⟩ = some (.string s)) :
  SeqStopsK Fence.wide n Tryz.prog 106 #[.pointer (some ⟨bs,0,none⟩)] (encCl s) (KBox 3 ab) (fun ys=>ys = piecesF (boundsG gG s)) (fun pre=>pre <+: piecesF (boundsG gG s)) (piecesF (boundsG gG s)).length w:=by
 intro l J Jx W hW hJ _ hY h0
 have hc1 : W.cell? ⟨bs,0,none⟩ = some (.string s):=cell_keep h hW
 have hWz:=hW.size
 have habW : ab < W.heap.size:=Nat.lt_of_lt_of_le hab hWz
 have hpW : ptB W ab = none:=(ptB_below hW hab).trans hpt
 have HB:=Lib.hid (gBounds_any s W (hE.below hW) hs)
 have HL:=Lib.hid (bounds_len s)
 have HP:=Lib.hid (piecesF_le (bounds_rise gG s) (bounds_le gG s))
 clear hE h
 refine callsIn_of_wp Tryz.func106 rfl trivial ?_ rfl
 simp only [Tryz.ntmps106,List.size_toArray,List.length_cons,List.length_nil,Nat.reduceAdd,Nat.reduceSub,Array.replicate_succ,Array.replicate_zero,List.push_toArray,List.append_toArray,List.nil_append,List.cons_append]
 refine wpIn_wide.2 ?_
 go_wp2_with fail
 refine HB.out.mono ?_
 rintro e w1 ⟨A,m,c,rfl,ho,hb1⟩
 have hJ1 : J [] w1:=abides_below hJ h0 hb1
 have HP1 : Hid (ptB w1 ab = none):=Lib.hid ((ptB_below hb1 habW).trans hpW)
 have hm : (boundsG gG s).length = m:=by have:=ho.len;simpa using this
 have hz : m≤1000001:=by have:=HL.out;omega
 have Hm:=Lib.hid hm
 clear hm
 go_wp2_with fail
 refine (wpIn_wide (n:=n)).1 ?_
 gi_loopw [4] (fun v wr=>∃ k j : Nat,v = .int .i64 (j : Int)∧Hid (j = k+1)∧(k = 0∨k+1≤m)∧J ((piecesF (boundsG gG s)).take k) wr∧Own wr W.heap.size 3 1 A m c ((boundsG gG s).map encN)∧Hid (∀ a,A = some a→ptB wr ab ≠ some a.block)) (fun v _=>m+1 - (intOf v).toNat)
 case atStart=>exact ⟨0,1,rfl,Lib.hid rfl,.inl rfl,hJ1,ho,Lib.hid (fun a _=>by rw [HP1.out];simp)⟩
 case round =>
  obtain ⟨k,j,rfl,HJ,hk,hJr,hor,HN⟩:=hrel
  by_cases hlt : j < m
  ·have hjm : k+1 < m:=by have:=HJ.out;omega
   have rd:=hor.rd (by decide)
   obtain ⟨x,Hx⟩ : ∃ x,Hid ((boundsG gG s)[k]? = some x):=⟨_,Lib.hid (List.getElem?_eq_getElem (by have:=Hm.out;omega))⟩
   obtain ⟨y,Hy⟩ : ∃ y,Hid ((boundsG gG s)[k+1]? = some y):=⟨_,Lib.hid (List.getElem?_eq_getElem (by have:=Hm.out;omega))⟩
   obtain ⟨b,off,rfl,cx⟩:=Rd.atQ rd Hx.out
   obtain ⟨b',off',e2,cy⟩:=Rd.atQ rd Hy.out
   injection e2 with e2
   injection e2 with e2 e3
   subst e2 e3
   have hat:=piecesF_at _ k x y Hx.out Hy.out
   have hcl : clP s (x,y) = (x,y):=clP_in (HP.out _ (List.mem_of_getElem? hat))
   have hp : (piecesF (boundsG gG s)).take k++[(x,y)] = (piecesF (boundsG gG s)).take (k+1):=by
    rw [List.take_add_one,hat];rfl
   have hlen : ((piecesF (boundsG gG s)).take k).length < (piecesF (boundsG gG s)).length:=by
    rw [List.length_take,piecesF_len,Hm.out];omega
   have e4 : (j : Int) - 1 = (k : Int):=by have:=HJ.out;omega
   have e5 : IntKind.i64.wrap ((j : Int) - 1) = (k : Int):=by rw [e4];exact IntWalk.i64_in _ (by omega)
   have e6 : IntKind.i64.wrap (k : Int) = (k : Int):=IntWalk.i64_in _ (by omega)
   have hk0 : (0 : Int)≤(k : Int):=by omega
   have hkm : (k : Int) < (m : Int):=by omega
   have hkN : k < m:=by omega
   have hjN : j < m:=by omega
   have hj0 : (0 : Int)≤(j : Int):=by omega
   have hj1 : (j : Int) < (m : Int):=by omega
   have cy : wr.cell? ⟨b,off+j,none⟩ = some (.int .i64 (y : Nat)):=by rw [HJ.out];exact cy
   have hYW:=YieldAt.mono (R':=fun e W'=>∃ q : Bool,e = .returned (.bool q)∧(q = true→J ((piecesF (boundsG gG s)).take (k+1)) W'∧KBox 3 ab wr.drew W')∧(q = false→Jx ((piecesF (boundsG gG s)).take (k+1)) W')) (hY _ (x,y) wr.drew (abides_below hJ hJr (Below.refl _ _).drew) hlen) (by
    rw [hp]
    rintro e W' (⟨h1,h2,h3⟩ | ⟨h1,h2⟩)
    ·exact ⟨true,h1,fun _=>⟨h2,h3⟩,fun h=>absurd h (by decide)⟩
    ·exact ⟨false,h1,fun h=>absurd h (by decide),fun _=>h2⟩)
   obtain ⟨fn,tmps,assign,body,hy,hR⟩:=hYW
   dsimp only [encCl] at hy
   rw [hcl] at hy
   dsimp only [encP2] at hy
   clear hat hcl hlen hjm
   have hmx : Tryz.prog.follows .mixedOrders = true:=by kernel_rfl
   gi_wp2_with fail
   gi_region_with_o (refine hR.mono ?_;rintro e W4 ⟨q,rfl,hqt,hqf⟩)
   all_goals
    cases q with
    | true =>
     obtain ⟨hJ4,hk4⟩:=hqt rfl
     gi_wp2_with fail
     go_roundw
     case rel=>exact ⟨k+1,j+1,by go_num,Lib.hid (by rw [HJ.out]),.inr (by have:=HJ.out;omega),hJ4,hk4.own hor HN.out,Lib.hid (fun a ha=>hk4.apart (HN.out a ha) (hor.lt a ha).2)⟩
     case measure=>simp [intOf];omega
    | false =>
     have hJ4:=hqf rfl
     gi_wp2
     refine bodyPost_ret (results_none rfl _ _ _) rfl ?_
     exact ⟨⟨_,rfl⟩,.inr ⟨_,List.take_prefix _ _,hJ4⟩⟩
  ·have hend : (piecesF (boundsG gG s)).take k = piecesF (boundsG gG s):=List.take_of_length_le (by have:=HJ.out;rw [piecesF_len,Hm.out];omega)
   rw [hend] at hJr
   gi_wp2
   go_end0
   first | exact ⟨⟨_,rfl⟩,.inl hJr⟩ | exact ⟨⟨_,rfl⟩,.inl ⟨_,rfl,hJr⟩⟩
theorem pieces_fst : ∀ (L : List Nat),(piecesF L).map (·.1) = L.dropLast
 | []=>rfl
 | [_]=>rfl
 | a :: b :: r=>by
  have:=pieces_fst (b :: r)
  simp only [piecesF,List.map_cons,List.dropLast_cons_cons] at this ⊢
  rw [this]
end
section
open Go.RowKit Go.Shelf
attribute [local go_sem] Oper.semAt_some
def encB (s : ByteArray) (x : Nat × Nat) : List Value:=[.int .i64 ((clP s x).1 : Nat)]
theorem begins_end (s : ByteArray) : (piecesF (boundsG gG s)).map (encB s) = (letS s).map encN:=by
 unfold letS
 rw [← pieces_fst,List.map_map]
 refine List.map_congr_left (fun x hx=>?_)
 have h:=clP_in (s:=s) (piecesF_le (bounds_rise gG s) (bounds_le gG s) x hx)
 simp only [Function.comp,encB,encN,h]
theorem qbegins_any (s : ByteArray) (w : World) (hE : Env w) (hs : s.size≤1000000) : Calls Tryz.prog 53 #[.string s] w fun e w'=>∃ A n c,e = .returned (.slice A n c)∧Own w' w.heap.size 3 1 A n c ((letS s).map encN)∧Below w.heap.size w w':=by
 have HB : Below w.heap.size w (w.alloc (.cells #[.slice none 0 0] 65)):=(Below.refl _ _).alloc (Nat.le_refl _) _
 have B0 : Blk (w.alloc (.cells #[.slice none 0 0] 65)) w.heap.size 65 #[.slice none 0 0]:=Blk.new _ _ _
 refine (callsIn_wide (n:=6)).1 ?_
 refine callsIn_of_wp_marks Tryz.func53 rfl trivial ?_ rfl
 simp only [Tryz.ntmps53,List.size_toArray,List.length_cons,List.length_nil,Nat.reduceAdd,Nat.reduceSub,Array.replicate_succ,Array.replicate_zero,List.push_toArray,List.append_toArray,List.nil_append,List.cons_append]
 refine wpIn_wide.2 ?_
 go_wp2_with fail
 generalize (w.alloc (.cells #[.slice none 0 0] 65)) = w0 at HB B0 ⊢
 refine (gEach_any s w0).mono ?_
 rintro e w1 ⟨bs,rfl,hc,hb⟩
 have B1:=B0.below hb
 have hzb : w.heap.size < w1.heap.size:=B1.lt
 replace HB:=below_two HB hb
 have hpl : (piecesF (boundsG gG s)).length≤s.size+1:=by rw [piecesF_len];have:=bounds_len s;omega
 have hp0 : ptB w1 w.heap.size = none:=ptB_blk B1
 have hE1:=hE.below HB
 clear B0 hb hE
 go_wp2_with fail
 refine (wpIn_wide (n:=6)).1 ?_
 refine rngH rfl (by decide) (gf:=106) (lb:=#[.pointer (some ⟨bs,0,none⟩)]) rfl trivial (enters_of Tryz.func106 (by kernel_rfl) rfl)
  (gEach_seqB 5 (by decide) w1 s bs w.heap.size hzb hp0 hE1 hs hc) (fun h k=>h.trans k) (fun W l o o' hl h hc _=>KBox.put W l o o' (by omega) h hc) (Below.refl _ _) (fun _=>rfl) (fun W=>KBox.refl _ _ W)
  (fun (pre : List (Nat × Nat)) W=>Gat w1 w.heap.size 65 3 (pre.map (encB s)) W) (fun _ _ _=>False) (Gat.own (f:=fun (pre : List (Nat × Nat))=>pre.map (encB s)) (Nat.le_refl _)) (fun _ _ _ _ _ hs _ _=>hs)
  ⟨none,0,0,B1,Own.nil_ _ _ _ _,only_refl _ _⟩
  (fun T x=>((T.setIfInBounds 7 (.int .i64 ((clP s x).1 : Nat))).setIfInBounds 8 (.int .i64 ((clP s x).2 : Nat))).setIfInBounds 4 (.int .i64 ((clP s x).1 : Nat))) ?assign ?body ?done ?stop
 case assign =>
  intro l2 x V K hK
  simp only [zD,zF,zE] at hK
  simp only [encCl,encP2]
  gi_wp2
  exact hK
 case stop =>
  rintro D cc pre W _ hp h _
  exact absurd h id
 case body =>
  rintro l2 pre y W hl2 _ ⟨A9,n9,c9,BaW,oW,hgW⟩ hlen
  simp only [zD,zF,zE]
  obtain ⟨a,ha⟩ : ∃ a,(clP s y).1 = a:=⟨_,rfl⟩
  have HEn : Hid ((pre++[y]).map (encB s) = pre.map (encB s)++[[.int .i64 (a : Nat)]]):=Lib.hid (by rw [List.map_append,List.map_singleton,encB,ha])
  rw [ha]
  generalize (clP s y).2 = b
  obtain ⟨i0,hi0,hz0,hz1,hz2⟩:=info_parts infoInt
  have hl9 : pre.length = n9:=by have h1:=oW.len;simpa using h1
  have hn9 : n9≤1000001:=by omega
  have c10:=BaW.cell 0
  simp only [zG,zH] at c10
  have hzW:=hgW.size
  have hA9:=oW.lt
  have f10:=BaW.frozen 0
  clear hl9 hlen ha
  gi_wp2_with (gi_at_builtin;go_must (refine wpListIn_app rfl (.tmp 9) (.tmp 11) _ rfl w1.heap.size 3 i0 _ 1 8 Tryz.underlying65 hi0 hz0 hz1 hz2 rfl (by omega) A9 n9 c9 (pre.map (encB s)) rfl (oW.alloc _) _ 1 1 [[.int .i64 (a : Nat)]] rfl rfl (Rd.newAt (by simp) rfl) (fun y hy=>by rw [List.mem_singleton] at hy;subst hy;exact ⟨rfl,by simp [Value.oneCell']⟩) (by unfold maxLen;omega) (by omega) (by simp;omega) ?_);intro A3 c3 w3 ho3 hg3 hA3;have B3:=(BaW.alloc (.cells #[.int .i64 (a : Nat)] 3)).grown hg3 (fun e=>by cases A9 with | none=>simp at e | some q=>have:=(hA9 q rfl).1;simp at e;omega);have f3:=B3.frozen 0;have c3b:=B3.cell 0;simp only [zG,zH] at c3b)
  have hV : W.grownBy w3 (A9.map (·.block)):=only_trans (only_alloc (only_refl W _) _) hg3
  obtain ⟨k1,k2,k3⟩:=Gat.step hzb BaW oW hgW hV ho3
  refine ⟨k1,KBox.step BaW (by decide) hV (fun e=>by cases A9 with | none=>simp at e | some q=>have:=(hA9 q rfl).1;simp at e;omega) ?_,by show Gat _ _ _ _ (List.map (encB s) _) _;rw [HEn.out];exact k3⟩
  rcases hA3 with h | h
  ·exact .inl h
  ·exact .inr ⟨_,h,by simp⟩
 case done =>
  rintro D ys V hD hys ⟨A,n,c,B,ho,hg⟩ hK
  have c10:=B.cell 0
  simp only [zG,zH] at c10
  have hys2 : ys.map (encB s) = (letS s).map encN:=by rw [hys];exact begins_end s
  rw [hys2] at ho
  go_wp2
  refine ⟨by simp,.inl ⟨_,_,rfl,run_takeDeferred hK,?_⟩⟩
  refine ⟨_,results_tmp rfl _ _ _,A,n,c,rfl,(ho.keep fun a ha=>World.putObj_heap_other (fun e=>?_)).more (by omega),?_⟩
  ·rcases ho.2.2.2 with ⟨h0,_⟩ | ⟨g,cap,cur,hv,_,hh,_⟩
   ·injection h0 with h0;rw [h0] at ha;cases ha
   ·injection hv with hv
    rw [hv] at ha
    injection ha with ha
    subst ha
    simp only at e
    subst e
    rw [hh] at hK
    cases hK
  ·exact (HB.trans (below_only (B:=w.heap.size) hg (by omega) (Nat.le_refl _))).trans (belowK_b (w:=w) (Nat.le_refl _) _ D _ _ (by omega) hK rfl rfl)
end
section
open Go.RowKit
def castL (l : List Nat) : List Int:=l.map fun (a : Nat)=>(a : Int)
structure KI (A B : World) : Prop where
 size : A.heap.size≤B.heap.size
 same : ∀ (k : Nat) (s : ByteArray) (p : Nat),A.heap[k]? = some (.stringIter s p)→B.heap[k]? = some (.stringIter s p)
theorem KI.refl (A : World) : KI A A:=⟨Nat.le_refl _,fun _ _ _ h=>h⟩
theorem KI.trans {A B C : World} (h : KI A B) (k : KI B C) : KI A C:=⟨Nat.le_trans h.size k.size,fun i s p hi=>k.same i s p (h.same i s p hi)⟩
theorem KI.put (W : World) (l : Nat) (o o' : Obj) (h : W.heap[l]? = some o) (hw : o.isWalk = false) : KI W (W.putObj l o'):=⟨(KeepsWalks.putObj o' h hw).size,fun k _ _ hk=>(KeepsWalks.putObj o' h hw).same k _ hk rfl⟩
def Nw (W2 : World) (bm n : Nat) (g : Int→List Nat) (W : World) : Prop:=GrM W W2.heap.size bm n (fun k=>castL (g k))∧W2.grownBy W (some bm)
theorem nw_own {α : Type} {W2 : World} {bm B : Nat} {n : List α→Nat} {g : List α→Int→List Nat} (hB : W2.heap.size≤B) (hbm : bm < W2.heap.size) : OwnFrom B (fun (pre : List α) W=>Nw W2 bm (n pre) (g pre) W):=fun pre X Y row hs hg hr=>by
 obtain ⟨h1,h2⟩:=hs
 refine ⟨h1.kept hg (fun e=>by have:=(hr bm e).1;omega) (fun r e=>.inl (hr r e).2),⟨hg.os.trans h2.os,hg.tape.trans h2.tape,hg.output.trans h2.output,Nat.le_trans h2.size hg.size,fun k hk hne=>?_⟩⟩
 exact (hg.block k (Nat.lt_of_lt_of_le hk h2.size) (fun e=>by have:=(hr k e.symm).1;omega)).trans (h2.block k hk hne)
theorem nw_first {W : World} {bm : Nat} (h : W.heap[bm]? = some (.map #[] 0)) : Nw W bm 0 (fun _=>[]) W:=by
 have hb:=(Array.getElem?_eq_some_iff.1 h).1
 exact ⟨⟨.map [],⟨#[],0,h,⟨by simp,MapKept.stamped_empty 0,by simp⟩,Nat.le_refl _,rfl,hb,by simp,by simp⟩,fun _=>rfl⟩,only_refl _ _⟩
theorem Nw.mono {W2 W : World} {bm n m : Nat} {g : Int→List Nat} (h : Nw W2 bm n g W) (hm : n≤m) : Nw W2 bm m g W:=⟨h.1.mono hm,h.2⟩
theorem Nw.congr {W2 W : World} {bm n : Nat} {g g' : Int→List Nat} (h : Nw W2 bm n g W) (hg : ∀ k,g k = g' k) : Nw W2 bm n g' W:=by
 have : g = g':=funext hg
 rwa [← this]
theorem Nw.bm {W2 W : World} {bm n : Nat} {g : Int→List Nat} (h : Nw W2 bm n g W) : ∃ es clock,W.heap[bm]? = some (.map es clock):=by
 obtain ⟨⟨D,⟨es,clock,hb,_⟩,_⟩,_⟩:=h
 exact ⟨es,clock,hb⟩
theorem Nw.look {W2 W : World} {bm n : Nat} {g : Int→List Nat} (h : Nw W2 bm n g W) (hn : n < maxLen) (k : Int) (hk : (Lit.int .i64 k).wf = true) :
  ∃ (A : Option Addr) (c : Nat),(∀ V : World,V.heap[bm]? = W.heap[bm]?→(Instr.lookup 89 (.map (some bm)) (.int .i64 k) false).run Tryz.prog V = .ok (.slice A (g k).length c) V)∧Own W W2.heap.size 3 1 A (g k).length c ((g k).map encN)∧(g k).length≤n∧(n = 0→A = none) ∧
   ∀ (w7 : World) (A3 : Option Addr) (m c3 : Nat) (l : List Nat),W.grownBy w7 (A.map (·.block))→Own w7 W2.heap.size 3 1 A3 m c3 (l.map encN)→(∀ x ∈ l,x≤4294967296)→l.length≤n+1→(A3.map (·.block) = A.map (·.block)∨∃ q,A3.map (·.block) = some q∧W.heap.size≤q) →
    ∃ w8,(Instr.mapUpdate 89 (.map (some bm)) (.int .i64 k) (.slice A3 m c3)).run Tryz.prog w7 = .ok () w8∧Nw W2 bm (n+1) (fun j=>if j = k then l else g j) w8∧w7.grownBy w8 (some bm)∧KeepsFrom W2.heap.size W w8∧KI W w8:=by
 obtain ⟨es0,clock0,hbm⟩:=h.bm
 have hbl:=h.1.lt
 obtain ⟨v,D,hrun,ho,hl,hG,hD,hback,h00⟩:=h.1.look2 Tryz.underlying89 Tryz.zeroValue65 hn hk
 obtain ⟨A,c,rfl,hO⟩:=ownsInts_own ho
 refine ⟨A,c,hrun,hO,by simpa [castL] using hl,fun hn0=>by have:=h00 hn0;injection this,fun w7 A3 m c3 l hg ho7 hlz hln hloc=>?_⟩
 have hi7:=own_ownsInts ho7 hlz
 have hob : ∀ (X : Option Addr) (p q : Nat),(Value.slice X p q).ownBlock = X.map (·.block):=fun X p q=>by cases X <;> rfl
 obtain ⟨w8,h1,h2,h3⟩:=hback w7 (.slice A3 m c3) _ (by rw [hob];exact hg) hi7 (by rw [List.length_map];exact hln) (by rw [hob,hob];exact hloc)
 have hA : ∀ q,some q = A.map (·.block)→W2.heap.size≤q∧∃ o : Obj,W.heap[q]? = some o∧o.isCells = true:=fun q hq=>by
  cases A with
  | none=>cases hq
  | some a =>
   simp at hq
   subst hq
   refine ⟨(hO.lt a rfl).1,?_⟩
   rcases hO.2.2.2 with ⟨h0,_⟩ | ⟨g',cap,cur,hv,_,hh,_⟩
   ·injection h0 with h0;cases h0
   ·injection hv with hv
    injection hv with hv
    subst hv
    exact ⟨_,hh,rfl⟩
 refine ⟨w8,h1,⟨?_,?_⟩,h3,⟨Nat.le_trans hg.size h3.size,fun j o hj ho' hc=>?_⟩,⟨Nat.le_trans hg.size h3.size,fun j si p ho'=>?_⟩⟩
 ·have:=grM_put h2 hi7 hG hD
  refine (show (fun k'=>castL (if k' = k then l else g k')) = _ from ?_) ▸ this
  funext j
  by_cases e : j = k
  ·rw [if_pos e,if_pos e];rfl
  ·rw [if_neg e,if_neg e]
 ·refine ⟨h3.os.trans (hg.os.trans h.2.os),h3.tape.trans (hg.tape.trans h.2.tape),h3.output.trans (hg.output.trans h.2.output),Nat.le_trans h.2.size (Nat.le_trans hg.size h3.size),fun j hj hne=>?_⟩
  have hjW:=Nat.lt_of_lt_of_le hj h.2.size
  exact (h3.block j (Nat.lt_of_lt_of_le hjW hg.size) hne).trans ((hg.block j hjW (fun e=>by have:=(hA j e).1;omega)).trans (h.2.block j hj hne))
 ·have hjW:=(Array.getElem?_eq_some_iff.1 ho').1
  refine (h3.block j (Nat.lt_of_lt_of_le hjW hg.size) (fun e=>by injection e with e;omega)).trans ((hg.block j hjW (fun e=>?_)).trans ho')
  obtain ⟨_,o2,h4,h5⟩:=hA j e
  rw [ho'] at h4;injection h4 with h4;subst h4;rw [hc] at h5;cases h5
 ·have hjW:=(Array.getElem?_eq_some_iff.1 ho').1
  refine (h3.block j (Nat.lt_of_lt_of_le hjW hg.size) (fun e=>?_)).trans ((hg.block j hjW (fun e=>?_)).trans ho')
  ·injection e with e
   subst e
   rw [hbm] at ho'
   cases ho'
  ·obtain ⟨_,o2,h4,h5⟩:=hA j e
   rw [ho'] at h4;injection h4 with h4;subst h4;cases h5
end
section
open Go.RowKit Go.Shelf
attribute [local go_sem] Oper.semAt_some
def encUc (s : ByteArray) (x : Nat × Nat × Nat) : Array Value:=#[.int .i64 (min x.2.1 s.size : Nat),.int .i32 (x.1 : Nat)]
theorem uEach_stopsI (n : Nat) (hn : 1≤n) (w : World) (s : ByteArray) (bs : Nat) (h : w.cell? ⟨bs,0,none⟩ = some (.string s)) :
  SeqStopsK Fence.wide n Tryz.prog 83 #[.pointer (some ⟨bs,0,none⟩)] (encUc s) KI (fun ys=>ys = runesP s) (fun pre=>pre <+: runesP s) (runesP s).length w:=by
 intro l J Jx W hW hJ _ hY h0
 have hc1 : W.cell? ⟨bs,0,none⟩ = some (.string s):=cell_keep h hW
 refine callsIn_of_wp Tryz.func83 rfl trivial ?_ rfl
 simp only [Tryz.ntmps83,List.size_toArray,List.length_cons,List.length_nil,Nat.reduceAdd,Nat.reduceSub,Array.replicate_succ,Array.replicate_zero,List.push_toArray,List.append_toArray,List.nil_append,List.cons_append]
 gi_wp2
 gi_loopw [3] (fun _ wr=>∃ (f p : Nat) (pre : List (Nat × Nat × Nat)),Hid (UAt s f p pre)∧J pre wr∧wr.heap[W.heap.size]? = some (.stringIter s p))
  (fun _ wr=>s.size - wr.iterPos W.heap.size)
 case atStart=>exact ⟨s.size,0,[],uAt_first s,abides_below hJ h0 (below_iter (RowKit.Below.refl _ _) (Nat.le_refl _) _ _),iter_new _ _ _⟩
 case round =>
  obtain ⟨f,p,pre,HA,hJs,hit⟩:=hrel
  have Hpos:=Lib.hid (iterPos_of hit)
  by_cases hp : p < s.size
  ·obtain ⟨⟨R,Wd⟩,hD0⟩ : ∃ d,Utf8.decode s p = d:=⟨_,rfl⟩
   have hd:=dec_bd s p hp
   have hnx : ∀ ty,(Instr.next (.pointer (some ⟨W.heap.size,0,none⟩)) true ty).run Tryz.prog wr = _:=fun ty=>Lib.run_next_any_at wr W.heap.size s p ty hit hp
   have hit2:=Lib.iterAt_heap wr W.heap.size s p (p+(Utf8.decode s p).2) hit
   have hJ2:=abides_iterAt hJ hJs hit (Nat.le_refl _) (p+(Utf8.decode s p).2)
   rw [hD0] at hd hnx hit2 hJ2
   simp only at hd hnx hit2 hJ2
   obtain ⟨g,hg⟩:=uAt_next HA.out hp hD0 ⟨hd.1,hd.2.2.1⟩
   have Hg:=Lib.hid hg
   have hlen : pre.length < (runesP s).length:=by have:=(uAt_pre hg).length_le;rw [List.length_append,List.length_singleton] at this;omega
   clear hD0 hg
   generalize wr.iterAt W.heap.size s (p+Wd) = wi at hnx hit2 hJ2
   clear hJs hit
   obtain ⟨fn,tmps,assign,body,hy,hR⟩:=hY pre (R,p,p+Wd) wi hJ2 hlen
   dsimp only [encUc] at hy
   rw [Nat.min_eq_left (Nat.le_of_lt hp)] at hy
   gi_wp2_with fail
   refine hR.mono ?_
   rintro e w4 (⟨rfl,hJ4,hk4⟩ | ⟨rfl,hJx4⟩)
   ·have hit4:=hk4.same _ _ _ hit2
    gi_wp2_with fail
    go_roundw
    case rel=>exact ⟨g,p+Wd,pre++[(R,p,p+Wd)],Hg,hJ4,hit4⟩
    case measure=>rw [iterPos_of hit4,Hpos.out];omega
   ·gi_wp2
    refine bodyPost_ret (results_none rfl _ _ _) rfl ?_
    exact ⟨⟨_,rfl⟩,.inr ⟨_,uAt_pre Hg.out,hJx4⟩⟩
  ·have hnx : ∀ ty,(Instr.next (.pointer (some ⟨W.heap.size,0,none⟩)) true ty).run Tryz.prog wr = _:=fun ty=>Lib.run_next_end_at wr W.heap.size s p ty hit hp
   have HE:=Lib.hid (uAt_end HA.out hp)
   gi_wp2
   go_end0
   exact ⟨⟨_,rfl⟩,.inl ⟨_,HE.out,hJs⟩⟩
end
section
open Go.RowKit
def addAt (g : Int→List Nat) (k : Int) (q : Nat) (j : Int) : List Nat:=if j = k then g k++[q] else g j
def gU (pre : List (Nat × Nat × Nat)) (k : Int) : List Nat :=
 if k = 1 then pre.map fun x=>x.2.1 else if k = 0 then pre.flatMap fun x=>if 65535 < x.1 then [x.2.1,x.2.1+1] else [x.2.1] else []
def gB (s : ByteArray) (i : Nat) (k : Int) : List Nat:=if k = 2 then List.range i else gU (runesP s) k
theorem gU_two {pre : List (Nat × Nat × Nat)} {R a b : Nat} (h : 65535 < R) (k : Int) : addAt (addAt (addAt (gU pre) 1 a) 0 a) 0 (a+1) k = gU (pre++[(R,a,b)]) k:=by
 unfold addAt gU
 by_cases h0 : k = 0
 ·subst h0;simp [h]
 ·by_cases h1 : k = 1
  ·subst h1;simp
  ·simp [h0,h1]
theorem gU_one {pre : List (Nat × Nat × Nat)} {R a b : Nat} (h : ¬ 65535 < R) (k : Int) : addAt (addAt (gU pre) 1 a) 0 a k = gU (pre++[(R,a,b)]) k:=by
 unfold addAt gU
 by_cases h0 : k = 0
 ·subst h0;simp [h]
 ·by_cases h1 : k = 1
  ·subst h1;simp
  ·simp [h0,h1]
theorem gB_first (s : ByteArray) (k : Int) : gU (runesP s) k = gB s 0 k:=by
 unfold gB
 split
 ·rename_i h;subst h;simp [gU]
 ·rfl
theorem gB_more (s : ByteArray) (i : Nat) (k : Int) : addAt (gB s i) 2 i k = gB s (i+1) k:=by
 unfold addAt
 split
 ·rename_i h;subst h;simp [gB,List.range_succ]
 ·rename_i h;simp [gB,h]
theorem gB_end (s : ByteArray) (k : Int) : (if k = 3 then letS s else gB s s.size k) = begP s k:=by
 unfold begP gB gU unitsP startsP
 by_cases h0 : k = 0
 ·subst h0;simp
 ·by_cases h1 : k = 1
  ·subst h1;simp
  ·by_cases h2 : k = 2
   ·subst h2;simp
   ·by_cases h3 : k = 3 <;> simp [h0,h1,h2,h3]
theorem letS_pos {s : ByteArray} (h : 0 < s.size) : 0 < (letS s).length:=by
 unfold letS boundsG
 rw [if_neg (by omega),List.dropLast_concat]
 obtain ⟨T,e⟩:=starts_zero gG h
 rw [e];simp
theorem letS_len (s : ByteArray) : (letS s).length≤s.size:=by
 unfold letS
 rw [List.length_dropLast]
 have:=bounds_len s
 omega
theorem hloc_of {w' : World} {B base e' : Nat} {Ae A : Option Addr} {n n' c' : Nat} {xs : List (List Value)} (h0 : n = 0→Ae = none) (ho : Own w' base e' 1 A n' c' xs) (hb : B≤base) (hn : n = 0∨0 < n') : A.map (·.block) = Ae.map (·.block)∨∃ q,A.map (·.block) = some q∧B≤q:=by
 cases A with
 | some a=>exact .inr ⟨_,rfl,Nat.le_trans hb (ho.lt a rfl).1⟩
 | none =>
  rcases hn with hn | hn
  ·rw [h0 hn];exact .inl rfl
  ·obtain ⟨g,e,_⟩:=ho.form hn
   cases e
theorem gU_le {m : Nat} {pre : List (Nat × Nat × Nat)} (h : ∀ y ∈ pre,y.2.1≤m) (k : Int) : ∀ x ∈ gU pre k,x≤m+1:=by
 intro x hx
 unfold gU at hx
 split at hx
 ·obtain ⟨y,hy,rfl⟩:=List.mem_map.1 hx
  have:=h y hy
  omega
 ·split at hx
  ·obtain ⟨y,hy,hx⟩:=List.mem_flatMap.1 hx
   have:=h y hy
   split at hx <;> simp at hx <;> omega
  ·cases hx
theorem gB_le {s : ByteArray} {i : Nat} (h : i≤s.size) (k : Int) : ∀ x ∈ gB s i k,x≤s.size+1:=by
 intro x hx
 unfold gB at hx
 split at hx
 ·have:=List.mem_range.1 hx;omega
 ·exact gU_le (fun y hy=>by have:=runesP_bd y hy;omega) k x hx
theorem addAt_le {g : Int→List Nat} {m q : Nat} (h : ∀ k,∀ x ∈ g k,x≤m) (k0 : Int) (hq : q≤m) : ∀ k,∀ x ∈ addAt g k0 q k,x≤m:=by
 intro k x hx
 unfold addAt at hx
 split at hx
 ·rcases List.mem_append.1 hx with hx | hx
  ·exact h _ x hx
  ·rw [List.mem_singleton] at hx;omega
 ·exact h _ x hx
def clR (s : ByteArray) (x : Nat × Nat × Nat) : Nat × Nat × Nat:=(x.1,min x.2.1 s.size,x.2.2)
theorem clR_runes (s : ByteArray) : (runesP s).map (clR s) = runesP s:=by
 conv=>rhs;rw [← List.map_id (runesP s)]
 refine List.map_congr_left (fun x hx=>?_)
 have:=runesP_bd x hx
 unfold clR
 rw [Nat.min_eq_left (by omega)]
 rfl
theorem clR_le (s : ByteArray) (pre : List (Nat × Nat × Nat)) : ∀ y ∈ pre.map (clR s),y.2.1≤s.size:=by
 intro y hy
 obtain ⟨x,_,rfl⟩:=List.mem_map.1 hy
 exact Nat.min_le_right _ _
theorem Nw.cell {W2 W : World} {bm n : Nat} {g : Int→List Nat} (h : Nw W2 bm n g W) {b i : Nat} {v : Value} (hc : W2.cell? ⟨b,i,none⟩ = some v) (hne : b ≠ bm) : W.cell? ⟨b,i,none⟩ = some v:=gcell h.2 hc (fun e=>hne (by injection e))
theorem cell_map {W : World} {b i : Nat} {es : Array MapEntry} {cl : Nat} {v : Value} (h : W.heap[b]? = some (.map es cl)) (hc : W.cell? ⟨b,i,none⟩ = some v) : False:=by
 unfold World.cell? at hc
 simp [h] at hc
theorem Rd.other {W W' : World} {bm z : Nat} {A : Option Addr} {cs : List (List Value)} {es : Array MapEntry} {cl : Nat} (h : Rd W z A cs) (hm : W.heap[bm]? = some (.map es cl)) (hg : W.grownBy W' (some bm)) : Rd W' z A cs :=
 h.keep fun _ _ _ _ _ hc=>gcell hg hc (fun e=>by injection e with e;subst e;exact cell_map hm hc)
theorem LnM.other {W W' : World} {bm : Nat} {A : Option Addr} {L : List (Nat × Nat × Nat)} {lt : Nat × Nat × Nat→List Nat} {es : Array MapEntry} {cl : Nat} (h : LnM W A L lt) (hm : W.heap[bm]? = some (.map es cl)) (hg : W.grownBy W' (some bm)) : LnM W' A L lt:=by
 obtain ⟨V,h1,h2,h3⟩:=h
 exact ⟨V,h1,h2.other hm hg,fun k x v hx hv=>let ⟨B,c,e,hB⟩:=h3 k x v hx hv;⟨B,c,e,hB.other hm hg⟩⟩
theorem idx_of_nw {W2 V : World} {p bm n c : Nat} {s : ByteArray} {A : Option Addr} {g : Int→List Nat} {es : Array MapEntry} {cl : Nat} (hb : Blk W2 p 93 #[.string s,.map (some bm),.slice A (lnP s).length c]) (hp : p ≠ bm) (hL : LnM W2 A (lnP s) (letAbs s)) (hm : W2.heap[bm]? = some (.map es cl)) (hN : Nw W2 bm n g V)
  (hg : ∀ k,g k = begP s k) (hn : n≤100000000) : IdxAt V p s:=by
 refine ⟨W2.heap.size,bm,n,A,c,hb.grown hN.2 (fun e=>hp (by injection e)),?_,hn,hL.other hm hN.2⟩
 have : begZ s = fun k=>castL (g k):=funext fun k=>by rw [hg k];rfl
 rw [this]
 exact hN.1
theorem Nw.app {W2 W : World} {bm n : Nat} {g : Int→List Nat} (h : Nw W2 bm n g W) (hn : n < 100000000) (k : Int) (hk : (Lit.int .i64 k).wf = true) (hz : ∀ x ∈ g k,x≤4294967296) :
  ∃ (A : Option Addr) (c : Nat),(∀ V : World,V.heap[bm]? = W.heap[bm]?→(Instr.lookup 89 (.map (some bm)) (.int .i64 k) false).run Tryz.prog V = .ok (.slice A (g k).length c) V)∧Own W W2.heap.size 3 1 A (g k).length c ((g k).map encN)∧(g k).length≤n∧(∀ (o : Obj) (b : Nat),b < W2.heap.size→(W.drew.alloc o).heap[b]? = W.heap[b]?) ∧
   (∀ (o : Obj) (w7 : World),(W.drew.alloc o).grownBy w7 (A.map (·.block))→∀ b,b < W2.heap.size→w7.heap[b]? = W.heap[b]?) ∧
   ∀ (q : Nat) (o : Obj) (w7 : World) (A3 : Option Addr) (c3 : Nat),q≤4294967296→(W.drew.alloc o).grownBy w7 (A.map (·.block))→Own w7 W2.heap.size 3 1 A3 ((g k).length+1) c3 ((g k).map encN++[[.int .i64 (q : Nat)]])→(A3 = A∨A3 = some ⟨(W.drew.alloc o).heap.size,0,none⟩) →
    ∃ w8,(Instr.mapUpdate 89 (.map (some bm)) (.int .i64 k) (.slice A3 ((g k).length+1) c3)).run Tryz.prog w7 = .ok () w8∧Nw W2 bm (n+1) (addAt g k q) w8∧KeepsFrom W2.heap.size W w8∧KI W w8:=by
 obtain ⟨A,c,hrun,hO,hl,_,hback⟩:=h.look (by unfold maxLen;omega) k hk
 have hal : ∀ (o : Obj) (b : Nat),b < W2.heap.size→(W.drew.alloc o).heap[b]? = W.heap[b]?:=fun o b hb=>Below.heap_alloc W o b (Nat.lt_of_lt_of_le hb h.2.size)
 refine ⟨A,c,hrun,hO,hl,hal,fun o w7 hg b hb=>(hg.block b (by rw [World.size_alloc];exact Nat.lt_succ_of_lt (Nat.lt_of_lt_of_le hb h.2.size)) (fun e=>?_)).trans (hal o b hb),fun q o w7 A3 c3 hq hg ho hA3=>?_⟩
 ·cases A with
  | none=>cases e
  | some a=>have:=(hO.lt a rfl).1;injection e with e;simp only at e;omega
 obtain ⟨w8,h1,h2,_,h4,h5⟩:=hback w7 A3 ((g k).length+1) c3 (g k++[q]) (only_trans (only_alloc (only_refl W _) o) ⟨hg.os,hg.tape,hg.output,hg.size,hg.block⟩) (by rw [List.map_append];exact ho) (fun x hx=>by rcases List.mem_append.1 hx with hx | hx;exact hz x hx;rw [List.mem_singleton] at hx;omega)
  (by rw [List.length_append,List.length_singleton];omega) (by
   rcases hA3 with rfl | rfl
   ·exact .inl rfl
   ·exact .inr ⟨_,rfl,by rw [World.size_alloc];exact Nat.le_succ _⟩)
 exact ⟨w8,h1,h2,h4,h5⟩
end
section
open Go.RowKit
theorem qends_any (r : Nat) (w : World) : Calls Tryz.prog 81 #[.int .i32 (r : Nat)] w fun e w'=>e = .returned (.bool (endsQ r))∧w = w':=by
 by_cases h1 : (r : Int) ≥ 10
 ·by_cases h2 : (r : Int)≤13
  ·have HV : Hid (endsQ r = true):=Lib.hid (by unfold endsQ;rw [decide_eq_true (by omega),decide_eq_true (by omega)];rfl)
   go_enter Tryz.func81,Tryz.ntmps81
   go_wp2
   go_ret
   exact ⟨by rw [HV.out];rfl,rfl⟩
  ·obtain ⟨q1,Q1⟩ : ∃ q,((r : Int) == 133) = q:=⟨_,rfl⟩
   obtain ⟨q2,Q2⟩ : ∃ q,((r : Int) == 8232) = q:=⟨_,rfl⟩
   obtain ⟨q3,Q3⟩ : ∃ q,((r : Int) == 8233) = q:=⟨_,rfl⟩
   have HV : Hid (endsQ r = (q1 || q2 || q3)):=Lib.hid (by
    unfold endsQ
    rw [decide_eq_false (show ¬ r≤13 by omega),Bool.and_false,Bool.false_or,← Q1,← Q2,← Q3]
    rw [show ((r : Int) == 133) = (r == 133) by rw [Bool.eq_iff_iff];simp;omega,show ((r : Int) == 8232) = (r == 8232) by rw [Bool.eq_iff_iff];simp;omega,show ((r : Int) == 8233) = (r == 8233) by rw [Bool.eq_iff_iff];simp;omega])
   cases q1 with
   | true =>
    go_enter Tryz.func81,Tryz.ntmps81
    go_wp2
    go_ret
    exact ⟨by rw [HV.out];rfl,rfl⟩
   | false =>
    cases q2 with
    | true =>
     go_enter Tryz.func81,Tryz.ntmps81
     go_wp2
     go_ret
     exact ⟨by rw [HV.out];rfl,rfl⟩
    | false =>
     cases q3 with
     | true =>
      go_enter Tryz.func81,Tryz.ntmps81
      go_wp2
      go_ret
      exact ⟨by rw [HV.out];rfl,rfl⟩
     | false =>
      go_enter Tryz.func81,Tryz.ntmps81
      go_wp2
      go_ret
      exact ⟨by rw [HV.out];rfl,rfl⟩
 ·have HV : Hid (endsQ r = false):=Lib.hid (by unfold endsQ;rw [decide_eq_false (show ¬ 10≤r by omega)];simp;omega)
  have q1 : ((r : Int) == 133) = false:=beq_eq_false_iff_ne.2 (by omega)
  have q2 : ((r : Int) == 8232) = false:=beq_eq_false_iff_ne.2 (by omega)
  have q3 : ((r : Int) == 8233) = false:=beq_eq_false_iff_ne.2 (by omega)
  go_enter Tryz.func81,Tryz.ntmps81
  go_wp2
  go_ret
  exact ⟨by rw [HV.out];rfl,rfl⟩
theorem decN_two {n b0 b1 b2 b3 R W : Nat} (h : Lib.decodeN n b0 b1 b2 b3 = (R,W)) (h1 : 128≤R) (h2 : R < 2048) : W = 2:=by
 unfold Lib.decodeN at h
 repeat' split at h
 all_goals (injection h with h1 h2;omega)
theorem decN_three {n b0 b1 b2 b3 R W : Nat} (h : Lib.decodeN n b0 b1 b2 b3 = (R,W)) (h1 : 2048≤R) (h2 : R < 65533) : W = 3:=by
 unfold Lib.decodeN at h
 repeat' split at h
 all_goals (injection h with h1 h2;omega)
theorem ends_width {s : ByteArray} {q R W : Nat} (h : Utf8.decode s q = (R,W)) (he : endsQ R = true) : Lib.runeLen (R : Int) = (W : Int)∧runeB (R : Int) = true:=by
 rw [Lib.decode_at] at h
 unfold endsQ at he
 simp only [Bool.or_eq_true,Bool.and_eq_true,decide_eq_true_eq,beq_iff_eq] at he
 rcases (by omega : R = 10∨R = 11∨R = 12∨R = 13∨R = 133∨R = 8232∨R = 8233) with rfl | rfl | rfl | rfl | rfl | rfl | rfl
 iterate 4 (rw [(decN_low h (by omega)).1];exact ⟨by decide,by decide⟩)
 ·rw [decN_two h (by omega) (by omega)];exact ⟨by decide,by decide⟩
 iterate 2 (rw [decN_three h (by omega) (by omega)];exact ⟨by decide,by decide⟩)
theorem uWidth_ends {s : ByteArray} {q R W : Nat} (h : Utf8.decode s q = (R,W)) (he : endsQ R = true) (w : World) : Calls Tryz.prog 82 #[.int .i32 (R : Nat)] w fun e w'=>e = .returned (.int .i64 (W : Nat))∧w' = w:=by
 obtain ⟨h1,h2⟩:=ends_width h he
 have HI:=Lib.hid (uIsRune_any (R : Int) w)
 rw [h2] at HI
 have HL:=Lib.hid (Tryz.utf8_RuneLen (R : Int) w)
 rw [h1] at HL
 clear h he h1 h2
 go_enter Tryz.func82,Tryz.ntmps82
 go_wp2_with fail
 refine HI.out.mono ?_
 rintro e w1 ⟨rfl,rfl⟩
 go_wp2_with fail
 refine HL.out.mono ?_
 rintro e w1 ⟨rfl,rfl⟩
 go_wp2
 go_ret
 exact ⟨rfl,rfl⟩
theorem infoPln : (Tryz.prog.info? 101).map (fun i=>(i.zero,i.size,i.bytes)) = some (some (.agg #[.int .i64 0,.int .i64 0,.int .i64 0,.slice none 0 0]),4,48):=by kernel_rfl
def row0 (x : Nat × Nat × Nat) : List Value:=encLnR x (.slice none 0 0)
theorem row0_ok (l : List (Nat × Nat × Nat)) : ∀ y ∈ l.map row0,y.length = 4∧∀ u ∈ y,u.oneCell' = true:=by
 intro y hy
 obtain ⟨x,_,rfl⟩:=List.mem_map.1 hy
 refine ⟨rfl,fun u hu=>?_⟩
 simp only [row0,encLnR,List.mem_cons,List.not_mem_nil,or_false] at hu
 rcases hu with rfl | rfl | rfl | rfl <;> rfl
structure LnG (w : World) (s : ByteArray) (base g n c i : Nat) (V : List Value) : Prop where
 len : V.length = (lnP s).length
 own : Own w base 101 4 (some ⟨g,0,none⟩) n c (List.zipWith encLnR (lnP s) V)
 todo : ∀ (k : Nat) (v : Value),i≤k→V[k]? = some v→v = .slice none 0 0
 done : ∀ (k : Nat) (x : Nat × Nat × Nat) (v : Value),k < i→(lnP s)[k]? = some x→V[k]? = some v→∃ B d,v = .slice B (letAbs s x).length d∧Rd w 1 B ((letAbs s x).map encN)∧∀ a,B = some a→a.block ≠ g
theorem set_same {V : List Value} {i : Nat} {v : Value} (h : V[i]? = some v) : V.set i v = V:=by
 refine List.ext_getElem? fun j=>?_
 rw [List.getElem?_set]
 split
 ·rename_i e;subst e
  have:=(List.getElem?_eq_some_iff.1 h).1
  rw [if_pos this,h]
 ·rfl
theorem zip_set {L : List (Nat × Nat × Nat)} {V : List Value} {i : Nat} {x : Nat × Nat × Nat} {u v : Value} (hx : L[i]? = some x) (hi : i < V.length) :
  (List.zipWith encLnR L (V.set i u)).set i ((encLnR x u).set 3 v) = List.zipWith encLnR L (V.set i v):=by
 refine List.ext_getElem? fun j=>?_
 have hl : (List.zipWith encLnR L (V.set i u)).length = min L.length V.length:=by rw [List.length_zipWith,List.length_set]
 have hiL:=(List.getElem?_eq_some_iff.1 hx).1
 by_cases e : i = j
 ·subst e
  rw [List.getElem?_set_self (by rw [hl];omega),List.getElem?_zipWith,hx,List.getElem?_set_self hi]
  rfl
 ·rw [List.getElem?_set_ne e,List.getElem?_zipWith,List.getElem?_zipWith,List.getElem?_set_ne e,List.getElem?_set_ne e]
theorem zip_row0 (l : List (Nat × Nat × Nat)) : List.zipWith encLnR l (l.map fun _=>.slice none 0 0) = l.map row0:=by
 induction l with
 | nil=>rfl
 | cons x l ih=>rw [List.map_cons,List.zipWith_cons_cons,ih];rfl
theorem rd_grown {w w' : World} {s : Nat} {A : Option Addr} {cs : List (List Value)} {g : Nat} (h : Rd w s A cs) (hg : w.grownBy w' (some g)) (hA : ∀ a,A = some a→a.block ≠ g) : Rd w' s A cs :=
 h.keep fun b off i u ha hc=>(World.cell?_of_block (hg.block b (cell_lt (p:=⟨b,i,none⟩) hc) (fun e=>hA _ ha (by injection e)))).trans hc
theorem LnG.at_ {w : World} {s : ByteArray} {base g n c i k : Nat} {V : List Value} {x : Nat × Nat × Nat} {v : Value} (h : LnG w s base g n c i V) (hx : (lnP s)[k]? = some x) (hv : V[k]? = some v) :
  w.cell? ⟨g,k*4,none⟩ = some (.int .i64 (x.1 : Nat))∧w.cell? ⟨g,k*4+1,none⟩ = some (.int .i64 (x.2.1 : Nat))∧w.cell? ⟨g,k*4+2,none⟩ = some (.int .i64 (x.2.2 : Nat))∧w.cell? ⟨g,k*4+3,none⟩ = some v:=by
 have hz : (List.zipWith encLnR (lnP s) V)[k]? = some (encLnR x v):=by rw [List.getElem?_zipWith,hx,hv]
 exact ⟨by simpa using h.own.cell (j:=0) hz rfl,by simpa using h.own.cell (j:=1) hz rfl,by simpa using h.own.cell (j:=2) hz rfl,by simpa using h.own.cell (j:=3) hz rfl⟩
theorem LnG.next {w w' : World} {s : ByteArray} {base g n c i : Nat} {V : List Value} {x : Nat × Nat × Nat} {B : Option Addr} {d : Nat} (h : LnG w s base g n c i V) (hg : w.grownBy w' (some g)) (hx : (lnP s)[i]? = some x)
  (ho : Own w' base 101 4 (some ⟨g,0,none⟩) n c (List.zipWith encLnR (lnP s) (V.set i (.slice B (letAbs s x).length d)))) (hB : Rd w' 1 B ((letAbs s x).map encN)) (hb : ∀ a,B = some a→a.block ≠ g) : LnG w' s base g n c (i+1) (V.set i (.slice B (letAbs s x).length d)):=by
 refine ⟨by rw [List.length_set];exact h.len,ho,fun k v hk hv=>?_,fun k y v hk hy hv=>?_⟩
 ·rw [List.getElem?_set_ne (by omega)] at hv
  exact h.todo k v (by omega) hv
 ·rcases Nat.lt_or_ge k i with h1 | h1
  ·rw [List.getElem?_set_ne (by omega)] at hv
   obtain ⟨B',d',h2,h3,h4⟩:=h.done k y v h1 hy hv
   exact ⟨B',d',h2,rd_grown h3 hg h4,h4⟩
  ·obtain rfl : k = i:=by omega
   rw [hx] at hy
   injection hy with hy
   subst hy
   have hk:=(List.getElem?_eq_some_iff.1 hv).1
   rw [List.length_set] at hk
   rw [List.getElem?_set_self hk] at hv
   injection hv with hv
   exact ⟨B,d,hv.symm,hB,hb⟩
theorem LnG.end_ {w : World} {s : ByteArray} {base g n c i : Nat} {V : List Value} (h : LnG w s base g n c i V) (hi : (lnP s).length≤i) : LnM w (some ⟨g,0,none⟩) (lnP s) (letAbs s):=by
 refine ⟨V,h.len,h.own.rd (by decide),fun k x v hx hv=>?_⟩
 obtain ⟨B,d,h1,h2,_⟩:=h.done k x v (by have:=(List.getElem?_eq_some_iff.1 hx).1;omega) hx hv
 exact ⟨B,d,h1,h2⟩
theorem LnG.below {w w' : World} {s : ByteArray} {base g n c i : Nat} {V : List Value} (h : LnG w s base g n c i V) (hb : Below w.heap.size w w') : LnG w' s base g n c i V :=
 ⟨h.len,h.own.below hb,h.todo,fun k x v hk hx hv=>let ⟨B,d,h1,h2,h3⟩:=h.done k x v hk hx hv;⟨B,d,h1,h2.below hb,h3⟩⟩
theorem qlines_any (s : ByteArray) (w : World) (hE : Env w) (hs : s.size≤100000) :
  Calls Tryz.prog 51 #[.string s] w fun e w'=>∃ A c,e = .returned (.slice A (lnP s).length c)∧LnM w' A (lnP s) (letAbs s)∧Below w.heap.size w w':=by
 obtain ⟨i0,hi0,hz0,hz1,hz2⟩:=info_parts infoPln
 obtain ⟨j0,hj0,jz0,jz1,jz2⟩:=info_parts infoInt
 have HEv:=Lib.hid hE
 clear hE
 go_enter Tryz.func51,Tryz.ntmps51
 go_wp2
 go_loopw [3,4] (fun u v wr=>∃ (q g : Nat) (p : Nat × Nat) (f : Nat) (A : Option Addr) (n c : Nat) (o : List (Nat × Nat × Nat)),u = .slice A n c∧v = .int .i64 f∧wr.heap[w.heap.size]? = some (.stringIter s q)∧Own wr (w.heap.size+1) 101 4 A n c (o.map row0)∧n≤q∧f≤q∧q≤s.size∧Hid (LnSt s g q p f o)∧Below w.heap.size w wr) (fun _ _ wr=>s.size - wr.iterPos w.heap.size)
 case atStart=>exact ⟨0,s.size,(0,0),0,none,0,0,[],rfl,rfl,iter_new _ _ _,Own.nil_ _ _ _ _,by omega,by omega,by omega,Lib.hid (lnSt_first s),below_iter (Below.refl _ _) (Nat.le_refl _) _ _⟩
 case round =>
  obtain ⟨q,g,p,f,A,n,c,o,rfl,rfl,hit,ho,hn1,hfq,hqs,HL,hb⟩:=hrel
  have hsz : w.heap.size < wr.heap.size:=(Array.getElem?_eq_some_iff.1 hit).1
  have Hpos:=Lib.hid (iterPos_of hit)
  by_cases hp : q < s.size
  ·obtain ⟨⟨R,W⟩,HDc⟩ : ∃ d,Utf8.decode s q = d:=⟨_,rfl⟩
   have hd:=dec_bd s q hp
   have hnx : ∀ ty,(Instr.next (.pointer (some ⟨w.heap.size,0,none⟩)) true ty).run Tryz.prog wr = _:=fun ty=>Lib.run_next_any_at wr w.heap.size s q ty hit hp
   have hit2:=Lib.iterAt_heap wr w.heap.size s q (q+(Utf8.decode s q).2) hit
   have hb2:=Lib.below_iterAt hb (k:=w.heap.size) (Nat.le_refl _) s (q+(Utf8.decode s q).2)
   have ho2:=ho.keep (w':=wr.iterAt w.heap.size s (q+(Utf8.decode s q).2)) fun a ha=>Lib.iterAt_other wr w.heap.size a.block s _ (by have:=(ho.lt a ha).1;omega)
   have hsz2 : w.heap.size < (wr.iterAt w.heap.size s (q+(Utf8.decode s q).2)).heap.size:=(Array.getElem?_eq_some_iff.1 hit2).1
   rw [HDc] at hd hnx hit2 hb2 ho2 hsz2
   simp only at hd hnx hit2 hb2 ho2 hsz2
   obtain ⟨g',hst⟩:=lnSt_step HL.out hp HDc
   have HS:=Lib.hid hst
   have HQ:=Lib.hid (fun W=>qends_any R W)
   have HWd:=Lib.hid (fun (h : endsQ R = true) W=>uWidth_ends HDc h W)
   obtain ⟨z,hz⟩ : ∃ z,z = q+W:=⟨_,rfl⟩
   rw [← hz] at hnx hit2 hb2 ho2 hsz2 HS
   have ez : IntKind.i64.wrap ((q : Int)+(W : Int)) = (z : Int):=by rw [show (q : Int)+(W : Int) = (z : Int) by omega];exact IntWalk.i64_in _ (by omega)
   have ez2 : (q : Int)+(W : Int) = (z : Int):=by omega
   have hqz : q < z:=by omega
   have hzs : z≤s.size:=by omega
   obtain ⟨j,hj⟩ : ∃ j,j = q+1:=⟨_,rfl⟩
   have HJ:=Lib.hid hj
   have ej : (q : Int)+1 = (j : Int):=by omega
   have ej2 : IntKind.i64.wrap ((q : Int)+1) = (j : Int):=by rw [ej];exact IntWalk.i64_in _ (by omega)
   have hw64 : (W : Int)≤4:=by omega
   clear hst HL HDc hit ho hb hsz hz hd hj
   generalize wr.iterAt w.heap.size s z = w2 at hnx hit2 hb2 ho2 hsz2
   cases b0 : endsQ R with
   | false =>
    have HS2 : Hid (LnSt s g' z (R,q) f o):=Lib.hid (by
     have h:=HS.out
     rwa [show lnEnds s q R = false by unfold lnEnds;rw [b0];rfl,if_neg (by decide)] at h)
    rw [b0] at HQ
    clear HWd HS
    go_wp2_with (first | (go_at_call 81;refine (HQ.out _).mono ?_;rintro e w4 ⟨rfl,rfl⟩))
    go_roundw
    case rel=>exact ⟨z,g',(R,q),f,A,n,c,o,rfl,rfl,hit2,ho2,by omega,by omega,hzs,HS2,hb2⟩
    case measure=>rw [iterPos_of hit2,Hpos.out];omega
   | true =>
   rw [b0] at HQ
   replace HWd:=Lib.hid (HWd.out b0)
   cases t13 : ((R : Int) == 13) with
   | true =>
    have t10 : ((R : Int) == 10) = false:=by
     have h:=eq_of_beq t13
     exact beq_eq_false_iff_ne.2 (by omega)
    have HR13 : Hid (R = 13):=Lib.hid (by have:=eq_of_beq t13;omega)
    have HR10 : Hid (R ≠ 10):=Lib.hid (by have:=HR13.out;omega)
    by_cases hlt : j < s.size
    ·have hlt' : (j : Int) < (s.size : Int):=by omega
     have hj0 : (0 : Int)≤(j : Int):=by omega
     have HG : Hid (s.get! (q+1) = s[j]'hlt):=Lib.hid (by rw [← HJ.out];exact get_at s hlt)
     have HD : Hid (decide (q+1 < s.size) = true):=Lib.hid (decide_eq_true (by rw [← HJ.out];exact hlt))
     cases tb : (((s[j]'hlt).toNat : Int) == 10) with
     | true =>
      have HS2 : Hid (LnSt s g' z (R,q) f o):=Lib.hid (by
       have h:=HS.out
       rwa [show lnEnds s q R = false by unfold lnEnds;rw [b0,HR13.out,HD.out,HG.out,show ((s[j]'hlt).toNat == 10) = true by (have:=eq_of_beq tb;rw [beq_iff_eq];omega)];rfl,if_neg (by decide)] at h)
      clear HWd HS
      go_wp2_with (first | (go_at_call 81;refine (HQ.out _).mono ?_;rintro e w4 ⟨rfl,rfl⟩))
      go_roundw
      case rel=>exact ⟨z,g',(R,q),f,A,n,c,o,rfl,rfl,hit2,ho2,by omega,by omega,hzs,HS2,hb2⟩
      case measure=>rw [iterPos_of hit2,Hpos.out];omega
     | false =>
      have HS2 : Hid (LnSt s g' z (R,q) z (o++[(f,q,z)])):=Lib.hid (by
       have h:=HS.out
       rwa [show lnEnds s q R = true by unfold lnEnds;rw [b0];rw [HR13.out,HD.out,HG.out,show ((s[j]'hlt).toNat == 10) = false by (have:=ne_of_beq_false tb;exact beq_eq_false_iff_ne.2 (by omega))];rfl,if_pos rfl,show lnTo s f q R = q by unfold lnTo;rw [show (R == 10) = false from beq_eq_false_iff_ne.2 HR10.out];rfl] at h)
      clear HS
      go_wp2_with (first
       | (go_at_call 81;refine (HQ.out _).mono ?_;rintro e w4 ⟨rfl,rfl⟩)
       | (go_at_call 82;refine (HWd.out _).mono ?_;rintro e w5 ⟨rfl,rfl⟩)
       | (at_builtin;go_must (refine wpList_app rfl (.tmp 61) (.tmp 66) _ rfl (w.heap.size+1) 101 i0 _ 4 48 Tryz.underlying90 hi0 hz0 hz1 hz2 rfl (by omega) A n c (o.map row0) rfl (ho2.alloc _) _ 1 1 [row0 (f,q,z)] rfl rfl (Rd.newAt (by simp) rfl) (row0_ok [_]) (by unfold maxLen;omega) (by omega) (by simp;omega) ?_);intro A3 c3 w3 ho3 hg3 hA3;have hit3:=hg3.block w.heap.size (by simp;omega) (fun e=>by cases A with | none=>simp at e | some a=>have:=(ho2.lt a rfl).1;simp at e;omega);have hb3:=below_app (hb2.alloc (by omega) _) hg3 (by simp;omega) (fun a ha=>by have:=(ho2.lt a ha).1;omega);clear hg3))
      have hit5 : w3.heap[w.heap.size]? = some (.stringIter s z):=hit3.trans ((Below.heap_alloc _ _ _ hsz2).trans hit2)
      have Ho3 : Own w3 (w.heap.size+1) 101 4 A3 (n+1) c3 ((o++[(f,q,z)]).map row0):=by rw [List.map_append];exact ho3
      clear hit3 ho3
      go_roundw
      case rel=>exact ⟨z,g',(R,q),z,A3,n+1,c3,o++[(f,q,z)],rfl,rfl,hit5,Ho3,by omega,by omega,hzs,HS2,hb3⟩
      case measure=>rw [iterPos_of hit5,Hpos.out];omega
    ·have hlt' : ¬ (j : Int) < (s.size : Int):=by omega
     have HD : Hid (decide (q+1 < s.size) = false):=Lib.hid (decide_eq_false (by rw [← HJ.out];exact hlt))
     have HS2 : Hid (LnSt s g' z (R,q) z (o++[(f,q,z)])):=Lib.hid (by
      have h:=HS.out
      rwa [show lnEnds s q R = true by unfold lnEnds;rw [b0];rw [HR13.out,HD.out];rfl,if_pos rfl,show lnTo s f q R = q by unfold lnTo;rw [show (R == 10) = false from beq_eq_false_iff_ne.2 HR10.out];rfl] at h)
     clear HS
     go_wp2_with (first
      | (go_at_call 81;refine (HQ.out _).mono ?_;rintro e w4 ⟨rfl,rfl⟩)
      | (go_at_call 82;refine (HWd.out _).mono ?_;rintro e w5 ⟨rfl,rfl⟩)
      | (at_builtin;go_must (refine wpList_app rfl (.tmp 61) (.tmp 66) _ rfl (w.heap.size+1) 101 i0 _ 4 48 Tryz.underlying90 hi0 hz0 hz1 hz2 rfl (by omega) A n c (o.map row0) rfl (ho2.alloc _) _ 1 1 [row0 (f,q,z)] rfl rfl (Rd.newAt (by simp) rfl) (row0_ok [_]) (by unfold maxLen;omega) (by omega) (by simp;omega) ?_);intro A3 c3 w3 ho3 hg3 hA3;have hit3:=hg3.block w.heap.size (by simp;omega) (fun e=>by cases A with | none=>simp at e | some a=>have:=(ho2.lt a rfl).1;simp at e;omega);have hb3:=below_app (hb2.alloc (by omega) _) hg3 (by simp;omega) (fun a ha=>by have:=(ho2.lt a ha).1;omega);clear hg3))
     have hit5 : w3.heap[w.heap.size]? = some (.stringIter s z):=hit3.trans ((Below.heap_alloc _ _ _ hsz2).trans hit2)
     have Ho3 : Own w3 (w.heap.size+1) 101 4 A3 (n+1) c3 ((o++[(f,q,z)]).map row0):=by rw [List.map_append];exact ho3
     clear hit3 ho3
     go_roundw
     case rel=>exact ⟨z,g',(R,q),z,A3,n+1,c3,o++[(f,q,z)],rfl,rfl,hit5,Ho3,by omega,by omega,hzs,HS2,hb3⟩
     case measure=>rw [iterPos_of hit5,Hpos.out];omega
   | false =>
    have HR13 : Hid ((R == 13) = false):=Lib.hid (beq_eq_false_iff_ne.2 (by have:=ne_of_beq_false t13;omega))
    cases t10 : ((R : Int) == 10) with
    | true =>
     have HR10 : Hid (R = 10):=Lib.hid (by have:=eq_of_beq t10;omega)
     by_cases hfl : f < q
     ·have hfl' : (q : Int) > (f : Int):=by omega
      obtain ⟨m,hm⟩ : ∃ m,q = m+1:=⟨q - 1,by omega⟩
      have HM : Hid (q - 1 = m):=Lib.hid (by omega)
      have em : (q : Int) - 1 = (m : Int):=by omega
      have em2 : IntKind.i64.wrap ((q : Int) - 1) = (m : Int):=by rw [em];exact IntWalk.i64_in _ (by omega)
      have hms : m < s.size:=by omega
      have hms' : (m : Int) < (s.size : Int):=by omega
      have hm0 : (0 : Int)≤(m : Int):=by omega
      have hmz : m≤z:=by omega
      have HG : Hid (s.get! (q - 1) = s[m]'hms):=Lib.hid (by rw [HM.out];exact get_at s hms)
      clear hm
      cases tb : (((s[m]'hms).toNat : Int) == 13) with
      | true =>
       have HS2 : Hid (LnSt s g' z (R,q) z (o++[(f,m,z)])):=Lib.hid (by
        have h:=HS.out
        rwa [show lnEnds s q R = true by unfold lnEnds;rw [b0];rw [HR13.out];rfl,if_pos rfl,show lnTo s f q R = m by unfold lnTo;rw [HR10.out,decide_eq_true hfl,HG.out,show ((s[m]'hms).toNat == 13) = true by (have:=eq_of_beq tb;rw [beq_iff_eq];omega),HM.out];rfl] at h)
       clear HS
       go_wp2_with (first
        | (go_at_call 81;refine (HQ.out _).mono ?_;rintro e w4 ⟨rfl,rfl⟩)
        | (go_at_call 82;refine (HWd.out _).mono ?_;rintro e w5 ⟨rfl,rfl⟩)
        | (at_builtin;go_must (refine wpList_app rfl (.tmp 61) (.tmp 66) _ rfl (w.heap.size+1) 101 i0 _ 4 48 Tryz.underlying90 hi0 hz0 hz1 hz2 rfl (by omega) A n c (o.map row0) rfl (ho2.alloc _) _ 1 1 [row0 (f,m,z)] rfl rfl (Rd.newAt (by simp) rfl) (row0_ok [_]) (by unfold maxLen;omega) (by omega) (by simp;omega) ?_);intro A3 c3 w3 ho3 hg3 hA3;have hit3:=hg3.block w.heap.size (by simp;omega) (fun e=>by cases A with | none=>simp at e | some a=>have:=(ho2.lt a rfl).1;simp at e;omega);have hb3:=below_app (hb2.alloc (by omega) _) hg3 (by simp;omega) (fun a ha=>by have:=(ho2.lt a ha).1;omega);clear hg3))
       have hit5 : w3.heap[w.heap.size]? = some (.stringIter s z):=hit3.trans ((Below.heap_alloc _ _ _ hsz2).trans hit2)
       have Ho3 : Own w3 (w.heap.size+1) 101 4 A3 (n+1) c3 ((o++[(f,m,z)]).map row0):=by rw [List.map_append];exact ho3
       clear hit3 ho3
       go_roundw
       case rel=>exact ⟨z,g',(R,q),z,A3,n+1,c3,o++[(f,m,z)],rfl,rfl,hit5,Ho3,by omega,by omega,hzs,HS2,hb3⟩
       case measure=>rw [iterPos_of hit5,Hpos.out];omega
      | false =>
       have HS2 : Hid (LnSt s g' z (R,q) z (o++[(f,q,z)])):=Lib.hid (by
        have h:=HS.out
        rwa [show lnEnds s q R = true by unfold lnEnds;rw [b0];rw [HR13.out];rfl,if_pos rfl,show lnTo s f q R = q by unfold lnTo;rw [HR10.out,decide_eq_true hfl,HG.out,show ((s[m]'hms).toNat == 13) = false by (have:=ne_of_beq_false tb;exact beq_eq_false_iff_ne.2 (by omega))];rfl] at h)
       clear HS
       go_wp2_with (first
        | (go_at_call 81;refine (HQ.out _).mono ?_;rintro e w4 ⟨rfl,rfl⟩)
        | (go_at_call 82;refine (HWd.out _).mono ?_;rintro e w5 ⟨rfl,rfl⟩)
        | (at_builtin;go_must (refine wpList_app rfl (.tmp 61) (.tmp 66) _ rfl (w.heap.size+1) 101 i0 _ 4 48 Tryz.underlying90 hi0 hz0 hz1 hz2 rfl (by omega) A n c (o.map row0) rfl (ho2.alloc _) _ 1 1 [row0 (f,q,z)] rfl rfl (Rd.newAt (by simp) rfl) (row0_ok [_]) (by unfold maxLen;omega) (by omega) (by simp;omega) ?_);intro A3 c3 w3 ho3 hg3 hA3;have hit3:=hg3.block w.heap.size (by simp;omega) (fun e=>by cases A with | none=>simp at e | some a=>have:=(ho2.lt a rfl).1;simp at e;omega);have hb3:=below_app (hb2.alloc (by omega) _) hg3 (by simp;omega) (fun a ha=>by have:=(ho2.lt a ha).1;omega);clear hg3))
       have hit5 : w3.heap[w.heap.size]? = some (.stringIter s z):=hit3.trans ((Below.heap_alloc _ _ _ hsz2).trans hit2)
       have Ho3 : Own w3 (w.heap.size+1) 101 4 A3 (n+1) c3 ((o++[(f,q,z)]).map row0):=by rw [List.map_append];exact ho3
       clear hit3 ho3
       go_roundw
       case rel=>exact ⟨z,g',(R,q),z,A3,n+1,c3,o++[(f,q,z)],rfl,rfl,hit5,Ho3,by omega,by omega,hzs,HS2,hb3⟩
       case measure=>rw [iterPos_of hit5,Hpos.out];omega
     ·have hfl' : ¬ (q : Int) > (f : Int):=by omega
      have HS2 : Hid (LnSt s g' z (R,q) z (o++[(f,q,z)])):=Lib.hid (by
       have h:=HS.out
       rwa [show lnEnds s q R = true by unfold lnEnds;rw [b0];rw [HR13.out];rfl,if_pos rfl,show lnTo s f q R = q by unfold lnTo;rw [decide_eq_false hfl,Bool.false_and,Bool.and_false];rfl] at h)
      clear HS
      go_wp2_with (first
       | (go_at_call 81;refine (HQ.out _).mono ?_;rintro e w4 ⟨rfl,rfl⟩)
       | (go_at_call 82;refine (HWd.out _).mono ?_;rintro e w5 ⟨rfl,rfl⟩)
       | (at_builtin;go_must (refine wpList_app rfl (.tmp 61) (.tmp 66) _ rfl (w.heap.size+1) 101 i0 _ 4 48 Tryz.underlying90 hi0 hz0 hz1 hz2 rfl (by omega) A n c (o.map row0) rfl (ho2.alloc _) _ 1 1 [row0 (f,q,z)] rfl rfl (Rd.newAt (by simp) rfl) (row0_ok [_]) (by unfold maxLen;omega) (by omega) (by simp;omega) ?_);intro A3 c3 w3 ho3 hg3 hA3;have hit3:=hg3.block w.heap.size (by simp;omega) (fun e=>by cases A with | none=>simp at e | some a=>have:=(ho2.lt a rfl).1;simp at e;omega);have hb3:=below_app (hb2.alloc (by omega) _) hg3 (by simp;omega) (fun a ha=>by have:=(ho2.lt a ha).1;omega);clear hg3))
      have hit5 : w3.heap[w.heap.size]? = some (.stringIter s z):=hit3.trans ((Below.heap_alloc _ _ _ hsz2).trans hit2)
      have Ho3 : Own w3 (w.heap.size+1) 101 4 A3 (n+1) c3 ((o++[(f,q,z)]).map row0):=by rw [List.map_append];exact ho3
      clear hit3 ho3
      go_roundw
      case rel=>exact ⟨z,g',(R,q),z,A3,n+1,c3,o++[(f,q,z)],rfl,rfl,hit5,Ho3,by omega,by omega,hzs,HS2,hb3⟩
      case measure=>rw [iterPos_of hit5,Hpos.out];omega
    | false =>
     have HR10 : Hid (R ≠ 10):=Lib.hid (by have:=ne_of_beq_false t10;omega)
     have HS2 : Hid (LnSt s g' z (R,q) z (o++[(f,q,z)])):=Lib.hid (by
      have h:=HS.out
      rwa [show lnEnds s q R = true by unfold lnEnds;rw [b0];rw [HR13.out];rfl,if_pos rfl,show lnTo s f q R = q by unfold lnTo;rw [show (R == 10) = false from beq_eq_false_iff_ne.2 HR10.out];rfl] at h)
     clear HS
     go_wp2_with (first
      | (go_at_call 81;refine (HQ.out _).mono ?_;rintro e w4 ⟨rfl,rfl⟩)
      | (go_at_call 82;refine (HWd.out _).mono ?_;rintro e w5 ⟨rfl,rfl⟩)
      | (at_builtin;go_must (refine wpList_app rfl (.tmp 61) (.tmp 66) _ rfl (w.heap.size+1) 101 i0 _ 4 48 Tryz.underlying90 hi0 hz0 hz1 hz2 rfl (by omega) A n c (o.map row0) rfl (ho2.alloc _) _ 1 1 [row0 (f,q,z)] rfl rfl (Rd.newAt (by simp) rfl) (row0_ok [_]) (by unfold maxLen;omega) (by omega) (by simp;omega) ?_);intro A3 c3 w3 ho3 hg3 hA3;have hit3:=hg3.block w.heap.size (by simp;omega) (fun e=>by cases A with | none=>simp at e | some a=>have:=(ho2.lt a rfl).1;simp at e;omega);have hb3:=below_app (hb2.alloc (by omega) _) hg3 (by simp;omega) (fun a ha=>by have:=(ho2.lt a ha).1;omega);clear hg3))
     have hit5 : w3.heap[w.heap.size]? = some (.stringIter s z):=hit3.trans ((Below.heap_alloc _ _ _ hsz2).trans hit2)
     have Ho3 : Own w3 (w.heap.size+1) 101 4 A3 (n+1) c3 ((o++[(f,q,z)]).map row0):=by rw [List.map_append];exact ho3
     clear hit3 ho3
     go_roundw
     case rel=>exact ⟨z,g',(R,q),z,A3,n+1,c3,o++[(f,q,z)],rfl,rfl,hit5,Ho3,by omega,by omega,hzs,HS2,hb3⟩
     case measure=>rw [iterPos_of hit5,Hpos.out];omega
  ·have hnx : ∀ ty,(Instr.next (.pointer (some ⟨w.heap.size,0,none⟩)) true ty).run Tryz.prog wr = _:=fun ty=>Lib.run_next_end_at wr w.heap.size s q ty hit hp
   have HE:=Lib.hid (lnSt_end HL.out hp)
   clear HL Hpos
   go_wp2_with (at_builtin;go_must (refine wpList_app rfl (.tmp 69) (.tmp 76) _ rfl (w.heap.size+1) 101 i0 _ 4 48 Tryz.underlying90 hi0 hz0 hz1 hz2 rfl (by omega) A n c (o.map row0) rfl (ho.alloc _) _ 1 1 [row0 (f,s.size,s.size)] rfl rfl (Rd.newAt (by simp) rfl) (row0_ok [_]) (by unfold maxLen;omega) (by omega) (by simp;omega) ?_);intro A3 c3 w3 ho3 hg3 hA3;have hb3:=below_app (hb.alloc (by omega) _) hg3 (by simp;omega) (fun a ha=>by have:=(ho.lt a ha).1;omega);clear hg3)
   have Ho3 : Own w3 (w.heap.size+1) 101 4 A3 (n+1) c3 ((lnP s).map row0):=by rw [← HE.out,List.map_append];exact ho3
   have hln : (lnP s).length = n+1:=by have:=Ho3.len;rw [List.length_map] at this;exact this
   obtain ⟨gl,rfl,hgl1,hgl2⟩:=Ho3.form (by omega)
   have HG0 : LnG w3 s (w.heap.size+1) gl (n+1) c3 0 ((lnP s).map fun _=>.slice none 0 0):=⟨by simp,by rw [zip_row0];exact Ho3,fun k v _ hv=>by
    rw [List.getElem?_map] at hv
    cases hh : (lnP s)[k]? with
    | none=>rw [hh] at hv;cases hv
    | some u=>rw [hh] at hv;injection hv with hv;exact hv.symm,fun k x v hk=>absurd hk (Nat.not_lt_zero _)⟩
   have Hln:=Lib.hid hln
   have hn0 : n+1≤100002:=by omega
   obtain ⟨N,hN⟩ : ∃ N,N = n+1:=⟨_,rfl⟩
   rw [← hN] at HG0 Hln hn0 ⊢
   have HeN : Hid ((n : Int)+1 = (N : Int)):=Lib.hid (by omega)
   clear ho3 Ho3 hA3 hb ho hit hnx hln hN HE
   go_loopw [80] (fun v wr=>∃ (i : Nat) (V : List Value),v = .int .i64 i∧i≤N∧LnG wr s (w.heap.size+1) gl N c3 i V∧Below w.heap.size w wr) (fun v _=>N - (intOf v).toNat)
   case atStart=>exact ⟨0,_,rfl,by omega,HG0,hb3⟩
   case round =>
    obtain ⟨i,V,rfl,hi,hG,hbw⟩:=hrel
    by_cases hlt : i < N
    ·obtain ⟨⟨a,b,z⟩,Hx⟩ : ∃ x,Hid ((lnP s)[i]? = some x):=⟨_,Lib.hid (List.getElem?_eq_getElem (by rw [Hln.out];exact hlt))⟩
     obtain ⟨v,hv⟩ : ∃ v,V[i]? = some v:=⟨_,List.getElem?_eq_getElem (by rw [hG.len,Hln.out];exact hlt)⟩
     obtain rfl:=hG.todo i v (Nat.le_refl _) hv
     obtain ⟨x0,x1,x2,x3⟩:=hG.at_ Hx.out hv
     simp only at x0 x1 x2
     obtain ⟨_,hab,hbz,hzs⟩:=line_in Hx.out
     simp only at hab hbz hzs
     have Hv:=Lib.hid hv
     have hin1 : (i : Int) < (n : Int)+1:=by have:=HeN.out;omega
     have hinN : (i : Int) < (N : Int):=by omega
     have hi00 : (0 : Int)≤(i : Int):=by omega
     have hab' : (a : Int)≤(b : Int):=by omega
     have hbs' : (b : Int)≤(s.size : Int):=by omega
     have ha0 : (0 : Int)≤(a : Int):=by omega
     have hbA : Below wr.heap.size wr (wr.alloc (.cells #[.int .i64 (a : Nat),.int .i64 (b : Nat),.int .i64 (z : Nat),.slice none 0 0] 101)):=(Below.refl _ _).alloc (Nat.le_refl _) _
     have BX:=Blk.new wr 101 #[.int .i64 (a : Nat),.int .i64 (b : Nat),.int .i64 (z : Nat),.slice none 0 0]
     have HQ:=Lib.hid (qbegins_any (s.extract a b) _ (HEv.out.below (below_two hbw hbA)) (by rw [ByteArray.size_extract];omega))
     have hbwA:=below_two hbw hbA
     have hGA:=hG.below hbA
     have hglr:=(hG.own.lt _ rfl).2
     clear hv hbA
     go_wp2_with fail
     refine HQ.out.mono ?_
     rintro e w4 ⟨Bq,m,cq,rfl,hoq,hb4⟩
     obtain ⟨T,HT⟩ : ∃ T,Hid (letS (s.extract a b) = T):=⟨_,Lib.hid rfl⟩
     rw [HT.out] at hoq
     have hTm : T.length = m:=by have:=hoq.len;rw [List.length_map] at this;exact this
     have HTm:=Lib.hid hTm
     have HTlt : Hid (∀ (k y : Nat),T[k]? = some y→y < s.size):=Lib.hid (fun k y h=>by
      have h1:=let_lt (s.extract a b) y (by rw [HT.out];exact List.mem_of_getElem? h)
      rw [ByteArray.size_extract] at h1
      omega)
     have hmz : m≤100001:=by
      have h1:=bounds_len (s.extract a b)
      rw [ByteArray.size_extract] at h1
      have h2 : (letS (s.extract a b)).length≤(boundsG gG (s.extract a b)).length:=by unfold letS;rw [List.length_dropLast];omega
      rw [HT.out,hTm] at h2
      omega
     have HLA : Hid (letAbs s (a,b,z) = T.map (a+·)):=Lib.hid (by unfold letAbs letQ;rw [← HT.out])
     have hG4:=hGA.below hb4
     have BX4:=BX.below hb4
     have rdq:=hoq.rd (by decide)
     have hbw4:=below_two hbwA hb4
     have hqgl : ∀ a,Bq = some a→a.block ≠ gl:=fun q hq=>by have:=(hoq.lt q hq).1;simp at this;omega
     have hbxlt:=BX4.lt
     have hglw4 : gl < w4.heap.size:=by have:=hb4.size;simp at this;omega
     have hbxgl : wr.heap.size ≠ gl:=by omega
     generalize wr.heap.size = bx at BX4 hbxlt hbxgl ⊢
     clear HQ hoq hTm hG x0 x1 x2 x3 hbw hbwA hGA BX hb4
     go_wp2_with fail
     go_loopw [93] (fun v wr=>∃ (k : Nat) (Ak : Option Addr) (ck : Nat),v = .int .i64 k∧k≤m∧Own wr (w.heap.size+1) 101 4 (some ⟨gl,0,none⟩) N c3 (List.zipWith encLnR (lnP s) (V.set i (.slice Ak k ck)))∧Own wr w4.heap.size 3 1 Ak k ck (((T.take k).map (a+·)).map encN)∧w4.grownBy wr (some gl)) (fun v _=>m - (intOf v).toNat)
     case atStart=>exact ⟨0,none,0,rfl,by omega,by rw [set_same Hv.out];exact hG4.own,Own.nil_ _ _ _ _,only_refl _ _⟩
     case round =>
      obtain ⟨k,Ak,ck,rfl,hk,hoL,hoA,hgs⟩:=hrel
      by_cases hkm : k < m
      ·obtain ⟨t,Ht⟩ : ∃ t,Hid (T[k]? = some t):=⟨_,Lib.hid (List.getElem?_eq_getElem (by rw [HTm.out];exact hkm))⟩
       have hts:=HTlt.out k t Ht.out
       obtain ⟨bq,oq,rfl,cq1⟩:=(rd_grown rdq hgs hqgl).atP' Ht.out
       have hzx : (List.zipWith encLnR (lnP s) (V.set i (.slice Ak k ck)))[i]? = some (encLnR (a,b,z) (.slice Ak k ck)):=by
        rw [List.getElem?_zipWith,Hx.out,List.getElem?_set_self (by rw [hG4.len,Hln.out];exact hlt)]
       have cl3 : wr.cell? ⟨gl,i*4+3,none⟩ = some (.slice Ak k ck):=hoL.cell (j:=3) hzx rfl
       have hsz4:=hgs.size
       have BXs : Blk wr bx 101 #[.int .i64 (a : Nat),.int .i64 (b : Nat),.int .i64 (z : Nat),.slice none 0 0]:=(hgs.block bx hbxlt (fun e=>hbxgl (by injection e))).trans BX4
       have cb0:=BXs.cell 0
       simp only [zG,zH] at cb0
       have fl3:=hoL.frozen (i*4+3)
       have hAlt:=hoA.lt
       obtain ⟨y,hy⟩ : ∃ y,y = a+t:=⟨_,rfl⟩
       have ey : (a : Int)+(t : Int) = (y : Int):=by omega
       have ey2 : IntKind.i64.wrap ((a : Int)+(t : Int)) = (y : Int):=by rw [ey];exact IntWalk.i64_in _ (by omega)
       have ey3 : IntKind.i64.wrap (y : Int) = (y : Int):=IntWalk.i64_in _ (by omega)
       have HTk : Hid ((T.take (k+1)).map (a+·) = (T.take k).map (a+·)++[y]):=Lib.hid (by rw [List.take_add_one,Ht.out,Option.toList_some,List.map_append,hy];rfl)
       have hiN : (i : Int) < (N : Int):=by omega
       have hi0' : (0 : Int)≤(i : Int):=by omega
       have hkm' : (k : Int) < (m : Int):=by omega
       have hk0' : (0 : Int)≤(k : Int):=by omega
       clear hy
       go_upto_region 20 with fail
       refine wp_region_last (S:=fun U=>U.cell? ⟨gl,i*4+3,none⟩ = some (.slice Ak k ck)∧U.cell? ⟨bx,0,none⟩ = some (.int .i64 (a : Nat))) 15 rfl (by kernel_rfl) (by kernel_rfl) (by kernel_rfl) ⟨cl3,cb0⟩ (fun hHeld=>?_)
       simp only [List.dropLast_cons_cons,List.dropLast_singleton]
       refine tkH (i:=0) (v:=?_) rfl ?_ ?_;rotate_left;focus ((intro w hSw;(try dsimp only at hSw);go_simp);try with_reducible rfl)
       (try simp only [Act.put,zA,zC,zD,zE,zF])
       refine tkH (i:=1) (v:=?_) rfl ?_ ?_;rotate_left;focus ((intro w hSw;(try dsimp only at hSw);go_simp);try with_reducible rfl)
       (try simp only [Act.put,zA,zB,zC,zD,zE,zF])
       refine tkH (i:=2) (v:=?_) rfl ?_ ?_;rotate_left;focus ((intro w hSw;(try dsimp only at hSw);go_simp);try with_reducible rfl)
       (try simp only [Act.put,zA,zB,zC,zD,zE,zF])
       refine tkH (i:=3) (v:=?_) rfl ?_ ?_;rotate_left;focus ((intro w hSw;(try dsimp only at hSw);go_simp);try with_reducible rfl)
       (try simp only [Act.put,zA,zB,zC,zD,zE,zF])
       refine tkH (i:=4) (v:=?_) rfl ?_ ?_;rotate_left;focus ((intro w hSw;(try dsimp only at hSw);go_simp);try with_reducible rfl)
       (try simp only [Act.put,zA,zB,zC,zD,zE,zF])
       refine tkH (i:=5) (v:=?_) rfl ?_ ?_;rotate_left;focus ((intro w hSw;(try dsimp only at hSw);go_simp);try with_reducible rfl)
       (try simp only [Act.put,zA,zB,zC,zD,zE,zF])
       refine tkH (i:=6) (v:=?_) rfl ?_ ?_;rotate_left;focus ((intro w hSw;(try dsimp only at hSw);go_simp);try with_reducible rfl)
       (try simp only [Act.put,zA,zB,zC,zD,zE,zF])
       refine tkH (i:=7) (v:=?_) rfl ?_ ?_;rotate_left;focus ((intro w hSw;(try dsimp only at hSw);go_simp);try with_reducible rfl)
       (try simp only [Act.put,zA,zB,zC,zD,zE,zF])
       refine tkH (i:=8) (v:=?_) rfl ?_ ?_;rotate_left;focus ((intro w hSw;(try dsimp only at hSw);go_simp);try with_reducible rfl)
       (try simp only [Act.put,zA,zB,zC,zD,zE,zF])
       refine tkH (i:=9) (v:=?_) rfl ?_ ?_;rotate_left;focus ((intro w hSw;(try dsimp only at hSw);go_simp);try with_reducible rfl)
       (try simp only [Act.put,zA,zB,zC,zD,zE,zF])
       refine tkH (i:=10) (v:=?_) rfl ?_ ?_;rotate_left;focus ((intro w hSw;(try dsimp only at hSw);go_simp);try with_reducible rfl)
       (try simp only [Act.put,zA,zB,zC,zD,zE,zF])
       refine wpAnyH_ready (rs:=[11]) (by kernel_rfl) (by simp) ?_
       refine AllReadyH.cons rfl (fun K hK=>?_) AllReadyH.nil
       go_simp
       have hbn : Below wr.heap.size wr (wr.alloc (.cells #[.int .i64 (y : Nat)] 3)).drew:=((Below.refl _ _).alloc (Nat.le_refl _) _).drew
       refine hK.out _ _ ⟨cell_keep cl3 hbn,cell_keep cb0 hbn⟩ (fun hHeld=>?_)
       clear hK K
       refine wpAnyH_ready (rs:=[12]) (by kernel_rfl) (by simp) ?_
       refine AllReadyH.cons rfl (fun K hK=>?_) AllReadyH.nil
       refine step_app rfl (.tmp 103) (.tmp 108) _ rfl w4.heap.size 3 j0 _ 1 8 Tryz.underlying65 hj0 jz0 jz1 jz2 rfl (by omega) Ak k ck (((T.take k).map (a+·)).map encN) rfl (hoA.alloc _).drew _ 1 1 [encN y] rfl rfl (Rd.newAt (by simp) rfl) (encN_ok [y]) (by unfold maxLen;omega) (by omega) (by simp;omega) ?_
       intro A5 c5 w7 ho7 hg7 hA7
       have hgA : ∀ j,j < w4.heap.size→some j ≠ Ak.map (·.block):=fun j hj e=>by
        cases Ak with
        | none=>cases e
        | some q=>have:=(hAlt q rfl).1;simp at e;omega
       have h7 : ∀ j,j < w4.heap.size→w7.heap[j]? = wr.heap[j]?:=fun j hj=>(hg7.block j (by simp;omega) (hgA j hj)).trans (Below.heap_alloc wr _ j (by omega))
       have cl7 : w7.cell? ⟨gl,i*4+3,none⟩ = some (.slice Ak k ck):=(World.cell?_of_block (h7 gl hglw4)).trans cl3
       have cb7 : w7.cell? ⟨bx,0,none⟩ = some (.int .i64 (a : Nat)):=(World.cell?_of_block (h7 bx hbxlt)).trans cb0
       have fl7 : w7.frozen? ⟨gl,i*4+3,none⟩ = false:=(World.frozen?_of_block (h7 gl hglw4)).trans fl3
       refine hK.out _ _ ⟨cl7,cb7⟩ (fun hHeld=>?_)
       clear hK K
       refine tkH (i:=13) (v:=?_) rfl ?_ ?_;rotate_left;focus ((intro w hSw;(try dsimp only at hSw);go_simp);try with_reducible rfl)
       (try simp only [Act.put,zA,zB,zC,zD,zE,zF])
       refine tkH (i:=14) (v:=?_) rfl ?_ ?_;rotate_left;focus ((intro w hSw;(try dsimp only at hSw);go_simp);try with_reducible rfl)
       (try simp only [Act.put,zA,zB,zC,zD,zE,zF])
       refine wpAnyH_done (by kernel_rfl) ?_ _
       refine tailQ_end (wpOp_step (i:=15) rfl (fun K hK=>?_))
       go_simp
       refine hK _ _ ?_
       clear hK K
       have hzi : i < V.length:=by rw [hG4.len,Hln.out];exact hlt
       have hoL7 : Own w7 (w.heap.size+1) 101 4 (some ⟨gl,0,none⟩) N c3 (List.zipWith encLnR (lnP s) (V.set i (.slice Ak k ck))):=hoL.keep (fun q hq=>by injection hq with hq;subst hq;exact h7 gl hglw4)
       have hoL8:=hoL7.stored (k:=i) (j:=3) hzx (by omega) (.slice A5 (k+1) c5)
       rw [zip_set Hx.out hzi] at hoL8
       have hoA8:=ho7.keep (w':=w7.setCell ⟨gl,i*4+3,none⟩ (.slice A5 (k+1) c5)) (fun q hq=>Below.heap_setCell w7 ⟨gl,i*4+3,none⟩ _ _ (by have:=(ho7.lt q hq).1;simp only;omega))
       have hw7 : w4.grownBy w7 (some gl):=⟨hg7.os.trans hgs.os,hg7.tape.trans hgs.tape,hg7.output.trans hgs.output,by have:=hg7.size;simp at this;omega,fun j hj hne=>(h7 j hj).trans (hgs.block j hj hne)⟩
       have hw8:=only_setCell hw7 (p:=⟨gl,i*4+3,none⟩) (.inl rfl) (.slice A5 (k+1) c5)
       go_wp2
       go_roundw
       case rel=>exact ⟨k+1,A5,c5,by go_num,by omega,hoL8,by rw [HTk.out,List.map_append];exact hoA8,hw8⟩
       case measure=>simp [intOf];omega
      ·obtain rfl : k = m:=by omega
       have hlen : (letAbs s (a,b,z)).length = k:=by rw [HLA.out,List.length_map,HTm.out]
       have hN:=LnG.next (B:=Ak) (d:=ck) hG4 hgs Hx.out (by rw [hlen];exact hoL) (by
        have h1:=hoA.rd (by decide)
        rw [List.take_of_length_le (by rw [HTm.out];exact Nat.le_refl _)] at h1
        rw [HLA.out];exact h1) (fun q hq=>by have:=(hoA.lt q hq).1;omega)
       rw [hlen] at hN
       have hbwr:=hbw4.grown hgs hbw4.size (fun j hj=>by injection hj with hj;omega)
       clear hoL hoA hlen
       go_wp2
       go_roundw
       case rel=>exact ⟨i+1,_,by go_num,by omega,hN,hbwr⟩
       case measure=>simp [intOf];omega
    ·obtain rfl : i = N:=by omega
     have hin1 : ¬ (i : Int) < (n : Int)+1:=by have:=HeN.out;omega
     have hM:=hG.end_ (by rw [Hln.out];exact Nat.le_refl _)
     go_wp2
     go_ret
     exact ⟨some ⟨gl,0,none⟩,⟨c3,by rw [Hln.out];rfl⟩,hM,hbw⟩
end
section
open Go.RowKit Go.Shelf
attribute [local go_sem] Oper.semAt_some
theorem qNew_any (s : ByteArray) (w : World) (hE : Env w) (hs : s.size≤100000) : Calls Tryz.prog 14 #[.string s] w fun e w'=>∃ p,e = .returned (.pointer (some ⟨p,0,none⟩))∧IdxAt w' p s∧Below w.heap.size w w':=by
 have hmm:=@run_makeMap Tryz.prog
 obtain ⟨i0,hi0,hz0,hz1,hz2⟩:=info_parts infoInt
 have hrl:=runesP_len s
 have HM : Below w.heap.size w (w.alloc (.map #[] 0)):=(Below.refl _ _).alloc (Nat.le_refl _) _
 refine (callsIn_wide (n:=6)).1 ?_
 refine callsIn_of_wp_marks Tryz.func14 rfl trivial ?_ rfl
 simp only [Tryz.ntmps14,List.size_toArray,List.length_cons,List.length_nil,Nat.reduceAdd,Nat.reduceSub,Array.replicate_succ,Array.replicate_zero,List.push_toArray,List.append_toArray,List.nil_append,List.cons_append]
 refine wpIn_wide.2 ?_
 go_wp2_with fail
 have hbm0 : (w.alloc (.map #[] 0)).heap[w.heap.size]? = some (.map #[] 0):=(MapKept.heap_alloc w _).1
 have hzm : (w.alloc (.map #[] 0)).heap.size = w.heap.size+1:=World.size_alloc _ _
 generalize (w.alloc (.map #[] 0)) = w0 at HM hbm0 hzm ⊢
 refine (qlines_any s w0 (hE.below HM) hs).mono ?_
 rintro e w1 ⟨A,c,rfl,hLn,hb1⟩
 have hB1:=below_two HM hb1
 have hbm1 : w1.heap[w.heap.size]? = some (.map #[] 0):=(hb1.block _ (by omega)).trans hbm0
 have hz1':=hb1.size
 clear HM hbm0 hb1
 go_wp2_with fail
 have hBp:=(Blk.new w1 93 #[.string s,.map (some w.heap.size),.slice A (lnP s).length c]).alloc (.cells #[.pointer (some ⟨w1.heap.size,0,none⟩)] 23)
 have hBx:=Blk.new (w1.alloc (.cells #[.string s,.map (some w.heap.size),.slice A (lnP s).length c] 93)) 23 #[.pointer (some ⟨w1.heap.size,0,none⟩)]
 have hzx : (w1.alloc (.cells #[.string s,.map (some w.heap.size),.slice A (lnP s).length c] 93)).heap.size = w1.heap.size+1:=World.size_alloc _ _
 rw [hzx] at hBx
 have hb3 : Below w1.heap.size w1 ((w1.alloc (.cells #[.string s,.map (some w.heap.size),.slice A (lnP s).length c] 93)).alloc (.cells #[.pointer (some ⟨w1.heap.size,0,none⟩)] 23)):=((Below.refl _ _).alloc (Nat.le_refl _) _).alloc (by omega) _
 clear hzx
 generalize ((w1.alloc (.cells #[.string s,.map (some w.heap.size),.slice A (lnP s).length c] 93)).alloc (.cells #[.pointer (some ⟨w1.heap.size,0,none⟩)] 23)) = w3 at hBp hBx hb3 ⊢
 refine (uEach_any s w3).mono ?_
 rintro e W2 ⟨bs,rfl,hc,hb2⟩
 have hB2:=below_two (below_two hB1 hb3) hb2
 have hbm2 : W2.heap[w.heap.size]? = some (.map #[] 0):=((below_two hb3 hb2).block _ (by omega)).trans hbm1
 have hLn2:=hLn.below (below_two hb3 hb2)
 have hBp2:=hBp.below hb2
 have hBx2:=hBx.below hb2
 have HBp:=Lib.hid hBp2
 have HLn:=Lib.hid hLn2
 have HM2:=Lib.hid hbm2
 have hN0:=nw_first hbm2
 obtain ⟨bm,hbm⟩ : ∃ b,b = w.heap.size:=⟨_,rfl⟩
 obtain ⟨p,hp⟩ : ∃ b,b = w1.heap.size:=⟨_,rfl⟩
 obtain ⟨bx,hbxe⟩ : ∃ b,b = w1.heap.size+1:=⟨_,rfl⟩
 have hbml : bm < W2.heap.size:=by rw [hbm];exact (Array.getElem?_eq_some_iff.1 hbm2).1
 have hpl : p < W2.heap.size:=by rw [hp];exact hBp2.lt
 have hbxl : bx < W2.heap.size:=by rw [hbxe];exact hBx2.lt
 have hbx : bx ≠ bm:=by omega
 have hpx : p ≠ bm:=by omega
 have cx2:=hBx2.cell 0
 have cp2:=hBp2.cell 1
 simp only [zG,zH,zI] at cx2 cp2
 rw [← hbxe,← hp] at cx2
 rw [← hp,← hbm] at cp2
 rw [← hbm] at hN0
 rw [← hp,← hbm] at HBp
 clear hBp hBx hBp2 hBx2 hLn hLn2 hb3 hb2 hB1 hbm1 hbm2 hz1' hzm
 go_wp2_with fail
 subst hbxe hp hbm
 refine (wpIn_wide (n:=6)).1 ?_
 refine rngH rfl (by decide) (gf:=83) (lb:=#[.pointer (some ⟨bs,0,none⟩)]) rfl trivial (enters_of Tryz.func83 (by kernel_rfl) rfl)
  (uEach_stopsI 5 (by decide) W2 s bs hc) (fun h k=>h.trans k) (fun W l o o' _ h1 _ h3=>KI.put W l o o' h1 h3) (Below.refl _ _) (fun _=>rfl) (fun _=>KI.refl _)
  (fun (pre : List (Nat × Nat × Nat)) W=>Nw W2 w.heap.size (3*pre.length) (gU (pre.map (clR s))) W) (fun _ _ _=>False) (nw_own (n:=fun (pre : List (Nat × Nat × Nat))=>3*pre.length) (g:=fun pre=>gU (pre.map (clR s))) (Nat.le_refl _) hbml) (fun _ _ _ _ _ hs _ _=>hs)
  (hN0.congr (fun k=>by simp [gU]))
  (fun T x=>(((T.setIfInBounds 15 (.int .i64 (min x.2.1 s.size : Nat))).setIfInBounds 16 (.int .i32 (x.1 : Nat))).setIfInBounds 4 (.int .i64 (min x.2.1 s.size : Nat))).setIfInBounds 5 (.int .i32 (x.1 : Nat))) ?assign ?body ?done ?stop
 case assign =>
  intro l2 x V K hK
  simp only [zD,zF,zE] at hK
  simp only [encUc]
  gi_wp2
  exact hK
 case stop =>
  rintro D cc pre W _ hp h _
  exact absurd h id
 case body =>
  rintro l2 pre ⟨R,pp,qq⟩ W hl2 _ hN hlen
  simp only [zD,zF,zE]
  have HE : Hid (∀ a k,a = min pp s.size→gU ((pre++[(R,pp,qq)]).map (clR s)) k = gU (pre.map (clR s)++[(R,a,qq)]) k):=Lib.hid (fun a k e=>by subst e;rw [List.map_append];rfl)
  obtain ⟨a,ha⟩ : ∃ a,a = min pp s.size:=⟨_,rfl⟩
  have hale : a≤100000:=by omega
  rw [← ha]
  replace HE:=Lib.hid (fun k=>HE.out a k ha)
  clear ha
  have HN:=Lib.hid hN
  have HL : Hid (∀ k,∀ x ∈ gU (pre.map (clR s)) k,x≤4294967296):=Lib.hid (fun k x hx=>by have:=gU_le (clR_le s pre) k x hx;omega)
  have HL2 : Hid _:=Lib.hid (addAt_le HL.out 1 (q:=a) (by omega))
  have HL3 : Hid _:=Lib.hid (addAt_le HL2.out 0 (q:=a) (by omega))
  clear hN
  gi_wp2_with fail
  obtain ⟨Aa,ca,hlk,hO,hln,hal,hst,hback⟩:=HN.out.app (by omega) 1 (by decide) (fun x hx=>HL.out 1 x hx)
  have Hback:=Lib.hid hback
  obtain ⟨la,hla⟩ : ∃ z,z = (gU (pre.map (clR s))) 1:=⟨_,rfl⟩
  rw [← hla] at hlk hO hln Hback
  have cx:=HN.out.cell cx2 hbx
  have cp:=HN.out.cell cp2 hpx
  have hszV:=HN.out.2.size
  have HLa:=Lib.hid hla
  clear hback hla
  refine wpIn_region_last (S:=fun U=>U.cell? ⟨w1.heap.size+1,0,none⟩ = some (.pointer (some ⟨w1.heap.size,0,none⟩))∧U.cell? ⟨w1.heap.size,1,none⟩ = some (.map (some w.heap.size))∧U.heap[w.heap.size]? = W.heap[w.heap.size]?) 12 rfl (by kernel_rfl) (by kernel_rfl) (by kernel_rfl) (by kernel_rfl) (fun h=>by obtain ⟨_,_,h⟩:=h;exact h) ⟨cx,cp,rfl⟩ (fun hHeld=>?_)
  simp only [List.dropLast_cons_cons,List.dropLast_singleton]
  refine tkH (i:=0) (v:=?_) rfl ?_ ?_;rotate_left;focus ((intro w hSw;(try dsimp only at hSw);go_simp);try with_reducible rfl)
  (try simp only [Act.put,zA,zC,zD,zE,zF])
  refine tkH (i:=1) (v:=?_) rfl ?_ ?_;rotate_left;focus ((intro w hSw;(try dsimp only at hSw);go_simp);try with_reducible rfl)
  (try simp only [Act.put,zA,zB,zC,zD,zE,zF])
  refine tkH (i:=2) (v:=?_) rfl ?_ ?_;rotate_left;focus ((intro w hSw;(try dsimp only at hSw);go_simp);try with_reducible rfl)
  (try simp only [Act.put,zA,zB,zC,zD,zE,zF])
  refine tkH (i:=3) (v:=?_) rfl ?_ ?_;rotate_left;focus ((intro w hSw;(try dsimp only at hSw);go_simp);try with_reducible rfl)
  (try simp only [Act.put,zA,zB,zC,zD,zE,zF])
  refine tkH (i:=4) (v:=?_) rfl ?_ ?_;rotate_left;focus ((intro w hSw;(try dsimp only at hSw);go_simp);try with_reducible rfl)
  (try simp only [Act.put,zA,zB,zC,zD,zE,zF])
  refine tkH (i:=5) (v:=?_) rfl ?_ ?_;rotate_left;focus ((intro w hSw;(try dsimp only at hSw);go_simp);try with_reducible rfl)
  (try simp only [Act.put,zA,zB,zC,zD,zE,zF])
  refine tkH (i:=6) (v:=?_) rfl ?_ ?_;rotate_left;focus ((intro w hSw;(try dsimp only at hSw);go_simp);try with_reducible rfl)
  (try simp only [Act.put,zA,zB,zC,zD,zE,zF])
  refine tkH (i:=7) (v:=?_) rfl ?_ ?_;rotate_left;focus ((intro w hSw;(try dsimp only at hSw);go_simp);try with_reducible rfl)
  (try simp only [Act.put,zA,zB,zC,zD,zE,zF])
  refine tkH (i:=8) (v:=?_) rfl ?_ ?_;rotate_left;focus ((intro w hSw;(try dsimp only at hSw);have hlk2:=hlk w hSw.2.2;go_simp);try with_reducible rfl)
  (try simp only [Act.put,zA,zB,zC,zD,zE,zF])
  refine tkH (i:=9) (v:=?_) rfl ?_ ?_;rotate_left;focus ((intro w hSw;(try dsimp only at hSw);go_simp);try with_reducible rfl)
  (try simp only [Act.put,zA,zB,zC,zD,zE,zF])
  refine wpAnyH_ready (rs:=[10]) (by kernel_rfl) (by simp) ?_
  refine AllReadyH.cons rfl (fun K hK=>?_) AllReadyH.nil
  go_simp
  refine hK.out _ _ ⟨(World.cell?_of_block (hal _ _ hbxl)).trans cx,(World.cell?_of_block (hal _ _ hpl)).trans cp,hal _ _ hbml⟩ (fun hHeld=>?_)
  clear hK K
  (try simp only [Act.put,zA,zB,zC,zD,zE,zF])
  refine wpAnyH_ready (rs:=[11]) (by kernel_rfl) (by simp) ?_
  refine AllReadyH.cons rfl (fun K hK=>?_) AllReadyH.nil
  refine step_app rfl (.tmp 25) (.tmp 27) _ rfl W2.heap.size 3 i0 _ 1 8 Tryz.underlying65 hi0 hz0 hz1 hz2 rfl (by omega) Aa la.length ca (la.map encN) rfl (hO.drew.alloc _) _ 1 1 [[.int .i64 (a : Nat)]] rfl rfl (Rd.newAt (by simp) (by simp)) (fun y hy=>by rw [List.mem_singleton] at hy;subst hy;exact ⟨rfl,by simp [Value.oneCell']⟩) (by unfold maxLen;omega) (by omega) (by simp;omega) ?_
  intro A3a c3a w7a ho7 hg7 hA7
  obtain ⟨w8a,hrun8,hN8,hk8,hi8⟩:=Hback.out a _ w7a A3a c3a (by omega) hg7 ho7 hA7
  have HN8a:=Lib.hid hN8
  have HK8a:=Lib.hid hk8
  have HI8a:=Lib.hid hi8
  clear hN8 hk8 hi8
  refine hK.out _ _ ⟨(World.cell?_of_block (hst _ _ hg7 _ hbxl)).trans cx,(World.cell?_of_block (hst _ _ hg7 _ hpl)).trans cp,hst _ _ hg7 _ hbml⟩ (fun hHeld=>?_)
  clear hK K
  (try simp only [Act.put,zA,zB,zC,zD,zE,zF])
  refine wpAnyH_done (by kernel_rfl) ?_ _
  refine tailQ_end (wpOp_step (i:=12) rfl (fun K hK=>?_))
  go_simp
  refine hK _ _ ?_
  skip
  clear hK K hlk hO hal hst cx cp Hback ho7 hg7 hA7 hrun8 hHeld hszV hln
  skip
  gi_wp2_with fail
  obtain ⟨Ab,cb,hlk,hO,hln,hal,hst,hback⟩:=HN8a.out.app (by omega) 0 (by decide) (fun x hx=>HL2.out 0 x hx)
  have Hback:=Lib.hid hback
  obtain ⟨lb,hlb⟩ : ∃ z,z = (addAt (gU (pre.map (clR s))) 1 a) 0:=⟨_,rfl⟩
  rw [← hlb] at hlk hO hln Hback
  have cx:=HN8a.out.cell cx2 hbx
  have cp:=HN8a.out.cell cp2 hpx
  have hszV:=HN8a.out.2.size
  have HLb:=Lib.hid hlb
  clear hback hlb
  refine wpIn_region_last (S:=fun U=>U.cell? ⟨w1.heap.size+1,0,none⟩ = some (.pointer (some ⟨w1.heap.size,0,none⟩))∧U.cell? ⟨w1.heap.size,1,none⟩ = some (.map (some w.heap.size))∧U.heap[w.heap.size]? = w8a.heap[w.heap.size]?) 12 rfl (by kernel_rfl) (by kernel_rfl) (by kernel_rfl) (by kernel_rfl) (fun h=>by obtain ⟨_,_,h⟩:=h;exact h) ⟨cx,cp,rfl⟩ (fun hHeld=>?_)
  simp only [List.dropLast_cons_cons,List.dropLast_singleton]
  refine tkH (i:=0) (v:=?_) rfl ?_ ?_;rotate_left;focus ((intro w hSw;(try dsimp only at hSw);go_simp);try with_reducible rfl)
  (try simp only [Act.put,zA,zC,zD,zE,zF])
  refine tkH (i:=1) (v:=?_) rfl ?_ ?_;rotate_left;focus ((intro w hSw;(try dsimp only at hSw);go_simp);try with_reducible rfl)
  (try simp only [Act.put,zA,zB,zC,zD,zE,zF])
  refine tkH (i:=2) (v:=?_) rfl ?_ ?_;rotate_left;focus ((intro w hSw;(try dsimp only at hSw);go_simp);try with_reducible rfl)
  (try simp only [Act.put,zA,zB,zC,zD,zE,zF])
  refine tkH (i:=3) (v:=?_) rfl ?_ ?_;rotate_left;focus ((intro w hSw;(try dsimp only at hSw);go_simp);try with_reducible rfl)
  (try simp only [Act.put,zA,zB,zC,zD,zE,zF])
  refine tkH (i:=4) (v:=?_) rfl ?_ ?_;rotate_left;focus ((intro w hSw;(try dsimp only at hSw);go_simp);try with_reducible rfl)
  (try simp only [Act.put,zA,zB,zC,zD,zE,zF])
  refine tkH (i:=5) (v:=?_) rfl ?_ ?_;rotate_left;focus ((intro w hSw;(try dsimp only at hSw);go_simp);try with_reducible rfl)
  (try simp only [Act.put,zA,zB,zC,zD,zE,zF])
  refine tkH (i:=6) (v:=?_) rfl ?_ ?_;rotate_left;focus ((intro w hSw;(try dsimp only at hSw);go_simp);try with_reducible rfl)
  (try simp only [Act.put,zA,zB,zC,zD,zE,zF])
  refine tkH (i:=7) (v:=?_) rfl ?_ ?_;rotate_left;focus ((intro w hSw;(try dsimp only at hSw);go_simp);try with_reducible rfl)
  (try simp only [Act.put,zA,zB,zC,zD,zE,zF])
  refine tkH (i:=8) (v:=?_) rfl ?_ ?_;rotate_left;focus ((intro w hSw;(try dsimp only at hSw);have hlk2:=hlk w hSw.2.2;go_simp);try with_reducible rfl)
  (try simp only [Act.put,zA,zB,zC,zD,zE,zF])
  refine tkH (i:=9) (v:=?_) rfl ?_ ?_;rotate_left;focus ((intro w hSw;(try dsimp only at hSw);go_simp);try with_reducible rfl)
  (try simp only [Act.put,zA,zB,zC,zD,zE,zF])
  refine wpAnyH_ready (rs:=[10]) (by kernel_rfl) (by simp) ?_
  refine AllReadyH.cons rfl (fun K hK=>?_) AllReadyH.nil
  go_simp
  refine hK.out _ _ ⟨(World.cell?_of_block (hal _ _ hbxl)).trans cx,(World.cell?_of_block (hal _ _ hpl)).trans cp,hal _ _ hbml⟩ (fun hHeld=>?_)
  clear hK K
  (try simp only [Act.put,zA,zB,zC,zD,zE,zF])
  refine wpAnyH_ready (rs:=[11]) (by kernel_rfl) (by simp) ?_
  refine AllReadyH.cons rfl (fun K hK=>?_) AllReadyH.nil
  refine step_app rfl (.tmp 37) (.tmp 39) _ rfl W2.heap.size 3 i0 _ 1 8 Tryz.underlying65 hi0 hz0 hz1 hz2 rfl (by omega) Ab lb.length cb (lb.map encN) rfl (hO.drew.alloc _) _ 1 1 [[.int .i64 (a : Nat)]] rfl rfl (Rd.newAt (by simp) (by simp)) (fun y hy=>by rw [List.mem_singleton] at hy;subst hy;exact ⟨rfl,by simp [Value.oneCell']⟩) (by unfold maxLen;omega) (by omega) (by simp;omega) ?_
  intro A3b c3b w7b ho7 hg7 hA7
  obtain ⟨w8b,hrun8,hN8,hk8,hi8⟩:=Hback.out a _ w7b A3b c3b (by omega) hg7 ho7 hA7
  have HN8b:=Lib.hid hN8
  have HK8b:=Lib.hid hk8
  have HI8b:=Lib.hid hi8
  clear hN8 hk8 hi8
  refine hK.out _ _ ⟨(World.cell?_of_block (hst _ _ hg7 _ hbxl)).trans cx,(World.cell?_of_block (hst _ _ hg7 _ hpl)).trans cp,hst _ _ hg7 _ hbml⟩ (fun hHeld=>?_)
  clear hK K
  (try simp only [Act.put,zA,zB,zC,zD,zE,zF])
  refine wpAnyH_done (by kernel_rfl) ?_ _
  refine tailQ_end (wpOp_step (i:=12) rfl (fun K hK=>?_))
  go_simp
  refine hK _ _ ?_
  skip
  clear hK K hlk hO hal hst cx cp Hback ho7 hg7 hA7 hrun8 hHeld hszV hln
  skip
  by_cases hR : 65535 < R
  ·have HF:=Lib.hid (fun k=>(gU_two (pre:=pre.map (clR s)) (a:=a) (b:=qq) hR k).trans (HE.out k).symm)
   have hRi : (65535 : Int) < (R : Int):=by omega
   have hwr : IntKind.i64.wrap ((a : Int)+1) = (a : Int)+1:=IntWalk.i64_in _ (by omega)
   clear hR
   gi_wp2_with fail
   obtain ⟨Ac,cc,hlk,hO,hln,hal,hst,hback⟩:=HN8b.out.app (by omega) 0 (by decide) (fun x hx=>HL3.out 0 x hx)
   have Hback:=Lib.hid hback
   obtain ⟨lc,hlc⟩ : ∃ z,z = (addAt (addAt (gU (pre.map (clR s))) 1 a) 0 a) 0:=⟨_,rfl⟩
   rw [← hlc] at hlk hO hln Hback
   have cx:=HN8b.out.cell cx2 hbx
   have cp:=HN8b.out.cell cp2 hpx
   have hszV:=HN8b.out.2.size
   have HLc:=Lib.hid hlc
   clear hback hlc
   refine wpIn_region_last (S:=fun U=>U.cell? ⟨w1.heap.size+1,0,none⟩ = some (.pointer (some ⟨w1.heap.size,0,none⟩))∧U.cell? ⟨w1.heap.size,1,none⟩ = some (.map (some w.heap.size))∧U.heap[w.heap.size]? = w8b.heap[w.heap.size]?) 13 rfl (by kernel_rfl) (by kernel_rfl) (by kernel_rfl) (by kernel_rfl) (fun h=>by obtain ⟨_,_,h⟩:=h;exact h) ⟨cx,cp,rfl⟩ (fun hHeld=>?_)
   simp only [List.dropLast_cons_cons,List.dropLast_singleton]
   refine tkH (i:=0) (v:=?_) rfl ?_ ?_;rotate_left;focus ((intro w hSw;(try dsimp only at hSw);go_simp);try with_reducible rfl)
   (try simp only [Act.put,zA,zC,zD,zE,zF])
   refine tkH (i:=1) (v:=?_) rfl ?_ ?_;rotate_left;focus ((intro w hSw;(try dsimp only at hSw);go_simp);try with_reducible rfl)
   (try simp only [Act.put,zA,zB,zC,zD,zE,zF])
   refine tkH (i:=2) (v:=?_) rfl ?_ ?_;rotate_left;focus ((intro w hSw;(try dsimp only at hSw);go_simp);try with_reducible rfl)
   (try simp only [Act.put,zA,zB,zC,zD,zE,zF])
   refine tkH (i:=3) (v:=?_) rfl ?_ ?_;rotate_left;focus ((intro w hSw;(try dsimp only at hSw);go_simp);try with_reducible rfl)
   (try simp only [Act.put,zA,zB,zC,zD,zE,zF])
   refine tkH (i:=4) (v:=?_) rfl ?_ ?_;rotate_left;focus ((intro w hSw;(try dsimp only at hSw);go_simp);try with_reducible rfl)
   (try simp only [Act.put,zA,zB,zC,zD,zE,zF])
   refine tkH (i:=5) (v:=?_) rfl ?_ ?_;rotate_left;focus ((intro w hSw;(try dsimp only at hSw);go_simp);try with_reducible rfl)
   (try simp only [Act.put,zA,zB,zC,zD,zE,zF])
   refine tkH (i:=6) (v:=?_) rfl ?_ ?_;rotate_left;focus ((intro w hSw;(try dsimp only at hSw);go_simp);try with_reducible rfl)
   (try simp only [Act.put,zA,zB,zC,zD,zE,zF])
   refine tkH (i:=7) (v:=?_) rfl ?_ ?_;rotate_left;focus ((intro w hSw;(try dsimp only at hSw);go_simp);try with_reducible rfl)
   (try simp only [Act.put,zA,zB,zC,zD,zE,zF])
   refine tkH (i:=8) (v:=?_) rfl ?_ ?_;rotate_left;focus ((intro w hSw;(try dsimp only at hSw);have hlk2:=hlk w hSw.2.2;go_simp);try with_reducible rfl)
   (try simp only [Act.put,zA,zB,zC,zD,zE,zF])
   refine tkH (i:=9) (v:=?_) rfl ?_ ?_;rotate_left;focus ((intro w hSw;(try dsimp only at hSw);go_simp);try with_reducible rfl)
   (try simp only [Act.put,zA,zB,zC,zD,zE,zF])
   refine tkH (i:=10) (v:=?_) rfl ?_ ?_;rotate_left;focus ((intro w hSw;(try dsimp only at hSw);go_simp);try with_reducible rfl)
   (try simp only [Act.put,zA,zB,zC,zD,zE,zF])
   refine wpAnyH_ready (rs:=[11]) (by kernel_rfl) (by simp) ?_
   refine AllReadyH.cons rfl (fun K hK=>?_) AllReadyH.nil
   go_simp
   refine hK.out _ _ ⟨(World.cell?_of_block (hal _ _ hbxl)).trans cx,(World.cell?_of_block (hal _ _ hpl)).trans cp,hal _ _ hbml⟩ (fun hHeld=>?_)
   clear hK K
   (try simp only [Act.put,zA,zB,zC,zD,zE,zF])
   refine wpAnyH_ready (rs:=[12]) (by kernel_rfl) (by simp) ?_
   refine AllReadyH.cons rfl (fun K hK=>?_) AllReadyH.nil
   refine step_app rfl (.tmp 51) (.tmp 54) _ rfl W2.heap.size 3 i0 _ 1 8 Tryz.underlying65 hi0 hz0 hz1 hz2 rfl (by omega) Ac lc.length cc (lc.map encN) rfl (hO.drew.alloc _) _ 1 1 [[.int .i64 ((a : Int)+1)]] rfl rfl (Rd.newAt (by simp) (by simp)) (fun y hy=>by rw [List.mem_singleton] at hy;subst hy;exact ⟨rfl,by simp [Value.oneCell']⟩) (by unfold maxLen;omega) (by omega) (by simp;omega) ?_
   intro A3c c3c w7c ho7 hg7 hA7
   obtain ⟨w8c,hrun8,hN8,hk8,hi8⟩:=Hback.out (a+1) _ w7c A3c c3c (by omega) hg7 ho7 hA7
   have HN8c:=Lib.hid hN8
   have HK8c:=Lib.hid hk8
   have HI8c:=Lib.hid hi8
   clear hN8 hk8 hi8
   refine hK.out _ _ ⟨(World.cell?_of_block (hst _ _ hg7 _ hbxl)).trans cx,(World.cell?_of_block (hst _ _ hg7 _ hpl)).trans cp,hst _ _ hg7 _ hbml⟩ (fun hHeld=>?_)
   clear hK K
   (try simp only [Act.put,zA,zB,zC,zD,zE,zF])
   refine wpAnyH_done (by kernel_rfl) ?_ _
   refine tailQ_end (wpOp_step (i:=13) rfl (fun K hK=>?_))
   go_simp
   refine hK _ _ ?_
   skip
   clear hK K hlk hO hal hst cx cp Hback ho7 hg7 hA7 hrun8 hHeld hszV hln
   skip
   gi_wp2
   exact ⟨(HK8a.out.trans HK8b.out).trans HK8c.out,(HI8a.out.trans HI8b.out).trans HI8c.out,(HN8c.out.congr HF.out).mono (by simp;omega)⟩
  ·have HF:=Lib.hid (fun k=>(gU_one (pre:=pre.map (clR s)) (a:=a) (b:=qq) hR k).trans (HE.out k).symm)
   have hRi : ¬ (65535 : Int) < (R : Int):=by omega
   clear hR
   gi_wp2
   exact ⟨HK8a.out.trans HK8b.out,HI8a.out.trans HI8b.out,(HN8b.out.congr HF.out).mono (by simp;omega)⟩
 case done =>
  rintro D ys W hD hys hN hK
  have HN : Hid (Nw W2 w.heap.size (3*(runesP s).length) (gB s 0) W):=Lib.hid (by rw [hys,clR_runes] at hN;exact hN.congr (gB_first s))
  clear hN hys
  have hszW:=HN.out.2.size
  obtain ⟨N,HNe⟩ : ∃ N,Hid ((runesP s).length = N):=⟨_,Lib.hid rfl⟩
  rw [HNe.out] at HN hrl
  obtain ⟨Z,HZ⟩ : ∃ Z,Hid (s.size = Z):=⟨_,Lib.hid rfl⟩
  rw [HZ.out] at hrl hs
  have hB2c : Below w.heap.size w W2:=hB2
  have HK:=Lib.hid hK
  clear hK hB2
  go_wp2_with fail
  rw [HZ.out]
  go_loopw [58] (fun u wr=>∃ (i : Nat),u = .int .i64 i∧i≤Z∧Hid (Nw W2 w.heap.size (3*N+i) (gB s i) wr)∧wr.heap[D]? = some (.deferred (some []))) (fun u _=>Z - (intOf u).toNat)
  case atStart=>exact ⟨0,rfl,by omega,HN,HK.out⟩
  case round =>
   obtain ⟨i,rfl,hi,HNi,hKi⟩:=hrel
   have hKd:=Lib.hid hKi
   clear hKi
   by_cases hlt : i < Z
   ·have HG:=Lib.hid (gB_more s i)
    go_wp2_with fail
    obtain ⟨Ad,cd,hlk,hO,hln,hal,hst,hback⟩:=HNi.out.app (by omega) 2 (by decide) (fun x hx=>by have:=gB_le (s:=s) (i:=i) (by rw [HZ.out];omega) 2 x hx;rw [HZ.out] at this;omega)
    have Hback:=Lib.hid hback
    obtain ⟨ld,hld⟩ : ∃ z,z = (gB s i) 2:=⟨_,rfl⟩
    rw [← hld] at hlk hO hln Hback
    have cx:=HNi.out.cell cx2 hbx
    have cp:=HNi.out.cell cp2 hpx
    have hszV:=HNi.out.2.size
    have HLd:=Lib.hid hld
    clear hback hld
    refine wp_region_noPanic ?_
    refine wp_region_last (S:=fun U=>U.cell? ⟨w1.heap.size+1,0,none⟩ = some (.pointer (some ⟨w1.heap.size,0,none⟩))∧U.cell? ⟨w1.heap.size,1,none⟩ = some (.map (some w.heap.size))∧U.heap[w.heap.size]? = wr.heap[w.heap.size]?) 12 rfl (by kernel_rfl) (by kernel_rfl) (by kernel_rfl) ⟨cx,cp,rfl⟩ (fun hHeld=>?_)
    simp only [List.dropLast_cons_cons,List.dropLast_singleton]
    refine tkH (i:=0) (v:=?_) rfl ?_ ?_;rotate_left;focus ((intro w hSw;(try dsimp only at hSw);go_simp);try with_reducible rfl)
    (try simp only [Act.put,zA,zC,zD,zE,zF])
    refine tkH (i:=1) (v:=?_) rfl ?_ ?_;rotate_left;focus ((intro w hSw;(try dsimp only at hSw);go_simp);try with_reducible rfl)
    (try simp only [Act.put,zA,zB,zC,zD,zE,zF])
    refine tkH (i:=2) (v:=?_) rfl ?_ ?_;rotate_left;focus ((intro w hSw;(try dsimp only at hSw);go_simp);try with_reducible rfl)
    (try simp only [Act.put,zA,zB,zC,zD,zE,zF])
    refine tkH (i:=3) (v:=?_) rfl ?_ ?_;rotate_left;focus ((intro w hSw;(try dsimp only at hSw);go_simp);try with_reducible rfl)
    (try simp only [Act.put,zA,zB,zC,zD,zE,zF])
    refine tkH (i:=4) (v:=?_) rfl ?_ ?_;rotate_left;focus ((intro w hSw;(try dsimp only at hSw);go_simp);try with_reducible rfl)
    (try simp only [Act.put,zA,zB,zC,zD,zE,zF])
    refine tkH (i:=5) (v:=?_) rfl ?_ ?_;rotate_left;focus ((intro w hSw;(try dsimp only at hSw);go_simp);try with_reducible rfl)
    (try simp only [Act.put,zA,zB,zC,zD,zE,zF])
    refine tkH (i:=6) (v:=?_) rfl ?_ ?_;rotate_left;focus ((intro w hSw;(try dsimp only at hSw);go_simp);try with_reducible rfl)
    (try simp only [Act.put,zA,zB,zC,zD,zE,zF])
    refine tkH (i:=7) (v:=?_) rfl ?_ ?_;rotate_left;focus ((intro w hSw;(try dsimp only at hSw);go_simp);try with_reducible rfl)
    (try simp only [Act.put,zA,zB,zC,zD,zE,zF])
    refine tkH (i:=8) (v:=?_) rfl ?_ ?_;rotate_left;focus ((intro w hSw;(try dsimp only at hSw);have hlk2:=hlk w hSw.2.2;go_simp);try with_reducible rfl)
    (try simp only [Act.put,zA,zB,zC,zD,zE,zF])
    refine tkH (i:=9) (v:=?_) rfl ?_ ?_;rotate_left;focus ((intro w hSw;(try dsimp only at hSw);go_simp);try with_reducible rfl)
    (try simp only [Act.put,zA,zB,zC,zD,zE,zF])
    refine wpAnyH_ready (rs:=[10]) (by kernel_rfl) (by simp) ?_
    refine AllReadyH.cons rfl (fun K hK=>?_) AllReadyH.nil
    go_simp
    refine hK.out _ _ ⟨(World.cell?_of_block (hal _ _ hbxl)).trans cx,(World.cell?_of_block (hal _ _ hpl)).trans cp,hal _ _ hbml⟩ (fun hHeld=>?_)
    clear hK K
    (try simp only [Act.put,zA,zB,zC,zD,zE,zF])
    refine wpAnyH_ready (rs:=[11]) (by kernel_rfl) (by simp) ?_
    refine AllReadyH.cons rfl (fun K hK=>?_) AllReadyH.nil
    refine step_app rfl (.tmp 69) (.tmp 71) _ rfl W2.heap.size 3 i0 _ 1 8 Tryz.underlying65 hi0 hz0 hz1 hz2 rfl (by omega) Ad ld.length cd (ld.map encN) rfl (hO.drew.alloc _) _ 1 1 [[.int .i64 (i : Nat)]] rfl rfl (Rd.newAt (by simp) (by simp)) (fun y hy=>by rw [List.mem_singleton] at hy;subst hy;exact ⟨rfl,by simp [Value.oneCell']⟩) (by unfold maxLen;omega) (by omega) (by simp;omega) ?_
    intro A3d c3d w7d ho7 hg7 hA7
    obtain ⟨w8d,hrun8,hN8,hk8,hi8⟩:=Hback.out i _ w7d A3d c3d (by omega) hg7 ho7 hA7
    have HN8d:=Lib.hid hN8
    have HK8d:=Lib.hid hk8
    have HI8d:=Lib.hid hi8
    clear hN8 hk8 hi8
    refine hK.out _ _ ⟨(World.cell?_of_block (hst _ _ hg7 _ hbxl)).trans cx,(World.cell?_of_block (hst _ _ hg7 _ hpl)).trans cp,hst _ _ hg7 _ hbml⟩ (fun hHeld=>?_)
    clear hK K
    (try simp only [Act.put,zA,zB,zC,zD,zE,zF])
    refine wpAnyH_done (by kernel_rfl) ?_ _
    refine tailQ_end (wpOp_step (i:=12) rfl (fun K hK=>?_))
    go_simp
    refine hK _ _ ?_
    refine NoPanic.normal ?_
    clear hK K hlk hO hal hst cx cp Hback ho7 hg7 hA7 hrun8 hHeld hszV hln
    skip
    have hK9:=HK8d.out.same D _ hD hKd.out rfl
    go_wp2
    go_roundw
    case rel=>exact ⟨i+1,by go_num,by omega,Lib.hid (HN8d.out.congr HG.out),hK9⟩
    case measure=>simp [intOf];omega
   ·obtain rfl : i = Z:=by omega
    go_wp2_with fail
    obtain ⟨Ae,ce,hlk,hO,hln,h00,hback⟩:=HNi.out.look (by unfold maxLen;omega) 3 (by decide)
    have Hback:=Lib.hid hback
    have H00:=Lib.hid h00
    have cx:=HNi.out.cell cx2 hbx
    have cp:=HNi.out.cell cp2 hpx
    have hszV:=HNi.out.2.size
    have hBV : Below w.heap.size w wr:=hB2c.grown HNi.out.2 (by have:=hB2c.size;omega) (fun k hk=>by injection hk with hk;omega)
    have HB:=Lib.hid (qbegins_any s wr.drew (hE.below (hBV.drew)) (by rw [HZ.out];omega))
    clear hback h00 hlk hO hln
    refine wp_region_noPanic ?_
    refine wp_region_last (S:=fun U=>U.cell? ⟨w1.heap.size+1,0,none⟩ = some (.pointer (some ⟨w1.heap.size,0,none⟩))∧U.cell? ⟨w1.heap.size,1,none⟩ = some (.map (some w.heap.size))∧U.heap[w.heap.size]? = wr.heap[w.heap.size]?) 6 rfl (by kernel_rfl) (by kernel_rfl) (by kernel_rfl) ⟨cx,cp,rfl⟩ (fun hHeld=>?_)
    simp only [List.dropLast_cons_cons,List.dropLast_singleton]
    refine tkH (i:=0) (v:=?_) rfl ?_ ?_;rotate_left;focus ((intro w hSw;(try dsimp only at hSw);go_simp);try with_reducible rfl)
    (try simp only [Act.put,zA,zC,zD,zE,zF])
    refine tkH (i:=1) (v:=?_) rfl ?_ ?_;rotate_left;focus ((intro w hSw;(try dsimp only at hSw);go_simp);try with_reducible rfl)
    (try simp only [Act.put,zA,zB,zC,zD,zE,zF])
    refine tkH (i:=2) (v:=?_) rfl ?_ ?_;rotate_left;focus ((intro w hSw;(try dsimp only at hSw);go_simp);try with_reducible rfl)
    (try simp only [Act.put,zA,zB,zC,zD,zE,zF])
    refine tkH (i:=3) (v:=?_) rfl ?_ ?_;rotate_left;focus ((intro w hSw;(try dsimp only at hSw);go_simp);try with_reducible rfl)
    (try simp only [Act.put,zA,zB,zC,zD,zE,zF])
    refine tkH (i:=4) (v:=?_) rfl ?_ ?_;rotate_left;focus ((intro w hSw;(try dsimp only at hSw);go_simp);try with_reducible rfl)
    (try simp only [Act.put,zA,zB,zC,zD,zE,zF])
    refine wpAnyH_ready (rs:=[5]) (by kernel_rfl) (by simp) ?_
    refine AllReadyH.cons rfl (fun K hK=>?_) AllReadyH.nil
    go_simp
    refine HB.out.mono ?_
    rintro e wz ⟨A',n',c',rfl,ho',hb'⟩
    have hbz : Below wr.heap.size wr wz:=((Below.refl wr.heap.size wr).drew).trans hb'
    have hnl : n' = (letS s).length:=by have:=ho'.len;rwa [List.length_map,eq_comm] at this
    have hll:=letS_len s
    have hlp:=letS_pos (s:=s)
    rw [HZ.out] at hll hlp
    have hpos : 3*N+i = 0∨0 < n':=by omega
    clear hnl hlp
    obtain ⟨w8e,hrun8,hN8,_,hk8,hi8⟩:=Hback.out wz A' n' c' (letS s) ⟨hbz.os,hbz.tape,hbz.output,hbz.size,fun k hk _=>hbz.block k hk⟩ (ho'.more (by exact hszV)) (fun x hx=>by have:=beg_lt s 3 x hx;rw [HZ.out] at this;omega) (by omega) (hloc_of H00.out ho' (by exact Nat.le_refl _) hpos)
    have HN8:=Lib.hid hN8
    have HK8:=Lib.hid hk8
    clear hN8 hk8 hi8 hpos
    refine hK.out _ _ ⟨cell_keep cx hbz,cell_keep cp hbz,hbz.block _ (by have:=hbml;omega)⟩ (fun hHeld=>?_)
    clear hK K
    (try simp only [Act.put,zA,zB,zC,zD,zE,zF])
    refine wpAnyH_done (by kernel_rfl) ?_ _
    refine tailQ_end (wpOp_step (i:=6) rfl (fun K hK=>?_))
    go_simp
    refine hK _ _ ?_
    refine NoPanic.normal ?_
    have hK9:=HK8.out.same D _ hD hKd.out rfl
    have cx9:=HN8.out.cell cx2 hbx
    have hB9 : Below w.heap.size w w8e:=hB2c.grown HN8.out.2 (by have:=hB2c.size;omega) (fun k hk=>by injection hk with hk;omega)
    clear hK K Hback ho' hrun8 hHeld hszV cx cp hb' hbz hBV
    go_wp2
    refine ⟨by simp,.inl ⟨_,_,rfl,run_takeDeferred hK9,?_⟩⟩
    have HNf:=(nw_own (α:=Unit) (n:=fun _=>3*N+i+1) (g:=fun _ k=>if k = 3 then letS s else gB s i k) (Nat.le_refl _) hbml).putObj (s:=[]) (.deferred none) HN8.out hD hK9 rfl
    refine ⟨_,results_tmp rfl _ _ _,w1.heap.size,rfl,idx_of_nw HBp.out hpx HLn.out HM2.out HNf (fun k=>by rw [← HZ.out];exact gB_end s k) (by omega),?_⟩
    exact hB2c.grown HNf.2 (by have:=hB2c.size;omega) (fun k hk=>by injection hk with hk;omega)
end
section
open Go.RowKit
def liveT : ByteArray:=⟨#[97,195,169,240,159,152,128,13,10,120]⟩
theorem liveT_unit : (begP liveT 0).length = 7:=by kernel_rfl
theorem liveT_letter : (begP liveT 3).length = 5:=by kernel_rfl
theorem liveT_to : toP liveT 0 5 = 4:=by kernel_rfl
theorem liveT_from : fromQ liveT 0 3 = 4:=by kernel_rfl
theorem liveT_line : lnAt liveT 0 = (0,7,9):=by kernel_rfl
theorem liveT_point : pointP liveT 8 = (0,3):=by kernel_rfl
theorem liveT_at : atP liveT 1 0 = 9:=by kernel_rfl
theorem qlive17_any (w : World) (hE : Env w) : Calls Tryz.prog 13 #[] w fun e w'=>e = .returned (.bool true)∧Below w.heap.size w w':=by
 have hs : liveT.size≤100000:=by decide
 have hs2 : liveT.size≤1000000:=by decide
 have H1:=Lib.hid (qNew_any liveT w hE hs)
 have H2:=Lib.hid (fun p W (h : IdxAt W p liveT)=>qLine_any p liveT 0 W h)
 have H3:=Lib.hid (fun p W (h : IdxAt W p liveT)=>qLen_any p liveT 0 W h (by decide))
 have H4:=Lib.hid (fun p W (h : IdxAt W p liveT)=>qLen_any p liveT 3 W h (by decide))
 have H5:=Lib.hid (fun p W (h : IdxAt W p liveT)=>qTo_any p liveT 0 5 W h (by decide) hs2)
 have H6:=Lib.hid (fun p W (h : IdxAt W p liveT)=>qFrom_any p liveT 0 3 W h (by decide))
 have H7:=Lib.hid (fun p W (h : IdxAt W p liveT)=>qPoint_any p liveT 8 W h hs2)
 have H8:=Lib.hid (fun p W (h : IdxAt W p liveT)=>qAt_any p liveT 1 0 W h)
 simp only [liveT_line] at H2
 simp only [liveT_unit] at H3
 simp only [liveT_letter] at H4
 simp only [liveT_to] at H5
 simp only [liveT_from] at H6
 simp only [liveT_point] at H7
 simp only [liveT_at] at H8
 unfold liveT at H1
 go_enter Tryz.func13,Tryz.ntmps13
 go_wp2_with fail
 refine H1.out.mono ?_
 rintro e w1 ⟨p,rfl,hI1,hb1⟩
 go_wp2_with fail
 refine (H2.out p w1 hI1).mono ?_
 rintro e w2 ⟨rfl,hb2⟩
 have hB2:=below_two hb1 hb2
 have hI2 : IdxAt w2 p liveT:=hI1.below hb2
 go_wp2_with fail
 refine (H3.out p w2 hI2).mono ?_
 rintro e w3 ⟨rfl,rfl⟩
 go_wp2_with fail
 refine (H4.out p w2 hI2).mono ?_
 rintro e w3 ⟨rfl,rfl⟩
 go_wp2_with fail
 refine (H5.out p w2 hI2).mono ?_
 rintro e w3 ⟨rfl,hb3⟩
 have hB3:=below_two hB2 hb3
 have hI3:=hI2.below hb3
 go_wp2_with fail
 refine (H6.out p w3 hI3).mono ?_
 rintro e w4 ⟨rfl,rfl⟩
 go_wp2_with fail
 refine (H7.out p w3 hI3).mono ?_
 rintro e w5 ⟨rfl,hb5⟩
 have hB5:=below_two hB3 hb5
 have hI5:=hI3.below hb5
 go_wp2_with fail
 refine (H8.out p w5 hI5).mono ?_
 rintro e w6 ⟨rfl,hb6⟩
 have hB6:=below_two hB5 hb6
 go_wp2
 go_ret
 exact ⟨rfl,hB6⟩
end
section
open Go.RowKit
def moveP (a f t l : Int) (stay : Bool) : Int:=if t < f∨l < 0∨a < f then a else if a > t then a - (t - f)+l else if stay then f else f+l
theorem qMove_any (a f t l : Int) (stay : Bool) (w : World) (ha : -1099511627776≤a∧a≤1099511627776) (hf : -1099511627776≤f∧f≤1099511627776) (ht : -1099511627776≤t∧t≤1099511627776) (hl : l≤1099511627776) :
  Calls Tryz.prog 22 #[.int .i64 a,.int .i64 f,.int .i64 t,.int .i64 l,.bool stay] w fun e w'=>e = .returned (.int .i64 (moveP a f t l stay))∧w = w':=by
 obtain ⟨a1,a2⟩:=ha
 obtain ⟨f1,f2⟩:=hf
 obtain ⟨t1,t2⟩:=ht
 by_cases h1 : t < f
 ·have HV : Hid (moveP a f t l stay = a):=Lib.hid (if_pos (.inl h1))
  go_enter Tryz.func22,Tryz.ntmps22
  go_wp2
  go_ret
  exact ⟨by rw [HV.out];rfl,rfl⟩
 by_cases h2 : l < 0
 ·have HV : Hid (moveP a f t l stay = a):=Lib.hid (if_pos (.inr (.inl h2)))
  go_enter Tryz.func22,Tryz.ntmps22
  go_wp2
  go_ret
  exact ⟨by rw [HV.out];rfl,rfl⟩
 by_cases h3 : a < f
 ·have HV : Hid (moveP a f t l stay = a):=Lib.hid (if_pos (.inr (.inr h3)))
  go_enter Tryz.func22,Tryz.ntmps22
  go_wp2
  go_ret
  exact ⟨by rw [HV.out];rfl,rfl⟩
 have HN : Hid (moveP a f t l stay = if a > t then a - (t - f)+l else if stay then f else f+l):=Lib.hid (if_neg (by omega))
 by_cases h4 : a > t
 ·have HV : Hid (moveP a f t l stay = a - (t - f)+l):=Lib.hid (HN.out.trans (if_pos h4))
  go_enter Tryz.func22,Tryz.ntmps22
  go_wp2
  go_ret
  exact ⟨by rw [HV.out];rfl,rfl⟩
 cases stay with
 | true =>
  have HV : Hid (moveP a f t l true = f):=Lib.hid ((HN.out.trans (if_neg h4)).trans (if_pos rfl))
  go_enter Tryz.func22,Tryz.ntmps22
  go_wp2
  go_ret
  exact ⟨by rw [HV.out];rfl,rfl⟩
 | false =>
  have HV : Hid (moveP a f t l false = f+l):=Lib.hid ((HN.out.trans (if_neg h4)).trans (if_neg (by decide)))
  go_enter Tryz.func22,Tryz.ntmps22
  go_wp2
  go_ret
  exact ⟨by rw [HV.out];rfl,rfl⟩
end
section
open Go.RowKit
theorem qMoveR_any (a f t l : Int) (stay : Bool) (w : World) (ha : -1099511627776≤a∧a≤1099511627776) (hf : -1099511627776≤f∧f≤1099511627776) (ht : -1099511627776≤t∧t≤1099511627776) (hl : l≤1099511627776) :
  Calls Tryz.prog 23 #[.int .i64 a,.int .i64 f,.int .i64 t,.int .i64 l,.bool stay] w fun e w'=>e = .returned (.int .i64 (moveP a f t l stay))∧w = w':=by
 obtain ⟨a1,a2⟩:=ha
 obtain ⟨f1,f2⟩:=hf
 obtain ⟨t1,t2⟩:=ht
 by_cases h1 : t < f
 ·have HV : Hid (moveP a f t l stay = a):=Lib.hid (if_pos (.inl h1))
  go_enter Tryz.func23,Tryz.ntmps23
  go_wp2
  go_ret
  exact ⟨by rw [HV.out];rfl,rfl⟩
 by_cases h2 : l < 0
 ·have HV : Hid (moveP a f t l stay = a):=Lib.hid (if_pos (.inr (.inl h2)))
  go_enter Tryz.func23,Tryz.ntmps23
  go_wp2
  go_ret
  exact ⟨by rw [HV.out];rfl,rfl⟩
 by_cases h3 : a < f
 ·have HV : Hid (moveP a f t l stay = a):=Lib.hid (if_pos (.inr (.inr h3)))
  go_enter Tryz.func23,Tryz.ntmps23
  go_wp2
  go_ret
  exact ⟨by rw [HV.out];rfl,rfl⟩
 have HN : Hid (moveP a f t l stay = if a > t then a - (t - f)+l else if stay then f else f+l):=Lib.hid (if_neg (by omega))
 by_cases h4 : a > t
 ·have HV : Hid (moveP a f t l stay = a - (t - f)+l):=Lib.hid (HN.out.trans (if_pos h4))
  go_enter Tryz.func23,Tryz.ntmps23
  go_wp2
  go_ret
  exact ⟨by rw [HV.out];rfl,rfl⟩
 cases stay with
 | true =>
  have HV : Hid (moveP a f t l true = f):=Lib.hid ((HN.out.trans (if_neg h4)).trans (if_pos rfl))
  go_enter Tryz.func23,Tryz.ntmps23
  go_wp2
  go_ret
  exact ⟨by rw [HV.out];rfl,rfl⟩
 | false =>
  have HV : Hid (moveP a f t l false = f+l):=Lib.hid ((HN.out.trans (if_neg h4)).trans (if_neg (by decide)))
  go_enter Tryz.func23,Tryz.ntmps23
  go_wp2
  go_ret
  exact ⟨by rw [HV.out];rfl,rfl⟩
theorem qPlacesMove_any (a f t l : Int) (stay : Bool) (w : World) (hE : Env w) :
  Calls Tryz.prog 4 #[.int .i64 a,.int .i64 f,.int .i64 t,.int .i64 l,.bool stay] w fun e w'=>e = .returned (.bool true)∧Below w.heap.size w w':=by
 have HL:=Lib.hid (qlive17_any w hE)
 by_cases a1 : a > 1099511627776
 ·go_enter Tryz.func4,Tryz.ntmps4
  go_wp2_with fail
  refine HL.out.mono ?_
  rintro e w1 ⟨rfl,hb⟩
  go_wp2
  go_ret
  exact ⟨rfl,hb⟩
 by_cases a2 : a < -1099511627776
 ·go_enter Tryz.func4,Tryz.ntmps4
  go_wp2_with fail
  refine HL.out.mono ?_
  rintro e w1 ⟨rfl,hb⟩
  go_wp2
  go_ret
  exact ⟨rfl,hb⟩
 by_cases f1 : f > 1099511627776
 ·go_enter Tryz.func4,Tryz.ntmps4
  go_wp2_with fail
  refine HL.out.mono ?_
  rintro e w1 ⟨rfl,hb⟩
  go_wp2
  go_ret
  exact ⟨rfl,hb⟩
 by_cases f2 : f < -1099511627776
 ·go_enter Tryz.func4,Tryz.ntmps4
  go_wp2_with fail
  refine HL.out.mono ?_
  rintro e w1 ⟨rfl,hb⟩
  go_wp2
  go_ret
  exact ⟨rfl,hb⟩
 by_cases t1 : t > 1099511627776
 ·go_enter Tryz.func4,Tryz.ntmps4
  go_wp2_with fail
  refine HL.out.mono ?_
  rintro e w1 ⟨rfl,hb⟩
  go_wp2
  go_ret
  exact ⟨rfl,hb⟩
 by_cases t2 : t < -1099511627776
 ·go_enter Tryz.func4,Tryz.ntmps4
  go_wp2_with fail
  refine HL.out.mono ?_
  rintro e w1 ⟨rfl,hb⟩
  go_wp2
  go_ret
  exact ⟨rfl,hb⟩
 by_cases l1 : l > 1099511627776
 ·go_enter Tryz.func4,Tryz.ntmps4
  go_wp2_with fail
  refine HL.out.mono ?_
  rintro e w1 ⟨rfl,hb⟩
  go_wp2
  go_ret
  exact ⟨rfl,hb⟩
 have HA:=Lib.hid (qMove_any a f t l stay w (by omega) (by omega) (by omega) (by omega))
 have HB:=Lib.hid (qMoveR_any a f t l stay w (by omega) (by omega) (by omega) (by omega))
 generalize moveP a f t l stay = v at HA HB
 go_enter Tryz.func4,Tryz.ntmps4
 go_wp2_with fail
 refine HA.out.mono ?_
 rintro e w1 ⟨rfl,rfl⟩
 go_wp2_with fail
 refine HB.out.mono ?_
 rintro e w1 ⟨rfl,rfl⟩
 go_wp2_with fail
 refine HL.out.mono ?_
 rintro e w1 ⟨rfl,hb⟩
 go_wp2
 go_ret
 exact ⟨rfl,hb⟩
end
end Go.Proofs.YtlfpdpbbkjnapaaGreatDoor
