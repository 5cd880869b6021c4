/-
 Several texts in one,in their build order: PlcB,PlcC,PlcK1,PlcK2,PlcK3,PrH.
-/
import Derived.Test.YtlfpdpbbkjnapaaGreatDoorYPlacesTellsGo
import Derived.Test.YtlfpdpbbkjnapaaGreatDoorYPlacesTells0a
import Derived.Test.YtlfpdpbbkjnapaaGreatDoorYPlacesTells0b
import Derived.Test.YtlfpdpbbkjnapaaGreatDoorYPlacesTellsPrF
import Derived.Test.YtlfpdpbbkjnapaaGreatDoorYPlacesTells2a
/- -/
namespace Go.Proofs.YtlfpdpbbkjnapaaGreatDoor
set_option maxRecDepth 100000
set_option maxHeartbeats 40000000
section
open Go.RowKit Go.Shelf
attribute [local go_sem] Oper.semAt_some
def ptB (W : World) (ab : Nat) : Option Nat:=match W.cell? ⟨ab,0,none⟩ with
 | some (.slice (some a) _ _)=>some a.block
 | _=>none
def KBox (t : TypeId) (ab : Nat) (A B : World) : Prop :=
 A.heap.size≤B.heap.size∧(∀ (k : Nat) (cur : Array Value) (fz : Nat × Nat),ptB A ab ≠ some k→A.heap[k]? = some (.cells cur t fz)→B.heap[k]? = some (.cells cur t fz))∧(ptB B ab = ptB A ab∨∃ k,ptB B ab = some k∧A.heap.size≤k)
section
variable {t : TypeId} {ab : Nat} {A B C : World}
theorem ptB_of {W : World} {ab : Nat} (h : W.heap[ab]? = A.heap[ab]?) : ptB W ab = ptB A ab:=by
 unfold ptB
 rw [World.cell?_of_block h]
theorem ptB_below (h : Below A.heap.size A B) (hab : ab < A.heap.size) : ptB B ab = ptB A ab:=ptB_of (h.block ab hab)
theorem KBox.refl (t : TypeId) (ab : Nat) (W : World) : KBox t ab W W:=⟨Nat.le_refl _,fun _ _ _ _ h=>h,.inl rfl⟩
theorem KBox.trans (h : KBox t ab A B) (k : KBox t ab B C) : KBox t ab A C:=by
 refine ⟨Nat.le_trans h.1 k.1,fun i cur fz hi hA=>k.2.1 i cur fz (fun e=>?_) (h.2.1 i cur fz hi hA),?_⟩
 ·have hlt:=(Array.getElem?_eq_some_iff.1 hA).1
  rcases h.2.2 with h1 | ⟨q,h1,h2⟩
  ·exact hi (h1 ▸ e)
  ·rw [h1] at e;injection e with e;omega
 ·rcases k.2.2 with k1 | ⟨q,k1,k2⟩
  ·rcases h.2.2 with h1 | ⟨p,h1,h2⟩
   ·exact .inl (k1.trans h1)
   ·exact .inr ⟨p,k1.trans h1,h2⟩
  ·exact .inr ⟨q,k1,Nat.le_trans h.1 k2⟩
theorem KBox.put (W : World) (l : Nat) (o o' : Obj) (hl : ab ≠ l) (h : W.heap[l]? = some o) (hc : o.isCells = false) : KBox t ab W (W.putObj l o') :=
 ⟨by simp,fun k c z _ hk=>by
  by_cases e : k = l
  ·subst e;rw [h] at hk;cases hk;cases hc
  ·exact (World.putObj_heap_other e).trans hk,.inl (ptB_of (World.putObj_heap_other hl))⟩
theorem KBox.own {base : Nat} {s : Nat} {P : Option Addr} {n c : Nat} {cs : List (List Value)} (h : KBox t ab A B) (ho : Own A base t s P n c cs) (hP : ∀ a,P = some a→ptB A ab ≠ some a.block) : Own B base t s P n c cs:=by
 refine ho.keep fun a ha=>?_
 rcases ho.2.2.2 with ⟨h0,_⟩ | ⟨g,cap,cur,hv,hg,hh,_⟩
 ·injection h0 with h0;rw [h0] at ha;cases ha
 ·injection hv with hv
  have hpa:=hP a ha
  rw [hv] at ha
  injection ha with ha
  subst ha
  exact (h.2.1 _ _ _ hpa hh).trans hh.symm
theorem KBox.apart (h : KBox t ab A B) {k : Nat} (hk : ptB A ab ≠ some k) (hlt : k < A.heap.size) : ptB B ab ≠ some k:=by
 rcases h.2.2 with h1 | ⟨q,h1,h2⟩
 ·rwa [h1]
 ·rw [h1];intro e;injection e with e;omega
theorem ptB_blk {W : World} {vt : TypeId} {P : Option Addr} {n c : Nat} (h : Blk W ab vt #[.slice P n c]) : ptB W ab = P.map (·.block):=by
 have c0:=h.cell 0
 simp only [zG,zH] at c0
 unfold ptB
 rw [c0]
 cases P <;> rfl
theorem KBox.step {W V : World} {vt : TypeId} {P P3 : Option Addr} {n c n3 c3 : Nat} (hB : Blk W ab vt #[.slice P n c]) (ht : vt ≠ t) (hV : W.grownBy V (P.map (·.block))) (hne : some ab ≠ P.map (·.block))
  (h3 : P3 = P∨∃ k,P3 = some ⟨k,0,none⟩∧W.heap.size≤k) : KBox t ab W (V.setCell ⟨ab,0,none⟩ (.slice P3 n3 c3)):=by
 have hBV : Blk V ab vt #[.slice P n c]:=(hV.block ab hB.lt hne).trans hB
 have hB3 : Blk (V.setCell ⟨ab,0,none⟩ (.slice P3 n3 c3)) ab vt #[.slice P3 n3 c3]:=by
  have:=hBV.set_ 0 (.slice P3 n3 c3)
  simpa using this
 refine ⟨by simpa [World.setCell] using hV.size,fun k cur fz hk hh=>?_,?_⟩
 ·have hkab : k ≠ ab:=by
   rintro rfl
   have h2 : W.heap[k]? = some _:=hB
   rw [h2] at hh
   injection hh with hh
   injection hh with _ hh
   exact ht hh
  refine (Below.heap_setCell V ⟨ab,0,none⟩ _ k hkab).trans ((hV.block k (Array.getElem?_eq_some_iff.1 hh).1 (fun e=>?_)).trans hh)
  exact hk ((ptB_blk hB).trans e.symm)
 ·rw [ptB_blk hB3,ptB_blk hB]
  rcases h3 with rfl | ⟨k,rfl,hk⟩
  ·exact .inl rfl
  ·exact .inr ⟨k,rfl,hk⟩
end
theorem gEach_seqB (n : Nat) (hn : 1≤n) (w : World) (s : ByteArray) (bs ab : Nat) (hab : ab < w.heap.size) (hpt : ptB w ab = none) (hE : Env w) (hs : s.size≤1000000) (h : w.cell? ⟨bs,0,none⟩ = some (.string s)) :
  SeqStopsK Fence.wide n Tryz.prog 106 #[.pointer (some ⟨bs,0,none⟩)] (encCl s) (KBox 3 ab) (fun ys=>ys = piecesF (boundsG gG s)) (fun pre=>pre <+: piecesF (boundsG gG s)) (piecesF (boundsG gG s)).length w:=by
 intro l J Jx W hW hJ _ hY h0
 have hc1 : W.cell? ⟨bs,0,none⟩ = some (.string s):=cell_keep h hW
 have hWz:=hW.size
 have habW : ab < W.heap.size:=Nat.lt_of_lt_of_le hab hWz
 have hpW : ptB W ab = none:=(ptB_below hW hab).trans hpt
 have HB:=Lib.hid (gBounds_any s W (hE.below hW) hs)
 have HL:=Lib.hid (bounds_len s)
 have HP:=Lib.hid (piecesF_le (bounds_rise gG s) (bounds_le gG s))
 clear hE h
 refine callsIn_of_wp Tryz.func106 rfl trivial ?_ rfl
 simp only [Tryz.ntmps106,List.size_toArray,List.length_cons,List.length_nil,Nat.reduceAdd,Nat.reduceSub,Array.replicate_succ,Array.replicate_zero,List.push_toArray,List.append_toArray,List.nil_append,List.cons_append]
 refine wpIn_wide.2 ?_
 go_wp2_with fail
 refine HB.out.mono ?_
 rintro e w1 ⟨A,m,c,rfl,ho,hb1⟩
 have hJ1 : J [] w1:=abides_below hJ h0 hb1
 have HP1 : Hid (ptB w1 ab = none):=Lib.hid ((ptB_below hb1 habW).trans hpW)
 have hm : (boundsG gG s).length = m:=by have:=ho.len;simpa using this
 have hz : m≤1000001:=by have:=HL.out;omega
 have Hm:=Lib.hid hm
 clear hm
 go_wp2_with fail
 refine (wpIn_wide (n:=n)).1 ?_
 gi_loopw [4] (fun v wr=>∃ k j : Nat,v = .int .i64 (j : Int)∧Hid (j = k+1)∧(k = 0∨k+1≤m)∧J ((piecesF (boundsG gG s)).take k) wr∧Own wr W.heap.size 3 1 A m c ((boundsG gG s).map encN)∧Hid (∀ a,A = some a→ptB wr ab ≠ some a.block)) (fun v _=>m+1 - (intOf v).toNat)
 case atStart=>exact ⟨0,1,rfl,Lib.hid rfl,.inl rfl,hJ1,ho,Lib.hid (fun a _=>by rw [HP1.out];simp)⟩
 case round =>
  obtain ⟨k,j,rfl,HJ,hk,hJr,hor,HN⟩:=hrel
  by_cases hlt : j < m
  ·have hjm : k+1 < m:=by have:=HJ.out;omega
   have rd:=hor.rd (by decide)
   obtain ⟨x,Hx⟩ : ∃ x,Hid ((boundsG gG s)[k]? = some x):=⟨_,Lib.hid (List.getElem?_eq_getElem (by have:=Hm.out;omega))⟩
   obtain ⟨y,Hy⟩ : ∃ y,Hid ((boundsG gG s)[k+1]? = some y):=⟨_,Lib.hid (List.getElem?_eq_getElem (by have:=Hm.out;omega))⟩
   obtain ⟨b,off,rfl,cx⟩:=Rd.atQ rd Hx.out
   obtain ⟨b',off',e2,cy⟩:=Rd.atQ rd Hy.out
   injection e2 with e2
   injection e2 with e2 e3
   subst e2 e3
   have hat:=piecesF_at _ k x y Hx.out Hy.out
   have hcl : clP s (x,y) = (x,y):=clP_in (HP.out _ (List.mem_of_getElem? hat))
   have hp : (piecesF (boundsG gG s)).take k++[(x,y)] = (piecesF (boundsG gG s)).take (k+1):=by
    rw [List.take_add_one,hat];rfl
   have hlen : ((piecesF (boundsG gG s)).take k).length < (piecesF (boundsG gG s)).length:=by
    rw [List.length_take,piecesF_len,Hm.out];omega
   have e4 : (j : Int) - 1 = (k : Int):=by have:=HJ.out;omega
   have e5 : IntKind.i64.wrap ((j : Int) - 1) = (k : Int):=by rw [e4];exact IntWalk.i64_in _ (by omega)
   have e6 : IntKind.i64.wrap (k : Int) = (k : Int):=IntWalk.i64_in _ (by omega)
   have hk0 : (0 : Int)≤(k : Int):=by omega
   have hkm : (k : Int) < (m : Int):=by omega
   have hkN : k < m:=by omega
   have hjN : j < m:=by omega
   have hj0 : (0 : Int)≤(j : Int):=by omega
   have hj1 : (j : Int) < (m : Int):=by omega
   have cy : wr.cell? ⟨b,off+j,none⟩ = some (.int .i64 (y : Nat)):=by rw [HJ.out];exact cy
   have hYW:=YieldAt.mono (R':=fun e W'=>∃ q : Bool,e = .returned (.bool q)∧(q = true→J ((piecesF (boundsG gG s)).take (k+1)) W'∧KBox 3 ab wr.drew W')∧(q = false→Jx ((piecesF (boundsG gG s)).take (k+1)) W')) (hY _ (x,y) wr.drew (abides_below hJ hJr (Below.refl _ _).drew) hlen) (by
    rw [hp]
    rintro e W' (⟨h1,h2,h3⟩ | ⟨h1,h2⟩)
    ·exact ⟨true,h1,fun _=>⟨h2,h3⟩,fun h=>absurd h (by decide)⟩
    ·exact ⟨false,h1,fun h=>absurd h (by decide),fun _=>h2⟩)
   obtain ⟨fn,tmps,assign,body,hy,hR⟩:=hYW
   dsimp only [encCl] at hy
   rw [hcl] at hy
   dsimp only [encP2] at hy
   clear hat hcl hlen hjm
   have hmx : Tryz.prog.follows .mixedOrders = true:=by kernel_rfl
   gi_wp2_with fail
   gi_region_with_o (refine hR.mono ?_;rintro e W4 ⟨q,rfl,hqt,hqf⟩)
   all_goals
    cases q with
    | true =>
     obtain ⟨hJ4,hk4⟩:=hqt rfl
     gi_wp2_with fail
     go_roundw
     case rel=>exact ⟨k+1,j+1,by go_num,Lib.hid (by rw [HJ.out]),.inr (by have:=HJ.out;omega),hJ4,hk4.own hor HN.out,Lib.hid (fun a ha=>hk4.apart (HN.out a ha) (hor.lt a ha).2)⟩
     case measure=>simp [intOf];omega
    | false =>
     have hJ4:=hqf rfl
     gi_wp2
     refine bodyPost_ret (results_none rfl _ _ _) rfl ?_
     exact ⟨⟨_,rfl⟩,.inr ⟨_,List.take_prefix _ _,hJ4⟩⟩
  ·have hend : (piecesF (boundsG gG s)).take k = piecesF (boundsG gG s):=List.take_of_length_le (by have:=HJ.out;rw [piecesF_len,Hm.out];omega)
   rw [hend] at hJr
   gi_wp2
   go_end0
   first | exact ⟨⟨_,rfl⟩,.inl hJr⟩ | exact ⟨⟨_,rfl⟩,.inl ⟨_,rfl,hJr⟩⟩
theorem pieces_fst : ∀ (L : List Nat),(piecesF L).map (·.1) = L.dropLast
 | []=>rfl
 | [_]=>rfl
 | a :: b :: r=>by
  have:=pieces_fst (b :: r)
  simp only [piecesF,List.map_cons,List.dropLast_cons_cons] at this ⊢
  rw [this]
end
section
open Go.RowKit Go.Shelf
attribute [local go_sem] Oper.semAt_some
def encB (s : ByteArray) (x : Nat × Nat) : List Value:=[.int .i64 ((clP s x).1 : Nat)]
theorem begins_end (s : ByteArray) : (piecesF (boundsG gG s)).map (encB s) = (letS s).map encN:=by
 unfold letS
 rw [← pieces_fst,List.map_map]
 refine List.map_congr_left (fun x hx=>?_)
 have h:=clP_in (s:=s) (piecesF_le (bounds_rise gG s) (bounds_le gG s) x hx)
 simp only [Function.comp,encB,encN,h]
theorem qbegins_any (s : ByteArray) (w : World) (hE : Env w) (hs : s.size≤1000000) : Calls Tryz.prog 53 #[.string s] w fun e w'=>∃ A n c,e = .returned (.slice A n c)∧Own w' w.heap.size 3 1 A n c ((letS s).map encN)∧Below w.heap.size w w':=by
 have HB : Below w.heap.size w (w.alloc (.cells #[.slice none 0 0] 65)):=(Below.refl _ _).alloc (Nat.le_refl _) _
 have B0 : Blk (w.alloc (.cells #[.slice none 0 0] 65)) w.heap.size 65 #[.slice none 0 0]:=Blk.new _ _ _
 refine (callsIn_wide (n:=6)).1 ?_
 refine callsIn_of_wp_marks Tryz.func53 rfl trivial ?_ rfl
 simp only [Tryz.ntmps53,List.size_toArray,List.length_cons,List.length_nil,Nat.reduceAdd,Nat.reduceSub,Array.replicate_succ,Array.replicate_zero,List.push_toArray,List.append_toArray,List.nil_append,List.cons_append]
 refine wpIn_wide.2 ?_
 go_wp2_with fail
 generalize (w.alloc (.cells #[.slice none 0 0] 65)) = w0 at HB B0 ⊢
 refine (gEach_any s w0).mono ?_
 rintro e w1 ⟨bs,rfl,hc,hb⟩
 have B1:=B0.below hb
 have hzb : w.heap.size < w1.heap.size:=B1.lt
 replace HB:=below_two HB hb
 have hpl : (piecesF (boundsG gG s)).length≤s.size+1:=by rw [piecesF_len];have:=bounds_len s;omega
 have hp0 : ptB w1 w.heap.size = none:=ptB_blk B1
 have hE1:=hE.below HB
 clear B0 hb hE
 go_wp2_with fail
 refine (wpIn_wide (n:=6)).1 ?_
 refine rngH rfl (by decide) (gf:=106) (lb:=#[.pointer (some ⟨bs,0,none⟩)]) rfl trivial (enters_of Tryz.func106 (by kernel_rfl) rfl)
  (gEach_seqB 5 (by decide) w1 s bs w.heap.size hzb hp0 hE1 hs hc) (fun h k=>h.trans k) (fun W l o o' hl h hc _=>KBox.put W l o o' (by omega) h hc) (Below.refl _ _) (fun _=>rfl) (fun W=>KBox.refl _ _ W)
  (fun (pre : List (Nat × Nat)) W=>Gat w1 w.heap.size 65 3 (pre.map (encB s)) W) (fun _ _ _=>False) (Gat.own (f:=fun (pre : List (Nat × Nat))=>pre.map (encB s)) (Nat.le_refl _)) (fun _ _ _ _ _ hs _ _=>hs)
  ⟨none,0,0,B1,Own.nil_ _ _ _ _,only_refl _ _⟩
  (fun T x=>((T.setIfInBounds 7 (.int .i64 ((clP s x).1 : Nat))).setIfInBounds 8 (.int .i64 ((clP s x).2 : Nat))).setIfInBounds 4 (.int .i64 ((clP s x).1 : Nat))) ?assign ?body ?done ?stop
 case assign =>
  intro l2 x V K hK
  simp only [zD,zF,zE] at hK
  simp only [encCl,encP2]
  gi_wp2
  exact hK
 case stop =>
  rintro D cc pre W _ hp h _
  exact absurd h id
 case body =>
  rintro l2 pre y W hl2 _ ⟨A9,n9,c9,BaW,oW,hgW⟩ hlen
  simp only [zD,zF,zE]
  obtain ⟨a,ha⟩ : ∃ a,(clP s y).1 = a:=⟨_,rfl⟩
  have HEn : Hid ((pre++[y]).map (encB s) = pre.map (encB s)++[[.int .i64 (a : Nat)]]):=Lib.hid (by rw [List.map_append,List.map_singleton,encB,ha])
  rw [ha]
  generalize (clP s y).2 = b
  obtain ⟨i0,hi0,hz0,hz1,hz2⟩:=info_parts infoInt
  have hl9 : pre.length = n9:=by have h1:=oW.len;simpa using h1
  have hn9 : n9≤1000001:=by omega
  have c10:=BaW.cell 0
  simp only [zG,zH] at c10
  have hzW:=hgW.size
  have hA9:=oW.lt
  have f10:=BaW.frozen 0
  clear hl9 hlen ha
  gi_wp2_with (gi_at_builtin;go_must (refine wpListIn_app rfl (.tmp 9) (.tmp 11) _ rfl w1.heap.size 3 i0 _ 1 8 Tryz.underlying65 hi0 hz0 hz1 hz2 rfl (by omega) A9 n9 c9 (pre.map (encB s)) rfl (oW.alloc _) _ 1 1 [[.int .i64 (a : Nat)]] rfl rfl (Rd.newAt (by simp) rfl) (fun y hy=>by rw [List.mem_singleton] at hy;subst hy;exact ⟨rfl,by simp [Value.oneCell']⟩) (by unfold maxLen;omega) (by omega) (by simp;omega) ?_);intro A3 c3 w3 ho3 hg3 hA3;have B3:=(BaW.alloc (.cells #[.int .i64 (a : Nat)] 3)).grown hg3 (fun e=>by cases A9 with | none=>simp at e | some q=>have:=(hA9 q rfl).1;simp at e;omega);have f3:=B3.frozen 0;have c3b:=B3.cell 0;simp only [zG,zH] at c3b)
  have hV : W.grownBy w3 (A9.map (·.block)):=only_trans (only_alloc (only_refl W _) _) hg3
  obtain ⟨k1,k2,k3⟩:=Gat.step hzb BaW oW hgW hV ho3
  refine ⟨k1,KBox.step BaW (by decide) hV (fun e=>by cases A9 with | none=>simp at e | some q=>have:=(hA9 q rfl).1;simp at e;omega) ?_,by show Gat _ _ _ _ (List.map (encB s) _) _;rw [HEn.out];exact k3⟩
  rcases hA3 with h | h
  ·exact .inl h
  ·exact .inr ⟨_,h,by simp⟩
 case done =>
  rintro D ys V hD hys ⟨A,n,c,B,ho,hg⟩ hK
  have c10:=B.cell 0
  simp only [zG,zH] at c10
  have hys2 : ys.map (encB s) = (letS s).map encN:=by rw [hys];exact begins_end s
  rw [hys2] at ho
  go_wp2
  refine ⟨by simp,.inl ⟨_,_,rfl,run_takeDeferred hK,?_⟩⟩
  refine ⟨_,results_tmp rfl _ _ _,A,n,c,rfl,(ho.keep fun a ha=>World.putObj_heap_other (fun e=>?_)).more (by omega),?_⟩
  ·rcases ho.2.2.2 with ⟨h0,_⟩ | ⟨g,cap,cur,hv,_,hh,_⟩
   ·injection h0 with h0;rw [h0] at ha;cases ha
   ·injection hv with hv
    rw [hv] at ha
    injection ha with ha
    subst ha
    simp only at e
    subst e
    rw [hh] at hK
    cases hK
  ·exact (HB.trans (below_only (B:=w.heap.size) hg (by omega) (Nat.le_refl _))).trans (belowK_b (w:=w) (Nat.le_refl _) _ D _ _ (by omega) hK rfl rfl)
end
section
open Go.RowKit
def castL (l : List Nat) : List Int:=l.map fun (a : Nat)=>(a : Int)
structure KI (A B : World) : Prop where
 size : A.heap.size≤B.heap.size
 same : ∀ (k : Nat) (s : ByteArray) (p : Nat),A.heap[k]? = some (.stringIter s p)→B.heap[k]? = some (.stringIter s p)
theorem KI.refl (A : World) : KI A A:=⟨Nat.le_refl _,fun _ _ _ h=>h⟩
theorem KI.trans {A B C : World} (h : KI A B) (k : KI B C) : KI A C:=⟨Nat.le_trans h.size k.size,fun i s p hi=>k.same i s p (h.same i s p hi)⟩
theorem KI.put (W : World) (l : Nat) (o o' : Obj) (h : W.heap[l]? = some o) (hw : o.isWalk = false) : KI W (W.putObj l o'):=⟨(KeepsWalks.putObj o' h hw).size,fun k _ _ hk=>(KeepsWalks.putObj o' h hw).same k _ hk rfl⟩
def Nw (W2 : World) (bm n : Nat) (g : Int→List Nat) (W : World) : Prop:=GrM W W2.heap.size bm n (fun k=>castL (g k))∧W2.grownBy W (some bm)
theorem nw_own {α : Type} {W2 : World} {bm B : Nat} {n : List α→Nat} {g : List α→Int→List Nat} (hB : W2.heap.size≤B) (hbm : bm < W2.heap.size) : OwnFrom B (fun (pre : List α) W=>Nw W2 bm (n pre) (g pre) W):=fun pre X Y row hs hg hr=>by
 obtain ⟨h1,h2⟩:=hs
 refine ⟨h1.kept hg (fun e=>by have:=(hr bm e).1;omega) (fun r e=>.inl (hr r e).2),⟨hg.os.trans h2.os,hg.tape.trans h2.tape,hg.output.trans h2.output,Nat.le_trans h2.size hg.size,fun k hk hne=>?_⟩⟩
 exact (hg.block k (Nat.lt_of_lt_of_le hk h2.size) (fun e=>by have:=(hr k e.symm).1;omega)).trans (h2.block k hk hne)
theorem nw_first {W : World} {bm : Nat} (h : W.heap[bm]? = some (.map #[] 0)) : Nw W bm 0 (fun _=>[]) W:=by
 have hb:=(Array.getElem?_eq_some_iff.1 h).1
 exact ⟨⟨.map [],⟨#[],0,h,⟨by simp,MapKept.stamped_empty 0,by simp⟩,Nat.le_refl _,rfl,hb,by simp,by simp⟩,fun _=>rfl⟩,only_refl _ _⟩
theorem Nw.mono {W2 W : World} {bm n m : Nat} {g : Int→List Nat} (h : Nw W2 bm n g W) (hm : n≤m) : Nw W2 bm m g W:=⟨h.1.mono hm,h.2⟩
theorem Nw.congr {W2 W : World} {bm n : Nat} {g g' : Int→List Nat} (h : Nw W2 bm n g W) (hg : ∀ k,g k = g' k) : Nw W2 bm n g' W:=by
 have : g = g':=funext hg
 rwa [← this]
theorem Nw.bm {W2 W : World} {bm n : Nat} {g : Int→List Nat} (h : Nw W2 bm n g W) : ∃ es clock,W.heap[bm]? = some (.map es clock):=by
 obtain ⟨⟨D,⟨es,clock,hb,_⟩,_⟩,_⟩:=h
 exact ⟨es,clock,hb⟩
theorem Nw.look {W2 W : World} {bm n : Nat} {g : Int→List Nat} (h : Nw W2 bm n g W) (hn : n < maxLen) (k : Int) (hk : (Lit.int .i64 k).wf = true) :
  ∃ (A : Option Addr) (c : Nat),(∀ V : World,V.heap[bm]? = W.heap[bm]?→(Instr.lookup 89 (.map (some bm)) (.int .i64 k) false).run Tryz.prog V = .ok (.slice A (g k).length c) V)∧Own W W2.heap.size 3 1 A (g k).length c ((g k).map encN)∧(g k).length≤n∧(n = 0→A = none) ∧
   ∀ (w7 : World) (A3 : Option Addr) (m c3 : Nat) (l : List Nat),W.grownBy w7 (A.map (·.block))→Own w7 W2.heap.size 3 1 A3 m c3 (l.map encN)→(∀ x ∈ l,x≤4294967296)→l.length≤n+1→(A3.map (·.block) = A.map (·.block)∨∃ q,A3.map (·.block) = some q∧W.heap.size≤q) →
    ∃ w8,(Instr.mapUpdate 89 (.map (some bm)) (.int .i64 k) (.slice A3 m c3)).run Tryz.prog w7 = .ok () w8∧Nw W2 bm (n+1) (fun j=>if j = k then l else g j) w8∧w7.grownBy w8 (some bm)∧KeepsFrom W2.heap.size W w8∧KI W w8:=by
 obtain ⟨es0,clock0,hbm⟩:=h.bm
 have hbl:=h.1.lt
 obtain ⟨v,D,hrun,ho,hl,hG,hD,hback,h00⟩:=h.1.look2 Tryz.underlying89 Tryz.zeroValue65 hn hk
 obtain ⟨A,c,rfl,hO⟩:=ownsInts_own ho
 refine ⟨A,c,hrun,hO,by simpa [castL] using hl,fun hn0=>by have:=h00 hn0;injection this,fun w7 A3 m c3 l hg ho7 hlz hln hloc=>?_⟩
 have hi7:=own_ownsInts ho7 hlz
 have hob : ∀ (X : Option Addr) (p q : Nat),(Value.slice X p q).ownBlock = X.map (·.block):=fun X p q=>by cases X <;> rfl
 obtain ⟨w8,h1,h2,h3⟩:=hback w7 (.slice A3 m c3) _ (by rw [hob];exact hg) hi7 (by rw [List.length_map];exact hln) (by rw [hob,hob];exact hloc)
 have hA : ∀ q,some q = A.map (·.block)→W2.heap.size≤q∧∃ o : Obj,W.heap[q]? = some o∧o.isCells = true:=fun q hq=>by
  cases A with
  | none=>cases hq
  | some a =>
   simp at hq
   subst hq
   refine ⟨(hO.lt a rfl).1,?_⟩
   rcases hO.2.2.2 with ⟨h0,_⟩ | ⟨g',cap,cur,hv,_,hh,_⟩
   ·injection h0 with h0;cases h0
   ·injection hv with hv
    injection hv with hv
    subst hv
    exact ⟨_,hh,rfl⟩
 refine ⟨w8,h1,⟨?_,?_⟩,h3,⟨Nat.le_trans hg.size h3.size,fun j o hj ho' hc=>?_⟩,⟨Nat.le_trans hg.size h3.size,fun j si p ho'=>?_⟩⟩
 ·have:=grM_put h2 hi7 hG hD
  refine (show (fun k'=>castL (if k' = k then l else g k')) = _ from ?_) ▸ this
  funext j
  by_cases e : j = k
  ·rw [if_pos e,if_pos e];rfl
  ·rw [if_neg e,if_neg e]
 ·refine ⟨h3.os.trans (hg.os.trans h.2.os),h3.tape.trans (hg.tape.trans h.2.tape),h3.output.trans (hg.output.trans h.2.output),Nat.le_trans h.2.size (Nat.le_trans hg.size h3.size),fun j hj hne=>?_⟩
  have hjW:=Nat.lt_of_lt_of_le hj h.2.size
  exact (h3.block j (Nat.lt_of_lt_of_le hjW hg.size) hne).trans ((hg.block j hjW (fun e=>by have:=(hA j e).1;omega)).trans (h.2.block j hj hne))
 ·have hjW:=(Array.getElem?_eq_some_iff.1 ho').1
  refine (h3.block j (Nat.lt_of_lt_of_le hjW hg.size) (fun e=>by injection e with e;omega)).trans ((hg.block j hjW (fun e=>?_)).trans ho')
  obtain ⟨_,o2,h4,h5⟩:=hA j e
  rw [ho'] at h4;injection h4 with h4;subst h4;rw [hc] at h5;cases h5
 ·have hjW:=(Array.getElem?_eq_some_iff.1 ho').1
  refine (h3.block j (Nat.lt_of_lt_of_le hjW hg.size) (fun e=>?_)).trans ((hg.block j hjW (fun e=>?_)).trans ho')
  ·injection e with e
   subst e
   rw [hbm] at ho'
   cases ho'
  ·obtain ⟨_,o2,h4,h5⟩:=hA j e
   rw [ho'] at h4;injection h4 with h4;subst h4;cases h5
end
section
open Go.RowKit Go.Shelf
attribute [local go_sem] Oper.semAt_some
def encUc (s : ByteArray) (x : Nat × Nat × Nat) : Array Value:=#[.int .i64 (min x.2.1 s.size : Nat),.int .i32 (x.1 : Nat)]
theorem uEach_stopsI (n : Nat) (hn : 1≤n) (w : World) (s : ByteArray) (bs : Nat) (h : w.cell? ⟨bs,0,none⟩ = some (.string s)) :
  SeqStopsK Fence.wide n Tryz.prog 83 #[.pointer (some ⟨bs,0,none⟩)] (encUc s) KI (fun ys=>ys = runesP s) (fun pre=>pre <+: runesP s) (runesP s).length w:=by
 intro l J Jx W hW hJ _ hY h0
 have hc1 : W.cell? ⟨bs,0,none⟩ = some (.string s):=cell_keep h hW
 refine callsIn_of_wp Tryz.func83 rfl trivial ?_ rfl
 simp only [Tryz.ntmps83,List.size_toArray,List.length_cons,List.length_nil,Nat.reduceAdd,Nat.reduceSub,Array.replicate_succ,Array.replicate_zero,List.push_toArray,List.append_toArray,List.nil_append,List.cons_append]
 gi_wp2
 gi_loopw [3] (fun _ wr=>∃ (f p : Nat) (pre : List (Nat × Nat × Nat)),Hid (UAt s f p pre)∧J pre wr∧wr.heap[W.heap.size]? = some (.stringIter s p))
  (fun _ wr=>s.size - wr.iterPos W.heap.size)
 case atStart=>exact ⟨s.size,0,[],uAt_first s,abides_below hJ h0 (below_iter (RowKit.Below.refl _ _) (Nat.le_refl _) _ _),iter_new _ _ _⟩
 case round =>
  obtain ⟨f,p,pre,HA,hJs,hit⟩:=hrel
  have Hpos:=Lib.hid (iterPos_of hit)
  by_cases hp : p < s.size
  ·obtain ⟨⟨R,Wd⟩,hD0⟩ : ∃ d,Utf8.decode s p = d:=⟨_,rfl⟩
   have hd:=dec_bd s p hp
   have hnx : ∀ ty,(Instr.next (.pointer (some ⟨W.heap.size,0,none⟩)) true ty).run Tryz.prog wr = _:=fun ty=>Lib.run_next_any_at wr W.heap.size s p ty hit hp
   have hit2:=Lib.iterAt_heap wr W.heap.size s p (p+(Utf8.decode s p).2) hit
   have hJ2:=abides_iterAt hJ hJs hit (Nat.le_refl _) (p+(Utf8.decode s p).2)
   rw [hD0] at hd hnx hit2 hJ2
   simp only at hd hnx hit2 hJ2
   obtain ⟨g,hg⟩:=uAt_next HA.out hp hD0 ⟨hd.1,hd.2.2.1⟩
   have Hg:=Lib.hid hg
   have hlen : pre.length < (runesP s).length:=by have:=(uAt_pre hg).length_le;rw [List.length_append,List.length_singleton] at this;omega
   clear hD0 hg
   generalize wr.iterAt W.heap.size s (p+Wd) = wi at hnx hit2 hJ2
   clear hJs hit
   obtain ⟨fn,tmps,assign,body,hy,hR⟩:=hY pre (R,p,p+Wd) wi hJ2 hlen
   dsimp only [encUc] at hy
   rw [Nat.min_eq_left (Nat.le_of_lt hp)] at hy
   gi_wp2_with fail
   refine hR.mono ?_
   rintro e w4 (⟨rfl,hJ4,hk4⟩ | ⟨rfl,hJx4⟩)
   ·have hit4:=hk4.same _ _ _ hit2
    gi_wp2_with fail
    go_roundw
    case rel=>exact ⟨g,p+Wd,pre++[(R,p,p+Wd)],Hg,hJ4,hit4⟩
    case measure=>rw [iterPos_of hit4,Hpos.out];omega
   ·gi_wp2
    refine bodyPost_ret (results_none rfl _ _ _) rfl ?_
    exact ⟨⟨_,rfl⟩,.inr ⟨_,uAt_pre Hg.out,hJx4⟩⟩
  ·have hnx : ∀ ty,(Instr.next (.pointer (some ⟨W.heap.size,0,none⟩)) true ty).run Tryz.prog wr = _:=fun ty=>Lib.run_next_end_at wr W.heap.size s p ty hit hp
   have HE:=Lib.hid (uAt_end HA.out hp)
   gi_wp2
   go_end0
   exact ⟨⟨_,rfl⟩,.inl ⟨_,HE.out,hJs⟩⟩
end
section
open Go.RowKit
def addAt (g : Int→List Nat) (k : Int) (q : Nat) (j : Int) : List Nat:=if j = k then g k++[q] else g j
def gU (pre : List (Nat × Nat × Nat)) (k : Int) : List Nat :=
 if k = 1 then pre.map fun x=>x.2.1 else if k = 0 then pre.flatMap fun x=>if 65535 < x.1 then [x.2.1,x.2.1+1] else [x.2.1] else []
def gB (s : ByteArray) (i : Nat) (k : Int) : List Nat:=if k = 2 then List.range i else gU (runesP s) k
theorem gU_two {pre : List (Nat × Nat × Nat)} {R a b : Nat} (h : 65535 < R) (k : Int) : addAt (addAt (addAt (gU pre) 1 a) 0 a) 0 (a+1) k = gU (pre++[(R,a,b)]) k:=by
 unfold addAt gU
 by_cases h0 : k = 0
 ·subst h0;simp [h]
 ·by_cases h1 : k = 1
  ·subst h1;simp
  ·simp [h0,h1]
theorem gU_one {pre : List (Nat × Nat × Nat)} {R a b : Nat} (h : ¬ 65535 < R) (k : Int) : addAt (addAt (gU pre) 1 a) 0 a k = gU (pre++[(R,a,b)]) k:=by
 unfold addAt gU
 by_cases h0 : k = 0
 ·subst h0;simp [h]
 ·by_cases h1 : k = 1
  ·subst h1;simp
  ·simp [h0,h1]
theorem gB_first (s : ByteArray) (k : Int) : gU (runesP s) k = gB s 0 k:=by
 unfold gB
 split
 ·rename_i h;subst h;simp [gU]
 ·rfl
theorem gB_more (s : ByteArray) (i : Nat) (k : Int) : addAt (gB s i) 2 i k = gB s (i+1) k:=by
 unfold addAt
 split
 ·rename_i h;subst h;simp [gB,List.range_succ]
 ·rename_i h;simp [gB,h]
theorem gB_end (s : ByteArray) (k : Int) : (if k = 3 then letS s else gB s s.size k) = begP s k:=by
 unfold begP gB gU unitsP startsP
 by_cases h0 : k = 0
 ·subst h0;simp
 ·by_cases h1 : k = 1
  ·subst h1;simp
  ·by_cases h2 : k = 2
   ·subst h2;simp
   ·by_cases h3 : k = 3 <;> simp [h0,h1,h2,h3]
theorem letS_pos {s : ByteArray} (h : 0 < s.size) : 0 < (letS s).length:=by
 unfold letS boundsG
 rw [if_neg (by omega),List.dropLast_concat]
 obtain ⟨T,e⟩:=starts_zero gG h
 rw [e];simp
theorem letS_len (s : ByteArray) : (letS s).length≤s.size:=by
 unfold letS
 rw [List.length_dropLast]
 have:=bounds_len s
 omega
theorem hloc_of {w' : World} {B base e' : Nat} {Ae A : Option Addr} {n n' c' : Nat} {xs : List (List Value)} (h0 : n = 0→Ae = none) (ho : Own w' base e' 1 A n' c' xs) (hb : B≤base) (hn : n = 0∨0 < n') : A.map (·.block) = Ae.map (·.block)∨∃ q,A.map (·.block) = some q∧B≤q:=by
 cases A with
 | some a=>exact .inr ⟨_,rfl,Nat.le_trans hb (ho.lt a rfl).1⟩
 | none =>
  rcases hn with hn | hn
  ·rw [h0 hn];exact .inl rfl
  ·obtain ⟨g,e,_⟩:=ho.form hn
   cases e
theorem gU_le {m : Nat} {pre : List (Nat × Nat × Nat)} (h : ∀ y ∈ pre,y.2.1≤m) (k : Int) : ∀ x ∈ gU pre k,x≤m+1:=by
 intro x hx
 unfold gU at hx
 split at hx
 ·obtain ⟨y,hy,rfl⟩:=List.mem_map.1 hx
  have:=h y hy
  omega
 ·split at hx
  ·obtain ⟨y,hy,hx⟩:=List.mem_flatMap.1 hx
   have:=h y hy
   split at hx <;> simp at hx <;> omega
  ·cases hx
theorem gB_le {s : ByteArray} {i : Nat} (h : i≤s.size) (k : Int) : ∀ x ∈ gB s i k,x≤s.size+1:=by
 intro x hx
 unfold gB at hx
 split at hx
 ·have:=List.mem_range.1 hx;omega
 ·exact gU_le (fun y hy=>by have:=runesP_bd y hy;omega) k x hx
theorem addAt_le {g : Int→List Nat} {m q : Nat} (h : ∀ k,∀ x ∈ g k,x≤m) (k0 : Int) (hq : q≤m) : ∀ k,∀ x ∈ addAt g k0 q k,x≤m:=by
 intro k x hx
 unfold addAt at hx
 split at hx
 ·rcases List.mem_append.1 hx with hx | hx
  ·exact h _ x hx
  ·rw [List.mem_singleton] at hx;omega
 ·exact h _ x hx
def clR (s : ByteArray) (x : Nat × Nat × Nat) : Nat × Nat × Nat:=(x.1,min x.2.1 s.size,x.2.2)
theorem clR_runes (s : ByteArray) : (runesP s).map (clR s) = runesP s:=by
 conv=>rhs;rw [← List.map_id (runesP s)]
 refine List.map_congr_left (fun x hx=>?_)
 have:=runesP_bd x hx
 unfold clR
 rw [Nat.min_eq_left (by omega)]
 rfl
theorem clR_le (s : ByteArray) (pre : List (Nat × Nat × Nat)) : ∀ y ∈ pre.map (clR s),y.2.1≤s.size:=by
 intro y hy
 obtain ⟨x,_,rfl⟩:=List.mem_map.1 hy
 exact Nat.min_le_right _ _
theorem Nw.cell {W2 W : World} {bm n : Nat} {g : Int→List Nat} (h : Nw W2 bm n g W) {b i : Nat} {v : Value} (hc : W2.cell? ⟨b,i,none⟩ = some v) (hne : b ≠ bm) : W.cell? ⟨b,i,none⟩ = some v:=gcell h.2 hc (fun e=>hne (by injection e))
theorem cell_map {W : World} {b i : Nat} {es : Array MapEntry} {cl : Nat} {v : Value} (h : W.heap[b]? = some (.map es cl)) (hc : W.cell? ⟨b,i,none⟩ = some v) : False:=by
 unfold World.cell? at hc
 simp [h] at hc
theorem Rd.other {W W' : World} {bm z : Nat} {A : Option Addr} {cs : List (List Value)} {es : Array MapEntry} {cl : Nat} (h : Rd W z A cs) (hm : W.heap[bm]? = some (.map es cl)) (hg : W.grownBy W' (some bm)) : Rd W' z A cs :=
 h.keep fun _ _ _ _ _ hc=>gcell hg hc (fun e=>by injection e with e;subst e;exact cell_map hm hc)
theorem LnM.other {W W' : World} {bm : Nat} {A : Option Addr} {L : List (Nat × Nat × Nat)} {lt : Nat × Nat × Nat→List Nat} {es : Array MapEntry} {cl : Nat} (h : LnM W A L lt) (hm : W.heap[bm]? = some (.map es cl)) (hg : W.grownBy W' (some bm)) : LnM W' A L lt:=by
 obtain ⟨V,h1,h2,h3⟩:=h
 exact ⟨V,h1,h2.other hm hg,fun k x v hx hv=>let ⟨B,c,e,hB⟩:=h3 k x v hx hv;⟨B,c,e,hB.other hm hg⟩⟩
theorem idx_of_nw {W2 V : World} {p bm n c : Nat} {s : ByteArray} {A : Option Addr} {g : Int→List Nat} {es : Array MapEntry} {cl : Nat} (hb : Blk W2 p 93 #[.string s,.map (some bm),.slice A (lnP s).length c]) (hp : p ≠ bm) (hL : LnM W2 A (lnP s) (letAbs s)) (hm : W2.heap[bm]? = some (.map es cl)) (hN : Nw W2 bm n g V)
  (hg : ∀ k,g k = begP s k) (hn : n≤100000000) : IdxAt V p s:=by
 refine ⟨W2.heap.size,bm,n,A,c,hb.grown hN.2 (fun e=>hp (by injection e)),?_,hn,hL.other hm hN.2⟩
 have : begZ s = fun k=>castL (g k):=funext fun k=>by rw [hg k];rfl
 rw [this]
 exact hN.1
theorem Nw.app {W2 W : World} {bm n : Nat} {g : Int→List Nat} (h : Nw W2 bm n g W) (hn : n < 100000000) (k : Int) (hk : (Lit.int .i64 k).wf = true) (hz : ∀ x ∈ g k,x≤4294967296) :
  ∃ (A : Option Addr) (c : Nat),(∀ V : World,V.heap[bm]? = W.heap[bm]?→(Instr.lookup 89 (.map (some bm)) (.int .i64 k) false).run Tryz.prog V = .ok (.slice A (g k).length c) V)∧Own W W2.heap.size 3 1 A (g k).length c ((g k).map encN)∧(g k).length≤n∧(∀ (o : Obj) (b : Nat),b < W2.heap.size→(W.drew.alloc o).heap[b]? = W.heap[b]?) ∧
   (∀ (o : Obj) (w7 : World),(W.drew.alloc o).grownBy w7 (A.map (·.block))→∀ b,b < W2.heap.size→w7.heap[b]? = W.heap[b]?) ∧
   ∀ (q : Nat) (o : Obj) (w7 : World) (A3 : Option Addr) (c3 : Nat),q≤4294967296→(W.drew.alloc o).grownBy w7 (A.map (·.block))→Own w7 W2.heap.size 3 1 A3 ((g k).length+1) c3 ((g k).map encN++[[.int .i64 (q : Nat)]])→(A3 = A∨A3 = some ⟨(W.drew.alloc o).heap.size,0,none⟩) →
    ∃ w8,(Instr.mapUpdate 89 (.map (some bm)) (.int .i64 k) (.slice A3 ((g k).length+1) c3)).run Tryz.prog w7 = .ok () w8∧Nw W2 bm (n+1) (addAt g k q) w8∧KeepsFrom W2.heap.size W w8∧KI W w8:=by
 obtain ⟨A,c,hrun,hO,hl,_,hback⟩:=h.look (by unfold maxLen;omega) k hk
 have hal : ∀ (o : Obj) (b : Nat),b < W2.heap.size→(W.drew.alloc o).heap[b]? = W.heap[b]?:=fun o b hb=>Below.heap_alloc W o b (Nat.lt_of_lt_of_le hb h.2.size)
 refine ⟨A,c,hrun,hO,hl,hal,fun o w7 hg b hb=>(hg.block b (by rw [World.size_alloc];exact Nat.lt_succ_of_lt (Nat.lt_of_lt_of_le hb h.2.size)) (fun e=>?_)).trans (hal o b hb),fun q o w7 A3 c3 hq hg ho hA3=>?_⟩
 ·cases A with
  | none=>cases e
  | some a=>have:=(hO.lt a rfl).1;injection e with e;simp only at e;omega
 obtain ⟨w8,h1,h2,_,h4,h5⟩:=hback w7 A3 ((g k).length+1) c3 (g k++[q]) (only_trans (only_alloc (only_refl W _) o) ⟨hg.os,hg.tape,hg.output,hg.size,hg.block⟩) (by rw [List.map_append];exact ho) (fun x hx=>by rcases List.mem_append.1 hx with hx | hx;exact hz x hx;rw [List.mem_singleton] at hx;omega)
  (by rw [List.length_append,List.length_singleton];omega) (by
   rcases hA3 with rfl | rfl
   ·exact .inl rfl
   ·exact .inr ⟨_,rfl,by rw [World.size_alloc];exact Nat.le_succ _⟩)
 exact ⟨w8,h1,h2,h4,h5⟩
end
section
open Go.RowKit
def partsOf (w : World) (p : Nat) : Nat:=(intOf ((w.cell? ⟨p,4,none⟩).getD undef)).toNat
theorem RS.partsOf {w : World} {p : Nat} {s : ByteArray} {A : Option Addr} {nn cn : Nat} {names : List (List UInt8)} {a d k : Nat} (h : RS w p s A nn cn names a d k) : partsOf w p = k:=by unfold YtlfpdpbbkjnapaaGreatDoor.partsOf;rw [h.c4];simp [intOf]
theorem infoPatH : (Tryz.prog.info? 221).map (fun i=>(i.zero,i.size,i.bytes)) = some (some (.agg #[.int .i64 0,.slice none 0 0,.slice none 0 0]),3,56):=by kernel_rfl
theorem branchP_cases2 {ns : List (List UInt8)} {f d k k' : Nat} {acc : List Pat} {pat : Pat} {l rest : List UInt8} (h : branchP ns f d l k acc = some (pat,rest,k')) :
  ∃ c : UInt8,headN (skipB l) = c.toNat∧((pBegins c = false∧pat = seqOf acc∧rest = skipB l∧k' = k) ∨
   (pBegins c = true∧∃ r f' p l1 k1 q l2 k2,skipB l = c :: r∧f = f'+1∧atomP ns f' d c r k = some (p,l1,k1)∧opsGo f' p l1 k1 = some (q,l2,k2)∧branchP ns f' d l2 k2 (acc++[q]) = some (pat,rest,k'))):=by
 rcases branchP_cases h with ⟨hs,h1,h2,h3⟩ | ⟨c,r,hs,⟨hb,h1,h2,h3⟩ | ⟨hb,f',p,l1,k1,q,l2,k2,h1,h2,h3,h4⟩⟩
 ·exact ⟨0,by rw [hs];rfl,.inl ⟨by decide,h1,by rw [hs,h2],h3⟩⟩
 ·exact ⟨c,by rw [hs];rfl,.inl ⟨hb,h1,by rw [hs,h2],h3⟩⟩
 ·exact ⟨c,by rw [hs];rfl,.inr ⟨hb,r,f',p,l1,k1,q,l2,k2,hs,h1,h2,h3,h4⟩⟩
theorem begins_nb {c : UInt8} (h : pBegins c = true) : pBlank c = false:=by
 cases hb : pBlank c with
 | false=>rfl
 | true =>
  exfalso
  unfold pBlank at hb
  rw [Bool.or_eq_true,decide_eq_true_iff,decide_eq_true_iff] at hb
  unfold pBegins pLetter at h
  simp only [Bool.or_eq_true,Bool.and_eq_true,decide_eq_true_iff] at h
  omega
theorem seqOf_many {l : List Pat} (h : 2≤l.length) : seqOf l = .node 2 [] l:=by
 match l,h with
 | [],h=>simp at h
 | [_],h=>simp at h
 | _ :: _ :: _,_=>rfl
theorem ops_cases2 {f k k2 : Nat} {p q : Pat} {l l2 : List UInt8} (h : opsGo f p l k = some (q,l2,k2)) :
  ∃ c : UInt8,headN (skipB l) = c.toNat∧((pOper c = 0∧q = p∧l2 = skipB l∧k2 = k)∨(pOper c ≠ 0∧k < 512∧∃ r f',skipB l = c :: r∧opsGo f' (.node (pOper c) [] [p]) r (k+1) = some (q,l2,k2))):=by
 rcases opsGo_cases h with ⟨hs,h1,h2,h3⟩ | ⟨c,r,hs,⟨h0,h1,h2,h3⟩ | ⟨h0,hk,f',h1⟩⟩
 ·exact ⟨0,by rw [hs];rfl,.inl ⟨by decide,h1,by rw [hs,h2],h3⟩⟩
 ·exact ⟨c,by rw [hs];rfl,.inl ⟨h0,h1,by rw [hs,h2],h3⟩⟩
 ·exact ⟨c,by rw [hs];rfl,.inr ⟨h0,hk,r,f',hs,h1⟩⟩
def OffX (B : Nat) (A : Option Addr) (b : Nat) : Prop:=B≤b∧∀ a,A = some a→b ≠ a.block
theorem res_branch (w : World) (b : Nat) (v : Pv) (tmps : Array Value) (ht : tmps.getD 2 undef = .pointer (some ⟨b,0,none⟩)) (hc : PCell w b v) : (results Tryz.f239 tmps).run Tryz.prog w = .ok (valPt v) w:=by
 have ht' : tmps[2]?.getD undef = .pointer (some ⟨b,0,none⟩):=by simpa [Array.getD_eq_getD_getElem?] using ht
 obtain ⟨h0,h1,h2⟩:=hc
 simp [results,Tryz.results239,go_sem,ht',h0,h1,h2,valPt]
theorem jbranch_any (p : Nat) (s : ByteArray) (A : Option Addr) (nn cn : Nat) (names : List (List UInt8)) (a d k k' f : Nat) (rest : List UInt8) (pat : Pat) (w : World)
  (HAt : Hid (∀ (f' a k k' : Nat) (c : UInt8) (r : List UInt8) (pat : Pat) (rest : List UInt8) (W : World),f' < f→RS W p s A nn cn names a d k→a≤s.size→skipB (s.data.toList.drop a) = c :: r→atomP names f' d c r k = some (pat,rest,k')→Calls Tryz.prog 281 #[.pointer (some ⟨p,0,none⟩)] W (RdPost W p s A nn cn names d pat rest k')))
  (h : RS w p s A nn cn names a d k) (ha : a≤s.size) (hs : s.size≤1000000) (hk : k≤512)
  (hP : branchP names f d (s.data.toList.drop a) k [] = some (pat,rest,k')) :
  Calls Tryz.prog 239 #[.pointer (some ⟨p,0,none⟩)] w (RdPost w p s A nn cn names d pat rest k'):=by
 have hpw:=h.lt
 have HAw:=Lib.hid (fun x (hx : A = some x)=>(h.off x hx).2)
 have hw0:=h.below ((Below.refl w.heap.size w).alloc (Nat.le_refl _) (.cells #[.int .i64 0,.slice none 0 0,.slice none 0 0] 221))
 have hB0 : Blk (w.alloc (.cells #[.int .i64 0,.slice none 0 0,.slice none 0 0] 221)) w.heap.size 221 #[.int .i64 0,.slice none 0 0,.slice none 0 0]:=Blk.new w _ _
 have HS:=Lib.hid (fun x kk W (h : RS W p s A nn cn names x d kk) (hx : x≤s.size)=>jsees_any p s A nn cn names x d kk W h hx hs)
 have HP:=Lib.hid hP
 clear hP h
 go_enter Tryz.func239,Tryz.ntmps239
 go_wp2_with fail
 go_loopw [3,4,5] (fun v3 _ _ wr=>∃ (x kk f0 : Nat) (acc0 : List Pat) (A0 : Option Addr) (n0 c0 : Nat) (vs : List Pv),v3 = .slice A0 n0 c0∧f0≤f∧n0≤kk∧kk≤512∧RS wr p s A nn cn names x d kk∧Hid (branchP names f0 d (s.data.toList.drop x) kk acc0 = some (pat,rest,k'))∧x≤s.size∧w.grownBy wr (some p)∧Blk wr w.heap.size 221 #[.int .i64 0,.slice none 0 0,.slice none 0 0]∧Own wr (w.heap.size+1) 221 3 A0 n0 c0 (vs.map encPt)∧PatsX wr (OffX (w.heap.size+1) A0) acc0 vs) (fun _ _ _ wr=>512 - partsOf wr p)
 case atStart=>exact ⟨a,k,f,[],none,0,0,[],rfl,Nat.le_refl _,Nat.zero_le _,hk,hw0,HP,ha,only_alloc (only_refl w _) _,hB0,Own.nil_ _ _ _ _,by simp only [PatsX]⟩
 case round =>
  clear hw0 HP hB0
  obtain ⟨x,kk,f0,acc0,A0,n0,c0,vs,rfl,hf0,hn0,hkk,hr,HG,hx,hg,hB,ho,hps⟩:=hrel
  have Hat:=Lib.hid hr.partsOf
  have c5:=hr.c5
  obtain ⟨c,hc,hcs⟩:=branchP_cases2 HG.out
  have Hcs:=Lib.hid hcs
  have h0:=HS.out x kk _ hr hx
  rw [hc] at h0
  have HS1:=Lib.hid h0
  clear h0 hc hcs HG
  go_wp2_with fail
  refine HS1.out.mono ?_
  rintro e w5 ⟨rfl,x1,hr5,hd5,hx1,hg5⟩
  have HBg:=Lib.hid (jbegins_b c w5)
  have hB5:=hB.grown hg5 (fun e=>by injection e with e;omega)
  have ho5:=ho.grown hg5 (fun a ha e=>by have:=(ho.lt a ha).1;injection e with e;omega)
  have hps5:=hps.keep (KeepX.grown hg5 (fun r hr h=>by injection hr with hr;subst hr;have:=h.1;omega))
  have hgg:=only_trans hg hg5
  have Hd5:=Lib.hid hd5
  clear hr hB ho hps hg hg5 c5 HS1 hd5
  rcases Hcs.out with ⟨hbg,hpe,hre,hke⟩ | ⟨hbg,r,f',p1,l1,k1,q,l2,k2,hsk,hfe,hat,hop,hbr⟩
  ·rw [hbg] at HBg
   clear Hcs
   go_wp2_with fail
   refine HBg.out.mono ?_
   rintro e w6 ⟨rfl,rfl⟩
   have hvl : vs.length = n0:=by have:=ho5.len;simpa using this
   have hal:=hps5.len
   have z0:=hB5.cell 0
   have z1:=hB5.cell 1
   have z2:=hB5.cell 2
   simp only [zG,zI,zH] at z0 z1 z2
   have g0:=hB5.frozen 0
   have g1:=hB5.frozen 1
   have g2:=hB5.frozen 2
   by_cases h0n : n0 = 0
   ·subst h0n
    have hac : acc0 = []:=List.eq_nil_of_length_eq_zero (by omega)
    subst hac
    have HQ:=Lib.hid (pt_end (B:=w.heap.size+1) (pat:=.node 0 [] []) (0,(none,0,0),(none,0,0)) hB5 hr5 hpw HAw.out hgg (by omega) (by simp only [PatX];exact ⟨trivial,SlX.nil_ _ _ _,[],SlX.nil_ _ _ _,by simp only [PatsX]⟩))
    go_wp2
    obtain ⟨q1,q2,q3,q4⟩:=HQ.out
    refine bodyPost_ret (res_branch _ w.heap.size (0,(none,0,0),(none,0,0)) _ rfl (PCell.of_blk q1)) rfl ?_
    rw [hpe,hke]
    exact ⟨_,_,rfl,q2,by rw [Hd5.out,hre],hx1,q3,q4⟩
   ·have t0 : ((n0 : Int) == 0) = false:=by rw [beq_eq_false_iff_ne];omega
    by_cases h1n : n0 = 1
    ·subst h1n
     obtain ⟨v,rfl⟩ : ∃ v,vs = [v]:=List.length_eq_one_iff.1 hvl
     obtain ⟨p0,rfl⟩ : ∃ v,acc0 = [v]:=List.length_eq_one_iff.1 (by omega)
     obtain ⟨v',hv',hpv⟩:=hps5.at_ (k:=0) rfl
     injection hv' with hv'
     subst hv'
     obtain ⟨b0,off0,eA,e0,e1,e2⟩:=(SlX.own ho5 (by decide) (X:=fun b=>w.heap.size+1≤b) (fun a ha=>(ho5.lt a ha).1)).atPt (k:=0) rfl
     simp only at eA
     subst eA
     have HQ:=Lib.hid (pt_end (B:=w.heap.size+1) v hB5 hr5 hpw HAw.out hgg (by omega) (hpv.keep (KeepX.same (fun b h _=>h.1))))
     obtain ⟨v0,⟨A1,n1,c1'⟩,⟨A2,n2,c2'⟩⟩:=v
     simp only [Nat.zero_mul,Nat.add_zero] at e0 e1 e2
     go_wp2
     obtain ⟨q1,q2,q3,q4⟩:=HQ.out
     refine bodyPost_ret (res_branch _ w.heap.size (v0,(A1,n1,c1'),(A2,n2,c2')) _ rfl (PCell.of_blk q1)) rfl ?_
     rw [hpe,hke]
     exact ⟨_,_,rfl,q2,by rw [Hd5.out,hre],hx1,q3,q4⟩
    ·have t1 : ((n0 : Int) == 1) = false:=by rw [beq_eq_false_iff_ne];omega
     have HQ:=Lib.hid (pt_end (B:=w.heap.size+1) (pat:=.node 2 [] acc0) (2,(none,0,0),(A0,n0,c0)) hB5 hr5 hpw HAw.out hgg (by omega) (by simp only [PatX];exact ⟨trivial,SlX.nil_ _ _ _,vs,SlX.own ho5 (by decide) (fun a ha=>(ho5.lt a ha).1),hps5.keep (KeepX.same (fun b h _=>h.1))⟩))
     go_wp2
     obtain ⟨q1,q2,q3,q4⟩:=HQ.out
     refine bodyPost_ret (res_branch _ w.heap.size (2,(none,0,0),(A0,n0,c0)) _ rfl (PCell.of_blk q1)) rfl ?_
     rw [hpe,hke,seqOf_many (by omega)]
     exact ⟨_,_,rfl,q2,by rw [Hd5.out,hre],hx1,q3,q4⟩
  ·rw [hbg] at HBg
   clear Hcs
   go_wp2_with fail
   refine HBg.out.mono ?_
   rintro e w6 ⟨rfl,rfl⟩
   have HA1:=Lib.hid (HAt.out f' x1 kk k1 c r p1 l1 w5 (by omega) hr5 hx1 (by rw [Hd5.out,hsk];exact skip_stop (begins_nb hbg)) hat)
   go_wp2_with fail
   refine HA1.out.mono ?_
   rintro e w7 hq
   obtain ⟨v1,x2,rfl,hr7,hd7,hx7,hg7,hp7⟩:=hq
   obtain ⟨v0,⟨A1,n1,c1'⟩,⟨A2,n2,c2'⟩⟩:=v1
   obtain ⟨hk5,hku⟩:=(parts_up names f').2.2.2 hat
   have hal : Below w7.heap.size w7 (w7.alloc (.cells #[.int .i64 (v0 : Int),.slice A1 n1 c1',.slice A2 n2 c2'] 221)):=(Below.refl w7.heap.size w7).alloc (Nat.le_refl _) _
   have hN8 : Blk (w7.alloc (.cells #[.int .i64 (v0 : Int),.slice A1 n1 c1',.slice A2 n2 c2'] 221)) w7.heap.size 221 #[.int .i64 (v0 : Int),.slice A1 n1 c1',.slice A2 n2 c2']:=Blk.new _ _ _
   have hr8:=hr7.below hal
   have hB8:=(hB5.grown hg7 (fun e=>by injection e with e;omega)).below hal
   have ho8:=(ho5.grown hg7 (fun a ha e=>by have:=(ho5.lt a ha).1;injection e with e;omega)).below hal
   have hg8:=only_below (only_trans hgg hg7) hal
   have hz5:=hB5.lt
   have hz7:=hg7.size
   have hA0 : ∀ a,A0 = some a→a.block < w5.heap.size:=fun a ha=>(ho5.lt a ha).2
   have hps8 : PatsX (w7.alloc (.cells #[.int .i64 (v0 : Int),.slice A1 n1 c1',.slice A2 n2 c2'] 221)) (fun b=>OffX (w.heap.size+1) A0 b∧b ≠ w7.heap.size) acc0 vs:=((hps5.keep (KeepX.grown hg7 (fun r hr h=>by injection hr with hr;subst hr;have:=h.1;omega))).keep (KeepX.same (fun b h hb=>⟨h,by omega⟩))).below hal
   have hp8 : PatX (w7.alloc (.cells #[.int .i64 (v0 : Int),.slice A1 n1 c1',.slice A2 n2 c2'] 221)) (fun b=>OffX (w.heap.size+1) A0 b∧b ≠ w7.heap.size) p1 (v0,(A1,n1,c1'),(A2,n2,c2')):=PatX.below (hp7.keep (KeepX.same (fun b h hb=>⟨⟨by omega,fun a ha e=>by have:=hA0 a ha;omega⟩,by omega⟩))) hal
   have HO2:=Lib.hid hop
   have HBr:=Lib.hid hbr
   clear HA1 hop hbr hat hp7 hr7 hsk HBg hbg
   simp only [valPt]
   go_wp2_with fail
   generalize w7.alloc (.cells #[.int .i64 (v0 : Int),.slice A1 n1 c1',.slice A2 n2 c2'] 221) = V at hr8 hN8 hB8 ho8 hps8 hg8 hp8 ⊢
   clear hal hps5 ho5 hB5 hr5 hg7 hgg
   generalize w7.heap.size = g at hN8 hp8 hps8 hz7 ⊢
   go_loopw [5] (fun _ wr=>∃ (y k9 f9 : Nat) (p9 : Pat) (v9 : Pv),RS wr p s A nn cn names y d k9∧Hid (opsGo f9 p9 (s.data.toList.drop y) k9 = some (q,l2,k2))∧y≤s.size∧kk < k9∧k9≤512∧w.grownBy wr (some p)∧Blk wr w.heap.size 221 #[.int .i64 0,.slice none 0 0,.slice none 0 0]∧Own wr (w.heap.size+1) 221 3 A0 n0 c0 (vs.map encPt)∧PatsX wr (fun b=>OffX (w.heap.size+1) A0 b∧b ≠ g) acc0 vs∧Blk wr g 221 #[.int .i64 (v9.1 : Int),.slice v9.2.1.1 v9.2.1.2.1 v9.2.1.2.2,.slice v9.2.2.1 v9.2.2.2.1 v9.2.2.2.2]∧PatX wr (fun b=>OffX (w.heap.size+1) A0 b∧b ≠ g) p9 v9) (fun _ wr=>512 - partsOf wr p)
   case atStart=>exact ⟨x2,k1,f',p1,(v0,(A1,n1,c1'),(A2,n2,c2')),hr8,by rw [hd7];exact HO2,hx7,hku.1,hku.2 (by omega),hg8,hB8,ho8,hps8,hN8,hp8⟩
   case round =>
    clear hr8 hN8 hB8 ho8 hps8 hg8 hp8 hd7 HO2
    obtain ⟨y,k9,f9,p9,v9,hr,HO,hy,hk9,hk9',hg,hB,ho,hps,hN,hp9⟩:=hrel
    have Hat9:=Lib.hid hr.partsOf
    obtain ⟨co,hco,hcs2⟩:=ops_cases2 HO.out
    have Hcs2:=Lib.hid hcs2
    have c5:=hr.c5
    have h0:=HS.out y k9 _ hr hy
    rw [hco] at h0
    have HS2:=Lib.hid h0
    clear h0 hco hcs2 HO
    go_wp2_with fail
    refine HS2.out.mono ?_
    rintro e w9 ⟨rfl,y1,hr9,hd9,hy1,hg9⟩
    have HOp:=Lib.hid (joper_b co w9)
    have hgp : g ≠ p:=by omega
    have hB9:=hB.grown hg9 (fun e=>by injection e with e;omega)
    have ho9:=ho.grown hg9 (fun a ha e=>by have:=(ho.lt a ha).1;injection e with e;omega)
    have hps9:=hps.keep (KeepX.grown hg9 (fun r hr h=>by injection hr with hr;subst hr;have:=h.1.1;omega))
    have hN9:=hN.grown hg9 (fun e=>by injection e with e;omega)
    have hpp:=hp9.keep (KeepX.grown hg9 (fun r hr h=>by injection hr with hr;subst hr;have:=h.1.1;omega))
    have hgg9:=only_trans hg hg9
    have Hd9:=Lib.hid hd9
    clear hr hB ho hps hN hp9 hg hg9 hd9 HS2 c5
    rcases Hcs2.out with ⟨hz,hqe,hle,hke⟩ | ⟨hz,hk5,r9,f8,hsk9,hop9⟩
    ·rw [hz] at HOp
     go_wp2_with fail
     refine HOp.out.mono ?_
     rintro e w6 ⟨rfl,rfl⟩
     obtain ⟨i0,hi0,hz0,hz1,hz2⟩:=info_parts infoPatH
     have e0:=hN9.cell 0
     have e1:=hN9.cell 1
     have e2:=hN9.cell 2
     simp only [zG,zI,zH] at e0 e1 e2
     have T1:=ho9.alloc (.cells #[.int .i64 (v9.1 : Int),.slice v9.2.1.1 v9.2.1.2.1 v9.2.1.2.2,.slice v9.2.2.1 v9.2.2.2.1 v9.2.2.2.2] 221)
     have T3 : w.heap.size+1≤(w9.alloc (.cells #[.int .i64 (v9.1 : Int),.slice v9.2.1.1 v9.2.1.2.1 v9.2.1.2.2,.slice v9.2.2.1 v9.2.2.2.1 v9.2.2.2.2] 221)).heap.size:=by have:=hB9.lt;simp;omega
     have T2 : (n0+1)*56≤140737488355328:=by omega
     have T4 : ∀ y ∈ [encPt v9],y.length = 3∧∀ u ∈ y,u.oneCell' = true:=fun y hy=>by
      simp only [List.mem_singleton] at hy
      subst hy
      refine ⟨rfl,fun u hu=>?_⟩
      simp only [encPt,List.mem_cons,List.not_mem_nil,or_false] at hu
      rcases hu with rfl | rfl | rfl <;> rfl
     have T5 : Rd (w9.alloc (.cells #[.int .i64 (v9.1 : Int),.slice v9.2.1.1 v9.2.1.2.1 v9.2.1.2.2,.slice v9.2.2.1 v9.2.2.2.1 v9.2.2.2.2] 221)) 3 (some ⟨w9.heap.size,0,none⟩) [encPt v9]:=Rd.newAt (by simp) rfl
     have T6 : n0+1≤maxLen:=by unfold maxLen;omega
     go_wp2_with (at_builtin;refine wpList_app rfl (.tmp 45) (.tmp 47) _ rfl (w.heap.size+1) 221 i0 _ 3 56 Tryz.underlying219 hi0 hz0 hz1 hz2 rfl (by omega) A0 n0 c0 (vs.map encPt) rfl T1 _ 1 1 [encPt v9] rfl rfl T5 T4 T6 T2 T3 ?_;intro A3 c3 w10 ho10 hg10 hA10)
     have hb10 : Below w.heap.size w9 w10:=below_app ((Below.refl w.heap.size w9).alloc (by have:=hB9.lt;omega) _) hg10 (by have:=hB9.lt;simp;omega) (fun a ha=>by have:=(ho9.lt a ha).1;omega)
     have hr10:=hr9.belowB hb10 hpw HAw.out
     have HG10 : Hid (branchP names f' d (s.data.toList.drop y1) k9 (acc0++[p9]) = some (pat,rest,k')):=Lib.hid (by
      have h:=HBr.out
      rw [hqe,hle,hke] at h
      rw [Hd9.out];exact h)
     have hg10' : w.grownBy w10 (some p):=⟨hb10.os.trans hgg9.os,hb10.tape.trans hgg9.tape,hb10.output.trans hgg9.output,Nat.le_trans hgg9.size hb10.size,fun i hi hne=>(hb10.block i hi).trans (hgg9.block i hi hne)⟩
     have hNE : some w.heap.size ≠ A0.map (·.block):=fun e=>by
      cases hA1 : A0 with
      | none=>rw [hA1] at e;cases e
      | some a=>rw [hA1] at e;injection e with e;have e2 : w.heap.size = a.block:=e;have:=(ho9.lt a hA1).1;omega
     have hB10:=(hB9.alloc (.cells #[.int .i64 (v9.1 : Int),.slice v9.2.1.1 v9.2.1.2.1 v9.2.1.2.2,.slice v9.2.2.1 v9.2.2.2.1 v9.2.2.2.2] 221)).grown hg10 hNE
     have hkx : KeepX (OffX (w.heap.size+1) A0) (OffX (w.heap.size+1) A3) w9 w10:=(KeepX.below ((Below.refl w9.heap.size w9).alloc (Nat.le_refl _) (.cells #[.int .i64 (v9.1 : Int),.slice v9.2.1.1 v9.2.1.2.1 v9.2.1.2.2,.slice v9.2.2.1 v9.2.2.2.1 v9.2.2.2.2] 221))).trans ⟨hg10.size,fun b hb hl=>hg10.block b hl (fun e=>by
       cases hA1 : A0 with
       | none=>rw [hA1] at e;cases e
       | some a=>rw [hA1] at e;injection e with e;exact hb.2 a hA1 e),fun b hb hl=>⟨hb.1,fun a ha e=>by
       rcases hA10 with h1 | h1
       ·exact hb.2 a (by rw [← h1];exact ha) e
       ·rw [h1] at ha
        injection ha with ha
        subst ha
        simp at hl e
        omega⟩⟩
     have hps10:=PatsX.snoc (hpp.keep (KeepX.trans (KeepX.same (fun b hb _=>hb.1)) hkx)) (hps9.keep (KeepX.trans (KeepX.same (fun b hb _=>hb.1)) hkx))
     refine ⟨⟨y1,k9,f',acc0++[p9],A3,n0+1,c3,vs++[v9],rfl,by omega,by omega,hk9',hr10,HG10,hy1,hg10',hB10,by rw [List.map_append];exact ho10,hps10⟩,?_⟩
     rw [hr10.partsOf,Hat.out];omega
    ·have hys : y1 < s.size:=Nat.lt_of_not_le fun hle=>by
      have h1:=Hd9.out
      rw [drop_end s (by omega),hsk9] at h1
      cases h1
     have hdr9 : s.data.toList.drop (y1+1) = r9:=by
      obtain ⟨b',h1,_⟩:=byte_at s hys
      have h2:=Hd9.out
      rw [h1,hsk9] at h2
      injection h2
     have HOg : Hid (opsGo f8 (.node (pOper co) [] [p9]) (s.data.toList.drop (y1+1)) (k9+1) = some (q,l2,k2)):=Lib.hid (by rw [hdr9];exact hop9)
     have HC:=Lib.hid (jcounts_any p s A nn cn names y1 d k9 (y1 : Int) w9 hr9 hk5)
     have t0 : ((pOper co : Int) == 0) = false:=by rw [beq_eq_false_iff_ne];omega
     have c1:=hr9.c1
     have hz9:=hN9.lt
     clear hop9 hsk9 hdr9 Hd9
     go_wp2_with fail
     refine HOp.out.mono ?_
     rintro e w6 ⟨rfl,rfl⟩
     go_wp2_with fail
     refine HC.out.mono ?_
     rintro e w10 ⟨rfl,hr10,hg10⟩
     have hB10:=hB9.grown hg10 (fun e=>by injection e with e;omega)
     have ho10:=ho9.grown hg10 (fun a ha e=>by have:=(ho9.lt a ha).1;injection e with e;omega)
     have hps10:=hps9.keep (KeepX.grown hg10 (fun r hr h=>by injection hr with hr;subst hr;have:=h.1.1;omega))
     have hN10:=hN9.grown hg10 (fun e=>by injection e with e;omega)
     have hpp10:=hpp.keep (KeepX.grown hg10 (fun r hr h=>by injection hr with hr;subst hr;have:=h.1.1;omega))
     have hgg10:=only_trans hgg9 hg10
     clear hr9 hB9 ho9 hps9 hN9 hpp hgg9 hg10 c1 HC hz9
     have c1:=hr10.c1
     have f1:=hr10.f 1
     have hr11:=hr10.setAt (y1+1)
     have ez : ((y1+1 : Nat) : Int) = (y1 : Int)+1:=by omega
     rw [ez] at hr11
     have hB11:=hB10.far (p:=⟨p,1,none⟩) (by simp;omega) (.int .i64 ((y1 : Int)+1))
     have hN11:=hN10.far (p:=⟨p,1,none⟩) (by simp;omega) (.int .i64 ((y1 : Int)+1))
     have ho11:=ho10.setCell (p:=⟨p,1,none⟩) (fun a ha e=>by have:=(ho10.lt a ha).1;simp only at e;omega) (.int .i64 ((y1 : Int)+1))
     have hk11 : w10.grownBy (w10.setCell ⟨p,1,none⟩ (.int .i64 ((y1 : Int)+1))) (some p):=only_setCell (only_refl _ _) (p:=⟨p,1,none⟩) (.inl rfl) _
     have hps11:=hps10.keep (KeepX.grown hk11 (fun r hr h=>by injection hr with hr;subst hr;have:=h.1.1;omega))
     have hpp11:=hpp10.keep (KeepX.grown hk11 (fun r hr h=>by injection hr with hr;subst hr;have:=h.1.1;omega))
     have hg11:=only_trans hgg10 hk11
     clear hr10 hB10 ho10 hps10 hN10 hpp10 hgg10 hk11 ez
     go_upto_region 9 with fail
     clear c1 f1
     generalize w10.setCell ⟨p,1,none⟩ (.int .i64 ((y1 : Int)+1)) = V at hr11 hB11 hN11 ho11 hps11 hpp11 hg11 ⊢
     have e0:=hN11.cell 0
     have e1:=hN11.cell 1
     have e2:=hN11.cell 2
     simp only [zG,zI,zH] at e0 e1 e2
     have g0:=hN11.frozen 0
     have g1:=hN11.frozen 1
     have g2:=hN11.frozen 2
     have hVz:=hN11.lt
     have hgw : w.heap.size < g:=by omega
     have hgA : ∀ a,A0 = some a→a.block ≠ g:=fun a ha e=>by have:=hA0 a ha;omega
     have hAV : ∀ a,A0 = some a→a.block < V.heap.size:=fun a ha=>(ho11.lt a ha).2
     have hbU : Below w.heap.size V (((V.setCell ⟨g,0,none⟩ (.int .i64 (pOper co : Nat))).setCell ⟨g,1,none⟩ (.slice none 0 0)).setCell ⟨g,2,none⟩ (.slice (some ⟨V.heap.size,0,none⟩) 1 1)):=(((Below.refl _ _).setCell (p:=⟨g,0,none⟩) (by simp;omega) _).setCell (p:=⟨g,1,none⟩) (by simp;omega) _).setCell (p:=⟨g,2,none⟩) (by simp;omega) _
     have hgU : V.grownBy (((V.setCell ⟨g,0,none⟩ (.int .i64 (pOper co : Nat))).setCell ⟨g,1,none⟩ (.slice none 0 0)).setCell ⟨g,2,none⟩ (.slice (some ⟨V.heap.size,0,none⟩) 1 1)) (some g):=only_setCell (only_setCell (only_setCell (only_refl _ _) (p:=⟨g,0,none⟩) (.inl rfl) _) (p:=⟨g,1,none⟩) (.inl rfl) _) (p:=⟨g,2,none⟩) (.inl rfl) _
     have hN12:=((hN11.set_ 0 (.int .i64 (pOper co : Nat))).set_ 1 (.slice none 0 0)).set_ 2 (.slice (some ⟨V.heap.size,0,none⟩) 1 1)
     simp only [zD,zE,zF] at hN12
     have hr12:=hr11.belowB hbU hpw HAw.out
     have hkU : KeepX (fun b=>OffX (w.heap.size+1) A0 b∧b ≠ g) (fun b=>OffX (w.heap.size+1) A0 b∧b ≠ g) V (((V.setCell ⟨g,0,none⟩ (.int .i64 (pOper co : Nat))).setCell ⟨g,1,none⟩ (.slice none 0 0)).setCell ⟨g,2,none⟩ (.slice (some ⟨V.heap.size,0,none⟩) 1 1)):=KeepX.grown hgU (fun r hr h=>by injection hr with hr;exact h.2 hr.symm)
     have hg12:=only_setCell (only_setCell (only_setCell hg11 (p:=⟨g,0,none⟩) (.inr (by simp;omega)) (.int .i64 (pOper co : Nat))) (p:=⟨g,1,none⟩) (.inr (by simp;omega)) (.slice none 0 0)) (p:=⟨g,2,none⟩) (.inr (by simp;omega)) (.slice (some ⟨V.heap.size,0,none⟩) 1 1)
     have hB12:=((hB11.far (p:=⟨g,0,none⟩) (by simp;omega) (.int .i64 (pOper co : Nat))).far (p:=⟨g,1,none⟩) (by simp;omega) (.slice none 0 0)).far (p:=⟨g,2,none⟩) (by simp;omega) (.slice (some ⟨V.heap.size,0,none⟩) 1 1)
     have ho12:=((ho11.setCell (p:=⟨g,0,none⟩) hgA (.int .i64 (pOper co : Nat))).setCell (p:=⟨g,1,none⟩) hgA (.slice none 0 0)).setCell (p:=⟨g,2,none⟩) hgA (.slice (some ⟨V.heap.size,0,none⟩) 1 1)
     have hps12:=hps11.keep hkU
     have hpp12:=hpp11.keep hkU
     have hUz : (((V.setCell ⟨g,0,none⟩ (.int .i64 (pOper co : Nat))).setCell ⟨g,1,none⟩ (.slice none 0 0)).setCell ⟨g,2,none⟩ (.slice (some ⟨V.heap.size,0,none⟩) 1 1)).heap.size = V.heap.size:=by simp
     have HF:=Lib.hid (And.intro hB12 (And.intro hr12 (And.intro ho12 (And.intro hps12 (And.intro hpp12 (And.intro hg12 (And.intro hN12 hUz)))))))
     clear hB12 hr12 ho12 hps12 hpp12 hg12 hN12 hUz hkU hgU hbU hr11 hB11 hN11 ho11 hps11 hpp11 hg11
     go_wp2
     obtain ⟨hB12,hr12,ho12,hps12,hpp12,hg12,hN12,hUz⟩:=HF.out
     generalize ((V.setCell ⟨g,0,none⟩ (.int .i64 (pOper co : Nat))).setCell ⟨g,1,none⟩ (.slice none 0 0)).setCell ⟨g,2,none⟩ (.slice (some ⟨V.heap.size,0,none⟩) 1 1) = U at hB12 hr12 ho12 hps12 hpp12 hg12 hN12 hUz ⊢
     clear g0 g1 g2 HF
     have hbV : Below U.heap.size U (U.alloc (.cells #[.int .i64 (v9.1 : Int),.slice v9.2.1.1 v9.2.1.2.1 v9.2.1.2.2,.slice v9.2.2.1 v9.2.2.2.1 v9.2.2.2.2] 221)):=(Below.refl U.heap.size U).alloc (Nat.le_refl _) _
     have hr13:=hr12.below hbV
     have hR13 : Rd (U.alloc (.cells #[.int .i64 (v9.1 : Int),.slice v9.2.1.1 v9.2.1.2.1 v9.2.1.2.2,.slice v9.2.2.1 v9.2.2.2.1 v9.2.2.2.2] 221)) 3 (some ⟨V.heap.size,0,none⟩) ([v9].map encPt):=Rd.newAt hUz.symm rfl
     refine ⟨⟨y1+1,k9+1,f8,.node (pOper co) [] [p9],(pOper co,(none,0,0),(some ⟨V.heap.size,0,none⟩,1,1)),hr13,HOg,by omega,by omega,by omega,only_below hg12 hbV,hB12.below hbV,ho12.below hbV,hps12.below hbV,hN12.below hbV,?_⟩,?_⟩
     ·simp only [PatX]
      refine ⟨trivial,SlX.nil_ _ _ _,[v9],⟨hR13,rfl,fun a ha=>?_,Nat.le_refl _⟩,?_⟩
      ·injection ha with ha
       subst ha
       exact ⟨⟨⟨by simp;omega,fun a ha e=>by have:=hAV a ha;simp only at e;omega⟩,by simp;omega⟩,by simp;omega⟩
      ·simp only [PatsX]
       exact ⟨v9,[],rfl,hpp12.below hbV,rfl⟩
     ·rw [hr13.partsOf,Hat9.out];omega
end
end Go.Proofs.YtlfpdpbbkjnapaaGreatDoor
