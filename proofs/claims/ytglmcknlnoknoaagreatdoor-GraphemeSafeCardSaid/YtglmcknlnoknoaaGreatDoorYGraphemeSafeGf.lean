/- -/
import Derived.Test.YtglmcknlnoknoaaGreatDoorYGraphemeSafe1a
import Derived.Test.YtglmcknlnoknoaaGreatDoorYGraphemeSafe0b
import Derived.Test.YtglmcknlnoknoaaGreatDoorYGraphemeSafe0a
namespace Go.Proofs.YtglmcknlnoknoaaGreatDoor
open Go.RowKit Go.Shelf
attribute [local go_sem] Oper.semAt_some
def encP2 (x : Nat × Nat) : Array Value:=#[.int .i64 (x.1 : Nat),.int .i64 (x.2 : Nat)]
set_option maxRecDepth 100000 in
theorem gBack_any (s : ByteArray) (w : World) : Calls Tryz.prog 124 #[.string s] w fun e w'=>∃ bs,e = .returned (.func (.func 170) #[] #[.pointer (some ⟨bs,0,none⟩)]) ∧ w'.cell? ⟨bs,0,none⟩ = some (.string s) ∧ Below w.heap.size w w':=by
 have hmf : ∀ (fn : Fn) (first cap : Array Value) (w : World),(Instr.makeFunc fn first cap).run Tryz.prog w = .ok (.func fn first cap) w:=fun _ _ _ _=>rfl
 go_enter Tryz.func124,Tryz.ntmps124
 go_wp2
 go_ret
 exact ⟨_,rfl,(Blk.new w 9 #[.string s]).cell 0,(Below.refl _ _).alloc (Nat.le_refl _) _⟩
def encCl (s : ByteArray) (x : Nat × Nat) : Array Value:=encP2 (clP s x)
def gatP (s : ByteArray) (pre : List (Nat × Nat)) : List UInt8:=pre.flatMap fun x=>(s.extract (clP s x).1 (clP s x).2).data.toList
theorem gatP_snoc (s : ByteArray) (pre : List (Nat × Nat)) (x : Nat × Nat) : gatP s (pre ++ [x]) = gatP s pre ++ (s.extract (clP s x).1 (clP s x).2).data.toList:=by
 unfold gatP;rw [List.flatMap_append];simp
theorem gatP_len (s : ByteArray) : ∀ (pre : List (Nat × Nat)),(gatP s pre).length ≤ pre.length * s.size
 | []=>by simp [gatP]
 | x :: r=>by
  have ih:=gatP_len s r
  have hb:=clP_le s x
  unfold gatP at ih ⊢
  rw [List.flatMap_cons,List.length_append,extract_len s hb.2,List.length_cons,Nat.add_mul]
  omega
theorem gatP_turn {s : ByteArray} {L : List Nat} (h1 : L.Pairwise (· < ·)) (h2 : ∀ a ∈ L,a ≤ s.size) : gatP s (piecesB L) = turnL s L:=by
 rw [turn_pieces]
 have key : ∀ (l : List (Nat × Nat)),(∀ x ∈ l,x ∈ piecesB L) → gatP s l = l.flatMap fun x=>(s.extract x.1 x.2).data.toList:=by
  intro l
  induction l with
  | nil=>intro _;rfl
  | cons x r ih =>
   intro h
   have ih:=ih (fun y hy=>h y (List.mem_cons_of_mem _ hy))
   unfold gatP at ih ⊢
   rw [List.flatMap_cons,List.flatMap_cons,ih,clP_in (piecesB_le h1 h2 x (h x List.mem_cons_self))]
 exact key _ (fun _ h=>h)
def encB8 (b : UInt8) : List Value:=[.int .u8 b.toNat]
theorem flat8 (l : List UInt8) : (l.map encB8).flatten = Lib.byteCells l:=by
 induction l with
 | nil=>rfl
 | cons b r ih=>rw [List.map_cons,List.flatten_cons,ih];rfl
theorem own_of_B {w : World} {B : Nat} {v : Value} {l : List UInt8} (h : OwnB w B v l) : ∃ A n c,v = .slice A n c ∧ n = l.length ∧ Own w B 5 1 A n c (l.map encB8):=by
 rcases h.2 with ⟨rfl,h0⟩ | ⟨g,cap,cur,rfl,_⟩
 ·exact ⟨_,_,_,rfl,by omega,by simpa using h0,fun x hx=>by obtain ⟨y,_,rfl⟩:=List.mem_map.1 hx;rfl,by rw [flat8];unfold OwnB at h;rw [h0] at h;exact h⟩
 ·exact ⟨_,_,_,rfl,rfl,by simp,fun x hx=>by obtain ⟨y,_,rfl⟩:=List.mem_map.1 hx;rfl,by rw [flat8];exact h⟩
theorem B_of_own {w : World} {B : Nat} {A : Option Addr} {n c : Nat} {l : List UInt8} (h : Own w B 5 1 A n c (l.map encB8)) : n = l.length ∧ OwnB w B (.slice A n c) l:=by
 have h1 : n = l.length:=by have:=h.len;simpa using this.symm
 have h2:=h.2.2
 rw [flat8] at h2
 refine ⟨h1,?_⟩
 unfold OwnB
 rw [← h1]
 exact h2
set_option maxRecDepth 100000 in
set_option maxHeartbeats 4000000 in
theorem gBack_seq (n : Nat) (hn : 1 ≤ n) (w : World) (s : ByteArray) (bs : Nat) (X : Nat → Prop) (hX : ∀ b,X b → b < w.heap.size) (hE : Env w) (hs : s.size ≤ 1000000) (h : w.cell? ⟨bs,0,none⟩ = some (.string s)) :
  SeqStopsK Fence.wide n Tryz.prog 170 #[.pointer (some ⟨bs,0,none⟩)] (encCl s) (KT 3 X) (fun ys=>ys = piecesB (boundsG gG s)) (fun pre=>pre <+: piecesB (boundsG gG s)) (piecesB (boundsG gG s)).length w:=by
 intro l J Jx W hW hJ _ hY h0
 have hc1 : W.cell? ⟨bs,0,none⟩ = some (.string s):=cell_keep h hW
 have hWz:=hW.size
 have HB:=Lib.hid (gBounds_any s W (hE.below hW) hs)
 have HL:=Lib.hid (bounds_len s)
 have HP:=Lib.hid (piecesB_le (bounds_rise gG s) (bounds_le gG s))
 clear hE h
 refine callsIn_of_wp Tryz.func170 rfl trivial ?_ rfl
 simp only [Tryz.ntmps170,List.size_toArray,List.length_cons,List.length_nil,Nat.reduceAdd,Nat.reduceSub,Array.replicate_succ,Array.replicate_zero,List.push_toArray,List.append_toArray,List.nil_append,List.cons_append]
 refine wpIn_wide.2 ?_
 go_wp2_with fail
 refine HB.out.mono ?_
 rintro e w1 ⟨A,m,c,rfl,ho,hb1⟩
 have hJ1 : J [] w1:=abides_below hJ h0 hb1
 have hm : (boundsG gG s).length = m:=by have:=ho.len;simpa using this
 have hz : m ≤ 1000001:=by have:=HL.out;omega
 have Hm:=Lib.hid hm
 clear hm
 go_wp2_with fail
 refine (wpIn_wide (n:=n)).1 ?_
 gi_loopw [4] (fun v wr=>∃ i : Nat,v = .int .i64 ((i : Int) - 1) ∧ i ≤ m ∧ J ((piecesB (boundsG gG s)).take (m - i)) wr ∧ Own wr W.heap.size 3 1 A m c ((boundsG gG s).map encN)) (fun v _=>(intOf v).toNat)
 case atStart=>exact ⟨m,rfl,Nat.le_refl _,by rw [Nat.sub_self];exact hJ1,ho⟩
 case round =>
  obtain ⟨i,rfl,hi,hJr,hor⟩:=hrel
  by_cases hlt : 1 < i
  ·obtain ⟨j,hj⟩ : ∃ j,i = j + 1:=⟨i - 1,by omega⟩
   obtain ⟨k,hk⟩ : ∃ k,j = k + 1:=⟨j - 1,by omega⟩
   have rd:=hor.rd (by decide)
   obtain ⟨x,Hx⟩ : ∃ x,Hid ((boundsG gG s)[k]? = some x):=⟨_,Lib.hid (List.getElem?_eq_getElem (by have:=Hm.out;omega))⟩
   obtain ⟨y,Hy⟩ : ∃ y,Hid ((boundsG gG s)[k + 1]? = some y):=⟨_,Lib.hid (List.getElem?_eq_getElem (by have:=Hm.out;omega))⟩
   obtain ⟨b,off,rfl,cx⟩:=Rd.atQ rd Hx.out
   obtain ⟨b',off',e2,cy⟩:=Rd.atQ rd Hy.out
   injection e2 with e2
   injection e2 with e2 e3
   subst e2 e3
   have hat:=piecesB_at _ k x y Hx.out Hy.out
   have hcl : clP s (x,y) = (x,y):=clP_in (HP.out _ (List.mem_of_getElem? hat))
   have hp : (piecesB (boundsG gG s)).take (m - i) ++ [(x,y)] = (piecesB (boundsG gG s)).take (m - j):=by
    rw [show m - j = m - i + 1 by omega,List.take_add_one]
    rw [Hm.out,show m - 2 - k = m - i by omega] at hat
    rw [hat];rfl
   have hlen : ((piecesB (boundsG gG s)).take (m - i)).length < (piecesB (boundsG gG s)).length:=by
    rw [List.length_take,piecesB_len,Hm.out];omega
   have e1 : (i : Int) - 1 = (j : Int):=by omega
   rw [e1]
   have e4 : (j : Int) - 1 = (k : Int):=by omega
   have e5 : IntKind.i64.wrap ((j : Int) - 1) = (k : Int):=by rw [e4];exact IntWalk.i64_in _ (by omega)
   have e6 : IntKind.i64.wrap (k : Int) = (k : Int):=IntWalk.i64_in _ (by omega)
   have hk0 : (0 : Int) ≤ (k : Int):=by omega
   have hkm : (k : Int) < (m : Int):=by omega
   have hkN : k < m:=by omega
   have hjN : j < m:=by omega
   have hj0 : (0 : Int) ≤ (j : Int):=by omega
   have hj1 : (j : Int) < (m : Int):=by omega
   have hj2 : (j : Int) > 0:=by omega
   have cy : wr.cell? ⟨b,off + j,none⟩ = some (.int .i64 (y : Nat)):=by rw [hk];exact cy
   have hYW:=YieldAt.mono (R':=fun e W'=>∃ q : Bool,e = .returned (.bool q) ∧ (q = true → J ((piecesB (boundsG gG s)).take (m - j)) W' ∧ KT 3 X wr.drew W') ∧ (q = false → Jx ((piecesB (boundsG gG s)).take (m - j)) W')) (hY _ (x,y) wr.drew (abides_below hJ hJr (Below.refl _ _).drew) hlen) (by
    rw [hp]
    rintro e W' (⟨h1,h2,h3⟩ | ⟨h1,h2⟩)
    ·exact ⟨true,h1,fun _=>⟨h2,h3⟩,fun h=>absurd h (by decide)⟩
    ·exact ⟨false,h1,fun h=>absurd h (by decide),fun _=>h2⟩)
   obtain ⟨fn,tmps,assign,body,hy,hR⟩:=hYW
   dsimp only [encCl] at hy
   rw [hcl] at hy
   dsimp only [encP2] at hy
   have Hj:=Lib.hid hj
   have Hk:=Lib.hid hk
   clear hat hcl hlen hj hk e1
   have hmx : Tryz.prog.follows .mixedOrders = true:=by kernel_rfl
   gi_wp2_with fail
   gi_region_with_o (refine hR.mono ?_;rintro e W4 ⟨q,rfl,hqt,hqf⟩)
   all_goals
    cases q with
    | true =>
     obtain ⟨hJ4,hk4⟩:=hqt rfl
     gi_wp2_with fail
     go_roundw
     case rel=>exact ⟨j,by first | rfl | (rw [e4]) | (have:=Hk.out;go_num),by have:=Hj.out;omega,hJ4,hk4.own hor (fun b hb=>Nat.lt_of_lt_of_le (hX b hb) hWz)⟩
     case measure=>simp [intOf];omega
    | false =>
     have hJ4:=hqf rfl
     gi_wp2
     refine bodyPost_ret (results_none rfl _ _ _) rfl ?_
     exact ⟨⟨_,rfl⟩,.inr ⟨_,List.take_prefix _ _,hJ4⟩⟩
  ·have hend : (piecesB (boundsG gG s)).take (m - i) = piecesB (boundsG gG s):=List.take_of_length_le (by rw [piecesB_len,Hm.out];omega)
   rw [hend] at hJr
   have g0 : ¬ ((i : Int) - 1 > 0):=by omega
   gi_wp2
   go_end0
   first | exact ⟨⟨_,rfl⟩,.inl hJr⟩ | exact ⟨⟨_,rfl⟩,.inl ⟨_,rfl,hJr⟩⟩
set_option maxRecDepth 100000 in
set_option maxHeartbeats 4000000 in
theorem gTurn_any (s : ByteArray) (w : World) (hE : Env w) (hs : s.size ≤ 1000000) : Calls Tryz.prog 69 #[.string s] w fun e w'=>e = .returned (.string (bytesOf (turnL s (boundsG gG s)))) ∧ Below w.heap.size w w':=by
 have HB : Below w.heap.size w ((w.alloc (.cells #[.string s] 9)).alloc (.cells #[.slice none 0 0] 164)):=((Below.refl _ _).alloc (Nat.le_refl _) _).alloc (by simp) _
 have B0 : Blk ((w.alloc (.cells #[.string s] 9)).alloc (.cells #[.slice none 0 0] 164)) (w.heap.size + 1) 164 #[.slice none 0 0]:=by
  have:=Blk.new (w.alloc (.cells #[.string s] 9)) 164 #[.slice none 0 0]
  rw [World.size_alloc] at this
  exact this
 have B1 : Blk ((w.alloc (.cells #[.string s] 9)).alloc (.cells #[.slice none 0 0] 164)) w.heap.size 9 #[.string s]:=(Blk.new w 9 #[.string s]).alloc _
 obtain ⟨i0,hi0,hz0,hz1,hz2⟩:=info_parts infoB8
 have hGT:=gatP_turn (bounds_rise gG s) (bounds_le gG s)
 have hPL : (piecesB (boundsG gG s)).length ≤ 1000000:=by rw [piecesB_len];have:=bounds_len s;omega
 refine (callsIn_wide (n:=6)).1 ?_
 refine callsIn_of_wp_marks Tryz.func69 rfl trivial ?_ rfl
 simp only [Tryz.ntmps69,List.size_toArray,List.length_cons,List.length_nil,Nat.reduceAdd,Nat.reduceSub,Array.replicate_succ,Array.replicate_zero,List.push_toArray,List.append_toArray,List.nil_append,List.cons_append]
 refine wpIn_wide.2 ?_
 go_wp2_with fail
 generalize ((w.alloc (.cells #[.string s] 9)).alloc (.cells #[.slice none 0 0] 164)) = w0 at HB B0 B1 ⊢
 have c1:=B1.cell 0
 simp only [List.getElem?_toArray,List.getElem?_cons_zero] at c1
 go_wp2_with fail
 refine (gBack_any s w0).mono ?_
 rintro e w1 ⟨bs,rfl,hc,hb⟩
 have B01:=B0.below hb
 have B11:=B1.below hb
 have HB1:=below_two HB hb
 have hE1:=hE.below HB1
 have hzb : w.heap.size + 1 < w1.heap.size:=B01.lt
 clear B0 B1 hb HB c1 hE
 go_wp2_with fail
 refine (wpIn_wide (n:=6)).1 ?_
 refine rngH rfl (by decide) (gf:=170) (lb:=#[.pointer (some ⟨bs,0,none⟩)]) rfl trivial (enters_of Tryz.func170 (by kernel_rfl) rfl)
  (gBack_seq 5 (by decide) w1 s bs (fun _=>False) (fun _ h=>h.elim) hE1 hs hc) (fun h k=>h.trans k) (fun W l o o' _ h hc _=>KT.put W l o o' h hc) (Below.refl _ _) (fun _=>rfl) (fun W=>KT.refl _ _ W)
  (fun (pre : List (Nat × Nat)) W=>Gat w1 (w.heap.size + 1) 164 5 ((gatP s pre).map encB8) W) (fun _ _ _=>False) (Gat.own (f:=fun (pre : List (Nat × Nat))=>(gatP s pre).map encB8) (Nat.le_refl _)) (fun _ _ _ _ _ hs _ _=>hs)
  ⟨none,0,0,B01,Own.nil_ _ _ _ _,only_refl _ _⟩
  (fun T x=>((((T.setIfInBounds 8 (.int .i64 ((clP s x).1 : Nat))).setIfInBounds 9 (.int .i64 ((clP s x).2 : Nat))).setIfInBounds 4 (.int .i64 ((clP s x).1 : Nat))).setIfInBounds 5 (.int .i64 ((clP s x).2 : Nat)))) ?assign ?body ?done ?stop
 case assign =>
  intro l2 x V K hK
  simp only [List.setIfInBounds_toArray,List.set_cons_succ,List.set_cons_zero] at hK
  simp only [encCl,encP2]
  gi_wp2
  exact hK
 case stop =>
  rintro D cc pre W _ hp h _
  exact absurd h id
 case body =>
  rintro l2 pre x W hl2 _ ⟨A9,n9,c9,BaW,oW,hgW⟩ hlen
  have hcx:=clP_le s x
  have hgs:=gatP_snoc s pre x
  obtain ⟨⟨a,b⟩,hab⟩ : ∃ z,clP s x = z:=⟨_,rfl⟩
  rw [hab] at hcx hgs ⊢
  simp only at hcx hgs ⊢
  simp only [List.setIfInBounds_toArray,List.set_cons_succ,List.set_cons_zero]
  have hA9:=oW.lt
  obtain ⟨hn9,hob⟩:=B_of_own oW
  subst hn9
  have hbl : (gatP s pre).length ≤ 1000000 * 1000000:=Nat.le_trans (gatP_len s pre) (Nat.mul_le_mul (by omega) hs)
  have hzW:=hgW.size
  have cS : W.cell? ⟨w.heap.size,0,none⟩ = some (.string s):=by
   have h1 : Blk W w.heap.size 9 #[.string s]:=(hgW.block _ (by omega) (fun e=>by injection e with e;omega)).trans B11
   exact h1.cell 0
  have c10:=BaW.cell 0
  simp only [List.getElem?_toArray,List.getElem?_cons_zero] at c10
  have hes:=extract_len s (a:=a) hcx.2
  have hes2 : (s.extract a b).size = b - a:=by rw [ByteArray.size_extract];omega
  have ha0 : (0 : Int) ≤ (a : Int):=by omega
  have ha1 : (a : Int) ≤ (b : Int):=by omega
  have ha2 : (b : Int) ≤ (s.size : Int):=by omega
  gi_wp2_with fail
  refine wpIn_region_round (S:=fun V=>V.cell? ⟨w.heap.size,0,none⟩ = some (.string s)) (by kernel_rfl) (by kernel_rfl) (fun h=>by obtain ⟨_,_,h⟩:=h;exact h) cS (fun hHeld=>?_)
  refine wpAnyH_take (i:=1) (v:=?_) rfl (by kernel_rfl) (by kernel_rfl) (by kernel_rfl) (fun _ _ _ h=>h) (Or.inl ⟨by rfl,?_⟩) (by assumption) ?_;rotate_left;focus ((intro w hSw;(try dsimp only at hSw);go_simp);try with_reducible rfl)
  (try simp only [Act.put,List.getElem_toArray,List.getElem_cons_succ,List.getElem_cons_zero,List.setIfInBounds_toArray,List.set_cons_zero,List.set_cons_succ])
  refine wpAnyH_take (i:=2) (v:=?_) rfl (by kernel_rfl) (by kernel_rfl) (by kernel_rfl) (fun _ _ _ h=>h) (Or.inl ⟨by rfl,?_⟩) (by assumption) ?_;rotate_left;focus ((intro w hSw;(try dsimp only at hSw);go_simp);try with_reducible rfl)
  (try simp only [Act.put,List.getElem_toArray,List.getElem_cons_succ,List.getElem_cons_zero,List.setIfInBounds_toArray,List.set_cons_zero,List.set_cons_succ])
  refine wpAnyH_take (i:=3) (v:=?_) rfl (by kernel_rfl) (by kernel_rfl) (by kernel_rfl) (fun _ _ _ h=>h) (Or.inl ⟨by rfl,?_⟩) (by assumption) ?_;rotate_left;focus ((intro w hSw;(try dsimp only at hSw);go_simp);try with_reducible rfl)
  (try simp only [Act.put,List.getElem_toArray,List.getElem_cons_succ,List.getElem_cons_zero,List.setIfInBounds_toArray,List.set_cons_zero,List.set_cons_succ])
  refine wpAnyH_take (i:=4) (v:=?_) rfl (by kernel_rfl) (by kernel_rfl) (by kernel_rfl) (fun _ _ _ h=>h) (Or.inl ⟨by rfl,?_⟩) (by assumption) ?_;rotate_left;focus ((intro w hSw;(try dsimp only at hSw);go_simp);try with_reducible rfl)
  (try simp only [Act.put,List.getElem_toArray,List.getElem_cons_succ,List.getElem_cons_zero,List.setIfInBounds_toArray,List.set_cons_zero,List.set_cons_succ])
  refine wpAnyH_ready (rs:=[0]) (by kernel_rfl) (by simp) ?_
  refine AllReadyH.cons rfl (fun K hK=>?_) AllReadyH.nil
  go_simp
  refine hK.out _ _ cS (fun hHeld=>?_)
  clear hK K
  (try simp only [Act.put,List.getElem_toArray,List.getElem_cons_succ,List.getElem_cons_zero,List.setIfInBounds_toArray,List.set_cons_zero,List.set_cons_succ])
  refine wpAnyH_ready (rs:=[5]) (by kernel_rfl) (by simp) ?_
  refine AllReadyH.cons rfl (fun K hK=>?_) AllReadyH.nil
  refine step_appS rfl (.tmp 10) (.tmp 14) _ _ rfl w1.heap.size 5 i0 Tryz.underlying164 Tryz.underlying9 hi0 hz0 hz1 hz2 _ (gatP s pre).length (Lib.byteCells (gatP s pre)) rfl hob (s.extract a b) rfl (by unfold maxLen;omega) (by omega) (by simp;omega) ?_
  intro v3 w3 ho3 hg3
  have ho4:=OwnB.str ho3 rfl
  rw [← hgs] at ho4
  obtain ⟨A3,n3,c3,rfl,hn3,ho5⟩:=own_of_B ho4
  clear hn3 hes2 hes
  have hg4 : W.drew.grownBy w3 (Value.slice A9 (gatP s pre).length c9).ownBlock:=hg3
  have cS3:=cell_grownS (w:=W.drew) cS hob hg4 (by omega)
  have B3 : Blk w3 (w.heap.size + 1) 164 #[.slice A9 (gatP s pre).length c9]:=(hg4.block _ (by show _ < W.heap.size;omega) (fun e=>by have:=hob.lt _ e.symm;omega)).trans BaW
  have f3:=B3.frozen 0
  have c3b:=B3.cell 0
  simp only [List.getElem?_toArray,List.getElem?_cons_zero] at c3b
  refine hK.out _ _ cS3 (fun hHeld=>?_)
  clear hK K
  (try simp only [Act.put,List.getElem_toArray,List.getElem_cons_succ,List.getElem_cons_zero,List.setIfInBounds_toArray,List.set_cons_zero,List.set_cons_succ])
  refine wpAnyH_ready (rs:=[6]) (by kernel_rfl) (by simp) ?_
  refine AllReadyH.cons rfl (fun K hK=>?_) AllReadyH.nil
  go_simp
  refine hK.out _ _ (by show World.cell? _ _ = _;first | exact cell_set_ne cS3 | (simp [World.cell?_setCell_far,cS3])) (fun hHeld=>?_)
  clear hK K
  (try simp only [Act.put,List.getElem_toArray,List.getElem_cons_succ,List.getElem_cons_zero,List.setIfInBounds_toArray,List.set_cons_zero,List.set_cons_succ])
  refine wpAnyH_done (by kernel_rfl) ?_ _
  have hV : W.grownBy w3 (A9.map (·.block)):=by
   cases A9 with
   | none=>exact ⟨hg4.os,hg4.tape,hg4.output,hg4.size,hg4.block⟩
   | some q=>exact ⟨hg4.os,hg4.tape,hg4.output,hg4.size,hg4.block⟩
  obtain ⟨k1,_,k3⟩:=Gat.step hzb BaW oW hgW hV ho5
  exact ⟨k1,Gat.stepT (by decide) (by decide) BaW oW hV _,k3⟩
 case done =>
  rintro D ys V hD hys ⟨A,n,c,B,ho,hg⟩ hK
  have c10:=B.cell 0
  simp only [List.getElem?_toArray,List.getElem?_cons_zero] at c10
  subst hys
  rw [hGT] at ho
  obtain ⟨hn,hob⟩:=B_of_own ho
  subst hn
  have hcv:=hob.convert
  go_wp2
  refine ⟨by simp,.inl ⟨_,_,rfl,run_takeDeferred hK,?_⟩⟩
  refine ⟨_,results_tmp rfl _ _ _,rfl,?_⟩
  exact (HB1.trans (below_only (B:=w.heap.size) hg (by omega) (by omega))).trans (belowK_b (w:=w) (Nat.le_refl _) _ D _ _ (by omega) hK rfl rfl)
end Go.Proofs.YtglmcknlnoknoaaGreatDoor
