/- -/
import Derived.Test.YtglmcknlnoknoaaGreatDoorYWordWordsKg
import Derived.Test.YtglmcknlnoknoaaGreatDoorYWordWords0b
namespace Go.Proofs.YtglmcknlnoknoaaGreatDoor
set_option maxRecDepth 100000
set_option maxHeartbeats 40000000
section
open Go.RowKit Go.Shelf
attribute [local go_sem] Oper.semAt_some
def encP2 (x : Nat × Nat) : Array Value:=#[.int .i64 (x.1 : Nat),.int .i64 (x.2 : Nat)]
def encCl (s : ByteArray) (x : Nat × Nat) : Array Value:=encP2 (clP s x)
theorem kEach_any (s : ByteArray) (w : World) : Calls Tryz.prog 90 #[.string s] w fun e w'=>∃ bs,e = .returned (.func (.func 148) #[] #[.pointer (some ⟨bs,0,none⟩)])∧w'.cell? ⟨bs,0,none⟩ = some (.string s)∧Below w.heap.size w w':=by
 have hmf : ∀ (fn : Fn) (first cap : Array Value) (w : World),(Instr.makeFunc fn first cap).run Tryz.prog w = .ok (.func fn first cap) w:=fun _ _ _ _=>rfl
 go_enter Tryz.func90,Tryz.ntmps90
 go_wp2
 go_ret
 exact ⟨_,rfl,(Blk.new w 9 #[.string s]).cell 0,(Below.refl _ _).alloc (Nat.le_refl _) _⟩
theorem kEach_seq (n : Nat) (hn : 1≤n) (w : World) (s : ByteArray) (bs : Nat) (X : Nat→Prop) (hX : ∀ b,X b→b < w.heap.size) (hE : Env w) (hs : s.size≤1000000) (h : w.cell? ⟨bs,0,none⟩ = some (.string s)) :
  SeqStopsK Fence.wide n Tryz.prog 148 #[.pointer (some ⟨bs,0,none⟩)] (encCl s) (KT 3 X) (fun ys=>ys = piecesF (wBounds gW s)) (fun pre=>pre <+: piecesF (wBounds gW s)) (piecesF (wBounds gW s)).length w:=by
 intro l J Jx W hW hJ _ hY h0
 have hc1 : W.cell? ⟨bs,0,none⟩ = some (.string s):=cell_keep h hW
 have hWz:=hW.size
 have HB:=Lib.hid (kBounds_any s W (hE.below hW) hs)
 have HL:=Lib.hid (wBounds_len gW s)
 have HP:=Lib.hid (piecesF_le (wBounds_rise gW s) (wBounds_le gW s))
 clear hE h
 refine callsIn_of_wp Tryz.func148 rfl trivial ?_ rfl
 simp only [Tryz.ntmps148,List.size_toArray,List.length_cons,List.length_nil,Nat.reduceAdd,Nat.reduceSub,Array.replicate_succ,Array.replicate_zero,List.push_toArray,List.append_toArray,List.nil_append,List.cons_append]
 refine wpIn_wide.2 ?_
 go_wp2_with fail
 refine HB.out.mono ?_
 rintro e w1 ⟨A,m,c,rfl,ho,hb1⟩
 have hJ1 : J [] w1:=abides_below hJ h0 hb1
 have hm : (wBounds gW s).length = m:=by have:=ho.len;simpa using this
 have hz : m≤1000001:=by have:=HL.out;omega
 have Hm:=Lib.hid hm
 clear hm
 go_wp2_with fail
 refine (wpIn_wide (n:=n)).1 ?_
 gi_loopw [4] (fun v wr=>∃ k j : Nat,v = .int .i64 (j : Int)∧Hid (j = k+1)∧(k = 0∨k+1≤m)∧J ((piecesF (wBounds gW s)).take k) wr∧Own wr W.heap.size 3 1 A m c ((wBounds gW s).map encN)) (fun v _=>m+1 - (intOf v).toNat)
 case atStart=>exact ⟨0,1,rfl,Lib.hid rfl,.inl rfl,hJ1,ho⟩
 case round =>
  obtain ⟨k,j,rfl,HJ,hk,hJr,hor⟩:=hrel
  by_cases hlt : j < m
  ·have hjm : k+1 < m:=by have:=HJ.out;omega
   have rd:=hor.rd (by decide)
   obtain ⟨x,Hx⟩ : ∃ x,Hid ((wBounds gW s)[k]? = some x):=⟨_,Lib.hid (List.getElem?_eq_getElem (by have:=Hm.out;omega))⟩
   obtain ⟨y,Hy⟩ : ∃ y,Hid ((wBounds gW s)[k+1]? = some y):=⟨_,Lib.hid (List.getElem?_eq_getElem (by have:=Hm.out;omega))⟩
   obtain ⟨b,off,rfl,cx⟩:=Rd.atQ rd Hx.out
   obtain ⟨b',off',e2,cy⟩:=Rd.atQ rd Hy.out
   injection e2 with e2
   injection e2 with e2 e3
   subst e2 e3
   have hat:=piecesF_at _ k x y Hx.out Hy.out
   have hcl : clP s (x,y) = (x,y):=clP_in (HP.out _ (List.mem_of_getElem? hat))
   have hp : (piecesF (wBounds gW s)).take k++[(x,y)] = (piecesF (wBounds gW s)).take (k+1):=by
    rw [List.take_add_one,hat];rfl
   have hlen : ((piecesF (wBounds gW s)).take k).length < (piecesF (wBounds gW s)).length:=by
    rw [List.length_take,piecesF_len,Hm.out];omega
   have e4 : (j : Int) - 1 = (k : Int):=by have:=HJ.out;omega
   have e5 : IntKind.i64.wrap ((j : Int) - 1) = (k : Int):=by rw [e4];exact IntWalk.i64_in _ (by omega)
   have e6 : IntKind.i64.wrap (k : Int) = (k : Int):=IntWalk.i64_in _ (by omega)
   have hk0 : (0 : Int)≤(k : Int):=by omega
   have hkm : (k : Int) < (m : Int):=by omega
   have hkN : k < m:=by omega
   have hjN : j < m:=by omega
   have hj0 : (0 : Int)≤(j : Int):=by omega
   have hj1 : (j : Int) < (m : Int):=by omega
   have cy : wr.cell? ⟨b,off+j,none⟩ = some (.int .i64 (y : Nat)):=by rw [HJ.out];exact cy
   have hYW:=YieldAt.mono (R':=fun e W'=>∃ q : Bool,e = .returned (.bool q)∧(q = true→J ((piecesF (wBounds gW s)).take (k+1)) W'∧KT 3 X wr.drew W')∧(q = false→Jx ((piecesF (wBounds gW s)).take (k+1)) W')) (hY _ (x,y) wr.drew (abides_below hJ hJr (Below.refl _ _).drew) hlen) (by
    rw [hp]
    rintro e W' (⟨h1,h2,h3⟩ | ⟨h1,h2⟩)
    ·exact ⟨true,h1,fun _=>⟨h2,h3⟩,fun h=>absurd h (by decide)⟩
    ·exact ⟨false,h1,fun h=>absurd h (by decide),fun _=>h2⟩)
   obtain ⟨fn,tmps,assign,body,hy,hR⟩:=hYW
   dsimp only [encCl] at hy
   rw [hcl] at hy
   dsimp only [encP2] at hy
   clear hat hcl hlen hjm
   have hmx : Tryz.prog.follows .mixedOrders = true:=by kernel_rfl
   gi_wp2_with fail
   gi_region_with_o (refine hR.mono ?_;rintro e W4 ⟨q,rfl,hqt,hqf⟩)
   all_goals
    cases q with
    | true =>
     obtain ⟨hJ4,hk4⟩:=hqt rfl
     gi_wp2_with fail
     go_roundw
     case rel=>exact ⟨k+1,j+1,by go_num,Lib.hid (by rw [HJ.out]),.inr (by have:=HJ.out;omega),hJ4,hk4.own hor (fun b hb=>Nat.lt_of_lt_of_le (hX b hb) hWz)⟩
     case measure=>simp [intOf];omega
    | false =>
     have hJ4:=hqf rfl
     gi_wp2
     refine bodyPost_ret (results_none rfl _ _ _) rfl ?_
     exact ⟨⟨_,rfl⟩,.inr ⟨_,List.take_prefix _ _,hJ4⟩⟩
  ·have hend : (piecesF (wBounds gW s)).take k = piecesF (wBounds gW s):=List.take_of_length_le (by have:=HJ.out;rw [piecesF_len,Hm.out];omega)
   rw [hend] at hJr
   gi_wp2
   go_end0
   first | exact ⟨⟨_,rfl⟩,.inl hJr⟩ | exact ⟨⟨_,rfl⟩,.inl ⟨_,rfl,hJr⟩⟩
end
end Go.Proofs.YtglmcknlnoknoaaGreatDoor
