/- -/
import Derived.Deep.RegionHeld3
import Derived.Test.YtglmcknlnoknoaaGreatDoorYWordWords8a
import Derived.Test.YtglmcknlnoknoaaGreatDoorYWordWordsKk
namespace Go.Proofs.YtglmcknlnoknoaaGreatDoor
set_option maxRecDepth 100000
set_option maxHeartbeats 40000000
section
open Go.RowKit Go.Shelf
attribute [local go_sem] Oper.semAt_some
def kinW (s : ByteArray) (p : Nat × Nat) : Int:=kindC (wCls gW (s.extract p.1 p.2))
def pcsW (s : ByteArray) : List (Nat × Nat × Int):=(piecesF (wBounds gW s)).map fun p=>(p.1,p.2,kinW s p)
def encPc (x : Nat × Nat × Int) : List Value:=[.int .i64 (x.1 : Nat),.int .i64 (x.2.1 : Nat),.int .i64 x.2.2]
theorem encPc_ok (l : List (Nat × Nat × Int)) : ∀ y ∈ l.map encPc,y.length = 3∧∀ u ∈ y,u.oneCell' = true:=by
 intro y hy;obtain ⟨r,_,rfl⟩:=List.mem_map.1 hy
 exact ⟨rfl,by simp [encPc,Value.oneCell']⟩
theorem infoPc : (Tryz.prog.info? 35).map (fun i=>(i.zero,i.size,i.bytes)) = some (some (.agg #[.int .i64 0,.int .i64 0,.int .i64 0]),3,24):=by kernel_rfl
theorem vPieces_any (s : ByteArray) (w : World) (hs : s.size≤90000) :
  Calls Tryz.prog 88 #[.string s] w fun e w'=>∃ (A : Option Addr) (k c : Nat),e = .returned (.slice A k c)∧Own w' w.heap.size 35 3 A k c ((pcsW s).map encPc)∧Below w.heap.size w w':=by
 obtain ⟨i0,hi0,hz0,hz1,hz2⟩:=info_parts infoPc
 have HB:=Lib.hid (vBounds_any s w hs)
 have HK:=Lib.hid (fun p W=>kKindR_any (s.extract p.1 p.2) W (by rw [ByteArray.size_extract];omega) : ∀ (p : Nat × Nat) (W : World),_)
 have HL:=Lib.hid (wBounds_len gW s)
 have HP:=Lib.hid (piecesF_le (wBounds_rise gW s) (wBounds_le gW s))
 have HV : Hid (pcsW s = (piecesF (wBounds gW s)).map fun p=>(p.1,p.2,kinW s p)):=Lib.hid rfl
 obtain ⟨L,HLe⟩ : ∃ L,Hid (wBounds gW s = L):=⟨_,Lib.hid rfl⟩
 rw [HLe.out] at HL HP HV HB
 have HF:=Lib.hid (fun i x y (h1 : L[i]? = some x) (h2 : L[i+1]? = some y)=>piecesF_at L i x y h1 h2)
 have HFl:=Lib.hid (piecesF_len L)
 have hlz : L.length≤90001:=by have:=HL.out;omega
 go_enter Tryz.func88,Tryz.ntmps88
 go_wp2_with fail
 refine HB.out.mono ?_
 rintro e w1 ⟨A,n,c,rfl,ho,hb1⟩
 have hn : L.length = n:=by have:=ho.len;simpa using this
 have Hn:=Lib.hid hn
 have hnz : n≤90001:=by omega
 have rd:=ho.rd (by decide)
 have hsz1:=hb1.size
 clear hn ho HB hlz
 go_wp2_with fail
 go_loopw [3,5] (fun v u wr=>∃ (i j k d : Nat) (Q : Option Addr) (O : List (Nat × Nat × Int)),v = .slice Q k d∧u = .int .i64 (j : Int)∧Hid (j = i+1)∧(i = 0∨i < n)∧k≤i∧Hid (O = ((piecesF L).take i).map fun p=>(p.1,p.2,kinW s p))∧Own wr w1.heap.size 35 3 Q k d (O.map encPc)∧Below w1.heap.size w1 wr) (fun _ u _=>n+1 - (intOf u).toNat)
 case atStart=>exact ⟨0,1,0,0,none,[],rfl,rfl,Lib.hid rfl,.inl rfl,by omega,Lib.hid rfl,Own.nil_ _ _ _ _,Below.refl _ _⟩
 case round =>
  obtain ⟨i,j,k,d,Q,O,rfl,rfl,HJ,hi,hki,HO,ho,hb⟩:=hrel
  have hszr:=hb.size
  by_cases hlt : j < n
  ·obtain ⟨x,Hx⟩ : ∃ y,Hid (L[i]? = some y):=⟨_,Lib.hid (List.getElem?_eq_getElem (by have:=Hn.out;have:=HJ.out;omega))⟩
   obtain ⟨y,Hy⟩ : ∃ y,Hid (L[j]? = some y):=⟨_,Lib.hid (List.getElem?_eq_getElem (by have:=Hn.out;omega))⟩
   obtain ⟨b,off,rfl,cx1⟩:=Rd.atQ rd Hx.out
   obtain ⟨b2,off2,e2,cy1⟩:=Rd.atQ rd Hy.out
   injection e2 with e2
   injection e2 with e3 e4 _
   subst e3 e4
   have hat:=HF.out i x y Hx.out (by rw [← HJ.out];exact Hy.out)
   have hpl:=HP.out _ (List.mem_of_getElem? hat)
   have hxy : x≤y:=hpl.1
   have hys : y≤s.size:=hpl.2
   have HO' : Hid (O++[(x,y,kinW s (x,y))] = ((piecesF L).take (i+1)).map fun p=>(p.1,p.2,kinW s p)):=Lib.hid (by
    rw [List.take_add_one,hat,Option.toList_some,List.map_append,← HO.out];rfl)
   obtain ⟨kd,Hkd⟩ : ∃ kd,Hid (kinW s (x,y) = kd):=⟨_,Lib.hid rfl⟩
   rw [Hkd.out] at HO'
   have HK1 : Hid (∀ W : World,Calls Tryz.prog 147 #[.string (s.extract x y)] W fun e w'=>e = .returned (.int .i64 kd)∧Below W.heap.size W w'):=Lib.hid (fun W=>by rw [← Hkd.out];exact HK.out (x,y) W)
   have e5 : IntKind.i64.wrap ((j : Int) - 1) = (i : Int):=by rw [show (j : Int) - 1 = (i : Int) by have:=HJ.out;omega];exact IntWalk.i64_in _ (by have:=HJ.out;omega)
   have ej : (j : Int) - 1 = (i : Int):=by have:=HJ.out;omega
   have e6 : IntKind.i64.wrap (i : Int) = (i : Int):=IntWalk.i64_in _ (by have:=HJ.out;omega)
   have hin : i < n:=by have:=HJ.out;omega
   have hi0' : (0 : Int)≤(i : Int):=by omega
   have hin2 : (i : Int) < (n : Int):=by omega
   have HST:=Lib.hid (fun (V : World) (h : Below w1.heap.size w1 V)=>And.intro (cell_keep cx1 h) (And.intro (cell_keep cy1 h) h))
   have hbz0 : Below w1.heap.size w1 wr.drew:=below_drewN hb 1
   clear HO hat hpl hi HK HP HF Hkd
   go_wp2_with fail
   go_region_held3 (fun V=>V.cell? ⟨b,off+i,none⟩ = some (.int .i64 (x : Nat))∧V.cell? ⟨b,off+j,none⟩ = some (.int .i64 (y : Nat))∧Below w1.heap.size w1 V)
    (first | exact HST.out _ hb4 | exact HST.out _ (hbz.alloc hbz.size _) | exact HST.out _ hbz | exact HST.out _ hbz0)
    (first
     | (go_at_call 147;go_split_ands;refine (HK1.out _).mono ?_;rintro e wz ⟨rfl,hz⟩;have hbz:=below_step hbz0 hz hbz0.size;have ho6:=Own.below (w:=wr.drew) ho hz;have hsz:=hbz.size)
     | (refine step_app rfl (.tmp 14) (.tmp 37) _ rfl w1.heap.size 35 i0 _ 3 24 Tryz.underlying29 hi0 hz0 hz1 hz2 rfl (by omega) Q k d (O.map encPc) rfl (ho6.alloc _) _ 1 1 [encPc (x,y,kd)] rfl rfl (Rd.newAt (by simp) rfl) (encPc_ok [(x,y,kd)]) (by unfold maxLen;omega) (by omega) (by simp;omega) ?_;intro A3 c3 w4 ho4 hg4 hA4;have hb4:=below_app (hbz.alloc (by omega) _) hg4 (by simp;omega) (fun a ha=>by have:=(ho6.lt a ha).1;omega)))
   go_wp2
   go_roundw
   case rel=>exact ⟨i+1,j+1,k+1,c3,A3,O++[(x,y,kd)],rfl,by go_num,Lib.hid (by rw [HJ.out]),.inr (by have:=HJ.out;omega),by omega,HO',by rw [List.map_append];exact ho4,hb4⟩
   case measure=>simp [intOf];omega
  ·have hO : Hid (O = pcsW s):=Lib.hid (by
    rw [HO.out,HV.out,List.take_of_length_le (by rw [HFl.out];have:=Hn.out;have:=HJ.out;omega)])
   go_wp2
   go_ret
   exact ⟨Q,k,d,rfl,by rw [← hO.out];exact ho.more hsz1,below_step hb1 hb hsz1⟩
end
end Go.Proofs.YtglmcknlnoknoaaGreatDoor
