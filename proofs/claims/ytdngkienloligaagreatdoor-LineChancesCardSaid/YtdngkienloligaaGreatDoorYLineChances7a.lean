/- -/
import Derived.Test.YtdngkienloligaaGreatDoorYLineChancesTzA
import Derived.Test.YtdngkienloligaaGreatDoorYLineChances3a
namespace Go.Proofs.YtdngkienloligaaGreatDoor
open Go.RowKit
def encK (x : Int × Bool) : List Value:=[.int .i64 x.1,.bool x.2]
theorem encK_cast (l : List (Nat × Bool)) : (l.map fun (x : Nat × Bool)=>((x.1 : Int),x.2)).map encK = l.map encC:=by rw [List.map_map];rfl
theorem Own.storedK {w : World} {base : Nat} {e : TypeId} {g n c k : Nat} {l : List (Int × Bool)} (h : Own w base e 2 (some ⟨g,0,none⟩) n c (l.map encK)) (hk : k < l.length) (a : Int) (b : Bool) :
  Own ((w.setCell ⟨g,k*2,none⟩ (.int .i64 a)).setCell ⟨g,k*2+1,none⟩ (.bool b)) base e 2 (some ⟨g,0,none⟩) n c ((l.set k (a,b)).map encK):=by
 have h1:=h.stored (k:=k) (j:=0) (x:=encK l[k]) (by simp [hk]) (by omega) (.int .i64 a)
 have h2:=h1.stored (k:=k) (j:=1) (x:=(encK l[k]).set 0 (.int .i64 a)) (by simp [hk]) (by omega) (.bool b)
 have e : ((l.map encK).set k ((encK l[k]).set 0 (.int .i64 a))).set k (((encK l[k]).set 0 (.int .i64 a)).set 1 (.bool b)) = (l.set k (a,b)).map encK:=by
  rw [List.set_set,List.map_set];rfl
 rw [e] at h2
 exact h2
theorem Own.cellK {w : World} {base : Nat} {e : TypeId} {g n c k : Nat} {l : List (Int × Bool)} {x : Int × Bool} (h : Own w base e 2 (some ⟨g,0,none⟩) n c (l.map encK)) (hk : l[k]? = some x) :
  w.cell? ⟨g,k*2,none⟩ = some (.int .i64 x.1)∧w.cell? ⟨g,k*2+1,none⟩ = some (.bool x.2):=by
 have hx : (l.map encK)[k]? = some (encK x):=by simp [hk]
 exact ⟨h.cell (j:=0) hx rfl,h.cell (j:=1) hx rfl⟩
theorem lChances_len (s : ByteArray) : (lChances gL s).length≤s.size+1:=by rw [← chD_end];exact chD_len s _
set_option maxRecDepth 100000 in
set_option maxHeartbeats 8000000 in
theorem yLineChances_any (s : ByteArray) (w : World) (hE : Env w) (hs : s.size≤140737488355328) :
  Calls Tryz.prog 9 #[.string s] w fun e w'=>e = .returned (.bool true)∧Below w.heap.size w w':=by
 have HLv:=Lib.hid (fun W (h : Env W)=>ylive_any W h)
 by_cases h1 : 60 < s.size
 ·have g1 : (60 : Int) < (s.size : Int):=by omega
  go_enter Tryz.func9,Tryz.ntmps9
  go_wp2_with fail
  refine (HLv.out _ hE).mono ?_
  rintro e w1 ⟨rfl,hb⟩
  go_wp2
  go_ret
  exact ⟨rfl,hb⟩
 have g1 : ¬ (60 : Int) < (s.size : Int):=by omega
 have hsz : s.size≤60:=by omega
 have HG:=Lib.hid (fun W (h : Env W)=>tChances_any s W h (by omega))
 have HB:=Lib.hid (fun W=>xChances_any s W (by omega))
 have HP:=Lib.hid (fun A B n c e W (hA : Rd W 2 A ((lChances gL s).map encC)) (hB : Rd W 2 B ((lChances gL s).map encC)) (hl : (lChances gL s).length = n)=>ychances_any A B n c e (lChances gL s) W hA hB hl (by have:=lChances_len s;omega))
 have hL:=lChances_len s
 generalize lChances gL s = L at HG HB HP hL
 clear h1 hs
 go_enter Tryz.func9,Tryz.ntmps9
 go_wp2_with fail
 refine (HG.out w hE).mono ?_
 rintro e w1 ⟨A,n,c,rfl,ho,hb1⟩
 obtain rfl : L.length = n:=by have:=ho.len;simpa using this
 have hE1:=hE.below hb1
 go_wp2_with fail
 refine (HB.out w1).mono ?_
 rintro e w3 ⟨A2,n2,c2,rfl,ho2,hb3⟩
 obtain rfl : L.length = n2:=by have:=ho2.len;simpa using this
 have hb13:=below_two hb1 hb3
 have ho3:=ho.below hb3
 have hA4 : ∀ a,A = some a→a.block < w1.heap.size:=fun a ha=>(ho.lt a ha).2
 have HP1:=Lib.hid (HP.out A A2 _ c c2 w3 (ho3.rd (by decide)) (ho2.rd (by decide)) rfl)
 clear ho hb1 hb3
 go_wp2_with fail
 refine HP1.out.mono ?_
 rintro e w4 ⟨rfl,hb4⟩
 have hb14:=below_two hb13 hb4
 have ho4:=ho3.below hb4
 have ho5:=ho2.below hb4
 rw [← encK_cast] at ho4
 clear HP1 ho2 ho3 hb13 hb4
 go_wp2_with fail
 go_loopw [5] (fun v wr=>∃ (i : Nat) (M : List (Int × Bool)),v = .int .i64 i∧i≤L.length∧M.length = L.length∧Own wr w.heap.size 63 2 A L.length c (M.map encK)∧Own wr w1.heap.size 63 2 A2 L.length c2 (L.map encC)∧Below w.heap.size w wr) (fun v _=>L.length - (intOf v).toNat)
 case atStart=>exact ⟨0,_,rfl,by omega,by rw [List.length_map],ho4,ho5,hb14⟩
 case round =>
  clear ho4 ho5 hb14
  obtain ⟨i,M,rfl,hi,hM,hoA,ho5,hbr⟩:=hrel
  by_cases hlt : i < L.length
  ·obtain ⟨g,rfl,hg1,hg2⟩:=hoA.form (by omega)
   obtain ⟨z,hz⟩ : ∃ z,M[i]? = some z:=⟨_,List.getElem?_eq_getElem (by omega)⟩
   obtain ⟨hc1,hc2⟩:=hoA.cellK hz
   have hf1:=hoA.frozen (i*2)
   have hf2:=hoA.frozen (i*2+1)
   have hst:=hoA.storedK (k:=i) (by omega) (-1) false
   have hne : ∀ a,A2 = some a→a.block ≠ g:=fun a ha e=>by have:=(ho5.lt a ha).1;have:=hA4 _ rfl;simp only at e this;omega
   have ho5':=(ho5.setCell (p:=⟨g,i*2,none⟩) hne (.int .i64 (-1))).setCell (p:=⟨g,i*2+1,none⟩) hne (.bool false)
   have hbr':=(hbr.setCell (p:=⟨g,i*2,none⟩) hg1 (.int .i64 (-1))).setCell (p:=⟨g,i*2+1,none⟩) hg1 (.bool false)
   clear hoA hz
   go_wp2
   go_roundw
   case rel=>exact ⟨i+1,M.set i (-1,false),by go_num,by omega,by rw [List.length_set];exact hM,hst,ho5',hbr'⟩
   case measure=>simp [intOf];omega
  ·obtain rfl : i = L.length:=by omega
   have hE6:=hE.below hbr
   have H7:=Lib.hid (HG.out wr hE6)
   clear hoA
   go_wp2_with fail
   refine H7.out.mono ?_
   rintro e w7 ⟨A7,n7,c7,rfl,ho7,hb7⟩
   obtain rfl : L.length = n7:=by have:=ho7.len;simpa using this
   have hb17:=below_step hbr hb7 hbr.size
   have H8:=Lib.hid (HP.out A7 A2 _ c7 c2 w7 (ho7.rd (by decide)) ((ho5.below hb7).rd (by decide)) rfl)
   go_wp2_with fail
   refine H8.out.mono ?_
   rintro e w8 ⟨rfl,hb8⟩
   have hb18:=below_step hb17 hb8 hb17.size
   have H10:=Lib.hid (HLv.out w8 (hE.below hb18))
   go_wp2_with fail
   refine H10.out.mono ?_
   rintro e w10 ⟨rfl,hb10⟩
   have hb110:=below_step hb18 hb10 hb18.size
   go_wp2
   go_ret
   exact ⟨rfl,hb110⟩
end Go.Proofs.YtdngkienloligaaGreatDoor
