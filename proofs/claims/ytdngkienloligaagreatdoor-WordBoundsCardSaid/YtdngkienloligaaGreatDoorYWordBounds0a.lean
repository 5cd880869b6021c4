/- -/
import Derived.Test.YtdngkienloligaaGreatDoorW11a
import Derived.Test.YtdngkienloligaaGreatDoorW7a
namespace Go.Proofs.YtdngkienloligaaGreatDoor
open Go.RowKit
def encI (z : Int) : List Value:=[.int .i64 z]
theorem Own.storedI {w : World} {base : Nat} {e : TypeId} {g n c k : Nat} {l : List Int} (h : Own w base e 1 (some ⟨g,0,none⟩) n c (l.map encI)) (hk : k < l.length) (x : Int) :
  Own (w.setCell ⟨g,k,none⟩ (.int .i64 x)) base e 1 (some ⟨g,0,none⟩) n c ((l.set k x).map encI):=by
 have h1:=h.stored (k:=k) (j:=0) (x:=encI l[k]) (by simp [hk]) (by omega) (.int .i64 x)
 rw [Nat.mul_one,Nat.add_zero] at h1
 have e : (l.map encI).set k ((encI l[k]).set 0 (.int .i64 x)) = (l.set k x).map encI:=by rw [List.map_set];rfl
 rw [e] at h1
 exact h1
theorem Own.cellI {w : World} {base : Nat} {e : TypeId} {g n c k : Nat} {l : List Int} {x : Int} (h : Own w base e 1 (some ⟨g,0,none⟩) n c (l.map encI)) (hk : l[k]? = some x) : w.cell? ⟨g,k,none⟩ = some (.int .i64 x):=by
 have:=h.cell (k:=k) (j:=0) (x:=encI x) (u:=.int .i64 x) (by rw [List.getElem?_map,hk];rfl) rfl
 simpa using this
theorem encI_cast (l : List Nat) : (l.map fun (x : Nat)=>(x : Int)).map encI = l.map encN:=by rw [List.map_map];rfl
set_option maxRecDepth 100000 in
set_option maxHeartbeats 8000000 in
theorem pWordBounds_any (s : ByteArray) (w : World) (hE : Env w) (hs : s.size ≤ 140737488355328) :
  Calls Tryz.prog 5 #[.string s] w fun e w'=>e = .returned (.bool true) ∧ Below w.heap.size w w':=by
 have HLv:=Lib.hid (fun W (h : Env W)=>klive_any W h)
 by_cases h1 : 70 < s.size
 ·have g1 : (70 : Int) < (s.size : Int):=by omega
  go_enter Tryz.func5,Tryz.ntmps5
  go_wp2_with fail
  refine (HLv.out _ hE).mono ?_
  rintro e w1 ⟨rfl,hb⟩
  go_wp2
  go_ret
  exact ⟨rfl,hb⟩
 have g1 : ¬ (70 : Int) < (s.size : Int):=by omega
 have hsz : s.size ≤ 70:=by omega
 have HG:=Lib.hid (fun W (h : Env W)=>kBounds_any s W h (by omega))
 have HB:=Lib.hid (fun W=>vBounds_any s W (by omega))
 have HP:=Lib.hid (fun A B n c e W (hA : Rd W 1 A ((wBounds gW s).map encN)) (hB : Rd W 1 B ((wBounds gW s).map encN)) (hl : (wBounds gW s).length = n)=>kints_same A B n c e (wBounds gW s) W hA hB hl (by have:=wBounds_len gW s;omega))
 have hL:=wBounds_len gW s
 generalize wBounds gW s = L at HG HB HP hL
 clear h1 hs
 go_enter Tryz.func5,Tryz.ntmps5
 go_wp2_with fail
 refine (HG.out w hE).mono ?_
 rintro e w1 ⟨A,n,c,rfl,ho,hb1⟩
 obtain rfl : L.length = n:=by have:=ho.len;simpa using this
 have hE1:=hE.below hb1
 go_wp2_with fail
 refine (HB.out w1).mono ?_
 rintro e w3 ⟨A2,n2,c2,rfl,ho2,hb3⟩
 obtain rfl : L.length = n2:=by have:=ho2.len;simpa using this
 have hb13:=below_two hb1 hb3
 have ho3:=ho.below hb3
 have hA4 : ∀ a,A = some a → a.block < w1.heap.size:=fun a ha=>(ho.lt a ha).2
 have HP1:=Lib.hid (HP.out A A2 _ c c2 w3 (ho3.rd (by decide)) (ho2.rd (by decide)) rfl)
 clear ho hb1 hb3
 go_wp2_with fail
 refine HP1.out.mono ?_
 rintro e w4 ⟨rfl,hb4⟩
 have hb14:=below_two hb13 hb4
 have ho4:=ho3.below hb4
 have ho5:=ho2.below hb4
 rw [← encI_cast] at ho4
 clear HP1 ho2 ho3 hb13 hb4
 go_wp2_with fail
 go_loopw [5] (fun v wr=>∃ (i : Nat) (M : List Int),v = .int .i64 i ∧ i ≤ L.length ∧ M.length = L.length ∧ Own wr w.heap.size 3 1 A L.length c (M.map encI) ∧ Own wr w1.heap.size 3 1 A2 L.length c2 (L.map encN) ∧ Below w.heap.size w wr) (fun v _=>L.length - (intOf v).toNat)
 case atStart=>exact ⟨0,_,rfl,by omega,by rw [List.length_map],ho4,ho5,hb14⟩
 case round =>
  clear ho4 ho5 hb14
  obtain ⟨i,M,rfl,hi,hM,hoA,ho5,hbr⟩:=hrel
  by_cases hlt : i < L.length
  ·obtain ⟨g,rfl,hg1,hg2⟩:=hoA.form (by omega)
   obtain ⟨z,hz⟩ : ∃ z,M[i]? = some z:=⟨_,List.getElem?_eq_getElem (by omega)⟩
   have hc:=hoA.cellI hz
   have hf:=hoA.frozen i
   have hst:=hoA.storedI (k:=i) (by omega) (-1)
   have ho5':=ho5.setCell (p:=⟨g,i,none⟩) (fun a ha e=>by have:=(ho5.lt a ha).1;have:=hA4 _ rfl;simp only at e this;omega) (.int .i64 (-1))
   have hbr':=hbr.setCell (p:=⟨g,i,none⟩) hg1 (.int .i64 (-1))
   clear hoA hz
   go_wp2
   go_roundw
   case rel=>exact ⟨i + 1,M.set i (-1),by go_num,by omega,by rw [List.length_set];exact hM,hst,ho5',hbr'⟩
   case measure=>simp [intOf];omega
  ·obtain rfl : i = L.length:=by omega
   have hE6:=hE.below hbr
   have H7:=Lib.hid (HG.out wr hE6)
   clear hoA
   go_wp2_with fail
   refine H7.out.mono ?_
   rintro e w7 ⟨A7,n7,c7,rfl,ho7,hb7⟩
   obtain rfl : L.length = n7:=by have:=ho7.len;simpa using this
   have hb17:=below_step hbr hb7 hbr.size
   have H8:=Lib.hid (HP.out A7 A2 _ c7 c2 w7 (ho7.rd (by decide)) ((ho5.below hb7).rd (by decide)) rfl)
   go_wp2_with fail
   refine H8.out.mono ?_
   rintro e w8 ⟨rfl,hb8⟩
   have hb18:=below_step hb17 hb8 hb17.size
   have H10:=Lib.hid (HLv.out w8 (hE.below hb18))
   go_wp2_with fail
   refine H10.out.mono ?_
   rintro e w10 ⟨rfl,hb10⟩
   have hb110:=below_step hb18 hb10 hb18.size
   go_wp2
   go_ret
   exact ⟨rfl,hb110⟩
end Go.Proofs.YtdngkienloligaaGreatDoor
