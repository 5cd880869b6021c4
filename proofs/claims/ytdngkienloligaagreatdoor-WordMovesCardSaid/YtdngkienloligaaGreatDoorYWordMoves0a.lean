/-
 Several texts in one,in their build order: ZdA,ZdB,ZdC,Wo,ZdD.
-/
import Derived.Deep.CutRange
import Derived.Test.YtdngkienloligaaGreatDoorW11a
import Derived.Test.YtdngkienloligaaGreatDoorW7a
/- -/
namespace Go.Proofs.YtdngkienloligaaGreatDoor
open Go.RowKit
def encI (z : Int) : List Value:=[.int .i64 z]
theorem Own.storedI {w : World} {base : Nat} {e : TypeId} {g n c k : Nat} {l : List Int} (h : Own w base e 1 (some ⟨g,0,none⟩) n c (l.map encI)) (hk : k < l.length) (x : Int) :
  Own (w.setCell ⟨g,k,none⟩ (.int .i64 x)) base e 1 (some ⟨g,0,none⟩) n c ((l.set k x).map encI):=by
 have h1:=h.stored (k:=k) (j:=0) (x:=encI l[k]) (by simp [hk]) (by omega) (.int .i64 x)
 rw [Nat.mul_one,Nat.add_zero] at h1
 have e : (l.map encI).set k ((encI l[k]).set 0 (.int .i64 x)) = (l.set k x).map encI:=by rw [List.map_set];rfl
 rw [e] at h1
 exact h1
theorem Own.cellI {w : World} {base : Nat} {e : TypeId} {g n c k : Nat} {l : List Int} {x : Int} (h : Own w base e 1 (some ⟨g,0,none⟩) n c (l.map encI)) (hk : l[k]? = some x) : w.cell? ⟨g,k,none⟩ = some (.int .i64 x):=by
 have:=h.cell (k:=k) (j:=0) (x:=encI x) (u:=.int .i64 x) (by rw [List.getElem?_map,hk];rfl) rfl
 simpa using this
theorem encI_cast (l : List Nat) : (l.map fun (x : Nat)=>(x : Int)).map encI = l.map encN:=by rw [List.map_map];rfl
set_option maxRecDepth 100000 in
set_option maxHeartbeats 8000000 in
theorem pWordBounds_any (s : ByteArray) (w : World) (hE : Env w) (hs : s.size ≤ 140737488355328) :
  Calls Tryz.prog 5 #[.string s] w fun e w'=>e = .returned (.bool true) ∧ Below w.heap.size w w':=by
 have HLv:=Lib.hid (fun W (h : Env W)=>klive_any W h)
 by_cases h1 : 70 < s.size
 ·have g1 : (70 : Int) < (s.size : Int):=by omega
  go_enter Tryz.func5,Tryz.ntmps5
  go_wp2_with fail
  refine (HLv.out _ hE).mono ?_
  rintro e w1 ⟨rfl,hb⟩
  go_wp2
  go_ret
  exact ⟨rfl,hb⟩
 have g1 : ¬ (70 : Int) < (s.size : Int):=by omega
 have hsz : s.size ≤ 70:=by omega
 have HG:=Lib.hid (fun W (h : Env W)=>kBounds_any s W h (by omega))
 have HB:=Lib.hid (fun W=>vBounds_any s W (by omega))
 have HP:=Lib.hid (fun A B n c e W (hA : Rd W 1 A ((wBounds gW s).map encN)) (hB : Rd W 1 B ((wBounds gW s).map encN)) (hl : (wBounds gW s).length = n)=>kints_same A B n c e (wBounds gW s) W hA hB hl (by have:=wBounds_len gW s;omega))
 have hL:=wBounds_len gW s
 generalize wBounds gW s = L at HG HB HP hL
 clear h1 hs
 go_enter Tryz.func5,Tryz.ntmps5
 go_wp2_with fail
 refine (HG.out w hE).mono ?_
 rintro e w1 ⟨A,n,c,rfl,ho,hb1⟩
 obtain rfl : L.length = n:=by have:=ho.len;simpa using this
 have hE1:=hE.below hb1
 go_wp2_with fail
 refine (HB.out w1).mono ?_
 rintro e w3 ⟨A2,n2,c2,rfl,ho2,hb3⟩
 obtain rfl : L.length = n2:=by have:=ho2.len;simpa using this
 have hb13:=below_two hb1 hb3
 have ho3:=ho.below hb3
 have hA4 : ∀ a,A = some a → a.block < w1.heap.size:=fun a ha=>(ho.lt a ha).2
 have HP1:=Lib.hid (HP.out A A2 _ c c2 w3 (ho3.rd (by decide)) (ho2.rd (by decide)) rfl)
 clear ho hb1 hb3
 go_wp2_with fail
 refine HP1.out.mono ?_
 rintro e w4 ⟨rfl,hb4⟩
 have hb14:=below_two hb13 hb4
 have ho4:=ho3.below hb4
 have ho5:=ho2.below hb4
 rw [← encI_cast] at ho4
 clear HP1 ho2 ho3 hb13 hb4
 go_wp2_with fail
 go_loopw [5] (fun v wr=>∃ (i : Nat) (M : List Int),v = .int .i64 i ∧ i ≤ L.length ∧ M.length = L.length ∧ Own wr w.heap.size 3 1 A L.length c (M.map encI) ∧ Own wr w1.heap.size 3 1 A2 L.length c2 (L.map encN) ∧ Below w.heap.size w wr) (fun v _=>L.length - (intOf v).toNat)
 case atStart=>exact ⟨0,_,rfl,by omega,by rw [List.length_map],ho4,ho5,hb14⟩
 case round =>
  clear ho4 ho5 hb14
  obtain ⟨i,M,rfl,hi,hM,hoA,ho5,hbr⟩:=hrel
  by_cases hlt : i < L.length
  ·obtain ⟨g,rfl,hg1,hg2⟩:=hoA.form (by omega)
   obtain ⟨z,hz⟩ : ∃ z,M[i]? = some z:=⟨_,List.getElem?_eq_getElem (by omega)⟩
   have hc:=hoA.cellI hz
   have hf:=hoA.frozen i
   have hst:=hoA.storedI (k:=i) (by omega) (-1)
   have ho5':=ho5.setCell (p:=⟨g,i,none⟩) (fun a ha e=>by have:=(ho5.lt a ha).1;have:=hA4 _ rfl;simp only at e this;omega) (.int .i64 (-1))
   have hbr':=hbr.setCell (p:=⟨g,i,none⟩) hg1 (.int .i64 (-1))
   clear hoA hz
   go_wp2
   go_roundw
   case rel=>exact ⟨i + 1,M.set i (-1),by go_num,by omega,by rw [List.length_set];exact hM,hst,ho5',hbr'⟩
   case measure=>simp [intOf];omega
  ·obtain rfl : i = L.length:=by omega
   have hE6:=hE.below hbr
   have H7:=Lib.hid (HG.out wr hE6)
   clear hoA
   go_wp2_with fail
   refine H7.out.mono ?_
   rintro e w7 ⟨A7,n7,c7,rfl,ho7,hb7⟩
   obtain rfl : L.length = n7:=by have:=ho7.len;simpa using this
   have hb17:=below_step hbr hb7 hbr.size
   have H8:=Lib.hid (HP.out A7 A2 _ c7 c2 w7 (ho7.rd (by decide)) ((ho5.below hb7).rd (by decide)) rfl)
   go_wp2_with fail
   refine H8.out.mono ?_
   rintro e w8 ⟨rfl,hb8⟩
   have hb18:=below_step hb17 hb8 hb17.size
   have H10:=Lib.hid (HLv.out w8 (hE.below hb18))
   go_wp2_with fail
   refine H10.out.mono ?_
   rintro e w10 ⟨rfl,hb10⟩
   have hb110:=below_step hb18 hb10 hb18.size
   go_wp2
   go_ret
   exact ⟨rfl,hb110⟩
end Go.Proofs.YtdngkienloligaaGreatDoor
/- -/
namespace Go.Proofs.YtdngkienloligaaGreatDoor
open Go.RowKit Go.Shelf
attribute [local go_sem] Oper.semAt_some
def belowL (L : List Nat) (x : Int) : Nat:=L.foldl (fun (b a : Nat)=>if (a : Int) < x then a else b) 0
def aboveL (L : List Nat) (x : Int) (e : Nat) : Nat:=(L.find? fun (a : Nat)=>decide (x < (a : Int))).getD e
def arT (x : Int) (p : Nat × Nat) : Bool:=decide ((p.1 : Int) ≤ x) && decide (x < (p.2 : Int))
def aroundL (L : List Nat) (x : Int) : Nat × Nat:=((piecesF L).find? (arT x)).getD (0,0)
theorem belowL_step {L : List Nat} {x : Int} {i y : Nat} (h : L[i]? = some y) : belowL (L.take (i + 1)) x = if (y : Int) < x then y else belowL (L.take i) x:=by
 unfold belowL
 rw [List.take_add_one,h,Option.toList_some,List.foldl_append,List.foldl_cons,List.foldl_nil]
def hasL (L : List Nat) (x : Int) : Bool:=(L.map fun (a : Nat)=>(a : Int)).contains x
theorem hasL_step {L : List Nat} {x : Int} {i y : Nat} (h : L[i]? = some y) : hasL (L.take (i + 1)) x = (hasL (L.take i) x || ((y : Int) == x)):=by
 unfold hasL
 rw [List.take_add_one,h,Option.toList_some,List.map_append,List.map_cons,List.map_nil,List.contains_eq_any_beq,List.contains_eq_any_beq,List.any_append,List.any_cons,List.any_nil,Bool.or_false,Bool.beq_comm]
set_option maxRecDepth 100000 in
set_option maxHeartbeats 2000000 in
theorem vAbove_any (A : Option Addr) (n c : Nat) (L : List Nat) (x : Int) (e : Nat) (w : World) (hA : Rd w 1 A (L.map encN)) (hl : L.length = n) (hn : n ≤ 4000000) :
  Calls Tryz.prog 40 #[.slice A n c,.int .i64 x,.int .i64 (e : Nat)] w fun e' w'=>e' = .returned (.int .i64 (aboveL L x e : Nat)) ∧ w = w':=by
 have Hn:=Lib.hid hl
 clear hl
 go_enter Tryz.func40,Tryz.ntmps40
 go_wp2_with fail
 go_loopw [7] (fun v wr=>∃ i : Nat,v = .int .i64 i ∧ i ≤ n ∧ wr = w ∧ Hid (aboveL L x e = ((L.drop i).find? fun (a : Nat)=>decide (x < (a : Int))).getD e)) (fun v _=>n - (intOf v).toNat)
 case atStart=>exact ⟨0,rfl,by omega,rfl,Lib.hid rfl⟩
 case round =>
  obtain ⟨i,rfl,hi,rfl,HN⟩:=hrel
  by_cases hlt : i < n
  ·obtain ⟨y,Hy⟩ : ∃ y,Hid (L[i]? = some y):=⟨_,Lib.hid (List.getElem?_eq_getElem (by have:=Hn.out;omega))⟩
   obtain ⟨b,off,rfl,cy⟩:=Rd.atQ hA Hy.out
   have hdr : L.drop i = y :: L.drop (i + 1):=by rw [List.drop_eq_getElem_cons (by have:=Hn.out;omega)];rw [(List.getElem?_eq_some_iff.1 Hy.out).2]
   have HN2:=HN.out
   rw [hdr,List.find?_cons] at HN2
   clear hdr HN
   cases hq : decide (x < (y : Int)) with
   | true =>
    rw [hq] at HN2
    have HN3 : Hid (aboveL L x e = y):=Lib.hid HN2
    have hq2 : ((y : Int) > x) = True:=eq_true (of_decide_eq_true hq)
    clear HN2
    go_wp2
    go_ret
    exact ⟨by rw [HN3.out];rfl,rfl⟩
   | false =>
    rw [hq] at HN2
    have HN3:=Lib.hid HN2
    clear HN2
    go_wp2
    go_roundw
    case rel=>exact ⟨i + 1,by go_num,by omega,by first | rfl | trivial,HN3⟩
    case measure=>simp [intOf];omega
  ·obtain rfl : i = n:=by omega
   have HN2 : Hid (aboveL L x e = e):=Lib.hid (by rw [HN.out,List.drop_eq_nil_of_le (by have:=Hn.out;omega)];rfl)
   go_wp2
   go_ret
   exact ⟨by rw [HN2.out];rfl,rfl⟩
set_option maxRecDepth 100000 in
set_option maxHeartbeats 2000000 in
theorem vBelow_any (A : Option Addr) (n c : Nat) (L : List Nat) (x : Int) (w : World) (hA : Rd w 1 A (L.map encN)) (hl : L.length = n) (hn : n ≤ 4000000) :
  Calls Tryz.prog 42 #[.slice A n c,.int .i64 x] w fun e' w'=>e' = .returned (.int .i64 (belowL L x : Nat)) ∧ w = w':=by
 have Hn:=Lib.hid hl
 clear hl
 go_enter Tryz.func42,Tryz.ntmps42
 go_wp2_with fail
 go_loopw [5,6] (fun u v wr=>∃ i k : Nat,v = .int .i64 i ∧ u = .int .i64 k ∧ i ≤ n ∧ wr = w ∧ Hid (belowL (L.take i) x = k)) (fun _ v _=>n - (intOf v).toNat)
 case atStart=>exact ⟨0,0,rfl,rfl,by omega,rfl,Lib.hid rfl⟩
 case round =>
  obtain ⟨i,k,rfl,rfl,hi,rfl,HN⟩:=hrel
  by_cases hlt : i < n
  ·obtain ⟨y,Hy⟩ : ∃ y,Hid (L[i]? = some y):=⟨_,Lib.hid (List.getElem?_eq_getElem (by have:=Hn.out;omega))⟩
   obtain ⟨b,off,rfl,cy⟩:=Rd.atQ hA Hy.out
   have HN2:=belowL_step (x:=x) Hy.out
   by_cases hq : (y : Int) < x
   ·rw [if_pos hq] at HN2
    have HN3:=Lib.hid HN2
    clear HN2
    go_wp2
    go_roundw
    case rel=>exact ⟨i + 1,y,by go_num,rfl,by omega,by first | rfl | trivial,HN3⟩
    case measure=>simp [intOf];omega
   ·rw [if_neg hq,HN.out] at HN2
    have HN3:=Lib.hid HN2
    clear HN2
    go_wp2
    go_roundw
    case rel=>exact ⟨i + 1,k,by go_num,rfl,by omega,by first | rfl | trivial,HN3⟩
    case measure=>simp [intOf];omega
  ·obtain rfl : i = n:=by omega
   have HN2 : Hid (belowL L x = k):=Lib.hid (by rw [← HN.out,List.take_of_length_le (by have:=Hn.out;omega)])
   go_wp2
   go_ret
   exact ⟨by rw [HN2.out];rfl,rfl⟩
set_option maxRecDepth 100000 in
set_option maxHeartbeats 4000000 in
theorem vAround_any (A : Option Addr) (n c : Nat) (L : List Nat) (x : Int) (w : World) (hA : Rd w 1 A (L.map encN)) (hl : L.length = n) (hn : n ≤ 4000000) :
  Calls Tryz.prog 36 #[.slice A n c,.int .i64 x] w fun e' w'=>e' = .returned (.tuple #[.int .i64 ((aroundL L x).1 : Nat),.int .i64 ((aroundL L x).2 : Nat)]) ∧ Below w.heap.size w w':=by
 have Hn:=Lib.hid hl
 have HF:=Lib.hid (fun i x y (h1 : L[i]? = some x) (h2 : L[i + 1]? = some y)=>piecesF_at L i x y h1 h2)
 have HFl:=Lib.hid (piecesF_len L)
 clear hl
 go_enter Tryz.func36,Tryz.ntmps36
 go_wp2_with fail
 go_loopw [6] (fun v wr=>∃ i j : Nat,v = .int .i64 (j : Int) ∧ Hid (j = i + 1) ∧ wr = w ∧ Hid (aroundL L x = (((piecesF L).drop i).find? (arT x)).getD (0,0))) (fun v _=>n + 1 - (intOf v).toNat)
 case atStart=>exact ⟨0,1,rfl,Lib.hid rfl,rfl,Lib.hid rfl⟩
 case round =>
  obtain ⟨i,j,rfl,HJ,rfl,HN⟩:=hrel
  by_cases hlt : j < n
  ·obtain ⟨y,Hy⟩ : ∃ y,Hid (L[i]? = some y):=⟨_,Lib.hid (List.getElem?_eq_getElem (by have:=Hn.out;have:=HJ.out;omega))⟩
   obtain ⟨z,Hz⟩ : ∃ y,Hid (L[j]? = some y):=⟨_,Lib.hid (List.getElem?_eq_getElem (by have:=Hn.out;omega))⟩
   obtain ⟨b,off,rfl,cy⟩:=Rd.atQ hA Hy.out
   obtain ⟨b2,off2,e2,cz⟩:=Rd.atQ hA Hz.out
   injection e2 with e2
   injection e2 with e3 e4 _
   subst e3 e4
   have hat:=HF.out i y z Hy.out (by rw [← HJ.out];exact Hz.out)
   have hdr : (piecesF L).drop i = (y,z) :: (piecesF L).drop (i + 1):=by
    obtain ⟨h1,h2⟩:=List.getElem?_eq_some_iff.1 hat
    rw [List.drop_eq_getElem_cons h1,h2]
   have HN2:=HN.out
   rw [hdr,List.find?_cons] at HN2
   have ej : (j : Int) - 1 = (i : Int):=by have:=HJ.out;omega
   have e5 : IntKind.i64.wrap ((j : Int) - 1) = (i : Int):=by rw [ej];exact IntWalk.i64_in _ (by have:=HJ.out;omega)
   have e6 : IntKind.i64.wrap (i : Int) = (i : Int):=IntWalk.i64_in _ (by have:=HJ.out;omega)
   clear hdr HN hat
   have hin : i < n:=by have:=HJ.out;omega
   have hi0 : (0 : Int) ≤ (i : Int):=by omega
   have hin2 : (i : Int) < (n : Int):=by omega
   have hq0 : arT x (y,z) = (decide ((y : Int) ≤ x) && decide (x < (z : Int))):=rfl
   cases hq : decide ((y : Int) ≤ x) with
   | true =>
    cases hr : decide (x < (z : Int)) with
    | true =>
     rw [hq0,hq,hr] at HN2
     have HN3 : Hid (aroundL L x = (y,z)):=Lib.hid HN2
     have hq2:=of_decide_eq_true hq
     have hr2:=of_decide_eq_true hr
     clear HN2 hq0
     go_wp2_with fail
     go_region
     go_wp2
     go_ret2
     exact ⟨by rw [HN3.out];rfl,(Below.refl _ _).drew⟩
    | false =>
     rw [hq0,hq,hr] at HN2
     have HN3:=Lib.hid HN2
     have hq2:=of_decide_eq_true hq
     have hr2 : ¬ (x < (z : Int)):=of_decide_eq_false hr
     clear HN2 hq0
     go_wp2
     go_roundw
     case rel=>exact ⟨i + 1,j + 1,by first | rfl | (go_num),Lib.hid (by rw [HJ.out]),by first | rfl | trivial,HN3⟩
     case measure=>simp [intOf];omega
   | false =>
    rw [hq0,hq] at HN2
    have HN3:=Lib.hid HN2
    have hq2 : ¬ ((y : Int) ≤ x):=of_decide_eq_false hq
    clear HN2 hq0
    go_wp2
    go_roundw
    case rel=>exact ⟨i + 1,j + 1,by first | rfl | (go_num),Lib.hid (by rw [HJ.out]),by first | rfl | trivial,HN3⟩
    case measure=>simp [intOf];omega
  ·have HN2 : Hid (aroundL L x = (0,0)):=Lib.hid (by rw [HN.out,List.drop_eq_nil_of_le (by rw [HFl.out];have:=Hn.out;have:=HJ.out;omega)];rfl)
   go_wp2
   go_ret2
   exact ⟨by rw [HN2.out];rfl,Below.refl _ _⟩
set_option maxRecDepth 100000 in
set_option maxHeartbeats 2000000 in
theorem vHas_any (A : Option Addr) (n c : Nat) (L : List Nat) (x : Int) (w : World) (hA : Rd w 1 A (L.map encN)) (hl : L.length = n) (hn : n ≤ 4000000) :
  Calls Tryz.prog 38 #[.slice A n c,.int .i64 x] w fun e' w'=>e' = .returned (.bool (hasL L x)) ∧ w = w':=by
 have Hn:=Lib.hid hl
 clear hl
 go_enter Tryz.func38,Tryz.ntmps38
 go_wp2_with fail
 go_loopw [5] (fun v wr=>∃ i : Nat,v = .int .i64 i ∧ i ≤ n ∧ wr = w ∧ Hid (hasL (L.take i) x = false)) (fun v _=>n - (intOf v).toNat)
 case atStart=>exact ⟨0,rfl,by omega,rfl,Lib.hid rfl⟩
 case round =>
  obtain ⟨i,rfl,hi,rfl,HN⟩:=hrel
  by_cases hlt : i < n
  ·obtain ⟨y,Hy⟩ : ∃ y,Hid (L[i]? = some y):=⟨_,Lib.hid (List.getElem?_eq_getElem (by have:=Hn.out;omega))⟩
   obtain ⟨b,off,rfl,cy⟩:=Rd.atQ hA Hy.out
   by_cases hq : (y : Int) = x
   ·have HN2 : Hid (hasL L x = true):=Lib.hid (by
     unfold hasL
     rw [List.contains_iff_mem,List.mem_map]
     exact ⟨y,List.mem_of_getElem? Hy.out,hq⟩)
    go_wp2
    go_ret
    exact ⟨by rw [HN2.out];rfl,rfl⟩
   ·have HN2 : Hid (hasL (L.take (i + 1)) x = false):=Lib.hid (by
     rw [hasL_step Hy.out,HN.out,Bool.false_or];simpa using hq)
    go_wp2
    go_roundw
    case rel=>exact ⟨i + 1,by go_num,by omega,by first | rfl | trivial,HN2⟩
    case measure=>simp [intOf];omega
  ·obtain rfl : i = n:=by omega
   have HN2 : Hid (hasL L x = false):=Lib.hid (by rw [← HN.out,List.take_of_length_le (by have:=Hn.out;omega)])
   go_wp2
   go_ret
   exact ⟨by rw [HN2.out];rfl,rfl⟩
set_option maxRecDepth 100000 in
set_option maxHeartbeats 2000000 in
theorem kPrev_any (s : ByteArray) (x : Int) (w : World) (hE : Env w) (hs : s.size ≤ 1000000) :
  Calls Tryz.prog 41 #[.string s,.int .i64 x] w fun e w'=>e = .returned (.int .i64 (belowL (wBounds gW s) x : Nat)) ∧ Below w.heap.size w w':=by
 have HB:=Lib.hid (kBounds_any s w hE hs)
 have hL:=wBounds_len gW s
 generalize wBounds gW s = L at HB hL ⊢
 clear hE
 go_enter Tryz.func41,Tryz.ntmps41
 go_wp2_with fail
 refine HB.out.mono ?_
 rintro e w1 ⟨A,n,c,rfl,ho,hb1⟩
 have hn : L.length = n:=by have:=ho.len;simpa using this
 have Hn:=Lib.hid hn
 have hz : n ≤ 1000001:=by omega
 have rd:=ho.rd (by decide)
 clear hn ho
 go_wp2_with fail
 go_loopw [5,7,11] (fun u _ v wr=>∃ i k : Nat,v = .int .i64 i ∧ u = .int .i64 k ∧ i ≤ n ∧ wr = w1 ∧ Hid (belowL (L.take i) x = k)) (fun _ _ v _=>n - (intOf v).toNat)
 case atStart=>exact ⟨0,0,rfl,rfl,by omega,rfl,Lib.hid rfl⟩
 case round =>
  obtain ⟨i,k,rfl,rfl,hi,rfl,HN⟩:=hrel
  by_cases hlt : i < n
  ·obtain ⟨y,Hy⟩ : ∃ y,Hid (L[i]? = some y):=⟨_,Lib.hid (List.getElem?_eq_getElem (by have:=Hn.out;omega))⟩
   obtain ⟨b,off,rfl,cy⟩:=Rd.atQ rd Hy.out
   have HN2:=belowL_step (x:=x) Hy.out
   by_cases hq : (y : Int) < x
   ·rw [if_pos hq] at HN2
    have HN3:=Lib.hid HN2
    clear HN2
    go_wp2
    go_roundw
    case rel=>exact ⟨i + 1,y,by go_num,rfl,by omega,by first | rfl | trivial,HN3⟩
    case measure=>simp [intOf];omega
   ·rw [if_neg hq,HN.out] at HN2
    have HN3:=Lib.hid HN2
    clear HN2
    go_wp2
    go_roundw
    case rel=>exact ⟨i + 1,k,by go_num,rfl,by omega,by first | rfl | trivial,HN3⟩
    case measure=>simp [intOf];omega
  ·obtain rfl : i = n:=by omega
   have HN2 : Hid (belowL L x = k):=Lib.hid (by rw [← HN.out,List.take_of_length_le (by have:=Hn.out;omega)])
   go_wp2
   go_ret
   exact ⟨by rw [HN2.out];rfl,hb1⟩
end Go.Proofs.YtdngkienloligaaGreatDoor
/- -/
namespace Go.Proofs.YtdngkienloligaaGreatDoor
open Go.RowKit Go.Shelf
attribute [local go_sem] Oper.semAt_some
theorem res_aroundW (w : World) (b4 b5 : Nat) (tmps : Array Value) (h4 : tmps.getD 4 undef = .pointer (some ⟨b4,0,none⟩)) (h5 : tmps.getD 5 undef = .pointer (some ⟨b5,0,none⟩)) {x y : Int}
  (c4 : w.cell? ⟨b4,0,none⟩ = some (.int .i64 x)) (c5 : w.cell? ⟨b5,0,none⟩ = some (.int .i64 y)) : (results Tryz.f35 tmps).run Tryz.prog w = .ok (.tuple #[.int .i64 x,.int .i64 y]) w:=by
 have h4' : tmps[4]?.getD undef = .pointer (some ⟨b4,0,none⟩):=by simpa [Array.getD_eq_getD_getElem?] using h4
 have h5' : tmps[5]?.getD undef = .pointer (some ⟨b5,0,none⟩):=by simpa [Array.getD_eq_getD_getElem?] using h5
 simp [results,Tryz.results35,go_sem,h4',h5',c4,c5]
theorem blk_farW {V : World} {p : Addr} {u : Value} {k : Nat} {t : TypeId} {cs : Array Value} (h : Blk V k t cs) (hne : k ≠ p.block) : Blk (V.setCell p u) k t cs:=(Below.heap_setCell V p u k hne).trans h
theorem blk_putW {V : World} {D : Nat} {o : Obj} {k : Nat} {t : TypeId} {cs : Array Value} (h : Blk V k t cs) (hne : k ≠ D) : Blk (V.putObj D o) k t cs:=(World.putObj_heap_other hne).trans h
theorem find_prefixW {α : Type} {P : α → Bool} : ∀ {pre L : List α} {q : α},pre ++ [q] <+: L → (∀ p ∈ pre,P p = false) → P q = true → L.find? P = some q
 | [],L,q,⟨t,h⟩,_,hq=>by rw [← h];simp [hq]
 | a :: r,L,q,⟨t,h⟩,hp,hq=>by
  rw [← h,List.cons_append,List.cons_append,List.find?_cons,hp a (by simp)]
  exact find_prefixW ⟨t,rfl⟩ (fun p hp'=>hp p (by simp [hp'])) hq
def NoA (s : ByteArray) (x : Int) (pre : List (Nat × Nat)) : Prop:=∀ p ∈ pre,arT x (clP s p) = false
def ArM (s : ByteArray) (x : Int) (w : World) (pre : List (Nat × Nat)) (W : World) : Prop :=
 ∃ (q : Nat × Nat) (pre0 : List (Nat × Nat)),pre = pre0 ++ [q] ∧ NoA s x pre0 ∧ arT x (clP s q) = true ∧ Blk W (w.heap.size + 1) 3 #[.int .i64 ((clP s q).1 : Nat)] ∧ Blk W (w.heap.size + 1 + 1) 3 #[.int .i64 ((clP s q).2 : Nat)] ∧ Below w.heap.size w W
theorem pieces_clW2 {s : ByteArray} {p : Nat × Nat} (h : p ∈ piecesF (wBounds gW s)) : clP s p = p:=clP_in (piecesF_le (wBounds_rise gW s) (wBounds_le gW s) p h)
set_option maxRecDepth 100000 in
set_option maxHeartbeats 4000000 in
theorem kAround_any (s : ByteArray) (x : Int) (w : World) (hE : Env w) (hs : s.size ≤ 1000000) : Calls Tryz.prog 35 #[.string s,.int .i64 x] w fun e w'=>e = .returned (.tuple #[.int .i64 ((aroundL (wBounds gW s) x).1 : Nat),.int .i64 ((aroundL (wBounds gW s) x).2 : Nat)]) ∧ Below w.heap.size w w':=by
 have hA1 : Below w.heap.size w (w.alloc (.cells #[.int .i64 x] 3)):=(Below.refl _ _).alloc (Nat.le_refl _) _
 have hA2:=hA1.alloc hA1.size (.cells #[.int .i64 0] 3)
 have hA4:=hA2.alloc hA2.size (.cells #[.int .i64 0] 3)
 have B3 : Blk (((w.alloc (.cells #[.int .i64 x] 3)).alloc (.cells #[.int .i64 0] 3)).alloc (.cells #[.int .i64 0] 3)) w.heap.size 3 #[.int .i64 x]:=(((Blk.new w 3 #[.int .i64 x]).alloc _).alloc _)
 have B4 : Blk (((w.alloc (.cells #[.int .i64 x] 3)).alloc (.cells #[.int .i64 0] 3)).alloc (.cells #[.int .i64 0] 3)) (w.heap.size + 1) 3 #[.int .i64 0]:=by
  have:=(Blk.new (w.alloc (.cells #[.int .i64 x] 3)) 3 #[.int .i64 0]).alloc (.cells #[.int .i64 0] 3)
  rw [World.size_alloc] at this
  exact this
 have B5 : Blk (((w.alloc (.cells #[.int .i64 x] 3)).alloc (.cells #[.int .i64 0] 3)).alloc (.cells #[.int .i64 0] 3)) (w.heap.size + 1 + 1) 3 #[.int .i64 0]:=by
  have:=Blk.new ((w.alloc (.cells #[.int .i64 x] 3)).alloc (.cells #[.int .i64 0] 3)) 3 #[.int .i64 0]
  rw [World.size_alloc,World.size_alloc] at this
  exact this
 clear hA1 hA2
 refine (callsIn_wide (n:=6)).1 ?_
 refine callsIn_of_wp_marks Tryz.func35 rfl trivial ?_ rfl
 simp only [Tryz.ntmps35,List.size_toArray,List.length_cons,List.length_nil,Nat.reduceAdd,Nat.reduceSub,Array.replicate_succ,Array.replicate_zero,List.push_toArray,List.append_toArray,List.nil_append,List.cons_append]
 refine wpIn_wide.2 ?_
 go_wp2_with fail
 generalize (((w.alloc (.cells #[.int .i64 x] 3)).alloc (.cells #[.int .i64 0] 3)).alloc (.cells #[.int .i64 0] 3)) = w0 at hA4 B3 B4 B5 ⊢
 refine (kEach_any s w0).mono ?_
 rintro e w1 ⟨bs,rfl,hc,hb⟩
 have hW1:=below_two hA4 hb
 have C3:=B3.below hb
 have C4:=B4.below hb
 have C5:=B5.below hb
 have hz6:=C5.lt
 have hE1:=hE.below hW1
 clear hA4 hb B3 B4 B5 hE
 go_wp2_with fail
 refine (wpIn_wide (n:=6)).1 ?_
 refine rngH rfl (by decide) (gf:=107) (lb:=#[.pointer (some ⟨bs,0,none⟩)]) rfl trivial (enters_of Tryz.func107 (by kernel_rfl) rfl)
  (kEach_seq 5 (by decide) w1 s bs (fun _=>False) (fun _ h=>h.elim) hE1 hs hc) (fun h k=>h.trans k) (fun W l o o' _ h hc _=>KT.put W l o o' h hc) (Below.refl _ _) (fun _=>rfl) (fun W=>KT.refl _ _ W)
  (fun (pre : List (Nat × Nat)) W=>NoA s x pre ∧ Below w1.heap.size w1 W)
  (fun cc pre W=>cc = .ret ∧ ArM s x w pre W)
  (OwnFrom.and (fun _ _ _ _ hs _ _=>hs) (ownFrom_below (Nat.le_refl _) (Nat.le_refl _)))
  (fun cc pre A B row hs hg hr=>by
   obtain ⟨h1,q,pre0,h2,h3,h4,h5,h6,h8⟩:=hs
   exact ⟨h1,q,pre0,h2,h3,h4,h5.kept hg (fun r e=>(hr r e).2),h6.kept hg (fun r e=>(hr r e).2),ownFrom_below (β:=Unit) (Nat.le_refl w.heap.size) (by omega : w.heap.size ≤ w1.heap.size) () A B row h8 hg hr⟩)
  ⟨(fun p hp=>by cases hp),Below.refl _ _⟩
  (fun T (x : Nat × Nat)=>(((T.setIfInBounds 10 (.int .i64 ((clP s x).1 : Nat))).setIfInBounds 11 (.int .i64 ((clP s x).2 : Nat))).setIfInBounds 6 (.int .i64 ((clP s x).1 : Nat))).setIfInBounds 7 (.int .i64 ((clP s x).2 : Nat))) ?assign ?body ?done ?stop
 case assign =>
  intro l2 x V K hK
  simp only [List.setIfInBounds_toArray,List.set_cons_succ,List.set_cons_zero] at hK
  simp only [encCl,encP2]
  gi_wp2
  exact hK
 case body =>
  rintro l2 pre y W hl2 _ ⟨hno,hbW⟩ hlen
  simp only [List.setIfInBounds_toArray,List.set_cons_succ,List.set_cons_zero]
  obtain ⟨⟨a,b⟩,hab⟩ : ∃ z,clP s y = z:=⟨_,rfl⟩
  rw [hab]
  simp only
  have c3:=(C3.below hbW).cell 0
  have D4:=C4.below hbW
  have D5:=C5.below hbW
  have c4:=D4.cell 0
  have c5:=D5.cell 0
  have f4:=D4.frozen 0
  have f5:=D5.frozen 0
  simp only [List.getElem?_toArray,List.getElem?_cons_zero] at c3 c4 c5
  have hz4 : w.heap.size + 1 + 1 < w1.heap.size:=hz6
  have HNo:=Lib.hid hno
  have HAB:=Lib.hid hab
  clear hno hab
  have hstop : ¬ ((a : Int) ≤ x ∧ x < (b : Int)) → Hid (NoA s x (pre ++ [y])):=fun hq=>Lib.hid (fun p hp=>by
   rcases List.mem_append.1 hp with h | h
   ·exact HNo.out p h
   ·rw [List.mem_singleton] at h;subst h;rw [HAB.out];unfold arT
    rw [Bool.and_eq_false_iff,decide_eq_false_iff_not,decide_eq_false_iff_not]
    by_cases h1 : (a : Int) ≤ x
    ·exact .inr fun h2=>hq ⟨h1,h2⟩
    ·exact .inl h1)
  by_cases h1 : (a : Int) ≤ x
  ·by_cases h2 : x < (b : Int)
   ·have HT : Hid (arT x (clP s y) = true):=Lib.hid (by rw [HAB.out];unfold arT;rw [decide_eq_true h1,decide_eq_true h2];rfl)
    clear hstop
    gi_wp2
    have E4:=D4.set_ 0 (.int .i64 (a : Nat))
    have E5:=(blk_farW (p:=⟨w.heap.size + 1,0,none⟩) (u:=.int .i64 (a : Nat)) D5 (by simp)).set_ 0 (.int .i64 (b : Nat))
    refine ⟨((KeepsOthers.setCell _ _ _).trans (KeepsOthers.setCell _ _ _)).from _,rfl,y,pre,rfl,HNo.out,HT.out,?_,?_,?_⟩
    ·rw [HAB.out];exact blk_farW E4 (by simp)
    ·rw [HAB.out];exact E5
    ·exact (((hW1.trans (hbW.mono hW1.size)).setCell (p:=⟨w.heap.size + 1,0,none⟩) (by simp only;omega) _).setCell (p:=⟨w.heap.size + 1 + 1,0,none⟩) (by simp only;omega) _)
   ·have HNo2:=hstop (fun h=>h2 h.2)
    clear hstop
    gi_wp2
    exact ⟨KeepsFrom.refl _ _,KT.refl _ _ _,HNo2.out,hbW⟩
  ·have HNo2:=hstop (fun h=>h1 h.1)
   clear hstop
   gi_wp2
   exact ⟨KeepsFrom.refl _ _,KT.refl _ _ _,HNo2.out,hbW⟩
 case done =>
  rintro D ys V hD hys ⟨hno,hbV⟩ hK
  subst hys
  have HV : Hid (aroundL (wBounds gW s) x = (0,0)):=Lib.hid (by
   have : (piecesF (wBounds gW s)).find? (arT x) = none:=by
    rw [List.find?_eq_none]
    intro p hp
    have:=hno p hp
    rw [pieces_clW2 hp] at this
    simpa using this
   unfold aroundL;rw [this];rfl)
  have D4:=C4.below hbV
  have D5:=C5.below hbV
  have c4:=D4.cell 0
  have c5:=D5.cell 0
  have f4:=D4.frozen 0
  have f5:=D5.frozen 0
  simp only [List.getElem?_toArray,List.getElem?_cons_zero] at c4 c5
  go_wp2
  have hz4 : w.heap.size + 1 + 1 < w1.heap.size:=hz6
  have E4:=D4.set_ 0 (.int .i64 0)
  have E5:=(blk_farW (p:=⟨w.heap.size + 1,0,none⟩) (u:=.int .i64 0) D5 (by simp)).set_ 0 (.int .i64 0)
  have hK3:=(Below.heap_setCell _ ⟨w.heap.size + 1 + 1,0,none⟩ (.int .i64 0) D (by simp only;omega)).trans ((Below.heap_setCell V ⟨w.heap.size + 1,0,none⟩ (.int .i64 0) D (by simp only;omega)).trans hK)
  refine ⟨by simp,.inl ⟨_,_,rfl,run_takeDeferred hK3,?_⟩⟩
  have F4:=blk_putW (D:=D) (o:=.deferred none) (blk_farW (p:=⟨w.heap.size + 1 + 1,0,none⟩) (u:=.int .i64 0) E4 (by simp)) (by omega)
  have F5:=blk_putW (D:=D) (o:=.deferred none) E5 (by omega)
  refine ⟨_,res_aroundW _ _ _ _ rfl rfl (F4.cell 0) (F5.cell 0),by rw [HV.out] <;> rfl,?_⟩
  exact ((((hW1.trans (hbV.mono hW1.size)).setCell (p:=⟨w.heap.size + 1,0,none⟩) (by simp only;omega) _).setCell (p:=⟨w.heap.size + 1 + 1,0,none⟩) (by simp only;omega) _)).trans (belowK_b (w:=w) (Nat.le_refl _) _ D _ _ (by omega) hK3 rfl rfl)
 case stop =>
  rintro D cc pre W hD hp ⟨rfl,q,pre0,rfl,h3,h4,h5,h6,h8⟩ hK
  have hmem : ∀ p ∈ pre0 ++ [q],p ∈ piecesF (wBounds gW s):=fun p h=>hp.subset h
  have HV : Hid (aroundL (wBounds gW s) x = ((clP s q).1,(clP s q).2)):=Lib.hid (by
   have : (piecesF (wBounds gW s)).find? (arT x) = some q:=by
    refine find_prefixW hp (fun p hp'=>?_) ?_
    ·have:=h3 p hp'
     rwa [pieces_clW2 (hmem p (by simp [hp']))] at this
    ·rwa [pieces_clW2 (hmem q (by simp))] at h4
   unfold aroundL;rw [this,pieces_clW2 (hmem q (by simp))];rfl)
  have c4:=h5.cell 0
  have c5:=h6.cell 0
  simp only [List.getElem?_toArray,List.getElem?_cons_zero] at c4 c5
  have hz4 : w.heap.size + 1 + 1 < w1.heap.size:=hz6
  gi_wp2
  refine ⟨by simp,.inl ⟨_,_,rfl,run_takeDeferred hK,?_⟩⟩
  have F4:=blk_putW (D:=D) (o:=.deferred none) h5 (by omega)
  have F5:=blk_putW (D:=D) (o:=.deferred none) h6 (by omega)
  refine ⟨_,res_aroundW _ _ _ _ rfl rfl (F4.cell 0) (F5.cell 0),by rw [HV.out] <;> rfl,?_⟩
  exact h8.trans (belowK_b (w:=w) (Nat.le_refl _) _ D _ _ (by omega) hK rfl rfl)
end Go.Proofs.YtdngkienloligaaGreatDoor
/- -/
namespace Go.Proofs.YtdngkienloligaaGreatDoor
open Go.RowKit
set_option maxRecDepth 100000 in
set_option maxHeartbeats 8000000 in
theorem kIs_any (s : ByteArray) (a : Int) (w : World) (hE : Env w) (hs : s.size ≤ 1000000) :
  Calls Tryz.prog 37 #[.string s,.int .i64 a] w fun e w'=>e = .returned (.bool (((wBounds gW s).map (Nat.cast : Nat → Int)).any (a == ·))) ∧ Below w.heap.size w w':=by
 have HB:=Lib.hid (kBounds_any s w hE hs)
 have hbl:=wBounds_len gW s
 go_enter Tryz.func37,Tryz.ntmps37
 go_wp2_with fail
 refine HB.out.mono ?_
 rintro e w1 ⟨A,n,c,rfl,ho,hb⟩
 have hn : (wBounds gW s).length = n:=by have h:=ho.len;rw [List.length_map] at h;exact h
 have hrd:=ho.rd (by decide)
 have HC:=Lib.hid (lContains_any A n c ((wBounds gW s).map (Nat.cast : Nat → Int)) a w1 (by rw [List.map_map];exact hrd) (by rw [List.length_map];exact hn) (by omega))
 go_wp2_with fail
 refine HC.out.mono ?_
 rintro e w2 ⟨rfl,rfl⟩
 go_wp2
 go_ret
 exact ⟨by rw [List.any_map];rfl,hb⟩
end Go.Proofs.YtdngkienloligaaGreatDoor
/- -/
namespace Go.Proofs.YtdngkienloligaaGreatDoor
open Go.RowKit
theorem hasL_any (L : List Nat) (x : Int) : ((L.map (Nat.cast : Nat → Int)).any (x == ·)) = hasL L x:=by
 unfold hasL
 rw [List.contains_eq_any_beq]
set_option maxRecDepth 100000 in
set_option maxHeartbeats 8000000 in
theorem pWordMoves_any (s : ByteArray) (x : Int) (w : World) (hE : Env w) (hs : s.size ≤ 140737488355328) :
  Calls Tryz.prog 7 #[.string s,.int .i64 x] w fun e w'=>e = .returned (.bool true) ∧ Below w.heap.size w w':=by
 have HLv:=Lib.hid (fun W (h : Env W)=>klive_any W h)
 by_cases h1 : 70 < s.size
 ·have g1 : (70 : Int) < (s.size : Int):=by omega
  go_enter Tryz.func7,Tryz.ntmps7
  go_wp2_with fail
  refine (HLv.out _ hE).mono ?_
  rintro e w1 ⟨rfl,hb⟩
  go_wp2
  go_ret
  exact ⟨rfl,hb⟩
 have g1 : ¬ (70 : Int) < (s.size : Int):=by omega
 have hsz : s.size ≤ 70:=by omega
 have HB:=Lib.hid (fun W=>vBounds_any s W (by omega))
 have HA:=Lib.hid (fun W (h : Env W)=>kAround_any s x W h (by omega))
 have HI:=Lib.hid (fun W (h : Env W)=>kIs_any s x W h (by omega))
 have HX:=Lib.hid (fun W (h : Env W)=>kNext_any s x W h (by omega))
 have HP:=Lib.hid (fun W (h : Env W)=>kPrev_any s x W h (by omega))
 have hL:=wBounds_len gW s
 have HXv : Hid (nextW s x = aboveL (wBounds gW s) x s.size):=Lib.hid rfl
 have HIv:=Lib.hid (hasL_any (wBounds gW s) x)
 rw [HIv.out] at HI
 rw [HXv.out] at HX
 generalize wBounds gW s = L at HB HA HI HX HP hL
 have HRA:=Lib.hid (fun A c W (hA : Rd W 1 A (L.map encN))=>vAround_any A L.length c L x W hA rfl (by omega))
 have HRH:=Lib.hid (fun A c W (hA : Rd W 1 A (L.map encN))=>vHas_any A L.length c L x W hA rfl (by omega))
 have HRX:=Lib.hid (fun A c W (hA : Rd W 1 A (L.map encN))=>vAbove_any A L.length c L x s.size W hA rfl (by omega))
 have HRP:=Lib.hid (fun A c W (hA : Rd W 1 A (L.map encN))=>vBelow_any A L.length c L x W hA rfl (by omega))
 obtain ⟨p1,Hp1⟩ : ∃ p,Hid ((aroundL L x).1 = p):=⟨_,Lib.hid rfl⟩
 obtain ⟨p2,Hp2⟩ : ∃ p,Hid ((aroundL L x).2 = p):=⟨_,Lib.hid rfl⟩
 rw [Hp1.out,Hp2.out] at HA HRA
 generalize aboveL L x s.size = nx at HX HRX
 generalize belowL L x = pv at HP HRP
 generalize hasL L x = q at HI HRH
 clear h1 hs HIv HXv
 go_enter Tryz.func7,Tryz.ntmps7
 go_wp2_with fail
 refine (HB.out w).mono ?_
 rintro e w3 ⟨A,n,c,rfl,ho,hb13⟩
 obtain rfl : L.length = n:=by have:=ho.len;simpa using this
 have rd3:=ho.rd (by decide)
 clear ho
 go_wp2_with fail
 refine (HA.out _ (hE.below hb13)).mono ?_
 rintro e w4 ⟨rfl,hb4⟩
 have hb14:=below_two hb13 hb4
 have rd4:=rd3.below hb4
 have HRA4:=Lib.hid (HRA.out A c w4 rd4)
 clear hb13 hb4 rd3
 go_wp2_with fail
 refine HRA4.out.mono ?_
 rintro e w5 ⟨rfl,hb5⟩
 have hb15:=below_two hb14 hb5
 have rd5:=rd4.below hb5
 have H6:=Lib.hid (HI.out w5 (hE.below hb15))
 clear HRA4 hb14 hb5 rd4
 go_wp2_with fail
 refine H6.out.mono ?_
 rintro e w6 ⟨rfl,hb6⟩
 have hb16:=below_two hb15 hb6
 have rd6:=rd5.below hb6
 have H6b:=Lib.hid (HRH.out A c w6 rd6)
 clear H6 hb15 hb6 rd5
 go_wp2_with fail
 refine H6b.out.mono ?_
 rintro e w6b ⟨rfl,rfl⟩
 have H7:=Lib.hid (HX.out w6 (hE.below hb16))
 clear H6b
 cases q
 all_goals
  go_wp2_with fail
  refine H7.out.mono ?_
  rintro e w7 ⟨rfl,hb7⟩
  have hb17:=below_two hb16 hb7
  have rd7:=rd6.below hb7
  have H8:=Lib.hid (HRX.out A c w7 rd7)
  clear H7 hb16 hb7 rd6
  go_wp2_with fail
  refine H8.out.mono ?_
  rintro e w8 ⟨rfl,rfl⟩
  have H9:=Lib.hid (HP.out w7 (hE.below hb17))
  clear H8
  go_wp2_with fail
  refine H9.out.mono ?_
  rintro e w9 ⟨rfl,hb9⟩
  have hb19:=below_two hb17 hb9
  have rd9:=rd7.below hb9
  have H10:=Lib.hid (HRP.out A c w9 rd9)
  clear H9 hb17 hb9 rd7
  go_wp2_with fail
  refine H10.out.mono ?_
  rintro e w10 ⟨rfl,rfl⟩
  have H11:=Lib.hid (HLv.out w9 (hE.below hb19))
  clear H10
  go_wp2_with fail
  refine H11.out.mono ?_
  rintro e w11 ⟨rfl,hb11⟩
  go_wp2
  go_ret
  exact ⟨rfl,below_two hb19 hb11⟩
end Go.Proofs.YtdngkienloligaaGreatDoor
