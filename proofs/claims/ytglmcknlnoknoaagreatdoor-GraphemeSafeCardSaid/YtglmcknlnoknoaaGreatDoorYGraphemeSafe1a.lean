/-
 Several texts in one,in their build order: Gd,Gh,PtI,Td,Tf.
-/
import Derived.Deep.CutRange
import Derived.WalkMore
import Derived.Test.YtglmcknlnoknoaaGreatDoorYGraphemeSafeGb
import Derived.Test.YtglmcknlnoknoaaGreatDoorYGraphemeSafe0a
import Derived.Test.YtglmcknlnoknoaaGreatDoorGShelf
import Derived.Test.YtglmcknlnoknoaaGreatDoorGRdr
import Derived.Test.YtglmcknlnoknoaaGreatDoorG0a
import Derived.Test.YtglmcknlnoknoaaGreatDoorYGraphemeSafePtH
import Derived.Test.YtglmcknlnoknoaaGreatDoorYGraphemeSafeKe
/- -/
namespace Go.Proofs.YtglmcknlnoknoaaGreatDoor
open Go.RowKit
theorem infoB8 : (Tryz.prog.info? 5).map (fun i=>(i.zero,i.size,i.bytes)) = some (some (.int .u8 0),1,1):=by kernel_rfl
set_option maxRecDepth 100000 in
set_option maxHeartbeats 2000000 in
theorem gCount_any (s : ByteArray) (w : World) (hE : Env w) (hs : s.size ≤ 1000000) :
  Calls Tryz.prog 68 #[.string s] w fun e w'=>e = .returned (.int .i64 (countG s : Nat)) ∧ Below w.heap.size w w':=by
 have HB:=Lib.hid (gBounds_any s w hE hs)
 have HL:=Lib.hid (bounds_len s)
 clear hE
 go_enter Tryz.func68,Tryz.ntmps68
 go_wp2_with fail
 refine HB.out.mono ?_
 rintro e w1 ⟨A,n,c,rfl,ho,hb1⟩
 have hn : (boundsG gG s).length = n:=by have:=ho.len;simpa using this
 have HV : Hid (countG s = n - 1):=Lib.hid (by unfold countG;rw [hn])
 have hz : n ≤ 1000001:=by have:=HL.out;omega
 clear hn ho
 cases n with
 | zero =>
  go_wp2
  go_ret
  exact ⟨by rw [HV.out];rfl,hb1⟩
 | succ k =>
  have HV2 : Hid (countG s = k):=Lib.hid (by rw [HV.out];rfl)
  have e1 : ((k + 1 : Nat) : Int) - 1 = (k : Int):=by omega
  have e2 : IntKind.i64.wrap (((k + 1 : Nat) : Int) - 1) = (k : Int):=by rw [e1];exact IntWalk.i64_in _ (by omega)
  have e3 : max (k : Int) 0 = (k : Int):=by omega
  go_wp2
  go_ret
  exact ⟨by rw [HV2.out];rfl,hb1⟩
theorem search_own {w : World} {base : Nat} {A : Option Addr} {n c : Nat} {L : List Nat} (x : Int) (ho : Own w base 3 1 A n c (L.map encN)) (hr : L.Pairwise (· < ·)) (hz : n ≤ 4000000) :
  Calls Tryz.prog 83 #[.slice A n c,.int .i64 x] w fun e w'=>(∃ k : Int,e = .returned (.tuple #[.int .i64 k,.bool ((L.map fun (a : Nat)=>(a : Int)).contains x)])) ∧ Below w.heap.size w w':=by
 have hn : L.length = n:=by have:=ho.len;simpa using this
 have rd:=ho.rd (by decide)
 cases L with
 | nil =>
  obtain rfl : 0 = n:=hn
  refine (Tryz.slices_BinarySearch_int_empty A c x w).mono ?_
  rintro e w' ⟨rfl,rfl⟩
  exact ⟨⟨0,rfl⟩,Below.refl _ _⟩
 | cons a r =>
  obtain ⟨b,off,rfl,hc⟩:=rd (by simp)
  refine (Tryz.slices_BinarySearch_int b off n c ((a :: r).map fun (a : Nat)=>(a : Int)) x w (by simp at hn ⊢;omega) (by omega) (fun j hj=>?_) ?_).mono ?_
  ·rw [List.length_map] at hj
   have hx:=List.getElem?_eq_getElem hj
   have:=hc j 0 (encN (a :: r)[j]) (.int .i64 ((a :: r)[j] : Nat)) (by rw [List.getElem?_map,hx];rfl) rfl
   rw [List.getD_eq_getElem?_getD,List.getElem?_map,hx]
   simpa using this
  ·refine List.Pairwise.sublist (List.take_sublist _ _) ?_
   rw [List.pairwise_map]
   exact hr.imp fun h=>by omega
  ·rintro e w' ⟨rfl,q,rfl⟩
   rw [List.take_of_length_le (by rw [List.length_map];omega)]
   exact ⟨⟨_,rfl⟩,below_refl_drewN w q⟩
set_option maxRecDepth 100000 in
set_option maxHeartbeats 2000000 in
theorem gIs_any (s : ByteArray) (x : Int) (w : World) (hE : Env w) (hs : s.size ≤ 1000000) :
  Calls Tryz.prog 21 #[.string s,.int .i64 x] w fun e w'=>e = .returned (.bool (isG s x)) ∧ Below w.heap.size w w':=by
 have HB:=Lib.hid (gBounds_any s w hE hs)
 have HL:=Lib.hid (bounds_len s)
 clear hE
 go_enter Tryz.func21,Tryz.ntmps21
 go_wp2_with fail
 refine HB.out.mono ?_
 rintro e w1 ⟨A,n,c,rfl,ho,hb1⟩
 have hn : (boundsG gG s).length = n:=by have:=ho.len;simpa using this
 have HS:=Lib.hid (search_own x ho (bounds_rise gG s) (by have:=HL.out;omega))
 clear hn ho
 obtain ⟨v,HV⟩ : ∃ v,Hid (isG s x = v):=⟨_,Lib.hid rfl⟩
 have HV2:=HV.out
 unfold isG at HV2
 rw [HV2] at HS
 clear HV2
 go_wp2_with fail
 refine HS.out.mono ?_
 rintro e w2 ⟨⟨k,rfl⟩,hb2⟩
 go_wp2
 go_ret
 exact ⟨by rw [HV.out];rfl,below_two hb1 hb2⟩
set_option maxRecDepth 100000 in
set_option maxHeartbeats 2000000 in
theorem gNext_any (s : ByteArray) (x : Int) (w : World) (hE : Env w) (hs : s.size ≤ 1000000) :
  Calls Tryz.prog 70 #[.string s,.int .i64 x] w fun e w'=>e = .returned (.int .i64 (nextG s x : Nat)) ∧ Below w.heap.size w w':=by
 have HB:=Lib.hid (gBounds_any s w hE hs)
 have HL:=Lib.hid (bounds_len s)
 clear hE
 go_enter Tryz.func70,Tryz.ntmps70
 go_wp2_with fail
 refine HB.out.mono ?_
 rintro e w1 ⟨A,n,c,rfl,ho,hb1⟩
 have hn : (boundsG gG s).length = n:=by have:=ho.len;simpa using this
 have Hn:=Lib.hid hn
 have hz : n ≤ 1000001:=by have:=HL.out;omega
 have rd:=ho.rd (by decide)
 clear hn ho
 go_wp2_with fail
 go_loopw [10] (fun v wr=>∃ i : Nat,v = .int .i64 i ∧ i ≤ n ∧ wr = w1 ∧ Hid (nextG s x = (((boundsG gG s).drop i).find? fun (a : Nat)=>decide (x < (a : Int))).getD s.size)) (fun v _=>n - (intOf v).toNat)
 case atStart=>exact ⟨0,rfl,by omega,rfl,Lib.hid rfl⟩
 case round =>
  obtain ⟨i,rfl,hi,rfl,HN⟩:=hrel
  by_cases hlt : i < n
  ·obtain ⟨y,Hy⟩ : ∃ y,Hid ((boundsG gG s)[i]? = some y):=⟨_,Lib.hid (List.getElem?_eq_getElem (by have:=Hn.out;omega))⟩
   obtain ⟨b,off,rfl,cy⟩:=rd.atP' Hy.out
   have hdr : (boundsG gG s).drop i = y :: (boundsG gG s).drop (i + 1):=by rw [List.drop_eq_getElem_cons (by have:=Hn.out;omega)];rw [(List.getElem?_eq_some_iff.1 Hy.out).2]
   have HN2:=HN.out
   rw [hdr,List.find?_cons] at HN2
   clear hdr HN
   cases hq : decide (x < (y : Int)) with
   | true =>
    rw [hq] at HN2
    have HN3 : Hid (nextG s x = y):=Lib.hid HN2
    have hq2 : ((y : Int) > x) = True:=eq_true (of_decide_eq_true hq)
    clear HN2
    go_wp2
    go_ret
    exact ⟨by rw [HN3.out];rfl,hb1⟩
   | false =>
    rw [hq] at HN2
    have HN3:=Lib.hid HN2
    clear HN2
    go_wp2
    go_roundw
    case rel=>exact ⟨i + 1,by go_num,by omega,by first | rfl | trivial,HN3⟩
    case measure=>simp [intOf];omega
  ·obtain rfl : i = n:=by omega
   have HN2 : Hid (nextG s x = s.size):=Lib.hid (by rw [HN.out,List.drop_eq_nil_of_le (by have:=Hn.out;omega)];rfl)
   go_wp2
   go_ret
   exact ⟨by rw [HN2.out];rfl,hb1⟩
end Go.Proofs.YtglmcknlnoknoaaGreatDoor
/- -/
namespace Go.Proofs.YtglmcknlnoknoaaGreatDoor
open Go.RowKit
def edgeT (s : ByteArray) (z b : Nat) : Bool:=!(decide (b ≤ z) && decide (b < (Utf8.decode s (z - b)).2))
def edgeK (s : ByteArray) (z : Nat) : Nat → Nat → Bool
 | _,0=>true
 | b,k + 1=>edgeT s z b && edgeK s z (b + 1) k
theorem edgeB_K (s : ByteArray) (z : Nat) : edgeB s z = edgeK s z 1 3:=by simp [edgeB,edgeK,edgeT]
theorem edgeK_far {s : ByteArray} {z : Nat} : ∀ (k b : Nat),z < b → edgeK s z b k = true
 | 0,_,_=>rfl
 | k + 1,b,h=>by
  unfold edgeK
  rw [edgeK_far k (b + 1) (by omega)]
  unfold edgeT
  simp [show ¬ b ≤ z by omega]
set_option maxRecDepth 100000 in
set_option maxHeartbeats 2000000 in
theorem uIs_any (s : ByteArray) (z : Nat) (w : World) (hT : Tabs w) (hz : z ≤ s.size) (hs : s.size ≤ 1000000) :
  Calls Tryz.prog 19 #[.string s,.int .i64 (z : Nat)] w fun e w'=>e = .returned (.bool (edgeB s z)) ∧ Below w.heap.size w w':=by
 have h1 : ((z : Int) < 0) = False:=eq_false (by omega)
 have h2 : ((z : Int) > (s.size : Int)) = False:=eq_false (by omega)
 go_enter Tryz.func19,Tryz.ntmps19
 go_wp2_with fail
 clear h1 h2
 go_loopw [5] (fun v wr=>∃ b k : Nat,v = .int .i64 b ∧ b + k = 4 ∧ 1 ≤ b ∧ Hid (edgeB s z = edgeK s z b k) ∧ Below w.heap.size w wr) (fun v _=>4 - (intOf v).toNat)
 case atStart=>exact ⟨1,3,rfl,rfl,by omega,Lib.hid (edgeB_K s z),Below.refl _ _⟩
 case round =>
  obtain ⟨b,k,rfl,hbk,hb1,HK,hbw⟩:=hrel
  cases k with
  | zero =>
   obtain rfl : b = 4:=by omega
   have HV : Hid (edgeB s z = true):=Lib.hid HK.out
   go_wp2
   go_ret
   exact ⟨by rw [HV.out];rfl,hbw⟩
  | succ k =>
   have hb4 : b < 4:=by omega
   by_cases hbz : b ≤ z
   ·obtain ⟨y,hyb⟩ : ∃ y,y + b = z:=⟨z - b,by omega⟩
    have e1 : (z : Int) - (b : Int) = (y : Int):=by omega
    have Hyb : Hid (z - b = y):=Lib.hid (by omega)
    have hy0 : (0 : Int) ≤ (y : Int):=by omega
    have hys : (y : Int) ≤ (s.size : Int):=by omega
    have HD:=Lib.hid (lDecode_any s y _ (hT.below hbw) (by omega))
    obtain ⟨⟨R,W⟩,hD⟩ : ∃ d,Utf8.decode s y = d:=⟨_,rfl⟩
    have hrA : runeAt s y = (R,W):=by unfold runeAt;rw [if_pos (by omega)];exact hD
    have hbd:=dec_bd s y (by omega)
    rw [hD] at hbd
    simp only at hbd
    rw [hrA] at HD
    have HK2:=HK.out
    unfold edgeK edgeT at HK2
    rw [Hyb.out,hD] at HK2
    simp only at HK2
    have HK3:=Lib.hid HK2
    clear HK HK2 hD hrA hyb
    go_wp2_with fail
    refine HD.out.mono ?_
    rintro e w2 ⟨rfl,hb2⟩
    by_cases hw : b < W
    ·have HV : Hid (edgeB s z = false):=Lib.hid (by rw [HK3.out];simp [hw,hbz])
     obtain ⟨q,hq⟩ : ∃ q,((R : Int) == 65533) = q:=⟨_,rfl⟩
     have hw1 : ((W : Int) == 1) = false:=by simp;omega
     cases q with
     | true =>
      go_wp2
      go_ret
      exact ⟨by rw [HV.out];rfl,below_two hbw hb2⟩
     | false =>
      go_wp2
      go_ret
      exact ⟨by rw [HV.out];rfl,below_two hbw hb2⟩
    ·have HV : Hid (edgeB s z = edgeK s z (b + 1) k):=Lib.hid (by rw [HK3.out];simp [hw,hbz])
     go_wp2
     go_roundw
     case rel=>exact ⟨b + 1,k,by go_num,by omega,by omega,HV,below_two hbw hb2⟩
     case measure=>simp [intOf];omega
   ·have HV : Hid (edgeB s z = true):=Lib.hid (by rw [HK.out];exact edgeK_far _ _ (by omega))
    go_wp2
    go_ret
    exact ⟨by rw [HV.out];rfl,hbw⟩
set_option maxRecDepth 100000 in
set_option maxHeartbeats 2000000 in
theorem zPlaces_same (A B : Option Addr) (n c e : Nat) (l : List Nat) (w : World) (hA : Rd w 1 A (l.map encN)) (hB : Rd w 1 B (l.map encN)) (hl : l.length = n) (hn : n ≤ 4000000) :
  Calls Tryz.prog 66 #[.slice A n c,.slice B n e] w fun e w'=>e = .returned (.bool true) ∧ Below w.heap.size w w':=by
 have Hl:=Lib.hid hl
 clear hl
 go_enter Tryz.func66,Tryz.ntmps66
 go_wp2
 go_loopw [5] (fun v wr=>∃ i k : Nat,v = .int .i64 i ∧ i ≤ n ∧ wr = w.drewN k) (fun v _=>n - (intOf v).toNat)
 case atStart=>exact ⟨0,0,rfl,by omega,rfl⟩
 case round =>
  obtain ⟨i,k,rfl,hi,rfl⟩:=hrel
  by_cases hlt : i < n
  ·obtain ⟨x,Hx⟩ : ∃ x,Hid (l[i]? = some x):=⟨_,Lib.hid (List.getElem?_eq_getElem (by have:=Hl.out;omega))⟩
   obtain ⟨b,off,rfl,h1⟩:=hA.atP' Hx.out
   obtain ⟨b',off',rfl,k1⟩:=hB.atP' Hx.out
   go_wp2_with fail
   go_region
   go_wp2
   go_roundw
   case rel=>exact ⟨i + 1,_,by go_num,by omega,by first | rfl | exact World.drewN_drewN _ _ _⟩
   case measure=>simp [intOf];omega
  ·go_wp2
   go_ret
   exact ⟨rfl,below_refl_drewN w k⟩
end Go.Proofs.YtglmcknlnoknoaaGreatDoor
/- -/
namespace Go.Proofs.YtglmcknlnoknoaaGreatDoor
open Go.RowKit
section
variable {cl : List Nat} {C0 : Option Addr} {n c0 : Nat}
end
end Go.Proofs.YtglmcknlnoknoaaGreatDoor
/- -/
namespace Go.Proofs.YtglmcknlnoknoaaGreatDoor
open Go.RowKit
end Go.Proofs.YtglmcknlnoknoaaGreatDoor
/- -/
namespace Go.Proofs.YtglmcknlnoknoaaGreatDoor
open Go.RowKit
set_option maxHeartbeats 1000000 in
theorem eLast_any (s : ByteArray) (w : World) (hT : Tabs w) (h0 : 0 < s.size) (hs : s.size ≤ 1000000) :
  Calls Tryz.prog 74 #[.string s] w fun e w'=>e = .returned (.tuple #[.int .i32 (Lib.decodeLastL s.data.toList).1,.int .i64 (Lib.decodeLastL s.data.toList).2]) ∧ Below w.heap.size w w':=by
 have HC:=Lib.hid (Tryz.utf8_DecodeLastRuneInString s w (by omega) hT)
 have hem : s.toList.isEmpty = false:=by
  rw [ByteArray.toList_eq]
  cases hq : s.data.toList with
  | nil=>rw [← size_data,hq] at h0;simp at h0
  | cons a b=>rfl
 obtain ⟨r,hr⟩ : ∃ r,Lib.decodeLastL s.data.toList = r:=⟨_,rfl⟩
 rw [hr] at HC ⊢
 clear hr
 go_enter Tryz.func74,Tryz.ntmps74
 go_wp2_with fail
 refine HC.out.mono ?_
 rintro e w1 ⟨rfl,hb⟩
 go_wp2
 go_ret2
 exact ⟨rfl,hb⟩
end Go.Proofs.YtglmcknlnoknoaaGreatDoor
