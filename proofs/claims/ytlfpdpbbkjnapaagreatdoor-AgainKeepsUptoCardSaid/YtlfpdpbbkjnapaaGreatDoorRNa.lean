/- -/
import Derived.RegionTactic
import Derived.BigRegion
import Derived.Test.YtlfpdpbbkjnapaaGreatDoorR6a
import Derived.Test.YtlfpdpbbkjnapaaGreatDoorR7a
import Derived.Test.YtlfpdpbbkjnapaaGreatDoorR0b
namespace Go.Proofs.YtlfpdpbbkjnapaaGreatDoor
set_option maxRecDepth 100000
set_option maxHeartbeats 40000000
section
open Go.RowKit
theorem ndb_any (w : World) (hE : Env w) :
  Calls Tryz.prog 117 #[] w fun e w'=>∃ p,e = .returned (.pointer (some ⟨p,0,none⟩))∧DbAt w' p sentsD∧Below w.heap.size w w':=by
 go_enter Tryz.func117,Tryz.ntmps117
 generalize hT : ByteArray.mk _ = T
 have HN : newP T.data.toList = .ok sentsD:=by rw [← hT];exact new_K (by kernel_rfl) (by kernel_rfl)
 have hTl : T.data.toList.length≤maxLen:=by rw [← hT];exact of_decide_eq_true (by kernel_rfl)
 clear hT
 have HC:=wNew_any T.data.toList w hE hTl
 rw [HN,show bytesOf T.data.toList = T from bytesOf_data T] at HC
 replace HC:=Lib.hid HC
 clear HN hTl
 go_wp2_with fail
 refine HC.out.mono ?_
 rintro e w1 ⟨⟨p,rfl,hd⟩,hb1⟩
 go_wp2
 go_ret
 exact ⟨p,rfl,hd,hb1⟩
theorem sOver_step (L : List Nat) (a b : Int) {j y : Nat} (h : L[j]? = some y) : sOver (toI L) a b (j+1) = if (y : Int) = a∨(y : Int) = b then sOver (toI L) a b j else j+1:=by
 have e : sOver (toI L) a b (j+1) = if (toI L).getD j 0 = a∨(toI L).getD j 0 = b then sOver (toI L) a b j else j+1:=rfl
 rw [e,toI_get,List.getD_eq_getElem?_getD,h];rfl
theorem toI_at {L : List Nat} {j y : Nat} (h : L[j]? = some y) : (toI L).getD j 0 = (y : Int):=by rw [toI_get,List.getD_eq_getElem?_getD,h];rfl
theorem nover_any (A : Option Addr) (n c : Nat) (L : List Nat) (m : Nat) (a b : Int) (w : World) (hA : Rd w 1 A (L.map encN)) (hl : L.length = n) (hm : m≤n) (hn : n≤4000000) :
  Calls Tryz.prog 143 #[.slice A n c,.int .i64 (m : Nat),.int .i64 a,.int .i64 b] w fun e w'=>e = .returned (.int .i64 (sOver (toI L) a b m : Nat))∧w = w':=by
 have Hn:=Lib.hid hl
 have HS:=Lib.hid (fun j y (h : L[j]? = some y)=>sOver_step L a b h)
 clear hl
 go_enter Tryz.func143,Tryz.ntmps143
 go_wp2_with fail
 go_loopw [1] (fun v wr=>∃ k : Nat,v = .int .i64 k∧k≤m∧wr = w∧Hid (sOver (toI L) a b m = sOver (toI L) a b k)) (fun v _=>(intOf v).toNat)
 case atStart=>exact ⟨m,rfl,Nat.le_refl _,rfl,Lib.hid rfl⟩
 case round =>
  obtain ⟨k,rfl,hk,rfl,HN⟩:=hrel
  cases k with
  | zero =>
   have HV : Hid (sOver (toI L) a b m = 0):=Lib.hid (by rw [HN.out];rfl)
   go_wp2
   go_ret
   exact ⟨by rw [HV.out];rfl,rfl⟩
  | succ j =>
   obtain ⟨y,Hy⟩ : ∃ y,Hid (L[j]? = some y):=⟨_,Lib.hid (List.getElem?_eq_getElem (by have:=Hn.out;omega))⟩
   obtain ⟨bk,off,rfl,cy⟩:=hA.atP' Hy.out
   have hs:=HS.out j y Hy.out
   obtain ⟨i,hi⟩ : ∃ i,j+1 = i:=⟨_,rfl⟩
   rw [hi] at hs HN hk
   have e1 : (i : Int) - 1 = (j : Int):=by omega
   have e2 : IntKind.i64.wrap ((i : Int) - 1) = (j : Int):=by rw [e1];exact IntWalk.i64_in _ (by omega)
   have e3 : IntKind.i64.wrap (j : Int) = (j : Int):=IntWalk.i64_in _ (by omega)
   have hi0 : 0 < i:=by omega
   have hi0' : (0 : Int) < (i : Int):=by omega
   have hi0'' : (i : Int) > 0:=by omega
   have hjn : j < n:=by omega
   have hj0 : (0 : Int)≤(j : Int):=by omega
   have hjn' : (j : Int) < (n : Int):=by omega
   have HI:=Lib.hid hi
   rw [hi]
   clear hi
   cases q1 : ((y : Int) == a) with
   | true =>
    rw [if_pos (.inl (by simpa using q1))] at hs
    have HN2 : Hid (sOver (toI L) a b m = sOver (toI L) a b j):=Lib.hid (HN.out.trans hs)
    clear hs
    go_wp2
    go_roundw
    case rel=>exact ⟨j,by first | rfl | (rw [e1]) | (have:=HI.out;go_num),by omega,by first | rfl | trivial,HN2⟩
    case measure=>simp [intOf] <;> omega
   | false =>
    cases q2 : ((y : Int) == b) with
    | true =>
     rw [if_pos (.inr (by simpa using q2))] at hs
     have HN2 : Hid (sOver (toI L) a b m = sOver (toI L) a b j):=Lib.hid (HN.out.trans hs)
     clear hs
     go_wp2
     go_roundw
     case rel=>exact ⟨j,by first | rfl | (rw [e1]) | (have:=HI.out;go_num),by omega,by first | rfl | trivial,HN2⟩
     case measure=>simp [intOf] <;> omega
    | false =>
     rw [if_neg (by rintro (h | h);exact absurd h (by simpa using q1);exact absurd h (by simpa using q2))] at hs
     have HV : Hid (sOver (toI L) a b m = i):=Lib.hid (HN.out.trans hs)
     clear hs
     go_wp2
     go_ret
     exact ⟨by rw [HV.out];rfl,rfl⟩
theorem sEnded_eq (c : List Int) (m k : Nat) (bl : Bool) (hk : sOver c 11 13 (if bl then sOver c 4 13 m else m) = k) : sEnded c m bl = if k ≠ 0∧sStop (c.getD (k - 1) 0) = true then c.getD (k - 1) 0 else 0:=by
 subst hk;rfl
theorem nended_any (A : Option Addr) (n c : Nat) (L : List Nat) (m : Nat) (bl : Bool) (w : World) (hA : Rd w 1 A (L.map encN)) (hl : L.length = n) (hm : m≤n) (hn : n≤4000000) :
  Calls Tryz.prog 144 #[.slice A n c,.int .i64 (m : Nat),.bool bl] w fun e w'=>e = .returned (.int .i64 (sEnded (toI L) m bl))∧w = w':=by
 have HO:=Lib.hid (fun m a b (hm : m≤n)=>nover_any A n c L m a b w hA hl hm hn)
 have Hn:=Lib.hid hl
 obtain ⟨k1,hk1⟩ : ∃ k,(if bl then sOver (toI L) 4 13 m else m) = k:=⟨_,rfl⟩
 have hk1m : k1≤m:=by rw [← hk1];split;exact sOver_le _ _ _ _;exact Nat.le_refl _
 obtain ⟨k2,hk2⟩ : ∃ k,sOver (toI L) 11 13 k1 = k:=⟨_,rfl⟩
 have hk2m : k2≤k1:=by rw [← hk2];exact sOver_le _ _ _ _
 have HE:=Lib.hid (sEnded_eq (toI L) m k2 bl (by rw [hk1];exact hk2))
 have H2:=Lib.hid (HO.out k1 11 13 (by omega))
 rw [hk2] at H2
 clear hk2 hl
 cases bl with
 | true =>
  have H1:=Lib.hid (HO.out m 4 13 hm)
  rw [show sOver (toI L) 4 13 m = k1 from hk1] at H1
  clear hk1 HO
  go_enter Tryz.func144,Tryz.ntmps144
  go_wp2_with fail
  refine H1.out.mono ?_
  rintro e w1 ⟨rfl,rfl⟩
  go_wp2_with fail
  refine H2.out.mono ?_
  rintro e w1 ⟨rfl,rfl⟩
  cases k2 with
  | zero =>
   have HV : Hid (sEnded (toI L) m true = 0):=Lib.hid (by rw [HE.out,if_neg (by simp)])
   clear HE
   go_wp2
   go_ret
   exact ⟨by rw [HV.out];rfl,rfl⟩
  | succ j =>
   obtain ⟨y,Hy⟩ : ∃ y,Hid (L[j]? = some y):=⟨_,Lib.hid (List.getElem?_eq_getElem (by have:=Hn.out;omega))⟩
   obtain ⟨bk,off,rfl,cy⟩:=hA.atP' Hy.out
   have he:=HE.out
   rw [Nat.add_sub_cancel,toI_at Hy.out] at he
   obtain ⟨i,hi⟩ : ∃ i,j+1 = i:=⟨_,rfl⟩
   have e1 : (i : Int) - 1 = (j : Int):=by omega
   have e2 : IntKind.i64.wrap ((i : Int) - 1) = (j : Int):=by rw [e1];exact IntWalk.i64_in _ (by omega)
   have hi0 : 0 < i:=by omega
   have hi0' : (0 : Int) < (i : Int):=by omega
   have hi0'' : (i : Int) > 0:=by omega
   have hjn : j < n:=by omega
   have hj0 : (0 : Int)≤(j : Int):=by omega
   have hjn' : (j : Int) < (n : Int):=by omega
   rw [hi]
   clear hi H2 HE
   cases q1 : ((y : Int) == 9) with
   | true =>
    have HV : Hid (sEnded (toI L) m true = y):=Lib.hid (by rw [he,if_pos ⟨by omega,by unfold sStop;rw [q1];rfl⟩])
    clear he
    go_wp2
    go_ret
    exact ⟨by rw [HV.out];rfl,rfl⟩
   | false =>
    cases q2 : ((y : Int) == 10) with
    | true =>
     have HV : Hid (sEnded (toI L) m true = y):=Lib.hid (by rw [he,if_pos ⟨by omega,by unfold sStop;rw [q1,q2];rfl⟩])
     clear he
     go_wp2
     go_ret
     exact ⟨by rw [HV.out];rfl,rfl⟩
    | false =>
     have HV : Hid (sEnded (toI L) m true = 0):=Lib.hid (by rw [he,if_neg (by rintro ⟨_,h⟩;unfold sStop at h;rw [q1,q2] at h;cases h)])
     clear he
     go_wp2
     go_ret
     exact ⟨by rw [HV.out];rfl,rfl⟩
 | false =>
  obtain rfl : m = k1:=hk1
  clear HO
  go_enter Tryz.func144,Tryz.ntmps144
  go_wp2_with fail
  refine H2.out.mono ?_
  rintro e w1 ⟨rfl,rfl⟩
  cases k2 with
  | zero =>
   have HV : Hid (sEnded (toI L) m false = 0):=Lib.hid (by rw [HE.out,if_neg (by simp)])
   clear HE
   go_wp2
   go_ret
   exact ⟨by rw [HV.out];rfl,rfl⟩
  | succ j =>
   obtain ⟨y,Hy⟩ : ∃ y,Hid (L[j]? = some y):=⟨_,Lib.hid (List.getElem?_eq_getElem (by have:=Hn.out;omega))⟩
   obtain ⟨bk,off,rfl,cy⟩:=hA.atP' Hy.out
   have he:=HE.out
   rw [Nat.add_sub_cancel,toI_at Hy.out] at he
   obtain ⟨i,hi⟩ : ∃ i,j+1 = i:=⟨_,rfl⟩
   have e1 : (i : Int) - 1 = (j : Int):=by omega
   have e2 : IntKind.i64.wrap ((i : Int) - 1) = (j : Int):=by rw [e1];exact IntWalk.i64_in _ (by omega)
   have hi0 : 0 < i:=by omega
   have hi0' : (0 : Int) < (i : Int):=by omega
   have hi0'' : (i : Int) > 0:=by omega
   have hjn : j < n:=by omega
   have hj0 : (0 : Int)≤(j : Int):=by omega
   have hjn' : (j : Int) < (n : Int):=by omega
   rw [hi]
   clear hi H2 HE
   cases q1 : ((y : Int) == 9) with
   | true =>
    have HV : Hid (sEnded (toI L) m false = y):=Lib.hid (by rw [he,if_pos ⟨by omega,by unfold sStop;rw [q1];rfl⟩])
    clear he
    go_wp2
    go_ret
    exact ⟨by rw [HV.out];rfl,rfl⟩
   | false =>
    cases q2 : ((y : Int) == 10) with
    | true =>
     have HV : Hid (sEnded (toI L) m false = y):=Lib.hid (by rw [he,if_pos ⟨by omega,by unfold sStop;rw [q1,q2];rfl⟩])
     clear he
     go_wp2
     go_ret
     exact ⟨by rw [HV.out];rfl,rfl⟩
    | false =>
     have HV : Hid (sEnded (toI L) m false = 0):=Lib.hid (by rw [he,if_neg (by rintro ⟨_,h⟩;unfold sStop at h;rw [q1,q2] at h;cases h)])
     clear he
     go_wp2
     go_ret
     exact ⟨by rw [HV.out];rfl,rfl⟩
theorem goR_at {L : List Nat} {i y : Nat} (h : L[i]? = some y) : goR (L.drop i) = if y = 5 then true else if [7,6,3,1,2,9,10].contains y then false else goR (L.drop (i+1)):=by
 obtain ⟨hi,e⟩:=List.getElem?_eq_some_iff.1 h
 rw [List.drop_eq_getElem_cons hi,e,goR]
theorem ngoesOn_any (A : Option Addr) (n c : Nat) (L : List Nat) (m : Nat) (w : World) (hA : Rd w 1 A (L.map encN)) (hl : L.length = n) (hm : m≤n) (hn : n≤4000000) :
  Calls Tryz.prog 146 #[.slice A n c,.int .i64 (m : Nat)] w fun e w'=>e = .returned (.bool (goR (L.drop m)))∧w = w':=by
 have Hn:=Lib.hid hl
 have HG:=Lib.hid (fun i y (h : L[i]? = some y)=>goR_at h)
 clear hl
 go_enter Tryz.func146,Tryz.ntmps146
 go_wp2_with fail
 go_loopw [1] (fun v wr=>∃ i : Nat,v = .int .i64 i∧i≤n∧wr = w∧Hid (goR (L.drop m) = goR (L.drop i))) (fun v _=>n - (intOf v).toNat)
 case atStart=>exact ⟨m,rfl,hm,rfl,Lib.hid rfl⟩
 case round =>
  obtain ⟨i,rfl,hi,rfl,HN⟩:=hrel
  by_cases hlt : i < n
  ·obtain ⟨y,Hy⟩ : ∃ y,Hid (L[i]? = some y):=⟨_,Lib.hid (List.getElem?_eq_getElem (by have:=Hn.out;omega))⟩
   obtain ⟨bk,off,rfl,cy⟩:=hA.atP' Hy.out
   have hg:=HG.out i y Hy.out
   have hN:=HN.out
   rw [hg] at hN
   clear hg HN
   by_cases h8 : y = 5∨y = 7∨y = 6∨y = 3∨y = 1∨y = 2∨y = 9∨y = 10
   ·rcases h8 with h | h | h | h | h | h | h | h
    ·have hV : Hid (goR (L.drop m) = true):=Lib.hid (by rw [hN,h];rfl)
     have cz : wr.cell? ⟨bk,off+i,none⟩ = some (.int .i64 5):=by rw [cy,h];rfl
     clear hN cy h
     go_wp2
     go_ret
     exact ⟨by rw [hV.out];rfl,rfl⟩
    ·have hV : Hid (goR (L.drop m) = false):=Lib.hid (by rw [hN,h];rfl)
     have cz : wr.cell? ⟨bk,off+i,none⟩ = some (.int .i64 7):=by rw [cy,h];rfl
     clear hN cy h
     go_wp2
     go_ret
     exact ⟨by rw [hV.out];rfl,rfl⟩
    ·have hV : Hid (goR (L.drop m) = false):=Lib.hid (by rw [hN,h];rfl)
     have cz : wr.cell? ⟨bk,off+i,none⟩ = some (.int .i64 6):=by rw [cy,h];rfl
     clear hN cy h
     go_wp2
     go_ret
     exact ⟨by rw [hV.out];rfl,rfl⟩
    ·have hV : Hid (goR (L.drop m) = false):=Lib.hid (by rw [hN,h];rfl)
     have cz : wr.cell? ⟨bk,off+i,none⟩ = some (.int .i64 3):=by rw [cy,h];rfl
     clear hN cy h
     go_wp2
     go_ret
     exact ⟨by rw [hV.out];rfl,rfl⟩
    ·have hV : Hid (goR (L.drop m) = false):=Lib.hid (by rw [hN,h];rfl)
     have cz : wr.cell? ⟨bk,off+i,none⟩ = some (.int .i64 1):=by rw [cy,h];rfl
     clear hN cy h
     go_wp2
     go_ret
     exact ⟨by rw [hV.out];rfl,rfl⟩
    ·have hV : Hid (goR (L.drop m) = false):=Lib.hid (by rw [hN,h];rfl)
     have cz : wr.cell? ⟨bk,off+i,none⟩ = some (.int .i64 2):=by rw [cy,h];rfl
     clear hN cy h
     go_wp2
     go_ret
     exact ⟨by rw [hV.out];rfl,rfl⟩
    ·have hV : Hid (goR (L.drop m) = false):=Lib.hid (by rw [hN,h];rfl)
     have cz : wr.cell? ⟨bk,off+i,none⟩ = some (.int .i64 9):=by rw [cy,h];rfl
     clear hN cy h
     go_wp2
     go_ret
     exact ⟨by rw [hV.out];rfl,rfl⟩
    ·have hV : Hid (goR (L.drop m) = false):=Lib.hid (by rw [hN,h];rfl)
     have cz : wr.cell? ⟨bk,off+i,none⟩ = some (.int .i64 10):=by rw [cy,h];rfl
     clear hN cy h
     go_wp2
     go_ret
     exact ⟨by rw [hV.out];rfl,rfl⟩
   ·have hV : Hid (goR (L.drop m) = goR (L.drop (i+1))):=Lib.hid (by rw [hN,if_neg (by omega),if_neg (by simp;omega)])
    have t5 : ((y : Int) == 5) = false:=beq_eq_false_iff_ne.2 (by omega)
    have t7 : ((y : Int) == 7) = false:=beq_eq_false_iff_ne.2 (by omega)
    have t6 : ((y : Int) == 6) = false:=beq_eq_false_iff_ne.2 (by omega)
    have t3 : ((y : Int) == 3) = false:=beq_eq_false_iff_ne.2 (by omega)
    have t1 : ((y : Int) == 1) = false:=beq_eq_false_iff_ne.2 (by omega)
    have t2 : ((y : Int) == 2) = false:=beq_eq_false_iff_ne.2 (by omega)
    have t9 : ((y : Int) == 9) = false:=beq_eq_false_iff_ne.2 (by omega)
    have t10 : ((y : Int) == 10) = false:=beq_eq_false_iff_ne.2 (by omega)
    clear hN h8
    go_wp2
    go_roundw
    case rel=>exact ⟨i+1,by go_num,by omega,by first | rfl | trivial,hV⟩
    case measure=>simp [intOf];omega
  ·have hV : Hid (goR (L.drop m) = false):=Lib.hid (by rw [HN.out,List.drop_eq_nil_of_le (by have:=Hn.out;omega)];rfl)
   go_wp2
   go_ret
   exact ⟨by rw [hV.out];rfl,rfl⟩
theorem sInitial_eq (c : List Int) (m k : Nat) (hk : sOver c 13 13 m = k) : sInitial c m = if k = 0∨c.getD (k - 1) 0 ≠ 9 then false else (decide (sOver c 13 13 (k - 1) ≠ 0) && (c.getD (sOver c 13 13 (k - 1) - 1) 0 == 6 || c.getD (sOver c 13 13 (k - 1) - 1) 0 == 5)):=by
 subst hk;rfl
theorem ninitial_any (A : Option Addr) (n c : Nat) (L : List Nat) (m : Nat) (w : World) (hA : Rd w 1 A (L.map encN)) (hl : L.length = n) (hm : m≤n) (hn : n≤4000000) :
  Calls Tryz.prog 145 #[.slice A n c,.int .i64 (m : Nat)] w fun e w'=>e = .returned (.bool (sInitial (toI L) m))∧w = w':=by
 have HO:=Lib.hid (fun m a b (hm : m≤n)=>nover_any A n c L m a b w hA hl hm hn)
 have Hn:=Lib.hid hl
 obtain ⟨k,hk⟩ : ∃ k,sOver (toI L) 13 13 m = k:=⟨_,rfl⟩
 have hkm : k≤m:=by rw [← hk];exact sOver_le _ _ _ _
 have HE:=Lib.hid (sInitial_eq (toI L) m k hk)
 have H1:=Lib.hid (HO.out m 13 13 hm)
 rw [hk] at H1
 clear hk hl
 go_enter Tryz.func145,Tryz.ntmps145
 go_wp2_with fail
 refine H1.out.mono ?_
 rintro e w1 ⟨rfl,rfl⟩
 cases k with
 | zero =>
  have HV : Hid (sInitial (toI L) m = false):=Lib.hid (by rw [HE.out,if_pos (.inl rfl)])
  clear HE
  go_wp2
  go_ret
  exact ⟨by rw [HV.out];rfl,rfl⟩
 | succ j =>
  obtain ⟨y,Hy⟩ : ∃ y,Hid (L[j]? = some y):=⟨_,Lib.hid (List.getElem?_eq_getElem (by have:=Hn.out;omega))⟩
  obtain ⟨bk,off,rfl,cy⟩:=hA.atP' Hy.out
  have he:=HE.out
  rw [Nat.add_sub_cancel,toI_at Hy.out] at he
  obtain ⟨i,hi⟩ : ∃ i,j+1 = i:=⟨_,rfl⟩
  have e1 : (i : Int) - 1 = (j : Int):=by omega
  have e2 : IntKind.i64.wrap ((i : Int) - 1) = (j : Int):=by rw [e1];exact IntWalk.i64_in _ (by omega)
  have e3 : IntKind.i64.wrap (j : Int) = (j : Int):=IntWalk.i64_in _ (by omega)
  have i0 : ((i : Int) == 0) = false:=by rw [beq_eq_false_iff_ne];omega
  have hjn : j < n:=by omega
  have hj0 : (0 : Int)≤(j : Int):=by omega
  have hjn' : (j : Int) < (n : Int):=by omega
  rw [hi]
  clear hi H1 HE
  cases q1 : ((y : Int) != 9) with
  | true =>
   have HV : Hid (sInitial (toI L) m = false):=Lib.hid (by rw [he,if_pos (.inr (by simpa using q1))])
   clear he
   go_wp2
   go_ret
   exact ⟨by rw [HV.out];rfl,rfl⟩
  | false =>
   rw [if_neg (by rintro (h | h);omega;exact absurd h (by simpa using q1))] at he
   obtain ⟨z,hz⟩ : ∃ z,sOver (toI L) 13 13 j = z:=⟨_,rfl⟩
   have hzj : z≤j:=by rw [← hz];exact sOver_le _ _ _ _
   have H2:=Lib.hid (HO.out j 13 13 (by omega))
   rw [hz] at H2 he
   clear hz
   go_wp2_with fail
   refine H2.out.mono ?_
   rintro e w1 ⟨rfl,rfl⟩
   clear H2 cy
   cases z with
   | zero =>
    have HV : Hid (sInitial (toI L) m = false):=Lib.hid (by rw [he];rfl)
    clear he
    go_wp2
    go_ret
    exact ⟨by rw [HV.out];rfl,rfl⟩
   | succ z =>
    obtain ⟨u,Hu⟩ : ∃ y,Hid (L[z]? = some y):=⟨_,Lib.hid (List.getElem?_eq_getElem (by have:=Hn.out;omega))⟩
    obtain ⟨bk2,off2,eB,cu⟩:=hA.atP' Hu.out
    injection eB with eB
    injection eB with e3' e4' _
    subst e3' e4'
    rw [Nat.add_sub_cancel,toI_at Hu.out] at he
    obtain ⟨g,hg⟩ : ∃ i,z+1 = i:=⟨_,rfl⟩
    have d1 : (g : Int) - 1 = (z : Int):=by omega
    have d2 : IntKind.i64.wrap ((g : Int) - 1) = (z : Int):=by rw [d1];exact IntWalk.i64_in _ (by omega)
    have d3 : (0 : Int) < (g : Int):=by omega
    have d4 : (g : Int) > 0:=by omega
    have d5 : 0 < g:=by omega
    have hzn : z < n:=by omega
    have hz0 : (0 : Int)≤(z : Int):=by omega
    have hzn' : (z : Int) < (n : Int):=by omega
    rw [hg]
    clear hg
    cases p1 : ((u : Int) == 6) with
    | true =>
     have HV : Hid (sInitial (toI L) m = true):=Lib.hid (by rw [he,p1];simp)
     clear he
     go_wp2
     go_ret
     exact ⟨by rw [HV.out];rfl,rfl⟩
    | false =>
     cases p2 : ((u : Int) == 5) with
     | true =>
      have HV : Hid (sInitial (toI L) m = true):=Lib.hid (by rw [he,p1,p2];simp)
      clear he
      go_wp2
      go_ret
      exact ⟨by rw [HV.out];rfl,rfl⟩
     | false =>
      have HV : Hid (sInitial (toI L) m = false):=Lib.hid (by rw [he,p1,p2];simp)
      clear he
      go_wp2
      go_ret
      exact ⟨by rw [HV.out];rfl,rfl⟩
def cutJ (y : Nat) (st ini go : Bool) (e8 last : Int) : Bool :=
 if y = 13∨last = 0 then false
 else if st && y == 8 || y == 6 && ini then false
 else if last == 9 && go then false
 else if y = 12∨y = 9∨y = 10 then false
 else if y == 11 && e8 != 0 then false
 else if y = 4∨y = 3∨y = 1∨y = 2 then false
 else true
theorem cuts_J {L : List Nat} {m x y : Nat} (hx : L[m - 1]? = some x) (hy : L[m]? = some y) (_h12 : ¬ (x = 1∧y = 2)) (hs : ¬ (x = 1∨x = 2∨x = 3)) {k : Nat} (hk : sOver (toI L) 13 13 m = k) :
  sCuts (toI L) m = cutJ y (decide (k ≠ 0) && (toI L).getD (k - 1) 0 == 9) (sInitial (toI L) m) (goR (L.drop m)) (sEnded (toI L) m false) (sEnded (toI L) m true):=by
 subst hk
 unfold sCuts cutJ
 dsimp only
 rw [toI_at hx,toI_at hy,toI_drop,go_eq,if_neg (by omega)]
 have hl : sLine (x : Int) = false:=by
  unfold sLine
  rw [Bool.or_eq_false_iff,Bool.or_eq_false_iff,beq_eq_false_iff_ne,beq_eq_false_iff_ne,beq_eq_false_iff_ne]
  omega
 rw [hl]
 have f : ∀ k : Nat,(((y : Int) == (k : Int)) = (y == k)):=fun k=>by rw [Bool.eq_iff_iff,beq_iff_eq,beq_iff_eq];omega
 have f8:=f 8
 have f6:=f 6
 have f11:=f 11
 have g : ∀ k : Nat,(((y : Int) = (k : Int)) = (y = k)):=fun k=>propext (by omega)
 have g13:=g 13
 have g12:=g 12
 have g9:=g 9
 have g10:=g 10
 have g4:=g 4
 have g3:=g 3
 have g1:=g 1
 have g2:=g 2
 simp only [Int.cast_ofNat_Int] at f8 f6 f11 g13 g12 g9 g10 g4 g3 g1 g2
 rw [f8,f6,f11]
 simp only [g13,g12,g9,g10,g4,g3,g1,g2,Bool.false_eq_true,if_false]
theorem ncuts_any (A : Option Addr) (n c : Nat) (L : List Nat) (m : Nat) (w : World) (hA : Rd w 1 A (L.map encN)) (hl : L.length = n) (h0 : 0 < m) (hm : m < n) (hn : n≤4000000) (h14 : ∀ x ∈ L,x < 14) :
  Calls Tryz.prog 118 #[.slice A n c,.int .i64 (m : Nat)] w fun e w'=>e = .returned (.bool (sCuts (toI L) m))∧Below w.heap.size w w':=by
 have HO:=Lib.hid (fun W (hA : Rd W 1 A (L.map encN))=>nover_any A n c L m 13 13 W hA hl (by omega) hn)
 have HEn:=Lib.hid (fun bl W (hA : Rd W 1 A (L.map encN))=>nended_any A n c L m bl W hA hl (by omega) hn)
 have HIn:=Lib.hid (fun W (hA : Rd W 1 A (L.map encN))=>ninitial_any A n c L m W hA hl (by omega) hn)
 have HGo:=Lib.hid (fun W (hA : Rd W 1 A (L.map encN))=>ngoesOn_any A n c L m W hA hl (by omega) hn)
 obtain ⟨j,hj⟩ : ∃ j,m - 1 = j:=⟨_,rfl⟩
 obtain ⟨x,hx⟩ : ∃ x,L[j]? = some x:=⟨_,List.getElem?_eq_getElem (by omega)⟩
 obtain ⟨y,hy⟩ : ∃ y,L[m]? = some y:=⟨_,List.getElem?_eq_getElem (by omega)⟩
 have hx14:=h14 x (List.mem_of_getElem? hx)
 have hy14:=h14 y (List.mem_of_getElem? hy)
 obtain ⟨k,hk⟩ : ∃ k,sOver (toI L) 13 13 m = k:=⟨_,rfl⟩
 have hkm : k≤m:=by rw [← hk];exact sOver_le _ _ _ _
 rw [hk] at HO
 have HJ : Hid (¬ (x = 1∧y = 2)→¬ (x = 1∨x = 2∨x = 3)→sCuts (toI L) m = cutJ y (decide (k ≠ 0) && (toI L).getD (k - 1) 0 == 9) (sInitial (toI L) m) (goR (L.drop m)) (sEnded (toI L) m false) (sEnded (toI L) m true)):=Lib.hid (fun h1 h2=>cuts_J (by rw [hj];exact hx) hy h1 h2 hk)
 have HF : Hid (x = 1∧y = 2→sCuts (toI L) m = false):=Lib.hid (fun h=>by
  unfold sCuts
  dsimp only
  rw [hj,toI_at hx,toI_at hy,if_pos (by omega)])
 have HT : Hid (¬ (x = 1∧y = 2)→(x = 1∨x = 2∨x = 3)→sCuts (toI L) m = true):=Lib.hid (fun h1 h2=>by
  unfold sCuts
  dsimp only
  rw [hj,toI_at hx,toI_at hy,if_neg (by omega),if_pos]
  unfold sLine
  rw [Bool.or_eq_true,Bool.or_eq_true,beq_iff_eq,beq_iff_eq,beq_iff_eq]
  omega)
 obtain ⟨st,Hst⟩ : ∃ q,Hid ((decide (k ≠ 0) && (toI L).getD (k - 1) 0 == 9) = q):=⟨_,Lib.hid rfl⟩
 rw [Hst.out] at HJ
 have HK : Hid (∀ i,k = i+1→∃ u,L[i]? = some u∧((u : Int) == 9) = st):=Lib.hid (fun i hi=>by
  obtain ⟨u,hu⟩ : ∃ u,L[i]? = some u:=⟨_,List.getElem?_eq_getElem (by omega)⟩
  refine ⟨u,hu,?_⟩
  have h1:=Hst.out
  rw [hi,Nat.add_sub_cancel,toI_at hu] at h1
  simpa using h1)
 have HK0 : Hid (k = 0→st = false):=Lib.hid (fun h=>by have h1:=Hst.out;rw [h] at h1;simpa using h1.symm)
 generalize sCuts (toI L) m = R at HJ HF HT ⊢
 generalize sInitial (toI L) m = ini at HJ HIn
 generalize goR (L.drop m) = go at HJ HGo
 have HE0:=Lib.hid (fun W hA=>HEn.out false W hA)
 have HE1:=Lib.hid (fun W hA=>HEn.out true W hA)
 generalize sEnded (toI L) m false = e8 at HJ HE0
 generalize sEnded (toI L) m true = z at HJ HE1
 have HX:=Lib.hid hx
 have HY:=Lib.hid hy
 have Hln:=Lib.hid hl
 have e1 : (m : Int) - 1 = (j : Int):=by omega
 have e2 : IntKind.i64.wrap ((m : Int) - 1) = (j : Int):=by rw [e1];exact IntWalk.i64_in _ (by omega)
 have hjn : j < n:=by omega
 have hj0 : (0 : Int)≤(j : Int):=by omega
 have hjn' : (j : Int) < (n : Int):=by omega
 obtain ⟨bk,off,rfl,cx⟩:=hA.atP' HX.out
 obtain ⟨bk2,off2,eB,cy⟩:=hA.atP' HY.out
 injection eB with eB
 injection eB with e3' e4' _
 subst e3' e4'
 clear hj hx hy hk hl h14 HEn Hst
 go_enter Tryz.func118,Tryz.ntmps118
 go_wp2_with fail
 go_region
 have hA1:=hA.drew
 have hbz : Below w.heap.size w w.drew:=(Below.refl _ _).drew
 clear cx cy
 by_cases h12 : x = 1∧y = 2
 ·have HV:=Lib.hid (HF.out h12)
  obtain ⟨rfl,rfl⟩:=h12
  clear HF HT HJ
  go_wp2
  go_ret
  exact ⟨by rw [HV.out];rfl,hbz⟩
 by_cases h3 : x = 1∨x = 2∨x = 3
 ·have HV:=Lib.hid (HT.out h12 h3)
  clear HF HT HJ
  rcases h3 with rfl | rfl | rfl
  ·have q2 : ((y : Int) == 2) = false:=by rw [beq_eq_false_iff_ne];omega
   go_wp2
   go_ret
   exact ⟨by rw [HV.out];rfl,hbz⟩
  ·go_wp2
   go_ret
   exact ⟨by rw [HV.out];rfl,hbz⟩
  ·go_wp2
   go_ret
   exact ⟨by rw [HV.out];rfl,hbz⟩
 have HV:=Lib.hid (HJ.out h12 h3)
 have x1 : ((x : Int) == 1) = false:=by rw [beq_eq_false_iff_ne];omega
 have x2 : ((x : Int) == 2) = false:=by rw [beq_eq_false_iff_ne];omega
 have x3 : ((x : Int) == 3) = false:=by rw [beq_eq_false_iff_ne];omega
 clear HF HT HJ h12 h3
 generalize w.drew = w1 at hA1 hbz ⊢
 go_wp2_with fail
 refine (HO.out w1 hA1).mono ?_
 rintro e w2 ⟨rfl,rfl⟩
 go_upto_region 7 with fail
 go_cut [8] from 38 to 47 (fun v wx=>v = .bool st∧wx = w1)
 case first =>
  rcases Nat.eq_zero_or_pos k with hk0 | hk0
  ·have hs0:=HK0.out hk0
   subst hs0
   have t0 : ¬ ((k : Int) > 0):=by omega
   clear hk0
   go_wp2_with fail
   go_meet
   exact ⟨rfl,rfl⟩
  ·obtain ⟨i,hi⟩ : ∃ i,k = i+1:=⟨k - 1,by omega⟩
   obtain ⟨u,hu,hust⟩:=HK.out i hi
   obtain ⟨bk3,off3,eB,cu⟩:=hA1.atP' hu
   injection eB with eB
   injection eB with e3' e4' _
   subst e3' e4'
   have d1 : (k : Int) - 1 = (i : Int):=by omega
   have d2 : IntKind.i64.wrap ((k : Int) - 1) = (i : Int):=by rw [d1];exact IntWalk.i64_in _ (by omega)
   have d3 : (0 : Int) < (k : Int):=by omega
   have d4 : (k : Int) > 0:=by omega
   have d5 : 0 < k:=by omega
   have hzn : i < n:=by omega
   have hz0 : (0 : Int)≤(i : Int):=by omega
   have hzn' : (i : Int) < (n : Int):=by omega
   clear hi hu hk0
   go_wp2_with fail
   go_meet
   exact ⟨by first | rfl | rw [hust],rfl⟩
 case rest =>
  obtain ⟨rfl,rfl⟩:=hcut
  clear HK HK0
  go_wp2_with fail
  refine (HE1.out wc hA1).mono ?_
  rintro e w2 ⟨rfl,rfl⟩
  have H8:=Lib.hid (HE0.out wc hA1)
  have H6:=Lib.hid (HIn.out wc hA1)
  have H9:=Lib.hid (HGo.out wc hA1)
  clear HE0 HE1 HIn HGo HO
  by_cases hz0 : z = 0
  ·have HV2 : Hid (R = false):=Lib.hid (by rw [HV.out,hz0];simp [cutJ])
   have z0 : (z == 0) = true:=by rw [hz0];rfl
   clear HV hz0
   cases q13 : ((y : Int) == 13)
   all_goals
    cases st
    all_goals
     go_wp2
     go_ret
     exact ⟨by rw [HV2.out];rfl,hbz⟩
  have z0 : (z == 0) = false:=beq_eq_false_iff_ne.2 hz0
  have hy14c : y = 0∨y = 1∨y = 2∨y = 3∨y = 4∨y = 5∨y = 6∨y = 7∨y = 8∨y = 9∨y = 10∨y = 11∨y = 12∨y = 13:=by omega
  cases st with
  | true =>
   rcases hy14c with rfl | rfl | rfl | rfl | rfl | rfl | rfl | rfl | rfl | rfl | rfl | rfl | rfl | rfl
   ·skip
    by_cases hz9 : z = 9
    ·have z9 : (z == 9) = true:=by rw [hz9];rfl
     cases go with
     | true =>
      have HV2 : Hid (R = false):=Lib.hid (by rw [HV.out];simp [cutJ,hz9])
      clear HV
      go_wp2_with fail
      refine H9.out.mono ?_
      rintro e w2 ⟨rfl,rfl⟩
      go_wp2
      go_ret
      exact ⟨by rw [HV2.out];rfl,hbz⟩
     | false =>
      have HV2 : Hid (R = true):=Lib.hid (by rw [HV.out];simp [cutJ,hz9])
      clear HV
      go_wp2_with fail
      refine H9.out.mono ?_
      rintro e w2 ⟨rfl,rfl⟩
      go_wp2
      go_ret
      exact ⟨by rw [HV2.out];rfl,hbz⟩
    ·have z9 : (z == 9) = false:=beq_eq_false_iff_ne.2 hz9
     have HV2 : Hid (R = true):=Lib.hid (by rw [HV.out];simp [cutJ,hz0,hz9])
     clear HV
     go_wp2
     go_ret
     exact ⟨by rw [HV2.out];rfl,hbz⟩
   ·skip
    by_cases hz9 : z = 9
    ·have z9 : (z == 9) = true:=by rw [hz9];rfl
     cases go with
     | true =>
      have HV2 : Hid (R = false):=Lib.hid (by rw [HV.out];simp [cutJ,hz9])
      clear HV
      go_wp2_with fail
      refine H9.out.mono ?_
      rintro e w2 ⟨rfl,rfl⟩
      go_wp2
      go_ret
      exact ⟨by rw [HV2.out];rfl,hbz⟩
     | false =>
      have HV2 : Hid (R = false):=Lib.hid (by rw [HV.out];simp [cutJ,hz9])
      clear HV
      go_wp2_with fail
      refine H9.out.mono ?_
      rintro e w2 ⟨rfl,rfl⟩
      go_wp2
      go_ret
      exact ⟨by rw [HV2.out];rfl,hbz⟩
    ·have z9 : (z == 9) = false:=beq_eq_false_iff_ne.2 hz9
     have HV2 : Hid (R = false):=Lib.hid (by rw [HV.out];simp [cutJ,hz0,hz9])
     clear HV
     go_wp2
     go_ret
     exact ⟨by rw [HV2.out];rfl,hbz⟩
   ·skip
    by_cases hz9 : z = 9
    ·have z9 : (z == 9) = true:=by rw [hz9];rfl
     cases go with
     | true =>
      have HV2 : Hid (R = false):=Lib.hid (by rw [HV.out];simp [cutJ,hz9])
      clear HV
      go_wp2_with fail
      refine H9.out.mono ?_
      rintro e w2 ⟨rfl,rfl⟩
      go_wp2
      go_ret
      exact ⟨by rw [HV2.out];rfl,hbz⟩
     | false =>
      have HV2 : Hid (R = false):=Lib.hid (by rw [HV.out];simp [cutJ,hz9])
      clear HV
      go_wp2_with fail
      refine H9.out.mono ?_
      rintro e w2 ⟨rfl,rfl⟩
      go_wp2
      go_ret
      exact ⟨by rw [HV2.out];rfl,hbz⟩
    ·have z9 : (z == 9) = false:=beq_eq_false_iff_ne.2 hz9
     have HV2 : Hid (R = false):=Lib.hid (by rw [HV.out];simp [cutJ,hz0,hz9])
     clear HV
     go_wp2
     go_ret
     exact ⟨by rw [HV2.out];rfl,hbz⟩
   ·skip
    by_cases hz9 : z = 9
    ·have z9 : (z == 9) = true:=by rw [hz9];rfl
     cases go with
     | true =>
      have HV2 : Hid (R = false):=Lib.hid (by rw [HV.out];simp [cutJ,hz9])
      clear HV
      go_wp2_with fail
      refine H9.out.mono ?_
      rintro e w2 ⟨rfl,rfl⟩
      go_wp2
      go_ret
      exact ⟨by rw [HV2.out];rfl,hbz⟩
     | false =>
      have HV2 : Hid (R = false):=Lib.hid (by rw [HV.out];simp [cutJ,hz9])
      clear HV
      go_wp2_with fail
      refine H9.out.mono ?_
      rintro e w2 ⟨rfl,rfl⟩
      go_wp2
      go_ret
      exact ⟨by rw [HV2.out];rfl,hbz⟩
    ·have z9 : (z == 9) = false:=beq_eq_false_iff_ne.2 hz9
     have HV2 : Hid (R = false):=Lib.hid (by rw [HV.out];simp [cutJ,hz0,hz9])
     clear HV
     go_wp2
     go_ret
     exact ⟨by rw [HV2.out];rfl,hbz⟩
   ·skip
    by_cases hz9 : z = 9
    ·have z9 : (z == 9) = true:=by rw [hz9];rfl
     cases go with
     | true =>
      have HV2 : Hid (R = false):=Lib.hid (by rw [HV.out];simp [cutJ,hz9])
      clear HV
      go_wp2_with fail
      refine H9.out.mono ?_
      rintro e w2 ⟨rfl,rfl⟩
      go_wp2
      go_ret
      exact ⟨by rw [HV2.out];rfl,hbz⟩
     | false =>
      have HV2 : Hid (R = false):=Lib.hid (by rw [HV.out];simp [cutJ,hz9])
      clear HV
      go_wp2_with fail
      refine H9.out.mono ?_
      rintro e w2 ⟨rfl,rfl⟩
      go_wp2
      go_ret
      exact ⟨by rw [HV2.out];rfl,hbz⟩
    ·have z9 : (z == 9) = false:=beq_eq_false_iff_ne.2 hz9
     have HV2 : Hid (R = false):=Lib.hid (by rw [HV.out];simp [cutJ,hz0,hz9])
     clear HV
     go_wp2
     go_ret
     exact ⟨by rw [HV2.out];rfl,hbz⟩
   ·skip
    by_cases hz9 : z = 9
    ·have z9 : (z == 9) = true:=by rw [hz9];rfl
     cases go with
     | true =>
      have HV2 : Hid (R = false):=Lib.hid (by rw [HV.out];simp [cutJ,hz9])
      clear HV
      go_wp2_with fail
      refine H9.out.mono ?_
      rintro e w2 ⟨rfl,rfl⟩
      go_wp2
      go_ret
      exact ⟨by rw [HV2.out];rfl,hbz⟩
     | false =>
      have HV2 : Hid (R = true):=Lib.hid (by rw [HV.out];simp [cutJ,hz9])
      clear HV
      go_wp2_with fail
      refine H9.out.mono ?_
      rintro e w2 ⟨rfl,rfl⟩
      go_wp2
      go_ret
      exact ⟨by rw [HV2.out];rfl,hbz⟩
    ·have z9 : (z == 9) = false:=beq_eq_false_iff_ne.2 hz9
     have HV2 : Hid (R = true):=Lib.hid (by rw [HV.out];simp [cutJ,hz0,hz9])
     clear HV
     go_wp2
     go_ret
     exact ⟨by rw [HV2.out];rfl,hbz⟩
   ·skip
    cases ini with
    | true =>
     have HV2 : Hid (R = false):=Lib.hid (by rw [HV.out];simp [cutJ,hz0])
     clear HV
     go_wp2_with fail
     refine H6.out.mono ?_
     rintro e w2 ⟨rfl,rfl⟩
     go_wp2
     go_ret
     exact ⟨by rw [HV2.out];rfl,hbz⟩
    | false =>
     by_cases hz9 : z = 9
     ·have z9 : (z == 9) = true:=by rw [hz9];rfl
      cases go with
      | true =>
       have HV2 : Hid (R = false):=Lib.hid (by rw [HV.out];simp [cutJ,hz9])
       clear HV
       go_wp2_with fail
       refine H6.out.mono ?_
       rintro e w2 ⟨rfl,rfl⟩
       go_wp2_with fail
       refine H9.out.mono ?_
       rintro e w2 ⟨rfl,rfl⟩
       go_wp2
       go_ret
       exact ⟨by rw [HV2.out];rfl,hbz⟩
      | false =>
       have HV2 : Hid (R = true):=Lib.hid (by rw [HV.out];simp [cutJ,hz9])
       clear HV
       go_wp2_with fail
       refine H6.out.mono ?_
       rintro e w2 ⟨rfl,rfl⟩
       go_wp2_with fail
       refine H9.out.mono ?_
       rintro e w2 ⟨rfl,rfl⟩
       go_wp2
       go_ret
       exact ⟨by rw [HV2.out];rfl,hbz⟩
     ·have z9 : (z == 9) = false:=beq_eq_false_iff_ne.2 hz9
      have HV2 : Hid (R = true):=Lib.hid (by rw [HV.out];simp [cutJ,hz0,hz9])
      clear HV
      go_wp2_with fail
      refine H6.out.mono ?_
      rintro e w2 ⟨rfl,rfl⟩
      go_wp2
      go_ret
      exact ⟨by rw [HV2.out];rfl,hbz⟩
   ·skip
    by_cases hz9 : z = 9
    ·have z9 : (z == 9) = true:=by rw [hz9];rfl
     cases go with
     | true =>
      have HV2 : Hid (R = false):=Lib.hid (by rw [HV.out];simp [cutJ,hz9])
      clear HV
      go_wp2_with fail
      refine H9.out.mono ?_
      rintro e w2 ⟨rfl,rfl⟩
      go_wp2
      go_ret
      exact ⟨by rw [HV2.out];rfl,hbz⟩
     | false =>
      have HV2 : Hid (R = true):=Lib.hid (by rw [HV.out];simp [cutJ,hz9])
      clear HV
      go_wp2_with fail
      refine H9.out.mono ?_
      rintro e w2 ⟨rfl,rfl⟩
      go_wp2
      go_ret
      exact ⟨by rw [HV2.out];rfl,hbz⟩
    ·have z9 : (z == 9) = false:=beq_eq_false_iff_ne.2 hz9
     have HV2 : Hid (R = true):=Lib.hid (by rw [HV.out];simp [cutJ,hz0,hz9])
     clear HV
     go_wp2
     go_ret
     exact ⟨by rw [HV2.out];rfl,hbz⟩
   ·skip
    have HV2 : Hid (R = false):=Lib.hid (by rw [HV.out];simp [cutJ,hz0])
    clear HV
    go_wp2
    go_ret
    exact ⟨by rw [HV2.out];rfl,hbz⟩
   ·skip
    by_cases hz9 : z = 9
    ·have z9 : (z == 9) = true:=by rw [hz9];rfl
     cases go with
     | true =>
      have HV2 : Hid (R = false):=Lib.hid (by rw [HV.out];simp [cutJ,hz9])
      clear HV
      go_wp2_with fail
      refine H9.out.mono ?_
      rintro e w2 ⟨rfl,rfl⟩
      go_wp2
      go_ret
      exact ⟨by rw [HV2.out];rfl,hbz⟩
     | false =>
      have HV2 : Hid (R = false):=Lib.hid (by rw [HV.out];simp [cutJ,hz9])
      clear HV
      go_wp2_with fail
      refine H9.out.mono ?_
      rintro e w2 ⟨rfl,rfl⟩
      go_wp2
      go_ret
      exact ⟨by rw [HV2.out];rfl,hbz⟩
    ·have z9 : (z == 9) = false:=beq_eq_false_iff_ne.2 hz9
     have HV2 : Hid (R = false):=Lib.hid (by rw [HV.out];simp [cutJ,hz0,hz9])
     clear HV
     go_wp2
     go_ret
     exact ⟨by rw [HV2.out];rfl,hbz⟩
   ·skip
    by_cases hz9 : z = 9
    ·have z9 : (z == 9) = true:=by rw [hz9];rfl
     cases go with
     | true =>
      have HV2 : Hid (R = false):=Lib.hid (by rw [HV.out];simp [cutJ,hz9])
      clear HV
      go_wp2_with fail
      refine H9.out.mono ?_
      rintro e w2 ⟨rfl,rfl⟩
      go_wp2
      go_ret
      exact ⟨by rw [HV2.out];rfl,hbz⟩
     | false =>
      have HV2 : Hid (R = false):=Lib.hid (by rw [HV.out];simp [cutJ,hz9])
      clear HV
      go_wp2_with fail
      refine H9.out.mono ?_
      rintro e w2 ⟨rfl,rfl⟩
      go_wp2
      go_ret
      exact ⟨by rw [HV2.out];rfl,hbz⟩
    ·have z9 : (z == 9) = false:=beq_eq_false_iff_ne.2 hz9
     have HV2 : Hid (R = false):=Lib.hid (by rw [HV.out];simp [cutJ,hz0,hz9])
     clear HV
     go_wp2
     go_ret
     exact ⟨by rw [HV2.out];rfl,hbz⟩
   ·skip
    by_cases hz9 : z = 9
    ·have z9 : (z == 9) = true:=by rw [hz9];rfl
     cases go with
     | true =>
      have HV2 : Hid (R = false):=Lib.hid (by rw [HV.out];simp [cutJ,hz9])
      clear HV
      go_wp2_with fail
      refine H9.out.mono ?_
      rintro e w2 ⟨rfl,rfl⟩
      go_wp2
      go_ret
      exact ⟨by rw [HV2.out];rfl,hbz⟩
     | false =>
      by_cases h8 : e8 = 0
      ·have t8 : (e8 != 0) = false:=by rw [h8];rfl
       have HV2 : Hid (R = true):=Lib.hid (by rw [HV.out];simp [cutJ,hz9,h8])
       clear HV
       go_wp2_with fail
       refine H9.out.mono ?_
       rintro e w2 ⟨rfl,rfl⟩
       go_wp2_with fail
       refine H8.out.mono ?_
       rintro e w2 ⟨rfl,rfl⟩
       go_wp2
       go_ret
       exact ⟨by rw [HV2.out];rfl,hbz⟩
      ·have t8 : (e8 != 0) = true:=by simpa using h8
       have HV2 : Hid (R = false):=Lib.hid (by rw [HV.out];simp [cutJ,hz9,h8])
       clear HV
       go_wp2_with fail
       refine H9.out.mono ?_
       rintro e w2 ⟨rfl,rfl⟩
       go_wp2_with fail
       refine H8.out.mono ?_
       rintro e w2 ⟨rfl,rfl⟩
       go_wp2
       go_ret
       exact ⟨by rw [HV2.out];rfl,hbz⟩
    ·have z9 : (z == 9) = false:=beq_eq_false_iff_ne.2 hz9
     by_cases h8 : e8 = 0
     ·have t8 : (e8 != 0) = false:=by rw [h8];rfl
      have HV2 : Hid (R = true):=Lib.hid (by rw [HV.out];simp [cutJ,hz0,hz9,h8])
      clear HV
      go_wp2_with fail
      refine H8.out.mono ?_
      rintro e w2 ⟨rfl,rfl⟩
      go_wp2
      go_ret
      exact ⟨by rw [HV2.out];rfl,hbz⟩
     ·have t8 : (e8 != 0) = true:=by simpa using h8
      have HV2 : Hid (R = false):=Lib.hid (by rw [HV.out];simp [cutJ,hz0,hz9,h8])
      clear HV
      go_wp2_with fail
      refine H8.out.mono ?_
      rintro e w2 ⟨rfl,rfl⟩
      go_wp2
      go_ret
      exact ⟨by rw [HV2.out];rfl,hbz⟩
   ·skip
    by_cases hz9 : z = 9
    ·have z9 : (z == 9) = true:=by rw [hz9];rfl
     cases go with
     | true =>
      have HV2 : Hid (R = false):=Lib.hid (by rw [HV.out];simp [cutJ,hz9])
      clear HV
      go_wp2_with fail
      refine H9.out.mono ?_
      rintro e w2 ⟨rfl,rfl⟩
      go_wp2
      go_ret
      exact ⟨by rw [HV2.out];rfl,hbz⟩
     | false =>
      have HV2 : Hid (R = false):=Lib.hid (by rw [HV.out];simp [cutJ,hz9])
      clear HV
      go_wp2_with fail
      refine H9.out.mono ?_
      rintro e w2 ⟨rfl,rfl⟩
      go_wp2
      go_ret
      exact ⟨by rw [HV2.out];rfl,hbz⟩
    ·have z9 : (z == 9) = false:=beq_eq_false_iff_ne.2 hz9
     have HV2 : Hid (R = false):=Lib.hid (by rw [HV.out];simp [cutJ,hz0,hz9])
     clear HV
     go_wp2
     go_ret
     exact ⟨by rw [HV2.out];rfl,hbz⟩
   ·skip
    have HV2 : Hid (R = false):=Lib.hid (by rw [HV.out];simp [cutJ,hz0])
    clear HV
    go_wp2
    go_ret
    exact ⟨by rw [HV2.out];rfl,hbz⟩
  | false =>
   rcases hy14c with rfl | rfl | rfl | rfl | rfl | rfl | rfl | rfl | rfl | rfl | rfl | rfl | rfl | rfl
   ·skip
    by_cases hz9 : z = 9
    ·have z9 : (z == 9) = true:=by rw [hz9];rfl
     cases go with
     | true =>
      have HV2 : Hid (R = false):=Lib.hid (by rw [HV.out];simp [cutJ,hz9])
      clear HV
      go_wp2_with fail
      refine H9.out.mono ?_
      rintro e w2 ⟨rfl,rfl⟩
      go_wp2
      go_ret
      exact ⟨by rw [HV2.out];rfl,hbz⟩
     | false =>
      have HV2 : Hid (R = true):=Lib.hid (by rw [HV.out];simp [cutJ,hz9])
      clear HV
      go_wp2_with fail
      refine H9.out.mono ?_
      rintro e w2 ⟨rfl,rfl⟩
      go_wp2
      go_ret
      exact ⟨by rw [HV2.out];rfl,hbz⟩
    ·have z9 : (z == 9) = false:=beq_eq_false_iff_ne.2 hz9
     have HV2 : Hid (R = true):=Lib.hid (by rw [HV.out];simp [cutJ,hz0,hz9])
     clear HV
     go_wp2
     go_ret
     exact ⟨by rw [HV2.out];rfl,hbz⟩
   ·skip
    by_cases hz9 : z = 9
    ·have z9 : (z == 9) = true:=by rw [hz9];rfl
     cases go with
     | true =>
      have HV2 : Hid (R = false):=Lib.hid (by rw [HV.out];simp [cutJ,hz9])
      clear HV
      go_wp2_with fail
      refine H9.out.mono ?_
      rintro e w2 ⟨rfl,rfl⟩
      go_wp2
      go_ret
      exact ⟨by rw [HV2.out];rfl,hbz⟩
     | false =>
      have HV2 : Hid (R = false):=Lib.hid (by rw [HV.out];simp [cutJ,hz9])
      clear HV
      go_wp2_with fail
      refine H9.out.mono ?_
      rintro e w2 ⟨rfl,rfl⟩
      go_wp2
      go_ret
      exact ⟨by rw [HV2.out];rfl,hbz⟩
    ·have z9 : (z == 9) = false:=beq_eq_false_iff_ne.2 hz9
     have HV2 : Hid (R = false):=Lib.hid (by rw [HV.out];simp [cutJ,hz0,hz9])
     clear HV
     go_wp2
     go_ret
     exact ⟨by rw [HV2.out];rfl,hbz⟩
   ·skip
    by_cases hz9 : z = 9
    ·have z9 : (z == 9) = true:=by rw [hz9];rfl
     cases go with
     | true =>
      have HV2 : Hid (R = false):=Lib.hid (by rw [HV.out];simp [cutJ,hz9])
      clear HV
      go_wp2_with fail
      refine H9.out.mono ?_
      rintro e w2 ⟨rfl,rfl⟩
      go_wp2
      go_ret
      exact ⟨by rw [HV2.out];rfl,hbz⟩
     | false =>
      have HV2 : Hid (R = false):=Lib.hid (by rw [HV.out];simp [cutJ,hz9])
      clear HV
      go_wp2_with fail
      refine H9.out.mono ?_
      rintro e w2 ⟨rfl,rfl⟩
      go_wp2
      go_ret
      exact ⟨by rw [HV2.out];rfl,hbz⟩
    ·have z9 : (z == 9) = false:=beq_eq_false_iff_ne.2 hz9
     have HV2 : Hid (R = false):=Lib.hid (by rw [HV.out];simp [cutJ,hz0,hz9])
     clear HV
     go_wp2
     go_ret
     exact ⟨by rw [HV2.out];rfl,hbz⟩
   ·skip
    by_cases hz9 : z = 9
    ·have z9 : (z == 9) = true:=by rw [hz9];rfl
     cases go with
     | true =>
      have HV2 : Hid (R = false):=Lib.hid (by rw [HV.out];simp [cutJ,hz9])
      clear HV
      go_wp2_with fail
      refine H9.out.mono ?_
      rintro e w2 ⟨rfl,rfl⟩
      go_wp2
      go_ret
      exact ⟨by rw [HV2.out];rfl,hbz⟩
     | false =>
      have HV2 : Hid (R = false):=Lib.hid (by rw [HV.out];simp [cutJ,hz9])
      clear HV
      go_wp2_with fail
      refine H9.out.mono ?_
      rintro e w2 ⟨rfl,rfl⟩
      go_wp2
      go_ret
      exact ⟨by rw [HV2.out];rfl,hbz⟩
    ·have z9 : (z == 9) = false:=beq_eq_false_iff_ne.2 hz9
     have HV2 : Hid (R = false):=Lib.hid (by rw [HV.out];simp [cutJ,hz0,hz9])
     clear HV
     go_wp2
     go_ret
     exact ⟨by rw [HV2.out];rfl,hbz⟩
   ·skip
    by_cases hz9 : z = 9
    ·have z9 : (z == 9) = true:=by rw [hz9];rfl
     cases go with
     | true =>
      have HV2 : Hid (R = false):=Lib.hid (by rw [HV.out];simp [cutJ,hz9])
      clear HV
      go_wp2_with fail
      refine H9.out.mono ?_
      rintro e w2 ⟨rfl,rfl⟩
      go_wp2
      go_ret
      exact ⟨by rw [HV2.out];rfl,hbz⟩
     | false =>
      have HV2 : Hid (R = false):=Lib.hid (by rw [HV.out];simp [cutJ,hz9])
      clear HV
      go_wp2_with fail
      refine H9.out.mono ?_
      rintro e w2 ⟨rfl,rfl⟩
      go_wp2
      go_ret
      exact ⟨by rw [HV2.out];rfl,hbz⟩
    ·have z9 : (z == 9) = false:=beq_eq_false_iff_ne.2 hz9
     have HV2 : Hid (R = false):=Lib.hid (by rw [HV.out];simp [cutJ,hz0,hz9])
     clear HV
     go_wp2
     go_ret
     exact ⟨by rw [HV2.out];rfl,hbz⟩
   ·skip
    by_cases hz9 : z = 9
    ·have z9 : (z == 9) = true:=by rw [hz9];rfl
     cases go with
     | true =>
      have HV2 : Hid (R = false):=Lib.hid (by rw [HV.out];simp [cutJ,hz9])
      clear HV
      go_wp2_with fail
      refine H9.out.mono ?_
      rintro e w2 ⟨rfl,rfl⟩
      go_wp2
      go_ret
      exact ⟨by rw [HV2.out];rfl,hbz⟩
     | false =>
      have HV2 : Hid (R = true):=Lib.hid (by rw [HV.out];simp [cutJ,hz9])
      clear HV
      go_wp2_with fail
      refine H9.out.mono ?_
      rintro e w2 ⟨rfl,rfl⟩
      go_wp2
      go_ret
      exact ⟨by rw [HV2.out];rfl,hbz⟩
    ·have z9 : (z == 9) = false:=beq_eq_false_iff_ne.2 hz9
     have HV2 : Hid (R = true):=Lib.hid (by rw [HV.out];simp [cutJ,hz0,hz9])
     clear HV
     go_wp2
     go_ret
     exact ⟨by rw [HV2.out];rfl,hbz⟩
   ·skip
    cases ini with
    | true =>
     have HV2 : Hid (R = false):=Lib.hid (by rw [HV.out];simp [cutJ,hz0])
     clear HV
     go_wp2_with fail
     refine H6.out.mono ?_
     rintro e w2 ⟨rfl,rfl⟩
     go_wp2
     go_ret
     exact ⟨by rw [HV2.out];rfl,hbz⟩
    | false =>
     by_cases hz9 : z = 9
     ·have z9 : (z == 9) = true:=by rw [hz9];rfl
      cases go with
      | true =>
       have HV2 : Hid (R = false):=Lib.hid (by rw [HV.out];simp [cutJ,hz9])
       clear HV
       go_wp2_with fail
       refine H6.out.mono ?_
       rintro e w2 ⟨rfl,rfl⟩
       go_wp2_with fail
       refine H9.out.mono ?_
       rintro e w2 ⟨rfl,rfl⟩
       go_wp2
       go_ret
       exact ⟨by rw [HV2.out];rfl,hbz⟩
      | false =>
       have HV2 : Hid (R = true):=Lib.hid (by rw [HV.out];simp [cutJ,hz9])
       clear HV
       go_wp2_with fail
       refine H6.out.mono ?_
       rintro e w2 ⟨rfl,rfl⟩
       go_wp2_with fail
       refine H9.out.mono ?_
       rintro e w2 ⟨rfl,rfl⟩
       go_wp2
       go_ret
       exact ⟨by rw [HV2.out];rfl,hbz⟩
     ·have z9 : (z == 9) = false:=beq_eq_false_iff_ne.2 hz9
      have HV2 : Hid (R = true):=Lib.hid (by rw [HV.out];simp [cutJ,hz0,hz9])
      clear HV
      go_wp2_with fail
      refine H6.out.mono ?_
      rintro e w2 ⟨rfl,rfl⟩
      go_wp2
      go_ret
      exact ⟨by rw [HV2.out];rfl,hbz⟩
   ·skip
    by_cases hz9 : z = 9
    ·have z9 : (z == 9) = true:=by rw [hz9];rfl
     cases go with
     | true =>
      have HV2 : Hid (R = false):=Lib.hid (by rw [HV.out];simp [cutJ,hz9])
      clear HV
      go_wp2_with fail
      refine H9.out.mono ?_
      rintro e w2 ⟨rfl,rfl⟩
      go_wp2
      go_ret
      exact ⟨by rw [HV2.out];rfl,hbz⟩
     | false =>
      have HV2 : Hid (R = true):=Lib.hid (by rw [HV.out];simp [cutJ,hz9])
      clear HV
      go_wp2_with fail
      refine H9.out.mono ?_
      rintro e w2 ⟨rfl,rfl⟩
      go_wp2
      go_ret
      exact ⟨by rw [HV2.out];rfl,hbz⟩
    ·have z9 : (z == 9) = false:=beq_eq_false_iff_ne.2 hz9
     have HV2 : Hid (R = true):=Lib.hid (by rw [HV.out];simp [cutJ,hz0,hz9])
     clear HV
     go_wp2
     go_ret
     exact ⟨by rw [HV2.out];rfl,hbz⟩
   ·skip
    by_cases hz9 : z = 9
    ·have z9 : (z == 9) = true:=by rw [hz9];rfl
     cases go with
     | true =>
      have HV2 : Hid (R = false):=Lib.hid (by rw [HV.out];simp [cutJ,hz9])
      clear HV
      go_wp2_with fail
      refine H9.out.mono ?_
      rintro e w2 ⟨rfl,rfl⟩
      go_wp2
      go_ret
      exact ⟨by rw [HV2.out];rfl,hbz⟩
     | false =>
      have HV2 : Hid (R = true):=Lib.hid (by rw [HV.out];simp [cutJ,hz9])
      clear HV
      go_wp2_with fail
      refine H9.out.mono ?_
      rintro e w2 ⟨rfl,rfl⟩
      go_wp2
      go_ret
      exact ⟨by rw [HV2.out];rfl,hbz⟩
    ·have z9 : (z == 9) = false:=beq_eq_false_iff_ne.2 hz9
     have HV2 : Hid (R = true):=Lib.hid (by rw [HV.out];simp [cutJ,hz0,hz9])
     clear HV
     go_wp2
     go_ret
     exact ⟨by rw [HV2.out];rfl,hbz⟩
   ·skip
    by_cases hz9 : z = 9
    ·have z9 : (z == 9) = true:=by rw [hz9];rfl
     cases go with
     | true =>
      have HV2 : Hid (R = false):=Lib.hid (by rw [HV.out];simp [cutJ,hz9])
      clear HV
      go_wp2_with fail
      refine H9.out.mono ?_
      rintro e w2 ⟨rfl,rfl⟩
      go_wp2
      go_ret
      exact ⟨by rw [HV2.out];rfl,hbz⟩
     | false =>
      have HV2 : Hid (R = false):=Lib.hid (by rw [HV.out];simp [cutJ,hz9])
      clear HV
      go_wp2_with fail
      refine H9.out.mono ?_
      rintro e w2 ⟨rfl,rfl⟩
      go_wp2
      go_ret
      exact ⟨by rw [HV2.out];rfl,hbz⟩
    ·have z9 : (z == 9) = false:=beq_eq_false_iff_ne.2 hz9
     have HV2 : Hid (R = false):=Lib.hid (by rw [HV.out];simp [cutJ,hz0,hz9])
     clear HV
     go_wp2
     go_ret
     exact ⟨by rw [HV2.out];rfl,hbz⟩
   ·skip
    by_cases hz9 : z = 9
    ·have z9 : (z == 9) = true:=by rw [hz9];rfl
     cases go with
     | true =>
      have HV2 : Hid (R = false):=Lib.hid (by rw [HV.out];simp [cutJ,hz9])
      clear HV
      go_wp2_with fail
      refine H9.out.mono ?_
      rintro e w2 ⟨rfl,rfl⟩
      go_wp2
      go_ret
      exact ⟨by rw [HV2.out];rfl,hbz⟩
     | false =>
      have HV2 : Hid (R = false):=Lib.hid (by rw [HV.out];simp [cutJ,hz9])
      clear HV
      go_wp2_with fail
      refine H9.out.mono ?_
      rintro e w2 ⟨rfl,rfl⟩
      go_wp2
      go_ret
      exact ⟨by rw [HV2.out];rfl,hbz⟩
    ·have z9 : (z == 9) = false:=beq_eq_false_iff_ne.2 hz9
     have HV2 : Hid (R = false):=Lib.hid (by rw [HV.out];simp [cutJ,hz0,hz9])
     clear HV
     go_wp2
     go_ret
     exact ⟨by rw [HV2.out];rfl,hbz⟩
   ·skip
    by_cases hz9 : z = 9
    ·have z9 : (z == 9) = true:=by rw [hz9];rfl
     cases go with
     | true =>
      have HV2 : Hid (R = false):=Lib.hid (by rw [HV.out];simp [cutJ,hz9])
      clear HV
      go_wp2_with fail
      refine H9.out.mono ?_
      rintro e w2 ⟨rfl,rfl⟩
      go_wp2
      go_ret
      exact ⟨by rw [HV2.out];rfl,hbz⟩
     | false =>
      by_cases h8 : e8 = 0
      ·have t8 : (e8 != 0) = false:=by rw [h8];rfl
       have HV2 : Hid (R = true):=Lib.hid (by rw [HV.out];simp [cutJ,hz9,h8])
       clear HV
       go_wp2_with fail
       refine H9.out.mono ?_
       rintro e w2 ⟨rfl,rfl⟩
       go_wp2_with fail
       refine H8.out.mono ?_
       rintro e w2 ⟨rfl,rfl⟩
       go_wp2
       go_ret
       exact ⟨by rw [HV2.out];rfl,hbz⟩
      ·have t8 : (e8 != 0) = true:=by simpa using h8
       have HV2 : Hid (R = false):=Lib.hid (by rw [HV.out];simp [cutJ,hz9,h8])
       clear HV
       go_wp2_with fail
       refine H9.out.mono ?_
       rintro e w2 ⟨rfl,rfl⟩
       go_wp2_with fail
       refine H8.out.mono ?_
       rintro e w2 ⟨rfl,rfl⟩
       go_wp2
       go_ret
       exact ⟨by rw [HV2.out];rfl,hbz⟩
    ·have z9 : (z == 9) = false:=beq_eq_false_iff_ne.2 hz9
     by_cases h8 : e8 = 0
     ·have t8 : (e8 != 0) = false:=by rw [h8];rfl
      have HV2 : Hid (R = true):=Lib.hid (by rw [HV.out];simp [cutJ,hz0,hz9,h8])
      clear HV
      go_wp2_with fail
      refine H8.out.mono ?_
      rintro e w2 ⟨rfl,rfl⟩
      go_wp2
      go_ret
      exact ⟨by rw [HV2.out];rfl,hbz⟩
     ·have t8 : (e8 != 0) = true:=by simpa using h8
      have HV2 : Hid (R = false):=Lib.hid (by rw [HV.out];simp [cutJ,hz0,hz9,h8])
      clear HV
      go_wp2_with fail
      refine H8.out.mono ?_
      rintro e w2 ⟨rfl,rfl⟩
      go_wp2
      go_ret
      exact ⟨by rw [HV2.out];rfl,hbz⟩
   ·skip
    by_cases hz9 : z = 9
    ·have z9 : (z == 9) = true:=by rw [hz9];rfl
     cases go with
     | true =>
      have HV2 : Hid (R = false):=Lib.hid (by rw [HV.out];simp [cutJ,hz9])
      clear HV
      go_wp2_with fail
      refine H9.out.mono ?_
      rintro e w2 ⟨rfl,rfl⟩
      go_wp2
      go_ret
      exact ⟨by rw [HV2.out];rfl,hbz⟩
     | false =>
      have HV2 : Hid (R = false):=Lib.hid (by rw [HV.out];simp [cutJ,hz9])
      clear HV
      go_wp2_with fail
      refine H9.out.mono ?_
      rintro e w2 ⟨rfl,rfl⟩
      go_wp2
      go_ret
      exact ⟨by rw [HV2.out];rfl,hbz⟩
    ·have z9 : (z == 9) = false:=beq_eq_false_iff_ne.2 hz9
     have HV2 : Hid (R = false):=Lib.hid (by rw [HV.out];simp [cutJ,hz0,hz9])
     clear HV
     go_wp2
     go_ret
     exact ⟨by rw [HV2.out];rfl,hbz⟩
   ·skip
    have HV2 : Hid (R = false):=Lib.hid (by rw [HV.out];simp [cutJ,hz0])
    clear HV
    go_wp2
    go_ret
    exact ⟨by rw [HV2.out];rfl,hbz⟩
end
end Go.Proofs.YtlfpdpbbkjnapaaGreatDoor
