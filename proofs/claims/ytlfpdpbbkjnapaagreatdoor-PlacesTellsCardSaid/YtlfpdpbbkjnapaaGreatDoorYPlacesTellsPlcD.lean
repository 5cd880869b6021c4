/- -/
import Derived.Deep.QuietTactic
import Derived.BigQuiet
import Derived.Deep.DeepCutAuto
import Derived.Test.YtlfpdpbbkjnapaaGreatDoorYPlacesTells5a
import Derived.Test.YtlfpdpbbkjnapaaGreatDoorYPlacesTells1a
namespace Go.Proofs.YtlfpdpbbkjnapaaGreatDoor
set_option maxRecDepth 100000
set_option maxHeartbeats 40000000
section
open Go.RowKit
theorem infoFLn : (Tryz.prog.info? 52).map (fun i=>(i.zero,i.size,i.bytes)) = some (some (.agg #[.int .i64 0,.int .i64 0,.int .i64 0]),3,24):=by kernel_rfl
theorem encLn3_ok (l : List (Nat × Nat × Nat)) : ∀ y ∈ l.map encLn3,y.length = 3∧∀ u ∈ y,u.oneCell' = true:=by
 intro y hy
 obtain ⟨x,_,rfl⟩:=List.mem_map.1 hy
 exact ⟨rfl,fun u hu=>by simp [encLn3] at hu;rcases hu with rfl | rfl | rfl <;> rfl⟩
theorem fletters_any (base pb : Nat) (s : ByteArray) (w : World) (hB : BrkB w base pb graphsD rulesG true) (hs : s.size≤90000) :
  Calls Tryz.prog 87 #[.pointer (some ⟨pb,0,none⟩),.string s] w fun e w'=>∃ A c,e = .returned (.slice A (letS s).length c)∧Rd w' 1 A ((letS s).map encN)∧(∀ a,A = some a→w.heap.size≤a.block)∧Below w.heap.size w w':=by
 have H:=Lib.hid (bBoundsG_any base pb s w hB hs)
 have hL:=bounds_len s
 unfold letS
 generalize boundsG gG s = L at H hL ⊢
 clear hB
 cases hm : L.length with
 | zero =>
  obtain rfl : L = []:=List.length_eq_zero_iff.1 hm
  clear hm
  go_enter Tryz.func87,Tryz.ntmps87
  go_wp2_with fail
  refine H.out.mono ?_
  rintro e w1 ⟨A,k,c,rfl,ho,hb⟩
  obtain rfl : 0 = k:=by have:=ho.len;simpa using this
  go_wp2
  go_ret
  exact ⟨none,0,rfl,Rd.nil_ _ _ _,(fun a ha=>by cases ha),hb⟩
 | succ j =>
  have HT:=Lib.hid (List.dropLast_eq_take (l:=L))
  have Hj : Hid ((List.take j L).length = j):=Lib.hid (by rw [List.length_take,hm];omega)
  rw [hm,Nat.add_sub_cancel] at HT
  obtain ⟨m,Hm⟩ : ∃ m,Hid (j+1 = m):=⟨_,Lib.hid rfl⟩
  rw [Hm.out] at hm
  have Hl:=Lib.hid hm
  have t0 : ((m : Int) == 0) = false:=beq_eq_false_iff_ne.2 (by have:=Hm.out;omega)
  have ew : IntKind.i64.wrap ((m : Int) - 1) = (j : Int):=by rw [show (m : Int) - 1 = (j : Int) by have:=Hm.out;omega];exact IntWalk.i64_in _ (by have:=Hm.out;omega)
  have ew2 : (m : Int) - 1 = (j : Int):=by have:=Hm.out;omega
  have ew3 : IntKind.i64.wrap (j : Int) = (j : Int):=IntWalk.i64_in _ (by have:=Hm.out;omega)
  have ew4 : wrap64 (j : Int) = (j : Int):=IntWalk.wrap64_in _ (by have:=Hm.out;omega)
  have hjm : j≤m:=by have:=Hm.out;omega
  rw [HT.out,Hj.out]
  clear hm hL
  go_enter Tryz.func87,Tryz.ntmps87
  go_wp2_with fail
  refine H.out.mono ?_
  rintro e w1 ⟨A,k,c,rfl,ho,hb⟩
  obtain rfl : m = k:=by have:=ho.len;rw [List.length_map,Hl.out] at this;exact this
  have hcap:=ho.cap.1
  have hjc : j≤c:=by omega
  have hjc2 : (j : Int)≤(c : Int):=by omega
  go_wp2
  go_ret
  exact ⟨_,_,rfl,(ho.rd (by decide)).takeN j,(fun a ha=>(ho.lt a ha).1),hb⟩
theorem fLines_any (s : ByteArray) (w : World) (hs : s.size≤100000) :
  Calls Tryz.prog 29 #[.string s] w fun e w'=>∃ A c,e = .returned (.slice A (lnP s).length c)∧Own w' w.heap.size 52 3 A (lnP s).length c ((lnP s).map encLn3)∧Below w.heap.size w w':=by
 obtain ⟨i0,hi0,hz0,hz1,hz2⟩:=info_parts infoFLn
 have HM:=Lib.hid (tMarks_any s w (by omega))
 obtain ⟨X,HX⟩ : ∃ L,Hid (runesP s = L):=⟨_,Lib.hid rfl⟩
 have hXz : X.length≤s.size:=by rw [← HX.out];exact runesP_len s
 have HBd:=Lib.hid (fun z (h : z ∈ X)=>runesP_bd (s:=s) z (by rw [HX.out];exact h))
 rw [HX.out] at HM
 obtain ⟨N,HN⟩ : ∃ N,Hid ((lnP s).length = N):=⟨_,Lib.hid rfl⟩
 rw [HN.out]
 go_enter Tryz.func29,Tryz.ntmps29
 go_wp2_with fail
 refine HM.out.mono ?_
 rintro e w2 ⟨A,m,c,rfl,ho,hb2⟩
 have hm : X.length = m:=by have:=ho.len;rwa [List.length_map] at this
 have rd:=ho.rd (by decide)
 have Hm:=Lib.hid hm
 have hmz : m≤100000:=by omega
 clear HM ho hm hXz
 go_wp2_with fail
 go_loopw [4,5,6] (fun u f v wr=>∃ (i k F c1 : Nat) (A1 : Option Addr) (o : List (Nat × Nat × Nat)),u = .slice A1 k c1∧f = .int .i64 F∧v = .int .i64 i∧i≤m∧k≤i∧F≤s.size∧Hid (LnRf s i F o)∧Own wr w2.heap.size 52 3 A1 k c1 (o.map encLn3)∧Below w2.heap.size w2 wr) (fun _ _ v _=>m - (intOf v).toNat)
 case atStart=>exact ⟨0,0,0,0,none,[],rfl,rfl,rfl,by omega,by omega,by omega,Lib.hid (lnRf_first s),Own.nil_ _ _ _ _,Below.refl _ _⟩
 case round =>
  obtain ⟨i,k,F,c1,A1,o,rfl,rfl,rfl,hi,hki,hF,HL,ho,hb⟩:=hrel
  have hsz:=hb.size
  by_cases hlt : i < m
  ·obtain ⟨⟨R,a,z⟩,Hx⟩ : ∃ x,Hid (X[i]? = some x):=⟨_,Lib.hid (List.getElem?_eq_getElem (by have:=Hm.out;omega))⟩
   obtain ⟨g,off,rfl,hc⟩:=rd (by intro e;have:=congrArg List.length e;rw [List.length_map,Hm.out] at this;simp at this;omega)
   obtain ⟨hz1',hz2'⟩:=HBd.out _ (List.mem_of_getElem? Hx.out)
   simp only at hz1' hz2'
   have HC:=Lib.hid (fun (x : Nat) (y : Nat × Nat × Nat) (h : X[x]? = some y)=>And.intro (cell_keep (hc x 0 (encMk y) (.int .i64 (y.2.1 : Nat)) (by rw [List.getElem?_map,h];rfl) rfl) hb) (cell_keep (hc x 2 (encMk y) (.int .i32 (y.1 : Nat)) (by rw [List.getElem?_map,h];rfl) rfl) hb))
   obtain ⟨W,hW⟩ : ∃ W : Nat,(z : Int) - (a : Int) = (W : Int):=⟨z - a,by omega⟩
   have c1':=cell_keep (hc i 1 (encMk (R,a,z)) (.int .i64 ((z : Int) - (a : Int))) (by rw [List.getElem?_map,Hx.out];rfl) rfl) hb
   rw [hW] at c1'
   obtain ⟨c0,c2⟩:=HC.out i _ Hx.out
   simp only [Nat.add_zero] at c0 c2
   have ez2 : (a : Int)+(W : Int) = (z : Int):=by omega
   have ez : IntKind.i64.wrap ((a : Int)+(W : Int)) = (z : Int):=by rw [ez2];exact IntWalk.i64_in _ (by omega)
   obtain ⟨b0,E0⟩ : ∃ q,Hid (endsQ R = q):=⟨_,Lib.hid rfl⟩
   obtain ⟨b1,e1⟩ : ∃ q,((R : Int) == 13) = q:=⟨_,rfl⟩
   obtain ⟨b2,e2⟩ : ∃ q,((R : Int) == 10) = q:=⟨_,rfl⟩
   have E1 : Hid ((R == 13) = b1):=Lib.hid (by rw [← e1,Bool.eq_iff_iff];simp;omega)
   have E2 : Hid ((R == 10) = b2):=Lib.hid (by rw [← e2,Bool.eq_iff_iff];simp;omega)
   obtain ⟨b3,E3⟩ : ∃ q,Hid (headIs 10 ((runesP s).drop (i+1)) = q):=⟨_,Lib.hid rfl⟩
   obtain ⟨⟨pr,pa⟩,Ep⟩ : ∃ q,Hid (prevK (runesP s) i = q):=⟨_,Lib.hid rfl⟩
   obtain ⟨b4,E4⟩ : ∃ q,Hid ((pr == 13) = q):=⟨_,Lib.hid rfl⟩
   have HS:=Lib.hid (lnRf_step HL.out (x:=(R,a,z)) (by rw [HX.out];exact Hx.out))
   simp only [E0.out,E1.out,E2.out,E3.out,Ep.out,E4.out] at HS
   obtain ⟨j,hj⟩ : ∃ j,j = i+1:=⟨_,rfl⟩
   have Hj:=Lib.hid hj
   have ej : (i : Int)+1 = (j : Int):=by omega
   have ej2 : IntKind.i64.wrap ((i : Int)+1) = (j : Int):=by rw [ej];exact IntWalk.i64_in _ (by omega)
   clear hj hc hW
   go_upto_region 8 with fail
   go_cut [8] (fun t wx=>t = .bool b0∧wr = wx)
   case first =>
    by_cases h1 : (R : Int) ≥ 10
    ·by_cases h2 : (R : Int)≤13
     ·obtain rfl : true = b0:=by rw [← E0.out];unfold endsQ;rw [decide_eq_true (by omega),decide_eq_true (by omega)];rfl
      go_wp2
      go_meet
      exact ⟨rfl,rfl⟩
     ·obtain ⟨q1,Q1⟩ : ∃ q,((R : Int) == 133) = q:=⟨_,rfl⟩
      obtain ⟨q2,Q2⟩ : ∃ q,((R : Int) == 8232) = q:=⟨_,rfl⟩
      obtain ⟨q3,Q3⟩ : ∃ q,((R : Int) == 8233) = q:=⟨_,rfl⟩
      have HV : b0 = (q1 || q2 || q3):=by
       rw [← E0.out]
       unfold endsQ
       rw [decide_eq_false (show ¬ R≤13 by omega),Bool.and_false,Bool.false_or,← Q1,← Q2,← Q3]
       rw [show ((R : Int) == 133) = (R == 133) by rw [Bool.eq_iff_iff];simp;omega,show ((R : Int) == 8232) = (R == 8232) by rw [Bool.eq_iff_iff];simp;omega,show ((R : Int) == 8233) = (R == 8233) by rw [Bool.eq_iff_iff];simp;omega]
      subst HV
      cases q1 with
      | true =>
       go_wp2
       go_meet
       exact ⟨rfl,rfl⟩
      | false =>
       cases q2 with
       | true =>
        go_wp2
        go_meet
        exact ⟨rfl,rfl⟩
       | false =>
        cases q3 with
        | true =>
         go_wp2
         go_meet
         exact ⟨rfl,rfl⟩
        | false =>
         go_wp2
         go_meet
         exact ⟨rfl,rfl⟩
    ·obtain rfl : false = b0:=by rw [← E0.out];unfold endsQ;rw [decide_eq_false (show ¬ 10≤R by omega)];simp;omega
     have q1 : ((R : Int) == 133) = false:=beq_eq_false_iff_ne.2 (by omega)
     have q2 : ((R : Int) == 8232) = false:=beq_eq_false_iff_ne.2 (by omega)
     have q3 : ((R : Int) == 8233) = false:=beq_eq_false_iff_ne.2 (by omega)
     go_wp2
     go_meet
     exact ⟨rfl,rfl⟩
   case rest =>
    obtain ⟨rfl,rfl⟩:=hcut
    cases b0 with
    | false =>
     have HS2 : Hid (LnRf s j F o):=Lib.hid (by
      have h:=HS.out
      rw [Hj.out];exact h)
     go_wp2
     go_roundw
     case rel=>exact ⟨j,k,F,c1,A1,o,rfl,rfl,rfl,by have:=Hj.out;omega,by have:=Hj.out;omega,hF,HS2,ho,hb⟩
     case measure=>have:=Hj.out;simp [intOf];omega
    | true =>
     cases b1 with
     | false =>
      cases b2 with
      | false =>
       have HS2 : Hid (LnRf s j z (o++[(F,a,z)])):=Lib.hid (by
        have h:=HS.out
        rw [Hj.out];exact h)
       clear HS
       go_wp2_with fail
       go_quiet (fail)
       have ho1:=ho.drewN 1
       have hb1:=below_drewN hb 1
       go_wp2_with (at_builtin;go_must (refine wpList_app rfl (.tmp 101) (.tmp 106) _ rfl w2.heap.size 52 i0 _ 3 24 Tryz.underlying49 hi0 hz0 hz1 hz2 rfl (by omega) A1 k c1 (o.map encLn3) rfl (Own.alloc (Own.drewN ho _) _) _ 1 1 [encLn3 (F,a,z)] rfl rfl (Rd.newAt (by first | rfl | simp) rfl) (encLn3_ok [_]) (by unfold maxLen;omega) (by omega) (by simp;omega) ?_);intro A3 c3 w3 ho3 hg3 hA3)
       have hb3:=below_app ((below_drewN hb _).alloc (by exact hsz) _) hg3 (by simp;omega) (fun a ha=>by have:=(ho.lt a ha).1;omega)
       go_roundw
       case rel=>exact ⟨j,k+1,z,c3,A3,o++[(F,a,z)],rfl,rfl,rfl,by have:=Hj.out;omega,by have:=Hj.out;omega,hz2'.1,HS2,by rw [List.map_append];exact ho3,hb3⟩
       case measure=>have:=Hj.out;simp [intOf];omega
      | true =>
       rcases Nat.eq_zero_or_pos i with hi0z | hipos
       ·have tz : ¬ (i : Int) > 0:=by omega
        obtain rfl : false = b4:=by
         rw [← E4.out]
         have:=Ep.out
         rw [hi0z] at this
         injection this with this
         rw [← this];rfl
        clear hi0z
        have HS2 : Hid (LnRf s j z (o++[(F,a,z)])):=Lib.hid (by
         have h:=HS.out
         rw [Hj.out];exact h)
        clear HS
        go_wp2_with fail
        go_quiet (fail)
        have ho1:=ho.drewN 1
        have hb1:=below_drewN hb 1
        go_wp2_with (at_builtin;go_must (refine wpList_app rfl (.tmp 101) (.tmp 106) _ rfl w2.heap.size 52 i0 _ 3 24 Tryz.underlying49 hi0 hz0 hz1 hz2 rfl (by omega) A1 k c1 (o.map encLn3) rfl (Own.alloc (Own.drewN ho _) _) _ 1 1 [encLn3 (F,a,z)] rfl rfl (Rd.newAt (by first | rfl | simp) rfl) (encLn3_ok [_]) (by unfold maxLen;omega) (by omega) (by simp;omega) ?_);intro A3 c3 w3 ho3 hg3 hA3)
        have hb3:=below_app ((below_drewN hb _).alloc (by exact hsz) _) hg3 (by simp;omega) (fun a ha=>by have:=(ho.lt a ha).1;omega)
        go_roundw
        case rel=>exact ⟨j,k+1,z,c3,A3,o++[(F,a,z)],rfl,rfl,rfl,by have:=Hj.out;omega,by have:=Hj.out;omega,hz2'.1,HS2,by rw [List.map_append];exact ho3,hb3⟩
        case measure=>have:=Hj.out;simp [intOf];omega
       ·obtain ⟨y,hy⟩ : ∃ y,y+1 = i:=⟨i - 1,by omega⟩
        have tz : (i : Int) > 0:=by omega
        have ey : (i : Int) - 1 = (y : Int):=by omega
        have ey2 : IntKind.i64.wrap ((i : Int) - 1) = (y : Int):=by rw [ey];exact IntWalk.i64_in _ (by omega)
        have hym : y < m:=by omega
        have hym2 : (y : Int) < (m : Int):=by omega
        have Hy:=Lib.hid hy
        obtain ⟨⟨R2,a2,z2⟩,Hx2⟩ : ∃ x,Hid (X[y]? = some x):=⟨_,Lib.hid (List.getElem?_eq_getElem (by have:=Hm.out;omega))⟩
        obtain ⟨d0,d2⟩:=HC.out y _ Hx2.out
        simp only [Nat.add_zero] at d0 d2
        have hpr : R2 = pr∧a2 = pa:=by
         have h:=Ep.out
         rw [← hy,prevK,HX.out,Hx2.out] at h
         injection h with h1 h2
         exact ⟨h1,h2⟩
        obtain ⟨rfl,rfl⟩:=hpr
        have e4 : ((R2 : Int) == 13) = b4:=by rw [← E4.out,Bool.eq_iff_iff];simp;omega
        clear hy
        cases b4 with
        | false =>
         have HS2 : Hid (LnRf s j z (o++[(F,a,z)])):=Lib.hid (by
          have h:=HS.out
          rw [Hj.out];exact h)
         clear HS
         go_wp2_with fail
         go_quiet (fail)
         have ho1:=ho.drewN 1
         have hb1:=below_drewN hb 1
         go_wp2_with (at_builtin;go_must (refine wpList_app rfl (.tmp 101) (.tmp 106) _ rfl w2.heap.size 52 i0 _ 3 24 Tryz.underlying49 hi0 hz0 hz1 hz2 rfl (by omega) A1 k c1 (o.map encLn3) rfl (Own.alloc (Own.drewN ho _) _) _ 1 1 [encLn3 (F,a,z)] rfl rfl (Rd.newAt (by first | rfl | simp) rfl) (encLn3_ok [_]) (by unfold maxLen;omega) (by omega) (by simp;omega) ?_);intro A3 c3 w3 ho3 hg3 hA3)
         have hb3:=below_app ((below_drewN hb _).alloc (by exact hsz) _) hg3 (by simp;omega) (fun a ha=>by have:=(ho.lt a ha).1;omega)
         go_roundw
         case rel=>exact ⟨j,k+1,z,c3,A3,o++[(F,a,z)],rfl,rfl,rfl,by have:=Hj.out;omega,by have:=Hj.out;omega,hz2'.1,HS2,by rw [List.map_append];exact ho3,hb3⟩
         case measure=>have:=Hj.out;simp [intOf];omega
        | true =>
         have HS2 : Hid (LnRf s j z (o++[(F,a2,z)])):=Lib.hid (by
          have h:=HS.out
          rw [Hj.out];exact h)
         clear HS
         go_wp2_with fail
         go_quiet (fail)
         have ho1:=ho.drewN 1
         have hb1:=below_drewN hb 1
         go_wp2_with (at_builtin;go_must (refine wpList_app rfl (.tmp 101) (.tmp 106) _ rfl w2.heap.size 52 i0 _ 3 24 Tryz.underlying49 hi0 hz0 hz1 hz2 rfl (by omega) A1 k c1 (o.map encLn3) rfl (Own.alloc (Own.drewN ho _) _) _ 1 1 [encLn3 (F,a2,z)] rfl rfl (Rd.newAt (by first | rfl | simp) rfl) (encLn3_ok [_]) (by unfold maxLen;omega) (by omega) (by simp;omega) ?_);intro A3 c3 w3 ho3 hg3 hA3)
         have hb3:=below_app ((below_drewN hb _).alloc (by exact hsz) _) hg3 (by simp;omega) (fun a ha=>by have:=(ho.lt a ha).1;omega)
         go_roundw
         case rel=>exact ⟨j,k+1,z,c3,A3,o++[(F,a2,z)],rfl,rfl,rfl,by have:=Hj.out;omega,by have:=Hj.out;omega,hz2'.1,HS2,by rw [List.map_append];exact ho3,hb3⟩
         case measure=>have:=Hj.out;simp [intOf];omega
     | true =>
      obtain rfl : false = b2:=by
       rw [← E2.out]
       have:=E1.out
       rw [beq_iff_eq] at this
       rw [this];rfl
      by_cases hjm : j < m
      ·have hjm2 : (j : Int) < (m : Int):=by omega
       obtain ⟨⟨R3,a3,z3⟩,Hx3⟩ : ∃ x,Hid (X[j]? = some x):=⟨_,Lib.hid (List.getElem?_eq_getElem (by have:=Hm.out;omega))⟩
       obtain ⟨d0,d2⟩:=HC.out j _ Hx3.out
       simp only [Nat.add_zero] at d0 d2
       have e3 : ((R3 : Int) == 10) = b3:=by
        rw [← E3.out,headIs_drop,← Hj.out,HX.out,Hx3.out,Bool.eq_iff_iff]
        simp;omega
       cases b3 with
       | false =>
        have HS2 : Hid (LnRf s j z (o++[(F,a,z)])):=Lib.hid (by
         have h:=HS.out
         rw [Hj.out];exact h)
        clear HS
        go_wp2_with fail
        go_quiet (fail)
        have ho1:=ho.drewN 1
        have hb1:=below_drewN hb 1
        go_wp2_with (at_builtin;go_must (refine wpList_app rfl (.tmp 101) (.tmp 106) _ rfl w2.heap.size 52 i0 _ 3 24 Tryz.underlying49 hi0 hz0 hz1 hz2 rfl (by omega) A1 k c1 (o.map encLn3) rfl (Own.alloc (Own.drewN ho _) _) _ 1 1 [encLn3 (F,a,z)] rfl rfl (Rd.newAt (by first | rfl | simp) rfl) (encLn3_ok [_]) (by unfold maxLen;omega) (by omega) (by simp;omega) ?_);intro A3 c3 w3 ho3 hg3 hA3)
        have hb3:=below_app ((below_drewN hb _).alloc (by exact hsz) _) hg3 (by simp;omega) (fun a ha=>by have:=(ho.lt a ha).1;omega)
        go_roundw
        case rel=>exact ⟨j,k+1,z,c3,A3,o++[(F,a,z)],rfl,rfl,rfl,by have:=Hj.out;omega,by have:=Hj.out;omega,hz2'.1,HS2,by rw [List.map_append];exact ho3,hb3⟩
        case measure=>have:=Hj.out;simp [intOf];omega
       | true =>
        have HS2 : Hid (LnRf s j F o):=Lib.hid (by
         have h:=HS.out
         rw [Hj.out];exact h)
        go_wp2
        go_roundw
        case rel=>exact ⟨j,k,F,c1,A1,o,rfl,rfl,rfl,by have:=Hj.out;omega,by have:=Hj.out;omega,hF,HS2,ho,hb⟩
        case measure=>have:=Hj.out;simp [intOf];omega
      ·have hjm2 : ¬ (j : Int) < (m : Int):=by omega
       obtain rfl : false = b3:=by
        rw [← E3.out,headIs_drop,← Hj.out,HX.out,List.getElem?_eq_none (by have:=Hm.out;omega)]
       have HS2 : Hid (LnRf s j z (o++[(F,a,z)])):=Lib.hid (by
        have h:=HS.out
        rw [Hj.out];exact h)
       clear HS
       go_wp2_with fail
       go_quiet (fail)
       have ho1:=ho.drewN 1
       have hb1:=below_drewN hb 1
       go_wp2_with (at_builtin;go_must (refine wpList_app rfl (.tmp 101) (.tmp 106) _ rfl w2.heap.size 52 i0 _ 3 24 Tryz.underlying49 hi0 hz0 hz1 hz2 rfl (by omega) A1 k c1 (o.map encLn3) rfl (Own.alloc (Own.drewN ho _) _) _ 1 1 [encLn3 (F,a,z)] rfl rfl (Rd.newAt (by first | rfl | simp) rfl) (encLn3_ok [_]) (by unfold maxLen;omega) (by omega) (by simp;omega) ?_);intro A3 c3 w3 ho3 hg3 hA3)
       have hb3:=below_app ((below_drewN hb _).alloc (by exact hsz) _) hg3 (by simp;omega) (fun a ha=>by have:=(ho.lt a ha).1;omega)
       go_roundw
       case rel=>exact ⟨j,k+1,z,c3,A3,o++[(F,a,z)],rfl,rfl,rfl,by have:=Hj.out;omega,by have:=Hj.out;omega,hz2'.1,HS2,by rw [List.map_append];exact ho3,hb3⟩
       case measure=>have:=Hj.out;simp [intOf];omega
  ·obtain rfl : i = m:=by omega
   have HE:=Lib.hid (lnRf_end HL.out (by rw [HX.out,Hm.out];omega))
   obtain rfl : k+1 = N:=by
    have h1:=ho.len
    rw [List.length_map] at h1
    rw [← HN.out,← HE.out,List.length_append,h1];rfl
   have hsz1:=hb2.size
   go_wp2_with (at_builtin;go_must (refine wpList_app rfl (.tmp 109) (.tmp 116) _ rfl w2.heap.size 52 i0 _ 3 24 Tryz.underlying49 hi0 hz0 hz1 hz2 rfl (by omega) A1 k c1 (o.map encLn3) rfl (ho.alloc _) _ 1 1 [encLn3 (F,s.size,s.size)] rfl rfl (Rd.newAt (by simp) rfl) (encLn3_ok [_]) (by unfold maxLen;omega) (by omega) (by simp;omega) ?_);intro A3 c3 w7 ho3 hg3 hA3)
   have hb7:=below_app (hb.alloc hsz (.cells #[.int .i64 (F : Int),.int .i64 (s.size : Int),.int .i64 (s.size : Int)] 52)) hg3 (by simp;omega) (fun a ha=>(ho.lt a ha).1)
   go_ret
   exact ⟨A3,c3,rfl,by rw [← HE.out,List.map_append];exact ho3.more hsz1,below_two hb2 hb7⟩
end
end Go.Proofs.YtlfpdpbbkjnapaaGreatDoor
