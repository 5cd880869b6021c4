/- -/
import Derived.Deep.DeepMust
import Derived.Test.YtglmcknlnoknoaaGreatDoorV0a
namespace Go.Proofs.YtglmcknlnoknoaaGreatDoor
set_option maxRecDepth 100000
set_option maxHeartbeats 40000000
section
open Go.RowKit
theorem sPut_any (B : Nat) (A : Option Addr) (n c : Nat) (l : List (Int × Int)) (x1 x2 : Int) (w : World) (hown : Own w B 248 2 A n c (l.map encR)) (hB : B≤w.heap.size) (hn : n≤4000000) :
  Calls Tryz.prog 319 #[.slice A n c,.agg #[.int .i32 x1,.int .i32 x2]] w fun e w' =>
   ∃ A' c' l1 l2,e = .returned (.slice A' (n+1) c')∧l = l1++l2∧(∀ y ∈ l2,x1 < y.1)∧(∀ o y,l1 = o++[y]→y.1≤x1)∧Own w' B 248 2 A' (n+1) c' ((l1++(x1,x2) :: l2).map encR)∧Below B w w':=by
 obtain ⟨i0,hi0,hz0,hz1,hz2⟩:=info_parts infoR
 have hAlt:=hown.lt
 go_enter Tryz.func319,Tryz.ntmps319
 go_wp2_with (at_builtin;go_must (refine wpList_app rfl (.tmp 6) (.tmp 8) _ rfl B 248 i0 _ 2 8 Tryz.underlying218 hi0 hz0 hz1 hz2 rfl (by omega) A n c (l.map encR) rfl ((hown.alloc _).alloc _) _ 1 1 [encR (x1,x2)] rfl rfl (Rd.newAt (by simp) rfl) (encR_ok [(x1,x2)]) (by unfold maxLen;omega) (by omega) (by simp;omega) ?_);intro A' c' w1 hown1 hg1 hA1)
 have hx1 : w1.cell? ⟨w.heap.size,0,none⟩ = some (.int .i32 x1):=hg1.cell (by simp) (fun e=>by
  cases A with
  | none=>simp at e
  | some a=>have:=(hAlt a rfl).2;simp at e;omega)
 have hx2 : w1.cell? ⟨w.heap.size,1,none⟩ = some (.int .i32 x2):=hg1.cell (by simp) (fun e=>by
  cases A with
  | none=>simp at e
  | some a=>have:=(hAlt a rfl).2;simp at e;omega)
 have hbl : Below B w w1:=below_app (((Below.refl _ _).alloc hB _).alloc (by simp;omega) _) hg1 (by simp;omega) (fun a ha=>(hAlt a ha).1)
 obtain ⟨g,rfl,hgB,hgl⟩:=hown1.form (by omega)
 have hgne : g ≠ w.heap.size:=by
  rcases hA1 with h | h
  ·have:=(hAlt _ h.symm).2;simp at this;omega
  ·simp at h;omega
 have hzs : w.heap.size < w1.heap.size:=by have:=hg1.size;simp at this;omega
 clear hg1 hA1 hAlt hown
 go_loopw [5] (fun i wr=>∃ (k : Nat) (l1 l2 : List (Int × Int)) (z : Int × Int),i = .int .i64 k∧Hid (l1.length = k)∧Hid (l = l1++l2)∧Hid (∀ y ∈ l2,x1 < y.1) ∧
   Own wr B 248 2 (some ⟨g,0,none⟩) (n+1) c' ((l1++z :: l2).map encR)∧wr.cell? ⟨w.heap.size,0,none⟩ = some (.int .i32 x1)∧wr.cell? ⟨w.heap.size,1,none⟩ = some (.int .i32 x2)∧Below B w wr) (fun i _=>(intOf i).toNat)
 case atStart=>exact ⟨n,l,[],(x1,x2),rfl,Lib.hid (by simpa using hown1.len),by simp [Hid],fun y hy=>by simp at hy,by simpa using hown1,hx1,hx2,hbl⟩
 case round =>
  obtain ⟨k,l1,l2,z,rfl,Hk,Hl,Hlt,ho,hc1,hc2,hb⟩:=hrel
  have hkn : k≤n:=by have:=ho.len;have:=Hk.out;simp at *;omega
  rcases Nat.eq_zero_or_pos k with h0 | h0
  ·obtain rfl : l1 = []:=List.eq_nil_of_length_eq_zero (Hk.out.trans h0)
   subst h0
   have ⟨hd1,hd2⟩:=ho.cellR (k:=0) (x:=z) rfl
   have hf1:=ho.frozen 0
   have hf2:=ho.frozen 1
   simp only [Nat.zero_mul,Nat.zero_add] at hd1 hd2
   go_wp2_with fail
   go_quiet (fail)
   go_wp2
   go_ret
   exact ⟨_,_,[],l2,rfl,by simpa using Hl.out,Hlt.out,fun o y h=>by simp at h,(ho.drewN _).storedR (k:=0) (by simp) x1 x2,((below_drewN hb _).setCell hgB _).setCell hgB _⟩
  ·obtain ⟨j,rfl⟩ : ∃ j,k = j+1:=⟨k - 1,by omega⟩
   obtain ⟨l1',y,y2,rfl⟩ : ∃ l1' y y2,l1 = l1'++[(y,y2)]:=by
    rcases snoc_cases l1 with h | h
    ·have:=Hk.out;simp [h] at this
    ·obtain ⟨o,⟨a,b⟩,h⟩:=h;exact ⟨o,a,b,h⟩
   have Hj : Hid (l1'.length = j):=Lib.hid (by have:=Hk.out;simpa using this)
   have hgy : (l1'++[(y,y2)]++z :: l2)[j]? = some (y,y2):=by have:=Hj.out;subst this;simp
   have hgz : (l1'++[(y,y2)]++z :: l2)[j+1]? = some z:=by have:=Hj.out;subst this;simp
   have ⟨hy1,hy2⟩:=ho.cellR hgy
   have ⟨hz1,hz2⟩:=ho.cellR hgz
   have hjl : j+1 < (l1'++[(y,y2)]++z :: l2).length:=(List.getElem?_eq_some_iff.1 hgz).1
   clear hgy hgz
   have hf1:=ho.frozen ((j+1)*2)
   have hf2:=ho.frozen ((j+1)*2+1)
   by_cases hgt : x1 < y
   ·go_wp2_with fail
    go_quiet (fail)
    go_wp2
    go_roundw
    case rel =>
     refine ⟨j,l1',(y,y2) :: l2,(y,y2),rfl,Hj,Lib.hid (by have:=Hl.out;simpa using this),Lib.hid (fun q hq=>?_),?_,?_,?_,((below_drewN hb _).setCell hgB _).setCell hgB _⟩
     ·rcases List.mem_cons.1 hq with rfl | hq
      ·exact hgt
      ·exact Hlt.out q hq
     ·have:=(ho.drewN nq).storedR hjl y y2
      have e : (l1'++[(y,y2)]++z :: l2).set (j+1) (y,y2) = l1'++(y,y2) :: (y,y2) :: l2:=by
       have h:=Hj.out;subst h;simp
      rw [e] at this
      exact this
     ·simp [World.cell?_setCell_other];exact hc1
     ·simp [World.cell?_setCell_other];exact hc2
    case measure=>simp [intOf]
   ·have hge : y≤x1:=by omega
    clear hgt
    have hw1 : IntKind.i64.wrap (j : Int) = j:=IntWalk.i64_in _ (by omega)
    have hdd : decide (x1 < y) = false:=decide_eq_false (by omega)
    go_wp2_with fail
    go_quiet (fail)
    go_wp2
    go_ret
    refine ⟨_,_,l1'++[(y,y2)],l2,rfl,Hl.out,Hlt.out,fun o q h=>?_,?_,((below_drewN hb _).setCell hgB _).setCell hgB _⟩
    ·obtain ⟨_,h⟩:=List.append_inj' h rfl
     simp at h;subst h;omega
    ·have:=(ho.drewN nq).storedR hjl x1 x2
     have e : (l1'++[(y,y2)]++z :: l2).set (j+1) (x1,x2) = l1'++[(y,y2)]++(x1,x2) :: l2:=by
      have h:=Hj.out;subst h;simp
     rw [e] at this
     exact this
theorem put_step {s l1 l2 : List (Int × Int)} {x : Int × Int} (hs : s = l1++l2) (h2 : ∀ y ∈ l2,x.1 < y.1) (h1 : ∀ o y,l1 = o++[y]→y.1≤x.1) (hr : Rise s) : Rise (l1++x :: l2)∧(l1++x :: l2).Perm (s++[x]):=by
 subst hs
 constructor
 ·unfold Rise at *
  rw [List.pairwise_append] at hr ⊢
  obtain ⟨ha,hb,hc⟩:=hr
  have hx : ∀ y ∈ l1,y.1≤x.1:=by
   intro y hy
   rcases snoc_cases l1 with rfl | ⟨o,z,rfl⟩
   ·simp at hy
   ·have hz:=h1 o z rfl
    rcases List.mem_append.1 hy with hy | hy
    ·have:=(List.pairwise_append.1 ha).2.2 y hy z (by simp);omega
    ·simp at hy;subst hy;exact hz
  refine ⟨ha,List.pairwise_cons.2 ⟨fun y hy=>by have:=h2 y hy;omega,hb⟩,fun y hy z hz=>?_⟩
  rcases List.mem_cons.1 hz with rfl | hz
  ·exact hx y hy
  ·exact hc y hy z hz
 ·rw [List.append_assoc]
  exact List.Perm.append_left l1 (List.perm_append_comm (l₁:=[x]) (l₂:=l2))
theorem sPut_perm (B : Nat) (A : Option Addr) (n c : Nat) (l : List (Int × Int)) (x1 x2 : Int) (w : World) (hown : Own w B 248 2 A n c (l.map encR)) (hB : B≤w.heap.size) (hn : n≤4000000) (hr : Rise l) :
  Calls Tryz.prog 319 #[.slice A n c,.agg #[.int .i32 x1,.int .i32 x2]] w fun e w' =>
   ∃ A' c' s,e = .returned (.slice A' (n+1) c')∧Hid (Rise s)∧Hid (s.Perm (l++[(x1,x2)]))∧Own w' B 248 2 A' (n+1) c' (s.map encR)∧Below B w w' :=
 (sPut_any B A n c l x1 x2 w hown hB hn).mono fun _ _ ⟨A',c',_,_,he,hs,h2,h1,ho,hb⟩ =>
  have h:=put_step (x:=(x1,x2)) hs h2 h1 hr
  ⟨A',c',_,he,h.1,h.2,ho,hb⟩
theorem keepR_snoc (l : List (Int × Int)) (k : Nat) (x : Int × Int) (h : l[k]? = some x) : keepR (l.take (k+1)) = keepR (l.take k)++if max x.1 0≤min x.2 1114111 then [(max x.1 0,min x.2 1114111)] else []:=by
 rw [List.take_add_one,h]
 simp only [keepR,Option.toList_some,List.map_append,List.map_cons,List.map_nil,List.filter_append]
 congr 1
 by_cases hc : max x.1 0≤min x.2 1114111 <;> simp only [List.filter_cons,List.filter_nil,clampR,hc,decide_true,decide_false,if_true,if_false] <;> rfl
theorem norm_kept {l s s2 : List (Int × Int)} {k : Nat} {lo hi x1 x2 : Int} (HK : keepR (l.take (k+1)) = keepR (l.take k)++if max lo 0≤min hi 1114111 then [(max lo 0,min hi 1114111)] else [])
  (HP : s.Perm (keepR (l.take k))) (hp : s2.Perm (s++[(x1,x2)])) (e1 : x1 = max lo 0) (e2 : x2 = min hi 1114111) (hle : x1≤x2) : s2.Perm (keepR (l.take (k+1))):=by
 subst e1;subst e2
 rw [HK,if_pos hle]
 exact hp.trans (HP.append_right _)
theorem norm_lost {l s : List (Int × Int)} {k : Nat} {lo hi : Int} (HK : keepR (l.take (k+1)) = keepR (l.take k)++if max lo 0≤min hi 1114111 then [(max lo 0,min hi 1114111)] else [])
  (HP : s.Perm (keepR (l.take k))) (hle : ¬ max lo 0≤min hi 1114111) : s.Perm (keepR (l.take (k+1))):=by
 rw [HK,if_neg hle,List.append_nil];exact HP
theorem sNorm_any (A : Option Addr) (n c : Nat) (l : List (Int × Int)) (w : World) (hA : Rd w 2 A (l.map encR)) (hl : l.length = n) (hn : n≤4000000) :
  Calls Tryz.prog 280 #[.slice A n c] w fun e w'=>∃ A' n' c',e = .returned (.slice A' n' c')∧Own w' w.heap.size 248 2 A' n' c' ((normR l).map encR)∧Below w.heap.size w w':=by
 obtain ⟨i0,hi0,hz0,hz1,hz2⟩:=info_parts infoR
 have Hl:=Lib.hid hl
 clear hl
 go_enter Tryz.func280,Tryz.ntmps280
 go_wp2
 go_loopw [3,4] (fun v i wr=>∃ (k : Nat) (A1 : Option Addr) (n1 c1 : Nat) (s : List (Int × Int)),k≤n∧n1≤k∧v = .slice A1 n1 c1∧i = .int .i64 k ∧
   Own wr w.heap.size 248 2 A1 n1 c1 (s.map encR)∧Hid (s.Perm (keepR (l.take k)))∧Hid (Rise s)∧Below w.heap.size w wr) (fun _ i _=>n - (intOf i).toNat)
 case atStart=>exact ⟨0,none,0,0,[],by omega,by omega,rfl,rfl,Own.nil_ _ _ _ _,by simp [Hid,keepR],List.Pairwise.nil,Below.refl _ _⟩
 case round =>
  obtain ⟨k,A1,n1,c1,s,hk,hn1,rfl,rfl,ho,HP,HR,hb⟩:=hrel
  by_cases hlt : k < n
  ·obtain ⟨b,off,lo,hi,rfl,Hx,hx1,hx2⟩:=hA.atR (k:=k) (by have:=Hl.out;omega)
   have hx1:=cell_keep hx1 hb
   have hx2:=cell_keep hx2 hb
   have HK:=Lib.hid (keepR_snoc l k (lo,hi) Hx.out)
   have hbs:=hb.size
   by_cases h1 : lo < 0 <;> by_cases h2 : 1114111 < hi
   all_goals
    go_wp2_with (go_at_call 319;go_must (refine (sPut_perm w.heap.size A1 n1 c1 s _ _ _ (ho.alloc _) (by simp;omega) (by omega) HR.out).mono ?_);rintro e w2 ⟨A2,c2,s2,rfl,HR2,HP2,ho2,hb2⟩)
   all_goals
    first
     | refine ⟨⟨k+1,_,_,_,_,by omega,by omega,rfl,by go_num,ho2,Lib.hid (norm_kept HK.out HP.out HP2.out (by omega) (by omega) (by omega)),HR2,(hb.alloc hbs _).trans hb2⟩,?_⟩
     | refine ⟨⟨k+1,_,_,_,_,by omega,by omega,rfl,by go_num,ho.alloc _,Lib.hid (norm_lost HK.out HP.out (by simp only;omega)),HR,hb.alloc hbs _⟩,?_⟩
    simp [intOf];omega
  ·obtain rfl : n = k:=by omega
   have HP' : Hid (s.Perm (keepR l)):=Lib.hid (by have:=HP.out;rwa [List.take_of_length_le (by have:=Hl.out;omega)] at this)
   clear HP hA hlt hk
   go_wp2
   go_loopw [6,7] (fun v i wr2=>∃ (k2 : Nat) (A2 : Option Addr) (n2 c2 : Nat) (o : List (Int × Int)),k2≤n1∧n2≤k2∧v = .slice A2 n2 c2∧i = .int .i64 k2 ∧
     Own wr2 w.heap.size 248 2 A1 n1 c1 (s.map encR)∧Own wr2 w.heap.size 248 2 A2 n2 c2 (o.map encR)∧Hid (o = (s.take k2).foldl mstep []) ∧
     Hid (∀ a a2,A1 = some a→A2 = some a2→a.block ≠ a2.block)∧Below w.heap.size w wr2) (fun _ i _=>n1 - (intOf i).toNat)
   case atStart=>exact ⟨0,none,0,0,[],by omega,by omega,rfl,rfl,ho,Own.nil_ _ _ _ _,by simp [Hid],Lib.hid (fun _ _ _ h=>by cases h),hb⟩
   case round =>
    clear ho hb
    obtain ⟨k2,A2,n2,c2,o,hk2,hn2,rfl,rfl,ho1,ho2,HO,HD,hb⟩:=hrel
    have hbs:=hb.size
    by_cases hlt2 : k2 < n1
    ·obtain ⟨g,rfl,hgB,hgl⟩:=ho1.form (by omega)
     obtain ⟨x1,x2,HX⟩ : ∃ x1 x2,Hid (s[k2]? = some (x1,x2)):=⟨_,_,Lib.hid (List.getElem?_eq_getElem (by have:=ho1.len;simp at this;omega))⟩
     have HS:=Lib.hid (merge_snoc HX.out)
     have ⟨hx1,hx2⟩:=ho1.cellR HX.out
     simp only at hx1 hx2
     have HBD:=Lib.hid (merge_bd HP'.out HR.out k2)
     rcases snoc_cases o with rfl | ⟨o,⟨y1,y2⟩,rfl⟩
     ·obtain rfl : n2 = 0:=by have:=ho2.len;simpa using this.symm
      go_wp2_with fail
      go_quiet (fail)
      go_wp2_with (at_builtin;go_must (refine wpList_app rfl (.tmp 82) (.tmp 87) _ rfl w.heap.size 248 i0 _ 2 8 Tryz.underlying218 hi0 hz0 hz1 hz2 rfl (by omega) A2 0 c2 ([].map encR) rfl ((ho2.drewN _).alloc _) _ 1 1 [encR (x1,x2)] rfl rfl (Rd.newAt (by simp) rfl) (encR_ok [(x1,x2)]) (by unfold maxLen;omega) (by omega) (by simp;omega) ?_);intro A3 c3 w3 ho3 hg3 hA3)
      have hd3 : Hid (∀ a a2,some (⟨g,0,none⟩ : Addr) = some a→A3 = some a2→a.block ≠ a2.block):=Lib.hid (fun a a2 ha ha2=>by
       cases ha
       rcases hA3 with h | h
       ·exact HD.out _ a2 rfl (by rw [← h];exact ha2)
       ·rw [h] at ha2;cases ha2;simp;omega)
      have ho1':=((ho1.drewN nq).alloc (.cells #[.int .i32 x1,.int .i32 x2] 248)).grown hg3 (fun a ha=>by
       cases ha;intro e;cases hA2 : A2 with
       | none=>rw [hA2] at e;simp at e
       | some a2=>rw [hA2] at e;simp at e;exact HD.out _ a2 rfl hA2 e)
      have hb3:=below_app ((below_drewN hb nq).alloc hbs (.cells #[.int .i32 x1,.int .i32 x2] 248)) hg3 (by simp;omega) (fun a ha=>(ho2.lt a ha).1)
      clear hg3
      go_roundw
      case rel=>exact ⟨k2+1,A3,1,c3,[(x1,x2)],by omega,by omega,rfl,by go_num,ho1',ho3,Lib.hid (by rw [HS.out,← HO.out];rfl),hd3,hb3⟩
      case measure=>simp [intOf];omega
     ·obtain ⟨j,rfl⟩ : ∃ j,n2 = j+1:=⟨n2 - 1,by have:=ho2.len;simp at this;omega⟩
      obtain ⟨g2,rfl,hgB2,hgl2⟩:=ho2.form (by omega)
      have Hj : Hid (o.length = j):=Lib.hid (by have:=ho2.len;simpa using this)
      have ⟨hy1,hy2⟩:=ho2.cellR (k:=j) (x:=(y1,y2)) (by have:=Hj.out;subst this;simp)
      simp only at hy1 hy2
      have hne : g ≠ g2:=HD.out _ _ rfl rfl
      obtain ⟨hb0,hb1,hb2⟩ : 0≤y1∧y1≤y2∧y2≤1114111:=HBD.out (y1,y2) (by rw [← HO.out];simp)
      have hw1 : IntKind.i64.wrap (j : Int) = j:=IntWalk.i64_in _ (by omega)
      have hw2 : IntKind.i32.wrap (y2+1) = y2+1:=IntWalk.i32_in _ (by omega)
      by_cases hle : x1≤y2+1
      ·have hd1 : decide (x1≤y2+1) = true:=decide_eq_true hle
       go_wp2_with fail
       go_quiet (fail)
       have hf:=ho2.frozen (j*2+1)
       by_cases hgt : y2 < x2
       ·have hd2 : decide (y2 < x2) = true:=decide_eq_true hgt
        go_wp2_with fail
        go_quiet (fail)
        go_wp2
        go_roundw
        case rel=>exact ⟨k2+1,_,_,c2,o++[(y1,x2)],by omega,by omega,rfl,by go_num,(ho1.drewN _).setCell (fun a ha=>by cases ha;exact hne) _,(ho2.drewN _).storedHi Hj.out x2,
         Lib.hid (by rw [HS.out,← HO.out,mstep_snoc,if_pos hle,show max y2 x2 = x2 by omega]),HD,(below_drewN hb _).setCell hgB2 _⟩
        case measure=>simp [intOf];omega
       ·have hd2 : decide (y2 < x2) = false:=decide_eq_false hgt
        have hge : x2≤y2:=by omega
        clear hgt
        go_wp2_with fail
        go_quiet (fail)
        go_wp2
        go_roundw
        case rel=>exact ⟨k2+1,_,_,c2,o++[(y1,y2)],by omega,by omega,rfl,by go_num,ho1.drewN _,ho2.drewN _,
         Lib.hid (by rw [HS.out,← HO.out,mstep_snoc,if_pos hle,show max y2 x2 = y2 by omega]),HD,below_drewN hb _⟩
        case measure=>simp [intOf];omega
      ·have hd1 : decide (x1≤y2+1) = false:=decide_eq_false hle
       have hgt : y2+1 < x1:=by omega
       clear hle
       go_wp2_with fail
       go_quiet (fail)
       go_wp2_with (at_builtin;go_must (refine wpList_app rfl (.tmp 82) (.tmp 87) _ rfl w.heap.size 248 i0 _ 2 8 Tryz.underlying218 hi0 hz0 hz1 hz2 rfl (by omega) (some ⟨g2,0,none⟩) (j+1) c2 ((o++[(y1,y2)]).map encR) rfl ((ho2.drewN _).alloc _) _ 1 1 [encR (x1,x2)] rfl rfl (Rd.newAt (by simp) rfl) (encR_ok [(x1,x2)]) (by unfold maxLen;omega) (by omega) (by simp;omega) ?_);intro A3 c3 w3 ho3 hg3 hA3)
       have hd3 : Hid (∀ a a2,some (⟨g,0,none⟩ : Addr) = some a→A3 = some a2→a.block ≠ a2.block):=Lib.hid (fun a a2 ha ha2=>by
        cases ha
        rcases hA3 with h | h
        ·exact HD.out _ a2 rfl (by rw [← h];exact ha2)
        ·rw [h] at ha2;cases ha2;simp;omega)
       have ho1':=((ho1.drewN nq).alloc (.cells #[.int .i32 x1,.int .i32 x2] 248)).grown hg3 (fun a ha=>by cases ha;intro e;simp at e;exact hne e)
       have hb3:=below_app ((below_drewN hb nq).alloc hbs (.cells #[.int .i32 x1,.int .i32 x2] 248)) hg3 (by simp;omega) (fun a ha=>(ho2.lt a ha).1)
       clear hg3
       have Ho3 : Own w3 w.heap.size 248 2 A3 (j+1+1) c3 ((o++[(y1,y2)]++[(x1,x2)]).map encR):=by rw [List.map_append];exact ho3
       clear ho3
       go_roundw
       case rel=>exact ⟨k2+1,A3,j+1+1,c3,o++[(y1,y2)]++[(x1,x2)],by omega,by omega,rfl,by go_num,ho1',Ho3,Lib.hid (by rw [HS.out,← HO.out,mstep_snoc,if_neg (by simp only;omega)]),hd3,hb3⟩
       case measure=>simp [intOf];omega
    ·go_wp2
     go_ret
     exact ⟨_,_,_,rfl,by have:=mergeR_eq HP'.out HR.out;rw [mergeR,← List.take_of_length_le (l:=s) (i:=k2) (by have:=ho1.len;simp at this;omega),← HO.out] at this;rw [← this];exact ho2,hb⟩
end
end Go.Proofs.YtglmcknlnoknoaaGreatDoor
