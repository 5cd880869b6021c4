/-
 Several texts in one,in their build order: PrH,Vh,Tr,PrI,PrM,Wn.
-/
import Derived.Deep.RegionHeld3
import Derived.Test.YtglmcknlnoknoaaGreatDoorVPrF
import Derived.Test.YtglmcknlnoknoaaGreatDoorV5a
import Derived.Test.YtglmcknlnoknoaaGreatDoorVVg
import Derived.Test.YtglmcknlnoknoaaGreatDoorV0b
/- -/
namespace Go.Proofs.YtglmcknlnoknoaaGreatDoor
set_option maxRecDepth 100000
set_option maxHeartbeats 40000000
section
open Go.RowKit
def partsOf (w : World) (p : Nat) : Nat:=(intOf ((w.cell? ⟨p,4,none⟩).getD undef)).toNat
theorem RS.partsOf {w : World} {p : Nat} {s : ByteArray} {A : Option Addr} {nn cn : Nat} {names : List (List UInt8)} {a d k : Nat} (h : RS w p s A nn cn names a d k) : partsOf w p = k:=by unfold YtglmcknlnoknoaaGreatDoor.partsOf;rw [h.c4];simp [intOf]
theorem infoPatH : (Tryz.prog.info? 207).map (fun i=>(i.zero,i.size,i.bytes)) = some (some (.agg #[.int .i64 0,.slice none 0 0,.slice none 0 0]),3,56):=by kernel_rfl
theorem branchP_cases2 {ns : List (List UInt8)} {f d k k' : Nat} {acc : List Pat} {pat : Pat} {l rest : List UInt8} (h : branchP ns f d l k acc = some (pat,rest,k')) :
  ∃ c : UInt8,headN (skipB l) = c.toNat∧((pBegins c = false∧pat = seqOf acc∧rest = skipB l∧k' = k) ∨
   (pBegins c = true∧∃ r f' p l1 k1 q l2 k2,skipB l = c :: r∧f = f'+1∧atomP ns f' d c r k = some (p,l1,k1)∧opsGo f' p l1 k1 = some (q,l2,k2)∧branchP ns f' d l2 k2 (acc++[q]) = some (pat,rest,k'))):=by
 rcases branchP_cases h with ⟨hs,h1,h2,h3⟩ | ⟨c,r,hs,⟨hb,h1,h2,h3⟩ | ⟨hb,f',p,l1,k1,q,l2,k2,h1,h2,h3,h4⟩⟩
 ·exact ⟨0,by rw [hs];rfl,.inl ⟨by decide,h1,by rw [hs,h2],h3⟩⟩
 ·exact ⟨c,by rw [hs];rfl,.inl ⟨hb,h1,by rw [hs,h2],h3⟩⟩
 ·exact ⟨c,by rw [hs];rfl,.inr ⟨hb,r,f',p,l1,k1,q,l2,k2,hs,h1,h2,h3,h4⟩⟩
theorem begins_nb {c : UInt8} (h : pBegins c = true) : pBlank c = false:=by
 cases hb : pBlank c with
 | false=>rfl
 | true =>
  exfalso
  unfold pBlank at hb
  rw [Bool.or_eq_true,decide_eq_true_iff,decide_eq_true_iff] at hb
  unfold pBegins pLetter at h
  simp only [Bool.or_eq_true,Bool.and_eq_true,decide_eq_true_iff] at h
  omega
theorem seqOf_many {l : List Pat} (h : 2≤l.length) : seqOf l = .node 2 [] l:=by
 match l,h with
 | [],h=>simp at h
 | [_],h=>simp at h
 | _ :: _ :: _,_=>rfl
theorem ops_cases2 {f k k2 : Nat} {p q : Pat} {l l2 : List UInt8} (h : opsGo f p l k = some (q,l2,k2)) :
  ∃ c : UInt8,headN (skipB l) = c.toNat∧((pOper c = 0∧q = p∧l2 = skipB l∧k2 = k)∨(pOper c ≠ 0∧k < 512∧∃ r f',skipB l = c :: r∧opsGo f' (.node (pOper c) [] [p]) r (k+1) = some (q,l2,k2))):=by
 rcases opsGo_cases h with ⟨hs,h1,h2,h3⟩ | ⟨c,r,hs,⟨h0,h1,h2,h3⟩ | ⟨h0,hk,f',h1⟩⟩
 ·exact ⟨0,by rw [hs];rfl,.inl ⟨by decide,h1,by rw [hs,h2],h3⟩⟩
 ·exact ⟨c,by rw [hs];rfl,.inl ⟨h0,h1,by rw [hs,h2],h3⟩⟩
 ·exact ⟨c,by rw [hs];rfl,.inr ⟨h0,hk,r,f',hs,h1⟩⟩
def OffX (B : Nat) (A : Option Addr) (b : Nat) : Prop:=B≤b∧∀ a,A = some a→b ≠ a.block
theorem res_branch (w : World) (b : Nat) (v : Pv) (tmps : Array Value) (ht : tmps.getD 2 undef = .pointer (some ⟨b,0,none⟩)) (hc : PCell w b v) : (results Tryz.f282 tmps).run Tryz.prog w = .ok (valPt v) w:=by
 have ht' : tmps[2]?.getD undef = .pointer (some ⟨b,0,none⟩):=by simpa [Array.getD_eq_getD_getElem?] using ht
 obtain ⟨h0,h1,h2⟩:=hc
 simp [results,Tryz.results282,go_sem,ht',h0,h1,h2,valPt]
theorem jbranch_any (p : Nat) (s : ByteArray) (A : Option Addr) (nn cn : Nat) (names : List (List UInt8)) (a d k k' f : Nat) (rest : List UInt8) (pat : Pat) (w : World)
  (HAt : Hid (∀ (f' a k k' : Nat) (c : UInt8) (r : List UInt8) (pat : Pat) (rest : List UInt8) (W : World),f' < f→RS W p s A nn cn names a d k→a≤s.size→skipB (s.data.toList.drop a) = c :: r→atomP names f' d c r k = some (pat,rest,k')→Calls Tryz.prog 322 #[.pointer (some ⟨p,0,none⟩)] W (RdPost W p s A nn cn names d pat rest k')))
  (h : RS w p s A nn cn names a d k) (ha : a≤s.size) (hs : s.size≤1000000) (hk : k≤512)
  (hP : branchP names f d (s.data.toList.drop a) k [] = some (pat,rest,k')) :
  Calls Tryz.prog 282 #[.pointer (some ⟨p,0,none⟩)] w (RdPost w p s A nn cn names d pat rest k'):=by
 have hpw:=h.lt
 have HAw:=Lib.hid (fun x (hx : A = some x)=>(h.off x hx).2)
 have hw0:=h.below ((Below.refl w.heap.size w).alloc (Nat.le_refl _) (.cells #[.int .i64 0,.slice none 0 0,.slice none 0 0] 207))
 have hB0 : Blk (w.alloc (.cells #[.int .i64 0,.slice none 0 0,.slice none 0 0] 207)) w.heap.size 207 #[.int .i64 0,.slice none 0 0,.slice none 0 0]:=Blk.new w _ _
 have HS:=Lib.hid (fun x kk W (h : RS W p s A nn cn names x d kk) (hx : x≤s.size)=>jsees_any p s A nn cn names x d kk W h hx hs)
 have HP:=Lib.hid hP
 clear hP h
 go_enter Tryz.func282,Tryz.ntmps282
 go_wp2_with fail
 go_loopw [3,4,5] (fun v3 _ _ wr=>∃ (x kk f0 : Nat) (acc0 : List Pat) (A0 : Option Addr) (n0 c0 : Nat) (vs : List Pv),v3 = .slice A0 n0 c0∧f0≤f∧n0≤kk∧kk≤512∧RS wr p s A nn cn names x d kk∧Hid (branchP names f0 d (s.data.toList.drop x) kk acc0 = some (pat,rest,k'))∧x≤s.size∧w.grownBy wr (some p)∧Blk wr w.heap.size 207 #[.int .i64 0,.slice none 0 0,.slice none 0 0]∧Own wr (w.heap.size+1) 207 3 A0 n0 c0 (vs.map encPt)∧PatsX wr (OffX (w.heap.size+1) A0) acc0 vs) (fun _ _ _ wr=>512 - partsOf wr p)
 case atStart=>exact ⟨a,k,f,[],none,0,0,[],rfl,Nat.le_refl _,Nat.zero_le _,hk,hw0,HP,ha,only_alloc (only_refl w _) _,hB0,Own.nil_ _ _ _ _,by simp only [PatsX]⟩
 case round =>
  clear hw0 HP hB0
  obtain ⟨x,kk,f0,acc0,A0,n0,c0,vs,rfl,hf0,hn0,hkk,hr,HG,hx,hg,hB,ho,hps⟩:=hrel
  have Hat:=Lib.hid hr.partsOf
  have c5:=hr.c5
  obtain ⟨c,hc,hcs⟩:=branchP_cases2 HG.out
  have Hcs:=Lib.hid hcs
  have h0:=HS.out x kk _ hr hx
  rw [hc] at h0
  have HS1:=Lib.hid h0
  clear h0 hc hcs HG
  go_wp2_with fail
  refine HS1.out.mono ?_
  rintro e w5 ⟨rfl,x1,hr5,hd5,hx1,hg5⟩
  have HBg:=Lib.hid (jbegins_b c w5)
  have hB5:=hB.grown hg5 (fun e=>by injection e with e;omega)
  have ho5:=ho.grown hg5 (fun a ha e=>by have:=(ho.lt a ha).1;injection e with e;omega)
  have hps5:=hps.keep (KeepX.grown hg5 (fun r hr h=>by injection hr with hr;subst hr;have:=h.1;omega))
  have hgg:=only_trans hg hg5
  have Hd5:=Lib.hid hd5
  clear hr hB ho hps hg hg5 c5 HS1 hd5
  rcases Hcs.out with ⟨hbg,hpe,hre,hke⟩ | ⟨hbg,r,f',p1,l1,k1,q,l2,k2,hsk,hfe,hat,hop,hbr⟩
  ·rw [hbg] at HBg
   clear Hcs
   go_wp2_with fail
   refine HBg.out.mono ?_
   rintro e w6 ⟨rfl,rfl⟩
   have hvl : vs.length = n0:=by have:=ho5.len;simpa using this
   have hal:=hps5.len
   have z0:=hB5.cell 0
   have z1:=hB5.cell 1
   have z2:=hB5.cell 2
   simp only [zG,zI,zH] at z0 z1 z2
   have g0:=hB5.frozen 0
   have g1:=hB5.frozen 1
   have g2:=hB5.frozen 2
   by_cases h0n : n0 = 0
   ·subst h0n
    have hac : acc0 = []:=List.eq_nil_of_length_eq_zero (by omega)
    subst hac
    have HQ:=Lib.hid (pt_end (B:=w.heap.size+1) (pat:=.node 0 [] []) (0,(none,0,0),(none,0,0)) hB5 hr5 hpw HAw.out hgg (by omega) (by simp only [PatX];exact ⟨trivial,SlX.nil_ _ _ _,[],SlX.nil_ _ _ _,by simp only [PatsX]⟩))
    go_wp2
    obtain ⟨q1,q2,q3,q4⟩:=HQ.out
    refine bodyPost_ret (res_branch _ w.heap.size (0,(none,0,0),(none,0,0)) _ rfl (PCell.of_blk q1)) rfl ?_
    rw [hpe,hke]
    exact ⟨_,_,rfl,q2,by rw [Hd5.out,hre],hx1,q3,q4⟩
   ·have t0 : ((n0 : Int) == 0) = false:=by rw [beq_eq_false_iff_ne];omega
    by_cases h1n : n0 = 1
    ·subst h1n
     obtain ⟨v,rfl⟩ : ∃ v,vs = [v]:=List.length_eq_one_iff.1 hvl
     obtain ⟨p0,rfl⟩ : ∃ v,acc0 = [v]:=List.length_eq_one_iff.1 (by omega)
     obtain ⟨v',hv',hpv⟩:=hps5.at_ (k:=0) rfl
     injection hv' with hv'
     subst hv'
     obtain ⟨b0,off0,eA,e0,e1,e2⟩:=(SlX.own ho5 (by decide) (X:=fun b=>w.heap.size+1≤b) (fun a ha=>(ho5.lt a ha).1)).atPt (k:=0) rfl
     simp only at eA
     subst eA
     have HQ:=Lib.hid (pt_end (B:=w.heap.size+1) v hB5 hr5 hpw HAw.out hgg (by omega) (hpv.keep (KeepX.same (fun b h _=>h.1))))
     obtain ⟨v0,⟨A1,n1,c1'⟩,⟨A2,n2,c2'⟩⟩:=v
     simp only [Nat.zero_mul,Nat.add_zero] at e0 e1 e2
     go_wp2
     obtain ⟨q1,q2,q3,q4⟩:=HQ.out
     refine bodyPost_ret (res_branch _ w.heap.size (v0,(A1,n1,c1'),(A2,n2,c2')) _ rfl (PCell.of_blk q1)) rfl ?_
     rw [hpe,hke]
     exact ⟨_,_,rfl,q2,by rw [Hd5.out,hre],hx1,q3,q4⟩
    ·have t1 : ((n0 : Int) == 1) = false:=by rw [beq_eq_false_iff_ne];omega
     have HQ:=Lib.hid (pt_end (B:=w.heap.size+1) (pat:=.node 2 [] acc0) (2,(none,0,0),(A0,n0,c0)) hB5 hr5 hpw HAw.out hgg (by omega) (by simp only [PatX];exact ⟨trivial,SlX.nil_ _ _ _,vs,SlX.own ho5 (by decide) (fun a ha=>(ho5.lt a ha).1),hps5.keep (KeepX.same (fun b h _=>h.1))⟩))
     go_wp2
     obtain ⟨q1,q2,q3,q4⟩:=HQ.out
     refine bodyPost_ret (res_branch _ w.heap.size (2,(none,0,0),(A0,n0,c0)) _ rfl (PCell.of_blk q1)) rfl ?_
     rw [hpe,hke,seqOf_many (by omega)]
     exact ⟨_,_,rfl,q2,by rw [Hd5.out,hre],hx1,q3,q4⟩
  ·rw [hbg] at HBg
   clear Hcs
   go_wp2_with fail
   refine HBg.out.mono ?_
   rintro e w6 ⟨rfl,rfl⟩
   have HA1:=Lib.hid (HAt.out f' x1 kk k1 c r p1 l1 w5 (by omega) hr5 hx1 (by rw [Hd5.out,hsk];exact skip_stop (begins_nb hbg)) hat)
   go_wp2_with fail
   refine HA1.out.mono ?_
   rintro e w7 hq
   obtain ⟨v1,x2,rfl,hr7,hd7,hx7,hg7,hp7⟩:=hq
   obtain ⟨v0,⟨A1,n1,c1'⟩,⟨A2,n2,c2'⟩⟩:=v1
   obtain ⟨hk5,hku⟩:=(parts_up names f').2.2.2 hat
   have hal : Below w7.heap.size w7 (w7.alloc (.cells #[.int .i64 (v0 : Int),.slice A1 n1 c1',.slice A2 n2 c2'] 207)):=(Below.refl w7.heap.size w7).alloc (Nat.le_refl _) _
   have hN8 : Blk (w7.alloc (.cells #[.int .i64 (v0 : Int),.slice A1 n1 c1',.slice A2 n2 c2'] 207)) w7.heap.size 207 #[.int .i64 (v0 : Int),.slice A1 n1 c1',.slice A2 n2 c2']:=Blk.new _ _ _
   have hr8:=hr7.below hal
   have hB8:=(hB5.grown hg7 (fun e=>by injection e with e;omega)).below hal
   have ho8:=(ho5.grown hg7 (fun a ha e=>by have:=(ho5.lt a ha).1;injection e with e;omega)).below hal
   have hg8:=only_below (only_trans hgg hg7) hal
   have hz5:=hB5.lt
   have hz7:=hg7.size
   have hA0 : ∀ a,A0 = some a→a.block < w5.heap.size:=fun a ha=>(ho5.lt a ha).2
   have hps8 : PatsX (w7.alloc (.cells #[.int .i64 (v0 : Int),.slice A1 n1 c1',.slice A2 n2 c2'] 207)) (fun b=>OffX (w.heap.size+1) A0 b∧b ≠ w7.heap.size) acc0 vs:=((hps5.keep (KeepX.grown hg7 (fun r hr h=>by injection hr with hr;subst hr;have:=h.1;omega))).keep (KeepX.same (fun b h hb=>⟨h,by omega⟩))).below hal
   have hp8 : PatX (w7.alloc (.cells #[.int .i64 (v0 : Int),.slice A1 n1 c1',.slice A2 n2 c2'] 207)) (fun b=>OffX (w.heap.size+1) A0 b∧b ≠ w7.heap.size) p1 (v0,(A1,n1,c1'),(A2,n2,c2')):=PatX.below (hp7.keep (KeepX.same (fun b h hb=>⟨⟨by omega,fun a ha e=>by have:=hA0 a ha;omega⟩,by omega⟩))) hal
   have HO2:=Lib.hid hop
   have HBr:=Lib.hid hbr
   clear HA1 hop hbr hat hp7 hr7 hsk HBg hbg
   simp only [valPt]
   go_wp2_with fail
   generalize w7.alloc (.cells #[.int .i64 (v0 : Int),.slice A1 n1 c1',.slice A2 n2 c2'] 207) = V at hr8 hN8 hB8 ho8 hps8 hg8 hp8 ⊢
   clear hal hps5 ho5 hB5 hr5 hg7 hgg
   generalize w7.heap.size = g at hN8 hp8 hps8 hz7 ⊢
   go_loopw [5] (fun _ wr=>∃ (y k9 f9 : Nat) (p9 : Pat) (v9 : Pv),RS wr p s A nn cn names y d k9∧Hid (opsGo f9 p9 (s.data.toList.drop y) k9 = some (q,l2,k2))∧y≤s.size∧kk < k9∧k9≤512∧w.grownBy wr (some p)∧Blk wr w.heap.size 207 #[.int .i64 0,.slice none 0 0,.slice none 0 0]∧Own wr (w.heap.size+1) 207 3 A0 n0 c0 (vs.map encPt)∧PatsX wr (fun b=>OffX (w.heap.size+1) A0 b∧b ≠ g) acc0 vs∧Blk wr g 207 #[.int .i64 (v9.1 : Int),.slice v9.2.1.1 v9.2.1.2.1 v9.2.1.2.2,.slice v9.2.2.1 v9.2.2.2.1 v9.2.2.2.2]∧PatX wr (fun b=>OffX (w.heap.size+1) A0 b∧b ≠ g) p9 v9) (fun _ wr=>512 - partsOf wr p)
   case atStart=>exact ⟨x2,k1,f',p1,(v0,(A1,n1,c1'),(A2,n2,c2')),hr8,by rw [hd7];exact HO2,hx7,hku.1,hku.2 (by omega),hg8,hB8,ho8,hps8,hN8,hp8⟩
   case round =>
    clear hr8 hN8 hB8 ho8 hps8 hg8 hp8 hd7 HO2
    obtain ⟨y,k9,f9,p9,v9,hr,HO,hy,hk9,hk9',hg,hB,ho,hps,hN,hp9⟩:=hrel
    have Hat9:=Lib.hid hr.partsOf
    obtain ⟨co,hco,hcs2⟩:=ops_cases2 HO.out
    have Hcs2:=Lib.hid hcs2
    have c5:=hr.c5
    have h0:=HS.out y k9 _ hr hy
    rw [hco] at h0
    have HS2:=Lib.hid h0
    clear h0 hco hcs2 HO
    go_wp2_with fail
    refine HS2.out.mono ?_
    rintro e w9 ⟨rfl,y1,hr9,hd9,hy1,hg9⟩
    have HOp:=Lib.hid (joper_b co w9)
    have hgp : g ≠ p:=by omega
    have hB9:=hB.grown hg9 (fun e=>by injection e with e;omega)
    have ho9:=ho.grown hg9 (fun a ha e=>by have:=(ho.lt a ha).1;injection e with e;omega)
    have hps9:=hps.keep (KeepX.grown hg9 (fun r hr h=>by injection hr with hr;subst hr;have:=h.1.1;omega))
    have hN9:=hN.grown hg9 (fun e=>by injection e with e;omega)
    have hpp:=hp9.keep (KeepX.grown hg9 (fun r hr h=>by injection hr with hr;subst hr;have:=h.1.1;omega))
    have hgg9:=only_trans hg hg9
    have Hd9:=Lib.hid hd9
    clear hr hB ho hps hN hp9 hg hg9 hd9 HS2 c5
    rcases Hcs2.out with ⟨hz,hqe,hle,hke⟩ | ⟨hz,hk5,r9,f8,hsk9,hop9⟩
    ·rw [hz] at HOp
     go_wp2_with fail
     refine HOp.out.mono ?_
     rintro e w6 ⟨rfl,rfl⟩
     obtain ⟨i0,hi0,hz0,hz1,hz2⟩:=info_parts infoPatH
     have e0:=hN9.cell 0
     have e1:=hN9.cell 1
     have e2:=hN9.cell 2
     simp only [zG,zI,zH] at e0 e1 e2
     have T1:=ho9.alloc (.cells #[.int .i64 (v9.1 : Int),.slice v9.2.1.1 v9.2.1.2.1 v9.2.1.2.2,.slice v9.2.2.1 v9.2.2.2.1 v9.2.2.2.2] 207)
     have T3 : w.heap.size+1≤(w9.alloc (.cells #[.int .i64 (v9.1 : Int),.slice v9.2.1.1 v9.2.1.2.1 v9.2.1.2.2,.slice v9.2.2.1 v9.2.2.2.1 v9.2.2.2.2] 207)).heap.size:=by have:=hB9.lt;simp;omega
     have T2 : (n0+1)*56≤140737488355328:=by omega
     have T4 : ∀ y ∈ [encPt v9],y.length = 3∧∀ u ∈ y,u.oneCell' = true:=fun y hy=>by
      simp only [List.mem_singleton] at hy
      subst hy
      refine ⟨rfl,fun u hu=>?_⟩
      simp only [encPt,List.mem_cons,List.not_mem_nil,or_false] at hu
      rcases hu with rfl | rfl | rfl <;> rfl
     have T5 : Rd (w9.alloc (.cells #[.int .i64 (v9.1 : Int),.slice v9.2.1.1 v9.2.1.2.1 v9.2.1.2.2,.slice v9.2.2.1 v9.2.2.2.1 v9.2.2.2.2] 207)) 3 (some ⟨w9.heap.size,0,none⟩) [encPt v9]:=Rd.newAt (by simp) rfl
     have T6 : n0+1≤maxLen:=by unfold maxLen;omega
     go_wp2_with (at_builtin;refine wpList_app rfl (.tmp 45) (.tmp 47) _ rfl (w.heap.size+1) 207 i0 _ 3 56 Tryz.underlying205 hi0 hz0 hz1 hz2 rfl (by omega) A0 n0 c0 (vs.map encPt) rfl T1 _ 1 1 [encPt v9] rfl rfl T5 T4 T6 T2 T3 ?_;intro A3 c3 w10 ho10 hg10 hA10)
     have hb10 : Below w.heap.size w9 w10:=below_app ((Below.refl w.heap.size w9).alloc (by have:=hB9.lt;omega) _) hg10 (by have:=hB9.lt;simp;omega) (fun a ha=>by have:=(ho9.lt a ha).1;omega)
     have hr10:=hr9.belowB hb10 hpw HAw.out
     have HG10 : Hid (branchP names f' d (s.data.toList.drop y1) k9 (acc0++[p9]) = some (pat,rest,k')):=Lib.hid (by
      have h:=HBr.out
      rw [hqe,hle,hke] at h
      rw [Hd9.out];exact h)
     have hg10' : w.grownBy w10 (some p):=⟨hb10.os.trans hgg9.os,hb10.tape.trans hgg9.tape,hb10.output.trans hgg9.output,Nat.le_trans hgg9.size hb10.size,fun i hi hne=>(hb10.block i hi).trans (hgg9.block i hi hne)⟩
     have hNE : some w.heap.size ≠ A0.map (·.block):=fun e=>by
      cases hA1 : A0 with
      | none=>rw [hA1] at e;cases e
      | some a=>rw [hA1] at e;injection e with e;have e2 : w.heap.size = a.block:=e;have:=(ho9.lt a hA1).1;omega
     have hB10:=(hB9.alloc (.cells #[.int .i64 (v9.1 : Int),.slice v9.2.1.1 v9.2.1.2.1 v9.2.1.2.2,.slice v9.2.2.1 v9.2.2.2.1 v9.2.2.2.2] 207)).grown hg10 hNE
     have hkx : KeepX (OffX (w.heap.size+1) A0) (OffX (w.heap.size+1) A3) w9 w10:=(KeepX.below ((Below.refl w9.heap.size w9).alloc (Nat.le_refl _) (.cells #[.int .i64 (v9.1 : Int),.slice v9.2.1.1 v9.2.1.2.1 v9.2.1.2.2,.slice v9.2.2.1 v9.2.2.2.1 v9.2.2.2.2] 207))).trans ⟨hg10.size,fun b hb hl=>hg10.block b hl (fun e=>by
       cases hA1 : A0 with
       | none=>rw [hA1] at e;cases e
       | some a=>rw [hA1] at e;injection e with e;exact hb.2 a hA1 e),fun b hb hl=>⟨hb.1,fun a ha e=>by
       rcases hA10 with h1 | h1
       ·exact hb.2 a (by rw [← h1];exact ha) e
       ·rw [h1] at ha
        injection ha with ha
        subst ha
        simp at hl e
        omega⟩⟩
     have hps10:=PatsX.snoc (hpp.keep (KeepX.trans (KeepX.same (fun b hb _=>hb.1)) hkx)) (hps9.keep (KeepX.trans (KeepX.same (fun b hb _=>hb.1)) hkx))
     refine ⟨⟨y1,k9,f',acc0++[p9],A3,n0+1,c3,vs++[v9],rfl,by omega,by omega,hk9',hr10,HG10,hy1,hg10',hB10,by rw [List.map_append];exact ho10,hps10⟩,?_⟩
     rw [hr10.partsOf,Hat.out];omega
    ·have hys : y1 < s.size:=Nat.lt_of_not_le fun hle=>by
      have h1:=Hd9.out
      rw [drop_end s (by omega),hsk9] at h1
      cases h1
     have hdr9 : s.data.toList.drop (y1+1) = r9:=by
      obtain ⟨b',h1,_⟩:=byte_at s hys
      have h2:=Hd9.out
      rw [h1,hsk9] at h2
      injection h2
     have HOg : Hid (opsGo f8 (.node (pOper co) [] [p9]) (s.data.toList.drop (y1+1)) (k9+1) = some (q,l2,k2)):=Lib.hid (by rw [hdr9];exact hop9)
     have HC:=Lib.hid (jcounts_any p s A nn cn names y1 d k9 (y1 : Int) w9 hr9 hk5)
     have t0 : ((pOper co : Int) == 0) = false:=by rw [beq_eq_false_iff_ne];omega
     have c1:=hr9.c1
     have hz9:=hN9.lt
     clear hop9 hsk9 hdr9 Hd9
     go_wp2_with fail
     refine HOp.out.mono ?_
     rintro e w6 ⟨rfl,rfl⟩
     go_wp2_with fail
     refine HC.out.mono ?_
     rintro e w10 ⟨rfl,hr10,hg10⟩
     have hB10:=hB9.grown hg10 (fun e=>by injection e with e;omega)
     have ho10:=ho9.grown hg10 (fun a ha e=>by have:=(ho9.lt a ha).1;injection e with e;omega)
     have hps10:=hps9.keep (KeepX.grown hg10 (fun r hr h=>by injection hr with hr;subst hr;have:=h.1.1;omega))
     have hN10:=hN9.grown hg10 (fun e=>by injection e with e;omega)
     have hpp10:=hpp.keep (KeepX.grown hg10 (fun r hr h=>by injection hr with hr;subst hr;have:=h.1.1;omega))
     have hgg10:=only_trans hgg9 hg10
     clear hr9 hB9 ho9 hps9 hN9 hpp hgg9 hg10 c1 HC hz9
     have c1:=hr10.c1
     have f1:=hr10.f 1
     have hr11:=hr10.setAt (y1+1)
     have ez : ((y1+1 : Nat) : Int) = (y1 : Int)+1:=by omega
     rw [ez] at hr11
     have hB11:=hB10.far (p:=⟨p,1,none⟩) (by simp;omega) (.int .i64 ((y1 : Int)+1))
     have hN11:=hN10.far (p:=⟨p,1,none⟩) (by simp;omega) (.int .i64 ((y1 : Int)+1))
     have ho11:=ho10.setCell (p:=⟨p,1,none⟩) (fun a ha e=>by have:=(ho10.lt a ha).1;simp only at e;omega) (.int .i64 ((y1 : Int)+1))
     have hk11 : w10.grownBy (w10.setCell ⟨p,1,none⟩ (.int .i64 ((y1 : Int)+1))) (some p):=only_setCell (only_refl _ _) (p:=⟨p,1,none⟩) (.inl rfl) _
     have hps11:=hps10.keep (KeepX.grown hk11 (fun r hr h=>by injection hr with hr;subst hr;have:=h.1.1;omega))
     have hpp11:=hpp10.keep (KeepX.grown hk11 (fun r hr h=>by injection hr with hr;subst hr;have:=h.1.1;omega))
     have hg11:=only_trans hgg10 hk11
     clear hr10 hB10 ho10 hps10 hN10 hpp10 hgg10 hk11 ez
     go_upto_region 9 with fail
     clear c1 f1
     generalize w10.setCell ⟨p,1,none⟩ (.int .i64 ((y1 : Int)+1)) = V at hr11 hB11 hN11 ho11 hps11 hpp11 hg11 ⊢
     have e0:=hN11.cell 0
     have e1:=hN11.cell 1
     have e2:=hN11.cell 2
     simp only [zG,zI,zH] at e0 e1 e2
     have g0:=hN11.frozen 0
     have g1:=hN11.frozen 1
     have g2:=hN11.frozen 2
     have hVz:=hN11.lt
     have hgw : w.heap.size < g:=by omega
     have hgA : ∀ a,A0 = some a→a.block ≠ g:=fun a ha e=>by have:=hA0 a ha;omega
     have hAV : ∀ a,A0 = some a→a.block < V.heap.size:=fun a ha=>(ho11.lt a ha).2
     have hbU : Below w.heap.size V (((V.setCell ⟨g,0,none⟩ (.int .i64 (pOper co : Nat))).setCell ⟨g,1,none⟩ (.slice none 0 0)).setCell ⟨g,2,none⟩ (.slice (some ⟨V.heap.size,0,none⟩) 1 1)):=(((Below.refl _ _).setCell (p:=⟨g,0,none⟩) (by simp;omega) _).setCell (p:=⟨g,1,none⟩) (by simp;omega) _).setCell (p:=⟨g,2,none⟩) (by simp;omega) _
     have hgU : V.grownBy (((V.setCell ⟨g,0,none⟩ (.int .i64 (pOper co : Nat))).setCell ⟨g,1,none⟩ (.slice none 0 0)).setCell ⟨g,2,none⟩ (.slice (some ⟨V.heap.size,0,none⟩) 1 1)) (some g):=only_setCell (only_setCell (only_setCell (only_refl _ _) (p:=⟨g,0,none⟩) (.inl rfl) _) (p:=⟨g,1,none⟩) (.inl rfl) _) (p:=⟨g,2,none⟩) (.inl rfl) _
     have hN12:=((hN11.set_ 0 (.int .i64 (pOper co : Nat))).set_ 1 (.slice none 0 0)).set_ 2 (.slice (some ⟨V.heap.size,0,none⟩) 1 1)
     simp only [zD,zE,zF] at hN12
     have hr12:=hr11.belowB hbU hpw HAw.out
     have hkU : KeepX (fun b=>OffX (w.heap.size+1) A0 b∧b ≠ g) (fun b=>OffX (w.heap.size+1) A0 b∧b ≠ g) V (((V.setCell ⟨g,0,none⟩ (.int .i64 (pOper co : Nat))).setCell ⟨g,1,none⟩ (.slice none 0 0)).setCell ⟨g,2,none⟩ (.slice (some ⟨V.heap.size,0,none⟩) 1 1)):=KeepX.grown hgU (fun r hr h=>by injection hr with hr;exact h.2 hr.symm)
     have hg12:=only_setCell (only_setCell (only_setCell hg11 (p:=⟨g,0,none⟩) (.inr (by simp;omega)) (.int .i64 (pOper co : Nat))) (p:=⟨g,1,none⟩) (.inr (by simp;omega)) (.slice none 0 0)) (p:=⟨g,2,none⟩) (.inr (by simp;omega)) (.slice (some ⟨V.heap.size,0,none⟩) 1 1)
     have hB12:=((hB11.far (p:=⟨g,0,none⟩) (by simp;omega) (.int .i64 (pOper co : Nat))).far (p:=⟨g,1,none⟩) (by simp;omega) (.slice none 0 0)).far (p:=⟨g,2,none⟩) (by simp;omega) (.slice (some ⟨V.heap.size,0,none⟩) 1 1)
     have ho12:=((ho11.setCell (p:=⟨g,0,none⟩) hgA (.int .i64 (pOper co : Nat))).setCell (p:=⟨g,1,none⟩) hgA (.slice none 0 0)).setCell (p:=⟨g,2,none⟩) hgA (.slice (some ⟨V.heap.size,0,none⟩) 1 1)
     have hps12:=hps11.keep hkU
     have hpp12:=hpp11.keep hkU
     have hUz : (((V.setCell ⟨g,0,none⟩ (.int .i64 (pOper co : Nat))).setCell ⟨g,1,none⟩ (.slice none 0 0)).setCell ⟨g,2,none⟩ (.slice (some ⟨V.heap.size,0,none⟩) 1 1)).heap.size = V.heap.size:=by simp
     have HF:=Lib.hid (And.intro hB12 (And.intro hr12 (And.intro ho12 (And.intro hps12 (And.intro hpp12 (And.intro hg12 (And.intro hN12 hUz)))))))
     clear hB12 hr12 ho12 hps12 hpp12 hg12 hN12 hUz hkU hgU hbU hr11 hB11 hN11 ho11 hps11 hpp11 hg11
     go_wp2
     obtain ⟨hB12,hr12,ho12,hps12,hpp12,hg12,hN12,hUz⟩:=HF.out
     generalize ((V.setCell ⟨g,0,none⟩ (.int .i64 (pOper co : Nat))).setCell ⟨g,1,none⟩ (.slice none 0 0)).setCell ⟨g,2,none⟩ (.slice (some ⟨V.heap.size,0,none⟩) 1 1) = U at hB12 hr12 ho12 hps12 hpp12 hg12 hN12 hUz ⊢
     clear g0 g1 g2 HF
     have hbV : Below U.heap.size U (U.alloc (.cells #[.int .i64 (v9.1 : Int),.slice v9.2.1.1 v9.2.1.2.1 v9.2.1.2.2,.slice v9.2.2.1 v9.2.2.2.1 v9.2.2.2.2] 207)):=(Below.refl U.heap.size U).alloc (Nat.le_refl _) _
     have hr13:=hr12.below hbV
     have hR13 : Rd (U.alloc (.cells #[.int .i64 (v9.1 : Int),.slice v9.2.1.1 v9.2.1.2.1 v9.2.1.2.2,.slice v9.2.2.1 v9.2.2.2.1 v9.2.2.2.2] 207)) 3 (some ⟨V.heap.size,0,none⟩) ([v9].map encPt):=Rd.newAt hUz.symm rfl
     refine ⟨⟨y1+1,k9+1,f8,.node (pOper co) [] [p9],(pOper co,(none,0,0),(some ⟨V.heap.size,0,none⟩,1,1)),hr13,HOg,by omega,by omega,by omega,only_below hg12 hbV,hB12.below hbV,ho12.below hbV,hps12.below hbV,hN12.below hbV,?_⟩,?_⟩
     ·simp only [PatX]
      refine ⟨trivial,SlX.nil_ _ _ _,[v9],⟨hR13,rfl,fun a ha=>?_,Nat.le_refl _⟩,?_⟩
      ·injection ha with ha
       subst ha
       exact ⟨⟨⟨by simp;omega,fun a ha e=>by have:=hAV a ha;simp only at e;omega⟩,by simp;omega⟩,by simp;omega⟩
      ·simp only [PatsX]
       exact ⟨v9,[],rfl,hpp12.below hbV,rfl⟩
     ·rw [hr13.partsOf,Hat9.out];omega
end
section
open Go.RowKit Go.Maps
theorem vrest_any (p base x : Nat) (d : DbP) (w : World) (hd : RfB w base p x d.names d.sets) (ho : d.Ok) (ha : Apart d.sets) (hB : base≤w.heap.size) :
  Calls Tryz.prog 180 #[.pointer (some ⟨p,0,none⟩)] w fun e w'=>e = .returned (.tuple #[])∧RfB w' base p x d.names d.full∧Below base w w':=by
 obtain ⟨An,nn,cn,As,ns,cs,xs,hX⟩:=hd.ex
 obtain ⟨j0,hj0,hy0,hy1,hy2⟩:=info_parts infoR
 have hns1 : 0 < ns:=by
  have h1:=hX.lenS.2;have h2:=ho.len;have h3:=ho.head
  cases hd : d.names with
  | nil=>rw [hd] at h3;cases h3
  | cons a b=>rw [hd] at h2;simp at h2;omega
 obtain ⟨g,HAs,hgB,hgw⟩:=hX.hs.form hns1
 subst HAs
 have hns64 : ns≤64:=by have h1:=hX.lenS.2;have h2:=ho.len;have h3:=ho.few;omega
 obtain ⟨T,HT⟩ : ∃ T,Hid (d.sets.tail = T):=⟨_,rfl⟩
 have hTl : T.length+1 = ns:=by have h1:=hX.lenS.2;have:=HT.out;rw [← this,List.length_tail];omega
 have HTl:=Lib.hid hTl
 have HTS : Hid (lenS T≤1114112):=Lib.hid (by have:=rng_len ho ha;rw [← HT.out];omega)
 have HTN : Hid (∀ (k : Nat) (s : List (Int × Int)),T[k]? = some s→NF s∧d.sets[k+1]? = some s):=Lib.hid (fun k s hk=>by
  have : d.sets[k+1]? = some s:=by rw [← HT.out] at hk;rw [List.getElem?_tail] at hk;exact hk
  exact ⟨ho.nf s (List.mem_of_getElem? this),this⟩)
 have HFS:=Lib.hid (full_set ho)
 have HRest : Hid (d.rest = notR (T.flatten)):=Lib.hid (by unfold DbP.rest;rw [HT.out])
 have c1:=hX.blk.cell 1
 simp at c1
 clear ho ha hTl hd
 go_enter Tryz.func180,Tryz.ntmps180
 go_wp2_with fail
 go_loopw [2,3] (fun a v wr=>∃ (c : Nat) (Aa : Option Addr) (na ca : Nat),a = .slice Aa na ca∧v = .int .i64 (c+1 : Nat)∧c+1≤ns∧Own wr w.heap.size 248 2 Aa na ca (((T.take c).flatten).map encR)∧Below w.heap.size w wr) (fun _ v _=>ns - (intOf v).toNat)
 case atStart=>exact ⟨0,none,0,0,rfl,rfl,by omega,by simp;exact Own.nil_ _ _ _ _,Below.refl _ _⟩
 case round =>
  obtain ⟨c,Aa,na,ca,rfl,rfl,hc,hal,hb⟩:=hrel
  have hszr:=hb.size
  have e1:=cell_keep c1 hb
  have hfl:=Lib.hid (flat_le T c)
  have hnal : na≤1114112:=by have h1:=hal.len;rw [List.length_map] at h1;have:=hfl.out;have:=HTS.out;omega
  by_cases hlt : c+1 < ns
  ·obtain ⟨s,Hs⟩ : ∃ s,Hid (T[c]? = some s):=⟨_,Lib.hid (List.getElem?_eq_getElem (show c < T.length by have:=HTl.out;omega))⟩
   obtain ⟨HNF,Hd⟩:=HTN.out c s Hs.out
   obtain ⟨⟨yA,yn,yc⟩,Hy⟩ : ∃ y,Hid (xs[c+1]? = some y):=⟨_,Lib.hid (List.getElem?_eq_getElem (show c+1 < xs.length by have:=hX.lenS.1;omega))⟩
   have hoy : Own w base 248 2 yA yn yc (s.map encR):=hX.hx.own (c+1) (yA,yn,yc) s Hy.out Hd
   have hly : s.length = yn:=by simpa using hoy.len
   have Hly:=Lib.hid hly
   have hny:=own_nf_len hoy HNF
   have hcell:=cell_keep (hX.hs.cell' rfl Hy.out) hb
   have hoq:=hoy.below hb
   have HFN:=Lib.hid (flat_next Hs.out)
   have hfl2:=Lib.hid (flat_le T (c+1))
   have hbound : na+yn≤1114112:=by
    have h1:=hal.len;rw [List.length_map] at h1
    have h2:=hfl2.out;rw [HFN.out,List.length_append] at h2;have:=HTS.out;omega
   have hI : (c : Int)+1 < ns:=by omega
   clear HNF Hd hly
   go_wp2_with (at_builtin;go_must (refine wpList_app rfl (.tmp 13) (.tmp 20) _ rfl w.heap.size 248 j0 _ 2 8 Tryz.underlying218 hj0 hy0 hy1 hy2 rfl (by omega) Aa na ca (((T.take c).flatten).map encR) rfl hal yA yn yc (s.map encR) rfl (by rw [List.length_map];exact Hly.out) (hoq.rd (by omega)) (encR_ok s) (by unfold maxLen;omega) (by omega) (by omega) ?_);intro A3 c3 w3 ho3 hg3 hA3)
   have Ho3 : Own w3 w.heap.size 248 2 A3 (na+yn) c3 (((T.take (c+1)).flatten).map encR):=by rw [HFN.out,List.map_append];exact ho3
   have hb3:=below_app hb hg3 hszr (fun a ha=>(hal.lt a ha).1)
   clear ho3 hg3
   go_roundw
   case rel=>exact ⟨c+1,A3,na+yn,c3,rfl,by go_num,by omega,Ho3,hb3⟩
   case measure=>simp [intOf];omega
  ·obtain rfl : c+1 = ns:=by omega
   have HFe : Hid ((T.take c).flatten = T.flatten):=Lib.hid (by rw [List.take_of_length_le (by have:=HTl.out;omega)])
   rw [HFe.out] at hal
   have hXr:=hX.below hb
   have HNot:=Lib.hid (sNot_any Aa na ca T.flatten wr.drew ((hal.rd (by omega)).drew) (by have h1:=hal.len;rw [List.length_map] at h1;exact h1) (by omega))
   obtain ⟨y0,hy0'⟩ : ∃ y,xs[0]? = some y:=⟨_,List.getElem?_eq_getElem (show 0 < xs.length by have:=hX.lenS.1;omega)⟩
   have k0:=hXr.hs.cell' rfl hy0'
   have hXd:=hXr.below (w':=wr.drew) ((Below.refl _ _).drew)
   have hBr : base≤wr.heap.size:=by omega
   go_wp2_with fail
   refine wp_region_noPanic ?_
   go_region_law (go_simp;go_at_call 237;refine HNot.out.mono ?_;rintro e wz ⟨A',n',c',rfl,ho',hb'⟩;have kz0:=cell_keep (w:=wr.drew) k0 hb';have kz1:=cell_keep (w:=wr.drew) e1 hb';have kzf:=(hXd.hs.below hb').frozen 0)
   all_goals
    refine NoPanic.normal ?_
    have hDz:=(hXd.below hb').storeSet (k:=0) (y:=(A',n',c')) (l:=d.rest) (by omega) (by rw [HRest.out];exact ho') hBr
    have hbz:=(((hb.mono hB).trans ((Below.refl wr.heap.size wr).drew.mono hBr)).trans (hb'.mono hBr)).trans hDz.2.1
    rw [HFS.out] at hDz
    go_wp2
    first | exact ⟨_,results_none rfl _ _ _,rfl,⟨_,_,_,_,_,_,_,hDz.1⟩,hbz⟩ | exact ⟨_,rfl,results_none rfl _ _ _,rfl,⟨_,_,_,_,_,_,_,hDz.1⟩,hbz⟩ | exact ⟨rfl,_,results_none rfl _ _ _,rfl,⟨_,_,_,_,_,_,_,hDz.1⟩,hbz⟩
def RNewEnd (r : Except (Int × Nat) DbP) (e : Ending) (w' : World) (base : Nat) : Prop :=
 match r with
 | .error x=>e = .returned (.tuple #[.pointer none,.int .i64 x.1,.int .i64 (x.2 : Int)])
 | .ok d=>∃ p x,e = .returned (.tuple #[.pointer (some ⟨p,0,none⟩),.int .i64 0,.int .i64 0])∧RfB w' base p x d.names d.full
theorem RNewEnd.err {r : Except (Int × Nat) DbP} {k : Int} {i : Nat} {w' : World} {base : Nat} (h : r = .error (k,i)) : RNewEnd r (.returned (.tuple #[.pointer none,.int .i64 k,.int .i64 (i : Int)])) w' base:=by rw [h];exact rfl
theorem RNewEnd.fine {r : Except (Int × Nat) DbP} {d : DbP} {p x : Nat} {w' : World} {base : Nat} (h : r = .ok d) (hd : RfB w' base p x d.names d.full) : RNewEnd r (.returned (.tuple #[.pointer (some ⟨p,0,none⟩),.int .i64 0,.int .i64 0])) w' base:=by rw [h];exact ⟨p,x,rfl,hd⟩
theorem step_err {d : DbP} {L : List UInt8} {k : Int} (h : stepL d L = .error k) : 6≤k:=by
 unfold stepL at h
 split at h
 ·cases h
 ·injection h with h;omega
 ·exact addL_err h
theorem rfX_first (w : World) :
  RfX (((w.alloc (.cells #[.string (bytesOf otherL)] 9)).alloc (.cells #[.slice none 0 0] 218)).alloc (.cells #[.slice (some ⟨w.heap.size,0,none⟩) 1 1,.slice (some ⟨w.heap.size+1,0,none⟩) 1 1] 194)) w.heap.size (w.heap.size+2) (w.heap.size+3)
   (some ⟨w.heap.size,0,none⟩) 1 1 (some ⟨w.heap.size+1,0,none⟩) 1 1 [(none,0,0)] [otherL] [[]] ∧
  Below w.heap.size w (((w.alloc (.cells #[.string (bytesOf otherL)] 9)).alloc (.cells #[.slice none 0 0] 218)).alloc (.cells #[.slice (some ⟨w.heap.size,0,none⟩) 1 1,.slice (some ⟨w.heap.size+1,0,none⟩) 1 1] 194)):=by
 have n1 : Own (w.alloc (.cells #[.string (bytesOf otherL)] 9)) w.heap.size 9 1 (some ⟨w.heap.size,0,none⟩) 1 1 ([otherL].map encNm):=own_one (Nat.le_refl _)
 have s2 : Own ((w.alloc (.cells #[.string (bytesOf otherL)] 9)).alloc (.cells #[.slice none 0 0] 218)) w.heap.size 218 1 (some ⟨w.heap.size+1,0,none⟩) 1 1 ([((none : Option Addr),0,0)].map encSl):=by
  have:=own_one (w:=w.alloc (.cells #[.string (bytesOf otherL)] 9)) (t:=218) (u:=.slice none 0 0) (base:=w.heap.size) (by simp)
  rw [show (w.alloc (.cells #[.string (bytesOf otherL)] 9)).heap.size = w.heap.size+1 by simp] at this
  exact this
 refine ⟨⟨?_,by omega,(n1.alloc _).alloc _,s2.alloc _,⟨rfl,?_⟩,by omega,fun a ha=>by injection ha with ha;subst ha;show w.heap.size ≠ w.heap.size+3;omega,fun a ha=>by injection ha with ha;subst ha;show w.heap.size+1 ≠ w.heap.size+3;omega⟩,?_⟩
 ·have:=Blk.new ((w.alloc (.cells #[.string (bytesOf otherL)] 9)).alloc (.cells #[.slice none 0 0] 218)) 194 #[.slice (some ⟨w.heap.size,0,none⟩) 1 1,.slice (some ⟨w.heap.size+1,0,none⟩) 1 1]
  simpa using this
 ·intro k x l hx hl
  match k,hx,hl with
  | 0,hx,hl=>simp at hx hl;subst hx;subst hl;exact Own.nil_ _ _ _ _
  | k+1,hx,hl=>simp at hx
 ·exact (((Below.refl _ _).alloc (Nat.le_refl _) _).alloc (by simp) _).alloc (by simp;omega) _
theorem vNew_any (t : List UInt8) (w : World) (ht : t.length≤maxLen) :
  Calls Tryz.prog 133 #[.string (bytesOf t)] w fun e w'=>RNewEnd (newP t) e w' w.heap.size∧Below w.heap.size w w':=by
 have hsz : (bytesOf t).size = t.length:=bytesOf_size t
 unfold maxLen at ht
 by_cases hl : 65536 < t.length
 ·have HE:=Lib.hid (newP_long hl)
  go_enter Tryz.func133,Tryz.ntmps133
  go_wp2
  go_ret3
  exact ⟨RNewEnd.err HE.out,Below.refl _ _⟩
 ·have HG:=Lib.hid (newP_go hl)
  obtain ⟨hX,hB0⟩:=rfX_first w
  have hw3 : w.heap.size+3 = (((w.alloc (.cells #[.string (bytesOf otherL)] 9)).alloc (.cells #[.slice none 0 0] 218)).alloc (.cells #[.slice (some ⟨w.heap.size,0,none⟩) 1 1,.slice (some ⟨w.heap.size+1,0,none⟩) 1 1] 194)).heap.size:=by simp
  obtain ⟨L,HL⟩ : ∃ L,Hid (splitL t = L):=⟨_,rfl⟩
  have HLl:=Lib.hid (fun i l (h : L[i]? = some l)=>line_len (t:=t) (i:=i) (l:=l) (by rw [HL.out];exact h))
  have HLn : Hid (L.length≤65537):=Lib.hid (by rw [← HL.out,splitL_count];have:=List.count_le_length (a:=(10 : UInt8)) (l:=t);omega)
  have HNP : Hid (newP t = linesGo DbP.first L 0):=Lib.hid (by rw [HG.out,HL.out])
  have HV:=Lib.hid (fun W=>vLines_any t W (by omega))
  rw [HL.out] at HV
  go_enter Tryz.func133,Tryz.ntmps133
  go_wp2_with fail
  rw [show (⟨#[79,116,104,101,114]⟩ : ByteArray) = bytesOf otherL from rfl]
  generalize ((w.alloc (.cells #[.string (bytesOf otherL)] 9)).alloc (.cells #[.slice none 0 0] 218)).alloc (.cells #[.slice (some ⟨w.heap.size,0,none⟩) 1 1,.slice (some ⟨w.heap.size+1,0,none⟩) 1 1] 194) = w3 at hX hB0 hw3 ⊢
  refine (HV.out w3).mono ?_
  rintro e w4 ⟨AL,nL,cL,rfl,hoL,hb4⟩
  have hnL : L.length = nL:=by simpa using hoL.len
  have hX4:=hX.below hb4
  have hB4:=below_step hB0 hb4 (by have:=hB0.size;omega)
  have HnL:=Lib.hid hnL
  have HLne : Hid (L ≠ []):=Lib.hid (by rw [← HL.out];exact splitL_ne t)
  clear hnL HG HL
  obtain ⟨x,hxw,hXx,hcells⟩ : ∃ x,x < w4.heap.size∧RfX w4 w.heap.size (w.heap.size+2) x (some ⟨w.heap.size,0,none⟩) 1 1 (some ⟨w.heap.size+1,0,none⟩) 1 1 [(none,0,0)] [otherL] [[]] ∧
    (∀ W : World,W.heap[x]? = w4.heap[x]?→∀ i l,L[i]? = some l→∃ off,AL = some ⟨x,off,none⟩∧W.cell? ⟨x,off+i,none⟩ = some (.string (bytesOf l))):=by
   have h0 : 0 < nL:=by
    cases hq : L with
    | nil=>exact absurd hq HLne.out
    | cons a b=>rw [← HnL.out,hq];simp
   obtain ⟨gx,hgx,hg1,hg2⟩:=hoL.form h0
   subst hgx
   refine ⟨gx,hg2,{ hX4 with xp:=by omega,xn:=fun a ha=>by injection ha with ha;subst ha;show w.heap.size ≠ gx;omega,xs_:=fun a ha=>by injection ha with ha;subst ha;show w.heap.size+1 ≠ gx;omega },fun W hW i l hl=>?_⟩
   have h1:=hoL.cell (k:=i) (j:=0) (x:=encNm l) (u:=.string (bytesOf l)) (by rw [List.getElem?_map,hl];rfl) rfl
   simp only [Nat.mul_one,Nat.add_zero] at h1
   exact ⟨0,rfl,by rw [Nat.zero_add];exact (World.cell?_of_block hW).trans h1⟩
  have HCells:=Lib.hid hcells
  have hsw:=hB4.size
  clear hcells hX hX4 hB0 hw3 hb4 hoL
  generalize w.heap.size+2 = p at hXx ⊢
  go_wp2_with fail
  go_loopw [7] (fun v wr=>∃ (i : Nat) (d : DbP),v = .int .i64 i∧i≤L.length∧RfB wr w.heap.size p x d.names d.sets∧wr.heap[x]? = w4.heap[x]?∧Hid (NewAt L i d)∧Below w.heap.size w wr∧x < wr.heap.size) (fun v _=>L.length - (intOf v).toNat)
  case atStart=>exact ⟨0,DbP.first,rfl,by omega,⟨_,_,_,_,_,_,_,hXx⟩,rfl,newAt_first L,hB4,hxw⟩
  case round =>
   clear hXx
   obtain ⟨i,d,rfl,hi,hd,hxr,HN,hb,hxl⟩:=hrel
   have hszr:=hb.size
   have hnl:=HnL.out
   by_cases hlt : i < L.length
   ·obtain ⟨l,Hl⟩ : ∃ l,Hid (L[i]? = some l):=⟨_,Lib.hid (List.getElem?_eq_getElem hlt)⟩
    obtain ⟨off,rfl,hcell⟩:=HCells.out wr hxr i l Hl.out
    have hll:=HLl.out i l Hl.out
    have HN2:=HLn.out
    have HA:=Lib.hid (vline_any p w.heap.size x d l wr hd HN.out.2.2.1 hxl hszr (by omega))
    have hltn : i < nL:=by omega
    clear hnl
    cases hs : stepL d l with
    | error k =>
     rw [hs] at HA
     have hk0 : ((k : Int) != 0) = true:=by rw [bne_iff_ne];have:=step_err hs;omega
     have HE:=Lib.hid (HNP.out.trans (newAt_err HN.out Hl.out hs))
     clear hs
     go_wp2_with fail
     refine HA.out.mono ?_
     rintro e w6 ⟨hk,hae⟩
     have he : e = .returned (.int .i64 k):=hae
     subst he
     go_wp2
     go_ret3
     exact ⟨RNewEnd.err HE.out,hb.trans hk.1⟩
    | ok d' =>
     rw [hs] at HA
     have HN':=Lib.hid (newAt_next HN.out Hl.out hs)
     clear hs
     go_wp2_with fail
     refine HA.out.mono ?_
     rintro e w6 ⟨hk,rfl,hd'⟩
     go_wp2
     go_roundw
     case rel=>exact ⟨i+1,d',by go_num,by omega,hd',(hk.2 hxl).trans hxr,HN',hb.trans hk.1,Nat.lt_of_lt_of_le hxl hk.1.size⟩
     case measure=>simp [intOf];omega
   ·have HE:=Lib.hid (HNP.out.trans (newAt_end HN.out hlt))
    have HC:=Lib.hid (vrest_any p w.heap.size x d wr hd HN.out.2.2.1 HN.out.2.2.2 hszr)
    go_wp2_with (go_at_call 180;refine HC.out.mono ?_;rintro e w5 ⟨rfl,hda,hb5⟩)
    go_ret3
    exact ⟨RNewEnd.fine HE.out hda,hb.trans hb5⟩
end
section
open Go.RowKit
def nmL (r : Int) : List UInt8:=(linesD.names[gL r]?).getD []
theorem xDb_any (w : World) :
  Calls Tryz.prog 97 #[] w fun e w'=>∃ p x,e = .returned (.pointer (some ⟨p,0,none⟩))∧RfB w' w.heap.size p x linesD.names linesD.full∧Below w.heap.size w w':=by
 go_enter Tryz.func97,Tryz.ntmps97
 generalize hT : ByteArray.mk _ = T
 have HN : newP T.data.toList = .ok linesD:=by rw [← hT];exact new_K (by kernel_rfl) (by kernel_rfl)
 have hTl : T.data.toList.length≤maxLen:=by rw [← hT];exact of_decide_eq_true (by kernel_rfl)
 clear hT
 have HC:=vNew_any T.data.toList w hTl
 rw [HN,bytes_is] at HC
 replace HC:=Lib.hid HC
 clear HN hTl
 go_wp2_with fail
 refine HC.out.mono ?_
 rintro e w1 ⟨⟨p,x,rfl,hd⟩,hb1⟩
 go_wp2
 go_ret
 exact ⟨p,x,rfl,hd,hb1⟩
theorem names_len : linesD.names.length = 26:=by decide
theorem xNamed_any (base p x : Nat) (r : Int) (w : World) (h : RfB w base p x linesD.names linesD.full) :
  Calls Tryz.prog 102 #[.pointer (some ⟨p,0,none⟩),.int .i32 r] w fun e w'=>e = .returned (.string (bytesOf (nmL r)))∧Below w.heap.size w w':=by
 obtain ⟨An,nn,cn,As,ns,cs,xs,hX⟩:=h.ex
 have hnn : linesD.names.length = nn:=hX.lenN
 rw [names_len] at hnn
 subst hnn
 obtain ⟨g,rfl,_,_⟩:=hX.hn.form (by omega)
 have c0:=hX.blk.cell 0
 simp only [zG,zH] at c0
 obtain ⟨k,Hk⟩ : ∃ k,Hid (gL r = k):=⟨_,Lib.hid rfl⟩
 have hk : k < 26:=by rw [← Hk.out];exact gL_lt r
 obtain ⟨nm,Hn⟩ : ∃ nm,Hid (linesD.names[k]? = some nm):=⟨_,Lib.hid (List.getElem?_eq_getElem (by rw [names_len];exact hk))⟩
 have HV : Hid (nmL r = nm):=Lib.hid (by unfold nmL;rw [Hk.out,Hn.out];rfl)
 have cn0:=hX.hn.cell (k:=k) (j:=0) (x:=encNm nm) (u:=.string (bytesOf nm)) (by simp [Hn.out]) rfl
 simp only [Nat.mul_one,Nat.add_zero] at cn0
 have HG:=Lib.hid (fun W (hW : Below w.heap.size w W)=>vGet_any base p x linesD r W (h.below hW) linesOk.1 linesOk.2.1)
 have hgk : linesD.get r = k:=Hk.out
 rw [hgk] at HG
 have q1 : (0 : Int)≤(k : Int):=by omega
 have q2 : (k : Int) < 26:=by omega
 have q3 : (k : Int) < ((26 : Nat) : Int):=by omega
 clear hgk
 go_enter Tryz.func102,Tryz.ntmps102
 go_wp2_with fail
 go_region_held3 (fun V=>V.cell? ⟨p,0,none⟩ = some (.slice (some ⟨g,0,none⟩) 26 cn)∧V.cell? ⟨g,k,none⟩ = some (.string (bytesOf nm))∧Below w.heap.size w V)
  (first | exact ⟨c0,cn0,Below.refl _ _⟩ | exact ⟨c0,cn0,below_refl_drewN w 1⟩)
  (first
   | (go_at_call 132;go_split_ands;refine (HG.out _ (by assumption)).mono ?_;rintro e wz ⟨rfl,rfl⟩))
 go_wp2
 go_ret
 exact ⟨by rw [HV.out];rfl,below_refl_drewN w 1⟩
theorem Rd.atRn {w : World} {A : Option Addr} {l : List (Nat × Nat × Nat)} {k : Nat} {x : Nat × Nat × Nat} (h : Rd w 3 A (l.map encRn)) (hk : l[k]? = some x) :
  ∃ b off,A = some ⟨b,off,none⟩∧w.cell? ⟨b,off+k*3,none⟩ = some (.int .i32 (x.1 : Nat))∧w.cell? ⟨b,off+k*3+1,none⟩ = some (.int .i64 (x.2.1 : Nat))∧w.cell? ⟨b,off+k*3+2,none⟩ = some (.int .i64 (x.2.2 : Nat)):=by
 obtain ⟨b,off,rfl,hc⟩:=h (by intro e;cases l with | nil=>simp at hk | cons _ _=>simp at e)
 have h0:=hc k 0 (encRn x) (.int .i32 (x.1 : Nat)) (by simp [hk]) rfl
 have h1:=hc k 1 (encRn x) (.int .i64 (x.2.1 : Nat)) (by simp [hk]) rfl
 have h2:=hc k 2 (encRn x) (.int .i64 (x.2.2 : Nat)) (by simp [hk]) rfl
 exact ⟨b,off,rfl,by simpa using h0,h1,h2⟩
end
section
open Go.RowKit
theorem own_three {w : World} {t : TypeId} {a b c : Value} {base : Nat} (hb : base≤w.heap.size) : Own (w.alloc (.cells #[a,b,c] t)) base t 3 (some ⟨w.heap.size,0,none⟩) 1 1 [[a,b,c]] :=
 ⟨rfl,by simp,by simp,.inr ⟨w.heap.size,1,#[a,b,c],rfl,hb,heap_alloc_new _ _,Nat.le_refl _,by unfold maxLen;omega,rfl,by simp⟩⟩
theorem altsP_cases2 {ns : List (List UInt8)} {f d k k' : Nat} {acc : List Pat} {pat : Pat} {l rest : List UInt8} (h : altsP ns f d l k acc = some (pat,rest,k')) :
  ∃ c : UInt8,headN (skipB l) = c.toNat∧((c.toNat ≠ 124∧pat = altOf acc∧rest = skipB l∧k' = k∧(rest = []∨∃ r,rest = c :: r∧c.toNat = 41∧0 < d)) ∨
   (c.toNat = 124∧k < 512∧∃ r f' p l1 k1,skipB l = c :: r∧f = f'+1∧branchP ns f' d r (k+1) [] = some (p,l1,k1)∧altsP ns f' d l1 k1 (acc++[p]) = some (pat,rest,k'))):=by
 rcases altsP_cases h with ⟨hs,h1,h2,h3⟩ | ⟨c,r,hs,⟨hc,hk,f',p,l1,k1,h1,h2,h3⟩ | ⟨hc,hd,h1,h2,h3⟩⟩
 ·exact ⟨0,by rw [hs];rfl,.inl ⟨by decide,h1,by rw [hs,h2],h3,.inl h2⟩⟩
 ·exact ⟨c,by rw [hs];rfl,.inr ⟨hc,hk,r,f',p,l1,k1,hs,h1,h2,h3⟩⟩
 ·exact ⟨c,by rw [hs];rfl,.inl ⟨by omega,h1,by rw [hs,h2],h3,.inr ⟨r,h2,hc,hd⟩⟩⟩
theorem altOf_many {l : List Pat} (h : 2≤l.length) : altOf l = .node 3 [] l:=by
 match l,h with
 | [],h=>simp at h
 | [_],h=>simp at h
 | _ :: _ :: _,_=>rfl
theorem res_pattern (w : World) (b : Nat) (v : Pv) (tmps : Array Value) (ht : tmps.getD 2 undef = .pointer (some ⟨b,0,none⟩)) (hc : PCell w b v) : (results Tryz.f247 tmps).run Tryz.prog w = .ok (valPt v) w:=by
 have ht' : tmps[2]?.getD undef = .pointer (some ⟨b,0,none⟩):=by simpa [Array.getD_eq_getD_getElem?] using ht
 obtain ⟨h0,h1,h2⟩:=hc
 simp [results,Tryz.results247,go_sem,ht',h0,h1,h2,valPt]
theorem jpattern_any (p : Nat) (s : ByteArray) (A : Option Addr) (nn cn : Nat) (names : List (List UInt8)) (a d k k' f : Nat) (rest : List UInt8) (pat : Pat) (w : World)
  (HBr : Hid (∀ (f' a k k' : Nat) (pat : Pat) (rest : List UInt8) (W : World),f' < f→RS W p s A nn cn names a d k→a≤s.size→k≤512→branchP names f' d (s.data.toList.drop a) k [] = some (pat,rest,k')→Calls Tryz.prog 282 #[.pointer (some ⟨p,0,none⟩)] W (RdPost W p s A nn cn names d pat rest k')))
  (h : RS w p s A nn cn names a d k) (ha : a≤s.size) (hs : s.size≤1000000) (hk : k≤512)
  (hP : patP names f d (s.data.toList.drop a) k = some (pat,rest,k')) :
  Calls Tryz.prog 247 #[.pointer (some ⟨p,0,none⟩)] w (RdPost w p s A nn cn names d pat rest k'):=by
 obtain ⟨i0,hi0,hz0,hz1,hz2⟩:=info_parts infoPatH
 have hpw:=h.lt
 have HAw:=Lib.hid (fun x (hx : A = some x)=>(h.off x hx).2)
 obtain ⟨f',p1,l1,k1,rfl,hb1,ha1⟩:=patP_cases hP
 have hku:=(parts_up names f').2.2.1 hb1
 have hw0:=h.below ((Below.refl w.heap.size w).alloc (Nat.le_refl _) (.cells #[.int .i64 0,.slice none 0 0,.slice none 0 0] 207))
 have hB0 : Blk (w.alloc (.cells #[.int .i64 0,.slice none 0 0,.slice none 0 0] 207)) w.heap.size 207 #[.int .i64 0,.slice none 0 0,.slice none 0 0]:=Blk.new w _ _
 have HS:=Lib.hid (fun x kk W (h : RS W p s A nn cn names x d kk) (hx : x≤s.size)=>jsees_any p s A nn cn names x d kk W h hx hs)
 have HB1:=Lib.hid (HBr.out f' a k k1 p1 l1 _ (Nat.lt_succ_self f') hw0 ha hk hb1)
 have HA1:=Lib.hid ha1
 have hg0 : w.grownBy (w.alloc (.cells #[.int .i64 0,.slice none 0 0,.slice none 0 0] 207)) (some p):=only_alloc (only_refl w _) _
 clear hP h hb1 ha1 hw0
 go_enter Tryz.func247,Tryz.ntmps247
 go_wp2_with fail
 refine HB1.out.mono ?_
 rintro e w1 hq
 obtain ⟨v1,x1,rfl,hr1,hd1,hx1,hg1,hp1⟩:=hq
 obtain ⟨v0,⟨A1,n1,c1'⟩,⟨A2,n2,c2'⟩⟩:=v1
 have hB1:=hB0.grown hg1 (fun e=>by injection e with e;omega)
 have hz1w:=hB1.lt
 have hal : Below w1.heap.size w1 (w1.alloc (.cells #[.int .i64 (v0 : Int),.slice A1 n1 c1',.slice A2 n2 c2'] 207)):=(Below.refl w1.heap.size w1).alloc (Nat.le_refl _) _
 have hr2:=hr1.below hal
 have hB2:=hB1.below hal
 have hg2:=only_below (only_trans hg0 hg1) hal
 have ho2 : Own (w1.alloc (.cells #[.int .i64 (v0 : Int),.slice A1 n1 c1',.slice A2 n2 c2'] 207)) (w.heap.size+1) 207 3 (some ⟨w1.heap.size,0,none⟩) 1 1 ([(v0,(A1,n1,c1'),(A2,n2,c2'))].map encPt):=own_three (by omega)
 have hps2 : PatsX (w1.alloc (.cells #[.int .i64 (v0 : Int),.slice A1 n1 c1',.slice A2 n2 c2'] 207)) (OffX (w.heap.size+1) (some ⟨w1.heap.size,0,none⟩)) [p1] [(v0,(A1,n1,c1'),(A2,n2,c2'))]:=by
  have h1:=PatX.below (hp1.keep (X':=OffX (w.heap.size+1) (some ⟨w1.heap.size,0,none⟩)) (KeepX.same (fun b h hb=>⟨by simp at h;omega,fun a ha e=>by injection ha with ha;subst ha;simp only at e;omega⟩))) hal
  simp only [PatsX]
  exact ⟨_,[],rfl,h1,rfl⟩
 have HG2 : Hid (altsP names f' d (s.data.toList.drop x1) k1 [p1] = some (pat,rest,k')):=Lib.hid (by rw [hd1];exact HA1.out)
 have hk1:=hku.2 hk
 clear HB1 HA1 hd1 hr1 hg1 hp1 hB1 hB0 hg0 hku
 simp only [valPt]
 go_wp2_with fail
 generalize w1.alloc (.cells #[.int .i64 (v0 : Int),.slice A1 n1 c1',.slice A2 n2 c2'] 207) = V at hr2 hB2 hg2 ho2 hps2 ⊢
 clear hal
 generalize w1.heap.size = g at ho2 hps2 ⊢
 go_loopw [3] (fun v3 wr=>∃ (x kk f0 : Nat) (acc0 : List Pat) (A0 : Option Addr) (n0 c0 : Nat) (vs : List Pv),v3 = .slice A0 n0 c0∧f0≤f'∧n0≤kk+1∧1≤n0∧kk≤512∧RS wr p s A nn cn names x d kk∧Hid (altsP names f0 d (s.data.toList.drop x) kk acc0 = some (pat,rest,k'))∧x≤s.size∧w.grownBy wr (some p)∧Blk wr w.heap.size 207 #[.int .i64 0,.slice none 0 0,.slice none 0 0]∧Own wr (w.heap.size+1) 207 3 A0 n0 c0 (vs.map encPt)∧PatsX wr (OffX (w.heap.size+1) A0) acc0 vs) (fun _ wr=>512 - partsOf wr p)
 case atStart=>exact ⟨x1,k1,f',[p1],some ⟨g,0,none⟩,1,1,[(v0,(A1,n1,c1'),(A2,n2,c2'))],rfl,Nat.le_refl _,by omega,by omega,hk1,hr2,HG2,hx1,hg2,hB2,ho2,hps2⟩
 case round =>
  clear hr2 HG2 hx1 hg2 hB2 ho2 hps2 hk1
  obtain ⟨x,kk,f0,acc0,A0,n0,c0,vs,rfl,hf0,hn0,hn1,hkk,hr,HG,hx,hg,hB,ho,hps⟩:=hrel
  have Hat:=Lib.hid hr.partsOf
  have c5:=hr.c5
  obtain ⟨c,hc,hcs⟩:=altsP_cases2 HG.out
  have Hcs:=Lib.hid hcs
  have h0:=HS.out x kk _ hr hx
  rw [hc] at h0
  have HS1:=Lib.hid h0
  clear h0 hc hcs HG
  go_wp2_with fail
  refine HS1.out.mono ?_
  rintro e w5 ⟨rfl,x5,hr5,hd5,hx5,hg5⟩
  have hB5:=hB.grown hg5 (fun e=>by injection e with e;omega)
  have ho5:=ho.grown hg5 (fun a ha e=>by have:=(ho.lt a ha).1;injection e with e;omega)
  have hps5:=hps.keep (KeepX.grown hg5 (fun r hr h=>by injection hr with hr;subst hr;have:=h.1;omega))
  have hgg:=only_trans hg hg5
  have Hd5:=Lib.hid hd5
  clear hr hB ho hps hg hg5 c5 HS1 hd5
  rcases Hcs.out with ⟨hne,hpe,hre,hke,hend⟩ | ⟨hce,hk5,r,f9,p9,l9,k9,hsk,hfe,hbr,hal9⟩
  ·have t124 : ((c.toNat : Int) == 124) = false:=by rw [beq_eq_false_iff_ne];omega
   have c0':=hr5.c0
   have c1:=hr5.c1
   have c3:=hr5.c3
   have c5:=hr5.c5
   have Hend:=Lib.hid hend
   have Hre:=Lib.hid (hre)
   have Hpk:=Lib.hid (And.intro hpe hke)
   clear Hcs hne hpe hre hke hend
   go_upto_region 6 with fail
   go_cut [71] from 35 to 71 (fun v wx=>v = .bool false∧∃ q,wx = w5.drewN q)
   case first =>
    rcases Hend.out with h1 | ⟨r,h1,h41,hd0⟩
    ·have hxe : ¬ x5 < s.size:=fun hlt=>by
      obtain ⟨b',h2,_⟩:=byte_at s hlt
      have h3:=Hd5.out
      rw [← Hre.out,h1,h2] at h3
      cases h3
     go_quiet (fail)
     go_wp2_with fail
     go_meet
     exact ⟨rfl,nq,rfl⟩
    ·have hlt : x5 < s.size:=Nat.lt_of_not_le fun hle=>by
      have h3:=Hd5.out
      rw [← Hre.out,h1,drop_end s (by omega)] at h3
      cases h3
     obtain ⟨b',h2,hidx⟩:=byte_at s hlt
     have hbc : b' = c:=by
      have h3:=Hd5.out
      rw [← Hre.out,h1,h2] at h3
      injection h3
     subst hbc
     have t41 : ((b'.toNat : Int) == 41) = true:=by rw [beq_iff_eq];omega
     have td : decide (0 < d) = true:=decide_eq_true hd0
     clear h2 h1
     go_quiet (fail)
     go_wp2_with fail
     go_meet
     exact ⟨rfl,nq,rfl⟩
   case rest =>
    obtain ⟨rfl,q,rfl⟩:=hcut
    have hr6:=hr5.drewN q
    have hB6:=hB5.drewN q
    have ho6:=ho5.drewN q
    have hps6 : PatsX (w5.drewN q) (OffX (w.heap.size+1) A0) acc0 vs:=hps5.below (below_refl_drewN w5 q)
    have hg6:=only_drewN hgg q
    clear hr5 hB5 ho5 hps5 hgg c0' c1 c3 c5 Hend t124
    generalize w5.drewN q = w6 at hr6 hB6 ho6 hps6 hg6 ⊢
    have hvl : vs.length = n0:=by have:=ho6.len;simpa using this
    have hal:=hps6.len
    have z0:=hB6.cell 0
    have z1:=hB6.cell 1
    have z2:=hB6.cell 2
    simp only [zG,zI,zH] at z0 z1 z2
    have g0:=hB6.frozen 0
    have g1:=hB6.frozen 1
    have g2:=hB6.frozen 2
    by_cases h1n : n0 = 1
    ·subst h1n
     obtain ⟨v,rfl⟩ : ∃ v,vs = [v]:=List.length_eq_one_iff.1 hvl
     obtain ⟨p0,rfl⟩ : ∃ v,acc0 = [v]:=List.length_eq_one_iff.1 (by omega)
     obtain ⟨v',hv',hpv⟩:=hps6.at_ (k:=0) rfl
     injection hv' with hv'
     subst hv'
     obtain ⟨b0,off0,eA,e0,e1,e2⟩:=(SlX.own ho6 (by decide) (X:=fun b=>w.heap.size+1≤b) (fun a ha=>(ho6.lt a ha).1)).atPt (k:=0) rfl
     simp only at eA
     subst eA
     have HQ:=Lib.hid (pt_end (B:=w.heap.size+1) v hB6 hr6 hpw HAw.out hg6 (by omega) (hpv.keep (KeepX.same (fun b h _=>h.1))))
     obtain ⟨v0,⟨A1,n1,c1'⟩,⟨A2,n2,c2'⟩⟩:=v
     simp only [Nat.zero_mul,Nat.add_zero] at e0 e1 e2
     go_wp2
     obtain ⟨q1,q2,q3,q4⟩:=HQ.out
     refine bodyPost_ret (res_pattern _ w.heap.size (v0,(A1,n1,c1'),(A2,n2,c2')) _ rfl (PCell.of_blk q1)) rfl ?_
     rw [Hpk.out.1,Hpk.out.2]
     exact ⟨_,_,rfl,q2,by rw [Hd5.out,Hre.out],hx5,q3,q4⟩
    ·have t1 : ((n0 : Int) == 1) = false:=by rw [beq_eq_false_iff_ne];omega
     have HQ:=Lib.hid (pt_end (B:=w.heap.size+1) (pat:=.node 3 [] acc0) (3,(none,0,0),(A0,n0,c0)) hB6 hr6 hpw HAw.out hg6 (by omega) (by simp only [PatX];exact ⟨trivial,SlX.nil_ _ _ _,vs,SlX.own ho6 (by decide) (fun a ha=>(ho6.lt a ha).1),hps6.keep (KeepX.same (fun b h _=>h.1))⟩))
     go_wp2
     obtain ⟨q1,q2,q3,q4⟩:=HQ.out
     refine bodyPost_ret (res_pattern _ w.heap.size (3,(none,0,0),(A0,n0,c0)) _ rfl (PCell.of_blk q1)) rfl ?_
     rw [Hpk.out.1,Hpk.out.2,altOf_many (by omega)]
     exact ⟨_,_,rfl,q2,by rw [Hd5.out,Hre.out],hx5,q3,q4⟩
  ·have t124 : ((c.toNat : Int) == 124) = true:=by rw [beq_iff_eq];omega
   have hys : x5 < s.size:=Nat.lt_of_not_le fun hle=>by
    have h1:=Hd5.out
    rw [drop_end s (by omega),hsk] at h1
    cases h1
   have hdr : s.data.toList.drop (x5+1) = r:=by
    obtain ⟨b',h1,_⟩:=byte_at s hys
    have h2:=Hd5.out
    rw [h1,hsk] at h2
    injection h2
   have Hbr : Hid (branchP names f9 d (s.data.toList.drop (x5+1)) (kk+1) [] = some (p9,l9,k9)):=Lib.hid (by rw [hdr];exact hbr)
   have Hal:=Lib.hid hal9
   have hku:=(parts_up names f9).2.2.1 hbr
   have HC:=Lib.hid (jcounts_any p s A nn cn names x5 d kk (x5 : Int) w5 hr5 hk5)
   have c1:=hr5.c1
   clear hal9 hbr hsk hdr Hd5 Hcs
   go_wp2_with fail
   refine HC.out.mono ?_
   rintro e w6 ⟨rfl,hr6,hg6⟩
   have hB6:=hB5.grown hg6 (fun e=>by injection e with e;omega)
   have ho6:=ho5.grown hg6 (fun a ha e=>by have:=(ho5.lt a ha).1;injection e with e;omega)
   have hps6:=hps5.keep (KeepX.grown hg6 (fun r hr h=>by injection hr with hr;subst hr;have:=h.1;omega))
   have hgg6:=only_trans hgg hg6
   clear hr5 hB5 ho5 hps5 hgg hg6 c1 HC
   have c1:=hr6.c1
   have f1:=hr6.f 1
   have hr7:=hr6.setAt (x5+1)
   have ez : ((x5+1 : Nat) : Int) = (x5 : Int)+1:=by omega
   rw [ez] at hr7
   have hB7:=hB6.far (p:=⟨p,1,none⟩) (by simp;omega) (.int .i64 ((x5 : Int)+1))
   have ho7:=ho6.setCell (p:=⟨p,1,none⟩) (fun a ha e=>by have:=(ho6.lt a ha).1;simp only at e;omega) (.int .i64 ((x5 : Int)+1))
   have hk7 : w6.grownBy (w6.setCell ⟨p,1,none⟩ (.int .i64 ((x5 : Int)+1))) (some p):=only_setCell (only_refl _ _) (p:=⟨p,1,none⟩) (.inl rfl) _
   have hps7:=hps6.keep (KeepX.grown hk7 (fun r hr h=>by injection hr with hr;subst hr;have:=h.1;omega))
   have hg7:=only_trans hgg6 hk7
   clear hr6 hB6 ho6 hps6 hgg6 hk7 ez
   go_upto_region 5 with fail
   clear c1 f1
   generalize w6.setCell ⟨p,1,none⟩ (.int .i64 ((x5 : Int)+1)) = V at hr7 hB7 ho7 hps7 hg7 ⊢
   have HB9:=Lib.hid (HBr.out f9 (x5+1) (kk+1) k9 p9 l9 V (by omega) hr7 (by omega) (by omega) Hbr.out)
   have hVz:=hB7.lt
   have hAV : ∀ a,A0 = some a→a.block < V.heap.size:=fun a ha=>(ho7.lt a ha).2
   go_wp2_with fail
   refine HB9.out.mono ?_
   rintro e w9 hq
   obtain ⟨v9,x9,rfl,hr9,hd9',hx9,hg9,hp9⟩:=hq
   have hB9:=hB7.grown hg9 (fun e=>by injection e with e;omega)
   have ho9:=ho7.grown hg9 (fun a ha e=>by have:=(ho7.lt a ha).1;injection e with e;omega)
   have hps9:=hps7.keep (KeepX.grown hg9 (fun r hr h=>by injection hr with hr;subst hr;have:=h.1;omega))
   have hgg9:=only_trans hg7 hg9
   have hpp : PatX w9 (OffX (w.heap.size+1) A0) p9 v9:=hp9.keep (KeepX.same (fun b h _=>⟨by omega,fun a ha e=>by have:=hAV a ha;omega⟩))
   have HG9 : Hid (altsP names f9 d (s.data.toList.drop x9) k9 (acc0++[p9]) = some (pat,rest,k')):=Lib.hid (by rw [hd9'];exact Hal.out)
   clear hB7 ho7 hps7 hg7 hg9 hp9 HB9 Hal hd9' hr7
   obtain ⟨v0,⟨A1,n1,c1'⟩,⟨A2,n2,c2'⟩⟩:=v9
   simp only [valPt]
   have T1:=ho9.alloc (.cells #[.int .i64 (v0 : Int),.slice A1 n1 c1',.slice A2 n2 c2'] 207)
   have T3 : w.heap.size+1≤(w9.alloc (.cells #[.int .i64 (v0 : Int),.slice A1 n1 c1',.slice A2 n2 c2'] 207)).heap.size:=by have:=hB9.lt;simp;omega
   have T2 : (n0+1)*56≤140737488355328:=by omega
   have T4 : ∀ y ∈ [encPt (v0,(A1,n1,c1'),(A2,n2,c2'))],y.length = 3∧∀ u ∈ y,u.oneCell' = true:=encPt_ok [(v0,(A1,n1,c1'),(A2,n2,c2'))]
   have T5 : Rd (w9.alloc (.cells #[.int .i64 (v0 : Int),.slice A1 n1 c1',.slice A2 n2 c2'] 207)) 3 (some ⟨w9.heap.size,0,none⟩) [encPt (v0,(A1,n1,c1'),(A2,n2,c2'))]:=Rd.newAt (by simp) rfl
   have T6 : n0+1≤maxLen:=by unfold maxLen;omega
   go_wp2_with (at_builtin;refine wpList_app rfl (.tmp 30) (.tmp 33) _ rfl (w.heap.size+1) 207 i0 _ 3 56 Tryz.underlying205 hi0 hz0 hz1 hz2 rfl (by omega) A0 n0 c0 (vs.map encPt) rfl T1 _ 1 1 [encPt (v0,(A1,n1,c1'),(A2,n2,c2'))] rfl rfl T5 T4 T6 T2 T3 ?_;intro A3 c3 w10 ho10 hg10 hA10)
   have hb10 : Below w.heap.size w9 w10:=below_app ((Below.refl w.heap.size w9).alloc (by have:=hB9.lt;omega) _) hg10 (by have:=hB9.lt;simp;omega) (fun a ha=>by have:=(ho9.lt a ha).1;omega)
   have hr10:=hr9.belowB hb10 hpw HAw.out
   have hg10' : w.grownBy w10 (some p):=⟨hb10.os.trans hgg9.os,hb10.tape.trans hgg9.tape,hb10.output.trans hgg9.output,Nat.le_trans hgg9.size hb10.size,fun i hi hne=>(hb10.block i hi).trans (hgg9.block i hi hne)⟩
   have hNE : some w.heap.size ≠ A0.map (·.block):=fun e=>by
    cases hA1 : A0 with
    | none=>rw [hA1] at e;cases e
    | some a=>rw [hA1] at e;injection e with e;have e2 : w.heap.size = a.block:=e;have:=(ho9.lt a hA1).1;omega
   have hB10:=(hB9.alloc (.cells #[.int .i64 (v0 : Int),.slice A1 n1 c1',.slice A2 n2 c2'] 207)).grown hg10 hNE
   have hkx : KeepX (OffX (w.heap.size+1) A0) (OffX (w.heap.size+1) A3) w9 w10:=(KeepX.below ((Below.refl w9.heap.size w9).alloc (Nat.le_refl _) (.cells #[.int .i64 (v0 : Int),.slice A1 n1 c1',.slice A2 n2 c2'] 207))).trans ⟨hg10.size,fun b hb hl=>hg10.block b hl (fun e=>by
     cases hA1 : A0 with
     | none=>rw [hA1] at e;cases e
     | some a=>rw [hA1] at e;injection e with e;exact hb.2 a hA1 e),fun b hb hl=>⟨hb.1,fun a ha e=>by
     rcases hA10 with h1 | h1
     ·exact hb.2 a (by rw [← h1];exact ha) e
     ·rw [h1] at ha
      injection ha with ha
      subst ha
      simp at hl e
      omega⟩⟩
   have hps10:=PatsX.snoc (hpp.keep hkx) (hps9.keep hkx)
   have hk9:=hku.1
   have hk9':=hku.2 (by omega)
   refine ⟨⟨x9,k9,f9,acc0++[p9],A3,n0+1,c3,vs++[(v0,(A1,n1,c1'),(A2,n2,c2'))],rfl,by omega,by omega,by omega,hk9',hr10,HG9,hx9,hg10',hB10,by rw [List.map_append];exact ho10,hps10⟩,?_⟩
   rw [hr10.partsOf,Hat.out];omega
theorem jpat_all (p : Nat) (s : ByteArray) (A : Option Addr) (nn cn : Nat) (names : List (List UInt8)) (hs : s.size≤1000000) (hnz : nn≤1000000) : ∀ (z f a d k k' : Nat) (pat : Pat) (rest : List UInt8) (w : World),f≤z→RS w p s A nn cn names a d k→a≤s.size→d≤32→k≤512 →
  patP names f d (s.data.toList.drop a) k = some (pat,rest,k')→Calls Tryz.prog 247 #[.pointer (some ⟨p,0,none⟩)] w (RdPost w p s A nn cn names d pat rest k')
 | 0,f,a,d,k,k',pat,rest,w,hf,_,_,_,_,hP=>by
  obtain ⟨f',_,_,_,h,_⟩:=patP_cases hP
  omega
 | z+1,f,a,d,k,k',pat,rest,w,hf,hr,ha,hd,hk,hP =>
  jpattern_any p s A nn cn names a d k k' f rest pat w (Lib.hid fun f1 a1 k1 k1' pat1 rest1 W hf1 hr1 ha1 hk1 hP1 =>
   jbranch_any p s A nn cn names a1 d k1 k1' f1 rest1 pat1 W (Lib.hid fun f2 a2 k2 k2' c2 r2 pat2 rest2 W2 hf2 hr2 ha2 hsk2 hP2=>by
    cases f2 with
    | zero=>rw [atomP] at hP2;cases hP2
    | succ f2=>exact jatom_any p s A nn cn names a2 d k2 k2' f2 c2 r2 rest2 pat2 W2 (Lib.hid fun d3 a3 k3 k3' pat3 rest3 W3 hr3 ha3 hd3 hk3 hP3=>jpat_all p s A nn cn names hs hnz z f2 a3 d3 k3 k3' pat3 rest3 W3 (by omega) hr3 ha3 hd3 hk3 hP3) hr2 ha2 hs hnz hsk2 hP2)
   hr1 ha1 hs hk1 hP1) hr ha hs hk hP
end
section
open Go.RowKit
theorem nms_len {ns : List (List UInt8)} (h : nmsOk ns = true) : ns.length≤64:=by
 unfold nmsOk at h
 simp only [Bool.and_eq_true,decide_eq_true_iff] at h
 exact h.1.1
theorem patOf_some {ns : List (List UInt8)} {l : List UInt8} {pat : Pat} (h : patOf ns l = some pat) : l.length≤4096∧∃ rest k',patP ns (4*l.length+8) 0 l 0 = some (pat,rest,k'):=by
 unfold patOf at h
 split at h
 ·cases h
 ·rename_i hl
  split at h
  ·cases h
  ·rename_i p rest k' hp
   injection h with h
   subst h
   exact ⟨by omega,rest,k',hp⟩
theorem res_parse5 (w : World) (b : Nat) (v : Pv) (tmps : Array Value) (h4 : tmps.getD 4 undef = .pointer (some ⟨b,0,none⟩)) (h5 : tmps.getD 5 undef = .int .i64 0) (h6 : tmps.getD 6 undef = .int .i64 0) (hc : PCell w b v) : (results Tryz.f200 tmps).run Tryz.prog w = .ok (.tuple #[valPt v,.int .i64 0,.int .i64 0]) w:=by
 have h4' : tmps[4]?.getD undef = .pointer (some ⟨b,0,none⟩):=by simpa [Array.getD_eq_getD_getElem?] using h4
 have h5' : tmps[5]?.getD undef = .int .i64 0:=by simpa [Array.getD_eq_getD_getElem?] using h5
 have h6' : tmps[6]?.getD undef = .int .i64 0:=by simpa [Array.getD_eq_getD_getElem?] using h6
 obtain ⟨h0,h1,h2⟩:=hc
 simp [results,Tryz.results200,go_sem,h4',h5',h6',h0,h1,h2,valPt]
theorem jParse_any (s : ByteArray) (A : Option Addr) (nn cn : Nat) (names : List (List UInt8)) (pat : Pat) (w : World) (hA : Rd w 1 A (names.map encNm)) (hAl : ∀ x,A = some x→x.block < w.heap.size) (hl : names.length = nn) (hn : nmsOk names = true) (hP : patOf names s.data.toList = some pat) :
  Calls Tryz.prog 200 #[.string s,.slice A nn cn] w fun e w'=>∃ v,e = .returned (.tuple #[valPt v,.int .i64 0,.int .i64 0])∧PatX w' (fun b=>w.heap.size≤b) pat v∧Below w.heap.size w w':=by
 obtain ⟨hsz,rest,k',hp⟩:=patOf_some hP
 generalize 4*s.data.toList.length+8 = F at hp
 rw [size_data] at hsz
 have hnz:=nms_len hn
 rw [hl] at hnz
 have hs6 : s.size≤1000000:=by omega
 have hn6 : nn≤1000000:=by omega
 have HN:=Lib.hid (jNames_ok A nn cn names (w.alloc (.cells #[.int .i64 0,.slice none 0 0,.slice none 0 0] 207)) (hA.alloc _) hl hn)
 have HP:=Lib.hid (fun q W (h : RS W q s A nn cn names 0 0 0)=>jpat_all q s A nn cn names hs6 hn6 F F 0 0 0 k' pat rest W (Nat.le_refl F) h (Nat.zero_le _) (Nat.zero_le _) (Nat.zero_le _) hp)
 have HA:=Lib.hid hA
 have HAl:=Lib.hid hAl
 have Hl:=Lib.hid hl
 have h4096 : ¬ 4096 < s.size:=by omega
 clear hA hAl hl hn hP hp hsz hs6 hn6
 go_enter Tryz.func200,Tryz.ntmps200
 go_wp2_with fail
 refine HN.out.mono ?_
 rintro e w1 ⟨rfl,q,rfl⟩
 have hB1 : Blk ((w.alloc (.cells #[.int .i64 0,.slice none 0 0,.slice none 0 0] 207)).drewN q) w.heap.size 207 #[.int .i64 0,.slice none 0 0,.slice none 0 0]:=(Blk.new w _ _).drewN q
 have hb1 : Below w.heap.size w ((w.alloc (.cells #[.int .i64 0,.slice none 0 0,.slice none 0 0] 207)).drewN q):=below_drewN ((Below.refl w.heap.size w).alloc (Nat.le_refl _) _) q
 have hz1 : ((w.alloc (.cells #[.int .i64 0,.slice none 0 0,.slice none 0 0] 207)).drewN q).heap.size = w.heap.size+1:=by simp
 generalize (w.alloc (.cells #[.int .i64 0,.slice none 0 0,.slice none 0 0] 207)).drewN q = V at hB1 hb1 hz1 ⊢
 have hR2 : RS (V.alloc (.cells #[.string s,.int .i64 0,.slice A nn cn,.int .i64 0,.int .i64 0,.int .i64 0,.int .i64 0] 259)) V.heap.size s A nn cn names 0 0 0:=⟨Blk.new V _ _,(HA.out.belowB hb1 HAl.out).alloc _,Hl.out,fun x hx=>by have:=HAl.out x hx;constructor <;> (simp;omega)⟩
 have hB2:=hB1.alloc (.cells #[.string s,.int .i64 0,.slice A nn cn,.int .i64 0,.int .i64 0,.int .i64 0,.int .i64 0] 259)
 have hb2:=hb1.alloc (by omega) (.cells #[.string s,.int .i64 0,.slice A nn cn,.int .i64 0,.int .i64 0,.int .i64 0,.int .i64 0] 259)
 have hz2 : (V.alloc (.cells #[.string s,.int .i64 0,.slice A nn cn,.int .i64 0,.int .i64 0,.int .i64 0,.int .i64 0] 259)).heap.size = w.heap.size+2:=by simp;omega
 rw [hz1] at hR2
 have HP2:=Lib.hid (HP.out _ _ hR2)
 clear HN HP hB1 hb1 hR2
 go_wp2_with fail
 refine HP2.out.mono ?_
 rintro e w5 hq
 obtain ⟨v,x5,rfl,hr5,_,_,hg5,hp5⟩:=hq
 have hB5:=hB2.grown hg5 (fun e=>by injection e with e;omega)
 have hb5 : Below w.heap.size w w5:=hb2.trans (below_only hg5 (by omega) (by omega))
 have c5:=hr5.c5
 obtain ⟨v0,⟨A1,n1,c1'⟩,⟨A2,n2,c2'⟩⟩:=v
 simp only [valPt]
 have hal : Below w5.heap.size w5 (w5.alloc (.cells #[.int .i64 (v0 : Int),.slice A1 n1 c1',.slice A2 n2 c2'] 207)):=(Below.refl w5.heap.size w5).alloc (Nat.le_refl _) _
 have hz5:=hg5.size
 have hB6:=hB5.below hal
 have hp6 : PatX (w5.alloc (.cells #[.int .i64 (v0 : Int),.slice A1 n1 c1',.slice A2 n2 c2'] 207)) (fun b=>w.heap.size+1≤b) pat (v0,(A1,n1,c1'),(A2,n2,c2')):=(hp5.keep (KeepX.same (fun b h _=>by omega))).below hal
 have hb6 : Below w.heap.size w (w5.alloc (.cells #[.int .i64 (v0 : Int),.slice A1 n1 c1',.slice A2 n2 c2'] 207)):=hb5.alloc (by omega) _
 have hr6:=hr5.below hal
 have hN6 : Blk (w5.alloc (.cells #[.int .i64 (v0 : Int),.slice A1 n1 c1',.slice A2 n2 c2'] 207)) w5.heap.size 207 #[.int .i64 (v0 : Int),.slice A1 n1 c1',.slice A2 n2 c2']:=Blk.new _ _ _
 clear hB5 hp5 hb5 hr5 hB2 hb2 hg5 c5 HP2
 go_upto_region 7 with fail
 generalize w5.alloc (.cells #[.int .i64 (v0 : Int),.slice A1 n1 c1',.slice A2 n2 c2'] 207) = U at hB6 hp6 hb6 hr6 hN6 ⊢
 generalize w5.heap.size = g at hN6 ⊢
 clear hal
 have c5:=hr6.c5
 have z0:=hB6.cell 0
 have z1:=hB6.cell 1
 have z2:=hB6.cell 2
 have m0:=hN6.cell 0
 have m1:=hN6.cell 1
 have m2:=hN6.cell 2
 simp only [zG,zI,zH] at z0 z1 z2 m0 m1 m2
 have g0:=hB6.frozen 0
 have g1:=hB6.frozen 1
 have g2:=hB6.frozen 2
 have hf:=((hB6.set_ 0 (.int .i64 (v0 : Int))).set_ 1 (.slice A1 n1 c1')).set_ 2 (.slice A2 n2 c2')
 have hg8 : U.grownBy (((U.setCell ⟨w.heap.size,0,none⟩ (.int .i64 (v0 : Int))).setCell ⟨w.heap.size,1,none⟩ (.slice A1 n1 c1')).setCell ⟨w.heap.size,2,none⟩ (.slice A2 n2 c2')) (some w.heap.size):=only_setCell (only_setCell (only_setCell (only_refl _ _) (p:=⟨w.heap.size,0,none⟩) (.inl rfl) _) (p:=⟨w.heap.size,1,none⟩) (.inl rfl) _) (p:=⟨w.heap.size,2,none⟩) (.inl rfl) _
 have HF:=Lib.hid hf
 have HX:=Lib.hid (hp6.keep ((KeepX.grown hg8 (fun r hr h=>by injection hr with hr;subst hr;omega)).trans (KeepX.same (X':=fun b=>w.heap.size≤b) (fun b h _=>by omega))))
 have HB:=Lib.hid (hb6.trans (below_only hg8 (by have:=hB6.lt;omega) (Nat.le_refl _)))
 clear hf hg8 hp6 hb6 hr6 hB6 hN6
 go_wp2
 have hf:=HF.out
 simp only [zD,zE,zF] at hf
 refine bodyPost_ret (res_parse5 _ w.heap.size (v0,(A1,n1,c1'),(A2,n2,c2')) _ rfl rfl rfl (PCell.of_blk hf)) rfl ?_
 exact ⟨_,rfl,HX.out,HB.out⟩
end
section
open Go.RowKit
end
end Go.Proofs.YtglmcknlnoknoaaGreatDoor
