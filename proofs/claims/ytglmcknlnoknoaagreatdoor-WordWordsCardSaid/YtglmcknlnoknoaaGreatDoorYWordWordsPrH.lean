/- -/
import Derived.Test.YtglmcknlnoknoaaGreatDoorYWordWordsPrF
import Derived.Test.YtglmcknlnoknoaaGreatDoorYWordWords3a
namespace Go.Proofs.YtglmcknlnoknoaaGreatDoor
set_option maxRecDepth 100000
set_option maxHeartbeats 40000000
section
open Go.RowKit
def partsOf (w : World) (p : Nat) : Nat:=(intOf ((w.cell? ⟨p,4,none⟩).getD undef)).toNat
theorem RS.partsOf {w : World} {p : Nat} {s : ByteArray} {A : Option Addr} {nn cn : Nat} {names : List (List UInt8)} {a d k : Nat} (h : RS w p s A nn cn names a d k) : partsOf w p = k:=by unfold YtglmcknlnoknoaaGreatDoor.partsOf;rw [h.c4];simp [intOf]
theorem infoPatH : (Tryz.prog.info? 207).map (fun i=>(i.zero,i.size,i.bytes)) = some (some (.agg #[.int .i64 0,.slice none 0 0,.slice none 0 0]),3,56):=by kernel_rfl
theorem branchP_cases2 {ns : List (List UInt8)} {f d k k' : Nat} {acc : List Pat} {pat : Pat} {l rest : List UInt8} (h : branchP ns f d l k acc = some (pat,rest,k')) :
  ∃ c : UInt8,headN (skipB l) = c.toNat∧((pBegins c = false∧pat = seqOf acc∧rest = skipB l∧k' = k) ∨
   (pBegins c = true∧∃ r f' p l1 k1 q l2 k2,skipB l = c :: r∧f = f'+1∧atomP ns f' d c r k = some (p,l1,k1)∧opsGo f' p l1 k1 = some (q,l2,k2)∧branchP ns f' d l2 k2 (acc++[q]) = some (pat,rest,k'))):=by
 rcases branchP_cases h with ⟨hs,h1,h2,h3⟩ | ⟨c,r,hs,⟨hb,h1,h2,h3⟩ | ⟨hb,f',p,l1,k1,q,l2,k2,h1,h2,h3,h4⟩⟩
 ·exact ⟨0,by rw [hs];rfl,.inl ⟨by decide,h1,by rw [hs,h2],h3⟩⟩
 ·exact ⟨c,by rw [hs];rfl,.inl ⟨hb,h1,by rw [hs,h2],h3⟩⟩
 ·exact ⟨c,by rw [hs];rfl,.inr ⟨hb,r,f',p,l1,k1,q,l2,k2,hs,h1,h2,h3,h4⟩⟩
theorem begins_nb {c : UInt8} (h : pBegins c = true) : pBlank c = false:=by
 cases hb : pBlank c with
 | false=>rfl
 | true =>
  exfalso
  unfold pBlank at hb
  rw [Bool.or_eq_true,decide_eq_true_iff,decide_eq_true_iff] at hb
  unfold pBegins pLetter at h
  simp only [Bool.or_eq_true,Bool.and_eq_true,decide_eq_true_iff] at h
  omega
theorem seqOf_many {l : List Pat} (h : 2≤l.length) : seqOf l = .node 2 [] l:=by
 match l,h with
 | [],h=>simp at h
 | [_],h=>simp at h
 | _ :: _ :: _,_=>rfl
theorem ops_cases2 {f k k2 : Nat} {p q : Pat} {l l2 : List UInt8} (h : opsGo f p l k = some (q,l2,k2)) :
  ∃ c : UInt8,headN (skipB l) = c.toNat∧((pOper c = 0∧q = p∧l2 = skipB l∧k2 = k)∨(pOper c ≠ 0∧k < 512∧∃ r f',skipB l = c :: r∧opsGo f' (.node (pOper c) [] [p]) r (k+1) = some (q,l2,k2))):=by
 rcases opsGo_cases h with ⟨hs,h1,h2,h3⟩ | ⟨c,r,hs,⟨h0,h1,h2,h3⟩ | ⟨h0,hk,f',h1⟩⟩
 ·exact ⟨0,by rw [hs];rfl,.inl ⟨by decide,h1,by rw [hs,h2],h3⟩⟩
 ·exact ⟨c,by rw [hs];rfl,.inl ⟨h0,h1,by rw [hs,h2],h3⟩⟩
 ·exact ⟨c,by rw [hs];rfl,.inr ⟨h0,hk,r,f',hs,h1⟩⟩
def OffX (B : Nat) (A : Option Addr) (b : Nat) : Prop:=B≤b∧∀ a,A = some a→b ≠ a.block
theorem res_branch (w : World) (b : Nat) (v : Pv) (tmps : Array Value) (ht : tmps.getD 2 undef = .pointer (some ⟨b,0,none⟩)) (hc : PCell w b v) : (results Tryz.f282 tmps).run Tryz.prog w = .ok (valPt v) w:=by
 have ht' : tmps[2]?.getD undef = .pointer (some ⟨b,0,none⟩):=by simpa [Array.getD_eq_getD_getElem?] using ht
 obtain ⟨h0,h1,h2⟩:=hc
 simp [results,Tryz.results282,go_sem,ht',h0,h1,h2,valPt]
theorem jbranch_any (p : Nat) (s : ByteArray) (A : Option Addr) (nn cn : Nat) (names : List (List UInt8)) (a d k k' f : Nat) (rest : List UInt8) (pat : Pat) (w : World)
  (HAt : Hid (∀ (f' a k k' : Nat) (c : UInt8) (r : List UInt8) (pat : Pat) (rest : List UInt8) (W : World),f' < f→RS W p s A nn cn names a d k→a≤s.size→skipB (s.data.toList.drop a) = c :: r→atomP names f' d c r k = some (pat,rest,k')→Calls Tryz.prog 322 #[.pointer (some ⟨p,0,none⟩)] W (RdPost W p s A nn cn names d pat rest k')))
  (h : RS w p s A nn cn names a d k) (ha : a≤s.size) (hs : s.size≤1000000) (hk : k≤512)
  (hP : branchP names f d (s.data.toList.drop a) k [] = some (pat,rest,k')) :
  Calls Tryz.prog 282 #[.pointer (some ⟨p,0,none⟩)] w (RdPost w p s A nn cn names d pat rest k'):=by
 have hpw:=h.lt
 have HAw:=Lib.hid (fun x (hx : A = some x)=>(h.off x hx).2)
 have hw0:=h.below ((Below.refl w.heap.size w).alloc (Nat.le_refl _) (.cells #[.int .i64 0,.slice none 0 0,.slice none 0 0] 207))
 have hB0 : Blk (w.alloc (.cells #[.int .i64 0,.slice none 0 0,.slice none 0 0] 207)) w.heap.size 207 #[.int .i64 0,.slice none 0 0,.slice none 0 0]:=Blk.new w _ _
 have HS:=Lib.hid (fun x kk W (h : RS W p s A nn cn names x d kk) (hx : x≤s.size)=>jsees_any p s A nn cn names x d kk W h hx hs)
 have HP:=Lib.hid hP
 clear hP h
 go_enter Tryz.func282,Tryz.ntmps282
 go_wp2_with fail
 go_loopw [3,4,5] (fun v3 _ _ wr=>∃ (x kk f0 : Nat) (acc0 : List Pat) (A0 : Option Addr) (n0 c0 : Nat) (vs : List Pv),v3 = .slice A0 n0 c0∧f0≤f∧n0≤kk∧kk≤512∧RS wr p s A nn cn names x d kk∧Hid (branchP names f0 d (s.data.toList.drop x) kk acc0 = some (pat,rest,k'))∧x≤s.size∧w.grownBy wr (some p)∧Blk wr w.heap.size 207 #[.int .i64 0,.slice none 0 0,.slice none 0 0]∧Own wr (w.heap.size+1) 207 3 A0 n0 c0 (vs.map encPt)∧PatsX wr (OffX (w.heap.size+1) A0) acc0 vs) (fun _ _ _ wr=>512 - partsOf wr p)
 case atStart=>exact ⟨a,k,f,[],none,0,0,[],rfl,Nat.le_refl _,Nat.zero_le _,hk,hw0,HP,ha,only_alloc (only_refl w _) _,hB0,Own.nil_ _ _ _ _,by simp only [PatsX]⟩
 case round =>
  clear hw0 HP hB0
  obtain ⟨x,kk,f0,acc0,A0,n0,c0,vs,rfl,hf0,hn0,hkk,hr,HG,hx,hg,hB,ho,hps⟩:=hrel
  have Hat:=Lib.hid hr.partsOf
  have c5:=hr.c5
  obtain ⟨c,hc,hcs⟩:=branchP_cases2 HG.out
  have Hcs:=Lib.hid hcs
  have h0:=HS.out x kk _ hr hx
  rw [hc] at h0
  have HS1:=Lib.hid h0
  clear h0 hc hcs HG
  go_wp2_with fail
  refine HS1.out.mono ?_
  rintro e w5 ⟨rfl,x1,hr5,hd5,hx1,hg5⟩
  have HBg:=Lib.hid (jbegins_b c w5)
  have hB5:=hB.grown hg5 (fun e=>by injection e with e;omega)
  have ho5:=ho.grown hg5 (fun a ha e=>by have:=(ho.lt a ha).1;injection e with e;omega)
  have hps5:=hps.keep (KeepX.grown hg5 (fun r hr h=>by injection hr with hr;subst hr;have:=h.1;omega))
  have hgg:=only_trans hg hg5
  have Hd5:=Lib.hid hd5
  clear hr hB ho hps hg hg5 c5 HS1 hd5
  rcases Hcs.out with ⟨hbg,hpe,hre,hke⟩ | ⟨hbg,r,f',p1,l1,k1,q,l2,k2,hsk,hfe,hat,hop,hbr⟩
  ·rw [hbg] at HBg
   clear Hcs
   go_wp2_with fail
   refine HBg.out.mono ?_
   rintro e w6 ⟨rfl,rfl⟩
   have hvl : vs.length = n0:=by have:=ho5.len;simpa using this
   have hal:=hps5.len
   have z0:=hB5.cell 0
   have z1:=hB5.cell 1
   have z2:=hB5.cell 2
   simp only [zG,zI,zH] at z0 z1 z2
   have g0:=hB5.frozen 0
   have g1:=hB5.frozen 1
   have g2:=hB5.frozen 2
   by_cases h0n : n0 = 0
   ·subst h0n
    have hac : acc0 = []:=List.eq_nil_of_length_eq_zero (by omega)
    subst hac
    have HQ:=Lib.hid (pt_end (B:=w.heap.size+1) (pat:=.node 0 [] []) (0,(none,0,0),(none,0,0)) hB5 hr5 hpw HAw.out hgg (by omega) (by simp only [PatX];exact ⟨trivial,SlX.nil_ _ _ _,[],SlX.nil_ _ _ _,by simp only [PatsX]⟩))
    go_wp2
    obtain ⟨q1,q2,q3,q4⟩:=HQ.out
    refine bodyPost_ret (res_branch _ w.heap.size (0,(none,0,0),(none,0,0)) _ rfl (PCell.of_blk q1)) rfl ?_
    rw [hpe,hke]
    exact ⟨_,_,rfl,q2,by rw [Hd5.out,hre],hx1,q3,q4⟩
   ·have t0 : ((n0 : Int) == 0) = false:=by rw [beq_eq_false_iff_ne];omega
    by_cases h1n : n0 = 1
    ·subst h1n
     obtain ⟨v,rfl⟩ : ∃ v,vs = [v]:=List.length_eq_one_iff.1 hvl
     obtain ⟨p0,rfl⟩ : ∃ v,acc0 = [v]:=List.length_eq_one_iff.1 (by omega)
     obtain ⟨v',hv',hpv⟩:=hps5.at_ (k:=0) rfl
     injection hv' with hv'
     subst hv'
     obtain ⟨b0,off0,eA,e0,e1,e2⟩:=(SlX.own ho5 (by decide) (X:=fun b=>w.heap.size+1≤b) (fun a ha=>(ho5.lt a ha).1)).atPt (k:=0) rfl
     simp only at eA
     subst eA
     have HQ:=Lib.hid (pt_end (B:=w.heap.size+1) v hB5 hr5 hpw HAw.out hgg (by omega) (hpv.keep (KeepX.same (fun b h _=>h.1))))
     obtain ⟨v0,⟨A1,n1,c1'⟩,⟨A2,n2,c2'⟩⟩:=v
     simp only [Nat.zero_mul,Nat.add_zero] at e0 e1 e2
     go_wp2
     obtain ⟨q1,q2,q3,q4⟩:=HQ.out
     refine bodyPost_ret (res_branch _ w.heap.size (v0,(A1,n1,c1'),(A2,n2,c2')) _ rfl (PCell.of_blk q1)) rfl ?_
     rw [hpe,hke]
     exact ⟨_,_,rfl,q2,by rw [Hd5.out,hre],hx1,q3,q4⟩
    ·have t1 : ((n0 : Int) == 1) = false:=by rw [beq_eq_false_iff_ne];omega
     have HQ:=Lib.hid (pt_end (B:=w.heap.size+1) (pat:=.node 2 [] acc0) (2,(none,0,0),(A0,n0,c0)) hB5 hr5 hpw HAw.out hgg (by omega) (by simp only [PatX];exact ⟨trivial,SlX.nil_ _ _ _,vs,SlX.own ho5 (by decide) (fun a ha=>(ho5.lt a ha).1),hps5.keep (KeepX.same (fun b h _=>h.1))⟩))
     go_wp2
     obtain ⟨q1,q2,q3,q4⟩:=HQ.out
     refine bodyPost_ret (res_branch _ w.heap.size (2,(none,0,0),(A0,n0,c0)) _ rfl (PCell.of_blk q1)) rfl ?_
     rw [hpe,hke,seqOf_many (by omega)]
     exact ⟨_,_,rfl,q2,by rw [Hd5.out,hre],hx1,q3,q4⟩
  ·rw [hbg] at HBg
   clear Hcs
   go_wp2_with fail
   refine HBg.out.mono ?_
   rintro e w6 ⟨rfl,rfl⟩
   have HA1:=Lib.hid (HAt.out f' x1 kk k1 c r p1 l1 w5 (by omega) hr5 hx1 (by rw [Hd5.out,hsk];exact skip_stop (begins_nb hbg)) hat)
   go_wp2_with fail
   refine HA1.out.mono ?_
   rintro e w7 hq
   obtain ⟨v1,x2,rfl,hr7,hd7,hx7,hg7,hp7⟩:=hq
   obtain ⟨v0,⟨A1,n1,c1'⟩,⟨A2,n2,c2'⟩⟩:=v1
   obtain ⟨hk5,hku⟩:=(parts_up names f').2.2.2 hat
   have hal : Below w7.heap.size w7 (w7.alloc (.cells #[.int .i64 (v0 : Int),.slice A1 n1 c1',.slice A2 n2 c2'] 207)):=(Below.refl w7.heap.size w7).alloc (Nat.le_refl _) _
   have hN8 : Blk (w7.alloc (.cells #[.int .i64 (v0 : Int),.slice A1 n1 c1',.slice A2 n2 c2'] 207)) w7.heap.size 207 #[.int .i64 (v0 : Int),.slice A1 n1 c1',.slice A2 n2 c2']:=Blk.new _ _ _
   have hr8:=hr7.below hal
   have hB8:=(hB5.grown hg7 (fun e=>by injection e with e;omega)).below hal
   have ho8:=(ho5.grown hg7 (fun a ha e=>by have:=(ho5.lt a ha).1;injection e with e;omega)).below hal
   have hg8:=only_below (only_trans hgg hg7) hal
   have hz5:=hB5.lt
   have hz7:=hg7.size
   have hA0 : ∀ a,A0 = some a→a.block < w5.heap.size:=fun a ha=>(ho5.lt a ha).2
   have hps8 : PatsX (w7.alloc (.cells #[.int .i64 (v0 : Int),.slice A1 n1 c1',.slice A2 n2 c2'] 207)) (fun b=>OffX (w.heap.size+1) A0 b∧b ≠ w7.heap.size) acc0 vs:=((hps5.keep (KeepX.grown hg7 (fun r hr h=>by injection hr with hr;subst hr;have:=h.1;omega))).keep (KeepX.same (fun b h hb=>⟨h,by omega⟩))).below hal
   have hp8 : PatX (w7.alloc (.cells #[.int .i64 (v0 : Int),.slice A1 n1 c1',.slice A2 n2 c2'] 207)) (fun b=>OffX (w.heap.size+1) A0 b∧b ≠ w7.heap.size) p1 (v0,(A1,n1,c1'),(A2,n2,c2')):=PatX.below (hp7.keep (KeepX.same (fun b h hb=>⟨⟨by omega,fun a ha e=>by have:=hA0 a ha;omega⟩,by omega⟩))) hal
   have HO2:=Lib.hid hop
   have HBr:=Lib.hid hbr
   clear HA1 hop hbr hat hp7 hr7 hsk HBg hbg
   simp only [valPt]
   go_wp2_with fail
   generalize w7.alloc (.cells #[.int .i64 (v0 : Int),.slice A1 n1 c1',.slice A2 n2 c2'] 207) = V at hr8 hN8 hB8 ho8 hps8 hg8 hp8 ⊢
   clear hal hps5 ho5 hB5 hr5 hg7 hgg
   generalize w7.heap.size = g at hN8 hp8 hps8 hz7 ⊢
   go_loopw [5] (fun _ wr=>∃ (y k9 f9 : Nat) (p9 : Pat) (v9 : Pv),RS wr p s A nn cn names y d k9∧Hid (opsGo f9 p9 (s.data.toList.drop y) k9 = some (q,l2,k2))∧y≤s.size∧kk < k9∧k9≤512∧w.grownBy wr (some p)∧Blk wr w.heap.size 207 #[.int .i64 0,.slice none 0 0,.slice none 0 0]∧Own wr (w.heap.size+1) 207 3 A0 n0 c0 (vs.map encPt)∧PatsX wr (fun b=>OffX (w.heap.size+1) A0 b∧b ≠ g) acc0 vs∧Blk wr g 207 #[.int .i64 (v9.1 : Int),.slice v9.2.1.1 v9.2.1.2.1 v9.2.1.2.2,.slice v9.2.2.1 v9.2.2.2.1 v9.2.2.2.2]∧PatX wr (fun b=>OffX (w.heap.size+1) A0 b∧b ≠ g) p9 v9) (fun _ wr=>512 - partsOf wr p)
   case atStart=>exact ⟨x2,k1,f',p1,(v0,(A1,n1,c1'),(A2,n2,c2')),hr8,by rw [hd7];exact HO2,hx7,hku.1,hku.2 (by omega),hg8,hB8,ho8,hps8,hN8,hp8⟩
   case round =>
    clear hr8 hN8 hB8 ho8 hps8 hg8 hp8 hd7 HO2
    obtain ⟨y,k9,f9,p9,v9,hr,HO,hy,hk9,hk9',hg,hB,ho,hps,hN,hp9⟩:=hrel
    have Hat9:=Lib.hid hr.partsOf
    obtain ⟨co,hco,hcs2⟩:=ops_cases2 HO.out
    have Hcs2:=Lib.hid hcs2
    have c5:=hr.c5
    have h0:=HS.out y k9 _ hr hy
    rw [hco] at h0
    have HS2:=Lib.hid h0
    clear h0 hco hcs2 HO
    go_wp2_with fail
    refine HS2.out.mono ?_
    rintro e w9 ⟨rfl,y1,hr9,hd9,hy1,hg9⟩
    have HOp:=Lib.hid (joper_b co w9)
    have hgp : g ≠ p:=by omega
    have hB9:=hB.grown hg9 (fun e=>by injection e with e;omega)
    have ho9:=ho.grown hg9 (fun a ha e=>by have:=(ho.lt a ha).1;injection e with e;omega)
    have hps9:=hps.keep (KeepX.grown hg9 (fun r hr h=>by injection hr with hr;subst hr;have:=h.1.1;omega))
    have hN9:=hN.grown hg9 (fun e=>by injection e with e;omega)
    have hpp:=hp9.keep (KeepX.grown hg9 (fun r hr h=>by injection hr with hr;subst hr;have:=h.1.1;omega))
    have hgg9:=only_trans hg hg9
    have Hd9:=Lib.hid hd9
    clear hr hB ho hps hN hp9 hg hg9 hd9 HS2 c5
    rcases Hcs2.out with ⟨hz,hqe,hle,hke⟩ | ⟨hz,hk5,r9,f8,hsk9,hop9⟩
    ·rw [hz] at HOp
     go_wp2_with fail
     refine HOp.out.mono ?_
     rintro e w6 ⟨rfl,rfl⟩
     obtain ⟨i0,hi0,hz0,hz1,hz2⟩:=info_parts infoPatH
     have e0:=hN9.cell 0
     have e1:=hN9.cell 1
     have e2:=hN9.cell 2
     simp only [zG,zI,zH] at e0 e1 e2
     have T1:=ho9.alloc (.cells #[.int .i64 (v9.1 : Int),.slice v9.2.1.1 v9.2.1.2.1 v9.2.1.2.2,.slice v9.2.2.1 v9.2.2.2.1 v9.2.2.2.2] 207)
     have T3 : w.heap.size+1≤(w9.alloc (.cells #[.int .i64 (v9.1 : Int),.slice v9.2.1.1 v9.2.1.2.1 v9.2.1.2.2,.slice v9.2.2.1 v9.2.2.2.1 v9.2.2.2.2] 207)).heap.size:=by have:=hB9.lt;simp;omega
     have T2 : (n0+1)*56≤140737488355328:=by omega
     have T4 : ∀ y ∈ [encPt v9],y.length = 3∧∀ u ∈ y,u.oneCell' = true:=fun y hy=>by
      simp only [List.mem_singleton] at hy
      subst hy
      refine ⟨rfl,fun u hu=>?_⟩
      simp only [encPt,List.mem_cons,List.not_mem_nil,or_false] at hu
      rcases hu with rfl | rfl | rfl <;> rfl
     have T5 : Rd (w9.alloc (.cells #[.int .i64 (v9.1 : Int),.slice v9.2.1.1 v9.2.1.2.1 v9.2.1.2.2,.slice v9.2.2.1 v9.2.2.2.1 v9.2.2.2.2] 207)) 3 (some ⟨w9.heap.size,0,none⟩) [encPt v9]:=Rd.newAt (by simp) rfl
     have T6 : n0+1≤maxLen:=by unfold maxLen;omega
     go_wp2_with (at_builtin;refine wpList_app rfl (.tmp 45) (.tmp 47) _ rfl (w.heap.size+1) 207 i0 _ 3 56 Tryz.underlying205 hi0 hz0 hz1 hz2 rfl (by omega) A0 n0 c0 (vs.map encPt) rfl T1 _ 1 1 [encPt v9] rfl rfl T5 T4 T6 T2 T3 ?_;intro A3 c3 w10 ho10 hg10 hA10)
     have hb10 : Below w.heap.size w9 w10:=below_app ((Below.refl w.heap.size w9).alloc (by have:=hB9.lt;omega) _) hg10 (by have:=hB9.lt;simp;omega) (fun a ha=>by have:=(ho9.lt a ha).1;omega)
     have hr10:=hr9.belowB hb10 hpw HAw.out
     have HG10 : Hid (branchP names f' d (s.data.toList.drop y1) k9 (acc0++[p9]) = some (pat,rest,k')):=Lib.hid (by
      have h:=HBr.out
      rw [hqe,hle,hke] at h
      rw [Hd9.out];exact h)
     have hg10' : w.grownBy w10 (some p):=⟨hb10.os.trans hgg9.os,hb10.tape.trans hgg9.tape,hb10.output.trans hgg9.output,Nat.le_trans hgg9.size hb10.size,fun i hi hne=>(hb10.block i hi).trans (hgg9.block i hi hne)⟩
     have hNE : some w.heap.size ≠ A0.map (·.block):=fun e=>by
      cases hA1 : A0 with
      | none=>rw [hA1] at e;cases e
      | some a=>rw [hA1] at e;injection e with e;have e2 : w.heap.size = a.block:=e;have:=(ho9.lt a hA1).1;omega
     have hB10:=(hB9.alloc (.cells #[.int .i64 (v9.1 : Int),.slice v9.2.1.1 v9.2.1.2.1 v9.2.1.2.2,.slice v9.2.2.1 v9.2.2.2.1 v9.2.2.2.2] 207)).grown hg10 hNE
     have hkx : KeepX (OffX (w.heap.size+1) A0) (OffX (w.heap.size+1) A3) w9 w10:=(KeepX.below ((Below.refl w9.heap.size w9).alloc (Nat.le_refl _) (.cells #[.int .i64 (v9.1 : Int),.slice v9.2.1.1 v9.2.1.2.1 v9.2.1.2.2,.slice v9.2.2.1 v9.2.2.2.1 v9.2.2.2.2] 207))).trans ⟨hg10.size,fun b hb hl=>hg10.block b hl (fun e=>by
       cases hA1 : A0 with
       | none=>rw [hA1] at e;cases e
       | some a=>rw [hA1] at e;injection e with e;exact hb.2 a hA1 e),fun b hb hl=>⟨hb.1,fun a ha e=>by
       rcases hA10 with h1 | h1
       ·exact hb.2 a (by rw [← h1];exact ha) e
       ·rw [h1] at ha
        injection ha with ha
        subst ha
        simp at hl e
        omega⟩⟩
     have hps10:=PatsX.snoc (hpp.keep (KeepX.trans (KeepX.same (fun b hb _=>hb.1)) hkx)) (hps9.keep (KeepX.trans (KeepX.same (fun b hb _=>hb.1)) hkx))
     refine ⟨⟨y1,k9,f',acc0++[p9],A3,n0+1,c3,vs++[v9],rfl,by omega,by omega,hk9',hr10,HG10,hy1,hg10',hB10,by rw [List.map_append];exact ho10,hps10⟩,?_⟩
     rw [hr10.partsOf,Hat.out];omega
    ·have hys : y1 < s.size:=Nat.lt_of_not_le fun hle=>by
      have h1:=Hd9.out
      rw [drop_end s (by omega),hsk9] at h1
      cases h1
     have hdr9 : s.data.toList.drop (y1+1) = r9:=by
      obtain ⟨b',h1,_⟩:=byte_at s hys
      have h2:=Hd9.out
      rw [h1,hsk9] at h2
      injection h2
     have HOg : Hid (opsGo f8 (.node (pOper co) [] [p9]) (s.data.toList.drop (y1+1)) (k9+1) = some (q,l2,k2)):=Lib.hid (by rw [hdr9];exact hop9)
     have HC:=Lib.hid (jcounts_any p s A nn cn names y1 d k9 (y1 : Int) w9 hr9 hk5)
     have t0 : ((pOper co : Int) == 0) = false:=by rw [beq_eq_false_iff_ne];omega
     have c1:=hr9.c1
     have hz9:=hN9.lt
     clear hop9 hsk9 hdr9 Hd9
     go_wp2_with fail
     refine HOp.out.mono ?_
     rintro e w6 ⟨rfl,rfl⟩
     go_wp2_with fail
     refine HC.out.mono ?_
     rintro e w10 ⟨rfl,hr10,hg10⟩
     have hB10:=hB9.grown hg10 (fun e=>by injection e with e;omega)
     have ho10:=ho9.grown hg10 (fun a ha e=>by have:=(ho9.lt a ha).1;injection e with e;omega)
     have hps10:=hps9.keep (KeepX.grown hg10 (fun r hr h=>by injection hr with hr;subst hr;have:=h.1.1;omega))
     have hN10:=hN9.grown hg10 (fun e=>by injection e with e;omega)
     have hpp10:=hpp.keep (KeepX.grown hg10 (fun r hr h=>by injection hr with hr;subst hr;have:=h.1.1;omega))
     have hgg10:=only_trans hgg9 hg10
     clear hr9 hB9 ho9 hps9 hN9 hpp hgg9 hg10 c1 HC hz9
     have c1:=hr10.c1
     have f1:=hr10.f 1
     have hr11:=hr10.setAt (y1+1)
     have ez : ((y1+1 : Nat) : Int) = (y1 : Int)+1:=by omega
     rw [ez] at hr11
     have hB11:=hB10.far (p:=⟨p,1,none⟩) (by simp;omega) (.int .i64 ((y1 : Int)+1))
     have hN11:=hN10.far (p:=⟨p,1,none⟩) (by simp;omega) (.int .i64 ((y1 : Int)+1))
     have ho11:=ho10.setCell (p:=⟨p,1,none⟩) (fun a ha e=>by have:=(ho10.lt a ha).1;simp only at e;omega) (.int .i64 ((y1 : Int)+1))
     have hk11 : w10.grownBy (w10.setCell ⟨p,1,none⟩ (.int .i64 ((y1 : Int)+1))) (some p):=only_setCell (only_refl _ _) (p:=⟨p,1,none⟩) (.inl rfl) _
     have hps11:=hps10.keep (KeepX.grown hk11 (fun r hr h=>by injection hr with hr;subst hr;have:=h.1.1;omega))
     have hpp11:=hpp10.keep (KeepX.grown hk11 (fun r hr h=>by injection hr with hr;subst hr;have:=h.1.1;omega))
     have hg11:=only_trans hgg10 hk11
     clear hr10 hB10 ho10 hps10 hN10 hpp10 hgg10 hk11 ez
     go_upto_region 9 with fail
     clear c1 f1
     generalize w10.setCell ⟨p,1,none⟩ (.int .i64 ((y1 : Int)+1)) = V at hr11 hB11 hN11 ho11 hps11 hpp11 hg11 ⊢
     have e0:=hN11.cell 0
     have e1:=hN11.cell 1
     have e2:=hN11.cell 2
     simp only [zG,zI,zH] at e0 e1 e2
     have g0:=hN11.frozen 0
     have g1:=hN11.frozen 1
     have g2:=hN11.frozen 2
     have hVz:=hN11.lt
     have hgw : w.heap.size < g:=by omega
     have hgA : ∀ a,A0 = some a→a.block ≠ g:=fun a ha e=>by have:=hA0 a ha;omega
     have hAV : ∀ a,A0 = some a→a.block < V.heap.size:=fun a ha=>(ho11.lt a ha).2
     have hbU : Below w.heap.size V (((V.setCell ⟨g,0,none⟩ (.int .i64 (pOper co : Nat))).setCell ⟨g,1,none⟩ (.slice none 0 0)).setCell ⟨g,2,none⟩ (.slice (some ⟨V.heap.size,0,none⟩) 1 1)):=(((Below.refl _ _).setCell (p:=⟨g,0,none⟩) (by simp;omega) _).setCell (p:=⟨g,1,none⟩) (by simp;omega) _).setCell (p:=⟨g,2,none⟩) (by simp;omega) _
     have hgU : V.grownBy (((V.setCell ⟨g,0,none⟩ (.int .i64 (pOper co : Nat))).setCell ⟨g,1,none⟩ (.slice none 0 0)).setCell ⟨g,2,none⟩ (.slice (some ⟨V.heap.size,0,none⟩) 1 1)) (some g):=only_setCell (only_setCell (only_setCell (only_refl _ _) (p:=⟨g,0,none⟩) (.inl rfl) _) (p:=⟨g,1,none⟩) (.inl rfl) _) (p:=⟨g,2,none⟩) (.inl rfl) _
     have hN12:=((hN11.set_ 0 (.int .i64 (pOper co : Nat))).set_ 1 (.slice none 0 0)).set_ 2 (.slice (some ⟨V.heap.size,0,none⟩) 1 1)
     simp only [zD,zE,zF] at hN12
     have hr12:=hr11.belowB hbU hpw HAw.out
     have hkU : KeepX (fun b=>OffX (w.heap.size+1) A0 b∧b ≠ g) (fun b=>OffX (w.heap.size+1) A0 b∧b ≠ g) V (((V.setCell ⟨g,0,none⟩ (.int .i64 (pOper co : Nat))).setCell ⟨g,1,none⟩ (.slice none 0 0)).setCell ⟨g,2,none⟩ (.slice (some ⟨V.heap.size,0,none⟩) 1 1)):=KeepX.grown hgU (fun r hr h=>by injection hr with hr;exact h.2 hr.symm)
     have hg12:=only_setCell (only_setCell (only_setCell hg11 (p:=⟨g,0,none⟩) (.inr (by simp;omega)) (.int .i64 (pOper co : Nat))) (p:=⟨g,1,none⟩) (.inr (by simp;omega)) (.slice none 0 0)) (p:=⟨g,2,none⟩) (.inr (by simp;omega)) (.slice (some ⟨V.heap.size,0,none⟩) 1 1)
     have hB12:=((hB11.far (p:=⟨g,0,none⟩) (by simp;omega) (.int .i64 (pOper co : Nat))).far (p:=⟨g,1,none⟩) (by simp;omega) (.slice none 0 0)).far (p:=⟨g,2,none⟩) (by simp;omega) (.slice (some ⟨V.heap.size,0,none⟩) 1 1)
     have ho12:=((ho11.setCell (p:=⟨g,0,none⟩) hgA (.int .i64 (pOper co : Nat))).setCell (p:=⟨g,1,none⟩) hgA (.slice none 0 0)).setCell (p:=⟨g,2,none⟩) hgA (.slice (some ⟨V.heap.size,0,none⟩) 1 1)
     have hps12:=hps11.keep hkU
     have hpp12:=hpp11.keep hkU
     have hUz : (((V.setCell ⟨g,0,none⟩ (.int .i64 (pOper co : Nat))).setCell ⟨g,1,none⟩ (.slice none 0 0)).setCell ⟨g,2,none⟩ (.slice (some ⟨V.heap.size,0,none⟩) 1 1)).heap.size = V.heap.size:=by simp
     have HF:=Lib.hid (And.intro hB12 (And.intro hr12 (And.intro ho12 (And.intro hps12 (And.intro hpp12 (And.intro hg12 (And.intro hN12 hUz)))))))
     clear hB12 hr12 ho12 hps12 hpp12 hg12 hN12 hUz hkU hgU hbU hr11 hB11 hN11 ho11 hps11 hpp11 hg11
     go_wp2
     obtain ⟨hB12,hr12,ho12,hps12,hpp12,hg12,hN12,hUz⟩:=HF.out
     generalize ((V.setCell ⟨g,0,none⟩ (.int .i64 (pOper co : Nat))).setCell ⟨g,1,none⟩ (.slice none 0 0)).setCell ⟨g,2,none⟩ (.slice (some ⟨V.heap.size,0,none⟩) 1 1) = U at hB12 hr12 ho12 hps12 hpp12 hg12 hN12 hUz ⊢
     clear g0 g1 g2 HF
     have hbV : Below U.heap.size U (U.alloc (.cells #[.int .i64 (v9.1 : Int),.slice v9.2.1.1 v9.2.1.2.1 v9.2.1.2.2,.slice v9.2.2.1 v9.2.2.2.1 v9.2.2.2.2] 207)):=(Below.refl U.heap.size U).alloc (Nat.le_refl _) _
     have hr13:=hr12.below hbV
     have hR13 : Rd (U.alloc (.cells #[.int .i64 (v9.1 : Int),.slice v9.2.1.1 v9.2.1.2.1 v9.2.1.2.2,.slice v9.2.2.1 v9.2.2.2.1 v9.2.2.2.2] 207)) 3 (some ⟨V.heap.size,0,none⟩) ([v9].map encPt):=Rd.newAt hUz.symm rfl
     refine ⟨⟨y1+1,k9+1,f8,.node (pOper co) [] [p9],(pOper co,(none,0,0),(some ⟨V.heap.size,0,none⟩,1,1)),hr13,HOg,by omega,by omega,by omega,only_below hg12 hbV,hB12.below hbV,ho12.below hbV,hps12.below hbV,hN12.below hbV,?_⟩,?_⟩
     ·simp only [PatX]
      refine ⟨trivial,SlX.nil_ _ _ _,[v9],⟨hR13,rfl,fun a ha=>?_,Nat.le_refl _⟩,?_⟩
      ·injection ha with ha
       subst ha
       exact ⟨⟨⟨by simp;omega,fun a ha e=>by have:=hAV a ha;simp only at e;omega⟩,by simp;omega⟩,by simp;omega⟩
      ·simp only [PatsX]
       exact ⟨v9,[],rfl,hpp12.below hbV,rfl⟩
     ·rw [hr13.partsOf,Hat9.out];omega
end
end Go.Proofs.YtglmcknlnoknoaaGreatDoor
