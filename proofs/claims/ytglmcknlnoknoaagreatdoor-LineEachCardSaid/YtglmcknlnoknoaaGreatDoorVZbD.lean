/- -/
import Derived.Deep.CutRange
import Derived.Deep.RegionHeld3
import Derived.Test.YtglmcknlnoknoaaGreatDoorV8a
namespace Go.Proofs.YtglmcknlnoknoaaGreatDoor
set_option maxRecDepth 100000
set_option maxHeartbeats 40000000
section
open Go.RowKit
theorem decideM_drop {rest : Bool} {c : List Nat} {a i : Nat} {rules : List RuleP} {r : RuleP} (h : rules[i]? = some r) : decideM rest c a (rules.drop i) = if mayB (sideP r) (c.getD (a - 1) 0) (c.getD a 0) && appliesB r c a then r.cut else decideM rest c a (rules.drop (i+1)):=by
 obtain ⟨hi,e⟩:=List.getElem?_eq_some_iff.1 h
 rw [List.drop_eq_getElem_cons hi,e]
 rfl
theorem Rd.atSd {w : World} {A : Option Addr} {l : List Sdv} {k : Nat} {x : Sdv} (h : Rd w 4 A (l.map encSd)) (hk : l[k]? = some x) :
  ∃ b off,A = some ⟨b,off,none⟩∧w.cell? ⟨b,off+k*4,none⟩ = some (.slice x.1.1 x.1.2.1 x.1.2.2)∧w.cell? ⟨b,off+k*4+1,none⟩ = some (.slice x.2.1.1 x.2.1.2.1 x.2.1.2.2)∧w.cell? ⟨b,off+k*4+2,none⟩ = some (.bool x.2.2.1)∧w.cell? ⟨b,off+k*4+3,none⟩ = some (.bool x.2.2.2):=by
 obtain ⟨b,off,e,hc⟩:=h (by intro e;cases l with | nil=>simp at hk | cons _ _=>simp at e)
 have hg:=fun j (y : Value) (hy : (encSd x)[j]? = some y)=>hc k j (encSd x) y (by simp [hk]) hy
 exact ⟨b,off,e,hg 0 _ rfl,hg 1 _ rfl,hg 2 _ rfl,hg 3 _ rfl⟩
theorem getD_ofN {C : List Nat} {i x : Nat} (h : C[i]? = some x) : C.getD i 0 = x:=by rw [List.getD_eq_getElem?_getD,h];rfl
theorem side_len (r : RuleP) (h : RuleOk r) : (sideP r).left.length≤131072∧(sideP r).right.length≤131072:=by
 have key : ∀ l : List Nat,(sortU l).length≤l.length:=fun l=>by
  have : ∀ (l out : List Nat),(l.foldl insU out).length≤out.length+l.length:=fun l=>by
   induction l with
   | nil=>intro out;simp
   | cons x l ih=>intro out;rw [List.foldl_cons,List.length_cons];have:=ih (insU out x);have:=insU_len out x;omega
  have:=this l []
  simpa [sortU] using this
 have h1:=firsts_len (revP r.left) (rev_good r.left h.left)
 have h2:=firsts_len r.right h.right
 rw [rev_size] at h1
 have:=h.sl
 have:=h.sr
 exact ⟨Nat.le_trans (key _) (by omega),Nat.le_trans (key _) (by omega)⟩
theorem zBounds_any (base p x : Nat) (d : DbP) (rules : List RuleP) (rest : Bool) (v : Sv) (X : Nat→Prop) (s : ByteArray) (w : World) (hd : RfB w base p x d.names d.full) (ho : d.Ok) (hap : Apart d.sets) (hr : RsX w X rules v) (hok : ∀ r ∈ rules,RuleOk r) (hz : rules.length≤64) (hs : s.size≤90000) :
  Calls Tryz.prog 100 #[.pointer (some ⟨p,0,none⟩),valRs v rest,.string s] w fun e w'=>∃ (A : Option Addr) (k c : Nat),e = .returned (.slice A k c)∧Own w' w.heap.size 3 1 A k c ((boundsM rules rest d.get s).map encN)∧Below w.heap.size w w':=by
 obtain ⟨i0,hi0,hz0,hz1,hz2⟩:=info_parts infoInt
 obtain ⟨A,m,dd⟩:=v
 have hm:=hr.len
 simp only at hm
 have HRn:=Lib.hid (fun W=>sRunes_any s W (by omega))
 have HCl:=Lib.hid (fun (px : Nat) (A1 : Option Addr) (n1 c1 : Nat) W (h : Below w.heap.size w W) (h1 : W.cell? ⟨px,0,none⟩ = some (.pointer (some ⟨p,0,none⟩))) (h2 : Rd W 3 A1 ((runesP s).map encRn)) (h3 : (runesP s).length = n1)=>zclasses_any base p x px d (runesP s) A1 n1 c1 W h1 (hd.below h) ho hap h2 h3 (by have:=runesP_len s;omega))
 have HSi:=Lib.hid (fun W (h : Below w.heap.size w W)=>zsides_any X rules rest (A,m,dd) W (hr.below h) hok hz)
 obtain ⟨XR,HX⟩ : ∃ L,Hid (runesP s = L):=⟨_,Lib.hid rfl⟩
 have hXz : XR.length≤90000:=by rw [← HX.out];exact Nat.le_trans (runesP_len s) hs
 obtain ⟨C,HC⟩ : ∃ L,Hid (XR.map (fun (x : Nat × Nat × Nat)=>d.get (x.1 : Nat)) = L):=⟨_,Lib.hid rfl⟩
 have HCe : Hid (XR.map (fun (x : Nat × Nat × Nat)=>encN (d.get (x.1 : Nat))) = C.map encN):=Lib.hid (by rw [← HC.out,List.map_map];rfl)
 have HCz : Hid (C.length = XR.length):=Lib.hid (by rw [← HC.out,List.length_map])
 rw [HX.out] at HCl HRn
 rw [HCe.out] at HCl
 obtain ⟨fl,Hfl⟩ : ∃ fl : Nat→Bool,Hid (fl = fun i=>decide (i = 0) || decideM rest C i rules):=⟨_,Lib.hid rfl⟩
 have HV : Hid (boundsM rules rest d.get s = if s.size = 0 then [] else pickG XR ((List.range XR.length).map fl)++[s.size]):=Lib.hid (by
  unfold boundsM boundsX
  rw [HX.out,Hfl.out]
  have : clsG d.get XR = C:=HC.out
  rw [this])
 have HN0 : Hid (s.size = 0 ↔ XR.length = 0):=Lib.hid (by
  rw [← HX.out]
  constructor
  ·intro h;have:=runesP_len s;omega
  ·intro h
   have hc:=runesP_contig s
   rw [List.length_eq_zero_iff.1 h] at hc
   exact hc.symm)
 have HR:=Lib.hid hr
 have HOk:=Lib.hid hok
 have Hm:=Lib.hid hm
 have hmz : m≤64:=by omega
 unfold valRs at HSi ⊢
 simp only at HSi ⊢
 have hbR : Blk ((w.alloc (.cells #[.slice A m dd,.bool rest] 110)).alloc (.cells #[.pointer (some ⟨p,0,none⟩),.slice A m dd,.bool rest,.slice none 0 0,.slice none 0 0,.int .i64 0,.int .i64 0] 198)) w.heap.size 110 #[.slice A m dd,.bool rest]:=(Blk.new _ _ _).alloc _
 have hbS : Blk ((w.alloc (.cells #[.slice A m dd,.bool rest] 110)).alloc (.cells #[.pointer (some ⟨p,0,none⟩),.slice A m dd,.bool rest,.slice none 0 0,.slice none 0 0,.int .i64 0,.int .i64 0] 198)) (w.heap.size+1) 198 #[.pointer (some ⟨p,0,none⟩),.slice A m dd,.bool rest,.slice none 0 0,.slice none 0 0,.int .i64 0,.int .i64 0]:=by
  have:=Blk.new (w.alloc (.cells #[.slice A m dd,.bool rest] 110)) 198 #[.pointer (some ⟨p,0,none⟩),.slice A m dd,.bool rest,.slice none 0 0,.slice none 0 0,.int .i64 0,.int .i64 0]
  rw [World.size_alloc] at this
  exact this
 have Hz : Below w.heap.size w ((w.alloc (.cells #[.slice A m dd,.bool rest] 110)).alloc (.cells #[.pointer (some ⟨p,0,none⟩),.slice A m dd,.bool rest,.slice none 0 0,.slice none 0 0,.int .i64 0,.int .i64 0] 198)):=((Below.refl _ _).alloc (Nat.le_refl _) _).alloc (by simp) _
 clear hr hok hm hz hd
 go_enter Tryz.func100,Tryz.ntmps100
 go_wp2_with fail
 generalize ((w.alloc (.cells #[.slice A m dd,.bool rest] 110)).alloc (.cells #[.pointer (some ⟨p,0,none⟩),.slice A m dd,.bool rest,.slice none 0 0,.slice none 0 0,.int .i64 0,.int .i64 0] 198)) = w2 at hbR hbS Hz ⊢
 refine (HRn.out w2).mono ?_
 rintro e w3 ⟨A1,n1,c1,rfl,ho1,hb3⟩
 have hn1 : XR.length = n1:=by have:=ho1.len;rwa [List.length_map] at this
 have hr1:=ho1.rd (by decide)
 have h3:=below_two Hz hb3
 have s3:=(hbS.below hb3).cell 0
 simp only [zG,zH] at s3
 have HC3:=Lib.hid (HCl.out _ A1 n1 c1 w3 h3 s3 hr1 hn1)
 clear HCl HRn ho1 s3 hbS
 go_wp2_with fail
 refine HC3.out.mono ?_
 rintro e w4 ⟨A2,c2,rfl,ho2,hb4⟩
 have h4:=below_two h3 hb4
 have hr1':=hr1.below hb4
 have q4:=((hbR.below hb3).below hb4).cell 0
 have q5:=((hbR.below hb3).below hb4).cell 1
 simp only [zG,zI,zH] at q4 q5
 have HS4:=Lib.hid (HSi.out w4 h4)
 clear HC3 HSi hr1
 go_wp2_with fail
 refine HS4.out.mono ?_
 rintro e w5 ⟨A3,k3,c3,vs,rfl,ho3,hS3,hk3,hb5⟩
 have h5:=below_two h4 hb5
 have hr1w:=hr1'.below hb5
 have hcl:=(ho2.below hb5).rd (by decide)
 have hcc:=ho2.cap.1
 have q0:=cell_keep q4 hb5
 have q1:=cell_keep q5 hb5
 have hrs:=HR.out.below h5
 have hk3m : k3 = m:=by have:=Hm.out;omega
 subst hk3m
 have Hn1:=Lib.hid hn1
 have hCz : C.length = n1:=by have:=HCz.out;omega
 have HCn:=Lib.hid hCz
 have hn1z : n1≤90000:=by omega
 clear HS4 q4 q5 hr1' ho2 hk3 hn1 hCz hbR hb3 hb4 hb5 h3 h4 hXz
 by_cases h0 : n1 = 0
 ·subst h0
  have HE : Hid (boundsM rules rest d.get s = []):=Lib.hid (by rw [HV.out,if_pos (HN0.out.2 Hn1.out)])
  go_wp2_with fail
  go_loopw [11,12,13,14] (fun u z _ _ wr=>u = .slice none 0 0∧z = .int .i64 0∧wr = w5) (fun _ _ _ _ _=>0)
  case atStart=>exact ⟨rfl,rfl,rfl⟩
  case round =>
   obtain ⟨rfl,rfl,rfl⟩:=hrel
   go_wp2
   go_ret
   refine ⟨none,0,0,rfl,?_,h5⟩
   rw [HE.out]
   exact Own.nil_ _ _ _ _
 ·have hn1p : 0 < n1:=by omega
  have HPs : Hid (∀ i R a z,i < n1→XR[i]? = some (R,a,z)→pickG (XR.take (i+1)) ((List.range (i+1)).map fl) = pickG (XR.take i) ((List.range i).map fl)++(if fl i then [a] else [])):=Lib.hid (fun i R a z hi h=>by
   rw [take_snoc h,List.range_succ,List.map_append,List.map_cons,List.map_nil,pickG_snoc _ _ _ _ (by rw [List.length_take,List.length_map,List.length_range];have:=Hn1.out;omega)])
  go_wp2_with fail
  go_loopw [11,12,13,14] (fun u z _ _ wr=>∃ (i : Nat) (B : Option Addr) (k c' : Nat) (L : List Nat),u = .slice B k c'∧z = .int .i64 i∧i≤n1+1∧k≤i∧Hid (L = if i≤n1 then pickG (XR.take i) ((List.range i).map fl) else pickG (XR.take n1) ((List.range n1).map fl)++[s.size])∧Own wr w5.heap.size 3 1 B k c' (L.map encN)∧Below w5.heap.size w5 wr) (fun _ z _ _ _=>n1+1 - (intOf z).toNat)
  case atStart=>exact ⟨0,none,0,0,[],rfl,rfl,by omega,by omega,Lib.hid (by rw [if_pos (Nat.zero_le _)];simp [pickG]),Own.nil_ _ _ _ _,Below.refl _ _⟩
  case round =>
   obtain ⟨i,B,k,c',L,rfl,rfl,hi,hki,HL,ho',hb⟩:=hrel
   have hwr:=below_two h5 hb
   have hrz:=hb.size
   by_cases hiN : i≤n1
   ·obtain ⟨fi,Hfi⟩ : ∃ fi,Hid (fi = (decide (i = n1) || fl i)):=⟨_,Lib.hid rfl⟩
    obtain ⟨bb,Hbb⟩ : ∃ bb,Hid (bb = (decide (i = 0) || decide (i = n1))):=⟨_,Lib.hid rfl⟩
    go_upto_region 9 with fail
    go_cut [13] from 37 to 46 (fun t wx=>t = .bool bb∧wx = wr)
    case first =>
     by_cases hi0' : i = 0
     ·subst hi0'
      have hbt : bb = true:=by rw [Hbb.out];rfl
      subst hbt
      go_wp2
      go_meet
      exact ⟨rfl,rfl⟩
     ·have ti : ((i : Int) == 0) = false:=beq_eq_false_iff_ne.2 (by omega)
      by_cases hin : i = n1
      ·subst hin
       have hbt : bb = true:=by rw [Hbb.out];simp
       subst hbt
       go_wp2
       go_meet
       exact ⟨rfl,rfl⟩
      ·have tn : ((i : Int) == (n1 : Int)) = false:=beq_eq_false_iff_ne.2 (by omega)
       have hbt : bb = false:=by rw [Hbb.out];simp [hi0',hin]
       subst hbt
       go_wp2
       go_meet
       exact ⟨rfl,rfl⟩
    case rest =>
    obtain ⟨rfl,hwc⟩:=hcut
    replace hwc:=hwc.symm
    subst hwc
    go_upto_if 46 with fail
    go_cut [13] from 47 to 85 (fun t wx=>t = .bool fi∧Below wr.heap.size wr wx)
    case first =>
     cases bb with
     | true =>
      have hft : fi = true:=by
       have h:=Hbb.out
       rw [Hfi.out,Hfl.out]
       have h2 : i = 0∨i = n1:=by simpa using h.symm
       rcases h2 with h | h <;> simp [h]
      subst hft
      go_wp2
      go_meet
      exact ⟨rfl,Below.refl _ _⟩
     | false =>
      have hbn : ¬ i = 0∧¬ i = n1:=by have h:=Hbb.out;simpa using h.symm
      obtain ⟨hb0,hb1⟩:=hbn
      have hi0' : 0 < i:=by omega
      have hin : i < n1:=by omega
      have HfM : Hid (fi = decideM rest C i rules):=Lib.hid (by rw [Hfi.out,Hfl.out];simp [show ¬ i = 0 by omega,show ¬ i = n1 by omega])
      have qr1:=cell_keep q1 hb
      obtain ⟨i0',Hi0⟩ : ∃ i0',Hid (i = i0'+1):=⟨i - 1,Lib.hid (by omega)⟩
      obtain ⟨ca,hca⟩ : ∃ ca,C[i0']? = some ca:=⟨_,List.getElem?_eq_getElem (by have:=HCn.out;have:=Hi0.out;omega)⟩
      obtain ⟨cb,hcb⟩ : ∃ cb,C[i]? = some cb:=⟨_,List.getElem?_eq_getElem (by have:=HCn.out;omega)⟩
      obtain ⟨bc,oc,rfl,kca⟩:=hcl.atNa hca
      obtain ⟨bc',oc',e',kcb⟩:=hcl.atNa hcb
      injection e' with e'
      injection e' with e1 e2 _
      subst e1
      subst e2
      have Hcab : Hid (C.getD (i - 1) 0 = ca∧C.getD i 0 = cb):=Lib.hid ⟨getD_ofN (by rw [show i - 1 = i0' by have:=Hi0.out;omega];exact hca),getD_ofN hcb⟩
      have ei : (i : Int) - 1 = (i0' : Int):=by have:=Hi0.out;omega
      have hi0n : i0' < n1:=by have:=Hi0.out;omega
      have ew : IntKind.i64.wrap (i0' : Int) = (i0' : Int):=IntWalk.i64_in _ (by omega)
      have hin1 : i < n1:=by omega
      have Hin : Hid (0 < i∧i < n1):=Lib.hid ⟨by omega,by omega⟩
      obtain ⟨wo,hwo⟩ : ∃ wo,wo = wr:=⟨_,rfl⟩
      subst hwo
      clear hca hcb hb0 hb1 hiN
      go_wp2_with fail
      go_loopw [13,14] (fun t z wq=>∃ j : Nat,t = .bool rest∧z = .int .i64 j∧j≤k3∧Hid (decideM rest C i rules = decideM rest C i (rules.drop j))∧Below wo.heap.size wo wq) (fun _ z _=>k3 - (intOf z).toNat)
      case atStart=>exact ⟨0,rfl,rfl,by omega,Lib.hid rfl,Below.refl _ _⟩
      case round =>
       obtain ⟨j,rfl,rfl,hj,HD,hbq⟩:=hrel
       have hb5q:=below_two hb hbq
       have hwq:=below_two hwr hbq
       have qq0:=cell_keep q0 hb5q
       by_cases hjk : j < k3
       ·obtain ⟨r,hri⟩ : ∃ r,rules[j]? = some r:=⟨_,List.getElem?_eq_getElem (by have:=Hm.out;omega)⟩
        obtain ⟨u,hu⟩ : ∃ u,vs[j]? = some u:=⟨_,List.getElem?_eq_getElem (by have:=hS3.len;omega)⟩
        obtain ⟨bs,os,rfl,y0,y1,y2,y3⟩:=(ho3.rd (by decide)).atSd hu
        have hsd:=hS3.at_ j r u hri hu
        obtain ⟨⟨u1,un,uc⟩,⟨v1,vn,vc⟩,ul,ur⟩:=u
        obtain ⟨br,or_,ur',e,hru,x0,x1,x2,x3,x4,x5,x6,x7,x8⟩:=(HR.out.below hwq).at_ hri
        simp only at e y0 y1 y2 y3
        subst e
        have HruB:=Lib.hid (fun V (h : Below wr.heap.size wr V)=>hru.below h)
        have hcut:=hru.cut
        have HAp:=Lib.hid (fun V (h : Below wr.heap.size wr V)=>oApplies_any C bc oc n1 c2 i HCn.out (by omega) hcc Hin.out.1 Hin.out.2 X r ur' V (hru.below h) (HOk.out r (List.mem_of_getElem? hri)) ((hcl.below hb5q).below h))
        obtain ⟨r1,r2,r3,⟨o4,⟨A4,n4,c4⟩,⟨B4,m4,d4⟩⟩,⟨o5,⟨A5,n5,c5⟩,⟨B5,m5,d5⟩⟩⟩:=ur'
        simp only at x0 x1 x2 x3 x4 x5 x6 x7 x8 hcut
        unfold valRu at HAp
        simp only at HAp
        have hl1 : (sideP r).left.length = un:=own_empty hsd.left
        have hl2 : (sideP r).right.length = vn:=own_empty hsd.right
        have hszs:=side_len r (HOk.out r (List.mem_of_getElem? hri))
        have HM:=Lib.hid (fun V (h : Below wr.heap.size wr V)=>zmay_any (sideP r).left (sideP r).right u1 v1 un uc vn vc ul ur ca cb V (((hsd.left.rd (by decide)).below hb5q).below h) hl1 (((hsd.right.rd (by decide)).below hb5q).below h) hl2 (by omega) (by omega))
        have hmv : mayB ⟨(sideP r).left,(sideP r).right,ul,ur⟩ ca cb = mayB (sideP r) ca cb:=by
         have h1:=hsd.noL
         have h2:=hsd.noR
         simp only at h1 h2
         rw [h1,h2]
        rw [hmv] at HM
        have HDn : Hid (decideM rest C i rules = if mayB (sideP r) ca cb && appliesB r C i then r1 else decideM rest C i (rules.drop (j+1))):=Lib.hid (by rw [HD.out,decideM_drop hri,Hcab.out.1,Hcab.out.2,hcut])
        generalize mayB (sideP r) ca cb = my at HM HDn
        generalize appliesB r C i = ap at HAp HDn
        replace y0:=cell_keep y0 hb5q
        replace y1:=cell_keep y1 hb5q
        replace y2:=cell_keep y2 hb5q
        replace y3:=cell_keep y3 hb5q
        have kca':=cell_keep kca hb5q
        have kcb':=cell_keep kcb hb5q
        have HS : Hid (∀ V,Below wr.heap.size wr V→V.cell? ⟨bs,os+j*4,none⟩ = some (.slice u1 un uc)∧V.cell? ⟨bs,os+j*4+1,none⟩ = some (.slice v1 vn vc)∧V.cell? ⟨bs,os+j*4+2,none⟩ = some (.bool ul)∧V.cell? ⟨bs,os+j*4+3,none⟩ = some (.bool ur)∧V.cell? ⟨bc,oc+i0',none⟩ = some (.int .i64 (ca : Nat))∧V.cell? ⟨bc,oc+i,none⟩ = some (.int .i64 (cb : Nat))∧V.cell? ⟨w.heap.size,0,none⟩ = some (.slice (some ⟨br,or_,none⟩) k3 dd)∧V.cell? ⟨br,or_+j*9,none⟩ = some (.bool r1)∧V.cell? ⟨br,or_+j*9+1,none⟩ = some (.bool r2)∧V.cell? ⟨br,or_+j*9+2,none⟩ = some (.bool r3)∧V.cell? ⟨br,or_+j*9+3,none⟩ = some (.int .i64 (o4 : Int))∧V.cell? ⟨br,or_+j*9+4,none⟩ = some (.slice A4 n4 c4)∧V.cell? ⟨br,or_+j*9+5,none⟩ = some (.slice B4 m4 d4)∧V.cell? ⟨br,or_+j*9+6,none⟩ = some (.int .i64 (o5 : Int))∧V.cell? ⟨br,or_+j*9+7,none⟩ = some (.slice A5 n5 c5)∧V.cell? ⟨br,or_+j*9+8,none⟩ = some (.slice B5 m5 d5)):=Lib.hid (fun V h=>⟨cell_keep y0 h,cell_keep y1 h,cell_keep y2 h,cell_keep y3 h,cell_keep kca' h,cell_keep kcb' h,cell_keep qq0 h,cell_keep x0 h,cell_keep x1 h,cell_keep x2 h,cell_keep x3 h,cell_keep x4 h,cell_keep x5 h,cell_keep x6 h,cell_keep x7 h,cell_keep x8 h⟩)
        clear hri hu hsd hru hcut hl1 hl2 hszs hmv
        cases my with
        | false =>
         go_wp2_with fail
         refine wp_region_held_drew (S:=fun V=>V.cell? ⟨bs,os+j*4,none⟩ = some (.slice u1 un uc)∧V.cell? ⟨bs,os+j*4+1,none⟩ = some (.slice v1 vn vc)∧V.cell? ⟨bs,os+j*4+2,none⟩ = some (.bool ul)∧V.cell? ⟨bs,os+j*4+3,none⟩ = some (.bool ur)∧V.cell? ⟨bc,oc+i0',none⟩ = some (.int .i64 (ca : Nat))∧V.cell? ⟨bc,oc+i,none⟩ = some (.int .i64 (cb : Nat))∧V.cell? ⟨w.heap.size,0,none⟩ = some (.slice (some ⟨br,or_,none⟩) k3 dd)∧V.cell? ⟨br,or_+j*9,none⟩ = some (.bool r1)∧V.cell? ⟨br,or_+j*9+1,none⟩ = some (.bool r2)∧V.cell? ⟨br,or_+j*9+2,none⟩ = some (.bool r3)∧V.cell? ⟨br,or_+j*9+3,none⟩ = some (.int .i64 (o4 : Int))∧V.cell? ⟨br,or_+j*9+4,none⟩ = some (.slice A4 n4 c4)∧V.cell? ⟨br,or_+j*9+5,none⟩ = some (.slice B4 m4 d4)∧V.cell? ⟨br,or_+j*9+6,none⟩ = some (.int .i64 (o5 : Int))∧V.cell? ⟨br,or_+j*9+7,none⟩ = some (.slice A5 n5 c5)∧V.cell? ⟨br,or_+j*9+8,none⟩ = some (.slice B5 m5 d5)) (by kernel_rfl) (HS.out _ (Below.refl _ _).drew) (fun hHeld=>?_)
         refine tkH (i:=0) (v:=?_) rfl ?_ ?_;rotate_left;focus ((intro w hSw;(try dsimp only at hSw);go_simp);try with_reducible rfl)
         (try simp only [Act.put,zA,zC,zD,zE,zF])
         refine tkH (i:=1) (v:=?_) rfl ?_ ?_;rotate_left;focus ((intro w hSw;(try dsimp only at hSw);go_simp);try with_reducible rfl)
         (try simp only [Act.put,zA,zB,zC,zD,zE,zF])
         refine tkH (i:=2) (v:=?_) rfl ?_ ?_;rotate_left;focus ((intro w hSw;(try dsimp only at hSw);go_simp);try with_reducible rfl)
         (try simp only [Act.put,zA,zB,zC,zD,zE,zF])
         refine tkH (i:=3) (v:=?_) rfl ?_ ?_;rotate_left;focus ((intro w hSw;(try dsimp only at hSw);go_simp);try with_reducible rfl)
         (try simp only [Act.put,zA,zB,zC,zD,zE,zF])
         refine tkH (i:=4) (v:=?_) rfl ?_ ?_;rotate_left;focus ((intro w hSw;(try dsimp only at hSw);go_simp);try with_reducible rfl)
         (try simp only [Act.put,zA,zB,zC,zD,zE,zF])
         refine tkH (i:=5) (v:=?_) rfl ?_ ?_;rotate_left;focus ((intro w hSw;(try dsimp only at hSw);go_simp);try with_reducible rfl)
         (try simp only [Act.put,zA,zB,zC,zD,zE,zF])
         refine tkH (i:=6) (v:=?_) rfl ?_ ?_;rotate_left;focus ((intro w hSw;(try dsimp only at hSw);go_simp);try with_reducible rfl)
         (try simp only [Act.put,zA,zB,zC,zD,zE,zF])
         refine tkH (i:=7) (v:=?_) rfl ?_ ?_;rotate_left;focus ((intro w hSw;(try dsimp only at hSw);go_simp);try with_reducible rfl)
         (try simp only [Act.put,zA,zB,zC,zD,zE,zF])
         refine tkH (i:=8) (v:=?_) rfl ?_ ?_;rotate_left;focus ((intro w hSw;(try dsimp only at hSw);go_simp);try with_reducible rfl)
         (try simp only [Act.put,zA,zB,zC,zD,zE,zF])
         refine tkH (i:=9) (v:=?_) rfl ?_ ?_;rotate_left;focus ((intro w hSw;(try dsimp only at hSw);go_simp);try with_reducible rfl)
         (try simp only [Act.put,zA,zB,zC,zD,zE,zF])
         refine tkH (i:=10) (v:=?_) rfl ?_ ?_;rotate_left;focus ((intro w hSw;(try dsimp only at hSw);go_simp);try with_reducible rfl)
         (try simp only [Act.put,zA,zB,zC,zD,zE,zF])
         refine tkH (i:=11) (v:=?_) rfl ?_ ?_;rotate_left;focus ((intro w hSw;(try dsimp only at hSw);go_simp);try with_reducible rfl)
         (try simp only [Act.put,zA,zB,zC,zD,zE,zF])
         refine tkH (i:=12) (v:=?_) rfl ?_ ?_;rotate_left;focus ((intro w hSw;(try dsimp only at hSw);go_simp);try with_reducible rfl)
         (try simp only [Act.put,zA,zB,zC,zD,zE,zF])
         refine wpAnyH_ready (rs:=[13]) (by kernel_rfl) (by simp) ?_
         refine AllReadyH.cons rfl (fun K hK=>?_) AllReadyH.nil
         go_simp
         refine (HM.out wr.drew (Below.refl _ _).drew).mono ?_
         rintro e w5 ⟨rfl,hb5⟩
         have hB5:=(Below.refl wr.heap.size wr).drew.trans hb5
         refine hK.out _ _ (HS.out _ hB5) (fun hHeld=>?_)
         clear hK K
         (try simp only [Act.put,zA,zB,zC,zD,zE,zF])
         refine tkH (i:=14) (v:=?_) rfl ?_ ?_;rotate_left;focus ((intro w hSw;(try dsimp only at hSw);go_simp);try with_reducible rfl)
         (try simp only [Act.put,zA,zB,zC,zD,zE,zF])
         refine wpAnyH_take (i:=15) (v:=undef) rfl (by kernel_rfl) (by kernel_rfl) (by kernel_rfl) (fun _ _ _ h=>h) (Or.inr ⟨by rfl,rfl⟩) (by assumption) ?_
         (try simp only [Act.put,zA,zB,zC,zD,zE,zF])
         refine wpAnyH_take (i:=16) (v:=undef) rfl (by kernel_rfl) (by kernel_rfl) (by kernel_rfl) (fun _ _ _ h=>h) (Or.inr ⟨by rfl,rfl⟩) (by assumption) ?_
         (try simp only [Act.put,zA,zB,zC,zD,zE,zF])
         refine wpAnyH_take (i:=17) (v:=undef) rfl (by kernel_rfl) (by kernel_rfl) (by kernel_rfl) (fun _ _ _ h=>h) (Or.inr ⟨by rfl,rfl⟩) (by assumption) ?_
         (try simp only [Act.put,zA,zB,zC,zD,zE,zF])
         refine wpAnyH_take (i:=18) (v:=undef) rfl (by kernel_rfl) (by kernel_rfl) (by kernel_rfl) (fun _ _ _ h=>h) (Or.inr ⟨by rfl,rfl⟩) (by assumption) ?_
         (try simp only [Act.put,zA,zB,zC,zD,zE,zF])
         refine wpAnyH_take (i:=19) (v:=undef) rfl (by kernel_rfl) (by kernel_rfl) (by kernel_rfl) (fun _ _ _ h=>h) (Or.inr ⟨by rfl,rfl⟩) (by assumption) ?_
         (try simp only [Act.put,zA,zB,zC,zD,zE,zF])
         refine wpAnyH_take (i:=20) (v:=undef) rfl (by kernel_rfl) (by kernel_rfl) (by kernel_rfl) (fun _ _ _ h=>h) (Or.inr ⟨by rfl,rfl⟩) (by assumption) ?_
         (try simp only [Act.put,zA,zB,zC,zD,zE,zF])
         refine wpAnyH_take (i:=21) (v:=undef) rfl (by kernel_rfl) (by kernel_rfl) (by kernel_rfl) (fun _ _ _ h=>h) (Or.inr ⟨by rfl,rfl⟩) (by assumption) ?_
         (try simp only [Act.put,zA,zB,zC,zD,zE,zF])
         refine wpAnyH_take (i:=22) (v:=undef) rfl (by kernel_rfl) (by kernel_rfl) (by kernel_rfl) (fun _ _ _ h=>h) (Or.inr ⟨by rfl,rfl⟩) (by assumption) ?_
         (try simp only [Act.put,zA,zB,zC,zD,zE,zF])
         refine tkH (i:=23) (v:=?_) rfl ?_ ?_;rotate_left;focus ((intro w hSw;(try dsimp only at hSw);go_simp);try with_reducible rfl)
         (try simp only [Act.put,zA,zB,zC,zD,zE,zF])
         refine wpAnyH_done (by kernel_rfl) ?_ _
         go_wp2
         go_roundw
         case rel=>exact ⟨j+1,rfl,by go_num,by omega,Lib.hid (by rw [HDn.out];rfl),below_two hbq hB5⟩
         case measure=>simp [intOf];omega
        | true =>
         go_wp2_with fail
         refine wp_region_held_drew (S:=fun V=>V.cell? ⟨bs,os+j*4,none⟩ = some (.slice u1 un uc)∧V.cell? ⟨bs,os+j*4+1,none⟩ = some (.slice v1 vn vc)∧V.cell? ⟨bs,os+j*4+2,none⟩ = some (.bool ul)∧V.cell? ⟨bs,os+j*4+3,none⟩ = some (.bool ur)∧V.cell? ⟨bc,oc+i0',none⟩ = some (.int .i64 (ca : Nat))∧V.cell? ⟨bc,oc+i,none⟩ = some (.int .i64 (cb : Nat))∧V.cell? ⟨w.heap.size,0,none⟩ = some (.slice (some ⟨br,or_,none⟩) k3 dd)∧V.cell? ⟨br,or_+j*9,none⟩ = some (.bool r1)∧V.cell? ⟨br,or_+j*9+1,none⟩ = some (.bool r2)∧V.cell? ⟨br,or_+j*9+2,none⟩ = some (.bool r3)∧V.cell? ⟨br,or_+j*9+3,none⟩ = some (.int .i64 (o4 : Int))∧V.cell? ⟨br,or_+j*9+4,none⟩ = some (.slice A4 n4 c4)∧V.cell? ⟨br,or_+j*9+5,none⟩ = some (.slice B4 m4 d4)∧V.cell? ⟨br,or_+j*9+6,none⟩ = some (.int .i64 (o5 : Int))∧V.cell? ⟨br,or_+j*9+7,none⟩ = some (.slice A5 n5 c5)∧V.cell? ⟨br,or_+j*9+8,none⟩ = some (.slice B5 m5 d5)) (by kernel_rfl) (HS.out _ (Below.refl _ _).drew) (fun hHeld=>?_)
         refine tkH (i:=0) (v:=?_) rfl ?_ ?_;rotate_left;focus ((intro w hSw;(try dsimp only at hSw);go_simp);try with_reducible rfl)
         (try simp only [Act.put,zA,zC,zD,zE,zF])
         refine tkH (i:=1) (v:=?_) rfl ?_ ?_;rotate_left;focus ((intro w hSw;(try dsimp only at hSw);go_simp);try with_reducible rfl)
         (try simp only [Act.put,zA,zB,zC,zD,zE,zF])
         refine tkH (i:=2) (v:=?_) rfl ?_ ?_;rotate_left;focus ((intro w hSw;(try dsimp only at hSw);go_simp);try with_reducible rfl)
         (try simp only [Act.put,zA,zB,zC,zD,zE,zF])
         refine tkH (i:=3) (v:=?_) rfl ?_ ?_;rotate_left;focus ((intro w hSw;(try dsimp only at hSw);go_simp);try with_reducible rfl)
         (try simp only [Act.put,zA,zB,zC,zD,zE,zF])
         refine tkH (i:=4) (v:=?_) rfl ?_ ?_;rotate_left;focus ((intro w hSw;(try dsimp only at hSw);go_simp);try with_reducible rfl)
         (try simp only [Act.put,zA,zB,zC,zD,zE,zF])
         refine tkH (i:=5) (v:=?_) rfl ?_ ?_;rotate_left;focus ((intro w hSw;(try dsimp only at hSw);go_simp);try with_reducible rfl)
         (try simp only [Act.put,zA,zB,zC,zD,zE,zF])
         refine tkH (i:=6) (v:=?_) rfl ?_ ?_;rotate_left;focus ((intro w hSw;(try dsimp only at hSw);go_simp);try with_reducible rfl)
         (try simp only [Act.put,zA,zB,zC,zD,zE,zF])
         refine tkH (i:=7) (v:=?_) rfl ?_ ?_;rotate_left;focus ((intro w hSw;(try dsimp only at hSw);go_simp);try with_reducible rfl)
         (try simp only [Act.put,zA,zB,zC,zD,zE,zF])
         refine tkH (i:=8) (v:=?_) rfl ?_ ?_;rotate_left;focus ((intro w hSw;(try dsimp only at hSw);go_simp);try with_reducible rfl)
         (try simp only [Act.put,zA,zB,zC,zD,zE,zF])
         refine tkH (i:=9) (v:=?_) rfl ?_ ?_;rotate_left;focus ((intro w hSw;(try dsimp only at hSw);go_simp);try with_reducible rfl)
         (try simp only [Act.put,zA,zB,zC,zD,zE,zF])
         refine tkH (i:=10) (v:=?_) rfl ?_ ?_;rotate_left;focus ((intro w hSw;(try dsimp only at hSw);go_simp);try with_reducible rfl)
         (try simp only [Act.put,zA,zB,zC,zD,zE,zF])
         refine tkH (i:=11) (v:=?_) rfl ?_ ?_;rotate_left;focus ((intro w hSw;(try dsimp only at hSw);go_simp);try with_reducible rfl)
         (try simp only [Act.put,zA,zB,zC,zD,zE,zF])
         refine tkH (i:=12) (v:=?_) rfl ?_ ?_;rotate_left;focus ((intro w hSw;(try dsimp only at hSw);go_simp);try with_reducible rfl)
         (try simp only [Act.put,zA,zB,zC,zD,zE,zF])
         refine wpAnyH_ready (rs:=[13]) (by kernel_rfl) (by simp) ?_
         refine AllReadyH.cons rfl (fun K hK=>?_) AllReadyH.nil
         go_simp
         refine (HM.out wr.drew (Below.refl _ _).drew).mono ?_
         rintro e w5 ⟨rfl,hb5⟩
         have hB5:=(Below.refl wr.heap.size wr).drew.trans hb5
         refine hK.out _ _ (HS.out _ hB5) (fun hHeld=>?_)
         clear hK K
         (try simp only [Act.put,zA,zB,zC,zD,zE,zF])
         refine tkH (i:=14) (v:=?_) rfl ?_ ?_;rotate_left;focus ((intro w hSw;(try dsimp only at hSw);go_simp);try with_reducible rfl)
         (try simp only [Act.put,zA,zB,zC,zD,zE,zF])
         refine tkH (i:=15) (v:=?_) rfl ?_ ?_;rotate_left;focus ((intro w hSw;(try dsimp only at hSw);go_simp);try with_reducible rfl)
         (try simp only [Act.put,zA,zB,zC,zD,zE,zF])
         refine tkH (i:=16) (v:=?_) rfl ?_ ?_;rotate_left;focus ((intro w hSw;(try dsimp only at hSw);go_simp);try with_reducible rfl)
         (try simp only [Act.put,zA,zB,zC,zD,zE,zF])
         refine tkH (i:=17) (v:=?_) rfl ?_ ?_;rotate_left;focus ((intro w hSw;(try dsimp only at hSw);go_simp);try with_reducible rfl)
         (try simp only [Act.put,zA,zB,zC,zD,zE,zF])
         refine tkH (i:=18) (v:=?_) rfl ?_ ?_;rotate_left;focus ((intro w hSw;(try dsimp only at hSw);go_simp);try with_reducible rfl)
         (try simp only [Act.put,zA,zB,zC,zD,zE,zF])
         refine tkH (i:=19) (v:=?_) rfl ?_ ?_;rotate_left;focus ((intro w hSw;(try dsimp only at hSw);go_simp);try with_reducible rfl)
         (try simp only [Act.put,zA,zB,zC,zD,zE,zF])
         refine tkH (i:=20) (v:=?_) rfl ?_ ?_;rotate_left;focus ((intro w hSw;(try dsimp only at hSw);go_simp);try with_reducible rfl)
         (try simp only [Act.put,zA,zB,zC,zD,zE,zF])
         refine tkH (i:=21) (v:=?_) rfl ?_ ?_;rotate_left;focus ((intro w hSw;(try dsimp only at hSw);go_simp);try with_reducible rfl)
         (try simp only [Act.put,zA,zB,zC,zD,zE,zF])
         refine wpAnyH_ready (rs:=[22]) (by kernel_rfl) (by simp) ?_
         refine AllReadyH.cons rfl (fun K hK=>?_) AllReadyH.nil
         go_simp
         refine (HAp.out w5 hB5).mono ?_
         rintro e w6 ⟨rfl,hb6⟩
         have hB6:=below_two hB5 hb6
         refine hK.out _ _ (HS.out _ hB6) (fun hHeld=>?_)
         clear hK K
         (try simp only [Act.put,zA,zB,zC,zD,zE,zF])
         refine tkH (i:=23) (v:=?_) rfl ?_ ?_;rotate_left;focus ((intro w hSw;(try dsimp only at hSw);go_simp);try with_reducible rfl)
         (try simp only [Act.put,zA,zB,zC,zD,zE,zF])
         refine wpAnyH_done (by kernel_rfl) ?_ _
         cases ap with
         | false =>
          go_wp2
          go_roundw
          case rel=>exact ⟨j+1,rfl,by go_num,by omega,Lib.hid (by rw [HDn.out];rfl),below_two hbq hB6⟩
          case measure=>simp [intOf];omega
         | true =>
          have hfr : fi = r1:=by rw [HfM.out,HDn.out];rfl
          subst hfr
          obtain ⟨-,-,-,-,-,-,qn0,xn0,-⟩:=HS.out w6 hB6
          go_wp2
          go_meet
          exact ⟨rfl,below_two hbq hB6⟩
       ·obtain rfl : j = k3:=by omega
        have hfr : fi = rest:=by rw [HfM.out,HD.out,List.drop_eq_nil_of_le (by have:=Hm.out;omega)];rfl
        subst hfr
        go_wp2
        go_meet
        exact ⟨rfl,hbq⟩
    case rest =>
    obtain ⟨rfl,hbc⟩:=hcut
    have hb':=below_two hb hbc
    have ho'':=ho'.below hbc
    have hsz':=hb'.size
    have hkz : k≤90001:=by omega
    by_cases hin : i = n1
    ·have hft : fi = true:=by rw [Hfi.out,decide_eq_true hin];rfl
     subst hft
     subst hin
     have HLn : Hid (L++[s.size] = if i+1≤i then pickG (XR.take (i+1)) ((List.range (i+1)).map fl) else pickG (XR.take i) ((List.range i).map fl)++[s.size]):=Lib.hid (by rw [HL.out,if_pos (Nat.le_refl _),if_neg (by omega)])
     go_wp2_with (at_builtin;go_must (refine wpList_app rfl (.tmp 102) (.tmp 105) _ rfl w5.heap.size 3 i0 _ 1 8 Tryz.underlying52 hi0 hz0 hz1 hz2 rfl (by omega) B k c' (L.map encN) rfl (ho''.alloc _) _ 1 1 [encN s.size] rfl rfl (Rd.newAt (by simp) rfl) (encN_ok' [s.size]) (by unfold maxLen;omega) (by omega) (by simp;omega) ?_);intro A9 c9 w9 ho9 hg9 hA9)
     have hb9:=below_app (hb'.alloc hsz' (.cells #[.int .i64 (s.size : Nat)] 3)) hg9 (by simp;omega) (fun a ha=>(ho''.lt a ha).1)
     go_roundw
     case rel=>exact ⟨i+1,A9,k+1,c9,L++[s.size],rfl,by go_num,by omega,by omega,HLn,by rw [List.map_append];exact ho9,hb9⟩
     case measure=>simp [intOf]
    ·have hin1 : i < n1:=by omega
     obtain ⟨⟨R,pa,qa⟩,hxi⟩ : ∃ x,XR[i]? = some x:=⟨_,List.getElem?_eq_getElem (by have:=Hn1.out;omega)⟩
     obtain ⟨br,or_,rfl,-,ka,-⟩:=hr1w.atRn hxi
     replace ka:=cell_keep ka hb'
     have HPi:=Lib.hid (HPs.out i R pa qa hin1 hxi)
     have hff : fi = fl i:=by rw [Hfi.out,decide_eq_false hin];rfl
     rw [← hff] at HPi
     have Hx2:=Lib.hid (show pa≤s.size by have h1:=List.mem_of_getElem? hxi;rw [← HX.out] at h1;have h2:=runesP_bd _ h1;simp only at h2;omega)
     clear hxi hff
     cases fi with
     | true =>
      have HLn : Hid (L++[pa] = if i+1≤n1 then pickG (XR.take (i+1)) ((List.range (i+1)).map fl) else pickG (XR.take n1) ((List.range n1).map fl)++[s.size]):=Lib.hid (by rw [HL.out,if_pos hiN,if_pos (by omega),HPi.out];rfl)
      go_wp2_with (at_builtin;go_must (refine wpList_app rfl (.tmp 93) (.tmp 99) _ rfl w5.heap.size 3 i0 _ 1 8 Tryz.underlying52 hi0 hz0 hz1 hz2 rfl (by omega) B k c' (L.map encN) rfl (ho''.alloc _) _ 1 1 [encN pa] rfl rfl (Rd.newAt (by simp) rfl) (encN_ok' [pa]) (by unfold maxLen;omega) (by omega) (by simp;omega) ?_);intro A9 c9 w9 ho9 hg9 hA9)
      have hb9:=below_app (hb'.alloc hsz' (.cells #[.int .i64 (pa : Nat)] 3)) hg9 (by simp;omega) (fun a ha=>(ho''.lt a ha).1)
      go_roundw
      case rel=>exact ⟨i+1,A9,k+1,c9,L++[pa],rfl,by go_num,by omega,by omega,HLn,by rw [List.map_append];exact ho9,hb9⟩
      case measure=>simp [intOf];omega
     | false =>
      have HLn : Hid (L = if i+1≤n1 then pickG (XR.take (i+1)) ((List.range (i+1)).map fl) else pickG (XR.take n1) ((List.range n1).map fl)++[s.size]):=Lib.hid (by rw [HL.out,if_pos hiN,if_pos (by omega),HPi.out];simp)
      go_wp2
      go_roundw
      case rel=>exact ⟨i+1,B,k,c',L,rfl,by go_num,by omega,by omega,HLn,ho'',hb'⟩
      case measure=>simp [intOf];omega
   ·obtain rfl : i = n1+1:=by omega
    have HE : Hid (boundsM rules rest d.get s = L):=Lib.hid (by rw [HV.out,if_neg (fun h=>by have:=HN0.out.1 h;have:=Hn1.out;omega),HL.out,if_neg (by omega),Hn1.out,List.take_of_length_le (by have:=Hn1.out;omega)])
    rw [← HE.out] at ho'
    obtain ⟨z,hz⟩ : ∃ z,n1+1 = z:=⟨_,rfl⟩
    have ez : ((n1 : Int)+1) = (z : Int):=by omega
    go_wp2
    go_ret
    exact ⟨B,k,c',rfl,ho'.more (by have:=h5.size;omega),hwr⟩
end
end Go.Proofs.YtglmcknlnoknoaaGreatDoor
