/-
 Several texts in one,in their build order: PtI,PtJ,PtK,PtL,PtM,FiA,FiB,PrA,PtN,PtO,TrE.
-/
import Derived.Deep.CutRange
import Derived.Test.YtglmcknlnoknoaaGreatDoorVPtH
import Derived.Test.YtglmcknlnoknoaaGreatDoorV0b
import Derived.Test.YtglmcknlnoknoaaGreatDoorVRdr
/- -/
namespace Go.Proofs.YtglmcknlnoknoaaGreatDoor
set_option maxRecDepth 100000
set_option maxHeartbeats 40000000
section
open Go.RowKit
theorem thenP_snoc (c : List Nat) (p : Pat) : ∀ (l : List Pat) (m : Mtx),thenP c (l++[p]) m = behindM (c.length+1) (thenP c l m) (leadsP c p)
 | [],m=>by simp [thenP]
 | q :: r,m=>by rw [List.cons_append,thenP,thenP_snoc c p r,thenP]
theorem orP_snoc (c : List Nat) (p : Pat) : ∀ (l : List Pat) (m : Mtx),orP c (l++[p]) m = bothM (orP c l m) (leadsP c p)
 | [],m=>by simp [orP]
 | q :: r,m=>by rw [List.cons_append,orP,orP_snoc c p r,orP]
theorem take_snoc {α : Type} {l : List α} {i : Nat} {x : α} (h : l[i]? = some x) : l.take (i+1) = l.take i++[x]:=by rw [List.take_add_one,h];rfl
def setTo (c cs : List Nat) (z : Nat) : Mtx:=fun i k=>decide (i < z) && setM c cs i k
theorem setM_at {c cs : List Nat} {i x : Nat} (h : c[i]? = some x) (k : Nat) : setM c cs i k = (decide (k = i+1) && cs.contains x):=by unfold setM;rw [h];rfl
theorem setM_end {c cs : List Nat} {i : Nat} (h : c.length≤i) (k : Nat) : setM c cs i k = false:=by unfold setM;rw [List.getElem?_eq_none h];simp
def KidLeads (cl : List Nat) (C : Option Addr) (n c : Nat) (p : Pat) : Prop:=∀ (X : Nat→Prop) (v : Pv) (w : World),PatX w X p v→goodP 64 p = true→Rd w 1 C (cl.map encN) →
 Calls Tryz.prog 252 #[valPt v,.slice C n c] w (MtEnd w (cl.length+1) (leadsP cl p))
theorem MtEnd.rd {w : World} {n : Nat} {m : Mtx} {e : Ending} {w' : World} (h : MtEnd w n m e w') : ∃ A c C,e = .returned (.slice A n c)∧MtR w' (A,n,c) n (n / 64+1) C∧BitsM n C m∧Below w.heap.size w w':=by
 obtain ⟨A,c,rows,C,he,ho,hB,hbw⟩:=h
 exact ⟨A,c,C,he,ho.rd,hB,hbw⟩
section
variable {cl : List Nat} {C0 : Option Addr} {n c0 : Nat}
theorem jleads_set (hl : cl.length = n) (hn : n≤100000) (X : Nat→Prop) (cs : List Nat) (ks : List Pat) (v : Pv) (w : World) (hp : PatX w X (.node 1 cs ks) v) (hC : Rd w 1 C0 (cl.map encN)) (hz : cs.length≤4000000) :
  Calls Tryz.prog 252 #[valPt v,.slice C0 n c0] w (MtEnd w (n+1) (setM cl cs)):=by
 obtain ⟨o,⟨A,nc,c⟩,⟨B,m,d⟩⟩:=v
 simp only [PatX] at hp
 obtain ⟨rfl,hA,vs,hB,hK⟩:=hp
 have hcn : cs.length = nc:=by have:=hA.len;rwa [List.length_map] at this
 have hcs:=hA.rd
 unfold valPt
 simp only at hcs ⊢
 have hb0 : Blk (w.alloc (.cells #[.int .i64 ((1 : Nat) : Int),.slice A nc c,.slice B m d] 207)) w.heap.size 207 _:=Blk.new _ _ _
 have Hz : Below w.heap.size w (w.alloc (.cells #[.int .i64 ((1 : Nat) : Int),.slice A nc c,.slice B m d] 207)):=(Below.refl _ _).alloc (Nat.le_refl _) _
 have Hl:=Lib.hid hl
 have HN:=Lib.hid (fun W=>jnone_any (n+1) W (by omega))
 obtain ⟨n1,Hn1⟩ : ∃ n1,Hid (n+1 = n1):=⟨_,Lib.hid rfl⟩
 obtain ⟨k,Hk⟩ : ∃ k,Hid (n1 / 64+1 = k):=⟨_,Lib.hid rfl⟩
 have hk0 : 0 < k:=by have:=Hk.out;omega
 have e1 : (n : Int)+1 = (n1 : Int):=by have:=Hn1.out;omega
 have hnz : n1≤100001:=by have:=Hn1.out;omega
 unfold MtEnd
 simp only [Hn1.out,Hk.out] at HN ⊢
 clear hA hB hK hl
 go_enter Tryz.func252,Tryz.ntmps252
 go_wp2_with fail
 generalize (w.alloc (.cells #[.int .i64 ((1 : Nat) : Int),.slice A nc c,.slice B m d] 207)) = w1 at Hz hb0 ⊢
 refine (HN.out w1).mono ?_
 rintro e w2 ⟨A2,c2,rows,rfl,ho2,hb2⟩
 have k10:=hb0.cell 1
 simp only [zG,zI,zH] at k10
 have HZ:=Lib.hid (zero_bits n1 k)
 generalize zeroC n1 k = CC at ho2 HZ
 have k1:=cell_keep k10 hb2
 clear hb0 HN
 go_wp2_with fail
 go_loopw [7] (fun v wr=>∃ (i : Nat) (C : List (List Nat)),v = .int .i64 i∧i≤n∧MtO wr w1.heap.size A2 n1 c2 k rows C∧Hid (BitsM n1 C (setTo cl cs i))∧Below w1.heap.size w1 wr) (fun v _=>n - (intOf v).toNat)
 case atStart=>exact ⟨0,CC,rfl,by omega,ho2,Lib.hid (HZ.out.congr fun i j _ _=>by simp [setTo,noneM]),hb2⟩
 case round =>
  clear HZ ho2
  obtain ⟨i,C,rfl,hi,ho,HB,hbr⟩:=hrel
  have hbwr:=below_two Hz hbr
  replace k1:=cell_keep k10 hbr
  by_cases hlt : i < n
  ·obtain ⟨x,hx⟩ : ∃ x,cl[i]? = some x:=⟨_,List.getElem?_eq_getElem (by have:=Hl.out;omega)⟩
   obtain ⟨bk,off,rfl,hc⟩:=hC.atNa hx
   replace hc:=cell_keep hc hbwr
   have hcsr:=hcs.below hbwr
   obtain ⟨q,Hq⟩ : ∃ q,Hid (cs.contains x = q):=⟨_,Lib.hid rfl⟩
   have HI:=Lib.hid (fun p=>jin_any A nc c cs x (wr.drewN p) (hcsr.drewN p) hcn (by omega))
   rw [Hq.out] at HI
   have HS:=Lib.hid (fun kk=>setM_at (cs:=cs) hx kk)
   rw [Hq.out] at HS
   clear hx hcs
   cases q with
   | false =>
    go_wp2_with fail
    go_quiet ((go_at_call 288;exact quiet_left (HI.out _)))
    go_wp2
    go_roundw
    case rel=>exact ⟨i+1,C,by go_num,by omega,ho.below (below_refl_drewN _ _),Lib.hid (HB.out.congr fun y j _ _=>by
     unfold setTo
     by_cases e : y = i
     ·subst e;rw [HS.out];simp
     ·congr 1;exact decide_eq_decide.2 (by omega)),below_drewN hbr _⟩
    case measure=>simp [intOf];omega
   | true =>
    obtain ⟨bb,g,dd,y,rfl,hr,hcg,hy,hy2,hoy,hwy⟩:=ho.at_ (i:=i) (by have:=Hn1.out;omega) hk0
    have hgl:=(hoy.lt _ rfl).1
    have HC:=Lib.hid (show i < C.length by rw [ho.len];have:=Hn1.out;omega)
    have HBx:=Lib.hid (HB.out.row hy2 (by have:=Hn1.out;omega))
    have HSt:=Lib.hid (fun p=>jset_any w1.heap.size g k dd (i+1) y (wr.drewN p) (hoy.drewN p) hwy (by have:=Hk.out;have:=Hn1.out;omega) (by omega))
    obtain ⟨i1,Hi1⟩ : ∃ i1,Hid (i+1 = i1):=⟨_,Lib.hid rfl⟩
    have e2 : (i : Int)+1 = (i1 : Int):=by have:=Hi1.out;omega
    have e3 : i1≤n:=by have:=Hi1.out;omega
    have hin1 : i < n1:=by have:=Hn1.out;omega
    simp only [Hi1.out] at HSt
    clear hy hy2
    go_wp2_with fail
    go_quiet ((go_at_call 288;exact quiet_left (HI.out _)))
    go_wp2_with fail
    refine (HSt.out _).mono ?_
    rintro e w4 ⟨rfl,ho4,hg4⟩
    have hg4' : wr.grownBy w4 (some g):=⟨hg4.os,hg4.tape,hg4.output,hg4.size,hg4.block⟩
    have hm:=ho.wrote hr hg4' ho4 (hwy.set_ i1)
    have hb4 : Below w1.heap.size w1 w4:=hbr.trans (below_only hg4' hbr.size hgl)
    go_wp2
    go_roundw
    case rel =>
     refine ⟨i1,_,rfl,e3,hm,Lib.hid (HB.out.step HC.out (fun j hj=>?_) (fun z j _ _ hz=>?_)),hb4⟩
     ·rw [hasW_set (by rw [hwy.len];have:=Hk.out;have:=Hn1.out;omega),HBx.out j hj]
      unfold setTo
      rw [HS.out,Hi1.out,decide_eq_true (by have:=Hi1.out;omega : i < i1),decide_eq_false (by omega : ¬ i < i)]
      simp
     ·unfold setTo
      congr 1
      exact decide_eq_decide.2 (by have:=Hi1.out;omega)
    case measure=>simp [intOf];have:=Hi1.out;omega
  ·obtain rfl : i = n:=by omega
   go_wp2
   go_ret
   exact ⟨A2,c2,rows,C,rfl,ho.more Hz.size,HB.out.congr fun x j hx _=>by
    unfold setTo
    by_cases e : x < i
    ·rw [decide_eq_true e,Bool.true_and]
    ·rw [setM_end (by have:=Hl.out;omega)];simp,hbwr⟩
theorem jleads_then (hl : cl.length = n) (hn : n≤100000) (X : Nat→Prop) (cs : List Nat) (ks : List Pat) (v : Pv) (w : World) (hp : PatX w X (.node 2 cs ks) v) (hC : Rd w 1 C0 (cl.map encN))
  (HK : ∀ p ∈ ks,KidLeads cl C0 n c0 p) (hg : goodL 64 ks = true) (hz : ks.length≤2048) :
  Calls Tryz.prog 252 #[valPt v,.slice C0 n c0] w (MtEnd w (n+1) (thenP cl ks ownM)):=by
 obtain ⟨o,⟨A,nc,c⟩,⟨B,m,d⟩⟩:=v
 simp only [PatX] at hp
 obtain ⟨rfl,hA,vs,hB,hKs⟩:=hp
 have hm : vs.length = m:=by have:=hB.len;rwa [List.length_map] at this
 have hk:=hKs.len
 unfold valPt
 simp only
 have hb0 : Blk (w.alloc (.cells #[.int .i64 ((2 : Nat) : Int),.slice A nc c,.slice B m d] 207)) w.heap.size 207 _:=Blk.new _ _ _
 have Hz : Below w.heap.size w (w.alloc (.cells #[.int .i64 ((2 : Nat) : Int),.slice A nc c,.slice B m d] 207)):=(Below.refl _ _).alloc (Nat.le_refl _) _
 have Hl:=Lib.hid hl
 have HKs:=Lib.hid hKs
 have HB:=Lib.hid hB
 have HKk:=Lib.hid HK
 have Hg:=Lib.hid hg
 have hmz : m≤2048:=by omega
 have Hkm:=Lib.hid (show ks.length = m by omega)
 have hN1 : cl.length+1 = n+1:=by omega
 have HN:=Lib.hid (fun W=>jown_any (n+1) W (by omega))
 have HBe:=Lib.hid (fun A1 A2 c1 c2 CA CB a b W h1 h2 h3 h4=>jbehind_any A1 A2 (n+1) c1 c2 CA CB a b W h1 h2 h3 h4 (by omega))
 obtain ⟨n1,Hn1⟩ : ∃ n1,Hid (n+1 = n1):=⟨_,Lib.hid rfl⟩
 have Hst:=Lib.hid (fun (i : Nat) (p : Pat) (h : ks[i]? = some p)=>show thenP cl (ks.take (i+1)) ownM = behindM (n+1) (thenP cl (ks.take i) ownM) (leadsP cl p) by rw [take_snoc h,thenP_snoc,hN1] )
 have e1 : (n : Int)+1 = (n1 : Int):=by have:=Hn1.out;omega
 have hnz : n1≤100001:=by have:=Hn1.out;omega
 unfold KidLeads at HKk
 rw [hN1] at HKk
 simp only [Hn1.out] at HN HKk HBe Hst ⊢
 clear hA hB hKs hl hk hm HK hg hN1
 go_enter Tryz.func252,Tryz.ntmps252
 go_wp2_with fail
 generalize (w.alloc (.cells #[.int .i64 ((2 : Nat) : Int),.slice A nc c,.slice B m d] 207)) = w1 at Hz hb0 ⊢
 refine (HN.out w1).mono ?_
 have k20:=hb0.cell 2
 simp only [zG,zI,zH] at k20
 clear hb0 HN
 rintro e w2 ⟨A2,c2,rows2,C2,rfl,ho2,hBt2,hb2⟩
 replace hBt2 : Hid (BitsM n1 C2 (thenP cl (ks.take 0) ownM)):=Lib.hid hBt2
 have k2:=cell_keep k20 hb2
 go_wp2_with fail
 go_loopw [8,9] (fun u v wr=>∃ (i : Nat) (A1 : Option Addr) (c1 : Nat) (rows : List Sv) (C : List (List Nat)),u = .slice A1 n1 c1∧v = .int .i64 i∧i≤m∧MtO wr w1.heap.size A1 n1 c1 (n1 / 64+1) rows C∧Hid (BitsM n1 C (thenP cl (ks.take i) ownM))∧Below w1.heap.size w1 wr) (fun _ v _=>m - (intOf v).toNat)
 case atStart=>exact ⟨0,A2,c2,rows2,C2,rfl,rfl,by omega,ho2,hBt2,hb2⟩
 case round =>
  clear ho2 hBt2
  obtain ⟨i,A1,c1,rows,C,rfl,rfl,hi,ho,HBt,hbr⟩:=hrel
  have hbwr:=below_two Hz hbr
  replace k2:=cell_keep k20 hbr
  by_cases hlt : i < m
  ·obtain ⟨q,hq⟩ : ∃ q,ks[i]? = some q:=⟨_,List.getElem?_eq_getElem (by have:=Hkm.out;omega)⟩
   obtain ⟨u,hu,hp⟩:=HKs.out.at_ hq
   obtain ⟨b,off,e,x0,x1,x2⟩:=HB.out.atPt hu
   simp only at e
   subst e
   replace x0:=cell_keep x0 hbwr
   replace x1:=cell_keep x1 hbwr
   replace x2:=cell_keep x2 hbwr
   have HC:=Lib.hid (HKk.out q (List.mem_of_getElem? hq) X u wr (hp.below hbwr) (goodL_at Hg.out hq) (hC.below hbwr))
   have HS:=Lib.hid (Hst.out i q hq)
   unfold valPt at HC
   clear hq hp hu
   go_wp2_with fail
   refine HC.out.mono ?_
   rintro e w3 he3
   obtain ⟨A3,c3,C3,rfl,hr3,hBt3,hb3⟩:=he3.rd
   have HBe2:=Lib.hid (HBe.out A1 A3 c1 c3 C C3 _ _ w3 (ho.below hb3).rd HBt.out hr3 hBt3)
   clear he3 hr3 hBt3 HC
   go_wp2_with fail
   refine HBe2.out.mono ?_
   rintro e w4 ⟨A4,c4,rows4,C4,rfl,ho4,hBt4,hb4⟩
   rw [← HS.out] at hBt4
   have hb5:=below_step hbr (below_two hb3 hb4) hbr.size
   have ho5:=ho4.more (b':=w1.heap.size) (below_two hbr hb3 |>.size)
   have HBt5:=Lib.hid hBt4
   clear hBt4 ho4
   go_wp2
   go_roundw
   case rel=>exact ⟨i+1,A4,c4,rows4,C4,rfl,by go_num,by omega,ho5,HBt5,hb5⟩
   case measure=>simp [intOf];omega
  ·obtain rfl : i = m:=by omega
   have HE:=Lib.hid (show ks.take i = ks from List.take_of_length_le (by have:=Hkm.out;omega))
   rw [HE.out] at HBt
   go_wp2
   go_ret
   exact ⟨A1,c1,rows,C,rfl,ho.more Hz.size,HBt.out,hbwr⟩
theorem jleads_or (hl : cl.length = n) (hn : n≤100000) (X : Nat→Prop) (cs : List Nat) (ks : List Pat) (v : Pv) (w : World) (hp : PatX w X (.node 3 cs ks) v) (hC : Rd w 1 C0 (cl.map encN))
  (HK : ∀ p ∈ ks,KidLeads cl C0 n c0 p) (hg : goodL 64 ks = true) (hz : ks.length≤2048) :
  Calls Tryz.prog 252 #[valPt v,.slice C0 n c0] w (MtEnd w (n+1) (orP cl ks noneM)):=by
 obtain ⟨o,⟨A,nc,c⟩,⟨B,m,d⟩⟩:=v
 simp only [PatX] at hp
 obtain ⟨rfl,hA,vs,hB,hKs⟩:=hp
 have hm : vs.length = m:=by have:=hB.len;rwa [List.length_map] at this
 have hk:=hKs.len
 unfold valPt
 simp only
 have hb0 : Blk (w.alloc (.cells #[.int .i64 ((3 : Nat) : Int),.slice A nc c,.slice B m d] 207)) w.heap.size 207 _:=Blk.new _ _ _
 have Hz : Below w.heap.size w (w.alloc (.cells #[.int .i64 ((3 : Nat) : Int),.slice A nc c,.slice B m d] 207)):=(Below.refl _ _).alloc (Nat.le_refl _) _
 have Hl:=Lib.hid hl
 have HKs:=Lib.hid hKs
 have HB:=Lib.hid hB
 have HKk:=Lib.hid HK
 have Hg:=Lib.hid hg
 have hmz : m≤2048:=by omega
 have Hkm:=Lib.hid (show ks.length = m by omega)
 have hN1 : cl.length+1 = n+1:=by omega
 have HN:=Lib.hid (fun W=>jnone_any (n+1) W (by omega))
 have HBe:=Lib.hid (fun A1 A2 c1 c2 CA CB a b W h1 h2 h3 h4=>jboth_any A1 A2 (n+1) c1 c2 CA CB a b W h1 h2 h3 h4 (by omega))
 obtain ⟨n1,Hn1⟩ : ∃ n1,Hid (n+1 = n1):=⟨_,Lib.hid rfl⟩
 have Hst:=Lib.hid (fun (i : Nat) (p : Pat) (h : ks[i]? = some p)=>show orP cl (ks.take (i+1)) noneM = bothM (orP cl (ks.take i) noneM) (leadsP cl p) by rw [take_snoc h,orP_snoc])
 have e1 : (n : Int)+1 = (n1 : Int):=by have:=Hn1.out;omega
 have hnz : n1≤100001:=by have:=Hn1.out;omega
 unfold KidLeads at HKk
 rw [hN1] at HKk
 simp only [Hn1.out] at HN HKk HBe Hst ⊢
 clear hA hB hKs hl hk hm HK hg hN1
 go_enter Tryz.func252,Tryz.ntmps252
 go_wp2_with fail
 generalize (w.alloc (.cells #[.int .i64 ((3 : Nat) : Int),.slice A nc c,.slice B m d] 207)) = w1 at Hz hb0 ⊢
 refine (HN.out w1).mono ?_
 have k20:=hb0.cell 2
 simp only [zG,zI,zH] at k20
 clear hb0 HN
 rintro e w2 ⟨A2,c2,rows2,rfl,ho2,hb2⟩
 have hBt2:=Lib.hid (zero_bits n1 (n1 / 64+1))
 generalize zeroC n1 (n1 / 64+1) = C2 at ho2 hBt2
 replace hBt2 : Hid (BitsM n1 C2 (orP cl (ks.take 0) noneM)):=hBt2
 have k2:=cell_keep k20 hb2
 go_wp2_with fail
 go_loopw [10,11] (fun u v wr=>∃ (i : Nat) (A1 : Option Addr) (c1 : Nat) (rows : List Sv) (C : List (List Nat)),u = .slice A1 n1 c1∧v = .int .i64 i∧i≤m∧MtO wr w1.heap.size A1 n1 c1 (n1 / 64+1) rows C∧Hid (BitsM n1 C (orP cl (ks.take i) noneM))∧Below w1.heap.size w1 wr) (fun _ v _=>m - (intOf v).toNat)
 case atStart=>exact ⟨0,A2,c2,rows2,C2,rfl,rfl,by omega,ho2,hBt2,hb2⟩
 case round =>
  clear ho2 hBt2
  obtain ⟨i,A1,c1,rows,C,rfl,rfl,hi,ho,HBt,hbr⟩:=hrel
  have hbwr:=below_two Hz hbr
  replace k2:=cell_keep k20 hbr
  by_cases hlt : i < m
  ·obtain ⟨q,hq⟩ : ∃ q,ks[i]? = some q:=⟨_,List.getElem?_eq_getElem (by have:=Hkm.out;omega)⟩
   obtain ⟨u,hu,hp⟩:=HKs.out.at_ hq
   obtain ⟨b,off,e,x0,x1,x2⟩:=HB.out.atPt hu
   simp only at e
   subst e
   replace x0:=cell_keep x0 hbwr
   replace x1:=cell_keep x1 hbwr
   replace x2:=cell_keep x2 hbwr
   have HC:=Lib.hid (HKk.out q (List.mem_of_getElem? hq) X u wr (hp.below hbwr) (goodL_at Hg.out hq) (hC.below hbwr))
   have HS:=Lib.hid (Hst.out i q hq)
   unfold valPt at HC
   clear hq hp hu
   go_wp2_with fail
   refine HC.out.mono ?_
   rintro e w3 he3
   obtain ⟨A3,c3,C3,rfl,hr3,hBt3,hb3⟩:=he3.rd
   have HBe2:=Lib.hid (HBe.out A1 A3 c1 c3 C C3 _ _ w3 (ho.below hb3).rd HBt.out hr3 hBt3)
   clear he3 hr3 hBt3 HC
   go_wp2_with fail
   refine HBe2.out.mono ?_
   rintro e w4 ⟨A4,c4,rows4,C4,rfl,ho4,hBt4,hb4⟩
   rw [← HS.out] at hBt4
   have hb5:=below_step hbr (below_two hb3 hb4) hbr.size
   have ho5:=ho4.more (b':=w1.heap.size) (below_two hbr hb3 |>.size)
   have HBt5:=Lib.hid hBt4
   clear hBt4 ho4
   go_wp2
   go_roundw
   case rel=>exact ⟨i+1,A4,c4,rows4,C4,rfl,by go_num,by omega,ho5,HBt5,hb5⟩
   case measure=>simp [intOf];omega
  ·obtain rfl : i = m:=by omega
   have HE:=Lib.hid (show ks.take i = ks from List.take_of_length_le (by have:=Hkm.out;omega))
   rw [HE.out] at HBt
   go_wp2
   go_ret
   exact ⟨A1,c1,rows,C,rfl,ho.more Hz.size,HBt.out,hbwr⟩
end
end
section
open Go.RowKit
section
variable {cl : List Nat} {C0 : Option Addr} {n c0 : Nat}
theorem jleads_empty (hn : n≤100000) (X : Nat→Prop) (cs : List Nat) (ks : List Pat) (v : Pv) (w : World) (hp : PatX w X (.node 0 cs ks) v) :
  Calls Tryz.prog 252 #[valPt v,.slice C0 n c0] w (MtEnd w (n+1) ownM):=by
 obtain ⟨o,⟨A,nc,c⟩,⟨B,m,d⟩⟩:=v
 simp only [PatX] at hp
 obtain ⟨rfl,hA,vs,hB,hK⟩:=hp
 unfold valPt
 simp only
 have Hz : Below w.heap.size w (w.alloc (.cells #[.int .i64 ((0 : Nat) : Int),.slice A nc c,.slice B m d] 207)):=(Below.refl _ _).alloc (Nat.le_refl _) _
 have HN:=Lib.hid (fun W=>jown_any (n+1) W (by omega))
 obtain ⟨n1,Hn1⟩ : ∃ n1,Hid (n+1 = n1):=⟨_,Lib.hid rfl⟩
 have e1 : (n : Int)+1 = (n1 : Int):=by have:=Hn1.out;omega
 simp only [Hn1.out] at HN ⊢
 clear hA hB hK
 go_enter Tryz.func252,Tryz.ntmps252
 go_wp2_with fail
 refine (HN.out _).mono ?_
 rintro e w2 ⟨A2,c2,rows2,C2,rfl,ho2,hBt2,hb2⟩
 go_wp2
 go_ret
 exact ⟨A2,c2,rows2,C2,rfl,ho2.more Hz.size,hBt2,below_two Hz hb2⟩
theorem jleads_many (hl : cl.length = n) (hn : n≤100000) (X : Nat→Prop) (cs : List Nat) (p : Pat) (v : Pv) (w : World) (hp : PatX w X (.node 4 cs [p]) v) (hC : Rd w 1 C0 (cl.map encN)) (HK : KidLeads cl C0 n c0 p) (hg : goodP 64 p = true) :
  Calls Tryz.prog 252 #[valPt v,.slice C0 n c0] w (MtEnd w (n+1) (moreM (n+1) (leadsP cl p))):=by
 obtain ⟨o,⟨A,nc,c⟩,⟨B,m,d⟩⟩:=v
 simp only [PatX,PatsX] at hp
 obtain ⟨rfl,hA,vs,hB,u,r,rfl,hpu,rfl⟩:=hp
 have hm : 1 = m:=by have:=hB.len;simpa using this
 subst hm
 unfold valPt
 show Calls Tryz.prog 252 #[.agg #[.int .i64 4,.slice A nc c,.slice B 1 d],.slice C0 n c0] w _
 have hb0 : Blk (w.alloc (.cells #[.int .i64 4,.slice A nc c,.slice B 1 d] 207)) w.heap.size 207 _:=Blk.new _ _ _
 have Hz : Below w.heap.size w (w.alloc (.cells #[.int .i64 4,.slice A nc c,.slice B 1 d] 207)):=(Below.refl _ _).alloc (Nat.le_refl _) _
 obtain ⟨b,off,e,x0,x1,x2⟩:=hB.atPt (k:=0) (x:=u) rfl
 simp only at e
 subst e
 replace x0:=cell_keep x0 Hz
 replace x1:=cell_keep x1 Hz
 replace x2:=cell_keep x2 Hz
 simp only [Nat.zero_mul,Nat.add_zero] at x0 x1 x2
 unfold KidLeads at HK
 have hN1 : cl.length+1 = n+1:=by omega
 rw [hN1] at HK
 have HKk:=Lib.hid (HK X u _ (hpu.below Hz) hg (hC.below Hz))
 have HM:=Lib.hid (fun A1 c1 CA a W h1 h2=>jmore_any A1 (n+1) c1 CA a W h1 h2 (by omega))
 obtain ⟨n1,Hn1⟩ : ∃ n1,Hid (n+1 = n1):=⟨_,Lib.hid rfl⟩
 simp only [Hn1.out] at HKk HM ⊢
 unfold valPt at HKk
 clear hA hB hpu HK hl hN1
 go_enter Tryz.func252,Tryz.ntmps252
 go_wp2_with fail
 generalize (w.alloc (.cells #[.int .i64 4,.slice A nc c,.slice (some ⟨b,off,none⟩) 1 d] 207)) = w1 at *
 refine HKk.out.mono ?_
 rintro e w2 he
 obtain ⟨A2,c2,C2,rfl,hr2,hBt2,hb2⟩:=he.rd
 have HM2:=Lib.hid (HM.out A2 c2 C2 _ w2 hr2 hBt2)
 clear he hr2 hBt2 HKk HM
 go_wp2_with fail
 refine HM2.out.mono ?_
 rintro e w3 ⟨A3,c3,rows3,C3,rfl,ho3,hBt3,hb3⟩
 go_wp2
 go_ret
 exact ⟨A3,c3,rows3,C3,rfl,ho3.more (below_two Hz hb2).size,hBt3,below_two (below_two Hz hb2) hb3⟩
theorem jleads_some (hl : cl.length = n) (hn : n≤100000) (X : Nat→Prop) (cs : List Nat) (p : Pat) (v : Pv) (w : World) (hp : PatX w X (.node 5 cs [p]) v) (hC : Rd w 1 C0 (cl.map encN)) (HK : KidLeads cl C0 n c0 p) (hg : goodP 64 p = true) :
  Calls Tryz.prog 252 #[valPt v,.slice C0 n c0] w (MtEnd w (n+1) (behindM (n+1) (leadsP cl p) (moreM (n+1) (leadsP cl p)))):=by
 obtain ⟨o,⟨A,nc,c⟩,⟨B,m,d⟩⟩:=v
 simp only [PatX,PatsX] at hp
 obtain ⟨rfl,hA,vs,hB,u,r,rfl,hpu,rfl⟩:=hp
 have hm : 1 = m:=by have:=hB.len;simpa using this
 subst hm
 unfold valPt
 show Calls Tryz.prog 252 #[.agg #[.int .i64 5,.slice A nc c,.slice B 1 d],.slice C0 n c0] w _
 have hb0 : Blk (w.alloc (.cells #[.int .i64 5,.slice A nc c,.slice B 1 d] 207)) w.heap.size 207 _:=Blk.new _ _ _
 have Hz : Below w.heap.size w (w.alloc (.cells #[.int .i64 5,.slice A nc c,.slice B 1 d] 207)):=(Below.refl _ _).alloc (Nat.le_refl _) _
 obtain ⟨b,off,e,x0,x1,x2⟩:=hB.atPt (k:=0) (x:=u) rfl
 simp only at e
 subst e
 replace x0:=cell_keep x0 Hz
 replace x1:=cell_keep x1 Hz
 replace x2:=cell_keep x2 Hz
 simp only [Nat.zero_mul,Nat.add_zero] at x0 x1 x2
 unfold KidLeads at HK
 have hN1 : cl.length+1 = n+1:=by omega
 rw [hN1] at HK
 have HKk:=Lib.hid (HK X u _ (hpu.below Hz) hg (hC.below Hz))
 have HM:=Lib.hid (fun A1 c1 CA a W h1 h2=>jmore_any A1 (n+1) c1 CA a W h1 h2 (by omega))
 have HBe:=Lib.hid (fun A1 A2 c1 c2 CA CB a b W h1 h2 h3 h4=>jbehind_any A1 A2 (n+1) c1 c2 CA CB a b W h1 h2 h3 h4 (by omega))
 obtain ⟨n1,Hn1⟩ : ∃ n1,Hid (n+1 = n1):=⟨_,Lib.hid rfl⟩
 simp only [Hn1.out] at HKk HM HBe ⊢
 unfold valPt at HKk
 clear hA hB hpu HK hl hN1
 go_enter Tryz.func252,Tryz.ntmps252
 go_wp2_with fail
 generalize (w.alloc (.cells #[.int .i64 5,.slice A nc c,.slice (some ⟨b,off,none⟩) 1 d] 207)) = w1 at *
 refine HKk.out.mono ?_
 rintro e w2 he
 obtain ⟨A2,c2,C2,rfl,hr2,hBt2,hb2⟩:=he.rd
 have HM2:=Lib.hid (HM.out A2 c2 C2 _ w2 hr2 hBt2)
 have Hr2:=Lib.hid hr2
 have HB2:=Lib.hid hBt2
 clear he hr2 hBt2 HKk HM
 go_wp2_with fail
 refine HM2.out.mono ?_
 rintro e w3 he3
 obtain ⟨A3,c3,C3,rfl,hr3,hBt3,hb3⟩:=he3.rd
 have HE:=Lib.hid (HBe.out A2 A3 c2 c3 C2 C3 _ _ w3 (Hr2.out.below hb3) HB2.out hr3 hBt3)
 clear he3 hr3 hBt3 HM2 HBe
 go_wp2_with fail
 refine HE.out.mono ?_
 rintro e w4 ⟨A4,c4,rows4,C4,rfl,ho4,hBt4,hb4⟩
 go_wp2
 go_ret
 exact ⟨A4,c4,rows4,C4,rfl,ho4.more (below_two (below_two Hz hb2) hb3).size,hBt4,below_two (below_two (below_two Hz hb2) hb3) hb4⟩
theorem jleads_may (hl : cl.length = n) (hn : n≤100000) (X : Nat→Prop) (cs : List Nat) (p : Pat) (v : Pv) (w : World) (hp : PatX w X (.node 6 cs [p]) v) (hC : Rd w 1 C0 (cl.map encN)) (HK : KidLeads cl C0 n c0 p) (hg : goodP 64 p = true) :
  Calls Tryz.prog 252 #[valPt v,.slice C0 n c0] w (MtEnd w (n+1) (bothM ownM (leadsP cl p))):=by
 obtain ⟨o,⟨A,nc,c⟩,⟨B,m,d⟩⟩:=v
 simp only [PatX,PatsX] at hp
 obtain ⟨rfl,hA,vs,hB,u,r,rfl,hpu,rfl⟩:=hp
 have hm : 1 = m:=by have:=hB.len;simpa using this
 subst hm
 unfold valPt
 show Calls Tryz.prog 252 #[.agg #[.int .i64 6,.slice A nc c,.slice B 1 d],.slice C0 n c0] w _
 have hb0 : Blk (w.alloc (.cells #[.int .i64 6,.slice A nc c,.slice B 1 d] 207)) w.heap.size 207 _:=Blk.new _ _ _
 have Hz : Below w.heap.size w (w.alloc (.cells #[.int .i64 6,.slice A nc c,.slice B 1 d] 207)):=(Below.refl _ _).alloc (Nat.le_refl _) _
 obtain ⟨b,off,e,x0,x1,x2⟩:=hB.atPt (k:=0) (x:=u) rfl
 simp only at e
 subst e
 replace x0:=cell_keep x0 Hz
 replace x1:=cell_keep x1 Hz
 replace x2:=cell_keep x2 Hz
 simp only [Nat.zero_mul,Nat.add_zero] at x0 x1 x2
 unfold KidLeads at HK
 have hN1 : cl.length+1 = n+1:=by omega
 rw [hN1] at HK
 have HPu:=Lib.hid (And.intro (hpu.below Hz) (And.intro hg (hC.below Hz)))
 have HKk:=Lib.hid (fun W h1 h2 h3=>HK X u W h1 h2 h3)
 have HO:=Lib.hid (fun W=>jown_any (n+1) W (by omega))
 have HBe:=Lib.hid (fun A1 A2 c1 c2 CA CB a b W h1 h2 h3 h4=>jboth_any A1 A2 (n+1) c1 c2 CA CB a b W h1 h2 h3 h4 (by omega))
 obtain ⟨n1,Hn1⟩ : ∃ n1,Hid (n+1 = n1):=⟨_,Lib.hid rfl⟩
 have e1 : (n : Int)+1 = (n1 : Int):=by have:=Hn1.out;omega
 simp only [Hn1.out] at HKk HO HBe ⊢
 unfold valPt at HKk
 have k2:=hb0.cell 2
 simp only [zG,zI,zH] at k2
 clear hA hB hpu HK hl hN1 hb0
 go_enter Tryz.func252,Tryz.ntmps252
 go_wp2_with fail
 generalize (w.alloc (.cells #[.int .i64 6,.slice A nc c,.slice (some ⟨b,off,none⟩) 1 d] 207)) = w1 at *
 have HKk2:=Lib.hid (fun W (h : Below w1.heap.size w1 W)=>HKk.out W (HPu.out.1.below h) HPu.out.2.1 (HPu.out.2.2.below h))
 have hbW : Below w1.heap.size w1 w1.drew:=(Below.refl _ _).drew
 have d2 : w1.drew.cell? ⟨w.heap.size,2,none⟩ = some (.slice (some ⟨b,off,none⟩) 1 d):=k2
 have d4 : w1.drew.cell? ⟨b,off,none⟩ = some (.int .i64 (u.1 : Int)):=x0
 have d5 : w1.drew.cell? ⟨b,off+1,none⟩ = some (.slice u.2.1.1 u.2.1.2.1 u.2.1.2.2):=x1
 have d6 : w1.drew.cell? ⟨b,off+2,none⟩ = some (.slice u.2.2.1 u.2.2.2.1 u.2.2.2.2):=x2
 clear HKk HPu
 refine wp_region_noPanic ?_
 go_region_law (first
  | (go_simp;go_at_call 292;refine (HO.out _).mono ?_;rintro e wz ⟨A9,c9,rows9,C9,rfl,ho9,hB9,hb9⟩;have hM1:=ho9.rd;have hbW:=below_step hbW hb9 hbW.size;have d2:=cell_keep d2 hb9;have d4:=cell_keep d4 hb9;have d5:=cell_keep d5 hb9;have d6:=cell_keep d6 hb9;try have hM2:=hM2.below hb9)
  | (go_simp;go_at_call 252;refine (HKk2.out _ hbW).mono ?_;rintro e wz hz;obtain ⟨A8,c8,C8,rfl,hM2,hB8,hb8⟩:=hz.rd;have hbW:=below_step hbW hb8 hbW.size;have d2:=cell_keep d2 hb8;have d4:=cell_keep d4 hb8;have d5:=cell_keep d5 hb8;have d6:=cell_keep d6 hb8;try have hM1:=hM1.below hb8)
  | (go_simp;go_at_call 294;refine (HBe.out _ _ _ _ _ _ _ _ _ hM1 hB9 hM2 hB8).mono ?_;rintro e wz ⟨A7,c7,rows7,C7,rfl,ho7,hB7,hb7⟩;have hbX:=hbW;have hbW:=below_step hbW hb7 hbW.size))
 all_goals
  refine NoPanic.normal ?_
  go_wp2
  go_ret
  exact ⟨A7,c7,rows7,C7,rfl,ho7.more (below_two Hz hbX).size,hB7,below_two Hz hbW⟩
end
end
section
open Go.RowKit
theorem form_one {op : Nat} {ks : List Pat} (h : formOk op ks.length = true) (h4 : 4≤op) : ∃ p,ks = [p]:=by
 have h1 : ks.length = 1:=by
  unfold formOk at h
  rw [if_neg (by omega),if_neg (by omega)] at h
  simpa using h
 match ks,h1 with
 | [p],_=>exact ⟨p,rfl⟩
theorem jleads_all (cl : List Nat) (C0 : Option Addr) (n c0 : Nat) (hl : cl.length = n) (hn : n≤100000) : ∀ (z : Nat) (p : Pat),sizeP p≤z→sizeP p≤2048→KidLeads cl C0 n c0 p:=by
 intro z
 induction z with
 | zero=>intro p hz;have:=sizeP_pos p;omega
 | succ z ih =>
  intro p hz hs X v w hp hg hC
  obtain ⟨op,cs,ks⟩:=p
  have hg':=hg
  unfold goodP at hg
  rw [Bool.and_eq_true] at hg
  obtain ⟨h1,h2,h3,h4,h5⟩:=node_parts hg.1
  have hzl : sizeL ks≤z:=by unfold sizeP at hz;omega
  have hsl : sizeL ks≤2047:=by unfold sizeP at hs;omega
  have hk : ∀ p ∈ ks,KidLeads cl C0 n c0 p:=fun p hp=>by
   obtain ⟨i,hi,e⟩:=List.getElem_of_mem hp
   have h6:=sizeL_at (ks:=ks) (i:=i) (p:=p) (by rw [List.getElem?_eq_getElem hi,e])
   exact ih p (by omega) (by omega)
  have hkl:=sizeL_len ks
  have hN : cl.length+1 = n+1:=by omega
  have hcz : cs.length≤64:=rises_len h5 h4
  rw [hN]
  rcases (by omega : op = 0∨op = 1∨op = 2∨op = 3∨op = 4∨op = 5∨op = 6) with rfl | rfl | rfl | rfl | rfl | rfl | rfl
  ·have e : leadsP cl (.node 0 cs ks) = ownM:=by unfold leadsP;rfl
   rw [e]
   exact jleads_empty hn X cs ks v w hp
  ·have e : leadsP cl (.node 1 cs ks) = setM cl cs:=by unfold leadsP;rfl
   rw [e]
   exact jleads_set hl hn X cs ks v w hp hC (by omega)
  ·have e : leadsP cl (.node 2 cs ks) = thenP cl ks ownM:=by unfold leadsP;rfl
   rw [e]
   exact jleads_then hl hn X cs ks v w hp hC hk hg.2 (by omega)
  ·have e : leadsP cl (.node 3 cs ks) = orP cl ks noneM:=by unfold leadsP;rfl
   rw [e]
   exact jleads_or hl hn X cs ks v w hp hC hk hg.2 (by omega)
  ·obtain ⟨q,rfl⟩:=form_one h3 (by omega)
   have e : leadsP cl (.node 4 cs [q]) = moreM (n+1) (leadsP cl q):=by (conv=>lhs;unfold leadsP);simp [headP,hN]
   rw [e]
   exact jleads_many hl hn X cs q v w hp hC (hk q (by simp)) (goodL_at hg.2 (i:=0) rfl)
  ·obtain ⟨q,rfl⟩:=form_one h3 (by omega)
   have e : leadsP cl (.node 5 cs [q]) = behindM (n+1) (leadsP cl q) (moreM (n+1) (leadsP cl q)):=by (conv=>lhs;unfold leadsP);simp [headP,hN]
   rw [e]
   exact jleads_some hl hn X cs q v w hp hC (hk q (by simp)) (goodL_at hg.2 (i:=0) rfl)
  ·obtain ⟨q,rfl⟩:=form_one h3 (by omega)
   have e : leadsP cl (.node 6 cs [q]) = bothM ownM (leadsP cl q):=by (conv=>lhs;unfold leadsP);simp [headP]
   rw [e]
   exact jleads_may hl hn X cs q v w hp hC (hk q (by simp)) (goodL_at hg.2 (i:=0) rfl)
theorem jleads_any (cl : List Nat) (C0 : Option Addr) (n c0 : Nat) (hl : cl.length = n) (hn : n≤100000) (X : Nat→Prop) (p : Pat) (v : Pv) (w : World) (hp : PatX w X p v) (hg : goodP 64 p = true) (hs : sizeP p≤2048) (hC : Rd w 1 C0 (cl.map encN)) :
  Calls Tryz.prog 252 #[valPt v,.slice C0 n c0] w (MtEnd w (cl.length+1) (leadsP cl p)):=jleads_all cl C0 n c0 hl hn (sizeP p) p (Nat.le_refl _) hs X v w hp hg hC
theorem filter_next {m : Nat→Bool} {i : Nat} : (List.range (i+1)).filter m = (List.range i).filter m++(if m i then [i] else []):=by
 rw [List.range_succ,List.filter_append]
 cases h : m i <;> simp [h]
theorem encN_ok' (l : List Nat) : ∀ y ∈ l.map encN,y.length = 1∧∀ u ∈ y,u.oneCell' = true:=by
 intro y hy
 obtain ⟨x,_,rfl⟩:=List.mem_map.1 hy
 exact ⟨rfl,fun u hu=>by simp [encN] at hu;rcases hu with rfl;rfl⟩
theorem jEnds_any (cl : List Nat) (C0 : Option Addr) (n c0 : Nat) (hl : cl.length = n) (hn : n≤100000) (X : Nat→Prop) (p : Pat) (v : Pv) (w : World) (hp : PatX w X p v) (hg : goodP 64 p = true) (hs : sizeP p≤2048) (hC : Rd w 1 C0 (cl.map encN)) :
  Calls Tryz.prog 207 #[valPt v,.slice C0 n c0] w fun e w'=>∃ A k c,e = .returned (.slice A k c)∧Own w' w.heap.size 3 1 A k c ((endsB p cl).map encN)∧Below w.heap.size w w':=by
 obtain ⟨i0,hi0,hz0,hz1,hz2⟩:=info_parts infoInt
 have HP:=Lib.hid hp
 have HG:=Lib.hid (fun W (h : PatX W X p v)=>jGood_any X p v W h (goodP_mono (by omega) hg) hs)
 have HL:=Lib.hid (fun W (h : PatX W X p v) (hc : Rd W 1 C0 (cl.map encN))=>jleads_any cl C0 n c0 hl hn X p v W h hg hs hc)
 have HE:=Lib.hid (show endsB p cl = (List.range (n+1)).filter fun i=>leadsP cl p 0 i by unfold endsB;rw [hl])
 rw [hl] at HL
 clear hp hg hl
 obtain ⟨n1,Hn1⟩ : ∃ n1,Hid (n+1 = n1):=⟨_,Lib.hid rfl⟩
 obtain ⟨k1,Hk1⟩ : ∃ k1,Hid (n1 / 64+1 = k1):=⟨_,Lib.hid rfl⟩
 simp only [Hn1.out] at HL
 unfold valPt at HG HL ⊢
 have Hz : Below w.heap.size w (w.alloc (.cells #[.int .i64 (v.1 : Int),.slice v.2.1.1 v.2.1.2.1 v.2.1.2.2,.slice v.2.2.1 v.2.2.2.1 v.2.2.2.2] 207)):=(Below.refl _ _).alloc (Nat.le_refl _) _
 have hb0 : Blk (w.alloc (.cells #[.int .i64 (v.1 : Int),.slice v.2.1.1 v.2.1.2.1 v.2.1.2.2,.slice v.2.2.1 v.2.2.2.1 v.2.2.2.2] 207)) w.heap.size 207 _:=Blk.new _ _ _
 go_enter Tryz.func207,Tryz.ntmps207
 go_wp2_with fail
 generalize (w.alloc (.cells #[.int .i64 (v.1 : Int),.slice v.2.1.1 v.2.1.2.1 v.2.1.2.2,.slice v.2.2.1 v.2.2.2.1 v.2.2.2.2] 207)) = w1 at Hz hb0 ⊢
 refine (HG.out w1 (HP.out.below Hz)).mono ?_
 rintro e w2 ⟨rfl,hb2⟩
 have hbw:=below_two Hz hb2
 have hb0':=hb0.below hb2
 have d0:=hb0'.cell 0
 have d1:=hb0'.cell 1
 have d2:=hb0'.cell 2
 simp only [zG,zI,zH] at d0 d1 d2
 have HL2:=Lib.hid (HL.out w2 (HP.out.below hbw) (hC.below hbw))
 clear HG HL hb0 hb0'
 go_wp2_with fail
 refine HL2.out.mono ?_
 rintro e w3 he
 obtain ⟨A2,c2,C2,rfl,hr2,hB2,hb3⟩:=he.rd
 obtain ⟨bm,om,Bm,dm,xm,em,km,-,hxm,hrm,hwm⟩:=hr2.at_ (i:=0) (by have:=Hn1.out;omega)
 simp only at em
 subst em
 simp only [Nat.add_zero] at km
 have HR:=Lib.hid (hB2.row hxm (by have:=Hn1.out;omega))
 rw [Hk1.out] at km hwm
 have hbw3:=below_two hbw hb3
 have hn1z : 0 < n1:=by have:=Hn1.out;omega
 have hn1z' : (0 : Int) < (n1 : Int):=by omega
 clear he hr2 hB2 hxm HL2 d0 d1 d2
 go_wp2_with fail
 go_loopw [6,7] (fun u z wr=>∃ (i : Nat) (A : Option Addr) (k c : Nat),u = .slice A k c∧z = .int .i64 i∧i≤n+1∧k≤i∧Own wr w3.heap.size 3 1 A k c (((List.range i).filter fun i=>leadsP cl p 0 i).map encN)∧Below w3.heap.size w3 wr) (fun _ z _=>n+1 - (intOf z).toNat)
 case atStart=>exact ⟨0,none,0,0,rfl,rfl,by omega,by omega,Own.nil_ _ _ _ _,Below.refl _ _⟩
 case round =>
  obtain ⟨i,A,k,c,rfl,rfl,hi,hki,ho,hb⟩:=hrel
  have hsz:=hb.size
  by_cases hlt : i≤n
  ·obtain ⟨q,Hq⟩ : ∃ q,Hid (leadsP cl p 0 i = q):=⟨_,Lib.hid rfl⟩
   have HH:=Lib.hid (jhas_any Bm k1 dm i xm wr (hrm.below hb) hwm (by have:=Hn1.out;have:=Hk1.out;omega) (by omega))
   rw [HR.out i (by have:=Hn1.out;omega),Hq.out] at HH
   have HF:=Lib.hid (filter_next (m:=fun i=>leadsP cl p 0 i) (i:=i))
   rw [Hq.out] at HF
   cases q with
   | false =>
    go_wp2_with fail
    refine HH.out.mono ?_
    rintro e w5 ⟨rfl,rfl⟩
    go_wp2
    go_roundw
    case rel=>exact ⟨i+1,A,k,c,rfl,by go_num,by omega,by omega,by rw [HF.out];simpa using ho,hb⟩
    case measure=>simp [intOf];omega
   | true =>
    go_wp2_with fail
    refine HH.out.mono ?_
    rintro e w5 ⟨rfl,rfl⟩
    go_wp2_with (at_builtin;go_must (refine wpList_app rfl (.tmp 25) (.tmp 27) _ rfl w3.heap.size 3 i0 _ 1 8 Tryz.underlying52 hi0 hz0 hz1 hz2 rfl (by omega) A k c _ rfl (ho.alloc _) _ 1 1 [encN i] rfl rfl (Rd.newAt (by simp) rfl) (encN_ok' [i]) (by unfold maxLen;omega) (by omega) (by simp;omega) ?_);intro A3 c3 w7 ho3 hg3 hA3)
    have hb7:=below_app (hb.alloc hsz (.cells #[.int .i64 (i : Int)] 3)) hg3 (by simp;omega) (fun a ha=>(ho.lt a ha).1)
    go_roundw
    case rel=>exact ⟨i+1,A3,k+1,c3,rfl,by go_num,by omega,by omega,by rw [HF.out,List.map_append];exact ho3,hb7⟩
    case measure=>simp [intOf];omega
  ·obtain rfl : i = n+1:=by omega
   rw [← HE.out] at ho
   obtain ⟨z,hz⟩ : ∃ z,n+1 = z:=⟨_,rfl⟩
   have ez : ((n : Int)+1) = (z : Int):=by omega
   go_wp2
   go_ret
   exact ⟨A,k,c,rfl,ho.more hbw3.size,below_two hbw3 hb⟩
end
section
open Go.RowKit
theorem jStarts_any (cl : List Nat) (C0 : Option Addr) (n c0 : Nat) (hl : cl.length = n) (hn : n≤100000) (X : Nat→Prop) (p : Pat) (v : Pv) (w : World) (hp : PatX w X p v) (hg : goodP 64 p = true) (hs : sizeP p≤2048) (hC : Rd w 1 C0 (cl.map encN)) :
  Calls Tryz.prog 206 #[valPt v,.slice C0 n c0] w fun e w'=>∃ A k c,e = .returned (.slice A k c)∧Own w' w.heap.size 3 1 A k c ((startsB p cl).map encN)∧Below w.heap.size w w':=by
 obtain ⟨i0,hi0,hz0,hz1,hz2⟩:=info_parts infoInt
 have HP:=Lib.hid hp
 have HG:=Lib.hid (fun W (h : PatX W X p v)=>jGood_any X p v W h (goodP_mono (by omega) hg) hs)
 have HL:=Lib.hid (fun W (h : PatX W X p v) (hc : Rd W 1 C0 (cl.map encN))=>jleads_any cl C0 n c0 hl hn X p v W h hg hs hc)
 have HE:=Lib.hid (show startsB p cl = (List.range (n+1)).filter fun i=>leadsP cl p i n by unfold startsB;rw [hl])
 rw [hl] at HL
 clear hp hg hl
 obtain ⟨n1,Hn1⟩ : ∃ n1,Hid (n+1 = n1):=⟨_,Lib.hid rfl⟩
 obtain ⟨k1,Hk1⟩ : ∃ k1,Hid (n1 / 64+1 = k1):=⟨_,Lib.hid rfl⟩
 simp only [Hn1.out] at HL
 unfold valPt at HG HL ⊢
 have Hz : Below w.heap.size w (w.alloc (.cells #[.int .i64 (v.1 : Int),.slice v.2.1.1 v.2.1.2.1 v.2.1.2.2,.slice v.2.2.1 v.2.2.2.1 v.2.2.2.2] 207)):=(Below.refl _ _).alloc (Nat.le_refl _) _
 have hb0 : Blk (w.alloc (.cells #[.int .i64 (v.1 : Int),.slice v.2.1.1 v.2.1.2.1 v.2.1.2.2,.slice v.2.2.1 v.2.2.2.1 v.2.2.2.2] 207)) w.heap.size 207 _:=Blk.new _ _ _
 go_enter Tryz.func206,Tryz.ntmps206
 go_wp2_with fail
 generalize (w.alloc (.cells #[.int .i64 (v.1 : Int),.slice v.2.1.1 v.2.1.2.1 v.2.1.2.2,.slice v.2.2.1 v.2.2.2.1 v.2.2.2.2] 207)) = w1 at Hz hb0 ⊢
 refine (HG.out w1 (HP.out.below Hz)).mono ?_
 rintro e w2 ⟨rfl,hb2⟩
 have hbw:=below_two Hz hb2
 have hb0':=hb0.below hb2
 have d0:=hb0'.cell 0
 have d1:=hb0'.cell 1
 have d2:=hb0'.cell 2
 simp only [zG,zI,zH] at d0 d1 d2
 have HL2:=Lib.hid (HL.out w2 (HP.out.below hbw) (hC.below hbw))
 clear HG HL hb0 hb0'
 go_wp2_with fail
 refine HL2.out.mono ?_
 rintro e w3 he
 obtain ⟨A2,c2,C2,rfl,hr2,hB2,hb3⟩:=he.rd
 have hbw3:=below_two hbw hb3
 have HB2:=Lib.hid hB2
 clear he HL2 d0 d1 d2 hB2
 go_wp2_with fail
 go_loopw [6,7] (fun u z wr=>∃ (i : Nat) (A : Option Addr) (k c : Nat),u = .slice A k c∧z = .int .i64 i∧i≤n+1∧k≤i∧Own wr w3.heap.size 3 1 A k c (((List.range i).filter fun i=>leadsP cl p i n).map encN)∧Below w3.heap.size w3 wr) (fun _ z _=>n+1 - (intOf z).toNat)
 case atStart=>exact ⟨0,none,0,0,rfl,rfl,by omega,by omega,Own.nil_ _ _ _ _,Below.refl _ _⟩
 case round =>
  obtain ⟨i,A,k,c,rfl,rfl,hi,hki,ho,hb⟩:=hrel
  have hsz:=hb.size
  by_cases hlt : i≤n
  ·obtain ⟨bm,om,Bm,dm,xm,em,km,-,hxm,hrm,hwm⟩:=hr2.at_ (i:=i) (by have:=Hn1.out;omega)
   simp only at em
   subst em
   have HR:=Lib.hid (HB2.out.row hxm (by have:=Hn1.out;omega))
   rw [Hk1.out] at km hwm
   replace km:=cell_keep km hb
   have hin1 : i < n1:=by have:=Hn1.out;omega
   obtain ⟨q,Hq⟩ : ∃ q,Hid (leadsP cl p i n = q):=⟨_,Lib.hid rfl⟩
   have HH:=Lib.hid (jhas_any Bm k1 dm n xm wr (hrm.below hb) hwm (by have:=Hn1.out;have:=Hk1.out;omega) (by omega))
   rw [HR.out n (by have:=Hn1.out;omega),Hq.out] at HH
   have HF:=Lib.hid (filter_next (m:=fun i=>leadsP cl p i n) (i:=i))
   rw [Hq.out] at HF
   clear hxm
   cases q with
   | false =>
    go_wp2_with fail
    refine HH.out.mono ?_
    rintro e w5 ⟨rfl,rfl⟩
    go_wp2
    go_roundw
    case rel=>exact ⟨i+1,A,k,c,rfl,by go_num,by omega,by omega,by rw [HF.out];simpa using ho,hb⟩
    case measure=>simp [intOf];omega
   | true =>
    go_wp2_with fail
    refine HH.out.mono ?_
    rintro e w5 ⟨rfl,rfl⟩
    go_wp2_with (at_builtin;go_must (refine wpList_app rfl (.tmp 27) (.tmp 29) _ rfl w3.heap.size 3 i0 _ 1 8 Tryz.underlying52 hi0 hz0 hz1 hz2 rfl (by omega) A k c _ rfl (ho.alloc _) _ 1 1 [encN i] rfl rfl (Rd.newAt (by simp) rfl) (encN_ok' [i]) (by unfold maxLen;omega) (by omega) (by simp;omega) ?_);intro A3 c3 w7 ho3 hg3 hA3)
    have hb7:=below_app (hb.alloc hsz (.cells #[.int .i64 (i : Int)] 3)) hg3 (by simp;omega) (fun a ha=>(ho.lt a ha).1)
    go_roundw
    case rel=>exact ⟨i+1,A3,k+1,c3,rfl,by go_num,by omega,by omega,by rw [HF.out,List.map_append];exact ho3,hb7⟩
    case measure=>simp [intOf];omega
  ·obtain rfl : i = n+1:=by omega
   rw [← HE.out] at ho
   obtain ⟨z,hz⟩ : ∃ z,n+1 = z:=⟨_,rfl⟩
   have ez : ((n : Int)+1) = (z : Int):=by omega
   go_wp2
   go_ret
   exact ⟨A,k,c,rfl,ho.more hbw3.size,below_two hbw3 hb⟩
theorem oin_any (A : Option Addr) (n c : Nat) (l : List Nat) (x : Nat) (w : World) (hA : Rd w 1 A (l.map encN)) (hl : l.length = n) (hn : n≤4000000) :
  Calls Tryz.prog 208 #[.slice A n c,.int .i64 (x : Nat)] w fun e w'=>e = .returned (.bool (l.contains x))∧w = w':=by
 have Hl:=Lib.hid hl
 clear hl
 go_enter Tryz.func208,Tryz.ntmps208
 go_wp2
 go_loopw [5] (fun v wr=>∃ i : Nat,v = .int .i64 i∧i≤n∧x ∉ l.take i∧wr = w) (fun v _=>n - (intOf v).toNat)
 case atStart=>exact ⟨0,rfl,by omega,by simp,rfl⟩
 case round =>
  obtain ⟨i,rfl,hi,hm,rfl⟩:=hrel
  by_cases hlt : i < n
  ·obtain ⟨y,hy⟩ : ∃ y,l[i]? = some y:=⟨_,List.getElem?_eq_getElem (by have:=Hl.out;omega)⟩
   obtain ⟨b,off,rfl,hc⟩:=hA.atNa hy
   by_cases e : y = x
   ·subst e
    have HV:=Lib.hid (show l.contains y = true from List.contains_iff_mem.2 (List.mem_of_getElem? hy))
    clear hm hy
    go_wp2
    go_ret
    exact ⟨by rw [HV.out];rfl,rfl⟩
   ·have e2 : ((y : Int) == (x : Int)) = false:=beq_eq_false_iff_ne.2 (by omega)
    have HM:=Lib.hid (mem_step hm hy e)
    clear hm hy e
    go_wp2
    go_roundw
    case rel=>exact ⟨i+1,by go_num,by omega,HM.out,by first | rfl | trivial⟩
    case measure=>simp [intOf];omega
  ·obtain rfl : i = n:=by omega
   have HV:=Lib.hid (show l.contains x = false from by
    rw [List.take_of_length_le (by have:=Hl.out;omega)] at hm
    exact Bool.eq_false_iff.2 fun h=>hm (List.contains_iff_mem.1 h))
   go_wp2
   go_ret
   exact ⟨by rw [HV.out];rfl,rfl⟩
end
section
open Go.RowKit
abbrev Ruv:=Bool × Bool × Bool × Pv × Pv
def valRu (v : Ruv) : Value:=.agg #[.bool v.1,.bool v.2.1,.bool v.2.2.1,.int .i64 (v.2.2.2.1.1 : Int),.slice v.2.2.2.1.2.1.1 v.2.2.2.1.2.1.2.1 v.2.2.2.1.2.1.2.2,.slice v.2.2.2.1.2.2.1 v.2.2.2.1.2.2.2.1 v.2.2.2.1.2.2.2.2,.int .i64 (v.2.2.2.2.1 : Int),.slice v.2.2.2.2.2.1.1 v.2.2.2.2.2.1.2.1 v.2.2.2.2.2.1.2.2,.slice v.2.2.2.2.2.2.1 v.2.2.2.2.2.2.2.1 v.2.2.2.2.2.2.2.2]
def encRul (v : Ruv) : List Value:=[.bool v.1,.bool v.2.1,.bool v.2.2.1]++encPt v.2.2.2.1++encPt v.2.2.2.2
structure RuX (w : World) (X : Nat→Prop) (r : RuleP) (v : Ruv) : Prop where
 cut : v.1 = r.cut
 start : v.2.1 = r.start
 stop : v.2.2.1 = r.stop
 left : PatX w X r.left v.2.2.2.1
 right : PatX w X r.right v.2.2.2.2
theorem RuX.keep {X X' : Nat→Prop} {w w' : World} {r : RuleP} {v : Ruv} (h : RuX w X r v) (k : KeepX X X' w w') : RuX w' X' r v:=⟨h.cut,h.start,h.stop,h.left.keep k,h.right.keep k⟩
theorem RuX.below {X : Nat→Prop} {w w' : World} {r : RuleP} {v : Ruv} (h : RuX w X r v) (hb : Below w.heap.size w w') : RuX w' X r v:=h.keep (KeepX.below hb)
structure RuleOk (r : RuleP) : Prop where
 left : goodP 64 r.left = true
 right : goodP 64 r.right = true
 sl : sizeP r.left≤2048
 sr : sizeP r.right≤2048
theorem Rd.pre' {w : World} {s : Nat} {A : Option Addr} {cs ds : List (List Value)} (h : Rd w s A (cs++ds)) : Rd w s A cs:=fun hn=>by
 obtain ⟨b,off,e,hc⟩:=h (by intro e;rw [List.append_eq_nil_iff] at e;exact hn e.1)
 exact ⟨b,off,e,fun k j x u hk hj=>hc k j x u (by rw [List.getElem?_append_left (List.getElem?_eq_some_iff.1 hk).1];exact hk) hj⟩
theorem Rd.takeN {w : World} {A : Option Addr} {l : List Nat} (h : Rd w 1 A (l.map encN)) (k : Nat) : Rd w 1 A ((l.take k).map encN):=by
 have e : l.map encN = (l.take k).map encN++(l.drop k).map encN:=by rw [← List.map_append,List.take_append_drop]
 rw [e] at h
 exact Rd.pre' h
theorem Rd.dropN {w : World} {b off : Nat} {l : List Nat} (h : Rd w 1 (some ⟨b,off,none⟩) (l.map encN)) (k : Nat) : Rd w 1 (some ⟨b,off+k,none⟩) ((l.drop k).map encN):=fun hn=>by
 obtain ⟨b',off',e,hc⟩:=h (by intro e;rw [List.map_eq_nil_iff] at e;subst e;simp at hn)
 injection e with e
 injection e with e1 e2 _
 subst e1
 subst e2
 refine ⟨b,off+k,rfl,fun i j x u hi hj=>?_⟩
 have:=hc (k+i) j x u (by rw [List.getElem?_map,List.getElem?_drop] at hi;rw [List.getElem?_map];exact hi) hj
 rw [show off+k+i*1+j = off+(k+i)*1+j by omega]
 exact this
theorem own_empty {w : World} {base : Nat} {A : Option Addr} {k c : Nat} {l : List Nat} (h : Own w base 3 1 A k c (l.map encN)) : l.length = k:=by have:=h.len;rwa [List.length_map] at this
theorem empty_iff {l : List Nat} {k : Nat} (h : l.length = k) : ((k : Int) == 0) = l.isEmpty:=by
 cases l with
 | nil=>simp at h;subst h;rfl
 | cons a r=>simp at h;rw [← h];rw [Bool.eq_iff_iff];simp;omega
theorem oApplies_any (cl : List Nat) (b0 off0 n c0 a : Nat) (hl : cl.length = n) (hn : n≤100000) (hc0 : n≤c0) (h0 : 0 < a) (ha : a < n) (X : Nat→Prop) (r : RuleP) (v : Ruv) (w : World) (hr : RuX w X r v) (hok : RuleOk r) (hC : Rd w 1 (some ⟨b0,off0,none⟩) (cl.map encN)) :
  Calls Tryz.prog 158 #[valRu v,.slice (some ⟨b0,off0,none⟩) n c0,.int .i64 (a : Nat)] w fun e w'=>e = .returned (.bool (appliesB r cl a))∧Below w.heap.size w w':=by
 obtain ⟨v1,v2,v3,vl,vr⟩:=v
 have HR:=Lib.hid hr
 have HGl:=Lib.hid (fun W (h : PatX W X r.left vl)=>jGood_any X r.left vl W h (goodP_mono (by omega) hok.left) hok.sl)
 have HGr:=Lib.hid (fun W (h : PatX W X r.right vr)=>jGood_any X r.right vr W h (goodP_mono (by omega) hok.right) hok.sr)
 have HS:=Lib.hid (fun W c (h : PatX W X r.left vl) (hc : Rd W 1 (some ⟨b0,off0,none⟩) ((cl.take a).map encN))=>jStarts_any (cl.take a) (some ⟨b0,off0,none⟩) a c (by rw [List.length_take];omega) (by omega) X r.left vl W h hok.left hok.sl hc)
 have HE:=Lib.hid (fun W m c (hm : m = n - a) (h : PatX W X r.right vr) (hc : Rd W 1 (some ⟨b0,off0+a,none⟩) ((cl.drop a).map encN))=>jEnds_any (cl.drop a) (some ⟨b0,off0+a,none⟩) m c (by rw [List.length_drop];omega) (by omega) X r.right vr W h hok.right hok.sr hc)
 have HV : Hid (appliesB r cl a = (!(startsB r.left (cl.take a)).isEmpty && !(endsB r.right (cl.drop a)).isEmpty && (!v2 || (startsB r.left (cl.take a)).contains 0) && (!v3 || (endsB r.right (cl.drop a)).contains (n - a)))):=Lib.hid (by
  have h2:=hr.start
  have h3:=hr.stop
  simp only at h2 h3
  unfold appliesB;rw [hl,h2,h3])
 have HSz : Hid ((startsB r.left (cl.take a)).length≤n+1):=Lib.hid (by
  unfold startsB
  refine Nat.le_trans (List.length_filter_le _ _) ?_
  rw [List.length_range,List.length_take];omega)
 have HEz : Hid ((endsB r.right (cl.drop a)).length≤n+1):=Lib.hid (by
  unfold endsB
  refine Nat.le_trans (List.length_filter_le _ _) ?_
  rw [List.length_range,List.length_drop];omega)
 generalize startsB r.left (cl.take a) = SL at HS HV HSz
 generalize endsB r.right (cl.drop a) = EL at HE HV HEz
 clear hr hok
 unfold valRu
 unfold valPt at HGl HGr HS HE
 simp only
 have hac : (a : Int)≤(c0 : Int):=by omega
 have hac' : a≤c0:=by omega
 have haz : (0 : Int)≤(a : Int):=by omega
 have han : a≤n:=by omega
 have hca : ¬ c0 = a:=by omega
 have t1 : decide (n < a) = false:=decide_eq_false (by omega)
 have t2 : decide ((a : Int) < 0) = false:=decide_eq_false (by omega)
 go_enter Tryz.func158,Tryz.ntmps158
 go_wp2_with fail
 have Hz : Below w.heap.size w (w.alloc (.cells #[.bool v1,.bool v2,.bool v3,.int .i64 (vl.1 : Int),.slice vl.2.1.1 vl.2.1.2.1 vl.2.1.2.2,.slice vl.2.2.1 vl.2.2.2.1 vl.2.2.2.2,.int .i64 (vr.1 : Int),.slice vr.2.1.1 vr.2.1.2.1 vr.2.1.2.2,.slice vr.2.2.1 vr.2.2.2.1 vr.2.2.2.2] 209)):=(Below.refl _ _).alloc (Nat.le_refl _) _
 have hb0 : Blk (w.alloc (.cells #[.bool v1,.bool v2,.bool v3,.int .i64 (vl.1 : Int),.slice vl.2.1.1 vl.2.1.2.1 vl.2.1.2.2,.slice vl.2.2.1 vl.2.2.2.1 vl.2.2.2.2,.int .i64 (vr.1 : Int),.slice vr.2.1.1 vr.2.1.2.1 vr.2.1.2.2,.slice vr.2.2.1 vr.2.2.2.1 vr.2.2.2.2] 209)) w.heap.size 209 _:=Blk.new _ _ _
 generalize (w.alloc (.cells #[.bool v1,.bool v2,.bool v3,.int .i64 (vl.1 : Int),.slice vl.2.1.1 vl.2.1.2.1 vl.2.1.2.2,.slice vl.2.2.1 vl.2.2.2.1 vl.2.2.2.2,.int .i64 (vr.1 : Int),.slice vr.2.1.1 vr.2.1.2.1 vr.2.1.2.2,.slice vr.2.2.1 vr.2.2.2.1 vr.2.2.2.2] 209)) = w1 at Hz hb0 ⊢
 have d3:=hb0.cell 3
 have d4:=hb0.cell 4
 have d5:=hb0.cell 5
 have d6:=hb0.cell 6
 have d7:=hb0.cell 7
 have d8:=hb0.cell 8
 have d1:=hb0.cell 1
 have d2:=hb0.cell 2
 simp only [zG,zI,zH] at d1 d2 d3 d4 d5 d6 d7 d8
 have HD:=Lib.hid (fun W (h : Below w1.heap.size w1 W)=>And.intro (cell_keep d1 h) (And.intro (cell_keep d2 h) (And.intro (cell_keep d3 h) (And.intro (cell_keep d4 h) (And.intro (cell_keep d5 h) (And.intro (cell_keep d6 h) (And.intro (cell_keep d7 h) (cell_keep d8 h))))))))
 have HX:=Lib.hid (fun W (h : Below w1.heap.size w1 W)=>(HR.out.below Hz).below h)
 have HCc:=Lib.hid (fun W (h : Below w1.heap.size w1 W)=>(hC.below Hz).below h)
 clear hb0 HR hC
 refine (HGl.out w1 (HX.out w1 (Below.refl _ _)).left).mono ?_
 rintro e w2 ⟨rfl,hb2⟩
 obtain ⟨d1,d2,d3,d4,d5,d6,d7,d8⟩:=HD.out w2 hb2
 go_wp2_with fail
 refine (HGr.out w2 (HX.out w2 hb2).right).mono ?_
 rintro e w3 ⟨rfl,hb3⟩
 replace hb3:=below_two hb2 hb3
 clear HGl HGr d1 d2 d3 d4 d5 d6 d7 d8
 obtain ⟨d1,d2,d3,d4,d5,d6,d7,d8⟩:=HD.out w3 hb3
 have hb3d:=hb3.drew
 have Hbz:=Lib.hid (below_two Hz hb3)
 go_upto_region 3 with fail
 go_cut [7] from 29 to 34 (fun v wx=>∃ (A : Option Addr) (k c : Nat),v = .slice A k c∧SL.length = k∧Rd wx 1 A (SL.map encN)∧Below w1.heap.size w1 wx)
 case first =>
  refine wp_region_noPanic ?_
  go_region_law (go_simp;go_at_call 206;refine (HS.out w3.drew _ (HX.out w3.drew hb3d).left ((HCc.out w3.drew hb3d).takeN a)).mono ?_;rintro e w4 ⟨A4,k4,c4,rfl,ho4,hb4⟩)
  all_goals
   refine NoPanic.normal ?_
   have hb4':=below_step hb3d hb4 hb3d.size
   have hk4:=own_empty ho4
   go_wp2_with fail
   go_meet
   exact ⟨A4,k4,c4,rfl,hk4,ho4.rd (by omega),hb4'⟩
 case rest =>
  clear d1 d2 d3 d4 d5 d6 d7 d8 hb3d HS
  obtain ⟨A4,k4,c4,rfl,hk4,hr4,hb4⟩:=hcut
  obtain ⟨d1,d2,d3,d4,d5,d6,d7,d8⟩:=HD.out wc hb4
  have hb4d:=hb4.drew
  have hnac : (n : Int) - (a : Int) = ((n - a : Nat) : Int):=by omega
  go_upto_region 4 with fail
  go_cut [8] from 35 to 40 (fun v wx=>∃ (A : Option Addr) (k c : Nat),v = .slice A k c∧EL.length = k∧Rd wx 1 A (EL.map encN)∧Rd wx 1 A4 (SL.map encN)∧Below w1.heap.size w1 wx)
  case first =>
   refine wp_region_noPanic ?_
   go_region_law (go_simp;go_at_call 207;refine (HE.out wc.drew _ _ rfl (HX.out wc.drew hb4d).right ((HCc.out wc.drew hb4d).dropN a)).mono ?_;rintro e w5 ⟨A5,k5,c5,rfl,ho5,hb5⟩)
   all_goals
    refine NoPanic.normal ?_
    have hb5':=below_step hb4d hb5 hb4d.size
    have hk5:=own_empty ho5
    have hr4':=(hr4.drew).below hb5
    go_wp2_with fail
    go_meet
    exact ⟨A5,k5,c5,rfl,hk5,ho5.rd (by omega),hr4',hb5'⟩
  case rest =>
   clear d1 d2 d3 d4 d5 d6 d7 d8 hb4d HE hr4 hb4
   obtain ⟨A5,k5,c5,rfl,hk5,hr5,hr4,hb5⟩:=hcut
   obtain ⟨d1,d2,d3,d4,d5,d6,d7,d8⟩:=HD.out wc hb5
   have hbw:=below_two Hz hb5
   have hk4z : k4≤4000000:=by have:=HSz.out;omega
   have hk5z : k5≤4000000:=by have:=HEz.out;omega
   have u1:=empty_iff hk4
   have u2:=empty_iff hk5
   have HI1:=Lib.hid (oin_any A4 k4 c4 SL 0 wc hr4 hk4 hk4z)
   have HI2:=Lib.hid (oin_any A5 k5 c5 EL (n - a) wc hr5 hk5 hk5z)
   generalize SL.isEmpty = s1 at u1 HV
   generalize EL.isEmpty = s2 at u2 HV
   generalize SL.contains 0 = s3 at HI1 HV
   generalize EL.contains (n - a) = s4 at HI2 HV
   rw [← hnac] at HI2
   clear hr4 hr5 hk4 hk5 hk4z hk5z HSz HEz d3 d4 d5 d6 d7 d8 HD HX HCc hb5 hnac
   cases s1 with
   | true =>
    go_wp2
    go_ret
    exact ⟨by rw [HV.out];rfl,hbw⟩
   | false =>
    cases s2 with
    | true =>
     go_wp2
     go_ret
     exact ⟨by rw [HV.out];rfl,hbw⟩
    | false =>
     cases v2 with
     | true =>
      cases s3 with
      | false =>
       go_wp2_with fail
       refine HI1.out.mono ?_
       rintro e w7 ⟨rfl,rfl⟩
       go_wp2
       go_ret
       exact ⟨by rw [HV.out];rfl,hbw⟩
      | true =>
       cases v3 with
       | false =>
        go_wp2_with fail
        refine HI1.out.mono ?_
        rintro e w7 ⟨rfl,rfl⟩
        go_wp2
        go_ret
        exact ⟨by rw [HV.out];rfl,hbw⟩
       | true =>
        go_wp2_with fail
        refine HI1.out.mono ?_
        rintro e w7 ⟨rfl,rfl⟩
        go_wp2_with fail
        refine HI2.out.mono ?_
        rintro e w7 ⟨rfl,rfl⟩
        go_wp2
        go_ret
        exact ⟨by rw [HV.out];cases s4 <;> rfl,hbw⟩
     | false =>
      cases v3 with
      | false =>
       go_wp2
       go_ret
       exact ⟨by rw [HV.out];cases s3 <;> rfl,hbw⟩
      | true =>
       go_wp2_with fail
       refine HI2.out.mono ?_
       rintro e w7 ⟨rfl,rfl⟩
       go_wp2
       go_ret
       exact ⟨by rw [HV.out];cases s3 <;> cases s4 <;> rfl,hbw⟩
end
section
open Go.RowKit
theorem zamong_any (A : Option Addr) (n c : Nat) (l : List Nat) (x : Nat) (w : World) (hA : Rd w 1 A (l.map encN)) (hl : l.length = n) (hn : n≤4000000) :
  Calls Tryz.prog 204 #[.slice A n c,.int .i64 (x : Nat)] w fun e w'=>e = .returned (.bool (l.contains x))∧w = w':=by
 have Hl:=Lib.hid hl
 clear hl
 go_enter Tryz.func204,Tryz.ntmps204
 go_wp2
 go_loopw [5] (fun v wr=>∃ i : Nat,v = .int .i64 i∧i≤n∧x ∉ l.take i∧wr = w) (fun v _=>n - (intOf v).toNat)
 case atStart=>exact ⟨0,rfl,by omega,by simp,rfl⟩
 case round =>
  obtain ⟨i,rfl,hi,hm,rfl⟩:=hrel
  by_cases hlt : i < n
  ·obtain ⟨y,hy⟩ : ∃ y,l[i]? = some y:=⟨_,List.getElem?_eq_getElem (by have:=Hl.out;omega)⟩
   obtain ⟨b,off,rfl,hc⟩:=hA.atNa hy
   by_cases e : y = x
   ·subst e
    have HV:=Lib.hid (show l.contains y = true from List.contains_iff_mem.2 (List.mem_of_getElem? hy))
    clear hm hy
    go_wp2
    go_ret
    exact ⟨by rw [HV.out];rfl,rfl⟩
   ·have e2 : ((y : Int) == (x : Int)) = false:=beq_eq_false_iff_ne.2 (by omega)
    have HM:=Lib.hid (mem_step hm hy e)
    clear hm hy e
    go_wp2
    go_roundw
    case rel=>exact ⟨i+1,by go_num,by omega,HM.out,by first | rfl | trivial⟩
    case measure=>simp [intOf];omega
  ·obtain rfl : i = n:=by omega
   have HV:=Lib.hid (show l.contains x = false from by
    rw [List.take_of_length_le (by have:=Hl.out;omega)] at hm
    exact Bool.eq_false_iff.2 fun h=>hm (List.contains_iff_mem.1 h))
   go_wp2
   go_ret
   exact ⟨by rw [HV.out];rfl,rfl⟩
theorem jEmpty_any (X : Nat→Prop) (p : Pat) (v : Pv) (w : World) (hp : PatX w X p v) (hg : goodP 64 p = true) (hs : sizeP p≤2048) :
  Calls Tryz.prog 203 #[valPt v] w fun e w'=>e = .returned (.bool (emptyB p))∧Below w.heap.size w w':=by
 have HM : Hid (∀ W,PatX W X p v→Calls Tryz.prog 250 #[valPt v,.slice none 0 0] W fun e w'=>e = .returned (.bool (emptyB p))∧Below W.heap.size W w'):=Lib.hid fun W hp=>by
  have HE:=Lib.hid (fun W (h : PatX W X p v)=>jEnds_any [] none 0 0 rfl (by omega) X p v W h hg hs (Rd.nil_ _ _ _))
  have HZ : Hid ((endsB p []).length≤1):=Lib.hid (by
   unfold endsB
   refine Nat.le_trans (List.length_filter_le _ _) ?_
   rw [List.length_range];exact Nat.le_refl _)
  have HV : Hid (emptyB p = (endsB p []).contains 0):=Lib.hid rfl
  have HP:=Lib.hid hp
  generalize endsB p [] = EL at HE HZ HV
  clear hp hg
  unfold valPt at HE ⊢
  have Hz : Below W.heap.size W (W.alloc (.cells #[.int .i64 (v.1 : Int),.slice v.2.1.1 v.2.1.2.1 v.2.1.2.2,.slice v.2.2.1 v.2.2.2.1 v.2.2.2.2] 207)):=(Below.refl _ _).alloc (Nat.le_refl _) _
  go_enter Tryz.func250,Tryz.ntmps250
  go_wp2_with fail
  refine (HE.out _ (HP.out.below Hz)).mono ?_
  rintro e w2 ⟨A,k,c,rfl,ho,hb2⟩
  have hk:=own_empty ho
  have HI:=Lib.hid (jin_any A k c EL 0 w2 (ho.rd (by omega)) hk (by have:=HZ.out;omega))
  generalize EL.contains 0 = q at HI HV
  clear ho HE
  go_wp2_with fail
  refine HI.out.mono ?_
  rintro e w3 ⟨rfl,rfl⟩
  go_wp2
  go_ret
  exact ⟨by rw [HV.out];rfl,below_two Hz hb2⟩
 have HP:=Lib.hid hp
 clear hp hg
 unfold valPt at HM ⊢
 have Hz : Below w.heap.size w (w.alloc (.cells #[.int .i64 (v.1 : Int),.slice v.2.1.1 v.2.1.2.1 v.2.1.2.2,.slice v.2.2.1 v.2.2.2.1 v.2.2.2.2] 207)):=(Below.refl _ _).alloc (Nat.le_refl _) _
 go_enter Tryz.func203,Tryz.ntmps203
 go_wp2_with fail
 refine (HM.out _ (HP.out.below Hz)).mono ?_
 rintro e w2 ⟨rfl,hb2⟩
 go_wp2
 go_ret
 exact ⟨rfl,below_two Hz hb2⟩
theorem someT_all : ∀ ks : List Pat,someT ks = ks.all someB
 | []=>by unfold someT;rfl
 | p :: r=>by unfold someT;rw [List.all_cons,someT_all r]
theorem someO_any : ∀ ks : List Pat,someO ks = ks.any someB
 | []=>by unfold someO;rfl
 | p :: r=>by unfold someO;rw [List.any_cons,someO_any r]
def KidSome (p : Pat) : Prop:=∀ (X : Nat→Prop) (v : Pv) (w : World),PatX w X p v→goodP 64 p = true→Calls Tryz.prog 286 #[valPt v] w fun e w'=>e = .returned (.bool (someB p))∧Below w.heap.size w w'
theorem jrest_any (X : Nat→Prop) (ks : List Pat) (vs : List Pv) (A : Option Addr) (n c : Nat) (w : World) (hA : SlX w X 3 (A,n,c) (vs.map encPt)) (hK : PatsX w X ks vs) (HK : ∀ p ∈ ks,KidSome p) (hg : goodL 64 ks = true) (hz : ks.length≤2048) :
  Calls Tryz.prog 287 #[.slice A n c] w fun e w'=>e = .returned (.bool (someT ks))∧Below w.heap.size w w':=by
 have hl:=hA.len
 rw [List.length_map,hK.len] at hl
 simp only at hl
 have Hl:=Lib.hid hl
 have HA:=Lib.hid hA
 have HKs:=Lib.hid hK
 have HKid:=Lib.hid HK
 have Hg:=Lib.hid hg
 have hn : n≤2048:=by omega
 clear hl hA hK HK hg
 go_enter Tryz.func287,Tryz.ntmps287
 go_wp2
 go_loopw [3] (fun v wr=>∃ i : Nat,v = .int .i64 i∧i≤n∧Hid (∀ j q,j < i→ks[j]? = some q→someB q = true)∧Below w.heap.size w wr) (fun v _=>n - (intOf v).toNat)
 case atStart=>exact ⟨0,rfl,by omega,Lib.hid (fun j q h=>absurd h (Nat.not_lt_zero _)),Below.refl _ _⟩
 case round =>
  obtain ⟨i,rfl,hi,HI,hb⟩:=hrel
  by_cases hlt : i < n
  ·obtain ⟨q,hq⟩ : ∃ q,ks[i]? = some q:=⟨_,List.getElem?_eq_getElem (by have:=Hl.out;omega)⟩
   obtain ⟨u,hu,hp⟩:=HKs.out.at_ hq
   obtain ⟨b,off,e,k0,k1,k2⟩:=HA.out.atPt hu
   simp only at e
   subst e
   have HC:=Lib.hid (HKid.out q (List.mem_of_getElem? hq) X u wr (hp.below hb) (goodL_at Hg.out hq))
   replace k0:=cell_keep k0 hb
   replace k1:=cell_keep k1 hb
   replace k2:=cell_keep k2 hb
   unfold valPt at HC
   obtain ⟨sq,Hq⟩ : ∃ sq,Hid (someB q = sq):=⟨_,Lib.hid rfl⟩
   rw [Hq.out] at HC
   have Hqi:=Lib.hid hq
   clear hq hp hu
   go_wp2_with fail
   refine HC.out.mono ?_
   rintro e w3 ⟨rfl,hb3⟩
   cases sq with
   | false =>
    have HV:=Lib.hid (show someT ks = false from by
     rw [someT_all,Bool.eq_false_iff]
     intro h
     have:=List.all_eq_true.1 h q (List.mem_of_getElem? Hqi.out)
     rw [Hq.out] at this;cases this)
    go_wp2
    go_ret
    exact ⟨by rw [HV.out];rfl,below_two hb hb3⟩
   | true =>
    go_wp2
    go_roundw
    case rel=>exact ⟨i+1,by go_num,by omega,Lib.hid (fun j q' hj hq'=>by
     rcases Nat.lt_or_ge j i with h | h
     ·exact HI.out j q' h hq'
     ·obtain rfl : j = i:=by omega
      rw [Hqi.out] at hq'
      injection hq' with hq'
      rw [← hq'];exact Hq.out),below_two hb hb3⟩
    case measure=>simp [intOf];omega
  ·obtain rfl : i = n:=by omega
   have HV:=Lib.hid (show someT ks = true from by
    rw [someT_all,List.all_eq_true]
    intro q hq
    obtain ⟨j,hj,e⟩:=List.getElem_of_mem hq
    exact HI.out j q (by have:=Hl.out;omega) (by rw [List.getElem?_eq_getElem hj,e]))
   go_wp2
   go_ret
   exact ⟨by rw [HV.out];rfl,hb⟩
theorem jsome_all : ∀ (z : Nat) (p : Pat),sizeP p≤z→sizeP p≤2048→KidSome p:=by
 intro z
 induction z with
 | zero=>intro p hz;have:=sizeP_pos p;omega
 | succ z ih =>
  intro p hz hs X v w hp hg
  obtain ⟨op,cs,ks⟩:=p
  obtain ⟨o,⟨A,n,c⟩,⟨B,m,d⟩⟩:=v
  simp only [PatX] at hp
  obtain ⟨rfl,hA,vs,hB,hK⟩:=hp
  unfold goodP at hg
  rw [Bool.and_eq_true] at hg
  obtain ⟨h1,h2,h3,h4,h5⟩:=node_parts hg.1
  have hzl : sizeL ks≤z:=by unfold sizeP at hz;omega
  have hsl : sizeL ks≤2047:=by unfold sizeP at hs;omega
  have hk : ∀ p ∈ ks,KidSome p:=fun p hp=>by
   obtain ⟨i,hi,e⟩:=List.getElem_of_mem hp
   have h6:=sizeL_at (ks:=ks) (i:=i) (p:=p) (by rw [List.getElem?_eq_getElem hi,e])
   exact ih p (by omega) (by omega)
  have hkl:=sizeL_len ks
  have hn : cs.length = n:=by have:=hA.len;rwa [List.length_map] at this
  have hm : vs.length = m:=by have:=hB.len;rwa [List.length_map] at this
  have hk2:=hK.len
  rw [hm] at hk2
  have hgl:=hg.2
  unfold valPt
  simp only
  have Hz : Below w.heap.size w (w.alloc (.cells #[.int .i64 (o : Int),.slice A n c,.slice B m d] 207)):=(Below.refl _ _).alloc (Nat.le_refl _) _
  have hb0 : Blk (w.alloc (.cells #[.int .i64 (o : Int),.slice A n c,.slice B m d] 207)) w.heap.size 207 _:=Blk.new _ _ _
  have HB:=Lib.hid hB
  have HK:=Lib.hid hK
  have HKid:=Lib.hid hk
  have Hgl:=Lib.hid hgl
  have Hk2:=Lib.hid hk2
  have hkz : ks.length≤2048:=by omega
  have hmz : m≤2048:=by omega
  clear hA hB hK hk hgl hk2 hg hm ih hkl hzl hsl hz hs
  rcases (by omega : o = 0∨o = 1∨o = 2∨o = 3∨o = 4∨o = 5∨o = 6) with rfl | rfl | rfl | rfl | rfl | rfl | rfl
  ·have e : someB (.node 0 cs ks) = true:=by unfold someB;rfl
   rw [e]
   clear h1 h2 h3 h4 h5 hn
   go_enter Tryz.func286,Tryz.ntmps286
   go_wp2
   go_ret
   exact ⟨rfl,Hz⟩
  ·have e : someB (.node 1 cs ks) = !cs.isEmpty:=by unfold someB;rfl
   rw [e]
   have HE:=Lib.hid (empty_iff hn)
   clear h1 h2 h3 h4 h5
   cases cs with
   | nil =>
    simp only [List.length_nil] at hn
    subst hn
    go_enter Tryz.func286,Tryz.ntmps286
    go_wp2
    go_ret
    exact ⟨rfl,Hz⟩
   | cons x r =>
    have h0 : decide ((0 : Int) < (n : Int)) = true:=decide_eq_true (by simp at hn;omega)
    have h0' : 0 < n:=by simp at hn;omega
    clear hn
    go_enter Tryz.func286,Tryz.ntmps286
    go_wp2
    go_ret
    exact ⟨rfl,Hz⟩
  ·have e : someB (.node 2 cs ks) = someT ks:=by unfold someB;rfl
   rw [e]
   clear h1 h2 h3 h4 h5 hn
   have HC:=Lib.hid (jrest_any X ks vs B m d _ (HB.out.keep (KeepX.below Hz)) (HK.out.below Hz) HKid.out Hgl.out hkz)
   go_enter Tryz.func286,Tryz.ntmps286
   go_wp2_with fail
   refine HC.out.mono ?_
   rintro e w3 ⟨rfl,hb3⟩
   go_wp2
   go_ret
   exact ⟨rfl,below_two Hz hb3⟩
  ·have e : someB (.node 3 cs ks) = someO ks:=by unfold someB;rfl
   rw [e]
   clear h1 h2 h3 h4 h5 hn
   have e3 : ((3 : Nat) : Int) = 3:=rfl
   rw [e3] at Hz hb0 ⊢
   go_enter Tryz.func286,Tryz.ntmps286
   go_wp2_with fail
   generalize (w.alloc (.cells #[.int .i64 3,.slice A n c,.slice B m d] 207)) = w1 at Hz hb0 ⊢
   have k20:=hb0.cell 2
   simp only [zG,zI,zH] at k20
   clear hb0
   go_loopw [3] (fun v wr=>∃ i : Nat,v = .int .i64 i∧i≤m∧Hid (∀ j q,j < i→ks[j]? = some q→someB q = false)∧Below w1.heap.size w1 wr) (fun v _=>m - (intOf v).toNat)
   case atStart=>exact ⟨0,rfl,by omega,Lib.hid (fun j q h=>absurd h (Nat.not_lt_zero _)),Below.refl _ _⟩
   case round =>
    obtain ⟨i,rfl,hi,HI,hb⟩:=hrel
    have hbw:=below_two Hz hb
    have kk2:=cell_keep k20 hb
    by_cases hlt : i < m
    ·obtain ⟨q,hq⟩ : ∃ q,ks[i]? = some q:=⟨_,List.getElem?_eq_getElem (by have:=Hk2.out;omega)⟩
     obtain ⟨u,hu,hp⟩:=HK.out.at_ hq
     obtain ⟨b,off,e,k0,k1,k2⟩:=HB.out.atPt hu
     simp only at e
     subst e
     have HC:=Lib.hid (HKid.out q (List.mem_of_getElem? hq) X u wr (hp.below hbw) (goodL_at Hgl.out hq))
     replace k0:=cell_keep k0 hbw
     replace k1:=cell_keep k1 hbw
     replace k2:=cell_keep k2 hbw
     unfold valPt at HC
     obtain ⟨sq,Hq⟩ : ∃ sq,Hid (someB q = sq):=⟨_,Lib.hid rfl⟩
     rw [Hq.out] at HC
     have Hqi:=Lib.hid hq
     clear hq hp hu
     go_wp2_with fail
     refine HC.out.mono ?_
     rintro e w3 ⟨rfl,hb3⟩
     cases sq with
     | true =>
      have HV:=Lib.hid (show someO ks = true from by
       rw [someO_any,List.any_eq_true]
       exact ⟨q,List.mem_of_getElem? Hqi.out,Hq.out⟩)
      go_wp2
      go_ret
      exact ⟨by rw [HV.out];rfl,below_two hbw hb3⟩
     | false =>
      go_wp2
      go_roundw
      case rel=>exact ⟨i+1,by go_num,by omega,Lib.hid (fun j q' hj hq'=>by
       rcases Nat.lt_or_ge j i with h | h
       ·exact HI.out j q' h hq'
       ·obtain rfl : j = i:=by omega
        rw [Hqi.out] at hq'
        injection hq' with hq'
        rw [← hq'];exact Hq.out),below_two hb hb3⟩
      case measure=>simp [intOf];omega
    ·obtain rfl : i = m:=by omega
     have HV:=Lib.hid (show someO ks = false from by
      rw [someO_any,List.any_eq_false]
      intro q hq
      obtain ⟨j,hj,e⟩:=List.getElem_of_mem hq
      rw [HI.out j q (by have:=Hk2.out;omega) (by rw [List.getElem?_eq_getElem hj,e])]
      exact Bool.false_ne_true)
     go_wp2
     go_ret
     exact ⟨by rw [HV.out];rfl,hbw⟩
  ·have e : someB (.node 4 cs ks) = true:=by unfold someB;rfl
   rw [e]
   clear h1 h2 h3 h4 h5 hn
   go_enter Tryz.func286,Tryz.ntmps286
   go_wp2
   go_ret
   exact ⟨rfl,Hz⟩
  ·obtain ⟨q,rfl⟩:=form_one h3 (by omega)
   have e : someB (.node 5 cs [q]) = someB q:=by (conv=>lhs;unfold someB);simp [someH]
   rw [e]
   have hm1 : m = 1:=by have:=Hk2.out;simpa using this
   subst hm1
   have e5 : ((5 : Nat) : Int) = 5:=rfl
   rw [e5] at Hz hb0 ⊢
   obtain ⟨u,hu,hp⟩:=HK.out.at_ (k:=0) (p:=q) rfl
   obtain ⟨b,off,e,k0,k1,k2⟩:=HB.out.atPt hu
   simp only at e
   subst e
   have HC:=Lib.hid (HKid.out q (by simp) X u _ (hp.below Hz) (goodL_at Hgl.out (i:=0) rfl))
   replace k0:=cell_keep k0 Hz
   replace k1:=cell_keep k1 Hz
   replace k2:=cell_keep k2 Hz
   simp only [Nat.zero_mul,Nat.add_zero] at k0 k1 k2
   unfold valPt at HC
   clear h1 h2 h3 h4 h5 hn hu hp
   go_enter Tryz.func286,Tryz.ntmps286
   go_wp2_with fail
   refine HC.out.mono ?_
   rintro e w3 ⟨rfl,hb3⟩
   go_wp2
   go_ret
   exact ⟨rfl,below_two Hz hb3⟩
  ·have e : someB (.node 6 cs ks) = true:=by unfold someB;rfl
   rw [e]
   clear h1 h2 h3 h4 h5 hn
   go_enter Tryz.func286,Tryz.ntmps286
   go_wp2
   go_ret
   exact ⟨rfl,Hz⟩
end
section
open Go.RowKit
theorem SlX.dropPt {w : World} {X : Nat → Prop} {b off n c : Nat} {vs : List Pv} (h : SlX w X 3 (some ⟨b, off, none⟩, n, c) (vs.map encPt)) (k : Nat) (hk : k ≤ n) : SlX w X 3 (some ⟨b, off + k * 3, none⟩, n - k, c - k) ((vs.drop k).map encPt) :=
  ⟨fun hn => by
    obtain ⟨b', off', e, hc⟩ := h.rd (by intro e; rw [List.map_eq_nil_iff] at e; subst e; simp at hn)
    injection e with e
    injection e with e1 e2 _
    subst e1
    subst e2
    refine ⟨b, off + k * 3, rfl, fun i j x u hi hj => ?_⟩
    have := hc (k + i) j x u (by rw [List.getElem?_map, List.getElem?_drop] at hi; rw [List.getElem?_map]; exact hi) hj
    rw [show off + k * 3 + i * 3 + j = off + (k + i) * 3 + j by omega]
    exact this,
   by have := h.len; rw [List.length_map] at this; rw [List.length_map, List.length_drop]; simp only at this ⊢; omega,
   fun a ha => by injection ha with ha; subst ha; exact h.inn ⟨b, off, none⟩ rfl,
   by have := h.cap; simp only at this ⊢; omega⟩
theorem SlX.none_left {w : World} {X : Nat→Prop} {b off n c : Nat} {cs : List (List Value)} (h : SlX w X 3 (some ⟨b,off,none⟩,n,c) cs) : SlX w X 3 (some ⟨b,off,none⟩,0,0) [] :=
 ⟨Rd.nil_ _ _ _,rfl,fun a ha=>by injection ha with ha;subst ha;exact h.inn _ rfl,Nat.le_refl _⟩
mutual
theorem firsts_len : ∀ p : Pat,goodP 64 p = true→(firstsB p).length≤64*sizeP p
 | .node op cs ks,h=>by
  unfold goodP at h
  rw [Bool.and_eq_true] at h
  obtain ⟨_,_,_,h4,h5⟩:=node_parts h.1
  have hcz : cs.length≤64:=rises_len h5 h4
  have hk:=firstsL_len (decide (op = 2)) ks h.2
  unfold firstsB sizeP
  split
  ·simp
  split
  ·omega
  ·omega
theorem firstsL_len (t : Bool) : ∀ ks : List Pat,goodL 64 ks = true→(firstsL t ks).length≤64*sizeL ks
 | [],_=>by unfold firstsL;simp
 | p :: r,h=>by
  unfold goodL at h
  rw [Bool.and_eq_true] at h
  have h1:=firsts_len p h.1
  have h2:=firstsL_len t r h.2
  unfold firstsL sizeL
  rw [List.length_append]
  split <;> split <;> simp <;> omega
end
def FirstsEnd (w : World) (l : List Nat) (e : Ending) (w' : World) : Prop:=∃ (A : Option Addr) (n c : Nat),e = .returned (.slice A n c)∧Rd w' 1 A (l.map encN)∧l.length = n∧Below w.heap.size w w'
def KidFirsts (p : Pat) : Prop:=∀ (X : Nat→Prop) (v : Pv) (w : World),PatX w X p v→goodP 64 p = true→Calls Tryz.prog 248 #[valPt v] w (FirstsEnd w (firstsB p))
def stepF (t : Bool) (p : Pat) (r : List Pat) : List Nat:=if someB p && (!t || someT r) then firstsB p else []
theorem firstsL_step (t : Bool) (p : Pat) (r : List Pat) : firstsL t (p :: r) = stepF t p r++(if t && !emptyB p then [] else firstsL t r):=by
 conv=>lhs;unfold firstsL
 rfl
theorem firstsL_nil (t : Bool) : firstsL t [] = []:=by unfold firstsL;rfl
theorem drop_hd {α : Type} {l : List α} {i : Nat} {x : α} (h : l[i]? = some x) : l.drop i = x :: l.drop (i+1):=by
 obtain ⟨h1,h2⟩:=List.getElem?_eq_some_iff.1 h
 rw [List.drop_eq_getElem_cons h1,h2]
theorem goodL_drop {N : Nat} : ∀ {ks : List Pat} (k : Nat),goodL N ks = true→goodL N (ks.drop k) = true
 | [],k,h=>by simpa using h
 | p :: r,0,h=>h
 | p :: r,k+1,h=>by
  unfold goodL at h
  rw [Bool.and_eq_true] at h
  rw [List.drop_succ_cons]
  exact goodL_drop k h.2
theorem PatsX.drop {w : World} {X : Nat→Prop} : ∀ {ks : List Pat} {vs : List Pv} (k : Nat),PatsX w X ks vs→PatsX w X (ks.drop k) (vs.drop k)
 | [],vs,k,h=>by simp only [PatsX] at h;subst h;simp [PatsX]
 | p :: r,vs,0,h=>h
 | p :: r,vs,k+1,h=>by
  simp only [PatsX] at h
  obtain ⟨v,s,rfl,_,h3⟩:=h
  rw [List.drop_succ_cons,List.drop_succ_cons]
  exact PatsX.drop k h3
theorem jfirsts_then (X : Nat→Prop) (cs : List Nat) (ks : List Pat) (v : Pv) (w : World) (hp : PatX w X (.node 2 cs ks) v) (hg : goodL 64 ks = true) (hz : sizeL ks≤2048) (HK : ∀ p ∈ ks,KidFirsts p) (HS : ∀ p ∈ ks,KidSome p) :
  Calls Tryz.prog 248 #[valPt v] w (FirstsEnd w (firstsL true ks)):=by
 obtain ⟨i0,hi0,hz0,hz1,hz2⟩:=info_parts infoInt
 obtain ⟨o,⟨A,nc,c⟩,⟨B,m,d⟩⟩:=v
 simp only [PatX] at hp
 obtain ⟨rfl,hA,vs,hB,hKs⟩:=hp
 have hm : vs.length = m:=by have:=hB.len;rwa [List.length_map] at this
 have hk2:=hKs.len
 rw [hm] at hk2
 have hkl:=sizeL_len ks
 have hmz : m≤2048:=by omega
 have hmd : m≤d:=hB.cap
 have HTot:=Lib.hid (show (firstsL true ks).length≤131072 by have:=firstsL_len true ks hg;omega)
 have HF:=Lib.hid HK
 have HSo:=Lib.hid HS
 have Hg:=Lib.hid hg
 have HB:=Lib.hid hB
 have HKs:=Lib.hid hKs
 have Hk2:=Lib.hid hk2
 have Hkz:=Lib.hid (show ks.length≤2048 by omega)
 have Hsz:=Lib.hid (fun (i : Nat) (p : Pat) (h : ks[i]? = some p)=>show sizeP p≤2048 by have:=sizeL_at h;omega)
 unfold valPt
 show Calls Tryz.prog 248 #[.agg #[.int .i64 2,.slice A nc c,.slice B m d]] w _
 have hb0 : Blk (w.alloc (.cells #[.int .i64 2,.slice A nc c,.slice B m d] 207)) w.heap.size 207 _:=Blk.new _ _ _
 have Hz : Below w.heap.size w (w.alloc (.cells #[.int .i64 2,.slice A nc c,.slice B m d] 207)):=(Below.refl _ _).alloc (Nat.le_refl _) _
 clear hA hB hKs hk2 hkl hg hz HK HS hm
 unfold FirstsEnd
 go_enter Tryz.func248,Tryz.ntmps248
 go_wp2_with fail
 generalize (w.alloc (.cells #[.int .i64 2,.slice A nc c,.slice B m d] 207)) = w1 at Hz hb0 ⊢
 have k00:=hb0.cell 0
 have k20:=hb0.cell 2
 simp only [zG,zI,zH] at k00 k20
 clear hb0
 go_loopw [3,4] (fun u z wr=>∃ (i : Nat) (A3 : Option Addr) (k3 c3 : Nat) (L : List Nat),u = .slice A3 k3 c3∧z = .int .i64 i∧i≤m∧L.length = k3∧Hid (firstsL true ks = L++firstsL true (ks.drop i))∧Own wr w1.heap.size 3 1 A3 k3 c3 (L.map encN)∧Below w1.heap.size w1 wr) (fun _ z _=>m - (intOf z).toNat)
 case atStart=>exact ⟨0,none,0,0,[],rfl,rfl,by omega,rfl,Lib.hid (by simp),Own.nil_ _ _ _ _,Below.refl _ _⟩
 case round =>
  obtain ⟨i,A3,k3,c3,L,rfl,rfl,hi,hL,HL,ho,hb⟩:=hrel
  have hbw:=below_two Hz hb
  have k0:=cell_keep k00 hb
  have k2:=cell_keep k20 hb
  have hsz:=hb.size
  have hL3 : k3≤131072:=by
   have:=HTot.out
   rw [HL.out,List.length_append] at this
   omega
  by_cases hlt : i < m
  ·obtain ⟨q,hq⟩ : ∃ q,ks[i]? = some q:=⟨_,List.getElem?_eq_getElem (by have:=Hk2.out;omega)⟩
   obtain ⟨u,hu,hp⟩:=HKs.out.at_ hq
   obtain ⟨b,off,e,x0,x1,x2⟩:=HB.out.atPt hu
   simp only at e
   subst e
   have hqm:=List.mem_of_getElem? hq
   have hgq:=goodL_at Hg.out hq
   have hqz:=Hsz.out i q hq
   have HC1:=Lib.hid (fun W (h : Below w.heap.size w W)=>HSo.out q hqm X u W (hp.below h) hgq)
   have HC3:=Lib.hid (fun W (h : Below w.heap.size w W)=>HF.out q hqm X u W (hp.below h) hgq)
   have HC4:=Lib.hid (fun W (h : Below w.heap.size w W)=>jEmpty_any X q u W (hp.below h) hgq hqz)
   have HX:=Lib.hid (fun W (h : Below w.heap.size w W)=>And.intro (cell_keep x0 h) (And.intro (cell_keep x1 h) (cell_keep x2 h)))
   obtain ⟨i1,Hi1⟩ : ∃ i1,Hid (i+1 = i1):=⟨_,Lib.hid rfl⟩
   have e1 : (i : Int)+1 = (i1 : Int):=by have:=Hi1.out;omega
   have hi1m : i1≤m:=by have:=Hi1.out;omega
   have HC2:=Lib.hid (fun W (h : Below w.heap.size w W)=>jrest_any X (ks.drop i1) (vs.drop i1) (some ⟨b,off+i1*3,none⟩) (m - i1) (d - i1) W ((HB.out.keep (KeepX.below h)).dropPt i1 hi1m) ((HKs.out.below h).drop i1) (fun p hp=>HSo.out p (List.mem_of_mem_drop hp)) (goodL_drop i1 Hg.out) (by rw [List.length_drop];have:=Hkz.out;omega))
   have HC5:=Lib.hid (fun W (h : Below w.heap.size w W)=>jrest_any X [] [] (some ⟨b,off,none⟩) 0 0 W (HB.out.keep (KeepX.below h)).none_left (by simp only [PatsX]) (fun p hp=>by cases hp) (by unfold goodL;rfl) (by simp))
   have HD : Hid (firstsL true ks = L++stepF true q (ks.drop i1)++(if emptyB q then firstsL true (ks.drop i1) else [])):=Lib.hid (by
    rw [HL.out,drop_hd hq,firstsL_step,List.append_assoc,Hi1.out]
    cases emptyB q <;> rfl)
   have HSt : Hid (stepF true q (ks.drop i1) = if someB q && someT (ks.drop i1) then firstsB q else []):=Lib.hid (by unfold stepF;rfl)
   have HE : Hid (m = i1→someT (ks.drop i1) = true):=Lib.hid (fun e=>by rw [List.drop_eq_nil_of_le (by have:=Hk2.out;omega)];unfold someT;rfl)
   have HFl:=Lib.hid (firsts_len q hgq)
   have hne1 : someT ([] : List Pat) = true:=by unfold someT;rfl
   rw [hne1] at HC5
   generalize someT (ks.drop i1) = r1 at HC2 HSt HE
   generalize someB q = s1 at HC1 HSt
   generalize emptyB q = y1 at HC4 HD
   generalize stepF true q (ks.drop i1) = st at HD HSt
   unfold valPt at HC1 HC3 HC4
   clear hq hp hu hqm hgq x0 x1 x2 hne1
   go_upto_region 10 with fail
   go_cut [38] from 13 to 38 (fun t wx=>t = .bool (s1 && r1)∧Below wr.heap.size wr wx)
   case first =>
    obtain ⟨x0,x1,x2⟩:=HX.out wr hbw
    have h1:=Lib.hid (HC1.out wr hbw)
    cases s1 with
    | false =>
     go_wp2_with fail
     refine h1.out.mono ?_
     rintro e w3 ⟨rfl,hb3⟩
     go_wp2
     go_meet
     exact ⟨rfl,hb3⟩
    | true =>
     by_cases hdi : d = i1
     ·have hmi : m = i1:=by omega
      have hr1:=HE.out hmi
      subst hr1
      subst hmi
      subst hdi
      go_wp2_with fail
      refine h1.out.mono ?_
      rintro e w3 ⟨rfl,hb3⟩
      have h5:=Lib.hid (HC5.out w3 (below_two hbw hb3))
      have k0':=cell_keep k0 hb3
      have k2':=cell_keep k2 hb3
      go_wp2_with fail
      refine h5.out.mono ?_
      rintro e w4 ⟨rfl,hb4⟩
      go_wp2
      go_meet
      exact ⟨rfl,below_two hb3 hb4⟩
     ·have hdi' : i1≤d:=by omega
      have t1 : decide (m < i1) = false:=decide_eq_false (by omega)
      go_wp2_with fail
      refine h1.out.mono ?_
      rintro e w3 ⟨rfl,hb3⟩
      have h2:=Lib.hid (HC2.out w3 (below_two hbw hb3))
      have k0':=cell_keep k0 hb3
      have k2':=cell_keep k2 hb3
      go_wp2_with fail
      refine h2.out.mono ?_
      rintro e w4 ⟨rfl,hb4⟩
      go_wp2
      go_meet
      exact ⟨rfl,below_two hb3 hb4⟩
   case rest =>
    obtain ⟨rfl,hbc⟩:=hcut
    have hbw2:=below_two hbw hbc
    have hb1:=below_two hb hbc
    have ho2:=ho.below hbc
    have k0':=cell_keep k0 hbc
    have k2':=cell_keep k2 hbc
    have hsz2:=hb1.size
    generalize (s1 && r1) = tt at HSt ⊢
    generalize firstsB q = F at HC3 HFl HSt
    clear k0 k2 ho hb hbw hbc hsz HC1 HC2 HC5 HE
    go_upto_if 38 with fail
    go_cut [3] from 13 to 46 (fun v wx=>∃ (A4 : Option Addr) (k4 c4 : Nat),v = .slice A4 k4 c4∧(L++st).length = k4∧Own wx w1.heap.size 3 1 A4 k4 c4 ((L++st).map encN)∧Below w1.heap.size w1 wx)
    case first =>
     cases tt with
     | false =>
      have hst : st = []:=HSt.out
      subst hst
      go_wp2
      go_meet
      exact ⟨A3,k3,c3,rfl,by simpa using hL,by simpa using ho2,hb1⟩
     | true =>
      have hst : st = F:=HSt.out
      subst hst
      have hFz : st.length≤131072:=by have:=HFl.out;have:=Hsz.out;omega
      obtain ⟨x0,x1,x2⟩:=HX.out wc hbw2
      have h3:=Lib.hid (HC3.out wc hbw2)
      go_wp2_with fail
      refine h3.out.mono ?_
      rintro e w5 ⟨A5,n5,c5,rfl,hr5,hl5,hb5⟩
      have ho5:=ho2.below hb5
      have hb15:=below_two hb1 hb5
      have hsz5:=hb15.size
      go_wp2_with (at_builtin;go_must (refine wpList_app rfl (.tmp 39) (.tmp 45) _ rfl w1.heap.size 3 i0 _ 1 8 Tryz.underlying52 hi0 hz0 hz1 hz2 rfl (by omega) A3 k3 c3 _ rfl ho5 A5 n5 c5 (st.map encN) rfl (by simpa using hl5) hr5 (encN_ok' _) (by unfold maxLen;omega) (by omega) (by omega) ?_);intro A6 c6 w6 ho6 hg6 hA6)
      have hb6:=below_app hb15 hg6 hsz5 (fun a ha=>(ho5.lt a ha).1)
      go_meet
      exact ⟨A6,k3+n5,c6,rfl,by rw [List.length_append,hL,hl5],by rw [List.map_append];exact ho6,hb6⟩
    case rest =>
     obtain ⟨A4,k4,c4,rfl,hL4,ho4,hb4⟩:=hcut
     have hbw4:=below_two Hz hb4
     have q0:=cell_keep k00 hb4
     have q2:=cell_keep k20 hb4
     obtain ⟨x0,x1,x2⟩:=HX.out wc hbw4
     have h4:=Lib.hid (HC4.out wc hbw4)
     clear k0' k2' ho2 hb1
     go_wp2_with fail
     refine h4.out.mono ?_
     rintro e w5 ⟨rfl,hb5⟩
     have hb15:=below_two hb4 hb5
     cases y1 with
     | false =>
      have HV : Hid (firstsL true ks = L++st):=Lib.hid (by have:=HD.out;simpa using this)
      rw [← HV.out] at ho4 hL4
      go_wp2
      go_ret
      exact ⟨A4,k4,c4,rfl,(ho4.below hb5).rd (by decide),hL4,below_two hbw4 hb5⟩
     | true =>
      go_wp2
      go_roundw
      case rel=>exact ⟨i1,A4,k4,c4,L++st,rfl,by have:=Hi1.out;first | rfl | go_num,hi1m,hL4,Lib.hid (by have:=HD.out;simpa using this),ho4.below hb5,hb15⟩
      case measure=>simp [intOf];have:=Hi1.out;omega
  ·obtain rfl : i = m:=by omega
   have HV:=Lib.hid (show firstsL true ks = L by
    have:=HL.out
    rw [List.drop_eq_nil_of_le (by have:=Hk2.out;omega)] at this
    rw [firstsL_nil,List.append_nil] at this
    exact this)
   rw [← HV.out] at ho hL
   go_wp2
   go_ret
   exact ⟨A3,k3,c3,rfl,ho.rd (by decide),hL,hbw⟩
end
section
open Go.RowKit
theorem jletter_any (c : Nat) (w : World) : Calls Tryz.prog 245 #[.int .u8 (c : Nat)] w fun e w'=>e = .returned (.bool ((decide (65≤c) && decide (c≤90)) || (decide (97≤c) && decide (c≤122))))∧w = w':=by
 have e1 : decide ((65 : Int)≤(c : Int)) = decide (65≤c):=decide_eq_decide.2 (by omega)
 have e2 : decide ((c : Int)≤90) = decide (c≤90):=decide_eq_decide.2 (by omega)
 have e3 : decide ((97 : Int)≤(c : Int)) = decide (97≤c):=decide_eq_decide.2 (by omega)
 have e4 : decide ((c : Int)≤122) = decide (c≤122):=decide_eq_decide.2 (by omega)
 generalize decide (65≤c) = b1 at e1 ⊢
 generalize decide (c≤90) = b2 at e2 ⊢
 generalize decide (97≤c) = b3 at e3 ⊢
 generalize decide (c≤122) = b4 at e4 ⊢
 cases b1
 ·cases b3
  ·go_enter Tryz.func245,Tryz.ntmps245
   go_wp2
   go_ret
   exact ⟨rfl,rfl⟩
  ·go_enter Tryz.func245,Tryz.ntmps245
   go_wp2
   go_ret
   exact ⟨rfl,rfl⟩
 ·cases b2
  ·cases b3
   ·go_enter Tryz.func245,Tryz.ntmps245
    go_wp2
    go_ret
    exact ⟨rfl,rfl⟩
   ·go_enter Tryz.func245,Tryz.ntmps245
    go_wp2
    go_ret
    exact ⟨rfl,rfl⟩
  ·go_enter Tryz.func245,Tryz.ntmps245
   go_wp2
   go_ret
   exact ⟨rfl,rfl⟩
theorem jletter_b (c : UInt8) (w : World) : Calls Tryz.prog 245 #[.int .u8 (c.toNat : Nat)] w fun e w'=>e = .returned (.bool (pLetter c))∧w = w':=jletter_any c.toNat w
theorem jpart_b (c : UInt8) (w : World) : Calls Tryz.prog 244 #[.int .u8 (c.toNat : Nat)] w fun e w'=>e = .returned (.bool (pPart c))∧w = w':=by
 have HL:=Lib.hid (jletter_b c w)
 have HV : Hid (pPart c = (pLetter c || (decide (48≤c.toNat) && decide (c.toNat≤57)) || decide (c.toNat = 95))):=Lib.hid rfl
 have e1 : decide ((48 : Int)≤(c.toNat : Int)) = decide (48≤c.toNat):=decide_eq_decide.2 (by omega)
 have e2 : decide ((c.toNat : Int)≤57) = decide (c.toNat≤57):=decide_eq_decide.2 (by omega)
 have e3 : ((c.toNat : Int) == 95) = decide (c.toNat = 95):=by rw [Bool.eq_iff_iff,beq_iff_eq,decide_eq_true_iff];omega
 generalize pLetter c = b0 at HL HV
 generalize decide (48≤c.toNat) = b1 at e1 HV
 generalize decide (c.toNat≤57) = b2 at e2 HV
 generalize decide (c.toNat = 95) = b3 at e3 HV
 cases b0
 ·cases b1
  ·go_enter Tryz.func244,Tryz.ntmps244
   go_wp2_with (go_at_call 245;refine HL.out.mono ?_;rintro e w2 ⟨rfl,rfl⟩)
   go_ret
   exact ⟨by rw [HV.out];rfl,rfl⟩
  ·cases b2
   ·go_enter Tryz.func244,Tryz.ntmps244
    go_wp2_with (go_at_call 245;refine HL.out.mono ?_;rintro e w2 ⟨rfl,rfl⟩)
    go_ret
    exact ⟨by rw [HV.out];rfl,rfl⟩
   ·go_enter Tryz.func244,Tryz.ntmps244
    go_wp2_with (go_at_call 245;refine HL.out.mono ?_;rintro e w2 ⟨rfl,rfl⟩)
    go_ret
    exact ⟨by rw [HV.out];rfl,rfl⟩
 ·go_enter Tryz.func244,Tryz.ntmps244
  go_wp2_with (go_at_call 245;refine HL.out.mono ?_;rintro e w2 ⟨rfl,rfl⟩)
  go_ret
  exact ⟨by rw [HV.out];rfl,rfl⟩
theorem jbegins_b (c : UInt8) (w : World) : Calls Tryz.prog 321 #[.int .u8 (c.toNat : Nat)] w fun e w'=>e = .returned (.bool (pBegins c))∧w = w':=by
 have HL:=Lib.hid (jletter_b c w)
 have HV : Hid (pBegins c = (decide (c.toNat = 40) || decide (c.toNat = 91) || decide (c.toNat = 46) || pLetter c)):=Lib.hid rfl
 have e1 : ((c.toNat : Int) == 40) = decide (c.toNat = 40):=by rw [Bool.eq_iff_iff,beq_iff_eq,decide_eq_true_iff];omega
 have e2 : ((c.toNat : Int) == 91) = decide (c.toNat = 91):=by rw [Bool.eq_iff_iff,beq_iff_eq,decide_eq_true_iff];omega
 have e3 : ((c.toNat : Int) == 46) = decide (c.toNat = 46):=by rw [Bool.eq_iff_iff,beq_iff_eq,decide_eq_true_iff];omega
 generalize pLetter c = b0 at HL HV
 generalize decide (c.toNat = 40) = b1 at e1 HV
 generalize decide (c.toNat = 91) = b2 at e2 HV
 generalize decide (c.toNat = 46) = b3 at e3 HV
 cases b1
 ·cases b2
  ·cases b3
   ·go_enter Tryz.func321,Tryz.ntmps321
    go_wp2_with (go_at_call 245;refine HL.out.mono ?_;rintro e w2 ⟨rfl,rfl⟩)
    go_ret
    exact ⟨by rw [HV.out];rfl,rfl⟩
   ·go_enter Tryz.func321,Tryz.ntmps321
    go_wp2
    go_ret
    exact ⟨by rw [HV.out];rfl,rfl⟩
  ·go_enter Tryz.func321,Tryz.ntmps321
   go_wp2
   go_ret
   exact ⟨by rw [HV.out];rfl,rfl⟩
 ·go_enter Tryz.func321,Tryz.ntmps321
  go_wp2
  go_ret
  exact ⟨by rw [HV.out];rfl,rfl⟩
theorem joper_b (c : UInt8) (w : World) : Calls Tryz.prog 323 #[.int .u8 (c.toNat : Nat)] w fun e w'=>e = .returned (.int .i64 (pOper c : Nat))∧w = w':=by
 by_cases h1 : c.toNat = 42
 ·have e1 : ((c.toNat : Int) == 42) = true:=by rw [h1];rfl
  have HV:=Lib.hid (show pOper c = 4 from if_pos h1)
  clear h1
  go_enter Tryz.func323,Tryz.ntmps323
  go_wp2
  go_ret
  exact ⟨by rw [HV.out];rfl,rfl⟩
 have e1 : ((c.toNat : Int) == 42) = false:=beq_eq_false_iff_ne.2 (by omega)
 by_cases h2 : c.toNat = 43
 ·have e2 : ((c.toNat : Int) == 43) = true:=by rw [h2];rfl
  have HV:=Lib.hid (show pOper c = 5 by unfold pOper;rw [if_neg h1,if_pos h2])
  clear h1 h2
  go_enter Tryz.func323,Tryz.ntmps323
  go_wp2
  go_ret
  exact ⟨by rw [HV.out];rfl,rfl⟩
 have e2 : ((c.toNat : Int) == 43) = false:=beq_eq_false_iff_ne.2 (by omega)
 by_cases h3 : c.toNat = 63
 ·have e3 : ((c.toNat : Int) == 63) = true:=by rw [h3];rfl
  have HV:=Lib.hid (show pOper c = 6 by unfold pOper;rw [if_neg h1,if_neg h2,if_pos h3])
  clear h1 h2 h3
  go_enter Tryz.func323,Tryz.ntmps323
  go_wp2
  go_ret
  exact ⟨by rw [HV.out];rfl,rfl⟩
 have e3 : ((c.toNat : Int) == 63) = false:=beq_eq_false_iff_ne.2 (by omega)
 have HV:=Lib.hid (show pOper c = 0 by unfold pOper;rw [if_neg h1,if_neg h2,if_neg h3])
 clear h1 h2 h3
 go_enter Tryz.func323,Tryz.ntmps323
 go_wp2
 go_ret
 exact ⟨by rw [HV.out];rfl,rfl⟩
structure RS (w : World) (p : Nat) (s : ByteArray) (A : Option Addr) (nn cn : Nat) (names : List (List UInt8)) (a d k : Nat) : Prop where
 blk : Blk w p 259 #[.string s,.int .i64 (a : Int),.slice A nn cn,.int .i64 (d : Int),.int .i64 (k : Int),.int .i64 0,.int .i64 0]
 nm : Rd w 1 A (names.map encNm)
 len : names.length = nn
 off : ∀ x,A = some x→x.block ≠ p∧x.block < w.heap.size
section
variable {w w' : World} {p : Nat} {s : ByteArray} {A : Option Addr} {nn cn : Nat} {names : List (List UInt8)} {a d k : Nat}
theorem RS.c0 (h : RS w p s A nn cn names a d k) : w.cell? ⟨p,0,none⟩ = some (.string s):=h.blk.cell 0
theorem RS.c1 (h : RS w p s A nn cn names a d k) : w.cell? ⟨p,1,none⟩ = some (.int .i64 (a : Int)):=h.blk.cell 1
theorem RS.c2 (h : RS w p s A nn cn names a d k) : w.cell? ⟨p,2,none⟩ = some (.slice A nn cn):=h.blk.cell 2
theorem RS.c3 (h : RS w p s A nn cn names a d k) : w.cell? ⟨p,3,none⟩ = some (.int .i64 (d : Int)):=h.blk.cell 3
theorem RS.c4 (h : RS w p s A nn cn names a d k) : w.cell? ⟨p,4,none⟩ = some (.int .i64 (k : Int)):=h.blk.cell 4
theorem RS.c5 (h : RS w p s A nn cn names a d k) : w.cell? ⟨p,5,none⟩ = some (.int .i64 0):=h.blk.cell 5
theorem RS.f (h : RS w p s A nn cn names a d k) (i : Nat) : w.frozen? ⟨p,i,none⟩ = false:=h.blk.frozen i
theorem RS.lt (h : RS w p s A nn cn names a d k) : p < w.heap.size:=h.blk.lt
theorem RS.setCell_ (h : RS w p s A nn cn names a d k) (i : Nat) (u : Value) : Rd (w.setCell ⟨p,i,none⟩ u) 1 A (names.map encNm)∧∀ x,A = some x→x.block ≠ p∧x.block < (w.setCell ⟨p,i,none⟩ u).heap.size :=
 ⟨h.nm.setCell (p:=⟨p,i,none⟩) (fun x hx=>(h.off x hx).1) u,fun x hx=>⟨(h.off x hx).1,by simp [World.setCell];exact (h.off x hx).2⟩⟩
theorem RS.setAt (h : RS w p s A nn cn names a d k) (a' : Nat) : RS (w.setCell ⟨p,1,none⟩ (.int .i64 (a' : Int))) p s A nn cn names a' d k:=⟨by have:=h.blk.set_ 1 (.int .i64 (a' : Int));simpa using this,(h.setCell_ 1 _).1,h.len,(h.setCell_ 1 _).2⟩
theorem RS.setDepth (h : RS w p s A nn cn names a d k) (d' : Nat) : RS (w.setCell ⟨p,3,none⟩ (.int .i64 (d' : Int))) p s A nn cn names a d' k:=⟨by have:=h.blk.set_ 3 (.int .i64 (d' : Int));simpa using this,(h.setCell_ 3 _).1,h.len,(h.setCell_ 3 _).2⟩
theorem RS.setParts (h : RS w p s A nn cn names a d k) (k' : Nat) : RS (w.setCell ⟨p,4,none⟩ (.int .i64 (k' : Int))) p s A nn cn names a d k':=⟨by have:=h.blk.set_ 4 (.int .i64 (k' : Int));simpa using this,(h.setCell_ 4 _).1,h.len,(h.setCell_ 4 _).2⟩
theorem RS.drewN (h : RS w p s A nn cn names a d k) (q : Nat) : RS (w.drewN q) p s A nn cn names a d k:=⟨h.blk.drewN q,h.nm.drewN q,h.len,h.off⟩
theorem RS.drew (h : RS w p s A nn cn names a d k) : RS w.drew p s A nn cn names a d k:=⟨h.blk.drew,h.nm.drew,h.len,h.off⟩
theorem RS.below (h : RS w p s A nn cn names a d k) (hb : Below w.heap.size w w') : RS w' p s A nn cn names a d k:=⟨h.blk.below hb,h.nm.below hb,h.len,fun x hx=>⟨(h.off x hx).1,Nat.lt_of_lt_of_le (h.off x hx).2 hb.size⟩⟩
theorem RS.atOf (h : RS w p s A nn cn names a d k) : atOf w p = a:=by unfold YtglmcknlnoknoaaGreatDoor.atOf;rw [h.c1];simp [intOf]
end
theorem byte_at (s : ByteArray) {x : Nat} (hx : x < s.size) : ∃ b : UInt8,s.data.toList.drop x = b :: s.data.toList.drop (x+1)∧∀ W,(Instr.index 9 (.string s) (.int .i64 (x : Nat))).run Tryz.prog W = .ok (.int .u8 (b.toNat : Int)) W:=by
 refine ⟨s[x]'hx,?_,fun W=>index_at s x x rfl hx W⟩
 rw [List.drop_eq_getElem_cons (by rw [size_data];exact hx)];rfl
theorem drop_end (s : ByteArray) {x : Nat} (hx : ¬ x < s.size) : s.data.toList.drop x = []:=List.drop_of_length_le (by rw [size_data];omega)
theorem skip_blank {b : UInt8} {l : List UInt8} (h : pBlank b = true) : skipB (b :: l) = skipB l:=by unfold skipB;rw [List.dropWhile_cons,if_pos h]
theorem skip_stop {b : UInt8} {l : List UInt8} (h : pBlank b = false) : skipB (b :: l) = b :: l:=by unfold skipB;rw [List.dropWhile_cons,if_neg (by rw [h];simp)]
theorem jblanks_any (p : Nat) (s : ByteArray) (A : Option Addr) (nn cn : Nat) (names : List (List UInt8)) (a d k : Nat) (w : World) (h : RS w p s A nn cn names a d k) (ha : a≤s.size) (hs : s.size≤1000000) :
  Calls Tryz.prog 324 #[.pointer (some ⟨p,0,none⟩)] w fun e w'=>e = .returned (.tuple #[])∧∃ x,RS w' p s A nn cn names x d k∧s.data.toList.drop x = skipB (s.data.toList.drop a)∧x≤s.size∧w.grownBy w' (some p):=by
 go_enter Tryz.func324,Tryz.ntmps324
 go_wp2
 go_loopw [2] (fun _ wr=>∃ x : Nat,RS wr p s A nn cn names x d k∧Hid (skipB (s.data.toList.drop x) = skipB (s.data.toList.drop a))∧x≤s.size∧w.grownBy wr (some p)) (fun _ wr=>s.size - atOf wr p)
 case atStart=>exact ⟨a,h,Lib.hid rfl,ha,only_refl _ _⟩
 case round =>
  clear h
  obtain ⟨x,hr,HS,hx,hg⟩:=hrel
  have c0:=hr.c0
  have c1:=hr.c1
  have f1:=hr.f 1
  have Hat:=Lib.hid hr.atOf
  by_cases hlt : x < s.size
  ·obtain ⟨b,hd,hidx⟩:=byte_at s hlt
   have e1 : ((b.toNat : Int) == 32) = decide (b.toNat = 32):=by rw [Bool.eq_iff_iff,beq_iff_eq,decide_eq_true_iff];omega
   have e2 : ((b.toNat : Int) == 9) = decide (b.toNat = 9):=by rw [Bool.eq_iff_iff,beq_iff_eq,decide_eq_true_iff];omega
   have HB : Hid (pBlank b = (decide (b.toNat = 32) || decide (b.toNat = 9))):=Lib.hid rfl
   have HD:=Lib.hid hd
   clear hd
   generalize decide (b.toNat = 32) = t1 at e1 HB
   generalize decide (b.toNat = 9) = t2 at e2 HB
   cases t1
   ·cases t2
    ·have HE:=Lib.hid (show s.data.toList.drop x = skipB (s.data.toList.drop a) by rw [← HS.out,HD.out,skip_stop (by rw [HB.out];rfl)])
     go_wp2_with fail
     go_quiet (fail)
     go_wp2
     go_end0
     exact ⟨rfl,x,hr.drewN _,HE.out,hx,only_drewN hg _⟩
    ·have HS2:=Lib.hid (show skipB (s.data.toList.drop (x+1)) = skipB (s.data.toList.drop a) by rw [← HS.out,HD.out,skip_blank (by rw [HB.out];rfl)])
     go_wp2_with fail
     go_quiet (fail)
     go_wp2
     have hr2:=(hr.drewN nq).setAt (x+1)
     have ez : ((x+1 : Nat) : Int) = (x : Int)+1:=by omega
     rw [ez] at hr2
     refine ⟨⟨x+1,hr2,HS2,by omega,only_setCell (only_drewN hg _) (.inl rfl) _⟩,?_⟩
     rw [hr2.atOf,Hat.out];omega
   ·have HS2:=Lib.hid (show skipB (s.data.toList.drop (x+1)) = skipB (s.data.toList.drop a) by rw [← HS.out,HD.out,skip_blank (by rw [HB.out];rfl)])
    go_wp2_with fail
    go_quiet (fail)
    go_wp2
    have hr2:=(hr.drewN nq).setAt (x+1)
    have ez : ((x+1 : Nat) : Int) = (x : Int)+1:=by omega
    rw [ez] at hr2
    refine ⟨⟨x+1,hr2,HS2,by omega,only_setCell (only_drewN hg _) (.inl rfl) _⟩,?_⟩
    rw [hr2.atOf,Hat.out];omega
  ·have HE:=Lib.hid (show s.data.toList.drop x = skipB (s.data.toList.drop a) by rw [← HS.out,drop_end s hlt];rfl)
   go_wp2_with fail
   go_quiet (fail)
   go_wp2
   go_end0
   exact ⟨rfl,x,hr.drewN _,HE.out,hx,only_drewN hg _⟩
def headN (l : List UInt8) : Nat:=match l with | []=>0 | b :: _=>b.toNat
theorem jblanks_h {w : World} {p : Nat} {s : ByteArray} {A : Option Addr} {nn cn : Nat} {names : List (List UInt8)} {a d k : Nat} (h : RS w p s A nn cn names a d k) (ha : a≤s.size) (hs : s.size≤1000000) :
  Hid (Calls Tryz.prog 324 #[.pointer (some ⟨p,0,none⟩)] w fun e w'=>e = .returned (.tuple #[])∧∃ x,RS w' p s A nn cn names x d k∧s.data.toList.drop x = skipB (s.data.toList.drop a)∧x≤s.size∧w.grownBy w' (some p)):=Lib.hid (jblanks_any p s A nn cn names a d k w h ha hs)
theorem jsees_any (p : Nat) (s : ByteArray) (A : Option Addr) (nn cn : Nat) (names : List (List UInt8)) (a d k : Nat) (w : World) (h : RS w p s A nn cn names a d k) (ha : a≤s.size) (hs : s.size≤1000000) :
  Calls Tryz.prog 283 #[.pointer (some ⟨p,0,none⟩)] w fun e w'=>e = .returned (.int .u8 (headN (skipB (s.data.toList.drop a)) : Nat))∧∃ x,RS w' p s A nn cn names x d k∧s.data.toList.drop x = skipB (s.data.toList.drop a)∧x≤s.size∧w.grownBy w' (some p):=by
 have HB:=jblanks_h h ha hs
 clear h
 go_enter Tryz.func283,Tryz.ntmps283
 go_wp2_with fail
 refine HB.out.mono ?_
 rintro e w2 ⟨rfl,x,hr,hd,hx,hg⟩
 have HD:=Lib.hid hd
 have c0:=hr.c0
 have c1:=hr.c1
 clear HB hd
 by_cases hlt : x < s.size
 ·obtain ⟨b,hdx,hidx⟩:=byte_at s hlt
  have HV:=Lib.hid (show headN (skipB (s.data.toList.drop a)) = b.toNat by rw [← HD.out,hdx];rfl)
  clear hdx
  have t1 : decide (s.size≤x) = false:=decide_eq_false (by omega)
  go_wp2_with fail
  go_quiet (fail)
  go_wp2_with fail
  go_quiet (fail)
  go_wp2
  go_ret
  exact ⟨by rw [HV.out];rfl,x,(hr.drewN _).drewN _,HD.out,hx,only_drewN (only_drewN hg _) _⟩
 ·have HV:=Lib.hid (show headN (skipB (s.data.toList.drop a)) = 0 by rw [← HD.out,drop_end s hlt];rfl)
  have t1 : decide (s.size≤x) = true:=decide_eq_true (by omega)
  go_wp2_with fail
  go_quiet (fail)
  go_wp2
  go_ret
  exact ⟨by rw [HV.out];rfl,x,hr.drewN _,HD.out,hx,only_drewN hg _⟩
theorem jcounts_any (p : Nat) (s : ByteArray) (A : Option Addr) (nn cn : Nat) (names : List (List UInt8)) (a d k : Nat) (z : Int) (w : World) (h : RS w p s A nn cn names a d k) (hk : k < 512) :
  Calls Tryz.prog 284 #[.pointer (some ⟨p,0,none⟩),.int .i64 z] w fun e w'=>e = .returned (.tuple #[])∧RS w' p s A nn cn names a d (k+1)∧w.grownBy w' (some p):=by
 have c4:=h.c4
 have f4:=h.f 4
 have hr2:=h.setParts (k+1)
 have ez : ((k+1 : Nat) : Int) = (k : Int)+1:=by omega
 rw [ez] at hr2
 have HR2:=Lib.hid hr2
 clear hr2 ez h
 go_enter Tryz.func284,Tryz.ntmps284
 go_wp2
 go_end0
 exact ⟨rfl,HR2.out,only_setCell (only_refl _ _) (.inl rfl) _⟩
end
section
open Go.RowKit
structure RsX (w : World) (X : Nat→Prop) (rules : List RuleP) (v : Sv) : Prop where
 ex : ∃ vs : List Ruv,SlX w X 9 v (vs.map encRul)∧vs.length = rules.length∧∀ (i : Nat) (r : RuleP) (u : Ruv),rules[i]? = some r→vs[i]? = some u→RuX w X r u
theorem RsX.keep {X X' : Nat→Prop} {w w' : World} {rules : List RuleP} {v : Sv} (h : RsX w X rules v) (k : KeepX X X' w w') : RsX w' X' rules v:=by
 obtain ⟨vs,h1,h2,h3⟩:=h.ex
 exact ⟨vs,h1.keep k,h2,fun i r u hr hu=>(h3 i r u hr hu).keep k⟩
theorem RsX.below {X : Nat→Prop} {w w' : World} {rules : List RuleP} {v : Sv} (h : RsX w X rules v) (hb : Below w.heap.size w w') : RsX w' X rules v:=h.keep (KeepX.below hb)
theorem RsX.len {X : Nat→Prop} {w : World} {rules : List RuleP} {v : Sv} (h : RsX w X rules v) : v.2.1 = rules.length:=by
 obtain ⟨vs,h1,h2,h3⟩:=h.ex
 have:=h1.len
 rw [List.length_map] at this
 omega
theorem RsX.at_ {X : Nat→Prop} {w : World} {rules : List RuleP} {v : Sv} {i : Nat} {r : RuleP} (h : RsX w X rules v) (hr : rules[i]? = some r) :
  ∃ (b off : Nat) (u : Ruv),v.1 = some ⟨b,off,none⟩∧RuX w X r u∧w.cell? ⟨b,off+i*9,none⟩ = some (.bool u.1)∧w.cell? ⟨b,off+i*9+1,none⟩ = some (.bool u.2.1)∧w.cell? ⟨b,off+i*9+2,none⟩ = some (.bool u.2.2.1) ∧
   w.cell? ⟨b,off+i*9+3,none⟩ = some (.int .i64 (u.2.2.2.1.1 : Int))∧w.cell? ⟨b,off+i*9+4,none⟩ = some (.slice u.2.2.2.1.2.1.1 u.2.2.2.1.2.1.2.1 u.2.2.2.1.2.1.2.2)∧w.cell? ⟨b,off+i*9+5,none⟩ = some (.slice u.2.2.2.1.2.2.1 u.2.2.2.1.2.2.2.1 u.2.2.2.1.2.2.2.2) ∧
   w.cell? ⟨b,off+i*9+6,none⟩ = some (.int .i64 (u.2.2.2.2.1 : Int))∧w.cell? ⟨b,off+i*9+7,none⟩ = some (.slice u.2.2.2.2.2.1.1 u.2.2.2.2.2.1.2.1 u.2.2.2.2.2.1.2.2)∧w.cell? ⟨b,off+i*9+8,none⟩ = some (.slice u.2.2.2.2.2.2.1 u.2.2.2.2.2.2.2.1 u.2.2.2.2.2.2.2.2):=by
 obtain ⟨vs,h1,h2,h3⟩:=h.ex
 obtain ⟨u,hu⟩ : ∃ u,vs[i]? = some u:=⟨_,List.getElem?_eq_getElem (by have:=(List.getElem?_eq_some_iff.1 hr).1;omega)⟩
 obtain ⟨b,off,e,hc⟩:=h1.rd (by intro e;cases vs with | nil=>simp at hu | cons _ _=>simp at e)
 have hg:=fun j (x : Value) (hx : (encRul u)[j]? = some x)=>hc i j (encRul u) x (by simp [hu]) hx
 exact ⟨b,off,u,e,h3 i r u hr hu,hg 0 _ rfl,hg 1 _ rfl,hg 2 _ rfl,hg 3 _ rfl,hg 4 _ rfl,hg 5 _ rfl,hg 6 _ rfl,hg 7 _ rfl,hg 8 _ rfl⟩
def valRs (v : Sv) (rest : Bool) : Value:=.agg #[.slice v.1 v.2.1 v.2.2,.bool rest]
end
section
open Go.RowKit
end
section
open Go.RowKit
end
end Go.Proofs.YtglmcknlnoknoaaGreatDoor
