/-
 Several texts in one,in their build order: PtI,PtJ,PtK,PtL,PtM,FiA,FiB,PrA,PrB,PrC,PrD,PrE,PrG,PtN,Vh,Tr,PrJ,PtO,TrE,PtP,Wn.
-/
import Derived.Deep.CutRange
import Derived.OwnWalk
import Derived.Deep.DeepCutAuto
import Derived.Deep.RegionHeld3
import Derived.Test.YtdngkienloligaaGreatDoorYLineChancesPtH
import Derived.Test.YtdngkienloligaaGreatDoorYLineChances0a
import Derived.Test.YtdngkienloligaaGreatDoorV0a
import Derived.Test.YtdngkienloligaaGreatDoorYLineChancesVg
import Derived.Test.YtdngkienloligaaGreatDoorYLineChances0b
/- -/
namespace Go.Proofs.YtdngkienloligaaGreatDoor
open Go.RowKit
theorem thenP_snoc (c : List Nat) (p : Pat) : ∀ (l : List Pat) (m : Mtx),thenP c (l++[p]) m = behindM (c.length+1) (thenP c l m) (leadsP c p)
 | [],m=>by simp [thenP]
 | q :: r,m=>by rw [List.cons_append,thenP,thenP_snoc c p r,thenP]
theorem orP_snoc (c : List Nat) (p : Pat) : ∀ (l : List Pat) (m : Mtx),orP c (l++[p]) m = bothM (orP c l m) (leadsP c p)
 | [],m=>by simp [orP]
 | q :: r,m=>by rw [List.cons_append,orP,orP_snoc c p r,orP]
theorem take_snoc {α : Type} {l : List α} {i : Nat} {x : α} (h : l[i]? = some x) : l.take (i+1) = l.take i++[x]:=by rw [List.take_add_one,h];rfl
def setTo (c cs : List Nat) (z : Nat) : Mtx:=fun i k=>decide (i < z) && setM c cs i k
theorem setM_at {c cs : List Nat} {i x : Nat} (h : c[i]? = some x) (k : Nat) : setM c cs i k = (decide (k = i+1) && cs.contains x):=by unfold setM;rw [h];rfl
theorem setM_end {c cs : List Nat} {i : Nat} (h : c.length≤i) (k : Nat) : setM c cs i k = false:=by unfold setM;rw [List.getElem?_eq_none h];simp
def KidLeads (cl : List Nat) (C : Option Addr) (n c : Nat) (p : Pat) : Prop:=∀ (X : Nat→Prop) (v : Pv) (w : World),PatX w X p v→goodP 64 p = true→Rd w 1 C (cl.map encN) →
 Calls Tryz.prog 241 #[valPt v,.slice C n c] w (MtEnd w (cl.length+1) (leadsP cl p))
theorem MtEnd.rd {w : World} {n : Nat} {m : Mtx} {e : Ending} {w' : World} (h : MtEnd w n m e w') : ∃ A c C,e = .returned (.slice A n c)∧MtR w' (A,n,c) n (n / 64+1) C∧BitsM n C m∧Below w.heap.size w w':=by
 obtain ⟨A,c,rows,C,he,ho,hB,hbw⟩:=h
 exact ⟨A,c,C,he,ho.rd,hB,hbw⟩
section
variable {cl : List Nat} {C0 : Option Addr} {n c0 : Nat}
set_option maxRecDepth 100000 in
set_option maxHeartbeats 4000000 in
theorem jleads_set (hl : cl.length = n) (hn : n≤100000) (X : Nat→Prop) (cs : List Nat) (ks : List Pat) (v : Pv) (w : World) (hp : PatX w X (.node 1 cs ks) v) (hC : Rd w 1 C0 (cl.map encN)) (hz : cs.length≤4000000) :
  Calls Tryz.prog 241 #[valPt v,.slice C0 n c0] w (MtEnd w (n+1) (setM cl cs)):=by
 obtain ⟨o,⟨A,nc,c⟩,⟨B,m,d⟩⟩:=v
 simp only [PatX] at hp
 obtain ⟨rfl,hA,vs,hB,hK⟩:=hp
 have hcn : cs.length = nc:=by have:=hA.len;rwa [List.length_map] at this
 have hcs:=hA.rd
 unfold valPt
 simp only at hcs ⊢
 have hb0 : Blk (w.alloc (.cells #[.int .i64 ((1 : Nat) : Int),.slice A nc c,.slice B m d] 171)) w.heap.size 171 _:=Blk.new _ _ _
 have Hz : Below w.heap.size w (w.alloc (.cells #[.int .i64 ((1 : Nat) : Int),.slice A nc c,.slice B m d] 171)):=(Below.refl _ _).alloc (Nat.le_refl _) _
 have Hl:=Lib.hid hl
 have HN:=Lib.hid (fun W=>jnone_any (n+1) W (by omega))
 obtain ⟨n1,Hn1⟩ : ∃ n1,Hid (n+1 = n1):=⟨_,Lib.hid rfl⟩
 obtain ⟨k,Hk⟩ : ∃ k,Hid (n1 / 64+1 = k):=⟨_,Lib.hid rfl⟩
 have hk0 : 0 < k:=by have:=Hk.out;omega
 have e1 : (n : Int)+1 = (n1 : Int):=by have:=Hn1.out;omega
 have hnz : n1≤100001:=by have:=Hn1.out;omega
 unfold MtEnd
 simp only [Hn1.out,Hk.out] at HN ⊢
 clear hA hB hK hl
 go_enter Tryz.func241,Tryz.ntmps241
 go_wp2_with fail
 generalize (w.alloc (.cells #[.int .i64 ((1 : Nat) : Int),.slice A nc c,.slice B m d] 171)) = w1 at Hz hb0 ⊢
 refine (HN.out w1).mono ?_
 rintro e w2 ⟨A2,c2,rows,rfl,ho2,hb2⟩
 have k10:=hb0.cell 1
 simp only [List.getElem?_toArray,List.getElem?_cons_succ,List.getElem?_cons_zero] at k10
 have HZ:=Lib.hid (zero_bits n1 k)
 generalize zeroC n1 k = CC at ho2 HZ
 have k1:=cell_keep k10 hb2
 clear hb0 HN
 go_wp2_with fail
 go_loopw [7] (fun v wr=>∃ (i : Nat) (C : List (List Nat)),v = .int .i64 i∧i≤n∧MtO wr w1.heap.size A2 n1 c2 k rows C∧Hid (BitsM n1 C (setTo cl cs i))∧Below w1.heap.size w1 wr) (fun v _=>n - (intOf v).toNat)
 case atStart=>exact ⟨0,CC,rfl,by omega,ho2,Lib.hid (HZ.out.congr fun i j _ _=>by simp [setTo,noneM]),hb2⟩
 case round =>
  clear HZ ho2
  obtain ⟨i,C,rfl,hi,ho,HB,hbr⟩:=hrel
  have hbwr:=below_two Hz hbr
  replace k1:=cell_keep k10 hbr
  by_cases hlt : i < n
  ·obtain ⟨x,hx⟩ : ∃ x,cl[i]? = some x:=⟨_,List.getElem?_eq_getElem (by have:=Hl.out;omega)⟩
   obtain ⟨bk,off,rfl,hc⟩:=hC.atNa hx
   replace hc:=cell_keep hc hbwr
   have hcsr:=hcs.below hbwr
   obtain ⟨q,Hq⟩ : ∃ q,Hid (cs.contains x = q):=⟨_,Lib.hid rfl⟩
   have HI:=Lib.hid (fun p=>jin_any A nc c cs x (wr.drewN p) (hcsr.drewN p) hcn (by omega))
   rw [Hq.out] at HI
   have HS:=Lib.hid (fun kk=>setM_at (cs:=cs) hx kk)
   rw [Hq.out] at HS
   clear hx hcs
   cases q with
   | false =>
    go_wp2_with fail
    go_quiet ((go_at_call 273;exact quiet_left (HI.out _)))
    go_wp2
    go_roundw
    case rel=>exact ⟨i+1,C,by go_num,by omega,ho.below (below_refl_drewN _ _),Lib.hid (HB.out.congr fun y j _ _=>by
     unfold setTo
     by_cases e : y = i
     ·subst e;rw [HS.out];simp
     ·congr 1;exact decide_eq_decide.2 (by omega)),below_drewN hbr _⟩
    case measure=>simp [intOf];omega
   | true =>
    obtain ⟨bb,g,dd,y,rfl,hr,hcg,hy,hy2,hoy,hwy⟩:=ho.at_ (i:=i) (by have:=Hn1.out;omega) hk0
    have hgl:=(hoy.lt _ rfl).1
    have HC:=Lib.hid (show i < C.length by rw [ho.len];have:=Hn1.out;omega)
    have HBx:=Lib.hid (HB.out.row hy2 (by have:=Hn1.out;omega))
    have HSt:=Lib.hid (fun p=>jset_any w1.heap.size g k dd (i+1) y (wr.drewN p) (hoy.drewN p) hwy (by have:=Hk.out;have:=Hn1.out;omega) (by omega))
    obtain ⟨i1,Hi1⟩ : ∃ i1,Hid (i+1 = i1):=⟨_,Lib.hid rfl⟩
    have e2 : (i : Int)+1 = (i1 : Int):=by have:=Hi1.out;omega
    have e3 : i1≤n:=by have:=Hi1.out;omega
    have hin1 : i < n1:=by have:=Hn1.out;omega
    simp only [Hi1.out] at HSt
    clear hy hy2
    go_wp2_with fail
    go_quiet ((go_at_call 273;exact quiet_left (HI.out _)))
    go_wp2_with fail
    refine (HSt.out _).mono ?_
    rintro e w4 ⟨rfl,ho4,hg4⟩
    have hg4' : wr.grownBy w4 (some g):=⟨hg4.os,hg4.tape,hg4.output,hg4.size,hg4.block⟩
    have hm:=ho.wrote hr hg4' ho4 (hwy.set_ i1)
    have hb4 : Below w1.heap.size w1 w4:=hbr.trans (below_only hg4' hbr.size hgl)
    go_wp2
    go_roundw
    case rel =>
     refine ⟨i1,_,rfl,e3,hm,Lib.hid (HB.out.step HC.out (fun j hj=>?_) (fun z j _ _ hz=>?_)),hb4⟩
     ·rw [hasW_set (by rw [hwy.len];have:=Hk.out;have:=Hn1.out;omega),HBx.out j hj]
      unfold setTo
      rw [HS.out,Hi1.out,decide_eq_true (by have:=Hi1.out;omega : i < i1),decide_eq_false (by omega : ¬ i < i)]
      simp
     ·unfold setTo
      congr 1
      exact decide_eq_decide.2 (by have:=Hi1.out;omega)
    case measure=>simp [intOf];have:=Hi1.out;omega
  ·obtain rfl : i = n:=by omega
   go_wp2
   go_ret
   exact ⟨A2,c2,rows,C,rfl,ho.more Hz.size,HB.out.congr fun x j hx _=>by
    unfold setTo
    by_cases e : x < i
    ·rw [decide_eq_true e,Bool.true_and]
    ·rw [setM_end (by have:=Hl.out;omega)];simp,hbwr⟩
set_option maxRecDepth 100000 in
set_option maxHeartbeats 8000000 in
theorem jleads_then (hl : cl.length = n) (hn : n≤100000) (X : Nat→Prop) (cs : List Nat) (ks : List Pat) (v : Pv) (w : World) (hp : PatX w X (.node 2 cs ks) v) (hC : Rd w 1 C0 (cl.map encN))
  (HK : ∀ p ∈ ks,KidLeads cl C0 n c0 p) (hg : goodL 64 ks = true) (hz : ks.length≤2048) :
  Calls Tryz.prog 241 #[valPt v,.slice C0 n c0] w (MtEnd w (n+1) (thenP cl ks ownM)):=by
 obtain ⟨o,⟨A,nc,c⟩,⟨B,m,d⟩⟩:=v
 simp only [PatX] at hp
 obtain ⟨rfl,hA,vs,hB,hKs⟩:=hp
 have hm : vs.length = m:=by have:=hB.len;rwa [List.length_map] at this
 have hk:=hKs.len
 unfold valPt
 simp only
 have hb0 : Blk (w.alloc (.cells #[.int .i64 ((2 : Nat) : Int),.slice A nc c,.slice B m d] 171)) w.heap.size 171 _:=Blk.new _ _ _
 have Hz : Below w.heap.size w (w.alloc (.cells #[.int .i64 ((2 : Nat) : Int),.slice A nc c,.slice B m d] 171)):=(Below.refl _ _).alloc (Nat.le_refl _) _
 have Hl:=Lib.hid hl
 have HKs:=Lib.hid hKs
 have HB:=Lib.hid hB
 have HKk:=Lib.hid HK
 have Hg:=Lib.hid hg
 have hmz : m≤2048:=by omega
 have Hkm:=Lib.hid (show ks.length = m by omega)
 have hN1 : cl.length+1 = n+1:=by omega
 have HN:=Lib.hid (fun W=>jown_any (n+1) W (by omega))
 have HBe:=Lib.hid (fun A1 A2 c1 c2 CA CB a b W h1 h2 h3 h4=>jbehind_any A1 A2 (n+1) c1 c2 CA CB a b W h1 h2 h3 h4 (by omega))
 obtain ⟨n1,Hn1⟩ : ∃ n1,Hid (n+1 = n1):=⟨_,Lib.hid rfl⟩
 have Hst:=Lib.hid (fun (i : Nat) (p : Pat) (h : ks[i]? = some p)=>show thenP cl (ks.take (i+1)) ownM = behindM (n+1) (thenP cl (ks.take i) ownM) (leadsP cl p) by rw [take_snoc h,thenP_snoc,hN1] )
 have e1 : (n : Int)+1 = (n1 : Int):=by have:=Hn1.out;omega
 have hnz : n1≤100001:=by have:=Hn1.out;omega
 unfold KidLeads at HKk
 rw [hN1] at HKk
 simp only [Hn1.out] at HN HKk HBe Hst ⊢
 clear hA hB hKs hl hk hm HK hg hN1
 go_enter Tryz.func241,Tryz.ntmps241
 go_wp2_with fail
 generalize (w.alloc (.cells #[.int .i64 ((2 : Nat) : Int),.slice A nc c,.slice B m d] 171)) = w1 at Hz hb0 ⊢
 refine (HN.out w1).mono ?_
 have k20:=hb0.cell 2
 simp only [List.getElem?_toArray,List.getElem?_cons_succ,List.getElem?_cons_zero] at k20
 clear hb0 HN
 rintro e w2 ⟨A2,c2,rows2,C2,rfl,ho2,hBt2,hb2⟩
 replace hBt2 : Hid (BitsM n1 C2 (thenP cl (ks.take 0) ownM)):=Lib.hid hBt2
 have k2:=cell_keep k20 hb2
 go_wp2_with fail
 go_loopw [8,9] (fun u v wr=>∃ (i : Nat) (A1 : Option Addr) (c1 : Nat) (rows : List Sv) (C : List (List Nat)),u = .slice A1 n1 c1∧v = .int .i64 i∧i≤m∧MtO wr w1.heap.size A1 n1 c1 (n1 / 64+1) rows C∧Hid (BitsM n1 C (thenP cl (ks.take i) ownM))∧Below w1.heap.size w1 wr) (fun _ v _=>m - (intOf v).toNat)
 case atStart=>exact ⟨0,A2,c2,rows2,C2,rfl,rfl,by omega,ho2,hBt2,hb2⟩
 case round =>
  clear ho2 hBt2
  obtain ⟨i,A1,c1,rows,C,rfl,rfl,hi,ho,HBt,hbr⟩:=hrel
  have hbwr:=below_two Hz hbr
  replace k2:=cell_keep k20 hbr
  by_cases hlt : i < m
  ·obtain ⟨q,hq⟩ : ∃ q,ks[i]? = some q:=⟨_,List.getElem?_eq_getElem (by have:=Hkm.out;omega)⟩
   obtain ⟨u,hu,hp⟩:=HKs.out.at_ hq
   obtain ⟨b,off,e,x0,x1,x2⟩:=HB.out.atPt hu
   simp only at e
   subst e
   replace x0:=cell_keep x0 hbwr
   replace x1:=cell_keep x1 hbwr
   replace x2:=cell_keep x2 hbwr
   have HC:=Lib.hid (HKk.out q (List.mem_of_getElem? hq) X u wr (hp.below hbwr) (goodL_at Hg.out hq) (hC.below hbwr))
   have HS:=Lib.hid (Hst.out i q hq)
   unfold valPt at HC
   clear hq hp hu
   go_wp2_with fail
   refine HC.out.mono ?_
   rintro e w3 he3
   obtain ⟨A3,c3,C3,rfl,hr3,hBt3,hb3⟩:=he3.rd
   have HBe2:=Lib.hid (HBe.out A1 A3 c1 c3 C C3 _ _ w3 (ho.below hb3).rd HBt.out hr3 hBt3)
   clear he3 hr3 hBt3 HC
   go_wp2_with fail
   refine HBe2.out.mono ?_
   rintro e w4 ⟨A4,c4,rows4,C4,rfl,ho4,hBt4,hb4⟩
   rw [← HS.out] at hBt4
   have hb5:=below_step hbr (below_two hb3 hb4) hbr.size
   have ho5:=ho4.more (b':=w1.heap.size) (below_two hbr hb3 |>.size)
   have HBt5:=Lib.hid hBt4
   clear hBt4 ho4
   go_wp2
   go_roundw
   case rel=>exact ⟨i+1,A4,c4,rows4,C4,rfl,by go_num,by omega,ho5,HBt5,hb5⟩
   case measure=>simp [intOf];omega
  ·obtain rfl : i = m:=by omega
   have HE:=Lib.hid (show ks.take i = ks from List.take_of_length_le (by have:=Hkm.out;omega))
   rw [HE.out] at HBt
   go_wp2
   go_ret
   exact ⟨A1,c1,rows,C,rfl,ho.more Hz.size,HBt.out,hbwr⟩
set_option maxRecDepth 100000 in
set_option maxHeartbeats 8000000 in
theorem jleads_or (hl : cl.length = n) (hn : n≤100000) (X : Nat→Prop) (cs : List Nat) (ks : List Pat) (v : Pv) (w : World) (hp : PatX w X (.node 3 cs ks) v) (hC : Rd w 1 C0 (cl.map encN))
  (HK : ∀ p ∈ ks,KidLeads cl C0 n c0 p) (hg : goodL 64 ks = true) (hz : ks.length≤2048) :
  Calls Tryz.prog 241 #[valPt v,.slice C0 n c0] w (MtEnd w (n+1) (orP cl ks noneM)):=by
 obtain ⟨o,⟨A,nc,c⟩,⟨B,m,d⟩⟩:=v
 simp only [PatX] at hp
 obtain ⟨rfl,hA,vs,hB,hKs⟩:=hp
 have hm : vs.length = m:=by have:=hB.len;rwa [List.length_map] at this
 have hk:=hKs.len
 unfold valPt
 simp only
 have hb0 : Blk (w.alloc (.cells #[.int .i64 ((3 : Nat) : Int),.slice A nc c,.slice B m d] 171)) w.heap.size 171 _:=Blk.new _ _ _
 have Hz : Below w.heap.size w (w.alloc (.cells #[.int .i64 ((3 : Nat) : Int),.slice A nc c,.slice B m d] 171)):=(Below.refl _ _).alloc (Nat.le_refl _) _
 have Hl:=Lib.hid hl
 have HKs:=Lib.hid hKs
 have HB:=Lib.hid hB
 have HKk:=Lib.hid HK
 have Hg:=Lib.hid hg
 have hmz : m≤2048:=by omega
 have Hkm:=Lib.hid (show ks.length = m by omega)
 have hN1 : cl.length+1 = n+1:=by omega
 have HN:=Lib.hid (fun W=>jnone_any (n+1) W (by omega))
 have HBe:=Lib.hid (fun A1 A2 c1 c2 CA CB a b W h1 h2 h3 h4=>jboth_any A1 A2 (n+1) c1 c2 CA CB a b W h1 h2 h3 h4 (by omega))
 obtain ⟨n1,Hn1⟩ : ∃ n1,Hid (n+1 = n1):=⟨_,Lib.hid rfl⟩
 have Hst:=Lib.hid (fun (i : Nat) (p : Pat) (h : ks[i]? = some p)=>show orP cl (ks.take (i+1)) noneM = bothM (orP cl (ks.take i) noneM) (leadsP cl p) by rw [take_snoc h,orP_snoc])
 have e1 : (n : Int)+1 = (n1 : Int):=by have:=Hn1.out;omega
 have hnz : n1≤100001:=by have:=Hn1.out;omega
 unfold KidLeads at HKk
 rw [hN1] at HKk
 simp only [Hn1.out] at HN HKk HBe Hst ⊢
 clear hA hB hKs hl hk hm HK hg hN1
 go_enter Tryz.func241,Tryz.ntmps241
 go_wp2_with fail
 generalize (w.alloc (.cells #[.int .i64 ((3 : Nat) : Int),.slice A nc c,.slice B m d] 171)) = w1 at Hz hb0 ⊢
 refine (HN.out w1).mono ?_
 have k20:=hb0.cell 2
 simp only [List.getElem?_toArray,List.getElem?_cons_succ,List.getElem?_cons_zero] at k20
 clear hb0 HN
 rintro e w2 ⟨A2,c2,rows2,rfl,ho2,hb2⟩
 have hBt2:=Lib.hid (zero_bits n1 (n1 / 64+1))
 generalize zeroC n1 (n1 / 64+1) = C2 at ho2 hBt2
 replace hBt2 : Hid (BitsM n1 C2 (orP cl (ks.take 0) noneM)):=hBt2
 have k2:=cell_keep k20 hb2
 go_wp2_with fail
 go_loopw [10,11] (fun u v wr=>∃ (i : Nat) (A1 : Option Addr) (c1 : Nat) (rows : List Sv) (C : List (List Nat)),u = .slice A1 n1 c1∧v = .int .i64 i∧i≤m∧MtO wr w1.heap.size A1 n1 c1 (n1 / 64+1) rows C∧Hid (BitsM n1 C (orP cl (ks.take i) noneM))∧Below w1.heap.size w1 wr) (fun _ v _=>m - (intOf v).toNat)
 case atStart=>exact ⟨0,A2,c2,rows2,C2,rfl,rfl,by omega,ho2,hBt2,hb2⟩
 case round =>
  clear ho2 hBt2
  obtain ⟨i,A1,c1,rows,C,rfl,rfl,hi,ho,HBt,hbr⟩:=hrel
  have hbwr:=below_two Hz hbr
  replace k2:=cell_keep k20 hbr
  by_cases hlt : i < m
  ·obtain ⟨q,hq⟩ : ∃ q,ks[i]? = some q:=⟨_,List.getElem?_eq_getElem (by have:=Hkm.out;omega)⟩
   obtain ⟨u,hu,hp⟩:=HKs.out.at_ hq
   obtain ⟨b,off,e,x0,x1,x2⟩:=HB.out.atPt hu
   simp only at e
   subst e
   replace x0:=cell_keep x0 hbwr
   replace x1:=cell_keep x1 hbwr
   replace x2:=cell_keep x2 hbwr
   have HC:=Lib.hid (HKk.out q (List.mem_of_getElem? hq) X u wr (hp.below hbwr) (goodL_at Hg.out hq) (hC.below hbwr))
   have HS:=Lib.hid (Hst.out i q hq)
   unfold valPt at HC
   clear hq hp hu
   go_wp2_with fail
   refine HC.out.mono ?_
   rintro e w3 he3
   obtain ⟨A3,c3,C3,rfl,hr3,hBt3,hb3⟩:=he3.rd
   have HBe2:=Lib.hid (HBe.out A1 A3 c1 c3 C C3 _ _ w3 (ho.below hb3).rd HBt.out hr3 hBt3)
   clear he3 hr3 hBt3 HC
   go_wp2_with fail
   refine HBe2.out.mono ?_
   rintro e w4 ⟨A4,c4,rows4,C4,rfl,ho4,hBt4,hb4⟩
   rw [← HS.out] at hBt4
   have hb5:=below_step hbr (below_two hb3 hb4) hbr.size
   have ho5:=ho4.more (b':=w1.heap.size) (below_two hbr hb3 |>.size)
   have HBt5:=Lib.hid hBt4
   clear hBt4 ho4
   go_wp2
   go_roundw
   case rel=>exact ⟨i+1,A4,c4,rows4,C4,rfl,by go_num,by omega,ho5,HBt5,hb5⟩
   case measure=>simp [intOf];omega
  ·obtain rfl : i = m:=by omega
   have HE:=Lib.hid (show ks.take i = ks from List.take_of_length_le (by have:=Hkm.out;omega))
   rw [HE.out] at HBt
   go_wp2
   go_ret
   exact ⟨A1,c1,rows,C,rfl,ho.more Hz.size,HBt.out,hbwr⟩
end
end Go.Proofs.YtdngkienloligaaGreatDoor
/- -/
namespace Go.Proofs.YtdngkienloligaaGreatDoor
open Go.RowKit
section
variable {cl : List Nat} {C0 : Option Addr} {n c0 : Nat}
set_option maxRecDepth 100000 in
set_option maxHeartbeats 4000000 in
theorem jleads_empty (hn : n≤100000) (X : Nat→Prop) (cs : List Nat) (ks : List Pat) (v : Pv) (w : World) (hp : PatX w X (.node 0 cs ks) v) :
  Calls Tryz.prog 241 #[valPt v,.slice C0 n c0] w (MtEnd w (n+1) ownM):=by
 obtain ⟨o,⟨A,nc,c⟩,⟨B,m,d⟩⟩:=v
 simp only [PatX] at hp
 obtain ⟨rfl,hA,vs,hB,hK⟩:=hp
 unfold valPt
 simp only
 have Hz : Below w.heap.size w (w.alloc (.cells #[.int .i64 ((0 : Nat) : Int),.slice A nc c,.slice B m d] 171)):=(Below.refl _ _).alloc (Nat.le_refl _) _
 have HN:=Lib.hid (fun W=>jown_any (n+1) W (by omega))
 obtain ⟨n1,Hn1⟩ : ∃ n1,Hid (n+1 = n1):=⟨_,Lib.hid rfl⟩
 have e1 : (n : Int)+1 = (n1 : Int):=by have:=Hn1.out;omega
 simp only [Hn1.out] at HN ⊢
 clear hA hB hK
 go_enter Tryz.func241,Tryz.ntmps241
 go_wp2_with fail
 refine (HN.out _).mono ?_
 rintro e w2 ⟨A2,c2,rows2,C2,rfl,ho2,hBt2,hb2⟩
 go_wp2
 go_ret
 exact ⟨A2,c2,rows2,C2,rfl,ho2.more Hz.size,hBt2,below_two Hz hb2⟩
set_option maxRecDepth 100000 in
set_option maxHeartbeats 4000000 in
theorem jleads_many (hl : cl.length = n) (hn : n≤100000) (X : Nat→Prop) (cs : List Nat) (p : Pat) (v : Pv) (w : World) (hp : PatX w X (.node 4 cs [p]) v) (hC : Rd w 1 C0 (cl.map encN)) (HK : KidLeads cl C0 n c0 p) (hg : goodP 64 p = true) :
  Calls Tryz.prog 241 #[valPt v,.slice C0 n c0] w (MtEnd w (n+1) (moreM (n+1) (leadsP cl p))):=by
 obtain ⟨o,⟨A,nc,c⟩,⟨B,m,d⟩⟩:=v
 simp only [PatX,PatsX] at hp
 obtain ⟨rfl,hA,vs,hB,u,r,rfl,hpu,rfl⟩:=hp
 have hm : 1 = m:=by have:=hB.len;simpa using this
 subst hm
 unfold valPt
 show Calls Tryz.prog 241 #[.agg #[.int .i64 4,.slice A nc c,.slice B 1 d],.slice C0 n c0] w _
 have hb0 : Blk (w.alloc (.cells #[.int .i64 4,.slice A nc c,.slice B 1 d] 171)) w.heap.size 171 _:=Blk.new _ _ _
 have Hz : Below w.heap.size w (w.alloc (.cells #[.int .i64 4,.slice A nc c,.slice B 1 d] 171)):=(Below.refl _ _).alloc (Nat.le_refl _) _
 obtain ⟨b,off,e,x0,x1,x2⟩:=hB.atPt (k:=0) (x:=u) rfl
 simp only at e
 subst e
 replace x0:=cell_keep x0 Hz
 replace x1:=cell_keep x1 Hz
 replace x2:=cell_keep x2 Hz
 simp only [Nat.zero_mul,Nat.add_zero] at x0 x1 x2
 unfold KidLeads at HK
 have hN1 : cl.length+1 = n+1:=by omega
 rw [hN1] at HK
 have HKk:=Lib.hid (HK X u _ (hpu.below Hz) hg (hC.below Hz))
 have HM:=Lib.hid (fun A1 c1 CA a W h1 h2=>jmore_any A1 (n+1) c1 CA a W h1 h2 (by omega))
 obtain ⟨n1,Hn1⟩ : ∃ n1,Hid (n+1 = n1):=⟨_,Lib.hid rfl⟩
 simp only [Hn1.out] at HKk HM ⊢
 unfold valPt at HKk
 clear hA hB hpu HK hl hN1
 go_enter Tryz.func241,Tryz.ntmps241
 go_wp2_with fail
 generalize (w.alloc (.cells #[.int .i64 4,.slice A nc c,.slice (some ⟨b,off,none⟩) 1 d] 171)) = w1 at *
 refine HKk.out.mono ?_
 rintro e w2 he
 obtain ⟨A2,c2,C2,rfl,hr2,hBt2,hb2⟩:=he.rd
 have HM2:=Lib.hid (HM.out A2 c2 C2 _ w2 hr2 hBt2)
 clear he hr2 hBt2 HKk HM
 go_wp2_with fail
 refine HM2.out.mono ?_
 rintro e w3 ⟨A3,c3,rows3,C3,rfl,ho3,hBt3,hb3⟩
 go_wp2
 go_ret
 exact ⟨A3,c3,rows3,C3,rfl,ho3.more (below_two Hz hb2).size,hBt3,below_two (below_two Hz hb2) hb3⟩
set_option maxRecDepth 100000 in
set_option maxHeartbeats 4000000 in
theorem jleads_some (hl : cl.length = n) (hn : n≤100000) (X : Nat→Prop) (cs : List Nat) (p : Pat) (v : Pv) (w : World) (hp : PatX w X (.node 5 cs [p]) v) (hC : Rd w 1 C0 (cl.map encN)) (HK : KidLeads cl C0 n c0 p) (hg : goodP 64 p = true) :
  Calls Tryz.prog 241 #[valPt v,.slice C0 n c0] w (MtEnd w (n+1) (behindM (n+1) (leadsP cl p) (moreM (n+1) (leadsP cl p)))):=by
 obtain ⟨o,⟨A,nc,c⟩,⟨B,m,d⟩⟩:=v
 simp only [PatX,PatsX] at hp
 obtain ⟨rfl,hA,vs,hB,u,r,rfl,hpu,rfl⟩:=hp
 have hm : 1 = m:=by have:=hB.len;simpa using this
 subst hm
 unfold valPt
 show Calls Tryz.prog 241 #[.agg #[.int .i64 5,.slice A nc c,.slice B 1 d],.slice C0 n c0] w _
 have hb0 : Blk (w.alloc (.cells #[.int .i64 5,.slice A nc c,.slice B 1 d] 171)) w.heap.size 171 _:=Blk.new _ _ _
 have Hz : Below w.heap.size w (w.alloc (.cells #[.int .i64 5,.slice A nc c,.slice B 1 d] 171)):=(Below.refl _ _).alloc (Nat.le_refl _) _
 obtain ⟨b,off,e,x0,x1,x2⟩:=hB.atPt (k:=0) (x:=u) rfl
 simp only at e
 subst e
 replace x0:=cell_keep x0 Hz
 replace x1:=cell_keep x1 Hz
 replace x2:=cell_keep x2 Hz
 simp only [Nat.zero_mul,Nat.add_zero] at x0 x1 x2
 unfold KidLeads at HK
 have hN1 : cl.length+1 = n+1:=by omega
 rw [hN1] at HK
 have HKk:=Lib.hid (HK X u _ (hpu.below Hz) hg (hC.below Hz))
 have HM:=Lib.hid (fun A1 c1 CA a W h1 h2=>jmore_any A1 (n+1) c1 CA a W h1 h2 (by omega))
 have HBe:=Lib.hid (fun A1 A2 c1 c2 CA CB a b W h1 h2 h3 h4=>jbehind_any A1 A2 (n+1) c1 c2 CA CB a b W h1 h2 h3 h4 (by omega))
 obtain ⟨n1,Hn1⟩ : ∃ n1,Hid (n+1 = n1):=⟨_,Lib.hid rfl⟩
 simp only [Hn1.out] at HKk HM HBe ⊢
 unfold valPt at HKk
 clear hA hB hpu HK hl hN1
 go_enter Tryz.func241,Tryz.ntmps241
 go_wp2_with fail
 generalize (w.alloc (.cells #[.int .i64 5,.slice A nc c,.slice (some ⟨b,off,none⟩) 1 d] 171)) = w1 at *
 refine HKk.out.mono ?_
 rintro e w2 he
 obtain ⟨A2,c2,C2,rfl,hr2,hBt2,hb2⟩:=he.rd
 have HM2:=Lib.hid (HM.out A2 c2 C2 _ w2 hr2 hBt2)
 have Hr2:=Lib.hid hr2
 have HB2:=Lib.hid hBt2
 clear he hr2 hBt2 HKk HM
 go_wp2_with fail
 refine HM2.out.mono ?_
 rintro e w3 he3
 obtain ⟨A3,c3,C3,rfl,hr3,hBt3,hb3⟩:=he3.rd
 have HE:=Lib.hid (HBe.out A2 A3 c2 c3 C2 C3 _ _ w3 (Hr2.out.below hb3) HB2.out hr3 hBt3)
 clear he3 hr3 hBt3 HM2 HBe
 go_wp2_with fail
 refine HE.out.mono ?_
 rintro e w4 ⟨A4,c4,rows4,C4,rfl,ho4,hBt4,hb4⟩
 go_wp2
 go_ret
 exact ⟨A4,c4,rows4,C4,rfl,ho4.more (below_two (below_two Hz hb2) hb3).size,hBt4,below_two (below_two (below_two Hz hb2) hb3) hb4⟩
set_option maxRecDepth 100000 in
set_option maxHeartbeats 4000000 in
theorem jleads_may (hl : cl.length = n) (hn : n≤100000) (X : Nat→Prop) (cs : List Nat) (p : Pat) (v : Pv) (w : World) (hp : PatX w X (.node 6 cs [p]) v) (hC : Rd w 1 C0 (cl.map encN)) (HK : KidLeads cl C0 n c0 p) (hg : goodP 64 p = true) :
  Calls Tryz.prog 241 #[valPt v,.slice C0 n c0] w (MtEnd w (n+1) (bothM ownM (leadsP cl p))):=by
 obtain ⟨o,⟨A,nc,c⟩,⟨B,m,d⟩⟩:=v
 simp only [PatX,PatsX] at hp
 obtain ⟨rfl,hA,vs,hB,u,r,rfl,hpu,rfl⟩:=hp
 have hm : 1 = m:=by have:=hB.len;simpa using this
 subst hm
 unfold valPt
 show Calls Tryz.prog 241 #[.agg #[.int .i64 6,.slice A nc c,.slice B 1 d],.slice C0 n c0] w _
 have hb0 : Blk (w.alloc (.cells #[.int .i64 6,.slice A nc c,.slice B 1 d] 171)) w.heap.size 171 _:=Blk.new _ _ _
 have Hz : Below w.heap.size w (w.alloc (.cells #[.int .i64 6,.slice A nc c,.slice B 1 d] 171)):=(Below.refl _ _).alloc (Nat.le_refl _) _
 obtain ⟨b,off,e,x0,x1,x2⟩:=hB.atPt (k:=0) (x:=u) rfl
 simp only at e
 subst e
 replace x0:=cell_keep x0 Hz
 replace x1:=cell_keep x1 Hz
 replace x2:=cell_keep x2 Hz
 simp only [Nat.zero_mul,Nat.add_zero] at x0 x1 x2
 unfold KidLeads at HK
 have hN1 : cl.length+1 = n+1:=by omega
 rw [hN1] at HK
 have HPu:=Lib.hid (And.intro (hpu.below Hz) (And.intro hg (hC.below Hz)))
 have HKk:=Lib.hid (fun W h1 h2 h3=>HK X u W h1 h2 h3)
 have HO:=Lib.hid (fun W=>jown_any (n+1) W (by omega))
 have HBe:=Lib.hid (fun A1 A2 c1 c2 CA CB a b W h1 h2 h3 h4=>jboth_any A1 A2 (n+1) c1 c2 CA CB a b W h1 h2 h3 h4 (by omega))
 obtain ⟨n1,Hn1⟩ : ∃ n1,Hid (n+1 = n1):=⟨_,Lib.hid rfl⟩
 have e1 : (n : Int)+1 = (n1 : Int):=by have:=Hn1.out;omega
 simp only [Hn1.out] at HKk HO HBe ⊢
 unfold valPt at HKk
 have k2:=hb0.cell 2
 simp only [List.getElem?_toArray,List.getElem?_cons_succ,List.getElem?_cons_zero] at k2
 clear hA hB hpu HK hl hN1 hb0
 go_enter Tryz.func241,Tryz.ntmps241
 go_wp2_with fail
 generalize (w.alloc (.cells #[.int .i64 6,.slice A nc c,.slice (some ⟨b,off,none⟩) 1 d] 171)) = w1 at *
 have HKk2:=Lib.hid (fun W (h : Below w1.heap.size w1 W)=>HKk.out W (HPu.out.1.below h) HPu.out.2.1 (HPu.out.2.2.below h))
 have hbW : Below w1.heap.size w1 w1.drew:=(Below.refl _ _).drew
 have d2 : w1.drew.cell? ⟨w.heap.size,2,none⟩ = some (.slice (some ⟨b,off,none⟩) 1 d):=k2
 have d4 : w1.drew.cell? ⟨b,off,none⟩ = some (.int .i64 (u.1 : Int)):=x0
 have d5 : w1.drew.cell? ⟨b,off+1,none⟩ = some (.slice u.2.1.1 u.2.1.2.1 u.2.1.2.2):=x1
 have d6 : w1.drew.cell? ⟨b,off+2,none⟩ = some (.slice u.2.2.1 u.2.2.2.1 u.2.2.2.2):=x2
 clear HKk HPu
 refine wp_region_noPanic ?_
 go_region_law (first
  | (go_simp;go_at_call 277;refine (HO.out _).mono ?_;rintro e wz ⟨A9,c9,rows9,C9,rfl,ho9,hB9,hb9⟩;have hM1:=ho9.rd;have hbW:=below_step hbW hb9 hbW.size;have d2:=cell_keep d2 hb9;have d4:=cell_keep d4 hb9;have d5:=cell_keep d5 hb9;have d6:=cell_keep d6 hb9;try have hM2:=hM2.below hb9)
  | (go_simp;go_at_call 241;refine (HKk2.out _ hbW).mono ?_;rintro e wz hz;obtain ⟨A8,c8,C8,rfl,hM2,hB8,hb8⟩:=hz.rd;have hbW:=below_step hbW hb8 hbW.size;have d2:=cell_keep d2 hb8;have d4:=cell_keep d4 hb8;have d5:=cell_keep d5 hb8;have d6:=cell_keep d6 hb8;try have hM1:=hM1.below hb8)
  | (go_simp;go_at_call 279;refine (HBe.out _ _ _ _ _ _ _ _ _ hM1 hB9 hM2 hB8).mono ?_;rintro e wz ⟨A7,c7,rows7,C7,rfl,ho7,hB7,hb7⟩;have hbX:=hbW;have hbW:=below_step hbW hb7 hbW.size))
 all_goals
  refine NoPanic.normal ?_
  go_wp2
  go_ret
  exact ⟨A7,c7,rows7,C7,rfl,ho7.more (below_two Hz hbX).size,hB7,below_two Hz hbW⟩
end
end Go.Proofs.YtdngkienloligaaGreatDoor
/- -/
namespace Go.Proofs.YtdngkienloligaaGreatDoor
open Go.RowKit
theorem form_one {op : Nat} {ks : List Pat} (h : formOk op ks.length = true) (h4 : 4≤op) : ∃ p,ks = [p]:=by
 have h1 : ks.length = 1:=by
  unfold formOk at h
  rw [if_neg (by omega),if_neg (by omega)] at h
  simpa using h
 match ks,h1 with
 | [p],_=>exact ⟨p,rfl⟩
theorem jleads_all (cl : List Nat) (C0 : Option Addr) (n c0 : Nat) (hl : cl.length = n) (hn : n≤100000) : ∀ (z : Nat) (p : Pat),sizeP p≤z→sizeP p≤2048→KidLeads cl C0 n c0 p:=by
 intro z
 induction z with
 | zero=>intro p hz;have:=sizeP_pos p;omega
 | succ z ih =>
  intro p hz hs X v w hp hg hC
  obtain ⟨op,cs,ks⟩:=p
  have hg':=hg
  unfold goodP at hg
  rw [Bool.and_eq_true] at hg
  obtain ⟨h1,h2,h3,h4,h5⟩:=node_parts hg.1
  have hzl : sizeL ks≤z:=by unfold sizeP at hz;omega
  have hsl : sizeL ks≤2047:=by unfold sizeP at hs;omega
  have hk : ∀ p ∈ ks,KidLeads cl C0 n c0 p:=fun p hp=>by
   obtain ⟨i,hi,e⟩:=List.getElem_of_mem hp
   have h6:=sizeL_at (ks:=ks) (i:=i) (p:=p) (by rw [List.getElem?_eq_getElem hi,e])
   exact ih p (by omega) (by omega)
  have hkl:=sizeL_len ks
  have hN : cl.length+1 = n+1:=by omega
  have hcz : cs.length≤64:=rises_len h5 h4
  rw [hN]
  rcases (by omega : op = 0∨op = 1∨op = 2∨op = 3∨op = 4∨op = 5∨op = 6) with rfl | rfl | rfl | rfl | rfl | rfl | rfl
  ·have e : leadsP cl (.node 0 cs ks) = ownM:=by unfold leadsP;rfl
   rw [e]
   exact jleads_empty hn X cs ks v w hp
  ·have e : leadsP cl (.node 1 cs ks) = setM cl cs:=by unfold leadsP;rfl
   rw [e]
   exact jleads_set hl hn X cs ks v w hp hC (by omega)
  ·have e : leadsP cl (.node 2 cs ks) = thenP cl ks ownM:=by unfold leadsP;rfl
   rw [e]
   exact jleads_then hl hn X cs ks v w hp hC hk hg.2 (by omega)
  ·have e : leadsP cl (.node 3 cs ks) = orP cl ks noneM:=by unfold leadsP;rfl
   rw [e]
   exact jleads_or hl hn X cs ks v w hp hC hk hg.2 (by omega)
  ·obtain ⟨q,rfl⟩:=form_one h3 (by omega)
   have e : leadsP cl (.node 4 cs [q]) = moreM (n+1) (leadsP cl q):=by (conv=>lhs;unfold leadsP);simp [headP,hN]
   rw [e]
   exact jleads_many hl hn X cs q v w hp hC (hk q (by simp)) (goodL_at hg.2 (i:=0) rfl)
  ·obtain ⟨q,rfl⟩:=form_one h3 (by omega)
   have e : leadsP cl (.node 5 cs [q]) = behindM (n+1) (leadsP cl q) (moreM (n+1) (leadsP cl q)):=by (conv=>lhs;unfold leadsP);simp [headP,hN]
   rw [e]
   exact jleads_some hl hn X cs q v w hp hC (hk q (by simp)) (goodL_at hg.2 (i:=0) rfl)
  ·obtain ⟨q,rfl⟩:=form_one h3 (by omega)
   have e : leadsP cl (.node 6 cs [q]) = bothM ownM (leadsP cl q):=by (conv=>lhs;unfold leadsP);simp [headP]
   rw [e]
   exact jleads_may hl hn X cs q v w hp hC (hk q (by simp)) (goodL_at hg.2 (i:=0) rfl)
theorem jleads_any (cl : List Nat) (C0 : Option Addr) (n c0 : Nat) (hl : cl.length = n) (hn : n≤100000) (X : Nat→Prop) (p : Pat) (v : Pv) (w : World) (hp : PatX w X p v) (hg : goodP 64 p = true) (hs : sizeP p≤2048) (hC : Rd w 1 C0 (cl.map encN)) :
  Calls Tryz.prog 241 #[valPt v,.slice C0 n c0] w (MtEnd w (cl.length+1) (leadsP cl p)):=jleads_all cl C0 n c0 hl hn (sizeP p) p (Nat.le_refl _) hs X v w hp hg hC
theorem filter_next {m : Nat→Bool} {i : Nat} : (List.range (i+1)).filter m = (List.range i).filter m++(if m i then [i] else []):=by
 rw [List.range_succ,List.filter_append]
 cases h : m i <;> simp [h]
theorem encN_ok' (l : List Nat) : ∀ y ∈ l.map encN,y.length = 1∧∀ u ∈ y,u.oneCell' = true:=by
 intro y hy
 obtain ⟨x,_,rfl⟩:=List.mem_map.1 hy
 exact ⟨rfl,fun u hu=>by simp [encN] at hu;rcases hu with rfl;rfl⟩
set_option maxRecDepth 100000 in
set_option maxHeartbeats 4000000 in
theorem jEnds_any (cl : List Nat) (C0 : Option Addr) (n c0 : Nat) (hl : cl.length = n) (hn : n≤100000) (X : Nat→Prop) (p : Pat) (v : Pv) (w : World) (hp : PatX w X p v) (hg : goodP 64 p = true) (hs : sizeP p≤2048) (hC : Rd w 1 C0 (cl.map encN)) :
  Calls Tryz.prog 202 #[valPt v,.slice C0 n c0] w fun e w'=>∃ A k c,e = .returned (.slice A k c)∧Own w' w.heap.size 3 1 A k c ((endsB p cl).map encN)∧Below w.heap.size w w':=by
 obtain ⟨i0,hi0,hz0,hz1,hz2⟩:=info_parts infoInt
 have HP:=Lib.hid hp
 have HG:=Lib.hid (fun W (h : PatX W X p v)=>jGood_any X p v W h (goodP_mono (by omega) hg) hs)
 have HL:=Lib.hid (fun W (h : PatX W X p v) (hc : Rd W 1 C0 (cl.map encN))=>jleads_any cl C0 n c0 hl hn X p v W h hg hs hc)
 have HE:=Lib.hid (show endsB p cl = (List.range (n+1)).filter fun i=>leadsP cl p 0 i by unfold endsB;rw [hl])
 rw [hl] at HL
 clear hp hg hl
 obtain ⟨n1,Hn1⟩ : ∃ n1,Hid (n+1 = n1):=⟨_,Lib.hid rfl⟩
 obtain ⟨k1,Hk1⟩ : ∃ k1,Hid (n1 / 64+1 = k1):=⟨_,Lib.hid rfl⟩
 simp only [Hn1.out] at HL
 unfold valPt at HG HL ⊢
 have Hz : Below w.heap.size w (w.alloc (.cells #[.int .i64 (v.1 : Int),.slice v.2.1.1 v.2.1.2.1 v.2.1.2.2,.slice v.2.2.1 v.2.2.2.1 v.2.2.2.2] 171)):=(Below.refl _ _).alloc (Nat.le_refl _) _
 have hb0 : Blk (w.alloc (.cells #[.int .i64 (v.1 : Int),.slice v.2.1.1 v.2.1.2.1 v.2.1.2.2,.slice v.2.2.1 v.2.2.2.1 v.2.2.2.2] 171)) w.heap.size 171 _:=Blk.new _ _ _
 go_enter Tryz.func202,Tryz.ntmps202
 go_wp2_with fail
 generalize (w.alloc (.cells #[.int .i64 (v.1 : Int),.slice v.2.1.1 v.2.1.2.1 v.2.1.2.2,.slice v.2.2.1 v.2.2.2.1 v.2.2.2.2] 171)) = w1 at Hz hb0 ⊢
 refine (HG.out w1 (HP.out.below Hz)).mono ?_
 rintro e w2 ⟨rfl,hb2⟩
 have hbw:=below_two Hz hb2
 have hb0':=hb0.below hb2
 have d0:=hb0'.cell 0
 have d1:=hb0'.cell 1
 have d2:=hb0'.cell 2
 simp only [List.getElem?_toArray,List.getElem?_cons_succ,List.getElem?_cons_zero] at d0 d1 d2
 have HL2:=Lib.hid (HL.out w2 (HP.out.below hbw) (hC.below hbw))
 clear HG HL hb0 hb0'
 go_wp2_with fail
 refine HL2.out.mono ?_
 rintro e w3 he
 obtain ⟨A2,c2,C2,rfl,hr2,hB2,hb3⟩:=he.rd
 obtain ⟨bm,om,Bm,dm,xm,em,km,-,hxm,hrm,hwm⟩:=hr2.at_ (i:=0) (by have:=Hn1.out;omega)
 simp only at em
 subst em
 simp only [Nat.add_zero] at km
 have HR:=Lib.hid (hB2.row hxm (by have:=Hn1.out;omega))
 rw [Hk1.out] at km hwm
 have hbw3:=below_two hbw hb3
 have hn1z : 0 < n1:=by have:=Hn1.out;omega
 have hn1z' : (0 : Int) < (n1 : Int):=by omega
 clear he hr2 hB2 hxm HL2 d0 d1 d2
 go_wp2_with fail
 go_loopw [6,7] (fun u z wr=>∃ (i : Nat) (A : Option Addr) (k c : Nat),u = .slice A k c∧z = .int .i64 i∧i≤n+1∧k≤i∧Own wr w3.heap.size 3 1 A k c (((List.range i).filter fun i=>leadsP cl p 0 i).map encN)∧Below w3.heap.size w3 wr) (fun _ z _=>n+1 - (intOf z).toNat)
 case atStart=>exact ⟨0,none,0,0,rfl,rfl,by omega,by omega,Own.nil_ _ _ _ _,Below.refl _ _⟩
 case round =>
  obtain ⟨i,A,k,c,rfl,rfl,hi,hki,ho,hb⟩:=hrel
  have hsz:=hb.size
  by_cases hlt : i≤n
  ·obtain ⟨q,Hq⟩ : ∃ q,Hid (leadsP cl p 0 i = q):=⟨_,Lib.hid rfl⟩
   have HH:=Lib.hid (jhas_any Bm k1 dm i xm wr (hrm.below hb) hwm (by have:=Hn1.out;have:=Hk1.out;omega) (by omega))
   rw [HR.out i (by have:=Hn1.out;omega),Hq.out] at HH
   have HF:=Lib.hid (filter_next (m:=fun i=>leadsP cl p 0 i) (i:=i))
   rw [Hq.out] at HF
   cases q with
   | false =>
    go_wp2_with fail
    refine HH.out.mono ?_
    rintro e w5 ⟨rfl,rfl⟩
    go_wp2
    go_roundw
    case rel=>exact ⟨i+1,A,k,c,rfl,by go_num,by omega,by omega,by rw [HF.out];simpa using ho,hb⟩
    case measure=>simp [intOf];omega
   | true =>
    go_wp2_with fail
    refine HH.out.mono ?_
    rintro e w5 ⟨rfl,rfl⟩
    go_wp2_with (at_builtin;go_must (refine wpList_app rfl (.tmp 25) (.tmp 27) _ rfl w3.heap.size 3 i0 _ 1 8 Tryz.underlying40 hi0 hz0 hz1 hz2 rfl (by omega) A k c _ rfl (ho.alloc _) _ 1 1 [encN i] rfl rfl (Rd.newAt (by simp) rfl) (encN_ok' [i]) (by unfold maxLen;omega) (by omega) (by simp;omega) ?_);intro A3 c3 w7 ho3 hg3 hA3)
    have hb7:=below_app (hb.alloc hsz (.cells #[.int .i64 (i : Int)] 3)) hg3 (by simp;omega) (fun a ha=>(ho.lt a ha).1)
    go_roundw
    case rel=>exact ⟨i+1,A3,k+1,c3,rfl,by go_num,by omega,by omega,by rw [HF.out,List.map_append];exact ho3,hb7⟩
    case measure=>simp [intOf];omega
  ·obtain rfl : i = n+1:=by omega
   rw [← HE.out] at ho
   obtain ⟨z,hz⟩ : ∃ z,n+1 = z:=⟨_,rfl⟩
   have ez : ((n : Int)+1) = (z : Int):=by omega
   go_wp2
   go_ret
   exact ⟨A,k,c,rfl,ho.more hbw3.size,below_two hbw3 hb⟩
end Go.Proofs.YtdngkienloligaaGreatDoor
/- -/
namespace Go.Proofs.YtdngkienloligaaGreatDoor
open Go.RowKit
set_option maxRecDepth 100000 in
set_option maxHeartbeats 4000000 in
theorem jStarts_any (cl : List Nat) (C0 : Option Addr) (n c0 : Nat) (hl : cl.length = n) (hn : n≤100000) (X : Nat→Prop) (p : Pat) (v : Pv) (w : World) (hp : PatX w X p v) (hg : goodP 64 p = true) (hs : sizeP p≤2048) (hC : Rd w 1 C0 (cl.map encN)) :
  Calls Tryz.prog 201 #[valPt v,.slice C0 n c0] w fun e w'=>∃ A k c,e = .returned (.slice A k c)∧Own w' w.heap.size 3 1 A k c ((startsB p cl).map encN)∧Below w.heap.size w w':=by
 obtain ⟨i0,hi0,hz0,hz1,hz2⟩:=info_parts infoInt
 have HP:=Lib.hid hp
 have HG:=Lib.hid (fun W (h : PatX W X p v)=>jGood_any X p v W h (goodP_mono (by omega) hg) hs)
 have HL:=Lib.hid (fun W (h : PatX W X p v) (hc : Rd W 1 C0 (cl.map encN))=>jleads_any cl C0 n c0 hl hn X p v W h hg hs hc)
 have HE:=Lib.hid (show startsB p cl = (List.range (n+1)).filter fun i=>leadsP cl p i n by unfold startsB;rw [hl])
 rw [hl] at HL
 clear hp hg hl
 obtain ⟨n1,Hn1⟩ : ∃ n1,Hid (n+1 = n1):=⟨_,Lib.hid rfl⟩
 obtain ⟨k1,Hk1⟩ : ∃ k1,Hid (n1 / 64+1 = k1):=⟨_,Lib.hid rfl⟩
 simp only [Hn1.out] at HL
 unfold valPt at HG HL ⊢
 have Hz : Below w.heap.size w (w.alloc (.cells #[.int .i64 (v.1 : Int),.slice v.2.1.1 v.2.1.2.1 v.2.1.2.2,.slice v.2.2.1 v.2.2.2.1 v.2.2.2.2] 171)):=(Below.refl _ _).alloc (Nat.le_refl _) _
 have hb0 : Blk (w.alloc (.cells #[.int .i64 (v.1 : Int),.slice v.2.1.1 v.2.1.2.1 v.2.1.2.2,.slice v.2.2.1 v.2.2.2.1 v.2.2.2.2] 171)) w.heap.size 171 _:=Blk.new _ _ _
 go_enter Tryz.func201,Tryz.ntmps201
 go_wp2_with fail
 generalize (w.alloc (.cells #[.int .i64 (v.1 : Int),.slice v.2.1.1 v.2.1.2.1 v.2.1.2.2,.slice v.2.2.1 v.2.2.2.1 v.2.2.2.2] 171)) = w1 at Hz hb0 ⊢
 refine (HG.out w1 (HP.out.below Hz)).mono ?_
 rintro e w2 ⟨rfl,hb2⟩
 have hbw:=below_two Hz hb2
 have hb0':=hb0.below hb2
 have d0:=hb0'.cell 0
 have d1:=hb0'.cell 1
 have d2:=hb0'.cell 2
 simp only [List.getElem?_toArray,List.getElem?_cons_succ,List.getElem?_cons_zero] at d0 d1 d2
 have HL2:=Lib.hid (HL.out w2 (HP.out.below hbw) (hC.below hbw))
 clear HG HL hb0 hb0'
 go_wp2_with fail
 refine HL2.out.mono ?_
 rintro e w3 he
 obtain ⟨A2,c2,C2,rfl,hr2,hB2,hb3⟩:=he.rd
 have hbw3:=below_two hbw hb3
 have HB2:=Lib.hid hB2
 clear he HL2 d0 d1 d2 hB2
 go_wp2_with fail
 go_loopw [6,7] (fun u z wr=>∃ (i : Nat) (A : Option Addr) (k c : Nat),u = .slice A k c∧z = .int .i64 i∧i≤n+1∧k≤i∧Own wr w3.heap.size 3 1 A k c (((List.range i).filter fun i=>leadsP cl p i n).map encN)∧Below w3.heap.size w3 wr) (fun _ z _=>n+1 - (intOf z).toNat)
 case atStart=>exact ⟨0,none,0,0,rfl,rfl,by omega,by omega,Own.nil_ _ _ _ _,Below.refl _ _⟩
 case round =>
  obtain ⟨i,A,k,c,rfl,rfl,hi,hki,ho,hb⟩:=hrel
  have hsz:=hb.size
  by_cases hlt : i≤n
  ·obtain ⟨bm,om,Bm,dm,xm,em,km,-,hxm,hrm,hwm⟩:=hr2.at_ (i:=i) (by have:=Hn1.out;omega)
   simp only at em
   subst em
   have HR:=Lib.hid (HB2.out.row hxm (by have:=Hn1.out;omega))
   rw [Hk1.out] at km hwm
   replace km:=cell_keep km hb
   have hin1 : i < n1:=by have:=Hn1.out;omega
   obtain ⟨q,Hq⟩ : ∃ q,Hid (leadsP cl p i n = q):=⟨_,Lib.hid rfl⟩
   have HH:=Lib.hid (jhas_any Bm k1 dm n xm wr (hrm.below hb) hwm (by have:=Hn1.out;have:=Hk1.out;omega) (by omega))
   rw [HR.out n (by have:=Hn1.out;omega),Hq.out] at HH
   have HF:=Lib.hid (filter_next (m:=fun i=>leadsP cl p i n) (i:=i))
   rw [Hq.out] at HF
   clear hxm
   cases q with
   | false =>
    go_wp2_with fail
    refine HH.out.mono ?_
    rintro e w5 ⟨rfl,rfl⟩
    go_wp2
    go_roundw
    case rel=>exact ⟨i+1,A,k,c,rfl,by go_num,by omega,by omega,by rw [HF.out];simpa using ho,hb⟩
    case measure=>simp [intOf];omega
   | true =>
    go_wp2_with fail
    refine HH.out.mono ?_
    rintro e w5 ⟨rfl,rfl⟩
    go_wp2_with (at_builtin;go_must (refine wpList_app rfl (.tmp 27) (.tmp 29) _ rfl w3.heap.size 3 i0 _ 1 8 Tryz.underlying40 hi0 hz0 hz1 hz2 rfl (by omega) A k c _ rfl (ho.alloc _) _ 1 1 [encN i] rfl rfl (Rd.newAt (by simp) rfl) (encN_ok' [i]) (by unfold maxLen;omega) (by omega) (by simp;omega) ?_);intro A3 c3 w7 ho3 hg3 hA3)
    have hb7:=below_app (hb.alloc hsz (.cells #[.int .i64 (i : Int)] 3)) hg3 (by simp;omega) (fun a ha=>(ho.lt a ha).1)
    go_roundw
    case rel=>exact ⟨i+1,A3,k+1,c3,rfl,by go_num,by omega,by omega,by rw [HF.out,List.map_append];exact ho3,hb7⟩
    case measure=>simp [intOf];omega
  ·obtain rfl : i = n+1:=by omega
   rw [← HE.out] at ho
   obtain ⟨z,hz⟩ : ∃ z,n+1 = z:=⟨_,rfl⟩
   have ez : ((n : Int)+1) = (z : Int):=by omega
   go_wp2
   go_ret
   exact ⟨A,k,c,rfl,ho.more hbw3.size,below_two hbw3 hb⟩
set_option maxRecDepth 100000 in
set_option maxHeartbeats 1000000 in
theorem oin_any (A : Option Addr) (n c : Nat) (l : List Nat) (x : Nat) (w : World) (hA : Rd w 1 A (l.map encN)) (hl : l.length = n) (hn : n≤4000000) :
  Calls Tryz.prog 203 #[.slice A n c,.int .i64 (x : Nat)] w fun e w'=>e = .returned (.bool (l.contains x))∧w = w':=by
 have Hl:=Lib.hid hl
 clear hl
 go_enter Tryz.func203,Tryz.ntmps203
 go_wp2
 go_loopw [5] (fun v wr=>∃ i : Nat,v = .int .i64 i∧i≤n∧x ∉ l.take i∧wr = w) (fun v _=>n - (intOf v).toNat)
 case atStart=>exact ⟨0,rfl,by omega,by simp,rfl⟩
 case round =>
  obtain ⟨i,rfl,hi,hm,rfl⟩:=hrel
  by_cases hlt : i < n
  ·obtain ⟨y,hy⟩ : ∃ y,l[i]? = some y:=⟨_,List.getElem?_eq_getElem (by have:=Hl.out;omega)⟩
   obtain ⟨b,off,rfl,hc⟩:=hA.atNa hy
   by_cases e : y = x
   ·subst e
    have HV:=Lib.hid (show l.contains y = true from List.contains_iff_mem.2 (List.mem_of_getElem? hy))
    clear hm hy
    go_wp2
    go_ret
    exact ⟨by rw [HV.out];rfl,rfl⟩
   ·have e2 : ((y : Int) == (x : Int)) = false:=beq_eq_false_iff_ne.2 (by omega)
    have HM:=Lib.hid (mem_step hm hy e)
    clear hm hy e
    go_wp2
    go_roundw
    case rel=>exact ⟨i+1,by go_num,by omega,HM.out,by first | rfl | trivial⟩
    case measure=>simp [intOf];omega
  ·obtain rfl : i = n:=by omega
   have HV:=Lib.hid (show l.contains x = false from by
    rw [List.take_of_length_le (by have:=Hl.out;omega)] at hm
    exact Bool.eq_false_iff.2 fun h=>hm (List.contains_iff_mem.1 h))
   go_wp2
   go_ret
   exact ⟨by rw [HV.out];rfl,rfl⟩
end Go.Proofs.YtdngkienloligaaGreatDoor
/- -/
namespace Go.Proofs.YtdngkienloligaaGreatDoor
open Go.RowKit
abbrev Ruv:=Bool × Bool × Bool × Pv × Pv
def valRu (v : Ruv) : Value:=.agg #[.bool v.1,.bool v.2.1,.bool v.2.2.1,.int .i64 (v.2.2.2.1.1 : Int),.slice v.2.2.2.1.2.1.1 v.2.2.2.1.2.1.2.1 v.2.2.2.1.2.1.2.2,.slice v.2.2.2.1.2.2.1 v.2.2.2.1.2.2.2.1 v.2.2.2.1.2.2.2.2,.int .i64 (v.2.2.2.2.1 : Int),.slice v.2.2.2.2.2.1.1 v.2.2.2.2.2.1.2.1 v.2.2.2.2.2.1.2.2,.slice v.2.2.2.2.2.2.1 v.2.2.2.2.2.2.2.1 v.2.2.2.2.2.2.2.2]
def encRul (v : Ruv) : List Value:=[.bool v.1,.bool v.2.1,.bool v.2.2.1]++encPt v.2.2.2.1++encPt v.2.2.2.2
structure RuX (w : World) (X : Nat→Prop) (r : RuleP) (v : Ruv) : Prop where
 cut : v.1 = r.cut
 start : v.2.1 = r.start
 stop : v.2.2.1 = r.stop
 left : PatX w X r.left v.2.2.2.1
 right : PatX w X r.right v.2.2.2.2
theorem RuX.keep {X X' : Nat→Prop} {w w' : World} {r : RuleP} {v : Ruv} (h : RuX w X r v) (k : KeepX X X' w w') : RuX w' X' r v:=⟨h.cut,h.start,h.stop,h.left.keep k,h.right.keep k⟩
theorem RuX.below {X : Nat→Prop} {w w' : World} {r : RuleP} {v : Ruv} (h : RuX w X r v) (hb : Below w.heap.size w w') : RuX w' X r v:=h.keep (KeepX.below hb)
structure RuleOk (r : RuleP) : Prop where
 left : goodP 64 r.left = true
 right : goodP 64 r.right = true
 sl : sizeP r.left≤2048
 sr : sizeP r.right≤2048
theorem Rd.pre' {w : World} {s : Nat} {A : Option Addr} {cs ds : List (List Value)} (h : Rd w s A (cs++ds)) : Rd w s A cs:=fun hn=>by
 obtain ⟨b,off,e,hc⟩:=h (by intro e;rw [List.append_eq_nil_iff] at e;exact hn e.1)
 exact ⟨b,off,e,fun k j x u hk hj=>hc k j x u (by rw [List.getElem?_append_left (List.getElem?_eq_some_iff.1 hk).1];exact hk) hj⟩
theorem Rd.takeN {w : World} {A : Option Addr} {l : List Nat} (h : Rd w 1 A (l.map encN)) (k : Nat) : Rd w 1 A ((l.take k).map encN):=by
 have e : l.map encN = (l.take k).map encN++(l.drop k).map encN:=by rw [← List.map_append,List.take_append_drop]
 rw [e] at h
 exact Rd.pre' h
theorem Rd.dropN {w : World} {b off : Nat} {l : List Nat} (h : Rd w 1 (some ⟨b,off,none⟩) (l.map encN)) (k : Nat) : Rd w 1 (some ⟨b,off+k,none⟩) ((l.drop k).map encN):=fun hn=>by
 obtain ⟨b',off',e,hc⟩:=h (by intro e;rw [List.map_eq_nil_iff] at e;subst e;simp at hn)
 injection e with e
 injection e with e1 e2 _
 subst e1
 subst e2
 refine ⟨b,off+k,rfl,fun i j x u hi hj=>?_⟩
 have:=hc (k+i) j x u (by rw [List.getElem?_map,List.getElem?_drop] at hi;rw [List.getElem?_map];exact hi) hj
 rw [show off+k+i*1+j = off+(k+i)*1+j by omega]
 exact this
theorem own_empty {w : World} {base : Nat} {A : Option Addr} {k c : Nat} {l : List Nat} (h : Own w base 3 1 A k c (l.map encN)) : l.length = k:=by have:=h.len;rwa [List.length_map] at this
theorem empty_iff {l : List Nat} {k : Nat} (h : l.length = k) : ((k : Int) == 0) = l.isEmpty:=by
 cases l with
 | nil=>simp at h;subst h;rfl
 | cons a r=>simp at h;rw [← h];rw [Bool.eq_iff_iff];simp;omega
set_option maxRecDepth 100000 in
set_option maxHeartbeats 4000000 in
theorem oApplies_any (cl : List Nat) (b0 off0 n c0 a : Nat) (hl : cl.length = n) (hn : n≤100000) (hc0 : n≤c0) (h0 : 0 < a) (ha : a < n) (X : Nat→Prop) (r : RuleP) (v : Ruv) (w : World) (hr : RuX w X r v) (hok : RuleOk r) (hC : Rd w 1 (some ⟨b0,off0,none⟩) (cl.map encN)) :
  Calls Tryz.prog 159 #[valRu v,.slice (some ⟨b0,off0,none⟩) n c0,.int .i64 (a : Nat)] w fun e w'=>e = .returned (.bool (appliesB r cl a))∧Below w.heap.size w w':=by
 obtain ⟨v1,v2,v3,vl,vr⟩:=v
 have HR:=Lib.hid hr
 have HGl:=Lib.hid (fun W (h : PatX W X r.left vl)=>jGood_any X r.left vl W h (goodP_mono (by omega) hok.left) hok.sl)
 have HGr:=Lib.hid (fun W (h : PatX W X r.right vr)=>jGood_any X r.right vr W h (goodP_mono (by omega) hok.right) hok.sr)
 have HS:=Lib.hid (fun W c (h : PatX W X r.left vl) (hc : Rd W 1 (some ⟨b0,off0,none⟩) ((cl.take a).map encN))=>jStarts_any (cl.take a) (some ⟨b0,off0,none⟩) a c (by rw [List.length_take];omega) (by omega) X r.left vl W h hok.left hok.sl hc)
 have HE:=Lib.hid (fun W m c (hm : m = n - a) (h : PatX W X r.right vr) (hc : Rd W 1 (some ⟨b0,off0+a,none⟩) ((cl.drop a).map encN))=>jEnds_any (cl.drop a) (some ⟨b0,off0+a,none⟩) m c (by rw [List.length_drop];omega) (by omega) X r.right vr W h hok.right hok.sr hc)
 have HV : Hid (appliesB r cl a = (!(startsB r.left (cl.take a)).isEmpty && !(endsB r.right (cl.drop a)).isEmpty && (!v2 || (startsB r.left (cl.take a)).contains 0) && (!v3 || (endsB r.right (cl.drop a)).contains (n - a)))):=Lib.hid (by
  have h2:=hr.start
  have h3:=hr.stop
  simp only at h2 h3
  unfold appliesB;rw [hl,h2,h3])
 have HSz : Hid ((startsB r.left (cl.take a)).length≤n+1):=Lib.hid (by
  unfold startsB
  refine Nat.le_trans (List.length_filter_le _ _) ?_
  rw [List.length_range,List.length_take];omega)
 have HEz : Hid ((endsB r.right (cl.drop a)).length≤n+1):=Lib.hid (by
  unfold endsB
  refine Nat.le_trans (List.length_filter_le _ _) ?_
  rw [List.length_range,List.length_drop];omega)
 generalize startsB r.left (cl.take a) = SL at HS HV HSz
 generalize endsB r.right (cl.drop a) = EL at HE HV HEz
 clear hr hok
 unfold valRu
 unfold valPt at HGl HGr HS HE
 simp only
 have hac : (a : Int)≤(c0 : Int):=by omega
 have hac' : a≤c0:=by omega
 have haz : (0 : Int)≤(a : Int):=by omega
 have han : a≤n:=by omega
 have hca : ¬ c0 = a:=by omega
 have t1 : decide (n < a) = false:=decide_eq_false (by omega)
 have t2 : decide ((a : Int) < 0) = false:=decide_eq_false (by omega)
 go_enter Tryz.func159,Tryz.ntmps159
 go_wp2_with fail
 have Hz : Below w.heap.size w (w.alloc (.cells #[.bool v1,.bool v2,.bool v3,.int .i64 (vl.1 : Int),.slice vl.2.1.1 vl.2.1.2.1 vl.2.1.2.2,.slice vl.2.2.1 vl.2.2.2.1 vl.2.2.2.2,.int .i64 (vr.1 : Int),.slice vr.2.1.1 vr.2.1.2.1 vr.2.1.2.2,.slice vr.2.2.1 vr.2.2.2.1 vr.2.2.2.2] 173)):=(Below.refl _ _).alloc (Nat.le_refl _) _
 have hb0 : Blk (w.alloc (.cells #[.bool v1,.bool v2,.bool v3,.int .i64 (vl.1 : Int),.slice vl.2.1.1 vl.2.1.2.1 vl.2.1.2.2,.slice vl.2.2.1 vl.2.2.2.1 vl.2.2.2.2,.int .i64 (vr.1 : Int),.slice vr.2.1.1 vr.2.1.2.1 vr.2.1.2.2,.slice vr.2.2.1 vr.2.2.2.1 vr.2.2.2.2] 173)) w.heap.size 173 _:=Blk.new _ _ _
 generalize (w.alloc (.cells #[.bool v1,.bool v2,.bool v3,.int .i64 (vl.1 : Int),.slice vl.2.1.1 vl.2.1.2.1 vl.2.1.2.2,.slice vl.2.2.1 vl.2.2.2.1 vl.2.2.2.2,.int .i64 (vr.1 : Int),.slice vr.2.1.1 vr.2.1.2.1 vr.2.1.2.2,.slice vr.2.2.1 vr.2.2.2.1 vr.2.2.2.2] 173)) = w1 at Hz hb0 ⊢
 have d3:=hb0.cell 3
 have d4:=hb0.cell 4
 have d5:=hb0.cell 5
 have d6:=hb0.cell 6
 have d7:=hb0.cell 7
 have d8:=hb0.cell 8
 have d1:=hb0.cell 1
 have d2:=hb0.cell 2
 simp only [List.getElem?_toArray,List.getElem?_cons_succ,List.getElem?_cons_zero] at d1 d2 d3 d4 d5 d6 d7 d8
 have HD:=Lib.hid (fun W (h : Below w1.heap.size w1 W)=>And.intro (cell_keep d1 h) (And.intro (cell_keep d2 h) (And.intro (cell_keep d3 h) (And.intro (cell_keep d4 h) (And.intro (cell_keep d5 h) (And.intro (cell_keep d6 h) (And.intro (cell_keep d7 h) (cell_keep d8 h))))))))
 have HX:=Lib.hid (fun W (h : Below w1.heap.size w1 W)=>(HR.out.below Hz).below h)
 have HCc:=Lib.hid (fun W (h : Below w1.heap.size w1 W)=>(hC.below Hz).below h)
 clear hb0 HR hC
 refine (HGl.out w1 (HX.out w1 (Below.refl _ _)).left).mono ?_
 rintro e w2 ⟨rfl,hb2⟩
 obtain ⟨d1,d2,d3,d4,d5,d6,d7,d8⟩:=HD.out w2 hb2
 go_wp2_with fail
 refine (HGr.out w2 (HX.out w2 hb2).right).mono ?_
 rintro e w3 ⟨rfl,hb3⟩
 replace hb3:=below_two hb2 hb3
 clear HGl HGr d1 d2 d3 d4 d5 d6 d7 d8
 obtain ⟨d1,d2,d3,d4,d5,d6,d7,d8⟩:=HD.out w3 hb3
 have hb3d:=hb3.drew
 have Hbz:=Lib.hid (below_two Hz hb3)
 go_upto_region 3 with fail
 go_cut [7] from 29 to 34 (fun v wx=>∃ (A : Option Addr) (k c : Nat),v = .slice A k c∧SL.length = k∧Rd wx 1 A (SL.map encN)∧Below w1.heap.size w1 wx)
 case first =>
  refine wp_region_noPanic ?_
  go_region_law (go_simp;go_at_call 201;refine (HS.out w3.drew _ (HX.out w3.drew hb3d).left ((HCc.out w3.drew hb3d).takeN a)).mono ?_;rintro e w4 ⟨A4,k4,c4,rfl,ho4,hb4⟩)
  all_goals
   refine NoPanic.normal ?_
   have hb4':=below_step hb3d hb4 hb3d.size
   have hk4:=own_empty ho4
   go_wp2_with fail
   go_meet
   exact ⟨A4,k4,c4,rfl,hk4,ho4.rd (by omega),hb4'⟩
 case rest =>
  clear d1 d2 d3 d4 d5 d6 d7 d8 hb3d HS
  obtain ⟨A4,k4,c4,rfl,hk4,hr4,hb4⟩:=hcut
  obtain ⟨d1,d2,d3,d4,d5,d6,d7,d8⟩:=HD.out wc hb4
  have hb4d:=hb4.drew
  have hnac : (n : Int) - (a : Int) = ((n - a : Nat) : Int):=by omega
  go_upto_region 4 with fail
  go_cut [8] from 35 to 40 (fun v wx=>∃ (A : Option Addr) (k c : Nat),v = .slice A k c∧EL.length = k∧Rd wx 1 A (EL.map encN)∧Rd wx 1 A4 (SL.map encN)∧Below w1.heap.size w1 wx)
  case first =>
   refine wp_region_noPanic ?_
   go_region_law (go_simp;go_at_call 202;refine (HE.out wc.drew _ _ rfl (HX.out wc.drew hb4d).right ((HCc.out wc.drew hb4d).dropN a)).mono ?_;rintro e w5 ⟨A5,k5,c5,rfl,ho5,hb5⟩)
   all_goals
    refine NoPanic.normal ?_
    have hb5':=below_step hb4d hb5 hb4d.size
    have hk5:=own_empty ho5
    have hr4':=(hr4.drew).below hb5
    go_wp2_with fail
    go_meet
    exact ⟨A5,k5,c5,rfl,hk5,ho5.rd (by omega),hr4',hb5'⟩
  case rest =>
   clear d1 d2 d3 d4 d5 d6 d7 d8 hb4d HE hr4 hb4
   obtain ⟨A5,k5,c5,rfl,hk5,hr5,hr4,hb5⟩:=hcut
   obtain ⟨d1,d2,d3,d4,d5,d6,d7,d8⟩:=HD.out wc hb5
   have hbw:=below_two Hz hb5
   have hk4z : k4≤4000000:=by have:=HSz.out;omega
   have hk5z : k5≤4000000:=by have:=HEz.out;omega
   have u1:=empty_iff hk4
   have u2:=empty_iff hk5
   have HI1:=Lib.hid (oin_any A4 k4 c4 SL 0 wc hr4 hk4 hk4z)
   have HI2:=Lib.hid (oin_any A5 k5 c5 EL (n - a) wc hr5 hk5 hk5z)
   generalize SL.isEmpty = s1 at u1 HV
   generalize EL.isEmpty = s2 at u2 HV
   generalize SL.contains 0 = s3 at HI1 HV
   generalize EL.contains (n - a) = s4 at HI2 HV
   rw [← hnac] at HI2
   clear hr4 hr5 hk4 hk5 hk4z hk5z HSz HEz d3 d4 d5 d6 d7 d8 HD HX HCc hb5 hnac
   cases s1 with
   | true =>
    go_wp2
    go_ret
    exact ⟨by rw [HV.out];rfl,hbw⟩
   | false =>
    cases s2 with
    | true =>
     go_wp2
     go_ret
     exact ⟨by rw [HV.out];rfl,hbw⟩
    | false =>
     cases v2 with
     | true =>
      cases s3 with
      | false =>
       go_wp2_with fail
       refine HI1.out.mono ?_
       rintro e w7 ⟨rfl,rfl⟩
       go_wp2
       go_ret
       exact ⟨by rw [HV.out];rfl,hbw⟩
      | true =>
       cases v3 with
       | false =>
        go_wp2_with fail
        refine HI1.out.mono ?_
        rintro e w7 ⟨rfl,rfl⟩
        go_wp2
        go_ret
        exact ⟨by rw [HV.out];rfl,hbw⟩
       | true =>
        go_wp2_with fail
        refine HI1.out.mono ?_
        rintro e w7 ⟨rfl,rfl⟩
        go_wp2_with fail
        refine HI2.out.mono ?_
        rintro e w7 ⟨rfl,rfl⟩
        go_wp2
        go_ret
        exact ⟨by rw [HV.out];cases s4 <;> rfl,hbw⟩
     | false =>
      cases v3 with
      | false =>
       go_wp2
       go_ret
       exact ⟨by rw [HV.out];cases s3 <;> rfl,hbw⟩
      | true =>
       go_wp2_with fail
       refine HI2.out.mono ?_
       rintro e w7 ⟨rfl,rfl⟩
       go_wp2
       go_ret
       exact ⟨by rw [HV.out];cases s3 <;> cases s4 <;> rfl,hbw⟩
end Go.Proofs.YtdngkienloligaaGreatDoor
/- -/
namespace Go.Proofs.YtdngkienloligaaGreatDoor
open Go.RowKit
set_option maxRecDepth 100000 in
set_option maxHeartbeats 1000000 in
theorem zamong_any (A : Option Addr) (n c : Nat) (l : List Nat) (x : Nat) (w : World) (hA : Rd w 1 A (l.map encN)) (hl : l.length = n) (hn : n≤4000000) :
  Calls Tryz.prog 199 #[.slice A n c,.int .i64 (x : Nat)] w fun e w'=>e = .returned (.bool (l.contains x))∧w = w':=by
 have Hl:=Lib.hid hl
 clear hl
 go_enter Tryz.func199,Tryz.ntmps199
 go_wp2
 go_loopw [5] (fun v wr=>∃ i : Nat,v = .int .i64 i∧i≤n∧x ∉ l.take i∧wr = w) (fun v _=>n - (intOf v).toNat)
 case atStart=>exact ⟨0,rfl,by omega,by simp,rfl⟩
 case round =>
  obtain ⟨i,rfl,hi,hm,rfl⟩:=hrel
  by_cases hlt : i < n
  ·obtain ⟨y,hy⟩ : ∃ y,l[i]? = some y:=⟨_,List.getElem?_eq_getElem (by have:=Hl.out;omega)⟩
   obtain ⟨b,off,rfl,hc⟩:=hA.atNa hy
   by_cases e : y = x
   ·subst e
    have HV:=Lib.hid (show l.contains y = true from List.contains_iff_mem.2 (List.mem_of_getElem? hy))
    clear hm hy
    go_wp2
    go_ret
    exact ⟨by rw [HV.out];rfl,rfl⟩
   ·have e2 : ((y : Int) == (x : Int)) = false:=beq_eq_false_iff_ne.2 (by omega)
    have HM:=Lib.hid (mem_step hm hy e)
    clear hm hy e
    go_wp2
    go_roundw
    case rel=>exact ⟨i+1,by go_num,by omega,HM.out,by first | rfl | trivial⟩
    case measure=>simp [intOf];omega
  ·obtain rfl : i = n:=by omega
   have HV:=Lib.hid (show l.contains x = false from by
    rw [List.take_of_length_le (by have:=Hl.out;omega)] at hm
    exact Bool.eq_false_iff.2 fun h=>hm (List.contains_iff_mem.1 h))
   go_wp2
   go_ret
   exact ⟨by rw [HV.out];rfl,rfl⟩
set_option maxRecDepth 100000 in
set_option maxHeartbeats 4000000 in
theorem jEmpty_any (X : Nat→Prop) (p : Pat) (v : Pv) (w : World) (hp : PatX w X p v) (hg : goodP 64 p = true) (hs : sizeP p≤2048) :
  Calls Tryz.prog 198 #[valPt v] w fun e w'=>e = .returned (.bool (emptyB p))∧Below w.heap.size w w':=by
 have HM : Hid (∀ W,PatX W X p v→Calls Tryz.prog 239 #[valPt v,.slice none 0 0] W fun e w'=>e = .returned (.bool (emptyB p))∧Below W.heap.size W w'):=Lib.hid fun W hp=>by
  have HE:=Lib.hid (fun W (h : PatX W X p v)=>jEnds_any [] none 0 0 rfl (by omega) X p v W h hg hs (Rd.nil_ _ _ _))
  have HZ : Hid ((endsB p []).length≤1):=Lib.hid (by
   unfold endsB
   refine Nat.le_trans (List.length_filter_le _ _) ?_
   rw [List.length_range];exact Nat.le_refl _)
  have HV : Hid (emptyB p = (endsB p []).contains 0):=Lib.hid rfl
  have HP:=Lib.hid hp
  generalize endsB p [] = EL at HE HZ HV
  clear hp hg
  unfold valPt at HE ⊢
  have Hz : Below W.heap.size W (W.alloc (.cells #[.int .i64 (v.1 : Int),.slice v.2.1.1 v.2.1.2.1 v.2.1.2.2,.slice v.2.2.1 v.2.2.2.1 v.2.2.2.2] 171)):=(Below.refl _ _).alloc (Nat.le_refl _) _
  go_enter Tryz.func239,Tryz.ntmps239
  go_wp2_with fail
  refine (HE.out _ (HP.out.below Hz)).mono ?_
  rintro e w2 ⟨A,k,c,rfl,ho,hb2⟩
  have hk:=own_empty ho
  have HI:=Lib.hid (jin_any A k c EL 0 w2 (ho.rd (by omega)) hk (by have:=HZ.out;omega))
  generalize EL.contains 0 = q at HI HV
  clear ho HE
  go_wp2_with fail
  refine HI.out.mono ?_
  rintro e w3 ⟨rfl,rfl⟩
  go_wp2
  go_ret
  exact ⟨by rw [HV.out];rfl,below_two Hz hb2⟩
 have HP:=Lib.hid hp
 clear hp hg
 unfold valPt at HM ⊢
 have Hz : Below w.heap.size w (w.alloc (.cells #[.int .i64 (v.1 : Int),.slice v.2.1.1 v.2.1.2.1 v.2.1.2.2,.slice v.2.2.1 v.2.2.2.1 v.2.2.2.2] 171)):=(Below.refl _ _).alloc (Nat.le_refl _) _
 go_enter Tryz.func198,Tryz.ntmps198
 go_wp2_with fail
 refine (HM.out _ (HP.out.below Hz)).mono ?_
 rintro e w2 ⟨rfl,hb2⟩
 go_wp2
 go_ret
 exact ⟨rfl,below_two Hz hb2⟩
theorem someT_all : ∀ ks : List Pat,someT ks = ks.all someB
 | []=>by unfold someT;rfl
 | p :: r=>by unfold someT;rw [List.all_cons,someT_all r]
theorem someO_any : ∀ ks : List Pat,someO ks = ks.any someB
 | []=>by unfold someO;rfl
 | p :: r=>by unfold someO;rw [List.any_cons,someO_any r]
def KidSome (p : Pat) : Prop:=∀ (X : Nat→Prop) (v : Pv) (w : World),PatX w X p v→goodP 64 p = true→Calls Tryz.prog 271 #[valPt v] w fun e w'=>e = .returned (.bool (someB p))∧Below w.heap.size w w'
set_option maxRecDepth 100000 in
set_option maxHeartbeats 4000000 in
theorem jrest_any (X : Nat→Prop) (ks : List Pat) (vs : List Pv) (A : Option Addr) (n c : Nat) (w : World) (hA : SlX w X 3 (A,n,c) (vs.map encPt)) (hK : PatsX w X ks vs) (HK : ∀ p ∈ ks,KidSome p) (hg : goodL 64 ks = true) (hz : ks.length≤2048) :
  Calls Tryz.prog 272 #[.slice A n c] w fun e w'=>e = .returned (.bool (someT ks))∧Below w.heap.size w w':=by
 have hl:=hA.len
 rw [List.length_map,hK.len] at hl
 simp only at hl
 have Hl:=Lib.hid hl
 have HA:=Lib.hid hA
 have HKs:=Lib.hid hK
 have HKid:=Lib.hid HK
 have Hg:=Lib.hid hg
 have hn : n≤2048:=by omega
 clear hl hA hK HK hg
 go_enter Tryz.func272,Tryz.ntmps272
 go_wp2
 go_loopw [3] (fun v wr=>∃ i : Nat,v = .int .i64 i∧i≤n∧Hid (∀ j q,j < i→ks[j]? = some q→someB q = true)∧Below w.heap.size w wr) (fun v _=>n - (intOf v).toNat)
 case atStart=>exact ⟨0,rfl,by omega,Lib.hid (fun j q h=>absurd h (Nat.not_lt_zero _)),Below.refl _ _⟩
 case round =>
  obtain ⟨i,rfl,hi,HI,hb⟩:=hrel
  by_cases hlt : i < n
  ·obtain ⟨q,hq⟩ : ∃ q,ks[i]? = some q:=⟨_,List.getElem?_eq_getElem (by have:=Hl.out;omega)⟩
   obtain ⟨u,hu,hp⟩:=HKs.out.at_ hq
   obtain ⟨b,off,e,k0,k1,k2⟩:=HA.out.atPt hu
   simp only at e
   subst e
   have HC:=Lib.hid (HKid.out q (List.mem_of_getElem? hq) X u wr (hp.below hb) (goodL_at Hg.out hq))
   replace k0:=cell_keep k0 hb
   replace k1:=cell_keep k1 hb
   replace k2:=cell_keep k2 hb
   unfold valPt at HC
   obtain ⟨sq,Hq⟩ : ∃ sq,Hid (someB q = sq):=⟨_,Lib.hid rfl⟩
   rw [Hq.out] at HC
   have Hqi:=Lib.hid hq
   clear hq hp hu
   go_wp2_with fail
   refine HC.out.mono ?_
   rintro e w3 ⟨rfl,hb3⟩
   cases sq with
   | false =>
    have HV:=Lib.hid (show someT ks = false from by
     rw [someT_all,Bool.eq_false_iff]
     intro h
     have:=List.all_eq_true.1 h q (List.mem_of_getElem? Hqi.out)
     rw [Hq.out] at this;cases this)
    go_wp2
    go_ret
    exact ⟨by rw [HV.out];rfl,below_two hb hb3⟩
   | true =>
    go_wp2
    go_roundw
    case rel=>exact ⟨i+1,by go_num,by omega,Lib.hid (fun j q' hj hq'=>by
     rcases Nat.lt_or_ge j i with h | h
     ·exact HI.out j q' h hq'
     ·obtain rfl : j = i:=by omega
      rw [Hqi.out] at hq'
      injection hq' with hq'
      rw [← hq'];exact Hq.out),below_two hb hb3⟩
    case measure=>simp [intOf];omega
  ·obtain rfl : i = n:=by omega
   have HV:=Lib.hid (show someT ks = true from by
    rw [someT_all,List.all_eq_true]
    intro q hq
    obtain ⟨j,hj,e⟩:=List.getElem_of_mem hq
    exact HI.out j q (by have:=Hl.out;omega) (by rw [List.getElem?_eq_getElem hj,e]))
   go_wp2
   go_ret
   exact ⟨by rw [HV.out];rfl,hb⟩
set_option maxRecDepth 100000 in
set_option maxHeartbeats 8000000 in
theorem jsome_all : ∀ (z : Nat) (p : Pat),sizeP p≤z→sizeP p≤2048→KidSome p:=by
 intro z
 induction z with
 | zero=>intro p hz;have:=sizeP_pos p;omega
 | succ z ih =>
  intro p hz hs X v w hp hg
  obtain ⟨op,cs,ks⟩:=p
  obtain ⟨o,⟨A,n,c⟩,⟨B,m,d⟩⟩:=v
  simp only [PatX] at hp
  obtain ⟨rfl,hA,vs,hB,hK⟩:=hp
  unfold goodP at hg
  rw [Bool.and_eq_true] at hg
  obtain ⟨h1,h2,h3,h4,h5⟩:=node_parts hg.1
  have hzl : sizeL ks≤z:=by unfold sizeP at hz;omega
  have hsl : sizeL ks≤2047:=by unfold sizeP at hs;omega
  have hk : ∀ p ∈ ks,KidSome p:=fun p hp=>by
   obtain ⟨i,hi,e⟩:=List.getElem_of_mem hp
   have h6:=sizeL_at (ks:=ks) (i:=i) (p:=p) (by rw [List.getElem?_eq_getElem hi,e])
   exact ih p (by omega) (by omega)
  have hkl:=sizeL_len ks
  have hn : cs.length = n:=by have:=hA.len;rwa [List.length_map] at this
  have hm : vs.length = m:=by have:=hB.len;rwa [List.length_map] at this
  have hk2:=hK.len
  rw [hm] at hk2
  have hgl:=hg.2
  unfold valPt
  simp only
  have Hz : Below w.heap.size w (w.alloc (.cells #[.int .i64 (o : Int),.slice A n c,.slice B m d] 171)):=(Below.refl _ _).alloc (Nat.le_refl _) _
  have hb0 : Blk (w.alloc (.cells #[.int .i64 (o : Int),.slice A n c,.slice B m d] 171)) w.heap.size 171 _:=Blk.new _ _ _
  have HB:=Lib.hid hB
  have HK:=Lib.hid hK
  have HKid:=Lib.hid hk
  have Hgl:=Lib.hid hgl
  have Hk2:=Lib.hid hk2
  have hkz : ks.length≤2048:=by omega
  have hmz : m≤2048:=by omega
  clear hA hB hK hk hgl hk2 hg hm ih hkl hzl hsl hz hs
  rcases (by omega : o = 0∨o = 1∨o = 2∨o = 3∨o = 4∨o = 5∨o = 6) with rfl | rfl | rfl | rfl | rfl | rfl | rfl
  ·have e : someB (.node 0 cs ks) = true:=by unfold someB;rfl
   rw [e]
   clear h1 h2 h3 h4 h5 hn
   go_enter Tryz.func271,Tryz.ntmps271
   go_wp2
   go_ret
   exact ⟨rfl,Hz⟩
  ·have e : someB (.node 1 cs ks) = !cs.isEmpty:=by unfold someB;rfl
   rw [e]
   have HE:=Lib.hid (empty_iff hn)
   clear h1 h2 h3 h4 h5
   cases cs with
   | nil =>
    simp only [List.length_nil] at hn
    subst hn
    go_enter Tryz.func271,Tryz.ntmps271
    go_wp2
    go_ret
    exact ⟨rfl,Hz⟩
   | cons x r =>
    have h0 : decide ((0 : Int) < (n : Int)) = true:=decide_eq_true (by simp at hn;omega)
    have h0' : 0 < n:=by simp at hn;omega
    clear hn
    go_enter Tryz.func271,Tryz.ntmps271
    go_wp2
    go_ret
    exact ⟨rfl,Hz⟩
  ·have e : someB (.node 2 cs ks) = someT ks:=by unfold someB;rfl
   rw [e]
   clear h1 h2 h3 h4 h5 hn
   have HC:=Lib.hid (jrest_any X ks vs B m d _ (HB.out.keep (KeepX.below Hz)) (HK.out.below Hz) HKid.out Hgl.out hkz)
   go_enter Tryz.func271,Tryz.ntmps271
   go_wp2_with fail
   refine HC.out.mono ?_
   rintro e w3 ⟨rfl,hb3⟩
   go_wp2
   go_ret
   exact ⟨rfl,below_two Hz hb3⟩
  ·have e : someB (.node 3 cs ks) = someO ks:=by unfold someB;rfl
   rw [e]
   clear h1 h2 h3 h4 h5 hn
   have e3 : ((3 : Nat) : Int) = 3:=rfl
   rw [e3] at Hz hb0 ⊢
   go_enter Tryz.func271,Tryz.ntmps271
   go_wp2_with fail
   generalize (w.alloc (.cells #[.int .i64 3,.slice A n c,.slice B m d] 171)) = w1 at Hz hb0 ⊢
   have k20:=hb0.cell 2
   simp only [List.getElem?_toArray,List.getElem?_cons_succ,List.getElem?_cons_zero] at k20
   clear hb0
   go_loopw [3] (fun v wr=>∃ i : Nat,v = .int .i64 i∧i≤m∧Hid (∀ j q,j < i→ks[j]? = some q→someB q = false)∧Below w1.heap.size w1 wr) (fun v _=>m - (intOf v).toNat)
   case atStart=>exact ⟨0,rfl,by omega,Lib.hid (fun j q h=>absurd h (Nat.not_lt_zero _)),Below.refl _ _⟩
   case round =>
    obtain ⟨i,rfl,hi,HI,hb⟩:=hrel
    have hbw:=below_two Hz hb
    have kk2:=cell_keep k20 hb
    by_cases hlt : i < m
    ·obtain ⟨q,hq⟩ : ∃ q,ks[i]? = some q:=⟨_,List.getElem?_eq_getElem (by have:=Hk2.out;omega)⟩
     obtain ⟨u,hu,hp⟩:=HK.out.at_ hq
     obtain ⟨b,off,e,k0,k1,k2⟩:=HB.out.atPt hu
     simp only at e
     subst e
     have HC:=Lib.hid (HKid.out q (List.mem_of_getElem? hq) X u wr (hp.below hbw) (goodL_at Hgl.out hq))
     replace k0:=cell_keep k0 hbw
     replace k1:=cell_keep k1 hbw
     replace k2:=cell_keep k2 hbw
     unfold valPt at HC
     obtain ⟨sq,Hq⟩ : ∃ sq,Hid (someB q = sq):=⟨_,Lib.hid rfl⟩
     rw [Hq.out] at HC
     have Hqi:=Lib.hid hq
     clear hq hp hu
     go_wp2_with fail
     refine HC.out.mono ?_
     rintro e w3 ⟨rfl,hb3⟩
     cases sq with
     | true =>
      have HV:=Lib.hid (show someO ks = true from by
       rw [someO_any,List.any_eq_true]
       exact ⟨q,List.mem_of_getElem? Hqi.out,Hq.out⟩)
      go_wp2
      go_ret
      exact ⟨by rw [HV.out];rfl,below_two hbw hb3⟩
     | false =>
      go_wp2
      go_roundw
      case rel=>exact ⟨i+1,by go_num,by omega,Lib.hid (fun j q' hj hq'=>by
       rcases Nat.lt_or_ge j i with h | h
       ·exact HI.out j q' h hq'
       ·obtain rfl : j = i:=by omega
        rw [Hqi.out] at hq'
        injection hq' with hq'
        rw [← hq'];exact Hq.out),below_two hb hb3⟩
      case measure=>simp [intOf];omega
    ·obtain rfl : i = m:=by omega
     have HV:=Lib.hid (show someO ks = false from by
      rw [someO_any,List.any_eq_false]
      intro q hq
      obtain ⟨j,hj,e⟩:=List.getElem_of_mem hq
      rw [HI.out j q (by have:=Hk2.out;omega) (by rw [List.getElem?_eq_getElem hj,e])]
      exact Bool.false_ne_true)
     go_wp2
     go_ret
     exact ⟨by rw [HV.out];rfl,hbw⟩
  ·have e : someB (.node 4 cs ks) = true:=by unfold someB;rfl
   rw [e]
   clear h1 h2 h3 h4 h5 hn
   go_enter Tryz.func271,Tryz.ntmps271
   go_wp2
   go_ret
   exact ⟨rfl,Hz⟩
  ·obtain ⟨q,rfl⟩:=form_one h3 (by omega)
   have e : someB (.node 5 cs [q]) = someB q:=by (conv=>lhs;unfold someB);simp [someH]
   rw [e]
   have hm1 : m = 1:=by have:=Hk2.out;simpa using this
   subst hm1
   have e5 : ((5 : Nat) : Int) = 5:=rfl
   rw [e5] at Hz hb0 ⊢
   obtain ⟨u,hu,hp⟩:=HK.out.at_ (k:=0) (p:=q) rfl
   obtain ⟨b,off,e,k0,k1,k2⟩:=HB.out.atPt hu
   simp only at e
   subst e
   have HC:=Lib.hid (HKid.out q (by simp) X u _ (hp.below Hz) (goodL_at Hgl.out (i:=0) rfl))
   replace k0:=cell_keep k0 Hz
   replace k1:=cell_keep k1 Hz
   replace k2:=cell_keep k2 Hz
   simp only [Nat.zero_mul,Nat.add_zero] at k0 k1 k2
   unfold valPt at HC
   clear h1 h2 h3 h4 h5 hn hu hp
   go_enter Tryz.func271,Tryz.ntmps271
   go_wp2_with fail
   refine HC.out.mono ?_
   rintro e w3 ⟨rfl,hb3⟩
   go_wp2
   go_ret
   exact ⟨rfl,below_two Hz hb3⟩
  ·have e : someB (.node 6 cs ks) = true:=by unfold someB;rfl
   rw [e]
   clear h1 h2 h3 h4 h5 hn
   go_enter Tryz.func271,Tryz.ntmps271
   go_wp2
   go_ret
   exact ⟨rfl,Hz⟩
end Go.Proofs.YtdngkienloligaaGreatDoor
/- -/
namespace Go.Proofs.YtdngkienloligaaGreatDoor
open Go.RowKit
theorem SlX.dropPt {w : World} {X : Nat → Prop} {b off n c : Nat} {vs : List Pv} (h : SlX w X 3 (some ⟨b, off, none⟩, n, c) (vs.map encPt)) (k : Nat) (hk : k ≤ n) : SlX w X 3 (some ⟨b, off + k * 3, none⟩, n - k, c - k) ((vs.drop k).map encPt) :=
  ⟨fun hn => by
    obtain ⟨b', off', e, hc⟩ := h.rd (by intro e; rw [List.map_eq_nil_iff] at e; subst e; simp at hn)
    injection e with e
    injection e with e1 e2 _
    subst e1
    subst e2
    refine ⟨b, off + k * 3, rfl, fun i j x u hi hj => ?_⟩
    have := hc (k + i) j x u (by rw [List.getElem?_map, List.getElem?_drop] at hi; rw [List.getElem?_map]; exact hi) hj
    rw [show off + k * 3 + i * 3 + j = off + (k + i) * 3 + j by omega]
    exact this,
   by have := h.len; rw [List.length_map] at this; rw [List.length_map, List.length_drop]; simp only at this ⊢; omega,
   fun a ha => by injection ha with ha; subst ha; exact h.inn ⟨b, off, none⟩ rfl,
   by have := h.cap; simp only at this ⊢; omega⟩
theorem SlX.none_left {w : World} {X : Nat→Prop} {b off n c : Nat} {cs : List (List Value)} (h : SlX w X 3 (some ⟨b,off,none⟩,n,c) cs) : SlX w X 3 (some ⟨b,off,none⟩,0,0) [] :=
 ⟨Rd.nil_ _ _ _,rfl,fun a ha=>by injection ha with ha;subst ha;exact h.inn _ rfl,Nat.le_refl _⟩
mutual
theorem firsts_len : ∀ p : Pat,goodP 64 p = true→(firstsB p).length≤64*sizeP p
 | .node op cs ks,h=>by
  unfold goodP at h
  rw [Bool.and_eq_true] at h
  obtain ⟨_,_,_,h4,h5⟩:=node_parts h.1
  have hcz : cs.length≤64:=rises_len h5 h4
  have hk:=firstsL_len (decide (op = 2)) ks h.2
  unfold firstsB sizeP
  split
  ·simp
  split
  ·omega
  ·omega
theorem firstsL_len (t : Bool) : ∀ ks : List Pat,goodL 64 ks = true→(firstsL t ks).length≤64*sizeL ks
 | [],_=>by unfold firstsL;simp
 | p :: r,h=>by
  unfold goodL at h
  rw [Bool.and_eq_true] at h
  have h1:=firsts_len p h.1
  have h2:=firstsL_len t r h.2
  unfold firstsL sizeL
  rw [List.length_append]
  split <;> split <;> simp <;> omega
end
def FirstsEnd (w : World) (l : List Nat) (e : Ending) (w' : World) : Prop:=∃ (A : Option Addr) (n c : Nat),e = .returned (.slice A n c)∧Rd w' 1 A (l.map encN)∧l.length = n∧Below w.heap.size w w'
def KidFirsts (p : Pat) : Prop:=∀ (X : Nat→Prop) (v : Pv) (w : World),PatX w X p v→goodP 64 p = true→Calls Tryz.prog 237 #[valPt v] w (FirstsEnd w (firstsB p))
def stepF (t : Bool) (p : Pat) (r : List Pat) : List Nat:=if someB p && (!t || someT r) then firstsB p else []
theorem firstsL_step (t : Bool) (p : Pat) (r : List Pat) : firstsL t (p :: r) = stepF t p r++(if t && !emptyB p then [] else firstsL t r):=by
 conv=>lhs;unfold firstsL
 rfl
theorem firstsL_nil (t : Bool) : firstsL t [] = []:=by unfold firstsL;rfl
theorem drop_hd {α : Type} {l : List α} {i : Nat} {x : α} (h : l[i]? = some x) : l.drop i = x :: l.drop (i+1):=by
 obtain ⟨h1,h2⟩:=List.getElem?_eq_some_iff.1 h
 rw [List.drop_eq_getElem_cons h1,h2]
theorem goodL_drop {N : Nat} : ∀ {ks : List Pat} (k : Nat),goodL N ks = true→goodL N (ks.drop k) = true
 | [],k,h=>by simpa using h
 | p :: r,0,h=>h
 | p :: r,k+1,h=>by
  unfold goodL at h
  rw [Bool.and_eq_true] at h
  rw [List.drop_succ_cons]
  exact goodL_drop k h.2
theorem PatsX.drop {w : World} {X : Nat→Prop} : ∀ {ks : List Pat} {vs : List Pv} (k : Nat),PatsX w X ks vs→PatsX w X (ks.drop k) (vs.drop k)
 | [],vs,k,h=>by simp only [PatsX] at h;subst h;simp [PatsX]
 | p :: r,vs,0,h=>h
 | p :: r,vs,k+1,h=>by
  simp only [PatsX] at h
  obtain ⟨v,s,rfl,_,h3⟩:=h
  rw [List.drop_succ_cons,List.drop_succ_cons]
  exact PatsX.drop k h3
set_option maxRecDepth 100000 in
set_option maxHeartbeats 8000000 in
theorem jfirsts_then (X : Nat→Prop) (cs : List Nat) (ks : List Pat) (v : Pv) (w : World) (hp : PatX w X (.node 2 cs ks) v) (hg : goodL 64 ks = true) (hz : sizeL ks≤2048) (HK : ∀ p ∈ ks,KidFirsts p) (HS : ∀ p ∈ ks,KidSome p) :
  Calls Tryz.prog 237 #[valPt v] w (FirstsEnd w (firstsL true ks)):=by
 obtain ⟨i0,hi0,hz0,hz1,hz2⟩:=info_parts infoInt
 obtain ⟨o,⟨A,nc,c⟩,⟨B,m,d⟩⟩:=v
 simp only [PatX] at hp
 obtain ⟨rfl,hA,vs,hB,hKs⟩:=hp
 have hm : vs.length = m:=by have:=hB.len;rwa [List.length_map] at this
 have hk2:=hKs.len
 rw [hm] at hk2
 have hkl:=sizeL_len ks
 have hmz : m≤2048:=by omega
 have hmd : m≤d:=hB.cap
 have HTot:=Lib.hid (show (firstsL true ks).length≤131072 by have:=firstsL_len true ks hg;omega)
 have HF:=Lib.hid HK
 have HSo:=Lib.hid HS
 have Hg:=Lib.hid hg
 have HB:=Lib.hid hB
 have HKs:=Lib.hid hKs
 have Hk2:=Lib.hid hk2
 have Hkz:=Lib.hid (show ks.length≤2048 by omega)
 have Hsz:=Lib.hid (fun (i : Nat) (p : Pat) (h : ks[i]? = some p)=>show sizeP p≤2048 by have:=sizeL_at h;omega)
 unfold valPt
 show Calls Tryz.prog 237 #[.agg #[.int .i64 2,.slice A nc c,.slice B m d]] w _
 have hb0 : Blk (w.alloc (.cells #[.int .i64 2,.slice A nc c,.slice B m d] 171)) w.heap.size 171 _:=Blk.new _ _ _
 have Hz : Below w.heap.size w (w.alloc (.cells #[.int .i64 2,.slice A nc c,.slice B m d] 171)):=(Below.refl _ _).alloc (Nat.le_refl _) _
 clear hA hB hKs hk2 hkl hg hz HK HS hm
 unfold FirstsEnd
 go_enter Tryz.func237,Tryz.ntmps237
 go_wp2_with fail
 generalize (w.alloc (.cells #[.int .i64 2,.slice A nc c,.slice B m d] 171)) = w1 at Hz hb0 ⊢
 have k00:=hb0.cell 0
 have k20:=hb0.cell 2
 simp only [List.getElem?_toArray,List.getElem?_cons_succ,List.getElem?_cons_zero] at k00 k20
 clear hb0
 go_loopw [3,4] (fun u z wr=>∃ (i : Nat) (A3 : Option Addr) (k3 c3 : Nat) (L : List Nat),u = .slice A3 k3 c3∧z = .int .i64 i∧i≤m∧L.length = k3∧Hid (firstsL true ks = L++firstsL true (ks.drop i))∧Own wr w1.heap.size 3 1 A3 k3 c3 (L.map encN)∧Below w1.heap.size w1 wr) (fun _ z _=>m - (intOf z).toNat)
 case atStart=>exact ⟨0,none,0,0,[],rfl,rfl,by omega,rfl,Lib.hid (by simp),Own.nil_ _ _ _ _,Below.refl _ _⟩
 case round =>
  obtain ⟨i,A3,k3,c3,L,rfl,rfl,hi,hL,HL,ho,hb⟩:=hrel
  have hbw:=below_two Hz hb
  have k0:=cell_keep k00 hb
  have k2:=cell_keep k20 hb
  have hsz:=hb.size
  have hL3 : k3≤131072:=by
   have:=HTot.out
   rw [HL.out,List.length_append] at this
   omega
  by_cases hlt : i < m
  ·obtain ⟨q,hq⟩ : ∃ q,ks[i]? = some q:=⟨_,List.getElem?_eq_getElem (by have:=Hk2.out;omega)⟩
   obtain ⟨u,hu,hp⟩:=HKs.out.at_ hq
   obtain ⟨b,off,e,x0,x1,x2⟩:=HB.out.atPt hu
   simp only at e
   subst e
   have hqm:=List.mem_of_getElem? hq
   have hgq:=goodL_at Hg.out hq
   have hqz:=Hsz.out i q hq
   have HC1:=Lib.hid (fun W (h : Below w.heap.size w W)=>HSo.out q hqm X u W (hp.below h) hgq)
   have HC3:=Lib.hid (fun W (h : Below w.heap.size w W)=>HF.out q hqm X u W (hp.below h) hgq)
   have HC4:=Lib.hid (fun W (h : Below w.heap.size w W)=>jEmpty_any X q u W (hp.below h) hgq hqz)
   have HX:=Lib.hid (fun W (h : Below w.heap.size w W)=>And.intro (cell_keep x0 h) (And.intro (cell_keep x1 h) (cell_keep x2 h)))
   obtain ⟨i1,Hi1⟩ : ∃ i1,Hid (i+1 = i1):=⟨_,Lib.hid rfl⟩
   have e1 : (i : Int)+1 = (i1 : Int):=by have:=Hi1.out;omega
   have hi1m : i1≤m:=by have:=Hi1.out;omega
   have HC2:=Lib.hid (fun W (h : Below w.heap.size w W)=>jrest_any X (ks.drop i1) (vs.drop i1) (some ⟨b,off+i1*3,none⟩) (m - i1) (d - i1) W ((HB.out.keep (KeepX.below h)).dropPt i1 hi1m) ((HKs.out.below h).drop i1) (fun p hp=>HSo.out p (List.mem_of_mem_drop hp)) (goodL_drop i1 Hg.out) (by rw [List.length_drop];have:=Hkz.out;omega))
   have HC5:=Lib.hid (fun W (h : Below w.heap.size w W)=>jrest_any X [] [] (some ⟨b,off,none⟩) 0 0 W (HB.out.keep (KeepX.below h)).none_left (by simp only [PatsX]) (fun p hp=>by cases hp) (by unfold goodL;rfl) (by simp))
   have HD : Hid (firstsL true ks = L++stepF true q (ks.drop i1)++(if emptyB q then firstsL true (ks.drop i1) else [])):=Lib.hid (by
    rw [HL.out,drop_hd hq,firstsL_step,List.append_assoc,Hi1.out]
    cases emptyB q <;> rfl)
   have HSt : Hid (stepF true q (ks.drop i1) = if someB q && someT (ks.drop i1) then firstsB q else []):=Lib.hid (by unfold stepF;rfl)
   have HE : Hid (m = i1→someT (ks.drop i1) = true):=Lib.hid (fun e=>by rw [List.drop_eq_nil_of_le (by have:=Hk2.out;omega)];unfold someT;rfl)
   have HFl:=Lib.hid (firsts_len q hgq)
   have hne1 : someT ([] : List Pat) = true:=by unfold someT;rfl
   rw [hne1] at HC5
   generalize someT (ks.drop i1) = r1 at HC2 HSt HE
   generalize someB q = s1 at HC1 HSt
   generalize emptyB q = y1 at HC4 HD
   generalize stepF true q (ks.drop i1) = st at HD HSt
   unfold valPt at HC1 HC3 HC4
   clear hq hp hu hqm hgq x0 x1 x2 hne1
   go_upto_region 10 with fail
   go_cut [38] from 13 to 38 (fun t wx=>t = .bool (s1 && r1)∧Below wr.heap.size wr wx)
   case first =>
    obtain ⟨x0,x1,x2⟩:=HX.out wr hbw
    have h1:=Lib.hid (HC1.out wr hbw)
    cases s1 with
    | false =>
     go_wp2_with fail
     refine h1.out.mono ?_
     rintro e w3 ⟨rfl,hb3⟩
     go_wp2
     go_meet
     exact ⟨rfl,hb3⟩
    | true =>
     by_cases hdi : d = i1
     ·have hmi : m = i1:=by omega
      have hr1:=HE.out hmi
      subst hr1
      subst hmi
      subst hdi
      go_wp2_with fail
      refine h1.out.mono ?_
      rintro e w3 ⟨rfl,hb3⟩
      have h5:=Lib.hid (HC5.out w3 (below_two hbw hb3))
      have k0':=cell_keep k0 hb3
      have k2':=cell_keep k2 hb3
      go_wp2_with fail
      refine h5.out.mono ?_
      rintro e w4 ⟨rfl,hb4⟩
      go_wp2
      go_meet
      exact ⟨rfl,below_two hb3 hb4⟩
     ·have hdi' : i1≤d:=by omega
      have t1 : decide (m < i1) = false:=decide_eq_false (by omega)
      go_wp2_with fail
      refine h1.out.mono ?_
      rintro e w3 ⟨rfl,hb3⟩
      have h2:=Lib.hid (HC2.out w3 (below_two hbw hb3))
      have k0':=cell_keep k0 hb3
      have k2':=cell_keep k2 hb3
      go_wp2_with fail
      refine h2.out.mono ?_
      rintro e w4 ⟨rfl,hb4⟩
      go_wp2
      go_meet
      exact ⟨rfl,below_two hb3 hb4⟩
   case rest =>
    obtain ⟨rfl,hbc⟩:=hcut
    have hbw2:=below_two hbw hbc
    have hb1:=below_two hb hbc
    have ho2:=ho.below hbc
    have k0':=cell_keep k0 hbc
    have k2':=cell_keep k2 hbc
    have hsz2:=hb1.size
    generalize (s1 && r1) = tt at HSt ⊢
    generalize firstsB q = F at HC3 HFl HSt
    clear k0 k2 ho hb hbw hbc hsz HC1 HC2 HC5 HE
    go_upto_if 38 with fail
    go_cut [3] from 13 to 46 (fun v wx=>∃ (A4 : Option Addr) (k4 c4 : Nat),v = .slice A4 k4 c4∧(L++st).length = k4∧Own wx w1.heap.size 3 1 A4 k4 c4 ((L++st).map encN)∧Below w1.heap.size w1 wx)
    case first =>
     cases tt with
     | false =>
      have hst : st = []:=HSt.out
      subst hst
      go_wp2
      go_meet
      exact ⟨A3,k3,c3,rfl,by simpa using hL,by simpa using ho2,hb1⟩
     | true =>
      have hst : st = F:=HSt.out
      subst hst
      have hFz : st.length≤131072:=by have:=HFl.out;have:=Hsz.out;omega
      obtain ⟨x0,x1,x2⟩:=HX.out wc hbw2
      have h3:=Lib.hid (HC3.out wc hbw2)
      go_wp2_with fail
      refine h3.out.mono ?_
      rintro e w5 ⟨A5,n5,c5,rfl,hr5,hl5,hb5⟩
      have ho5:=ho2.below hb5
      have hb15:=below_two hb1 hb5
      have hsz5:=hb15.size
      go_wp2_with (at_builtin;go_must (refine wpList_app rfl (.tmp 39) (.tmp 45) _ rfl w1.heap.size 3 i0 _ 1 8 Tryz.underlying40 hi0 hz0 hz1 hz2 rfl (by omega) A3 k3 c3 _ rfl ho5 A5 n5 c5 (st.map encN) rfl (by simpa using hl5) hr5 (encN_ok' _) (by unfold maxLen;omega) (by omega) (by omega) ?_);intro A6 c6 w6 ho6 hg6 hA6)
      have hb6:=below_app hb15 hg6 hsz5 (fun a ha=>(ho5.lt a ha).1)
      go_meet
      exact ⟨A6,k3+n5,c6,rfl,by rw [List.length_append,hL,hl5],by rw [List.map_append];exact ho6,hb6⟩
    case rest =>
     obtain ⟨A4,k4,c4,rfl,hL4,ho4,hb4⟩:=hcut
     have hbw4:=below_two Hz hb4
     have q0:=cell_keep k00 hb4
     have q2:=cell_keep k20 hb4
     obtain ⟨x0,x1,x2⟩:=HX.out wc hbw4
     have h4:=Lib.hid (HC4.out wc hbw4)
     clear k0' k2' ho2 hb1
     go_wp2_with fail
     refine h4.out.mono ?_
     rintro e w5 ⟨rfl,hb5⟩
     have hb15:=below_two hb4 hb5
     cases y1 with
     | false =>
      have HV : Hid (firstsL true ks = L++st):=Lib.hid (by have:=HD.out;simpa using this)
      rw [← HV.out] at ho4 hL4
      go_wp2
      go_ret
      exact ⟨A4,k4,c4,rfl,(ho4.below hb5).rd (by decide),hL4,below_two hbw4 hb5⟩
     | true =>
      go_wp2
      go_roundw
      case rel=>exact ⟨i1,A4,k4,c4,L++st,rfl,by have:=Hi1.out;first | rfl | go_num,hi1m,hL4,Lib.hid (by have:=HD.out;simpa using this),ho4.below hb5,hb15⟩
      case measure=>simp [intOf];have:=Hi1.out;omega
  ·obtain rfl : i = m:=by omega
   have HV:=Lib.hid (show firstsL true ks = L by
    have:=HL.out
    rw [List.drop_eq_nil_of_le (by have:=Hk2.out;omega)] at this
    rw [firstsL_nil,List.append_nil] at this
    exact this)
   rw [← HV.out] at ho hL
   go_wp2
   go_ret
   exact ⟨A3,k3,c3,rfl,ho.rd (by decide),hL,hbw⟩
end Go.Proofs.YtdngkienloligaaGreatDoor
/- -/
namespace Go.Proofs.YtdngkienloligaaGreatDoor
open Go.RowKit
set_option maxHeartbeats 1000000 in
theorem jletter_any (c : Nat) (w : World) : Calls Tryz.prog 234 #[.int .u8 (c : Nat)] w fun e w'=>e = .returned (.bool ((decide (65≤c) && decide (c≤90)) || (decide (97≤c) && decide (c≤122))))∧w = w':=by
 have e1 : decide ((65 : Int)≤(c : Int)) = decide (65≤c):=decide_eq_decide.2 (by omega)
 have e2 : decide ((c : Int)≤90) = decide (c≤90):=decide_eq_decide.2 (by omega)
 have e3 : decide ((97 : Int)≤(c : Int)) = decide (97≤c):=decide_eq_decide.2 (by omega)
 have e4 : decide ((c : Int)≤122) = decide (c≤122):=decide_eq_decide.2 (by omega)
 generalize decide (65≤c) = b1 at e1 ⊢
 generalize decide (c≤90) = b2 at e2 ⊢
 generalize decide (97≤c) = b3 at e3 ⊢
 generalize decide (c≤122) = b4 at e4 ⊢
 cases b1
 ·cases b3
  ·go_enter Tryz.func234,Tryz.ntmps234
   go_wp2
   go_ret
   exact ⟨rfl,rfl⟩
  ·go_enter Tryz.func234,Tryz.ntmps234
   go_wp2
   go_ret
   exact ⟨rfl,rfl⟩
 ·cases b2
  ·cases b3
   ·go_enter Tryz.func234,Tryz.ntmps234
    go_wp2
    go_ret
    exact ⟨rfl,rfl⟩
   ·go_enter Tryz.func234,Tryz.ntmps234
    go_wp2
    go_ret
    exact ⟨rfl,rfl⟩
  ·go_enter Tryz.func234,Tryz.ntmps234
   go_wp2
   go_ret
   exact ⟨rfl,rfl⟩
theorem jletter_b (c : UInt8) (w : World) : Calls Tryz.prog 234 #[.int .u8 (c.toNat : Nat)] w fun e w'=>e = .returned (.bool (pLetter c))∧w = w':=jletter_any c.toNat w
set_option maxHeartbeats 1000000 in
theorem jpart_b (c : UInt8) (w : World) : Calls Tryz.prog 233 #[.int .u8 (c.toNat : Nat)] w fun e w'=>e = .returned (.bool (pPart c))∧w = w':=by
 have HL:=Lib.hid (jletter_b c w)
 have HV : Hid (pPart c = (pLetter c || (decide (48≤c.toNat) && decide (c.toNat≤57)) || decide (c.toNat = 95))):=Lib.hid rfl
 have e1 : decide ((48 : Int)≤(c.toNat : Int)) = decide (48≤c.toNat):=decide_eq_decide.2 (by omega)
 have e2 : decide ((c.toNat : Int)≤57) = decide (c.toNat≤57):=decide_eq_decide.2 (by omega)
 have e3 : ((c.toNat : Int) == 95) = decide (c.toNat = 95):=by rw [Bool.eq_iff_iff,beq_iff_eq,decide_eq_true_iff];omega
 generalize pLetter c = b0 at HL HV
 generalize decide (48≤c.toNat) = b1 at e1 HV
 generalize decide (c.toNat≤57) = b2 at e2 HV
 generalize decide (c.toNat = 95) = b3 at e3 HV
 cases b0
 ·cases b1
  ·go_enter Tryz.func233,Tryz.ntmps233
   go_wp2_with (go_at_call 234;refine HL.out.mono ?_;rintro e w2 ⟨rfl,rfl⟩)
   go_ret
   exact ⟨by rw [HV.out];rfl,rfl⟩
  ·cases b2
   ·go_enter Tryz.func233,Tryz.ntmps233
    go_wp2_with (go_at_call 234;refine HL.out.mono ?_;rintro e w2 ⟨rfl,rfl⟩)
    go_ret
    exact ⟨by rw [HV.out];rfl,rfl⟩
   ·go_enter Tryz.func233,Tryz.ntmps233
    go_wp2_with (go_at_call 234;refine HL.out.mono ?_;rintro e w2 ⟨rfl,rfl⟩)
    go_ret
    exact ⟨by rw [HV.out];rfl,rfl⟩
 ·go_enter Tryz.func233,Tryz.ntmps233
  go_wp2_with (go_at_call 234;refine HL.out.mono ?_;rintro e w2 ⟨rfl,rfl⟩)
  go_ret
  exact ⟨by rw [HV.out];rfl,rfl⟩
set_option maxHeartbeats 1000000 in
theorem jbegins_b (c : UInt8) (w : World) : Calls Tryz.prog 306 #[.int .u8 (c.toNat : Nat)] w fun e w'=>e = .returned (.bool (pBegins c))∧w = w':=by
 have HL:=Lib.hid (jletter_b c w)
 have HV : Hid (pBegins c = (decide (c.toNat = 40) || decide (c.toNat = 91) || decide (c.toNat = 46) || pLetter c)):=Lib.hid rfl
 have e1 : ((c.toNat : Int) == 40) = decide (c.toNat = 40):=by rw [Bool.eq_iff_iff,beq_iff_eq,decide_eq_true_iff];omega
 have e2 : ((c.toNat : Int) == 91) = decide (c.toNat = 91):=by rw [Bool.eq_iff_iff,beq_iff_eq,decide_eq_true_iff];omega
 have e3 : ((c.toNat : Int) == 46) = decide (c.toNat = 46):=by rw [Bool.eq_iff_iff,beq_iff_eq,decide_eq_true_iff];omega
 generalize pLetter c = b0 at HL HV
 generalize decide (c.toNat = 40) = b1 at e1 HV
 generalize decide (c.toNat = 91) = b2 at e2 HV
 generalize decide (c.toNat = 46) = b3 at e3 HV
 cases b1
 ·cases b2
  ·cases b3
   ·go_enter Tryz.func306,Tryz.ntmps306
    go_wp2_with (go_at_call 234;refine HL.out.mono ?_;rintro e w2 ⟨rfl,rfl⟩)
    go_ret
    exact ⟨by rw [HV.out];rfl,rfl⟩
   ·go_enter Tryz.func306,Tryz.ntmps306
    go_wp2
    go_ret
    exact ⟨by rw [HV.out];rfl,rfl⟩
  ·go_enter Tryz.func306,Tryz.ntmps306
   go_wp2
   go_ret
   exact ⟨by rw [HV.out];rfl,rfl⟩
 ·go_enter Tryz.func306,Tryz.ntmps306
  go_wp2
  go_ret
  exact ⟨by rw [HV.out];rfl,rfl⟩
set_option maxHeartbeats 1000000 in
theorem joper_b (c : UInt8) (w : World) : Calls Tryz.prog 308 #[.int .u8 (c.toNat : Nat)] w fun e w'=>e = .returned (.int .i64 (pOper c : Nat))∧w = w':=by
 by_cases h1 : c.toNat = 42
 ·have e1 : ((c.toNat : Int) == 42) = true:=by rw [h1];rfl
  have HV:=Lib.hid (show pOper c = 4 from if_pos h1)
  clear h1
  go_enter Tryz.func308,Tryz.ntmps308
  go_wp2
  go_ret
  exact ⟨by rw [HV.out];rfl,rfl⟩
 have e1 : ((c.toNat : Int) == 42) = false:=beq_eq_false_iff_ne.2 (by omega)
 by_cases h2 : c.toNat = 43
 ·have e2 : ((c.toNat : Int) == 43) = true:=by rw [h2];rfl
  have HV:=Lib.hid (show pOper c = 5 by unfold pOper;rw [if_neg h1,if_pos h2])
  clear h1 h2
  go_enter Tryz.func308,Tryz.ntmps308
  go_wp2
  go_ret
  exact ⟨by rw [HV.out];rfl,rfl⟩
 have e2 : ((c.toNat : Int) == 43) = false:=beq_eq_false_iff_ne.2 (by omega)
 by_cases h3 : c.toNat = 63
 ·have e3 : ((c.toNat : Int) == 63) = true:=by rw [h3];rfl
  have HV:=Lib.hid (show pOper c = 6 by unfold pOper;rw [if_neg h1,if_neg h2,if_pos h3])
  clear h1 h2 h3
  go_enter Tryz.func308,Tryz.ntmps308
  go_wp2
  go_ret
  exact ⟨by rw [HV.out];rfl,rfl⟩
 have e3 : ((c.toNat : Int) == 63) = false:=beq_eq_false_iff_ne.2 (by omega)
 have HV:=Lib.hid (show pOper c = 0 by unfold pOper;rw [if_neg h1,if_neg h2,if_neg h3])
 clear h1 h2 h3
 go_enter Tryz.func308,Tryz.ntmps308
 go_wp2
 go_ret
 exact ⟨by rw [HV.out];rfl,rfl⟩
structure RS (w : World) (p : Nat) (s : ByteArray) (A : Option Addr) (nn cn : Nat) (names : List (List UInt8)) (a d k : Nat) : Prop where
 blk : Blk w p 222 #[.string s,.int .i64 (a : Int),.slice A nn cn,.int .i64 (d : Int),.int .i64 (k : Int),.int .i64 0,.int .i64 0]
 nm : Rd w 1 A (names.map encNm)
 len : names.length = nn
 off : ∀ x,A = some x→x.block ≠ p∧x.block < w.heap.size
section
variable {w w' : World} {p : Nat} {s : ByteArray} {A : Option Addr} {nn cn : Nat} {names : List (List UInt8)} {a d k : Nat}
theorem RS.c0 (h : RS w p s A nn cn names a d k) : w.cell? ⟨p,0,none⟩ = some (.string s):=h.blk.cell 0
theorem RS.c1 (h : RS w p s A nn cn names a d k) : w.cell? ⟨p,1,none⟩ = some (.int .i64 (a : Int)):=h.blk.cell 1
theorem RS.c2 (h : RS w p s A nn cn names a d k) : w.cell? ⟨p,2,none⟩ = some (.slice A nn cn):=h.blk.cell 2
theorem RS.c3 (h : RS w p s A nn cn names a d k) : w.cell? ⟨p,3,none⟩ = some (.int .i64 (d : Int)):=h.blk.cell 3
theorem RS.c4 (h : RS w p s A nn cn names a d k) : w.cell? ⟨p,4,none⟩ = some (.int .i64 (k : Int)):=h.blk.cell 4
theorem RS.c5 (h : RS w p s A nn cn names a d k) : w.cell? ⟨p,5,none⟩ = some (.int .i64 0):=h.blk.cell 5
theorem RS.f (h : RS w p s A nn cn names a d k) (i : Nat) : w.frozen? ⟨p,i,none⟩ = false:=h.blk.frozen i
theorem RS.lt (h : RS w p s A nn cn names a d k) : p < w.heap.size:=h.blk.lt
theorem RS.setCell_ (h : RS w p s A nn cn names a d k) (i : Nat) (u : Value) : Rd (w.setCell ⟨p,i,none⟩ u) 1 A (names.map encNm)∧∀ x,A = some x→x.block ≠ p∧x.block < (w.setCell ⟨p,i,none⟩ u).heap.size :=
 ⟨h.nm.setCell (p:=⟨p,i,none⟩) (fun x hx=>(h.off x hx).1) u,fun x hx=>⟨(h.off x hx).1,by simp [World.setCell];exact (h.off x hx).2⟩⟩
theorem RS.setAt (h : RS w p s A nn cn names a d k) (a' : Nat) : RS (w.setCell ⟨p,1,none⟩ (.int .i64 (a' : Int))) p s A nn cn names a' d k:=⟨by have:=h.blk.set_ 1 (.int .i64 (a' : Int));simpa using this,(h.setCell_ 1 _).1,h.len,(h.setCell_ 1 _).2⟩
theorem RS.setDepth (h : RS w p s A nn cn names a d k) (d' : Nat) : RS (w.setCell ⟨p,3,none⟩ (.int .i64 (d' : Int))) p s A nn cn names a d' k:=⟨by have:=h.blk.set_ 3 (.int .i64 (d' : Int));simpa using this,(h.setCell_ 3 _).1,h.len,(h.setCell_ 3 _).2⟩
theorem RS.setParts (h : RS w p s A nn cn names a d k) (k' : Nat) : RS (w.setCell ⟨p,4,none⟩ (.int .i64 (k' : Int))) p s A nn cn names a d k':=⟨by have:=h.blk.set_ 4 (.int .i64 (k' : Int));simpa using this,(h.setCell_ 4 _).1,h.len,(h.setCell_ 4 _).2⟩
theorem RS.drewN (h : RS w p s A nn cn names a d k) (q : Nat) : RS (w.drewN q) p s A nn cn names a d k:=⟨h.blk.drewN q,h.nm.drewN q,h.len,h.off⟩
theorem RS.drew (h : RS w p s A nn cn names a d k) : RS w.drew p s A nn cn names a d k:=⟨h.blk.drew,h.nm.drew,h.len,h.off⟩
theorem RS.below (h : RS w p s A nn cn names a d k) (hb : Below w.heap.size w w') : RS w' p s A nn cn names a d k:=⟨h.blk.below hb,h.nm.below hb,h.len,fun x hx=>⟨(h.off x hx).1,Nat.lt_of_lt_of_le (h.off x hx).2 hb.size⟩⟩
theorem RS.atOf (h : RS w p s A nn cn names a d k) : atOf w p = a:=by unfold YtdngkienloligaaGreatDoor.atOf;rw [h.c1];simp [intOf]
end
theorem byte_at (s : ByteArray) {x : Nat} (hx : x < s.size) : ∃ b : UInt8,s.data.toList.drop x = b :: s.data.toList.drop (x+1)∧∀ W,(Instr.index 9 (.string s) (.int .i64 (x : Nat))).run Tryz.prog W = .ok (.int .u8 (b.toNat : Int)) W:=by
 refine ⟨s[x]'hx,?_,fun W=>index_at s x x rfl hx W⟩
 rw [List.drop_eq_getElem_cons (by rw [size_data];exact hx)];rfl
theorem drop_end (s : ByteArray) {x : Nat} (hx : ¬ x < s.size) : s.data.toList.drop x = []:=List.drop_of_length_le (by rw [size_data];omega)
theorem skip_blank {b : UInt8} {l : List UInt8} (h : pBlank b = true) : skipB (b :: l) = skipB l:=by unfold skipB;rw [List.dropWhile_cons,if_pos h]
theorem skip_stop {b : UInt8} {l : List UInt8} (h : pBlank b = false) : skipB (b :: l) = b :: l:=by unfold skipB;rw [List.dropWhile_cons,if_neg (by rw [h];simp)]
set_option maxRecDepth 100000 in
set_option maxHeartbeats 4000000 in
theorem jblanks_any (p : Nat) (s : ByteArray) (A : Option Addr) (nn cn : Nat) (names : List (List UInt8)) (a d k : Nat) (w : World) (h : RS w p s A nn cn names a d k) (ha : a≤s.size) (hs : s.size≤1000000) :
  Calls Tryz.prog 309 #[.pointer (some ⟨p,0,none⟩)] w fun e w'=>e = .returned (.tuple #[])∧∃ x,RS w' p s A nn cn names x d k∧s.data.toList.drop x = skipB (s.data.toList.drop a)∧x≤s.size∧w.grownBy w' (some p):=by
 go_enter Tryz.func309,Tryz.ntmps309
 go_wp2
 go_loopw [2] (fun _ wr=>∃ x : Nat,RS wr p s A nn cn names x d k∧Hid (skipB (s.data.toList.drop x) = skipB (s.data.toList.drop a))∧x≤s.size∧w.grownBy wr (some p)) (fun _ wr=>s.size - atOf wr p)
 case atStart=>exact ⟨a,h,Lib.hid rfl,ha,only_refl _ _⟩
 case round =>
  clear h
  obtain ⟨x,hr,HS,hx,hg⟩:=hrel
  have c0:=hr.c0
  have c1:=hr.c1
  have f1:=hr.f 1
  have Hat:=Lib.hid hr.atOf
  by_cases hlt : x < s.size
  ·obtain ⟨b,hd,hidx⟩:=byte_at s hlt
   have e1 : ((b.toNat : Int) == 32) = decide (b.toNat = 32):=by rw [Bool.eq_iff_iff,beq_iff_eq,decide_eq_true_iff];omega
   have e2 : ((b.toNat : Int) == 9) = decide (b.toNat = 9):=by rw [Bool.eq_iff_iff,beq_iff_eq,decide_eq_true_iff];omega
   have HB : Hid (pBlank b = (decide (b.toNat = 32) || decide (b.toNat = 9))):=Lib.hid rfl
   have HD:=Lib.hid hd
   clear hd
   generalize decide (b.toNat = 32) = t1 at e1 HB
   generalize decide (b.toNat = 9) = t2 at e2 HB
   cases t1
   ·cases t2
    ·have HE:=Lib.hid (show s.data.toList.drop x = skipB (s.data.toList.drop a) by rw [← HS.out,HD.out,skip_stop (by rw [HB.out];rfl)])
     go_wp2_with fail
     go_quiet (fail)
     go_wp2
     go_end0
     exact ⟨rfl,x,hr.drewN _,HE.out,hx,only_drewN hg _⟩
    ·have HS2:=Lib.hid (show skipB (s.data.toList.drop (x+1)) = skipB (s.data.toList.drop a) by rw [← HS.out,HD.out,skip_blank (by rw [HB.out];rfl)])
     go_wp2_with fail
     go_quiet (fail)
     go_wp2
     have hr2:=(hr.drewN nq).setAt (x+1)
     have ez : ((x+1 : Nat) : Int) = (x : Int)+1:=by omega
     rw [ez] at hr2
     refine ⟨⟨x+1,hr2,HS2,by omega,only_setCell (only_drewN hg _) (.inl rfl) _⟩,?_⟩
     rw [hr2.atOf,Hat.out];omega
   ·have HS2:=Lib.hid (show skipB (s.data.toList.drop (x+1)) = skipB (s.data.toList.drop a) by rw [← HS.out,HD.out,skip_blank (by rw [HB.out];rfl)])
    go_wp2_with fail
    go_quiet (fail)
    go_wp2
    have hr2:=(hr.drewN nq).setAt (x+1)
    have ez : ((x+1 : Nat) : Int) = (x : Int)+1:=by omega
    rw [ez] at hr2
    refine ⟨⟨x+1,hr2,HS2,by omega,only_setCell (only_drewN hg _) (.inl rfl) _⟩,?_⟩
    rw [hr2.atOf,Hat.out];omega
  ·have HE:=Lib.hid (show s.data.toList.drop x = skipB (s.data.toList.drop a) by rw [← HS.out,drop_end s hlt];rfl)
   go_wp2_with fail
   go_quiet (fail)
   go_wp2
   go_end0
   exact ⟨rfl,x,hr.drewN _,HE.out,hx,only_drewN hg _⟩
def headN (l : List UInt8) : Nat:=match l with | []=>0 | b :: _=>b.toNat
theorem jblanks_h {w : World} {p : Nat} {s : ByteArray} {A : Option Addr} {nn cn : Nat} {names : List (List UInt8)} {a d k : Nat} (h : RS w p s A nn cn names a d k) (ha : a≤s.size) (hs : s.size≤1000000) :
  Hid (Calls Tryz.prog 309 #[.pointer (some ⟨p,0,none⟩)] w fun e w'=>e = .returned (.tuple #[])∧∃ x,RS w' p s A nn cn names x d k∧s.data.toList.drop x = skipB (s.data.toList.drop a)∧x≤s.size∧w.grownBy w' (some p)):=Lib.hid (jblanks_any p s A nn cn names a d k w h ha hs)
set_option maxRecDepth 100000 in
set_option maxHeartbeats 4000000 in
theorem jsees_any (p : Nat) (s : ByteArray) (A : Option Addr) (nn cn : Nat) (names : List (List UInt8)) (a d k : Nat) (w : World) (h : RS w p s A nn cn names a d k) (ha : a≤s.size) (hs : s.size≤1000000) :
  Calls Tryz.prog 268 #[.pointer (some ⟨p,0,none⟩)] w fun e w'=>e = .returned (.int .u8 (headN (skipB (s.data.toList.drop a)) : Nat))∧∃ x,RS w' p s A nn cn names x d k∧s.data.toList.drop x = skipB (s.data.toList.drop a)∧x≤s.size∧w.grownBy w' (some p):=by
 have HB:=jblanks_h h ha hs
 clear h
 go_enter Tryz.func268,Tryz.ntmps268
 go_wp2_with fail
 refine HB.out.mono ?_
 rintro e w2 ⟨rfl,x,hr,hd,hx,hg⟩
 have HD:=Lib.hid hd
 have c0:=hr.c0
 have c1:=hr.c1
 clear HB hd
 by_cases hlt : x < s.size
 ·obtain ⟨b,hdx,hidx⟩:=byte_at s hlt
  have HV:=Lib.hid (show headN (skipB (s.data.toList.drop a)) = b.toNat by rw [← HD.out,hdx];rfl)
  clear hdx
  have t1 : decide (s.size≤x) = false:=decide_eq_false (by omega)
  go_wp2_with fail
  go_quiet (fail)
  go_wp2_with fail
  go_quiet (fail)
  go_wp2
  go_ret
  exact ⟨by rw [HV.out];rfl,x,(hr.drewN _).drewN _,HD.out,hx,only_drewN (only_drewN hg _) _⟩
 ·have HV:=Lib.hid (show headN (skipB (s.data.toList.drop a)) = 0 by rw [← HD.out,drop_end s hlt];rfl)
  have t1 : decide (s.size≤x) = true:=decide_eq_true (by omega)
  go_wp2_with fail
  go_quiet (fail)
  go_wp2
  go_ret
  exact ⟨by rw [HV.out];rfl,x,hr.drewN _,HD.out,hx,only_drewN hg _⟩
set_option maxRecDepth 100000 in
set_option maxHeartbeats 4000000 in
theorem jcounts_any (p : Nat) (s : ByteArray) (A : Option Addr) (nn cn : Nat) (names : List (List UInt8)) (a d k : Nat) (z : Int) (w : World) (h : RS w p s A nn cn names a d k) (hk : k < 512) :
  Calls Tryz.prog 269 #[.pointer (some ⟨p,0,none⟩),.int .i64 z] w fun e w'=>e = .returned (.tuple #[])∧RS w' p s A nn cn names a d (k+1)∧w.grownBy w' (some p):=by
 have c4:=h.c4
 have f4:=h.f 4
 have hr2:=h.setParts (k+1)
 have ez : ((k+1 : Nat) : Int) = (k : Int)+1:=by omega
 rw [ez] at hr2
 have HR2:=Lib.hid hr2
 clear hr2 ez h
 go_enter Tryz.func269,Tryz.ntmps269
 go_wp2
 go_end0
 exact ⟨rfl,HR2.out,only_setCell (only_refl _ _) (.inl rfl) _⟩
end Go.Proofs.YtdngkienloligaaGreatDoor
/- -/
namespace Go.Proofs.YtdngkienloligaaGreatDoor
open Go.RowKit
theorem run_split {s : ByteArray} {a x : Nat} {q : UInt8→Bool} (hax : a≤x) (hx : x≤s.size) (h : (s.data.toList.drop a).takeWhile q = (s.data.toList.drop a).take (x - a)++(s.data.toList.drop x).takeWhile q) (hd : (s.data.toList.drop a).dropWhile q = (s.data.toList.drop x).dropWhile q)
  (hstop : ∀ b,(s.data.toList.drop x).head? = some b→q b = false) : (s.data.toList.drop a).takeWhile q = (s.extract a x).data.toList∧(s.data.toList.drop a).dropWhile q = s.data.toList.drop x∧((s.data.toList.drop a).takeWhile q).length = x - a:=by
 have e0 : (s.data.toList.drop x).takeWhile q = []:=by
  cases hl : s.data.toList.drop x with
  | nil=>rfl
  | cons b l=>rw [List.takeWhile_cons,if_neg (by rw [hstop b (by rw [hl];rfl)];simp)]
 have e1 : (s.data.toList.drop x).dropWhile q = s.data.toList.drop x:=by
  cases hl : s.data.toList.drop x with
  | nil=>rfl
  | cons b l=>rw [List.dropWhile_cons,if_neg (by rw [hstop b (by rw [hl];rfl)];simp)]
 have e2 : (s.extract a x).data.toList = (s.data.toList.drop a).take (x - a):=by
  rw [ByteArray.data_extract,Array.toList_extract,List.extract_eq_take_drop]
 rw [e0,List.append_nil] at h
 refine ⟨by rw [h,e2],by rw [hd,e1],?_⟩
 rw [h,List.length_take,List.length_drop,size_data]
 omega
theorem take_step (s : ByteArray) {a x : Nat} {b : UInt8} (hax : a≤x) (hd : s.data.toList.drop x = b :: s.data.toList.drop (x+1)) : (s.data.toList.drop a).take (x+1 - a) = (s.data.toList.drop a).take (x - a)++[b]:=by
 have h1 : (s.data.toList.drop a)[x - a]? = some b:=by
  rw [List.getElem?_drop,show a+(x - a) = x by omega]
  have:=congrArg List.head? hd
  rw [List.head?_drop] at this
  exact this
 rw [show x+1 - a = x - a+1 by omega,List.take_add_one,h1];rfl
set_option maxRecDepth 100000 in
set_option maxHeartbeats 8000000 in
theorem jname_any (p : Nat) (s : ByteArray) (A : Option Addr) (nn cn : Nat) (names : List (List UInt8)) (a d k i0 : Nat) (rest : List UInt8) (w : World) (h : RS w p s A nn cn names a d k) (ha : a≤s.size) (hs : s.size≤1000000) (hnz : nn≤1000000) (hP : pName names (s.data.toList.drop a) = some (i0,rest)) :
  Calls Tryz.prog 331 #[.pointer (some ⟨p,0,none⟩)] w fun e w'=>e = .returned (.int .i64 (i0 : Nat))∧∃ x,RS w' p s A nn cn names x d k∧s.data.toList.drop x = rest∧x≤s.size∧w.grownBy w' (some p):=by
 have HP:=Lib.hid hP
 have c0:=h.c0
 have c1:=h.c1
 clear hP
 go_enter Tryz.func331,Tryz.ntmps331
 go_wp2_with fail
 go_loopw [10] (fun _ wr=>∃ x : Nat,RS wr p s A nn cn names x d k∧a≤x∧x≤s.size∧Hid ((s.data.toList.drop a).takeWhile pPart = (s.data.toList.drop a).take (x - a)++(s.data.toList.drop x).takeWhile pPart)∧Hid ((s.data.toList.drop a).dropWhile pPart = (s.data.toList.drop x).dropWhile pPart)∧w.grownBy wr (some p)) (fun _ wr=>s.size - atOf wr p)
 case atStart=>exact ⟨a,h,by omega,ha,Lib.hid (by rw [Nat.sub_self];rfl),Lib.hid rfl,only_refl _ _⟩
 case round =>
  clear h c0 c1
  obtain ⟨x,hr,hax,hx,HT,HD,hg⟩:=hrel
  have c0:=hr.c0
  have c1:=hr.c1
  have c2:=hr.c2
  have f1:=hr.f 1
  have Hat:=Lib.hid hr.atOf
  by_cases hlt : x < s.size∧∃ b,(s.data.toList.drop x).head? = some b∧pPart b = true
  ·obtain ⟨hlt,b',hb',hpb⟩:=hlt
   obtain ⟨b,hd,hidx⟩:=byte_at s hlt
   replace hpb : pPart b = true:=by
    rw [hd] at hb'
    injection hb' with hb'
    rw [hb']
    exact hpb
   have HJ:=Lib.hid (fun q=>jpart_b b (wr.drewN q))
   rw [hpb] at HJ
   have HT2:=Lib.hid (show (s.data.toList.drop a).takeWhile pPart = (s.data.toList.drop a).take (x+1 - a)++(s.data.toList.drop (x+1)).takeWhile pPart by
    rw [HT.out,hd,List.takeWhile_cons,if_pos hpb,take_step s hax hd,List.append_assoc];rfl)
   have HD2:=Lib.hid (show (s.data.toList.drop a).dropWhile pPart = (s.data.toList.drop (x+1)).dropWhile pPart by
    rw [HD.out,hd,List.dropWhile_cons,if_pos hpb])
   clear hd hb'
   go_wp2_with fail
   go_quiet ((go_at_call 233;exact quiet_left (HJ.out _)))
   go_wp2
   have hr2:=(hr.drewN nq).setAt (x+1)
   have ez : ((x+1 : Nat) : Int) = (x : Int)+1:=by omega
   rw [ez] at hr2
   refine ⟨⟨x+1,hr2,by omega,by omega,HT2,HD2,only_setCell (only_drewN hg _) (.inl rfl) _⟩,?_⟩
   rw [hr2.atOf,Hat.out];omega
  ·have hstop : ∀ b,(s.data.toList.drop x).head? = some b→pPart b = false:=fun b hb=>by
    by_cases h1 : x < s.size
    ·cases hq : pPart b with
     | false=>rfl
     | true=>exact absurd ⟨h1,b,hb,hq⟩ hlt
    ·rw [drop_end s h1] at hb;cases hb
   obtain ⟨k1,k2,k3⟩:=run_split hax hx HT.out HD.out hstop
   obtain ⟨sub,hsub⟩ : ∃ sub,s.extract a x = sub:=⟨_,rfl⟩
   rw [hsub] at k1
   have HPn : Hid (x - a≤32∧names.findIdx? (fun y=>y == sub.data.toList) = some i0∧rest = s.data.toList.drop x):=Lib.hid (by
    have h1:=HP.out
    unfold pName at h1
    rw [k3,k1,k2] at h1
    split at h1
    ·cases h1
    ·rename_i h32
     split at h1
     ·cases h1
     ·rename_i j hj
      injection h1 with h1
      injection h1 with h1 h2
      exact ⟨by omega,by rw [hj,h1],h2.symm⟩)
   have HSz:=Lib.hid (show sub.size = x - a by rw [← hsub,ByteArray.size_extract];omega)
   have HQ : Hid ((¬ x < s.size)∨(∃ (hlt : x < s.size) (b : UInt8),s.data.toList.drop x = b :: s.data.toList.drop (x+1)∧(∀ W,(Instr.index 9 (.string s) (.int .i64 (x : Nat))).run Tryz.prog W = .ok (.int .u8 (b.toNat : Int)) W)∧pPart b = false)):=Lib.hid (by
    by_cases h1 : x < s.size
    ·obtain ⟨b,hb1,hb2⟩:=byte_at s h1
     exact .inr ⟨h1,b,hb1,hb2,hstop b (by rw [hb1];rfl)⟩
    ·exact .inl h1)
   clear hlt hstop k1 k2 k3 HP HT HD
   have hax' : (a : Int)≤(x : Int):=by omega
   have hxs' : (x : Int)≤(s.size : Int):=by omega
   have hxa0 : ¬ x < a:=by omega
   go_upto_region 2 with fail
   go_cut [31] from 10 to 30 (fun v wx=>v = .bool false∧∃ q,wx = wr.drewN q)
   case first =>
    rcases HQ.out with h1 | ⟨h1,b,hb1,hidx,hpb⟩
    ·go_quiet (fail)
     go_wp2_with fail
     go_meet
     exact ⟨rfl,nq,rfl⟩
    ·have HJ:=Lib.hid (fun q=>jpart_b b (wr.drewN q))
     rw [hpb] at HJ
     go_quiet ((go_at_call 233;exact quiet_left (HJ.out _)))
     go_wp2_with fail
     go_meet
     exact ⟨rfl,nq,rfl⟩
   case rest =>
    obtain ⟨rfl,q,rfl⟩:=hcut
    have hr2:=hr.drewN q
    have hg2:=only_drewN hg q
    have d0:=hr2.c0
    have d1:=hr2.c1
    have d2:=hr2.c2
    clear hr hg c0 c1 c2 f1 HQ
    generalize wr.drewN q = w3 at hr2 hg2 d0 d1 d2 ⊢
    go_wp2_with fail
    go_quiet (fail)
    have hsz32 : ¬ (32 : Int) < (sub.size : Int):=by have:=HSz.out;have:=HPn.out.1;omega
    have hr3:=hr2.drewN nq
    have hg3:=only_drewN hg2 nq
    have x0:=hr3.c0
    have x2:=hr3.c2
    clear hr2 hg2 d0 d1 d2 hsub
    generalize w3.drewN nq = w4 at hr3 hg3 x0 x2 ⊢
    have Hl:=Lib.hid hr3.len
    have hrd:=hr3.nm
    go_wp2_with fail
    go_loopw [5] (fun v wq=>∃ i : Nat,v = .int .i64 i∧i≤i0∧wq = w4) (fun v _=>nn - (intOf v).toNat)
    case atStart=>exact ⟨0,rfl,by omega,rfl⟩
    case round =>
     obtain ⟨i,rfl,hi,rfl⟩:=hrel
     have HF:=Lib.hid (List.findIdx?_eq_some_iff_getElem.1 HPn.out.2.1)
     have hi0n : i0 < nn:=by
      obtain ⟨h1,_⟩:=HF.out
      have:=Hl.out
      omega
     have hin : i < nn:=by omega
     obtain ⟨y,Hy⟩ : ∃ y,Hid (names[i]? = some y):=⟨_,Lib.hid (List.getElem?_eq_getElem (show i < names.length by have:=Hl.out;omega))⟩
     obtain ⟨b,off,rfl,hc⟩:=hrd.atS Hy.out
     by_cases hlt : i < i0
     ·have hyn : y ≠ sub.data.toList:=fun e=>by
       obtain ⟨h1,h2,h3⟩:=HF.out
       have h4:=h3 i hlt
       obtain ⟨h5,h6⟩:=List.getElem?_eq_some_iff.1 Hy.out
       rw [h6,e] at h4
       simp at h4
      have e1 : ((bytesOf y).toList == sub.toList) = false:=by rw [ByteArray.toList_eq,ByteArray.toList_eq,bytesOf_list];exact beq_eq_false_iff_ne.2 hyn
      have e3 : decide (bytesOf y = sub) = false:=decide_eq_false (fun k=>hyn (by rw [← k,bytesOf_list]))
      clear hyn
      go_wp2
      go_roundw
      case rel=>exact ⟨i+1,by go_num,by omega,by first | rfl | trivial⟩
      case measure=>simp [intOf];omega
     ·obtain rfl : i = i0:=by omega
      have hyn : bytesOf y = sub:=by
       obtain ⟨h1,h2,h3⟩:=HF.out
       obtain ⟨h5,h6⟩:=List.getElem?_eq_some_iff.1 Hy.out
       rw [h6] at h2
       have h7 : y = sub.data.toList:=by simpa using h2
       rw [h7,bytesOf_data]
      have e1 : ((bytesOf y).toList == sub.toList) = true:=by rw [hyn];simp
      have e3 : decide (bytesOf y = sub) = true:=decide_eq_true hyn
      clear hyn hlt
      go_wp2
      go_ret
      exact ⟨rfl,x,hr3,HPn.out.2.2.symm,hx,hg3⟩
end Go.Proofs.YtdngkienloligaaGreatDoor
/- -/
namespace Go.Proofs.YtdngkienloligaaGreatDoor
open Go.RowKit
def PCell (w : World) (b : Nat) (v : Pv) : Prop:=w.cell? ⟨b,0,none⟩ = some (.int .i64 (v.1 : Int))∧w.cell? ⟨b,1,none⟩ = some (.slice v.2.1.1 v.2.1.2.1 v.2.1.2.2)∧w.cell? ⟨b,2,none⟩ = some (.slice v.2.2.1 v.2.2.2.1 v.2.2.2.2)
theorem PCell.of_blk {w : World} {b : Nat} {v : Pv} (h : Blk w b 171 #[.int .i64 (v.1 : Int),.slice v.2.1.1 v.2.1.2.1 v.2.1.2.2,.slice v.2.2.1 v.2.2.2.1 v.2.2.2.2]) : PCell w b v:=⟨h.cell 0,h.cell 1,h.cell 2⟩
set_option maxRecDepth 100000 in
theorem res_one (w : World) (b : Nat) (v : Pv) (tmps : Array Value) (ht : tmps.getD 2 undef = .pointer (some ⟨b,0,none⟩)) (hc : PCell w b v) : (results Tryz.f330 tmps).run Tryz.prog w = .ok (valPt v) w:=by
 have ht' : tmps[2]?.getD undef = .pointer (some ⟨b,0,none⟩):=by simpa [Array.getD_eq_getD_getElem?] using ht
 obtain ⟨h0,h1,h2⟩:=hc
 simp [results,Tryz.results330,go_sem,ht',h0,h1,h2,valPt]
set_option maxRecDepth 100000 in
set_option maxHeartbeats 1000000 in
theorem jone_any (c : Nat) (w : World) : Calls Tryz.prog 330 #[.int .i64 (c : Nat)] w fun e w'=>∃ v,e = .returned (valPt v)∧PatX w' (fun b=>w.heap.size≤b) (.node 1 [c] []) v∧Below w.heap.size w w':=by
 go_enter Tryz.func330,Tryz.ntmps330
 go_wp2
 have hbl : Blk ((w.alloc (.cells #[.int .i64 1,.slice (some ⟨w.heap.size+1,0,none⟩) 1 1,.slice none 0 0] 171)).alloc (.cells #[.int .i64 (c : Int)] 3)) w.heap.size 171 #[.int .i64 1,.slice (some ⟨w.heap.size+1,0,none⟩) 1 1,.slice none 0 0]:=(Blk.new _ _ _).alloc _
 refine bodyPost_ret (res_one _ w.heap.size (1,(some ⟨w.heap.size+1,0,none⟩,1,1),(none,0,0)) _ rfl (PCell.of_blk hbl)) rfl ?_
 refine ⟨_,rfl,?_,?_⟩
 ·simp only [PatX]
  refine ⟨trivial,⟨Rd.newAt (x:=encN c) (by simp) rfl,rfl,fun a ha=>?_,Nat.le_refl _⟩,[],SlX.nil_ _ _ _,by simp only [PatsX]⟩
  injection ha with ha
  subst ha
  simp
 ·exact ((Below.refl _ _).alloc (Nat.le_refl _) _).alloc (by simp) _
def pickB (M : List Bool) (no : Bool) (i : Nat) : List Nat:=(List.range i).filter fun j=>M.getD j false != no
theorem pickB_next (M : List Bool) (no : Bool) (i : Nat) : pickB M no (i+1) = pickB M no i++(if M.getD i false != no then [i] else []):=by
 unfold pickB
 rw [List.range_succ,List.filter_append]
 congr 1
 cases h : (M.getD i false != no) with
 | true=>rw [List.filter_cons_of_pos (p:=fun j=>M.getD j false != no) h];rfl
 | false=>rw [List.filter_cons_of_neg (p:=fun j=>M.getD j false != no) (by rw [h];decide)];rfl
def encBo (x : Bool) : List Value:=[.bool x]
theorem Rd.atBo {w : World} {A : Option Addr} {l : List Bool} {k : Nat} {x : Bool} (h : Rd w 1 A (l.map encBo)) (hk : l[k]? = some x) : ∃ b off,A = some ⟨b,off,none⟩∧w.cell? ⟨b,off+k,none⟩ = some (.bool x):=by
 obtain ⟨b,off,rfl,hc⟩:=h (by intro e;cases l with | nil=>simp at hk | cons _ _=>simp at e)
 have h0:=hc k 0 (encBo x) (.bool x) (by simp [hk]) rfl
 exact ⟨b,off,rfl,by simpa using h0⟩
set_option maxRecDepth 100000 in
theorem res_from (w : World) (b : Nat) (v : Pv) (tmps : Array Value) (ht : tmps.getD 6 undef = .pointer (some ⟨b,0,none⟩)) (hc : PCell w b v) : (results Tryz.f329 tmps).run Tryz.prog w = .ok (valPt v) w:=by
 have ht' : tmps[6]?.getD undef = .pointer (some ⟨b,0,none⟩):=by simpa [Array.getD_eq_getD_getElem?] using ht
 obtain ⟨h0,h1,h2⟩:=hc
 simp [results,Tryz.results329,go_sem,ht',h0,h1,h2,valPt]
set_option maxRecDepth 100000 in
set_option maxHeartbeats 4000000 in
theorem jfrom_any (n : Nat) (A : Option Addr) (m c : Nat) (M : List Bool) (no : Bool) (w : World) (hA : Rd w 1 A (M.map encBo)) (hm : M.length = n) (hmm : m = n) (hn : n≤1000000) :
  Calls Tryz.prog 329 #[.int .i64 (n : Nat),.slice A m c,.bool no] w fun e w'=>∃ v,e = .returned (valPt v)∧PatX w' (fun b=>w.heap.size≤b) (.node 1 (pickB M no n) []) v∧Below w.heap.size w w':=by
 obtain ⟨i0,hi0,hz0,hz1,hz2⟩:=info_parts infoInt
 subst hmm
 have Hm:=Lib.hid hm
 clear hm
 go_enter Tryz.func329,Tryz.ntmps329
 go_wp2
 have hS1 : Blk ((w.alloc (.cells #[.int .i64 0,.slice none 0 0,.slice none 0 0] 171)).alloc (.cells #[.int .i64 1,.slice none 0 0,.slice none 0 0] 171)) (w.heap.size+1) 171 #[.int .i64 1,.slice none 0 0,.slice none 0 0]:=by
  have h:=Blk.new (w.alloc (.cells #[.int .i64 0,.slice none 0 0,.slice none 0 0] 171)) 171 #[.int .i64 1,.slice none 0 0,.slice none 0 0]
  simpa using h
 have hS0 : Blk ((w.alloc (.cells #[.int .i64 0,.slice none 0 0,.slice none 0 0] 171)).alloc (.cells #[.int .i64 1,.slice none 0 0,.slice none 0 0] 171)) w.heap.size 171 #[.int .i64 0,.slice none 0 0,.slice none 0 0]:=(Blk.new w _ _).alloc _
 go_loopw [8] (fun v wr=>∃ (k : Nat) (A1 : Option Addr) (n1 c1 : Nat),v = .int .i64 k∧k≤m∧n1≤k∧Own wr (w.heap.size+2) 3 1 A1 n1 c1 ((pickB M no k).map encN)∧Blk wr (w.heap.size+1) 171 #[.int .i64 1,.slice A1 n1 c1,.slice none 0 0]∧Blk wr w.heap.size 171 #[.int .i64 0,.slice none 0 0,.slice none 0 0]∧Below w.heap.size w wr) (fun v _=>m - (intOf v).toNat)
 case atStart=>exact ⟨0,none,0,0,rfl,by omega,by omega,Own.nil_ _ _ _ _,hS1,hS0,((Below.refl _ _).alloc (Nat.le_refl _) _).alloc (by simp) _⟩
 case round =>
  obtain ⟨k,A1,n1,c1,rfl,hk,hnk,ho,hB1,hB0,hb⟩:=hrel
  by_cases hlt : k < m
  ·obtain ⟨x,hx⟩ : ∃ x,M[k]? = some x:=⟨_,List.getElem?_eq_getElem (by have:=Hm.out;omega)⟩
   obtain ⟨bk,off,rfl,cM⟩:=(hA.below hb).atBo hx
   have hpn:=pickB_next M no k
   have hgd : M.getD k false = x:=by rw [List.getD_eq_getElem?_getD,hx];rfl
   have hzr:=hB1.lt
   have p1:=hB1.cell 1
   simp only [List.getElem?_toArray,List.getElem?_cons_succ,List.getElem?_cons_zero] at p1
   cases hq : (x != no) with
   | true =>
    rw [hgd,hq,if_pos rfl] at hpn
    have hq2 : (x == no) = false:=by cases x <;> cases no <;> first | rfl | cases hq
    have Hpn:=Lib.hid hpn
    clear hpn hgd
    have T1:=(ho.alloc (.cells #[.int .i64 (k : Int)] 3))
    have T2 : (n1+1)*8≤140737488355328:=by omega
    have T3 : w.heap.size+2≤(wr.alloc (.cells #[.int .i64 (k : Int)] 3)).heap.size:=by simp;omega
    have T4:=encN_ok' [k]
    have T5 : Rd (wr.alloc (.cells #[.int .i64 (k : Int)] 3)) 1 (some ⟨wr.heap.size,0,none⟩) [encN k]:=Rd.newAt (by simp) rfl
    have T6 : n1+1≤maxLen:=by unfold maxLen;omega
    have hNE : some (w.heap.size+1) ≠ A1.map (·.block):=fun e=>by
     cases hA1 : A1 with
     | none=>rw [hA1] at e;cases e
     | some a=>rw [hA1] at e;injection e with e;have e2 : w.heap.size+1 = a.block:=e;have:=(ho.lt a hA1).1;omega
    go_wp2_with (at_builtin;refine wpList_app rfl (.tmp 22) (.tmp 24) _ rfl (w.heap.size+2) 3 i0 _ 1 8 Tryz.underlying40 hi0 hz0 hz1 hz2 rfl (by omega) A1 n1 c1 ((pickB M no k).map encN) rfl T1 _ 1 1 [encN k] rfl rfl T5 T4 T6 T2 T3 ?_;intro A3 c3 w5 ho5 hg5 hA5;have hB5:=(hB1.alloc (.cells #[.int .i64 (k : Int)] 3)).grown hg5 hNE;have d1:=hB5.cell 1;simp only [List.getElem?_toArray,List.getElem?_cons_succ,List.getElem?_cons_zero] at d1;have f1:=hB5.frozen 1)
    have hB50:=(hB0.alloc (.cells #[.int .i64 (k : Int)] 3)).grown hg5 (fun e=>by
     cases hA1 : A1 with
     | none=>rw [hA1] at e;cases e
     | some a=>rw [hA1] at e;injection e with e;have e2 : w.heap.size = a.block:=e;have:=(ho.lt a hA1).1;omega)
    have hb5:=below_app (hb.alloc (by omega) (.cells #[.int .i64 (k : Int)] 3)) hg5 (by simp;omega) (fun a ha=>by have:=(ho.lt a ha).1;omega)
    refine ⟨⟨k+1,A3,n1+1,c3,by go_num,by omega,by omega,by rw [Hpn.out,List.map_append];exact ho5.setCell (p:=⟨w.heap.size+1,1,none⟩) (fun a ha=>by have:=(ho5.lt a ha).1;simp;omega) _,by simpa using hB5.set_ 1 (.slice A3 (n1+1) c3),hB50.far (p:=⟨w.heap.size+1,1,none⟩) (by simp) _,hb5.setCell (p:=⟨w.heap.size+1,1,none⟩) (by simp) _⟩,?_⟩
    simp [intOf];omega
   | false =>
    rw [hgd,hq,if_neg (by decide),List.append_nil] at hpn
    have hq2 : (x == no) = true:=by cases x <;> cases no <;> first | rfl | cases hq
    have Hpn:=Lib.hid hpn
    clear hpn hgd
    go_wp2
    refine ⟨⟨k+1,A1,n1,c1,by go_num,by omega,by omega,by rw [Hpn.out];exact ho,hB1,hB0,hb⟩,?_⟩
    simp [intOf];omega
  ·have hkm : k = m:=by omega
   subst hkm
   have p0:=hB1.cell 0
   have p1:=hB1.cell 1
   have p2:=hB1.cell 2
   have z0:=hB0.cell 0
   have z1:=hB0.cell 1
   have z2:=hB0.cell 2
   simp only [List.getElem?_toArray,List.getElem?_cons_succ,List.getElem?_cons_zero] at p0 p1 p2 z0 z1 z2
   have g0:=hB0.frozen 0
   have g1:=hB0.frozen 1
   have g2:=hB0.frozen 2
   go_wp2
   have hf:=((hB0.set_ 0 (.int .i64 1)).set_ 1 (.slice A1 n1 c1)).set_ 2 (.slice none 0 0)
   refine bodyPost_ret (res_from _ w.heap.size (1,(A1,n1,c1),(none,0,0)) _ rfl (PCell.of_blk (by simpa using hf))) rfl ?_
   have hA1 : ∀ a,A1 = some a→a.block ≠ w.heap.size:=fun a ha=>by have:=(ho.lt a ha).1;omega
   refine ⟨_,rfl,?_,?_⟩
   ·simp only [PatX]
    refine ⟨trivial,⟨(((ho.setCell (p:=⟨w.heap.size,0,none⟩) hA1 _).setCell (p:=⟨w.heap.size,1,none⟩) hA1 _).setCell (p:=⟨w.heap.size,2,none⟩) hA1 _).rd (by decide),by have:=ho.len;simpa using this,fun a ha=>by have:=ho.lt a ha;exact ⟨by omega,by simp;omega⟩,ho.cap.1⟩,[],SlX.nil_ _ _ _,by simp only [PatsX]⟩
   ·exact ((hb.setCell (p:=⟨w.heap.size,0,none⟩) (Nat.le_refl _) _).setCell (p:=⟨w.heap.size,1,none⟩) (Nat.le_refl _) _).setCell (p:=⟨w.heap.size,2,none⟩) (Nat.le_refl _) _
end Go.Proofs.YtdngkienloligaaGreatDoor
/- -/
namespace Go.Proofs.YtdngkienloligaaGreatDoor
open Go.RowKit
theorem infoBoD : (Tryz.prog.info? 4).map (fun i=>(i.zero,i.size,i.bytes)) = some (some (.bool false),1,1):=by kernel_rfl
theorem letter_part {c : UInt8} (h : pLetter c = true) : pPart c = true:=by unfold pPart;rw [h];rfl
theorem pName_some {ns : List (List UInt8)} {l r2 : List UInt8} {i : Nat} (h : pName ns l = some (i,r2)) : i < ns.length∧r2 = l.dropWhile pPart:=by
 unfold pName at h
 split at h
 ·cases h
 ·split at h
  ·cases h
  ·rename_i j hj
   injection h with h
   injection h with h1 h2
   subst h1
   exact ⟨(List.findIdx?_eq_some_iff_getElem.1 hj).1,h2.symm⟩
theorem drop_less (q : UInt8→Bool) (l : List UInt8) : (l.dropWhile q).length≤l.length:=(List.dropWhile_suffix q).length_le
theorem name_less {ns : List (List UInt8)} {c : UInt8} {r r2 : List UInt8} {i : Nat} (h : pName ns (c :: r) = some (i,r2)) (hc : pLetter c = true) : r2.length < (c :: r).length:=by
 rw [(pName_some h).2,List.dropWhile_cons,if_pos (letter_part hc),List.length_cons]
 exact Nat.lt_succ_of_le (drop_less _ _)
theorem listGo_cases {ns : List (List UInt8)} {f : Nat} {l : List UInt8} {acc : List Nat} {res : List Nat × List UInt8} (h : listGo ns f l acc = some res) :
  ∃ c r,skipB l = c :: r∧((c.toNat = 93∧res = (acc,r))∨(c.toNat ≠ 93∧pLetter c = true∧∃ i r2 f',pName ns (c :: r) = some (i,r2)∧listGo ns f' r2 (i :: acc) = some res)):=by
 cases f with
 | zero=>cases h
 | succ f =>
  rw [listGo] at h
  split at h
  ·cases h
  ·rename_i c r hs
   refine ⟨c,r,hs,?_⟩
   split at h
   ·rename_i h93
    injection h with h
    exact .inl ⟨h93,h.symm⟩
   ·rename_i h93
    split at h
    ·rename_i hl
     split at h
     ·cases h
     ·rename_i i r2 hp
      exact .inr ⟨h93,hl,i,r2,f,hp,h⟩
    ·cases h
def marksP (acc : List Nat) (n : Nat) : List Bool:=(List.range n).map fun i=>acc.contains i
theorem marks_len (acc : List Nat) (n : Nat) : (marksP acc n).length = n:=by simp [marksP]
theorem marks_nil (n : Nat) : marksP [] n = List.replicate n false:=by
 unfold marksP
 rw [List.eq_replicate_iff]
 simp
theorem marks_set {acc : List Nat} {n i : Nat} : (marksP acc n).set i true = marksP (i :: acc) n:=by
 apply List.ext_getElem (by simp [marksP])
 intro k h1 h2
 rw [List.getElem_set]
 simp only [marksP,List.getElem_map,List.getElem_range,List.contains_cons]
 by_cases e : i = k
 ·subst e
  rw [if_pos rfl];simp
 ·rw [if_neg e,show (k == i) = false from beq_eq_false_iff_ne.2 (Ne.symm e),Bool.false_or]
theorem marks_at {acc : List Nat} {n i : Nat} (h : i < n) : (marksP acc n)[i]? = some (acc.contains i):=by
 unfold marksP
 rw [List.getElem?_map,List.getElem?_range h];rfl
theorem pick_marks (acc : List Nat) (n : Nat) (no : Bool) : pickB (marksP acc n) no n = (List.range n).filter fun i=>acc.contains i != no:=by
 unfold pickB
 apply List.filter_congr
 intro j hj
 rw [List.getD_eq_getElem?_getD,marks_at (List.mem_range.1 hj)];rfl
theorem made_noB (n : Nat) : (madeCells (Value.bool false).cells (n*1)).toList = ((List.replicate n false).map encBo).flatten:=by
 rw [Nat.mul_one]
 unfold madeCells
 rw [Array.toList_map,Array.toList_range]
 induction n with
 | zero=>rfl
 | succ n ih =>
  rw [List.range_succ,List.map_append,ih,List.replicate_succ',List.map_append,List.flatten_append]
  congr 1
  simp [Value.cells,encBo,Nat.mod_one]
theorem encBo_ok (l : List Bool) : ∀ y ∈ l.map encBo,y.length = 1∧∀ u ∈ y,u.oneCell' = true:=by
 intro y hy
 obtain ⟨x,_,rfl⟩:=List.mem_map.1 hy
 exact ⟨rfl,fun u hu=>by simp [encBo] at hu;subst hu;rfl⟩
set_option maxRecDepth 100000 in
theorem res_list (w : World) (b : Nat) (v : Pv) (tmps : Array Value) (ht : tmps.getD 2 undef = .pointer (some ⟨b,0,none⟩)) (hc : PCell w b v) : (results Tryz.f328 tmps).run Tryz.prog w = .ok (valPt v) w:=by
 have ht' : tmps[2]?.getD undef = .pointer (some ⟨b,0,none⟩):=by simpa [Array.getD_eq_getD_getElem?] using ht
 obtain ⟨h0,h1,h2⟩:=hc
 simp [results,Tryz.results328,go_sem,ht',h0,h1,h2,valPt]
theorem RS.belowB {w w' : World} {p B : Nat} {s : ByteArray} {A : Option Addr} {nn cn : Nat} {names : List (List UInt8)} {a d k : Nat} (h : RS w p s A nn cn names a d k) (hb : Below B w w') (hp : p < B) (hA : ∀ x,A = some x→x.block < B) : RS w' p s A nn cn names a d k :=
 ⟨(hb.block p hp).trans h.blk,h.nm.belowB hb hA,h.len,fun x hx=>⟨(h.off x hx).1,Nat.lt_of_lt_of_le (h.off x hx).2 hb.size⟩⟩
set_option maxRecDepth 100000 in
set_option maxHeartbeats 8000000 in
theorem jlist_any (p : Nat) (s : ByteArray) (A : Option Addr) (nn cn : Nat) (names : List (List UInt8)) (a d k f : Nat) (b : UInt8) (r1 rest : List UInt8) (acc : List Nat) (w : World)
  (h : RS w p s A nn cn names a d k) (hk : k < 512) (ha : a < s.size) (hs : s.size≤1000000) (hnz : nn≤1000000) (hsk : skipB (s.data.toList.drop (a+1)) = b :: r1)
  (hL : listGo names f (if b.toNat = 94 then r1 else b :: r1) [] = some (acc,rest)) :
  Calls Tryz.prog 328 #[.pointer (some ⟨p,0,none⟩)] w fun e w'=>∃ v x,e = .returned (valPt v)∧RS w' p s A nn cn names x d (k+1)∧s.data.toList.drop x = rest∧x≤s.size∧w.grownBy w' (some p)∧PatX w' (fun b=>w.heap.size≤b) (fromP nn acc (decide (b.toNat = 94))) v:=by
 obtain ⟨j0,hj0,hy0,hy1,hy2⟩:=info_parts infoBoD
 have hpw:=h.lt
 have hln:=h.len
 have HAw:=Lib.hid (fun x (hx : A = some x)=>(h.off x hx).2)
 have HC:=Lib.hid (fun W (h : RS W p s A nn cn names a d k)=>jcounts_any p s A nn cn names a d k a W h hk)
 have HS:=Lib.hid (fun x W (h : RS W p s A nn cn names x d (k+1)) (hx : x≤s.size)=>jsees_any p s A nn cn names x d (k+1) W h hx hs)
 have HN:=Lib.hid (fun x i0 rest W (h : RS W p s A nn cn names x d (k+1)) (hx : x≤s.size) (hP : pName names (s.data.toList.drop x) = some (i0,rest))=>jname_any p s A nn cn names x d (k+1) i0 rest W h hx hs hnz hP)
 have HF:=Lib.hid (fun A' c' M no W (hA : Rd W 1 A' (M.map encBo)) (hm : M.length = nn)=>jfrom_any nn A' nn c' M no W hA hm rfl hnz)
 have hw0:=h.below ((Below.refl w.heap.size w).alloc (Nat.le_refl _) (.cells #[.int .i64 0,.slice none 0 0,.slice none 0 0] 171))
 have cz:=hw0.c1
 obtain ⟨L0,HL0⟩ : ∃ L,Hid ((if b.toNat = 94 then r1 else b :: r1) = L):=⟨_,Lib.hid rfl⟩
 rw [HL0.out] at hL
 have HL:=Lib.hid hL
 obtain ⟨q,Hq⟩ : ∃ q,Hid (decide (b.toNat = 94) = q):=⟨_,Lib.hid rfl⟩
 have e94 : ((b.toNat : Int) == 94) = q:=by rw [← Hq.out,Bool.eq_iff_iff,beq_iff_eq,decide_eq_true_iff];omega
 have Hsk:=Lib.hid hsk
 rw [Hq.out]
 clear hL hsk h
 go_enter Tryz.func328,Tryz.ntmps328
 go_wp2_with fail
 refine (HC.out _ hw0).mono ?_
 rintro e w1 ⟨rfl,hr,hg⟩
 clear cz
 have hB0 : Blk w1 w.heap.size 171 #[.int .i64 0,.slice none 0 0,.slice none 0 0]:=(Blk.new w _ _).grown hg (fun e=>by injection e with e;omega)
 have hg0 : w.grownBy w1 (some p):=only_trans (only_alloc (only_refl w _) _) hg
 have c1:=hr.c1
 have f1:=hr.f 1
 have hr2:=hr.setAt (a+1)
 have ez : ((a+1 : Nat) : Int) = (a : Int)+1:=by omega
 rw [ez] at hr2
 have hB1:=hB0.far (p:=⟨p,1,none⟩) (by simp;omega) (.int .i64 ((a : Int)+1))
 have hg1:=only_setCell hg0 (p:=⟨p,1,none⟩) (.inl rfl) (.int .i64 ((a : Int)+1))
 have c5:=hr2.c5
 have h0:=HS.out (a+1) _ hr2 (by omega)
 rw [Hsk.out,show headN (b :: r1) = b.toNat from rfl] at h0
 have HS1:=Lib.hid h0
 clear h0 hB0 hg0 hg hr hw0 HC ez
 go_wp2_with fail
 refine HS1.out.mono ?_
 rintro e w2 ⟨rfl,x,hr3,hd,hx,hg3⟩
 have hB2:=hB1.grown hg3 (fun e=>by injection e with e;omega)
 have hg2:=only_trans hg1 hg3
 have Hd:=Lib.hid hd
 clear hd c1 f1 c5 hr2 hB1 hg1 hg3 HS1
 go_upto_if 29 with fail
 go_cut [3] from 7 to 37 (fun v wx=>v = .bool q∧∃ x,RS wx p s A nn cn names x d (k+1)∧Hid (s.data.toList.drop x = L0)∧x≤s.size∧w.grownBy wx (some p)∧Blk wx w.heap.size 171 #[.int .i64 0,.slice none 0 0,.slice none 0 0])
 case first =>
  cases q with
  | true =>
   have hb94:=of_decide_eq_true Hq.out
   have hxs : x < s.size:=Nat.lt_of_not_le fun hle=>by
    have h1:=Hd.out
    rw [drop_end s (by omega)] at h1
    cases h1
   have HD2:=Lib.hid (show s.data.toList.drop (x+1) = L0 by
    obtain ⟨b',h1,_⟩:=byte_at s hxs
    have h2:=Hd.out
    rw [h1] at h2
    injection h2 with _ h2
    rw [h2,← HL0.out,if_pos hb94])
   have c1:=hr3.c1
   have f1:=hr3.f 1
   have hr4:=hr3.setAt (x+1)
   have ez : ((x+1 : Nat) : Int) = (x : Int)+1:=by omega
   rw [ez] at hr4
   clear ez hb94
   go_wp2_with fail
   go_meet
   exact ⟨rfl,x+1,hr4,HD2,by omega,only_setCell hg2 (.inl rfl) _,hB2.far (p:=⟨p,1,none⟩) (by simp;omega) _⟩
  | false =>
   have hb94:=of_decide_eq_false Hq.out
   have HD2:=Lib.hid (show s.data.toList.drop x = L0 by rw [Hd.out,← HL0.out,if_neg hb94])
   clear hb94
   go_wp2_with fail
   go_meet
   exact ⟨rfl,x,hr3,HD2,hx,hg2,hB2⟩
 case rest =>
  clear hr3 Hd hx hg2 hB2 e94 Hsk
  obtain ⟨rfl,x,hr3,HD0,hx,hg2,hB2⟩:=hcut
  have c2:=hr3.c2
  have hbz:=hB2.lt
  go_wp2_with (at_make;go_must (refine wpList_make_full _ rfl (.tmp 41) (.tmp 41) 198 rfl (w.heap.size+1) 4 j0 (.bool false) 1 Tryz.underlying198 hj0 hy0 hy1 .i64 .i64 _ _ nn rfl rfl (by omega) (by omega) (by rw [hy2];omega) (by unfold maxLen;omega) (by omega) ?_);intro w4 ho4 hg4)
  have HO : Own w4 (w.heap.size+1) 4 1 (some ⟨wc.heap.size,0,none⟩) nn nn ((marksP [] nn).map encBo):=⟨by simp [marks_len],fun y hy=>(encBo_ok _ y hy).1,by rw [marks_nil,← made_noB];exact ho4⟩
  have hg40 : w.grownBy w4 (some p):=only_below hg2 (below_new hg4)
  have hr4:=hr3.below (below_new hg4)
  have hB4:=hB2.below (below_new hg4)
  have HL2 : Hid (listGo names f (s.data.toList.drop x) [] = some (acc,rest)):=Lib.hid (by rw [HD0.out];exact HL.out)
  clear ho4 hg4 hr3 hB2 hg2 c2 HL HD0 HL0 Hq
  generalize wc.heap.size = mb at HO hbz
  go_loopw [5,6] (fun _ _ wr=>∃ (x : Nat) (acc0 : List Nat) (f0 : Nat),RS wr p s A nn cn names x d (k+1)∧Hid (listGo names f0 (s.data.toList.drop x) acc0 = some (acc,rest))∧x≤s.size∧w.grownBy wr (some p)∧Blk wr w.heap.size 171 #[.int .i64 0,.slice none 0 0,.slice none 0 0]∧Own wr (w.heap.size+1) 4 1 (some ⟨mb,0,none⟩) nn nn ((marksP acc0 nn).map encBo)) (fun _ _ wr=>s.size - atOf wr p)
  case atStart=>exact ⟨x,[],f,hr4,HL2,hx,hg40,hB4,HO⟩
  case round =>
   clear hr4 HL2 hx hg40 hB4 HO
   obtain ⟨y,acc0,f0,hr,HG,hy,hg,hB,ho⟩:=hrel
   have Hat:=Lib.hid hr.atOf
   obtain ⟨c,r,hsk2,hcs⟩:=listGo_cases HG.out
   have Hcs:=Lib.hid hcs
   have hly : (c :: r).length≤s.size - y:=by
    rw [← hsk2]
    refine Nat.le_trans (drop_less _ _) ?_
    rw [List.length_drop,size_data];exact Nat.le_refl _
   have c5:=hr.c5
   have h0:=HS.out y _ hr hy
   rw [hsk2,show headN (c :: r) = c.toNat from rfl] at h0
   have HS2:=Lib.hid h0
   clear h0 hsk2 hcs HG
   go_wp2_with fail
   refine HS2.out.mono ?_
   rintro e w5 ⟨rfl,x1,hr5,hd5,hx1,hg5⟩
   have hxs : x1 < s.size:=Nat.lt_of_not_le fun hle=>by
    rw [drop_end s (by omega)] at hd5
    cases hd5
   have hl1 : (c :: r).length = s.size - x1:=by rw [← hd5,List.length_drop,size_data]
   have t1 : decide (s.size≤x1) = false:=decide_eq_false (by omega)
   have Hd5:=Lib.hid hd5
   have c0:=hr5.c0
   have c1:=hr5.c1
   have hB5:=hB.grown hg5 (fun e=>by injection e with e;omega)
   have ho5:=ho.grown hg5 (fun a ha e=>by injection ha with ha;subst ha;injection e with e;simp only at e;omega)
   have hgg:=only_trans hg hg5
   clear hr c5 hg hB ho HS2 hd5 hg5
   go_wp2_with fail
   go_quiet (fail)
   rcases Hcs.out with ⟨h93,hres⟩ | ⟨h93,hlet,i0,r2,f',hp,hL2⟩
   ·have t2 : ((c.toNat : Int) == 93) = true:=by rw [beq_iff_eq];omega
    have hxy : acc = acc0∧rest = r:=by injection hres with h1 h2;exact ⟨h1,h2⟩
    obtain ⟨rfl,rfl⟩:=hxy
    have HD2:=Lib.hid (show s.data.toList.drop (x1+1) = rest by
     obtain ⟨b',h1,_⟩:=byte_at s hxs
     have h2:=Hd5.out
     rw [h1] at h2
     injection h2)
    have f1:=hr5.f 1
    have hr6:=(hr5.drewN nq).setAt (x1+1)
    have ez : ((x1+1 : Nat) : Int) = (x1 : Int)+1:=by omega
    rw [ez] at hr6
    have c2:=hr6.c2
    have ho6 : Own ((w5.drewN nq).setCell ⟨p,1,none⟩ (.int .i64 ((x1 : Int)+1))) (w.heap.size+1) 4 1 (some ⟨mb,0,none⟩) nn nn ((marksP acc nn).map encBo):=(ho5.drewN nq).setCell (p:=⟨p,1,none⟩) (fun a ha e=>by injection ha with ha;subst ha;simp only at e;omega) _
    have hB6 : Blk ((w5.drewN nq).setCell ⟨p,1,none⟩ (.int .i64 ((x1 : Int)+1))) w.heap.size 171 #[.int .i64 0,.slice none 0 0,.slice none 0 0]:=(hB5.drewN nq).far (p:=⟨p,1,none⟩) (by simp;omega) _
    have hg6 : w.grownBy ((w5.drewN nq).setCell ⟨p,1,none⟩ (.int .i64 ((x1 : Int)+1))) (some p):=only_setCell (only_drewN hgg nq) (p:=⟨p,1,none⟩) (.inl rfl) _
    have HC2:=Lib.hid (HF.out _ nn (marksP acc nn) q _ (ho6.rd (by decide)) (marks_len _ _))
    clear ez Hcs hres hly hl1 Hat ho5 hB5 hgg hr5
    go_wp2_with fail
    refine HC2.out.mono ?_
    rintro e w7 ⟨v,rfl,hpat,hb7⟩
    have hB7:=hB6.below hb7
    have hr7:=hr6.below hb7
    have hg7:=only_below hg6 hb7
    have hz7:=hB6.lt
    rw [pick_marks] at hpat
    have Hpat:=Lib.hid hpat
    have z0:=hB7.cell 0
    have z1:=hB7.cell 1
    have z2:=hB7.cell 2
    simp only [List.getElem?_toArray,List.getElem?_cons_succ,List.getElem?_cons_zero] at z0 z1 z2
    have g0:=hB7.frozen 0
    have g1:=hB7.frozen 1
    have g2:=hB7.frozen 2
    clear HC2 hpat c2 hr6 ho6 hB6 hg6
    obtain ⟨v0,⟨A1,n1,c1'⟩,⟨A2,n2,c2'⟩⟩:=v
    simp only [valPt]
    go_wp2
    have hf:=((hB7.set_ 0 (.int .i64 (v0 : Int))).set_ 1 (.slice A1 n1 c1')).set_ 2 (.slice A2 n2 c2')
    have hg8 : w7.grownBy (((w7.setCell ⟨w.heap.size,0,none⟩ (.int .i64 (v0 : Int))).setCell ⟨w.heap.size,1,none⟩ (.slice A1 n1 c1')).setCell ⟨w.heap.size,2,none⟩ (.slice A2 n2 c2')) (some w.heap.size):=only_setCell (only_setCell (only_setCell (only_refl _ _) (p:=⟨w.heap.size,0,none⟩) (.inl rfl) _) (p:=⟨w.heap.size,1,none⟩) (.inl rfl) _) (p:=⟨w.heap.size,2,none⟩) (.inl rfl) _
    have hb8 : Below w.heap.size w7 (((w7.setCell ⟨w.heap.size,0,none⟩ (.int .i64 (v0 : Int))).setCell ⟨w.heap.size,1,none⟩ (.slice A1 n1 c1')).setCell ⟨w.heap.size,2,none⟩ (.slice A2 n2 c2')):=(((Below.refl _ _).setCell (p:=⟨w.heap.size,0,none⟩) (Nat.le_refl _) _).setCell (p:=⟨w.heap.size,1,none⟩) (Nat.le_refl _) _).setCell (p:=⟨w.heap.size,2,none⟩) (Nat.le_refl _) _
    refine bodyPost_ret (res_list _ w.heap.size (v0,(A1,n1,c1'),(A2,n2,c2')) _ rfl (PCell.of_blk (by simpa using hf))) rfl ?_
    refine ⟨_,x1+1,rfl,hr7.belowB hb8 hpw HAw.out,HD2.out,by omega,only_setCell (only_setCell (only_setCell hg7 (p:=⟨w.heap.size,0,none⟩) (.inr (Nat.le_refl _)) _) (p:=⟨w.heap.size,1,none⟩) (.inr (Nat.le_refl _)) _) (p:=⟨w.heap.size,2,none⟩) (.inr (Nat.le_refl _)) _,?_⟩
    exact PatX.keep ((KeepX.grown hg8 (fun r hr h=>by injection hr with hr;subst hr;omega)).trans (KeepX.same (fun b h _=>by show w.heap.size≤b;omega))) Hpat.out
   ·have t2 : ((c.toNat : Int) == 93) = false:=by rw [beq_eq_false_iff_ne];omega
    have hi0:=(pName_some hp).1
    rw [hln] at hi0
    have hlr:=name_less hp hlet
    have h1:=jletter_b c (w5.drewN nq)
    rw [hlet] at h1
    have HLt:=Lib.hid h1
    have HN2:=Lib.hid (HN.out x1 i0 r2 _ (hr5.drewN nq) hx1 (by rw [Hd5.out];exact hp))
    clear h1 hp Hcs
    have HLr:=Lib.hid hL2
    clear hL2
    go_wp2_with fail
    refine HLt.out.mono ?_
    rintro e w6 ⟨rfl,rfl⟩
    go_wp2_with fail
    refine HN2.out.mono ?_
    rintro e w6 ⟨rfl,x2,hr6,hd6,hx2,hg6⟩
    have c5:=hr6.c5
    have ho6:=(ho5.drewN nq).grown hg6 (fun a ha e=>by injection ha with ha;subst ha;injection e with e;simp only at e;omega)
    have hB6:=(hB5.drewN nq).grown hg6 (fun e=>by injection e with e;omega)
    have hst:=fun v=>ho6.stored (k:=i0) (j:=0) (x:=encBo (acc0.contains i0)) (by rw [List.getElem?_map,marks_at hi0];rfl) (by omega) v
    have hca:=ho6.cell (k:=i0) (j:=0) (x:=encBo (acc0.contains i0)) (u:=.bool (acc0.contains i0)) (by rw [List.getElem?_map,marks_at hi0];rfl) rfl
    have hfz:=ho6.frozen i0
    simp only [Nat.mul_one,Nat.add_zero] at hst hca
    have HS6 : Hid (Own (w6.setCell ⟨mb,i0,none⟩ (.bool true)) (w.heap.size+1) 4 1 (some ⟨mb,0,none⟩) nn nn ((marksP (i0 :: acc0) nn).map encBo)):=Lib.hid (by
     rw [← marks_set,List.map_set]
     exact hst _)
    have hb7 : Below w.heap.size w6 (w6.setCell ⟨mb,i0,none⟩ (.bool true)):=(Below.refl _ _).setCell (p:=⟨mb,i0,none⟩) (by simp;omega) _
    have hr7:=hr6.belowB hb7 hpw HAw.out
    have hB7:=hB6.far (p:=⟨mb,i0,none⟩) (by simp;omega) (.bool true)
    have hg7:=only_setCell (only_trans (only_drewN hgg nq) hg6) (p:=⟨mb,i0,none⟩) (.inr (by simp;omega)) (.bool true)
    have hl2 : r2.length = s.size - x2:=by rw [← hd6,List.length_drop,size_data]
    have Hm2:=Lib.hid (show s.size - x2 < s.size - y by omega)
    have HG2 : Hid (listGo names f' (s.data.toList.drop x2) (i0 :: acc0) = some (acc,rest)):=Lib.hid (by rw [hd6];exact HLr.out)
    have hi1 : (i0 : Int) < (nn : Int):=by omega
    have hi2 : (0 : Int)≤(i0 : Int):=by omega
    clear hst HLr hd6 hl2 hly hl1 hlr hi0 HLt HN2 hg6 hB6
    go_wp2
    refine ⟨⟨x2,i0 :: acc0,f',hr7,HG2,hx2,hg7,hB7,HS6.out⟩,?_⟩
    rw [hr7.atOf,Hat.out];exact Hm2.out
end Go.Proofs.YtdngkienloligaaGreatDoor
/- -/
namespace Go.Proofs.YtdngkienloligaaGreatDoor
open Go.RowKit
theorem atomP_cases {ns : List (List UInt8)} {f d k k' : Nat} {c : UInt8} {r rest : List UInt8} {pat : Pat} (h : atomP ns (f+1) d c r k = some (pat,rest,k')) :
  k < 512∧((c.toNat = 40∧d < 32∧∃ c2,patP ns f (d+1) r (k+1) = some (pat,c2 :: rest,k')) ∨
   (c.toNat = 91∧k' = k+1∧∃ b r1 acc,skipB r = b :: r1∧listGo ns f (if b.toNat = 94 then r1 else b :: r1) [] = some (acc,rest)∧pat = fromP ns.length acc (decide (b.toNat = 94))) ∨
   (c.toNat = 46∧pat = fromP ns.length [] true∧rest = r∧k' = k+1) ∨
   (c.toNat ≠ 40∧c.toNat ≠ 91∧c.toNat ≠ 46∧k' = k+1∧∃ i,pName ns (c :: r) = some (i,rest)∧pat = .node 1 [i] [])):=by
 rw [atomP] at h
 split at h
 ·cases h
 ·rename_i hk
  refine ⟨by omega,?_⟩
  split at h
  ·rename_i h40
   split at h
   ·cases h
   ·rename_i hd
    split at h
    ·cases h
    ·cases h
    ·rename_i p c2 l1 k1 hp
     injection h with h
     injection h with e1 e2
     injection e2 with e2 e3
     subst e1 e2 e3
     exact .inl ⟨h40,by omega,c2,hp⟩
  ·rename_i h40
   split at h
   ·rename_i h91
    split at h
    ·cases h
    ·rename_i b r1 hs
     split at h
     ·cases h
     ·rename_i acc l1 hl
      injection h with h
      injection h with e1 e2
      injection e2 with e2 e3
      subst e1 e2 e3
      exact .inr (.inl ⟨h91,rfl,b,r1,acc,hs,hl,rfl⟩)
   ·rename_i h91
    split at h
    ·rename_i h46
     injection h with h
     injection h with e1 e2
     injection e2 with e2 e3
     subst e1 e2 e3
     exact .inr (.inr (.inl ⟨h46,rfl,rfl,rfl⟩))
    ·rename_i h46
     split at h
     ·cases h
     ·rename_i i l1 hp
      injection h with h
      injection h with e1 e2
      injection e2 with e2 e3
      subst e1 e2 e3
      exact .inr (.inr (.inr ⟨h40,h91,h46,rfl,i,hp,rfl⟩))
def RdPost (w : World) (p : Nat) (s : ByteArray) (A : Option Addr) (nn cn : Nat) (names : List (List UInt8)) (d : Nat) (pat : Pat) (rest : List UInt8) (k' : Nat) (e : Ending) (w' : World) : Prop :=
 ∃ v x,e = .returned (valPt v)∧RS w' p s A nn cn names x d k'∧s.data.toList.drop x = rest∧x≤s.size∧w.grownBy w' (some p)∧PatX w' (fun b=>w.heap.size≤b) pat v
theorem pt_end {w w7 : World} {p B : Nat} {s : ByteArray} {A : Option Addr} {nn cn : Nat} {names : List (List UInt8)} {x d k : Nat} {a0 a1 a2 : Value} {pat : Pat} (v : Pv) (hB7 : Blk w7 w.heap.size 171 #[a0,a1,a2])
  (hr7 : RS w7 p s A nn cn names x d k) (hpw : p < w.heap.size) (hA : ∀ x,A = some x→x.block < w.heap.size) (hg7 : w.grownBy w7 (some p)) (hz : w.heap.size < B) (hpat : PatX w7 (fun b=>B≤b) pat v) :
  Blk (((w7.setCell ⟨w.heap.size,0,none⟩ (.int .i64 (v.1 : Int))).setCell ⟨w.heap.size,1,none⟩ (.slice v.2.1.1 v.2.1.2.1 v.2.1.2.2)).setCell ⟨w.heap.size,2,none⟩ (.slice v.2.2.1 v.2.2.2.1 v.2.2.2.2)) w.heap.size 171 #[.int .i64 (v.1 : Int),.slice v.2.1.1 v.2.1.2.1 v.2.1.2.2,.slice v.2.2.1 v.2.2.2.1 v.2.2.2.2] ∧
  RS (((w7.setCell ⟨w.heap.size,0,none⟩ (.int .i64 (v.1 : Int))).setCell ⟨w.heap.size,1,none⟩ (.slice v.2.1.1 v.2.1.2.1 v.2.1.2.2)).setCell ⟨w.heap.size,2,none⟩ (.slice v.2.2.1 v.2.2.2.1 v.2.2.2.2)) p s A nn cn names x d k ∧
  w.grownBy (((w7.setCell ⟨w.heap.size,0,none⟩ (.int .i64 (v.1 : Int))).setCell ⟨w.heap.size,1,none⟩ (.slice v.2.1.1 v.2.1.2.1 v.2.1.2.2)).setCell ⟨w.heap.size,2,none⟩ (.slice v.2.2.1 v.2.2.2.1 v.2.2.2.2)) (some p) ∧
  PatX (((w7.setCell ⟨w.heap.size,0,none⟩ (.int .i64 (v.1 : Int))).setCell ⟨w.heap.size,1,none⟩ (.slice v.2.1.1 v.2.1.2.1 v.2.1.2.2)).setCell ⟨w.heap.size,2,none⟩ (.slice v.2.2.1 v.2.2.2.1 v.2.2.2.2)) (fun b=>w.heap.size≤b) pat v:=by
 obtain ⟨v0,⟨A1,n1,c1'⟩,⟨A2,n2,c2'⟩⟩:=v
 have hf:=((hB7.set_ 0 (.int .i64 (v0 : Int))).set_ 1 (.slice A1 n1 c1')).set_ 2 (.slice A2 n2 c2')
 have hg8 : w7.grownBy (((w7.setCell ⟨w.heap.size,0,none⟩ (.int .i64 (v0 : Int))).setCell ⟨w.heap.size,1,none⟩ (.slice A1 n1 c1')).setCell ⟨w.heap.size,2,none⟩ (.slice A2 n2 c2')) (some w.heap.size):=only_setCell (only_setCell (only_setCell (only_refl _ _) (p:=⟨w.heap.size,0,none⟩) (.inl rfl) _) (p:=⟨w.heap.size,1,none⟩) (.inl rfl) _) (p:=⟨w.heap.size,2,none⟩) (.inl rfl) _
 have hb8 : Below w.heap.size w7 (((w7.setCell ⟨w.heap.size,0,none⟩ (.int .i64 (v0 : Int))).setCell ⟨w.heap.size,1,none⟩ (.slice A1 n1 c1')).setCell ⟨w.heap.size,2,none⟩ (.slice A2 n2 c2')):=(((Below.refl _ _).setCell (p:=⟨w.heap.size,0,none⟩) (Nat.le_refl _) _).setCell (p:=⟨w.heap.size,1,none⟩) (Nat.le_refl _) _).setCell (p:=⟨w.heap.size,2,none⟩) (Nat.le_refl _) _
 refine ⟨by simpa using hf,hr7.belowB hb8 hpw hA,only_setCell (only_setCell (only_setCell hg7 (p:=⟨w.heap.size,0,none⟩) (.inr (Nat.le_refl _)) _) (p:=⟨w.heap.size,1,none⟩) (.inr (Nat.le_refl _)) _) (p:=⟨w.heap.size,2,none⟩) (.inr (Nat.le_refl _)) _,?_⟩
 exact PatX.keep ((KeepX.grown hg8 (fun r hr h=>by injection hr with hr;subst hr;omega)).trans (KeepX.same (fun b h _=>by show w.heap.size≤b;omega))) hpat
set_option maxRecDepth 100000 in
theorem res_atom (w : World) (b : Nat) (v : Pv) (tmps : Array Value) (ht : tmps.getD 2 undef = .pointer (some ⟨b,0,none⟩)) (hc : PCell w b v) : (results Tryz.f307 tmps).run Tryz.prog w = .ok (valPt v) w:=by
 have ht' : tmps[2]?.getD undef = .pointer (some ⟨b,0,none⟩):=by simpa [Array.getD_eq_getD_getElem?] using ht
 obtain ⟨h0,h1,h2⟩:=hc
 simp [results,Tryz.results307,go_sem,ht',h0,h1,h2,valPt]
end Go.Proofs.YtdngkienloligaaGreatDoor
/- -/
namespace Go.Proofs.YtdngkienloligaaGreatDoor
open Go.RowKit
theorem opsGo_cases {f k k2 : Nat} {p q : Pat} {l l2 : List UInt8} (h : opsGo f p l k = some (q,l2,k2)) :
  (skipB l = []∧q = p∧l2 = []∧k2 = k)∨∃ c r,skipB l = c :: r∧((pOper c = 0∧q = p∧l2 = c :: r∧k2 = k)∨(pOper c ≠ 0∧k < 512∧∃ f',opsGo f' (.node (pOper c) [] [p]) r (k+1) = some (q,l2,k2))):=by
 cases f with
 | zero=>cases h
 | succ f =>
  rw [opsGo] at h
  split at h
  ·rename_i hs
   injection h with h
   injection h with e1 e2
   injection e2 with e2 e3
   exact .inl ⟨hs,e1.symm,e2.symm,e3.symm⟩
  ·rename_i c r hs
   refine .inr ⟨c,r,hs,?_⟩
   split at h
   ·rename_i h0
    injection h with h
    injection h with e1 e2
    injection e2 with e2 e3
    exact .inl ⟨h0,e1.symm,e2.symm,e3.symm⟩
   ·rename_i h0
    split at h
    ·cases h
    ·rename_i hk
     exact .inr ⟨h0,by omega,f,h⟩
theorem branchP_cases {ns : List (List UInt8)} {f d k k' : Nat} {acc : List Pat} {pat : Pat} {l rest : List UInt8} (h : branchP ns f d l k acc = some (pat,rest,k')) :
  (skipB l = []∧pat = seqOf acc∧rest = []∧k' = k)∨∃ c r,skipB l = c :: r∧((pBegins c = false∧pat = seqOf acc∧rest = c :: r∧k' = k) ∨
   (pBegins c = true∧∃ f' p l1 k1 q l2 k2,f = f'+1∧atomP ns f' d c r k = some (p,l1,k1)∧opsGo f' p l1 k1 = some (q,l2,k2)∧branchP ns f' d l2 k2 (acc++[q]) = some (pat,rest,k'))):=by
 cases f with
 | zero=>rw [branchP] at h;cases h
 | succ f =>
  rw [branchP] at h
  split at h
  ·rename_i hs
   injection h with h
   injection h with e1 e2
   injection e2 with e2 e3
   exact .inl ⟨hs,e1.symm,e2.symm,e3.symm⟩
  ·rename_i c r hs
   refine .inr ⟨c,r,hs,?_⟩
   split at h
   ·rename_i hb
    refine .inr ⟨hb,f,?_⟩
    split at h
    ·cases h
    ·rename_i p l1 k1 ha
     split at h
     ·cases h
     ·rename_i q l2 k2 ho
      exact ⟨p,l1,k1,q,l2,k2,rfl,ha,ho,h⟩
   ·rename_i hb
    injection h with h
    injection h with e1 e2
    injection e2 with e2 e3
    exact .inl ⟨by simpa using hb,e1.symm,e2.symm,e3.symm⟩
theorem altsP_cases {ns : List (List UInt8)} {f d k k' : Nat} {acc : List Pat} {pat : Pat} {l rest : List UInt8} (h : altsP ns f d l k acc = some (pat,rest,k')) :
  (skipB l = []∧pat = altOf acc∧rest = []∧k' = k)∨∃ c r,skipB l = c :: r∧((c.toNat = 124∧k < 512∧∃ f' p l1 k1,f = f'+1∧branchP ns f' d r (k+1) [] = some (p,l1,k1)∧altsP ns f' d l1 k1 (acc++[p]) = some (pat,rest,k')) ∨
   (c.toNat = 41∧0 < d∧pat = altOf acc∧rest = c :: r∧k' = k)):=by
 cases f with
 | zero=>rw [altsP] at h;cases h
 | succ f =>
  rw [altsP] at h
  split at h
  ·rename_i hs
   injection h with h
   injection h with e1 e2
   injection e2 with e2 e3
   exact .inl ⟨hs,e1.symm,e2.symm,e3.symm⟩
  ·rename_i c r hs
   refine .inr ⟨c,r,hs,?_⟩
   split at h
   ·rename_i hc
    split at h
    ·cases h
    ·rename_i hk
     split at h
     ·cases h
     ·rename_i p l1 k1 hb
      exact .inl ⟨hc,by omega,f,p,l1,k1,rfl,hb,h⟩
   ·split at h
    ·rename_i hc
     injection h with h
     injection h with e1 e2
     injection e2 with e2 e3
     exact .inr ⟨hc.1,hc.2,e1.symm,e2.symm,e3.symm⟩
    ·cases h
theorem patP_cases {ns : List (List UInt8)} {f d k k' : Nat} {pat : Pat} {l rest : List UInt8} (h : patP ns f d l k = some (pat,rest,k')) :
  ∃ f' p l1 k1,f = f'+1∧branchP ns f' d l k [] = some (p,l1,k1)∧altsP ns f' d l1 k1 [p] = some (pat,rest,k'):=by
 cases f with
 | zero=>rw [patP] at h;cases h
 | succ f =>
  rw [patP] at h
  split at h
  ·cases h
  ·rename_i p l1 k1 hb
   exact ⟨f,p,l1,k1,rfl,hb,h⟩
def UpTo (k k' : Nat) : Prop:=k≤k'∧(k≤512→k'≤512)
theorem UpTo.refl (k : Nat) : UpTo k k:=⟨Nat.le_refl _,id⟩
theorem UpTo.trans {a b c : Nat} (h : UpTo a b) (k : UpTo b c) : UpTo a c:=⟨Nat.le_trans h.1 k.1,fun q=>k.2 (h.2 q)⟩
theorem UpTo.one {k : Nat} (h : k < 512) : UpTo k (k+1):=⟨Nat.le_succ _,fun _=>h⟩
theorem ops_up : ∀ (f : Nat) {k k2 : Nat} {p q : Pat} {l l2 : List UInt8},opsGo f p l k = some (q,l2,k2)→UpTo k k2
 | 0,_,_,_,_,_,_,h=>by rw [opsGo] at h;cases h
 | f+1,k,k2,p,q,l,l2,h=>by
  rw [opsGo] at h
  split at h
  ·injection h with h;injection h with _ h;injection h with _ h;subst h;exact UpTo.refl _
  ·split at h
   ·injection h with h;injection h with _ h;injection h with _ h;subst h;exact UpTo.refl _
   ·split at h
    ·cases h
    ·rename_i hk
     exact (UpTo.one (by omega)).trans (ops_up f h)
theorem parts_up (ns : List (List UInt8)) : ∀ f : Nat,
  (∀ {d k k' : Nat} {pat : Pat} {l rest : List UInt8},patP ns f d l k = some (pat,rest,k')→UpTo k k') ∧
  (∀ {d k k' : Nat} {acc : List Pat} {pat : Pat} {l rest : List UInt8},altsP ns f d l k acc = some (pat,rest,k')→UpTo k k') ∧
  (∀ {d k k' : Nat} {acc : List Pat} {pat : Pat} {l rest : List UInt8},branchP ns f d l k acc = some (pat,rest,k')→UpTo k k') ∧
  (∀ {d k k' : Nat} {c : UInt8} {pat : Pat} {r rest : List UInt8},atomP ns f d c r k = some (pat,rest,k')→k < 512∧UpTo (k+1) k')
 | 0=>⟨fun h=>(by rw [patP] at h;cases h),fun h=>(by rw [altsP] at h;cases h),fun h=>(by rw [branchP] at h;cases h),fun h=>(by rw [atomP] at h;cases h)⟩
 | f+1=>by
  obtain ⟨i1,i2,i3,i4⟩:=parts_up ns f
  refine ⟨fun h=>?_,fun h=>?_,fun h=>?_,fun h=>?_⟩
  ·obtain ⟨f',p,l1,k1,e,hb,ha⟩:=patP_cases h
   injection e with e
   subst e
   exact (i3 hb).trans (i2 ha)
  ·rcases altsP_cases h with ⟨_,_,_,rfl⟩ | ⟨c,r,_,⟨_,hk,f',p,l1,k1,e,hb,ha⟩ | ⟨_,_,_,_,rfl⟩⟩
   ·exact UpTo.refl _
   ·injection e with e
    subst e
    exact (UpTo.one hk).trans ((i3 hb).trans (i2 ha))
   ·exact UpTo.refl _
  ·rcases branchP_cases h with ⟨_,_,_,rfl⟩ | ⟨c,r,_,⟨_,_,_,rfl⟩ | ⟨_,f',p,l1,k1,q,l2,k2,e,ha,ho,hb⟩⟩
   ·exact UpTo.refl _
   ·exact UpTo.refl _
   ·injection e with e
    subst e
    obtain ⟨hk,hu⟩:=i4 ha
    exact (UpTo.one hk).trans (hu.trans ((ops_up _ ho).trans (i3 hb)))
  ·obtain ⟨hk,hcs⟩:=atomP_cases h
   refine ⟨hk,?_⟩
   rcases hcs with ⟨_,_,c2,hp⟩ | ⟨_,rfl,_⟩ | ⟨_,_,_,rfl⟩ | ⟨_,_,_,rfl,_⟩
   ·exact i1 hp
   ·exact UpTo.refl _
   ·exact UpTo.refl _
   ·exact UpTo.refl _
end Go.Proofs.YtdngkienloligaaGreatDoor
/- -/
namespace Go.Proofs.YtdngkienloligaaGreatDoor
open Go.RowKit
structure RsX (w : World) (X : Nat→Prop) (rules : List RuleP) (v : Sv) : Prop where
 ex : ∃ vs : List Ruv,SlX w X 9 v (vs.map encRul)∧vs.length = rules.length∧∀ (i : Nat) (r : RuleP) (u : Ruv),rules[i]? = some r→vs[i]? = some u→RuX w X r u
theorem RsX.keep {X X' : Nat→Prop} {w w' : World} {rules : List RuleP} {v : Sv} (h : RsX w X rules v) (k : KeepX X X' w w') : RsX w' X' rules v:=by
 obtain ⟨vs,h1,h2,h3⟩:=h.ex
 exact ⟨vs,h1.keep k,h2,fun i r u hr hu=>(h3 i r u hr hu).keep k⟩
theorem RsX.below {X : Nat→Prop} {w w' : World} {rules : List RuleP} {v : Sv} (h : RsX w X rules v) (hb : Below w.heap.size w w') : RsX w' X rules v:=h.keep (KeepX.below hb)
theorem RsX.len {X : Nat→Prop} {w : World} {rules : List RuleP} {v : Sv} (h : RsX w X rules v) : v.2.1 = rules.length:=by
 obtain ⟨vs,h1,h2,h3⟩:=h.ex
 have:=h1.len
 rw [List.length_map] at this
 omega
theorem RsX.at_ {X : Nat→Prop} {w : World} {rules : List RuleP} {v : Sv} {i : Nat} {r : RuleP} (h : RsX w X rules v) (hr : rules[i]? = some r) :
  ∃ (b off : Nat) (u : Ruv),v.1 = some ⟨b,off,none⟩∧RuX w X r u∧w.cell? ⟨b,off+i*9,none⟩ = some (.bool u.1)∧w.cell? ⟨b,off+i*9+1,none⟩ = some (.bool u.2.1)∧w.cell? ⟨b,off+i*9+2,none⟩ = some (.bool u.2.2.1) ∧
   w.cell? ⟨b,off+i*9+3,none⟩ = some (.int .i64 (u.2.2.2.1.1 : Int))∧w.cell? ⟨b,off+i*9+4,none⟩ = some (.slice u.2.2.2.1.2.1.1 u.2.2.2.1.2.1.2.1 u.2.2.2.1.2.1.2.2)∧w.cell? ⟨b,off+i*9+5,none⟩ = some (.slice u.2.2.2.1.2.2.1 u.2.2.2.1.2.2.2.1 u.2.2.2.1.2.2.2.2) ∧
   w.cell? ⟨b,off+i*9+6,none⟩ = some (.int .i64 (u.2.2.2.2.1 : Int))∧w.cell? ⟨b,off+i*9+7,none⟩ = some (.slice u.2.2.2.2.2.1.1 u.2.2.2.2.2.1.2.1 u.2.2.2.2.2.1.2.2)∧w.cell? ⟨b,off+i*9+8,none⟩ = some (.slice u.2.2.2.2.2.2.1 u.2.2.2.2.2.2.2.1 u.2.2.2.2.2.2.2.2):=by
 obtain ⟨vs,h1,h2,h3⟩:=h.ex
 obtain ⟨u,hu⟩ : ∃ u,vs[i]? = some u:=⟨_,List.getElem?_eq_getElem (by have:=(List.getElem?_eq_some_iff.1 hr).1;omega)⟩
 obtain ⟨b,off,e,hc⟩:=h1.rd (by intro e;cases vs with | nil=>simp at hu | cons _ _=>simp at e)
 have hg:=fun j (x : Value) (hx : (encRul u)[j]? = some x)=>hc i j (encRul u) x (by simp [hu]) hx
 exact ⟨b,off,u,e,h3 i r u hr hu,hg 0 _ rfl,hg 1 _ rfl,hg 2 _ rfl,hg 3 _ rfl,hg 4 _ rfl,hg 5 _ rfl,hg 6 _ rfl,hg 7 _ rfl,hg 8 _ rfl⟩
def valRs (v : Sv) (rest : Bool) : Value:=.agg #[.slice v.1 v.2.1 v.2.2,.bool rest]
end Go.Proofs.YtdngkienloligaaGreatDoor
/- -/
namespace Go.Proofs.YtdngkienloligaaGreatDoor
open Go.RowKit Go.Maps
set_option maxRecDepth 100000 in
set_option maxHeartbeats 8000000 in
theorem vrest_any (p base x : Nat) (d : DbP) (w : World) (hd : RfB w base p x d.names d.sets) (ho : d.Ok) (ha : Apart d.sets) (hB : base≤w.heap.size) :
  Calls Tryz.prog 186 #[.pointer (some ⟨p,0,none⟩)] w fun e w'=>e = .returned (.tuple #[])∧RfB w' base p x d.names d.full∧Below base w w':=by
 obtain ⟨An,nn,cn,As,ns,cs,xs,hX⟩:=hd.ex
 obtain ⟨j0,hj0,hy0,hy1,hy2⟩:=info_parts infoR
 have hns1 : 0 < ns:=by
  have h1:=hX.lenS.2;have h2:=ho.len;have h3:=ho.head
  cases hd : d.names with
  | nil=>rw [hd] at h3;cases h3
  | cons a b=>rw [hd] at h2;simp at h2;omega
 obtain ⟨g,HAs,hgB,hgw⟩:=hX.hs.form hns1
 subst HAs
 have hns64 : ns≤64:=by have h1:=hX.lenS.2;have h2:=ho.len;have h3:=ho.few;omega
 obtain ⟨T,HT⟩ : ∃ T,Hid (d.sets.tail = T):=⟨_,rfl⟩
 have hTl : T.length+1 = ns:=by have h1:=hX.lenS.2;have:=HT.out;rw [← this,List.length_tail];omega
 have HTl:=Lib.hid hTl
 have HTS : Hid (lenS T≤1114112):=Lib.hid (by have:=rng_len ho ha;rw [← HT.out];omega)
 have HTN : Hid (∀ (k : Nat) (s : List (Int × Int)),T[k]? = some s→NF s∧d.sets[k+1]? = some s):=Lib.hid (fun k s hk=>by
  have : d.sets[k+1]? = some s:=by rw [← HT.out] at hk;rw [List.getElem?_tail] at hk;exact hk
  exact ⟨ho.nf s (List.mem_of_getElem? this),this⟩)
 have HFS:=Lib.hid (full_set ho)
 have HRest : Hid (d.rest = notR (T.flatten)):=Lib.hid (by unfold DbP.rest;rw [HT.out])
 have c1:=hX.blk.cell 1
 simp at c1
 clear ho ha hTl hd
 go_enter Tryz.func186,Tryz.ntmps186
 go_wp2_with fail
 go_loopw [2,3] (fun a v wr=>∃ (c : Nat) (Aa : Option Addr) (na ca : Nat),a = .slice Aa na ca∧v = .int .i64 (c+1 : Nat)∧c+1≤ns∧Own wr w.heap.size 211 2 Aa na ca (((T.take c).flatten).map encR)∧Below w.heap.size w wr) (fun _ v _=>ns - (intOf v).toNat)
 case atStart=>exact ⟨0,none,0,0,rfl,rfl,by omega,by simp;exact Own.nil_ _ _ _ _,Below.refl _ _⟩
 case round =>
  obtain ⟨c,Aa,na,ca,rfl,rfl,hc,hal,hb⟩:=hrel
  have hszr:=hb.size
  have e1:=cell_keep c1 hb
  have hfl:=Lib.hid (flat_le T c)
  have hnal : na≤1114112:=by have h1:=hal.len;rw [List.length_map] at h1;have:=hfl.out;have:=HTS.out;omega
  by_cases hlt : c+1 < ns
  ·obtain ⟨s,Hs⟩ : ∃ s,Hid (T[c]? = some s):=⟨_,Lib.hid (List.getElem?_eq_getElem (show c < T.length by have:=HTl.out;omega))⟩
   obtain ⟨HNF,Hd⟩:=HTN.out c s Hs.out
   obtain ⟨⟨yA,yn,yc⟩,Hy⟩ : ∃ y,Hid (xs[c+1]? = some y):=⟨_,Lib.hid (List.getElem?_eq_getElem (show c+1 < xs.length by have:=hX.lenS.1;omega))⟩
   have hoy : Own w base 211 2 yA yn yc (s.map encR):=hX.hx.own (c+1) (yA,yn,yc) s Hy.out Hd
   have hly : s.length = yn:=by simpa using hoy.len
   have Hly:=Lib.hid hly
   have hny:=own_nf_len hoy HNF
   have hcell:=cell_keep (hX.hs.cell' rfl Hy.out) hb
   have hoq:=hoy.below hb
   have HFN:=Lib.hid (flat_next Hs.out)
   have hfl2:=Lib.hid (flat_le T (c+1))
   have hbound : na+yn≤1114112:=by
    have h1:=hal.len;rw [List.length_map] at h1
    have h2:=hfl2.out;rw [HFN.out,List.length_append] at h2;have:=HTS.out;omega
   have hI : (c : Int)+1 < ns:=by omega
   clear HNF Hd hly
   go_wp2_with (at_builtin;go_must (refine wpList_app rfl (.tmp 13) (.tmp 20) _ rfl w.heap.size 211 j0 _ 2 8 Tryz.underlying186 hj0 hy0 hy1 hy2 rfl (by omega) Aa na ca (((T.take c).flatten).map encR) rfl hal yA yn yc (s.map encR) rfl (by rw [List.length_map];exact Hly.out) (hoq.rd (by omega)) (encR_ok s) (by unfold maxLen;omega) (by omega) (by omega) ?_);intro A3 c3 w3 ho3 hg3 hA3)
   have Ho3 : Own w3 w.heap.size 211 2 A3 (na+yn) c3 (((T.take (c+1)).flatten).map encR):=by rw [HFN.out,List.map_append];exact ho3
   have hb3:=below_app hb hg3 hszr (fun a ha=>(hal.lt a ha).1)
   clear ho3 hg3
   go_roundw
   case rel=>exact ⟨c+1,A3,na+yn,c3,rfl,by go_num,by omega,Ho3,hb3⟩
   case measure=>simp [intOf];omega
  ·obtain rfl : c+1 = ns:=by omega
   have HFe : Hid ((T.take c).flatten = T.flatten):=Lib.hid (by rw [List.take_of_length_le (by have:=HTl.out;omega)])
   rw [HFe.out] at hal
   have hXr:=hX.below hb
   have HNot:=Lib.hid (sNot_any Aa na ca T.flatten wr.drew ((hal.rd (by omega)).drew) (by have h1:=hal.len;rw [List.length_map] at h1;exact h1) (by omega))
   obtain ⟨y0,hy0'⟩ : ∃ y,xs[0]? = some y:=⟨_,List.getElem?_eq_getElem (show 0 < xs.length by have:=hX.lenS.1;omega)⟩
   have k0:=hXr.hs.cell' rfl hy0'
   have hXd:=hXr.below (w':=wr.drew) ((Below.refl _ _).drew)
   have hBr : base≤wr.heap.size:=by omega
   go_wp2_with fail
   refine wp_region_noPanic ?_
   go_region_law (go_simp;go_at_call 232;refine HNot.out.mono ?_;rintro e wz ⟨A',n',c',rfl,ho',hb'⟩;have kz0:=cell_keep (w:=wr.drew) k0 hb';have kz1:=cell_keep (w:=wr.drew) e1 hb';have kzf:=(hXd.hs.below hb').frozen 0)
   all_goals
    refine NoPanic.normal ?_
    have hDz:=(hXd.below hb').storeSet (k:=0) (y:=(A',n',c')) (l:=d.rest) (by omega) (by rw [HRest.out];exact ho') hBr
    have hbz:=(((hb.mono hB).trans ((Below.refl wr.heap.size wr).drew.mono hBr)).trans (hb'.mono hBr)).trans hDz.2.1
    rw [HFS.out] at hDz
    go_wp2
    first | exact ⟨_,results_none rfl _ _ _,rfl,⟨_,_,_,_,_,_,_,hDz.1⟩,hbz⟩ | exact ⟨_,rfl,results_none rfl _ _ _,rfl,⟨_,_,_,_,_,_,_,hDz.1⟩,hbz⟩ | exact ⟨rfl,_,results_none rfl _ _ _,rfl,⟨_,_,_,_,_,_,_,hDz.1⟩,hbz⟩
def RNewEnd (r : Except (Int × Nat) DbP) (e : Ending) (w' : World) (base : Nat) : Prop :=
 match r with
 | .error x=>e = .returned (.tuple #[.pointer none,.int .i64 x.1,.int .i64 (x.2 : Int)])
 | .ok d=>∃ p x,e = .returned (.tuple #[.pointer (some ⟨p,0,none⟩),.int .i64 0,.int .i64 0])∧RfB w' base p x d.names d.full
theorem RNewEnd.err {r : Except (Int × Nat) DbP} {k : Int} {i : Nat} {w' : World} {base : Nat} (h : r = .error (k,i)) : RNewEnd r (.returned (.tuple #[.pointer none,.int .i64 k,.int .i64 (i : Int)])) w' base:=by rw [h];exact rfl
theorem RNewEnd.fine {r : Except (Int × Nat) DbP} {d : DbP} {p x : Nat} {w' : World} {base : Nat} (h : r = .ok d) (hd : RfB w' base p x d.names d.full) : RNewEnd r (.returned (.tuple #[.pointer (some ⟨p,0,none⟩),.int .i64 0,.int .i64 0])) w' base:=by rw [h];exact ⟨p,x,rfl,hd⟩
theorem step_err {d : DbP} {L : List UInt8} {k : Int} (h : stepL d L = .error k) : 6≤k:=by
 unfold stepL at h
 split at h
 ·cases h
 ·injection h with h;omega
 ·exact addL_err h
theorem rfX_first (w : World) :
  RfX (((w.alloc (.cells #[.string (bytesOf otherL)] 9)).alloc (.cells #[.slice none 0 0] 186)).alloc (.cells #[.slice (some ⟨w.heap.size,0,none⟩) 1 1,.slice (some ⟨w.heap.size+1,0,none⟩) 1 1] 158)) w.heap.size (w.heap.size+2) (w.heap.size+3)
   (some ⟨w.heap.size,0,none⟩) 1 1 (some ⟨w.heap.size+1,0,none⟩) 1 1 [(none,0,0)] [otherL] [[]] ∧
  Below w.heap.size w (((w.alloc (.cells #[.string (bytesOf otherL)] 9)).alloc (.cells #[.slice none 0 0] 186)).alloc (.cells #[.slice (some ⟨w.heap.size,0,none⟩) 1 1,.slice (some ⟨w.heap.size+1,0,none⟩) 1 1] 158)):=by
 have n1 : Own (w.alloc (.cells #[.string (bytesOf otherL)] 9)) w.heap.size 9 1 (some ⟨w.heap.size,0,none⟩) 1 1 ([otherL].map encNm):=own_one (Nat.le_refl _)
 have s2 : Own ((w.alloc (.cells #[.string (bytesOf otherL)] 9)).alloc (.cells #[.slice none 0 0] 186)) w.heap.size 186 1 (some ⟨w.heap.size+1,0,none⟩) 1 1 ([((none : Option Addr),0,0)].map encSl):=by
  have:=own_one (w:=w.alloc (.cells #[.string (bytesOf otherL)] 9)) (t:=186) (u:=.slice none 0 0) (base:=w.heap.size) (by simp)
  rw [show (w.alloc (.cells #[.string (bytesOf otherL)] 9)).heap.size = w.heap.size+1 by simp] at this
  exact this
 refine ⟨⟨?_,by omega,(n1.alloc _).alloc _,s2.alloc _,⟨rfl,?_⟩,by omega,fun a ha=>by injection ha with ha;subst ha;show w.heap.size ≠ w.heap.size+3;omega,fun a ha=>by injection ha with ha;subst ha;show w.heap.size+1 ≠ w.heap.size+3;omega⟩,?_⟩
 ·have:=Blk.new ((w.alloc (.cells #[.string (bytesOf otherL)] 9)).alloc (.cells #[.slice none 0 0] 186)) 158 #[.slice (some ⟨w.heap.size,0,none⟩) 1 1,.slice (some ⟨w.heap.size+1,0,none⟩) 1 1]
  simpa using this
 ·intro k x l hx hl
  match k,hx,hl with
  | 0,hx,hl=>simp at hx hl;subst hx;subst hl;exact Own.nil_ _ _ _ _
  | k+1,hx,hl=>simp at hx
 ·exact (((Below.refl _ _).alloc (Nat.le_refl _) _).alloc (by simp) _).alloc (by simp;omega) _
set_option maxRecDepth 100000 in
set_option maxHeartbeats 8000000 in
theorem vNew_any (t : List UInt8) (w : World) (ht : t.length≤maxLen) :
  Calls Tryz.prog 139 #[.string (bytesOf t)] w fun e w'=>RNewEnd (newP t) e w' w.heap.size∧Below w.heap.size w w':=by
 have hsz : (bytesOf t).size = t.length:=bytesOf_size t
 unfold maxLen at ht
 by_cases hl : 65536 < t.length
 ·have HE:=Lib.hid (newP_long hl)
  go_enter Tryz.func139,Tryz.ntmps139
  go_wp2
  go_ret3
  exact ⟨RNewEnd.err HE.out,Below.refl _ _⟩
 ·have HG:=Lib.hid (newP_go hl)
  obtain ⟨hX,hB0⟩:=rfX_first w
  have hw3 : w.heap.size+3 = (((w.alloc (.cells #[.string (bytesOf otherL)] 9)).alloc (.cells #[.slice none 0 0] 186)).alloc (.cells #[.slice (some ⟨w.heap.size,0,none⟩) 1 1,.slice (some ⟨w.heap.size+1,0,none⟩) 1 1] 158)).heap.size:=by simp
  obtain ⟨L,HL⟩ : ∃ L,Hid (splitL t = L):=⟨_,rfl⟩
  have HLl:=Lib.hid (fun i l (h : L[i]? = some l)=>line_len (t:=t) (i:=i) (l:=l) (by rw [HL.out];exact h))
  have HLn : Hid (L.length≤65537):=Lib.hid (by rw [← HL.out,splitL_count];have:=List.count_le_length (a:=(10 : UInt8)) (l:=t);omega)
  have HNP : Hid (newP t = linesGo DbP.first L 0):=Lib.hid (by rw [HG.out,HL.out])
  have HV:=Lib.hid (fun W=>vLines_any t W (by omega))
  rw [HL.out] at HV
  go_enter Tryz.func139,Tryz.ntmps139
  go_wp2_with fail
  rw [show (⟨#[79,116,104,101,114]⟩ : ByteArray) = bytesOf otherL from rfl]
  generalize ((w.alloc (.cells #[.string (bytesOf otherL)] 9)).alloc (.cells #[.slice none 0 0] 186)).alloc (.cells #[.slice (some ⟨w.heap.size,0,none⟩) 1 1,.slice (some ⟨w.heap.size+1,0,none⟩) 1 1] 158) = w3 at hX hB0 hw3 ⊢
  refine (HV.out w3).mono ?_
  rintro e w4 ⟨AL,nL,cL,rfl,hoL,hb4⟩
  have hnL : L.length = nL:=by simpa using hoL.len
  have hX4:=hX.below hb4
  have hB4:=below_step hB0 hb4 (by have:=hB0.size;omega)
  have HnL:=Lib.hid hnL
  have HLne : Hid (L ≠ []):=Lib.hid (by rw [← HL.out];exact splitL_ne t)
  clear hnL HG HL
  obtain ⟨x,hxw,hXx,hcells⟩ : ∃ x,x < w4.heap.size∧RfX w4 w.heap.size (w.heap.size+2) x (some ⟨w.heap.size,0,none⟩) 1 1 (some ⟨w.heap.size+1,0,none⟩) 1 1 [(none,0,0)] [otherL] [[]] ∧
    (∀ W : World,W.heap[x]? = w4.heap[x]?→∀ i l,L[i]? = some l→∃ off,AL = some ⟨x,off,none⟩∧W.cell? ⟨x,off+i,none⟩ = some (.string (bytesOf l))):=by
   have h0 : 0 < nL:=by
    cases hq : L with
    | nil=>exact absurd hq HLne.out
    | cons a b=>rw [← HnL.out,hq];simp
   obtain ⟨gx,hgx,hg1,hg2⟩:=hoL.form h0
   subst hgx
   refine ⟨gx,hg2,{ hX4 with xp:=by omega,xn:=fun a ha=>by injection ha with ha;subst ha;show w.heap.size ≠ gx;omega,xs_:=fun a ha=>by injection ha with ha;subst ha;show w.heap.size+1 ≠ gx;omega },fun W hW i l hl=>?_⟩
   have h1:=hoL.cell (k:=i) (j:=0) (x:=encNm l) (u:=.string (bytesOf l)) (by rw [List.getElem?_map,hl];rfl) rfl
   simp only [Nat.mul_one,Nat.add_zero] at h1
   exact ⟨0,rfl,by rw [Nat.zero_add];exact (World.cell?_of_block hW).trans h1⟩
  have HCells:=Lib.hid hcells
  have hsw:=hB4.size
  clear hcells hX hX4 hB0 hw3 hb4 hoL
  generalize w.heap.size+2 = p at hXx ⊢
  go_wp2_with fail
  go_loopw [7] (fun v wr=>∃ (i : Nat) (d : DbP),v = .int .i64 i∧i≤L.length∧RfB wr w.heap.size p x d.names d.sets∧wr.heap[x]? = w4.heap[x]?∧Hid (NewAt L i d)∧Below w.heap.size w wr∧x < wr.heap.size) (fun v _=>L.length - (intOf v).toNat)
  case atStart=>exact ⟨0,DbP.first,rfl,by omega,⟨_,_,_,_,_,_,_,hXx⟩,rfl,newAt_first L,hB4,hxw⟩
  case round =>
   clear hXx
   obtain ⟨i,d,rfl,hi,hd,hxr,HN,hb,hxl⟩:=hrel
   have hszr:=hb.size
   have hnl:=HnL.out
   by_cases hlt : i < L.length
   ·obtain ⟨l,Hl⟩ : ∃ l,Hid (L[i]? = some l):=⟨_,Lib.hid (List.getElem?_eq_getElem hlt)⟩
    obtain ⟨off,rfl,hcell⟩:=HCells.out wr hxr i l Hl.out
    have hll:=HLl.out i l Hl.out
    have HN2:=HLn.out
    have HA:=Lib.hid (vline_any p w.heap.size x d l wr hd HN.out.2.2.1 hxl hszr (by omega))
    have hltn : i < nL:=by omega
    clear hnl
    cases hs : stepL d l with
    | error k =>
     rw [hs] at HA
     have hk0 : ((k : Int) != 0) = true:=by rw [bne_iff_ne];have:=step_err hs;omega
     have HE:=Lib.hid (HNP.out.trans (newAt_err HN.out Hl.out hs))
     clear hs
     go_wp2_with fail
     refine HA.out.mono ?_
     rintro e w6 ⟨hk,hae⟩
     have he : e = .returned (.int .i64 k):=hae
     subst he
     go_wp2
     go_ret3
     exact ⟨RNewEnd.err HE.out,hb.trans hk.1⟩
    | ok d' =>
     rw [hs] at HA
     have HN':=Lib.hid (newAt_next HN.out Hl.out hs)
     clear hs
     go_wp2_with fail
     refine HA.out.mono ?_
     rintro e w6 ⟨hk,rfl,hd'⟩
     go_wp2
     go_roundw
     case rel=>exact ⟨i+1,d',by go_num,by omega,hd',(hk.2 hxl).trans hxr,HN',hb.trans hk.1,Nat.lt_of_lt_of_le hxl hk.1.size⟩
     case measure=>simp [intOf];omega
   ·have HE:=Lib.hid (HNP.out.trans (newAt_end HN.out hlt))
    have HC:=Lib.hid (vrest_any p w.heap.size x d wr hd HN.out.2.2.1 HN.out.2.2.2 hszr)
    go_wp2_with (go_at_call 186;refine HC.out.mono ?_;rintro e w5 ⟨rfl,hda,hb5⟩)
    go_ret3
    exact ⟨RNewEnd.fine HE.out hda,hb.trans hb5⟩
end Go.Proofs.YtdngkienloligaaGreatDoor
/- -/
namespace Go.Proofs.YtdngkienloligaaGreatDoor
open Go.RowKit
def nmL (r : Int) : List UInt8:=(linesD.names[gL r]?).getD []
set_option maxRecDepth 100000 in
set_option maxHeartbeats 4000000 in
theorem xDb_any (w : World) :
  Calls Tryz.prog 116 #[] w fun e w'=>∃ p x,e = .returned (.pointer (some ⟨p,0,none⟩))∧RfB w' w.heap.size p x linesD.names linesD.full∧Below w.heap.size w w':=by
 go_enter Tryz.func116,Tryz.ntmps116
 generalize hT : ByteArray.mk _ = T
 have HN : newP T.data.toList = .ok linesD:=by rw [← hT];exact new_K (by kernel_rfl) (by kernel_rfl)
 have hTl : T.data.toList.length≤maxLen:=by rw [← hT];exact of_decide_eq_true (by kernel_rfl)
 clear hT
 have HC:=vNew_any T.data.toList w hTl
 rw [HN,bytes_is] at HC
 replace HC:=Lib.hid HC
 clear HN hTl
 go_wp2_with fail
 refine HC.out.mono ?_
 rintro e w1 ⟨⟨p,x,rfl,hd⟩,hb1⟩
 go_wp2
 go_ret
 exact ⟨p,x,rfl,hd,hb1⟩
theorem names_len : linesD.names.length = 26:=by decide
set_option maxRecDepth 100000 in
set_option maxHeartbeats 4000000 in
theorem xNamed_any (base p x : Nat) (r : Int) (w : World) (h : RfB w base p x linesD.names linesD.full) :
  Calls Tryz.prog 118 #[.pointer (some ⟨p,0,none⟩),.int .i32 r] w fun e w'=>e = .returned (.string (bytesOf (nmL r)))∧Below w.heap.size w w':=by
 obtain ⟨An,nn,cn,As,ns,cs,xs,hX⟩:=h.ex
 have hnn : linesD.names.length = nn:=hX.lenN
 rw [names_len] at hnn
 subst hnn
 obtain ⟨g,rfl,_,_⟩:=hX.hn.form (by omega)
 have c0:=hX.blk.cell 0
 simp only [List.getElem?_toArray,List.getElem?_cons_zero] at c0
 obtain ⟨k,Hk⟩ : ∃ k,Hid (gL r = k):=⟨_,Lib.hid rfl⟩
 have hk : k < 26:=by rw [← Hk.out];exact gL_lt r
 obtain ⟨nm,Hn⟩ : ∃ nm,Hid (linesD.names[k]? = some nm):=⟨_,Lib.hid (List.getElem?_eq_getElem (by rw [names_len];exact hk))⟩
 have HV : Hid (nmL r = nm):=Lib.hid (by unfold nmL;rw [Hk.out,Hn.out];rfl)
 have cn0:=hX.hn.cell (k:=k) (j:=0) (x:=encNm nm) (u:=.string (bytesOf nm)) (by simp [Hn.out]) rfl
 simp only [Nat.mul_one,Nat.add_zero] at cn0
 have HG:=Lib.hid (fun W (hW : Below w.heap.size w W)=>vGet_any base p x linesD r W (h.below hW) linesOk.1 linesOk.2.1)
 have hgk : linesD.get r = k:=Hk.out
 rw [hgk] at HG
 have q1 : (0 : Int)≤(k : Int):=by omega
 have q2 : (k : Int) < 26:=by omega
 have q3 : (k : Int) < ((26 : Nat) : Int):=by omega
 clear hgk
 go_enter Tryz.func118,Tryz.ntmps118
 go_wp2_with fail
 go_region_held3 (fun V=>V.cell? ⟨p,0,none⟩ = some (.slice (some ⟨g,0,none⟩) 26 cn)∧V.cell? ⟨g,k,none⟩ = some (.string (bytesOf nm))∧Below w.heap.size w V)
  (first | exact ⟨c0,cn0,Below.refl _ _⟩ | exact ⟨c0,cn0,below_refl_drewN w 1⟩)
  (first
   | (go_at_call 138;go_split_ands;refine (HG.out _ (by assumption)).mono ?_;rintro e wz ⟨rfl,rfl⟩))
 go_wp2
 go_ret
 exact ⟨by rw [HV.out];rfl,below_refl_drewN w 1⟩
theorem Rd.atRn {w : World} {A : Option Addr} {l : List (Nat × Nat × Nat)} {k : Nat} {x : Nat × Nat × Nat} (h : Rd w 3 A (l.map encRn)) (hk : l[k]? = some x) :
  ∃ b off,A = some ⟨b,off,none⟩∧w.cell? ⟨b,off+k*3,none⟩ = some (.int .i32 (x.1 : Nat))∧w.cell? ⟨b,off+k*3+1,none⟩ = some (.int .i64 (x.2.1 : Nat))∧w.cell? ⟨b,off+k*3+2,none⟩ = some (.int .i64 (x.2.2 : Nat)):=by
 obtain ⟨b,off,rfl,hc⟩:=h (by intro e;cases l with | nil=>simp at hk | cons _ _=>simp at e)
 have h0:=hc k 0 (encRn x) (.int .i32 (x.1 : Nat)) (by simp [hk]) rfl
 have h1:=hc k 1 (encRn x) (.int .i64 (x.2.1 : Nat)) (by simp [hk]) rfl
 have h2:=hc k 2 (encRn x) (.int .i64 (x.2.2 : Nat)) (by simp [hk]) rfl
 exact ⟨b,off,rfl,by simpa using h0,h1,h2⟩
end Go.Proofs.YtdngkienloligaaGreatDoor
/- -/
namespace Go.Proofs.YtdngkienloligaaGreatDoor
open Go.RowKit
def nmOk (l : List UInt8) : Bool:=l.all pPart && (l.head?.map pLetter).getD false && decide (l.length≤32)
def nmsOk (ns : List (List UInt8)) : Bool:=decide (ns.length≤64) && ns.all nmOk && decide ns.Nodup
theorem nm_part {l : List UInt8} (h : nmOk l = true) {b : UInt8} (hb : b ∈ l) : pPart b = true:=by
 unfold nmOk at h
 simp only [Bool.and_eq_true,List.all_eq_true] at h
 exact h.1.1 b hb
theorem nm_letter {b : UInt8} {r : List UInt8} (h : nmOk (b :: r) = true) : pLetter b = true:=by
 unfold nmOk at h
 simp only [Bool.and_eq_true,List.head?_cons,Option.map_some,Option.getD_some] at h
 exact h.1.2
theorem nm_len {l : List UInt8} (h : nmOk l = true) : 1≤l.length∧l.length≤32:=by
 unfold nmOk at h
 simp only [Bool.and_eq_true,decide_eq_true_iff] at h
 refine ⟨?_,h.2⟩
 cases l with
 | nil=>simp at h
 | cons b r=>simp
set_option maxRecDepth 100000 in
set_option maxHeartbeats 4000000 in
theorem jName_ok (s : ByteArray) (w : World) (h : nmOk s.data.toList = true) : Calls Tryz.prog 191 #[.string s] w fun e w'=>e = .returned (.bool true)∧w = w':=by
 have HP:=Lib.hid (fun b hb=>nm_part h (b:=b) hb)
 have HL:=Lib.hid (fun b r (e : s.data.toList = b :: r)=>nm_letter (b:=b) (r:=r) (e ▸ h))
 have hl:=nm_len h
 rw [size_data] at hl
 clear h
 go_enter Tryz.func191,Tryz.ntmps191
 go_wp2
 go_loopw [3] (fun v wr=>∃ i : Nat,v = .int .i64 i∧i≤s.size∧wr = w) (fun v _=>s.size - (intOf v).toNat)
 case atStart=>exact ⟨0,rfl,by omega,rfl⟩
 case round =>
  obtain ⟨i,rfl,hi,rfl⟩:=hrel
  by_cases hlt : i < s.size
  ·obtain ⟨b,hd,hidx⟩:=byte_at s hlt
   have hpb:=HP.out b (List.mem_of_mem_drop (by rw [hd];simp))
   have h1:=jpart_b b wr
   rw [hpb] at h1
   have HJ:=Lib.hid h1
   clear h1 hpb
   by_cases h0 : i = 0
   ·subst h0
    have h2:=jletter_b b wr
    rw [HL.out b _ (by simpa using hd)] at h2
    have HK:=Lib.hid h2
    have hidx0 : ∀ W,(Instr.index 9 (.string s) (.int .i64 0)).run Tryz.prog W = .ok (.int .u8 (b.toNat : Int)) W:=hidx
    clear h2 hd hidx
    go_wp2_with fail
    refine HJ.out.mono ?_
    rintro e w2 ⟨rfl,rfl⟩
    go_wp2_with fail
    refine HK.out.mono ?_
    rintro e w2 ⟨rfl,rfl⟩
    go_wp2
    go_roundw
    case rel=>exact ⟨1,by go_num,by omega,by first | rfl | trivial⟩
    case measure=>simp [intOf];omega
   ·have t0 : ((i : Int) == 0) = false:=by rw [beq_eq_false_iff_ne];omega
    clear hd
    go_wp2_with fail
    refine HJ.out.mono ?_
    rintro e w2 ⟨rfl,rfl⟩
    go_wp2
    go_roundw
    case rel=>exact ⟨i+1,by go_num,by omega,by first | rfl | trivial⟩
    case measure=>simp [intOf];omega
  ·obtain rfl : i = s.size:=by omega
   have t1 : decide (1≤s.size) = true:=decide_eq_true hl.1
   have t2 : decide ((s.size : Int)≤32) = true:=decide_eq_true (by omega)
   go_wp2
   go_ret
   exact ⟨by first | rfl | exact congrArg (fun b=>Ending.returned (.bool b)) t2,rfl⟩
set_option maxRecDepth 100000 in
set_option maxHeartbeats 4000000 in
theorem jNames_ok (A : Option Addr) (n c : Nat) (ns : List (List UInt8)) (w : World) (hA : Rd w 1 A (ns.map encNm)) (hl : ns.length = n) (h : nmsOk ns = true) : Calls Tryz.prog 153 #[.slice A n c] w fun e w'=>e = .returned (.bool true)∧∃ q,w' = w.drewN q:=by
 unfold nmsOk at h
 simp only [Bool.and_eq_true,decide_eq_true_iff,List.all_eq_true] at h
 obtain ⟨⟨h64,hnm⟩,hnd⟩:=h
 have HN:=Lib.hid (fun y (hy : y ∈ ns) W=>jName_ok (bytesOf y) W (by rw [bytesOf_list];exact hnm y hy))
 have HD:=Lib.hid (fun i k x y (hi : ns[i]? = some x) (hk : ns[k]? = some y) (hlt : k < i)=>(fun e=>by
  obtain ⟨h1,h2⟩:=List.getElem?_eq_some_iff.1 hi
  obtain ⟨h3,h4⟩:=List.getElem?_eq_some_iff.1 hk
  have:=(List.nodup_iff_pairwise_ne.1 hnd)
  rw [List.pairwise_iff_getElem] at this
  exact this k i h3 h1 hlt (by rw [h4,h2,e]) : y ≠ x))
 rw [hl] at h64
 clear hnm hnd
 have Hl:=Lib.hid hl
 have h65 : ¬ 64 < n:=by omega
 clear hl h64
 go_enter Tryz.func153,Tryz.ntmps153
 go_wp2
 go_loopw [3,4] (fun v _ wr=>∃ i q : Nat,v = .int .i64 i∧i≤n∧wr = w.drewN q) (fun v _ _=>n - (intOf v).toNat)
 case atStart=>exact ⟨0,0,rfl,by omega,rfl⟩
 case round =>
  obtain ⟨i,q,rfl,hi,rfl⟩:=hrel
  have hA1:=hA
  by_cases hlt : i < n
  ·obtain ⟨x,Hx⟩ : ∃ x,Hid (ns[i]? = some x):=⟨_,Lib.hid (List.getElem?_eq_getElem (by have:=Hl.out;omega))⟩
   obtain ⟨b,off,rfl,hc⟩:=hA1.atS Hx.out
   have HJ:=Lib.hid (HN.out x (List.mem_of_getElem? Hx.out) (w.drewN q))
   go_wp2_with fail
   refine HJ.out.mono ?_
   rintro e w2 ⟨rfl,rfl⟩
   go_wp2_with fail
   go_loopw [4] (fun v wq=>∃ k q : Nat,v = .int .i64 k∧k≤i∧wq = w.drewN q) (fun v _=>i - (intOf v).toNat)
   case atStart=>exact ⟨0,q,rfl,by omega,rfl⟩
   case round =>
    clear hc hA1
    obtain ⟨k,q2,rfl,hk,rfl⟩:=hrel
    have hA2:=hA
    obtain ⟨b3,off3,e3,hc⟩:=hA2.atS Hx.out
    injection e3 with e3
    injection e3 with e4 e5 _
    subst e4 e5
    by_cases hki : k < i
    ·obtain ⟨y,Hy⟩ : ∃ y,Hid (ns[k]? = some y):=⟨_,Lib.hid (List.getElem?_eq_getElem (by have:=Hl.out;omega))⟩
     obtain ⟨b2,off2,e2,hc2⟩:=hA2.atS Hy.out
     injection e2 with e2
     injection e2 with e3 e4 _
     subst e3 e4
     have hyx : y ≠ x:=HD.out i k x y Hx.out Hy.out hki
     have q1 : ((bytesOf y).toList == (bytesOf x).toList) = false:=by rw [ByteArray.toList_eq,ByteArray.toList_eq,bytesOf_list,bytesOf_list];exact beq_eq_false_iff_ne.2 hyx
     have q2 : decide (bytesOf y = bytesOf x) = false:=decide_eq_false (fun k=>hyx (by have:=congrArg (fun b=>b.data.toList) k;simpa [bytesOf_list] using this))
     have hkn : k < n:=by omega
     clear hyx
     go_wp2_with fail
     go_quiet (fail)
     go_wp2
     go_roundw
     case rel=>exact ⟨k+1,_,by go_num,by omega,by first | rfl | exact World.drewN_drewN _ _ _⟩
     case measure=>simp [intOf];omega
    ·obtain rfl : k = i:=by omega
     go_wp2
     go_roundw
     case rel=>exact ⟨k+1,_,by go_num,by omega,by first | rfl | exact World.drewN_drewN _ _ _⟩
     case measure=>simp [intOf];omega
  ·obtain rfl : i = n:=by omega
   go_wp2
   go_ret
   exact ⟨rfl,q,rfl⟩
end Go.Proofs.YtdngkienloligaaGreatDoor
/- -/
namespace Go.Proofs.YtdngkienloligaaGreatDoor
open Go.RowKit
end Go.Proofs.YtdngkienloligaaGreatDoor
/- -/
namespace Go.Proofs.YtdngkienloligaaGreatDoor
open Go.RowKit
end Go.Proofs.YtdngkienloligaaGreatDoor
/- -/
namespace Go.Proofs.YtdngkienloligaaGreatDoor
open Go.RowKit
end Go.Proofs.YtdngkienloligaaGreatDoor
/- -/
namespace Go.Proofs.YtdngkienloligaaGreatDoor
open Go.RowKit
end Go.Proofs.YtdngkienloligaaGreatDoor
