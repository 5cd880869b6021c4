/-
 Several texts in one,in their build order: PtI,Td,Tf.
-/
import Derived.WalkMore
import Derived.Test.YtglmcknlnoknoaaGreatDoorYWordWordsPtH
import Derived.Test.YtglmcknlnoknoaaGreatDoorYWordWordsKe
import Derived.Test.YtglmcknlnoknoaaGreatDoorYWordWords0b
import Derived.Test.YtglmcknlnoknoaaGreatDoorWShelf
import Derived.Test.YtglmcknlnoknoaaGreatDoorWRdr
/- -/
namespace Go.Proofs.YtglmcknlnoknoaaGreatDoor
set_option maxRecDepth 100000
set_option maxHeartbeats 40000000
section
open Go.RowKit
theorem thenP_snoc (c : List Nat) (p : Pat) : ∀ (l : List Pat) (m : Mtx),thenP c (l++[p]) m = behindM (c.length+1) (thenP c l m) (leadsP c p)
 | [],m=>by simp [thenP]
 | q :: r,m=>by rw [List.cons_append,thenP,thenP_snoc c p r,thenP]
theorem orP_snoc (c : List Nat) (p : Pat) : ∀ (l : List Pat) (m : Mtx),orP c (l++[p]) m = bothM (orP c l m) (leadsP c p)
 | [],m=>by simp [orP]
 | q :: r,m=>by rw [List.cons_append,orP,orP_snoc c p r,orP]
theorem take_snoc {α : Type} {l : List α} {i : Nat} {x : α} (h : l[i]? = some x) : l.take (i+1) = l.take i++[x]:=by rw [List.take_add_one,h];rfl
def setTo (c cs : List Nat) (z : Nat) : Mtx:=fun i k=>decide (i < z) && setM c cs i k
theorem setM_at {c cs : List Nat} {i x : Nat} (h : c[i]? = some x) (k : Nat) : setM c cs i k = (decide (k = i+1) && cs.contains x):=by unfold setM;rw [h];rfl
theorem setM_end {c cs : List Nat} {i : Nat} (h : c.length≤i) (k : Nat) : setM c cs i k = false:=by unfold setM;rw [List.getElem?_eq_none h];simp
def KidLeads (cl : List Nat) (C : Option Addr) (n c : Nat) (p : Pat) : Prop:=∀ (X : Nat→Prop) (v : Pv) (w : World),PatX w X p v→goodP 64 p = true→Rd w 1 C (cl.map encN) →
 Calls Tryz.prog 252 #[valPt v,.slice C n c] w (MtEnd w (cl.length+1) (leadsP cl p))
theorem MtEnd.rd {w : World} {n : Nat} {m : Mtx} {e : Ending} {w' : World} (h : MtEnd w n m e w') : ∃ A c C,e = .returned (.slice A n c)∧MtR w' (A,n,c) n (n / 64+1) C∧BitsM n C m∧Below w.heap.size w w':=by
 obtain ⟨A,c,rows,C,he,ho,hB,hbw⟩:=h
 exact ⟨A,c,C,he,ho.rd,hB,hbw⟩
section
variable {cl : List Nat} {C0 : Option Addr} {n c0 : Nat}
theorem jleads_set (hl : cl.length = n) (hn : n≤100000) (X : Nat→Prop) (cs : List Nat) (ks : List Pat) (v : Pv) (w : World) (hp : PatX w X (.node 1 cs ks) v) (hC : Rd w 1 C0 (cl.map encN)) (hz : cs.length≤4000000) :
  Calls Tryz.prog 252 #[valPt v,.slice C0 n c0] w (MtEnd w (n+1) (setM cl cs)):=by
 obtain ⟨o,⟨A,nc,c⟩,⟨B,m,d⟩⟩:=v
 simp only [PatX] at hp
 obtain ⟨rfl,hA,vs,hB,hK⟩:=hp
 have hcn : cs.length = nc:=by have:=hA.len;rwa [List.length_map] at this
 have hcs:=hA.rd
 unfold valPt
 simp only at hcs ⊢
 have hb0 : Blk (w.alloc (.cells #[.int .i64 ((1 : Nat) : Int),.slice A nc c,.slice B m d] 207)) w.heap.size 207 _:=Blk.new _ _ _
 have Hz : Below w.heap.size w (w.alloc (.cells #[.int .i64 ((1 : Nat) : Int),.slice A nc c,.slice B m d] 207)):=(Below.refl _ _).alloc (Nat.le_refl _) _
 have Hl:=Lib.hid hl
 have HN:=Lib.hid (fun W=>jnone_any (n+1) W (by omega))
 obtain ⟨n1,Hn1⟩ : ∃ n1,Hid (n+1 = n1):=⟨_,Lib.hid rfl⟩
 obtain ⟨k,Hk⟩ : ∃ k,Hid (n1 / 64+1 = k):=⟨_,Lib.hid rfl⟩
 have hk0 : 0 < k:=by have:=Hk.out;omega
 have e1 : (n : Int)+1 = (n1 : Int):=by have:=Hn1.out;omega
 have hnz : n1≤100001:=by have:=Hn1.out;omega
 unfold MtEnd
 simp only [Hn1.out,Hk.out] at HN ⊢
 clear hA hB hK hl
 go_enter Tryz.func252,Tryz.ntmps252
 go_wp2_with fail
 generalize (w.alloc (.cells #[.int .i64 ((1 : Nat) : Int),.slice A nc c,.slice B m d] 207)) = w1 at Hz hb0 ⊢
 refine (HN.out w1).mono ?_
 rintro e w2 ⟨A2,c2,rows,rfl,ho2,hb2⟩
 have k10:=hb0.cell 1
 simp only [zG,zI,zH] at k10
 have HZ:=Lib.hid (zero_bits n1 k)
 generalize zeroC n1 k = CC at ho2 HZ
 have k1:=cell_keep k10 hb2
 clear hb0 HN
 go_wp2_with fail
 go_loopw [7] (fun v wr=>∃ (i : Nat) (C : List (List Nat)),v = .int .i64 i∧i≤n∧MtO wr w1.heap.size A2 n1 c2 k rows C∧Hid (BitsM n1 C (setTo cl cs i))∧Below w1.heap.size w1 wr) (fun v _=>n - (intOf v).toNat)
 case atStart=>exact ⟨0,CC,rfl,by omega,ho2,Lib.hid (HZ.out.congr fun i j _ _=>by simp [setTo,noneM]),hb2⟩
 case round =>
  clear HZ ho2
  obtain ⟨i,C,rfl,hi,ho,HB,hbr⟩:=hrel
  have hbwr:=below_two Hz hbr
  replace k1:=cell_keep k10 hbr
  by_cases hlt : i < n
  ·obtain ⟨x,hx⟩ : ∃ x,cl[i]? = some x:=⟨_,List.getElem?_eq_getElem (by have:=Hl.out;omega)⟩
   obtain ⟨bk,off,rfl,hc⟩:=hC.atNa hx
   replace hc:=cell_keep hc hbwr
   have hcsr:=hcs.below hbwr
   obtain ⟨q,Hq⟩ : ∃ q,Hid (cs.contains x = q):=⟨_,Lib.hid rfl⟩
   have HI:=Lib.hid (fun p=>jin_any A nc c cs x (wr.drewN p) (hcsr.drewN p) hcn (by omega))
   rw [Hq.out] at HI
   have HS:=Lib.hid (fun kk=>setM_at (cs:=cs) hx kk)
   rw [Hq.out] at HS
   clear hx hcs
   cases q with
   | false =>
    go_wp2_with fail
    go_quiet ((go_at_call 288;exact quiet_left (HI.out _)))
    go_wp2
    go_roundw
    case rel=>exact ⟨i+1,C,by go_num,by omega,ho.below (below_refl_drewN _ _),Lib.hid (HB.out.congr fun y j _ _=>by
     unfold setTo
     by_cases e : y = i
     ·subst e;rw [HS.out];simp
     ·congr 1;exact decide_eq_decide.2 (by omega)),below_drewN hbr _⟩
    case measure=>simp [intOf];omega
   | true =>
    obtain ⟨bb,g,dd,y,rfl,hr,hcg,hy,hy2,hoy,hwy⟩:=ho.at_ (i:=i) (by have:=Hn1.out;omega) hk0
    have hgl:=(hoy.lt _ rfl).1
    have HC:=Lib.hid (show i < C.length by rw [ho.len];have:=Hn1.out;omega)
    have HBx:=Lib.hid (HB.out.row hy2 (by have:=Hn1.out;omega))
    have HSt:=Lib.hid (fun p=>jset_any w1.heap.size g k dd (i+1) y (wr.drewN p) (hoy.drewN p) hwy (by have:=Hk.out;have:=Hn1.out;omega) (by omega))
    obtain ⟨i1,Hi1⟩ : ∃ i1,Hid (i+1 = i1):=⟨_,Lib.hid rfl⟩
    have e2 : (i : Int)+1 = (i1 : Int):=by have:=Hi1.out;omega
    have e3 : i1≤n:=by have:=Hi1.out;omega
    have hin1 : i < n1:=by have:=Hn1.out;omega
    simp only [Hi1.out] at HSt
    clear hy hy2
    go_wp2_with fail
    go_quiet ((go_at_call 288;exact quiet_left (HI.out _)))
    go_wp2_with fail
    refine (HSt.out _).mono ?_
    rintro e w4 ⟨rfl,ho4,hg4⟩
    have hg4' : wr.grownBy w4 (some g):=⟨hg4.os,hg4.tape,hg4.output,hg4.size,hg4.block⟩
    have hm:=ho.wrote hr hg4' ho4 (hwy.set_ i1)
    have hb4 : Below w1.heap.size w1 w4:=hbr.trans (below_only hg4' hbr.size hgl)
    go_wp2
    go_roundw
    case rel =>
     refine ⟨i1,_,rfl,e3,hm,Lib.hid (HB.out.step HC.out (fun j hj=>?_) (fun z j _ _ hz=>?_)),hb4⟩
     ·rw [hasW_set (by rw [hwy.len];have:=Hk.out;have:=Hn1.out;omega),HBx.out j hj]
      unfold setTo
      rw [HS.out,Hi1.out,decide_eq_true (by have:=Hi1.out;omega : i < i1),decide_eq_false (by omega : ¬ i < i)]
      simp
     ·unfold setTo
      congr 1
      exact decide_eq_decide.2 (by have:=Hi1.out;omega)
    case measure=>simp [intOf];have:=Hi1.out;omega
  ·obtain rfl : i = n:=by omega
   go_wp2
   go_ret
   exact ⟨A2,c2,rows,C,rfl,ho.more Hz.size,HB.out.congr fun x j hx _=>by
    unfold setTo
    by_cases e : x < i
    ·rw [decide_eq_true e,Bool.true_and]
    ·rw [setM_end (by have:=Hl.out;omega)];simp,hbwr⟩
theorem jleads_then (hl : cl.length = n) (hn : n≤100000) (X : Nat→Prop) (cs : List Nat) (ks : List Pat) (v : Pv) (w : World) (hp : PatX w X (.node 2 cs ks) v) (hC : Rd w 1 C0 (cl.map encN))
  (HK : ∀ p ∈ ks,KidLeads cl C0 n c0 p) (hg : goodL 64 ks = true) (hz : ks.length≤2048) :
  Calls Tryz.prog 252 #[valPt v,.slice C0 n c0] w (MtEnd w (n+1) (thenP cl ks ownM)):=by
 obtain ⟨o,⟨A,nc,c⟩,⟨B,m,d⟩⟩:=v
 simp only [PatX] at hp
 obtain ⟨rfl,hA,vs,hB,hKs⟩:=hp
 have hm : vs.length = m:=by have:=hB.len;rwa [List.length_map] at this
 have hk:=hKs.len
 unfold valPt
 simp only
 have hb0 : Blk (w.alloc (.cells #[.int .i64 ((2 : Nat) : Int),.slice A nc c,.slice B m d] 207)) w.heap.size 207 _:=Blk.new _ _ _
 have Hz : Below w.heap.size w (w.alloc (.cells #[.int .i64 ((2 : Nat) : Int),.slice A nc c,.slice B m d] 207)):=(Below.refl _ _).alloc (Nat.le_refl _) _
 have Hl:=Lib.hid hl
 have HKs:=Lib.hid hKs
 have HB:=Lib.hid hB
 have HKk:=Lib.hid HK
 have Hg:=Lib.hid hg
 have hmz : m≤2048:=by omega
 have Hkm:=Lib.hid (show ks.length = m by omega)
 have hN1 : cl.length+1 = n+1:=by omega
 have HN:=Lib.hid (fun W=>jown_any (n+1) W (by omega))
 have HBe:=Lib.hid (fun A1 A2 c1 c2 CA CB a b W h1 h2 h3 h4=>jbehind_any A1 A2 (n+1) c1 c2 CA CB a b W h1 h2 h3 h4 (by omega))
 obtain ⟨n1,Hn1⟩ : ∃ n1,Hid (n+1 = n1):=⟨_,Lib.hid rfl⟩
 have Hst:=Lib.hid (fun (i : Nat) (p : Pat) (h : ks[i]? = some p)=>show thenP cl (ks.take (i+1)) ownM = behindM (n+1) (thenP cl (ks.take i) ownM) (leadsP cl p) by rw [take_snoc h,thenP_snoc,hN1] )
 have e1 : (n : Int)+1 = (n1 : Int):=by have:=Hn1.out;omega
 have hnz : n1≤100001:=by have:=Hn1.out;omega
 unfold KidLeads at HKk
 rw [hN1] at HKk
 simp only [Hn1.out] at HN HKk HBe Hst ⊢
 clear hA hB hKs hl hk hm HK hg hN1
 go_enter Tryz.func252,Tryz.ntmps252
 go_wp2_with fail
 generalize (w.alloc (.cells #[.int .i64 ((2 : Nat) : Int),.slice A nc c,.slice B m d] 207)) = w1 at Hz hb0 ⊢
 refine (HN.out w1).mono ?_
 have k20:=hb0.cell 2
 simp only [zG,zI,zH] at k20
 clear hb0 HN
 rintro e w2 ⟨A2,c2,rows2,C2,rfl,ho2,hBt2,hb2⟩
 replace hBt2 : Hid (BitsM n1 C2 (thenP cl (ks.take 0) ownM)):=Lib.hid hBt2
 have k2:=cell_keep k20 hb2
 go_wp2_with fail
 go_loopw [8,9] (fun u v wr=>∃ (i : Nat) (A1 : Option Addr) (c1 : Nat) (rows : List Sv) (C : List (List Nat)),u = .slice A1 n1 c1∧v = .int .i64 i∧i≤m∧MtO wr w1.heap.size A1 n1 c1 (n1 / 64+1) rows C∧Hid (BitsM n1 C (thenP cl (ks.take i) ownM))∧Below w1.heap.size w1 wr) (fun _ v _=>m - (intOf v).toNat)
 case atStart=>exact ⟨0,A2,c2,rows2,C2,rfl,rfl,by omega,ho2,hBt2,hb2⟩
 case round =>
  clear ho2 hBt2
  obtain ⟨i,A1,c1,rows,C,rfl,rfl,hi,ho,HBt,hbr⟩:=hrel
  have hbwr:=below_two Hz hbr
  replace k2:=cell_keep k20 hbr
  by_cases hlt : i < m
  ·obtain ⟨q,hq⟩ : ∃ q,ks[i]? = some q:=⟨_,List.getElem?_eq_getElem (by have:=Hkm.out;omega)⟩
   obtain ⟨u,hu,hp⟩:=HKs.out.at_ hq
   obtain ⟨b,off,e,x0,x1,x2⟩:=HB.out.atPt hu
   simp only at e
   subst e
   replace x0:=cell_keep x0 hbwr
   replace x1:=cell_keep x1 hbwr
   replace x2:=cell_keep x2 hbwr
   have HC:=Lib.hid (HKk.out q (List.mem_of_getElem? hq) X u wr (hp.below hbwr) (goodL_at Hg.out hq) (hC.below hbwr))
   have HS:=Lib.hid (Hst.out i q hq)
   unfold valPt at HC
   clear hq hp hu
   go_wp2_with fail
   refine HC.out.mono ?_
   rintro e w3 he3
   obtain ⟨A3,c3,C3,rfl,hr3,hBt3,hb3⟩:=he3.rd
   have HBe2:=Lib.hid (HBe.out A1 A3 c1 c3 C C3 _ _ w3 (ho.below hb3).rd HBt.out hr3 hBt3)
   clear he3 hr3 hBt3 HC
   go_wp2_with fail
   refine HBe2.out.mono ?_
   rintro e w4 ⟨A4,c4,rows4,C4,rfl,ho4,hBt4,hb4⟩
   rw [← HS.out] at hBt4
   have hb5:=below_step hbr (below_two hb3 hb4) hbr.size
   have ho5:=ho4.more (b':=w1.heap.size) (below_two hbr hb3 |>.size)
   have HBt5:=Lib.hid hBt4
   clear hBt4 ho4
   go_wp2
   go_roundw
   case rel=>exact ⟨i+1,A4,c4,rows4,C4,rfl,by go_num,by omega,ho5,HBt5,hb5⟩
   case measure=>simp [intOf];omega
  ·obtain rfl : i = m:=by omega
   have HE:=Lib.hid (show ks.take i = ks from List.take_of_length_le (by have:=Hkm.out;omega))
   rw [HE.out] at HBt
   go_wp2
   go_ret
   exact ⟨A1,c1,rows,C,rfl,ho.more Hz.size,HBt.out,hbwr⟩
theorem jleads_or (hl : cl.length = n) (hn : n≤100000) (X : Nat→Prop) (cs : List Nat) (ks : List Pat) (v : Pv) (w : World) (hp : PatX w X (.node 3 cs ks) v) (hC : Rd w 1 C0 (cl.map encN))
  (HK : ∀ p ∈ ks,KidLeads cl C0 n c0 p) (hg : goodL 64 ks = true) (hz : ks.length≤2048) :
  Calls Tryz.prog 252 #[valPt v,.slice C0 n c0] w (MtEnd w (n+1) (orP cl ks noneM)):=by
 obtain ⟨o,⟨A,nc,c⟩,⟨B,m,d⟩⟩:=v
 simp only [PatX] at hp
 obtain ⟨rfl,hA,vs,hB,hKs⟩:=hp
 have hm : vs.length = m:=by have:=hB.len;rwa [List.length_map] at this
 have hk:=hKs.len
 unfold valPt
 simp only
 have hb0 : Blk (w.alloc (.cells #[.int .i64 ((3 : Nat) : Int),.slice A nc c,.slice B m d] 207)) w.heap.size 207 _:=Blk.new _ _ _
 have Hz : Below w.heap.size w (w.alloc (.cells #[.int .i64 ((3 : Nat) : Int),.slice A nc c,.slice B m d] 207)):=(Below.refl _ _).alloc (Nat.le_refl _) _
 have Hl:=Lib.hid hl
 have HKs:=Lib.hid hKs
 have HB:=Lib.hid hB
 have HKk:=Lib.hid HK
 have Hg:=Lib.hid hg
 have hmz : m≤2048:=by omega
 have Hkm:=Lib.hid (show ks.length = m by omega)
 have hN1 : cl.length+1 = n+1:=by omega
 have HN:=Lib.hid (fun W=>jnone_any (n+1) W (by omega))
 have HBe:=Lib.hid (fun A1 A2 c1 c2 CA CB a b W h1 h2 h3 h4=>jboth_any A1 A2 (n+1) c1 c2 CA CB a b W h1 h2 h3 h4 (by omega))
 obtain ⟨n1,Hn1⟩ : ∃ n1,Hid (n+1 = n1):=⟨_,Lib.hid rfl⟩
 have Hst:=Lib.hid (fun (i : Nat) (p : Pat) (h : ks[i]? = some p)=>show orP cl (ks.take (i+1)) noneM = bothM (orP cl (ks.take i) noneM) (leadsP cl p) by rw [take_snoc h,orP_snoc])
 have e1 : (n : Int)+1 = (n1 : Int):=by have:=Hn1.out;omega
 have hnz : n1≤100001:=by have:=Hn1.out;omega
 unfold KidLeads at HKk
 rw [hN1] at HKk
 simp only [Hn1.out] at HN HKk HBe Hst ⊢
 clear hA hB hKs hl hk hm HK hg hN1
 go_enter Tryz.func252,Tryz.ntmps252
 go_wp2_with fail
 generalize (w.alloc (.cells #[.int .i64 ((3 : Nat) : Int),.slice A nc c,.slice B m d] 207)) = w1 at Hz hb0 ⊢
 refine (HN.out w1).mono ?_
 have k20:=hb0.cell 2
 simp only [zG,zI,zH] at k20
 clear hb0 HN
 rintro e w2 ⟨A2,c2,rows2,rfl,ho2,hb2⟩
 have hBt2:=Lib.hid (zero_bits n1 (n1 / 64+1))
 generalize zeroC n1 (n1 / 64+1) = C2 at ho2 hBt2
 replace hBt2 : Hid (BitsM n1 C2 (orP cl (ks.take 0) noneM)):=hBt2
 have k2:=cell_keep k20 hb2
 go_wp2_with fail
 go_loopw [10,11] (fun u v wr=>∃ (i : Nat) (A1 : Option Addr) (c1 : Nat) (rows : List Sv) (C : List (List Nat)),u = .slice A1 n1 c1∧v = .int .i64 i∧i≤m∧MtO wr w1.heap.size A1 n1 c1 (n1 / 64+1) rows C∧Hid (BitsM n1 C (orP cl (ks.take i) noneM))∧Below w1.heap.size w1 wr) (fun _ v _=>m - (intOf v).toNat)
 case atStart=>exact ⟨0,A2,c2,rows2,C2,rfl,rfl,by omega,ho2,hBt2,hb2⟩
 case round =>
  clear ho2 hBt2
  obtain ⟨i,A1,c1,rows,C,rfl,rfl,hi,ho,HBt,hbr⟩:=hrel
  have hbwr:=below_two Hz hbr
  replace k2:=cell_keep k20 hbr
  by_cases hlt : i < m
  ·obtain ⟨q,hq⟩ : ∃ q,ks[i]? = some q:=⟨_,List.getElem?_eq_getElem (by have:=Hkm.out;omega)⟩
   obtain ⟨u,hu,hp⟩:=HKs.out.at_ hq
   obtain ⟨b,off,e,x0,x1,x2⟩:=HB.out.atPt hu
   simp only at e
   subst e
   replace x0:=cell_keep x0 hbwr
   replace x1:=cell_keep x1 hbwr
   replace x2:=cell_keep x2 hbwr
   have HC:=Lib.hid (HKk.out q (List.mem_of_getElem? hq) X u wr (hp.below hbwr) (goodL_at Hg.out hq) (hC.below hbwr))
   have HS:=Lib.hid (Hst.out i q hq)
   unfold valPt at HC
   clear hq hp hu
   go_wp2_with fail
   refine HC.out.mono ?_
   rintro e w3 he3
   obtain ⟨A3,c3,C3,rfl,hr3,hBt3,hb3⟩:=he3.rd
   have HBe2:=Lib.hid (HBe.out A1 A3 c1 c3 C C3 _ _ w3 (ho.below hb3).rd HBt.out hr3 hBt3)
   clear he3 hr3 hBt3 HC
   go_wp2_with fail
   refine HBe2.out.mono ?_
   rintro e w4 ⟨A4,c4,rows4,C4,rfl,ho4,hBt4,hb4⟩
   rw [← HS.out] at hBt4
   have hb5:=below_step hbr (below_two hb3 hb4) hbr.size
   have ho5:=ho4.more (b':=w1.heap.size) (below_two hbr hb3 |>.size)
   have HBt5:=Lib.hid hBt4
   clear hBt4 ho4
   go_wp2
   go_roundw
   case rel=>exact ⟨i+1,A4,c4,rows4,C4,rfl,by go_num,by omega,ho5,HBt5,hb5⟩
   case measure=>simp [intOf];omega
  ·obtain rfl : i = m:=by omega
   have HE:=Lib.hid (show ks.take i = ks from List.take_of_length_le (by have:=Hkm.out;omega))
   rw [HE.out] at HBt
   go_wp2
   go_ret
   exact ⟨A1,c1,rows,C,rfl,ho.more Hz.size,HBt.out,hbwr⟩
end
end
section
open Go.RowKit
end
section
open Go.RowKit
end
end Go.Proofs.YtglmcknlnoknoaaGreatDoor
