/-
 Several texts in one,in their build order: PtK,PtL,PtM,FiA,FiB,PtN,Vh,Tr,PtO,TrE,PtP,Wn,Kf.
-/
import Derived.Deep.CutRange
import Derived.Deep.RegionHeld3
import Derived.Test.YtglmcknlnoknoaaGreatDoorYWordWordsPtJ
import Derived.Test.YtglmcknlnoknoaaGreatDoorYWordWords0a
import Derived.Test.YtglmcknlnoknoaaGreatDoorYWordWordsVg
import Derived.Test.YtglmcknlnoknoaaGreatDoorYWordWords1a
import Derived.Test.YtglmcknlnoknoaaGreatDoorYWordWordsTrD
import Derived.Test.YtglmcknlnoknoaaGreatDoorYWordWords0b
import Derived.Test.YtglmcknlnoknoaaGreatDoorYWordWordsKd
import Derived.Test.YtglmcknlnoknoaaGreatDoorYWordWordsKe
/- -/
namespace Go.Proofs.YtglmcknlnoknoaaGreatDoor
set_option maxRecDepth 100000
set_option maxHeartbeats 40000000
section
open Go.RowKit
theorem form_one {op : Nat} {ks : List Pat} (h : formOk op ks.length = true) (h4 : 4≤op) : ∃ p,ks = [p]:=by
 have h1 : ks.length = 1:=by
  unfold formOk at h
  rw [if_neg (by omega),if_neg (by omega)] at h
  simpa using h
 match ks,h1 with
 | [p],_=>exact ⟨p,rfl⟩
theorem jleads_all (cl : List Nat) (C0 : Option Addr) (n c0 : Nat) (hl : cl.length = n) (hn : n≤100000) : ∀ (z : Nat) (p : Pat),sizeP p≤z→sizeP p≤2048→KidLeads cl C0 n c0 p:=by
 intro z
 induction z with
 | zero=>intro p hz;have:=sizeP_pos p;omega
 | succ z ih =>
  intro p hz hs X v w hp hg hC
  obtain ⟨op,cs,ks⟩:=p
  have hg':=hg
  unfold goodP at hg
  rw [Bool.and_eq_true] at hg
  obtain ⟨h1,h2,h3,h4,h5⟩:=node_parts hg.1
  have hzl : sizeL ks≤z:=by unfold sizeP at hz;omega
  have hsl : sizeL ks≤2047:=by unfold sizeP at hs;omega
  have hk : ∀ p ∈ ks,KidLeads cl C0 n c0 p:=fun p hp=>by
   obtain ⟨i,hi,e⟩:=List.getElem_of_mem hp
   have h6:=sizeL_at (ks:=ks) (i:=i) (p:=p) (by rw [List.getElem?_eq_getElem hi,e])
   exact ih p (by omega) (by omega)
  have hkl:=sizeL_len ks
  have hN : cl.length+1 = n+1:=by omega
  have hcz : cs.length≤64:=rises_len h5 h4
  rw [hN]
  rcases (by omega : op = 0∨op = 1∨op = 2∨op = 3∨op = 4∨op = 5∨op = 6) with rfl | rfl | rfl | rfl | rfl | rfl | rfl
  ·have e : leadsP cl (.node 0 cs ks) = ownM:=by unfold leadsP;rfl
   rw [e]
   exact jleads_empty hn X cs ks v w hp
  ·have e : leadsP cl (.node 1 cs ks) = setM cl cs:=by unfold leadsP;rfl
   rw [e]
   exact jleads_set hl hn X cs ks v w hp hC (by omega)
  ·have e : leadsP cl (.node 2 cs ks) = thenP cl ks ownM:=by unfold leadsP;rfl
   rw [e]
   exact jleads_then hl hn X cs ks v w hp hC hk hg.2 (by omega)
  ·have e : leadsP cl (.node 3 cs ks) = orP cl ks noneM:=by unfold leadsP;rfl
   rw [e]
   exact jleads_or hl hn X cs ks v w hp hC hk hg.2 (by omega)
  ·obtain ⟨q,rfl⟩:=form_one h3 (by omega)
   have e : leadsP cl (.node 4 cs [q]) = moreM (n+1) (leadsP cl q):=by (conv=>lhs;unfold leadsP);simp [headP,hN]
   rw [e]
   exact jleads_many hl hn X cs q v w hp hC (hk q (by simp)) (goodL_at hg.2 (i:=0) rfl)
  ·obtain ⟨q,rfl⟩:=form_one h3 (by omega)
   have e : leadsP cl (.node 5 cs [q]) = behindM (n+1) (leadsP cl q) (moreM (n+1) (leadsP cl q)):=by (conv=>lhs;unfold leadsP);simp [headP,hN]
   rw [e]
   exact jleads_some hl hn X cs q v w hp hC (hk q (by simp)) (goodL_at hg.2 (i:=0) rfl)
  ·obtain ⟨q,rfl⟩:=form_one h3 (by omega)
   have e : leadsP cl (.node 6 cs [q]) = bothM ownM (leadsP cl q):=by (conv=>lhs;unfold leadsP);simp [headP]
   rw [e]
   exact jleads_may hl hn X cs q v w hp hC (hk q (by simp)) (goodL_at hg.2 (i:=0) rfl)
theorem jleads_any (cl : List Nat) (C0 : Option Addr) (n c0 : Nat) (hl : cl.length = n) (hn : n≤100000) (X : Nat→Prop) (p : Pat) (v : Pv) (w : World) (hp : PatX w X p v) (hg : goodP 64 p = true) (hs : sizeP p≤2048) (hC : Rd w 1 C0 (cl.map encN)) :
  Calls Tryz.prog 252 #[valPt v,.slice C0 n c0] w (MtEnd w (cl.length+1) (leadsP cl p)):=jleads_all cl C0 n c0 hl hn (sizeP p) p (Nat.le_refl _) hs X v w hp hg hC
theorem filter_next {m : Nat→Bool} {i : Nat} : (List.range (i+1)).filter m = (List.range i).filter m++(if m i then [i] else []):=by
 rw [List.range_succ,List.filter_append]
 cases h : m i <;> simp [h]
theorem encN_ok' (l : List Nat) : ∀ y ∈ l.map encN,y.length = 1∧∀ u ∈ y,u.oneCell' = true:=by
 intro y hy
 obtain ⟨x,_,rfl⟩:=List.mem_map.1 hy
 exact ⟨rfl,fun u hu=>by simp [encN] at hu;rcases hu with rfl;rfl⟩
theorem jEnds_any (cl : List Nat) (C0 : Option Addr) (n c0 : Nat) (hl : cl.length = n) (hn : n≤100000) (X : Nat→Prop) (p : Pat) (v : Pv) (w : World) (hp : PatX w X p v) (hg : goodP 64 p = true) (hs : sizeP p≤2048) (hC : Rd w 1 C0 (cl.map encN)) :
  Calls Tryz.prog 207 #[valPt v,.slice C0 n c0] w fun e w'=>∃ A k c,e = .returned (.slice A k c)∧Own w' w.heap.size 3 1 A k c ((endsB p cl).map encN)∧Below w.heap.size w w':=by
 obtain ⟨i0,hi0,hz0,hz1,hz2⟩:=info_parts infoInt
 have HP:=Lib.hid hp
 have HG:=Lib.hid (fun W (h : PatX W X p v)=>jGood_any X p v W h (goodP_mono (by omega) hg) hs)
 have HL:=Lib.hid (fun W (h : PatX W X p v) (hc : Rd W 1 C0 (cl.map encN))=>jleads_any cl C0 n c0 hl hn X p v W h hg hs hc)
 have HE:=Lib.hid (show endsB p cl = (List.range (n+1)).filter fun i=>leadsP cl p 0 i by unfold endsB;rw [hl])
 rw [hl] at HL
 clear hp hg hl
 obtain ⟨n1,Hn1⟩ : ∃ n1,Hid (n+1 = n1):=⟨_,Lib.hid rfl⟩
 obtain ⟨k1,Hk1⟩ : ∃ k1,Hid (n1 / 64+1 = k1):=⟨_,Lib.hid rfl⟩
 simp only [Hn1.out] at HL
 unfold valPt at HG HL ⊢
 have Hz : Below w.heap.size w (w.alloc (.cells #[.int .i64 (v.1 : Int),.slice v.2.1.1 v.2.1.2.1 v.2.1.2.2,.slice v.2.2.1 v.2.2.2.1 v.2.2.2.2] 207)):=(Below.refl _ _).alloc (Nat.le_refl _) _
 have hb0 : Blk (w.alloc (.cells #[.int .i64 (v.1 : Int),.slice v.2.1.1 v.2.1.2.1 v.2.1.2.2,.slice v.2.2.1 v.2.2.2.1 v.2.2.2.2] 207)) w.heap.size 207 _:=Blk.new _ _ _
 go_enter Tryz.func207,Tryz.ntmps207
 go_wp2_with fail
 generalize (w.alloc (.cells #[.int .i64 (v.1 : Int),.slice v.2.1.1 v.2.1.2.1 v.2.1.2.2,.slice v.2.2.1 v.2.2.2.1 v.2.2.2.2] 207)) = w1 at Hz hb0 ⊢
 refine (HG.out w1 (HP.out.below Hz)).mono ?_
 rintro e w2 ⟨rfl,hb2⟩
 have hbw:=below_two Hz hb2
 have hb0':=hb0.below hb2
 have d0:=hb0'.cell 0
 have d1:=hb0'.cell 1
 have d2:=hb0'.cell 2
 simp only [zG,zI,zH] at d0 d1 d2
 have HL2:=Lib.hid (HL.out w2 (HP.out.below hbw) (hC.below hbw))
 clear HG HL hb0 hb0'
 go_wp2_with fail
 refine HL2.out.mono ?_
 rintro e w3 he
 obtain ⟨A2,c2,C2,rfl,hr2,hB2,hb3⟩:=he.rd
 obtain ⟨bm,om,Bm,dm,xm,em,km,-,hxm,hrm,hwm⟩:=hr2.at_ (i:=0) (by have:=Hn1.out;omega)
 simp only at em
 subst em
 simp only [Nat.add_zero] at km
 have HR:=Lib.hid (hB2.row hxm (by have:=Hn1.out;omega))
 rw [Hk1.out] at km hwm
 have hbw3:=below_two hbw hb3
 have hn1z : 0 < n1:=by have:=Hn1.out;omega
 have hn1z' : (0 : Int) < (n1 : Int):=by omega
 clear he hr2 hB2 hxm HL2 d0 d1 d2
 go_wp2_with fail
 go_loopw [6,7] (fun u z wr=>∃ (i : Nat) (A : Option Addr) (k c : Nat),u = .slice A k c∧z = .int .i64 i∧i≤n+1∧k≤i∧Own wr w3.heap.size 3 1 A k c (((List.range i).filter fun i=>leadsP cl p 0 i).map encN)∧Below w3.heap.size w3 wr) (fun _ z _=>n+1 - (intOf z).toNat)
 case atStart=>exact ⟨0,none,0,0,rfl,rfl,by omega,by omega,Own.nil_ _ _ _ _,Below.refl _ _⟩
 case round =>
  obtain ⟨i,A,k,c,rfl,rfl,hi,hki,ho,hb⟩:=hrel
  have hsz:=hb.size
  by_cases hlt : i≤n
  ·obtain ⟨q,Hq⟩ : ∃ q,Hid (leadsP cl p 0 i = q):=⟨_,Lib.hid rfl⟩
   have HH:=Lib.hid (jhas_any Bm k1 dm i xm wr (hrm.below hb) hwm (by have:=Hn1.out;have:=Hk1.out;omega) (by omega))
   rw [HR.out i (by have:=Hn1.out;omega),Hq.out] at HH
   have HF:=Lib.hid (filter_next (m:=fun i=>leadsP cl p 0 i) (i:=i))
   rw [Hq.out] at HF
   cases q with
   | false =>
    go_wp2_with fail
    refine HH.out.mono ?_
    rintro e w5 ⟨rfl,rfl⟩
    go_wp2
    go_roundw
    case rel=>exact ⟨i+1,A,k,c,rfl,by go_num,by omega,by omega,by rw [HF.out];simpa using ho,hb⟩
    case measure=>simp [intOf];omega
   | true =>
    go_wp2_with fail
    refine HH.out.mono ?_
    rintro e w5 ⟨rfl,rfl⟩
    go_wp2_with (at_builtin;go_must (refine wpList_app rfl (.tmp 25) (.tmp 27) _ rfl w3.heap.size 3 i0 _ 1 8 Tryz.underlying52 hi0 hz0 hz1 hz2 rfl (by omega) A k c _ rfl (ho.alloc _) _ 1 1 [encN i] rfl rfl (Rd.newAt (by simp) rfl) (encN_ok' [i]) (by unfold maxLen;omega) (by omega) (by simp;omega) ?_);intro A3 c3 w7 ho3 hg3 hA3)
    have hb7:=below_app (hb.alloc hsz (.cells #[.int .i64 (i : Int)] 3)) hg3 (by simp;omega) (fun a ha=>(ho.lt a ha).1)
    go_roundw
    case rel=>exact ⟨i+1,A3,k+1,c3,rfl,by go_num,by omega,by omega,by rw [HF.out,List.map_append];exact ho3,hb7⟩
    case measure=>simp [intOf];omega
  ·obtain rfl : i = n+1:=by omega
   rw [← HE.out] at ho
   obtain ⟨z,hz⟩ : ∃ z,n+1 = z:=⟨_,rfl⟩
   have ez : ((n : Int)+1) = (z : Int):=by omega
   go_wp2
   go_ret
   exact ⟨A,k,c,rfl,ho.more hbw3.size,below_two hbw3 hb⟩
end
section
open Go.RowKit
theorem jStarts_any (cl : List Nat) (C0 : Option Addr) (n c0 : Nat) (hl : cl.length = n) (hn : n≤100000) (X : Nat→Prop) (p : Pat) (v : Pv) (w : World) (hp : PatX w X p v) (hg : goodP 64 p = true) (hs : sizeP p≤2048) (hC : Rd w 1 C0 (cl.map encN)) :
  Calls Tryz.prog 206 #[valPt v,.slice C0 n c0] w fun e w'=>∃ A k c,e = .returned (.slice A k c)∧Own w' w.heap.size 3 1 A k c ((startsB p cl).map encN)∧Below w.heap.size w w':=by
 obtain ⟨i0,hi0,hz0,hz1,hz2⟩:=info_parts infoInt
 have HP:=Lib.hid hp
 have HG:=Lib.hid (fun W (h : PatX W X p v)=>jGood_any X p v W h (goodP_mono (by omega) hg) hs)
 have HL:=Lib.hid (fun W (h : PatX W X p v) (hc : Rd W 1 C0 (cl.map encN))=>jleads_any cl C0 n c0 hl hn X p v W h hg hs hc)
 have HE:=Lib.hid (show startsB p cl = (List.range (n+1)).filter fun i=>leadsP cl p i n by unfold startsB;rw [hl])
 rw [hl] at HL
 clear hp hg hl
 obtain ⟨n1,Hn1⟩ : ∃ n1,Hid (n+1 = n1):=⟨_,Lib.hid rfl⟩
 obtain ⟨k1,Hk1⟩ : ∃ k1,Hid (n1 / 64+1 = k1):=⟨_,Lib.hid rfl⟩
 simp only [Hn1.out] at HL
 unfold valPt at HG HL ⊢
 have Hz : Below w.heap.size w (w.alloc (.cells #[.int .i64 (v.1 : Int),.slice v.2.1.1 v.2.1.2.1 v.2.1.2.2,.slice v.2.2.1 v.2.2.2.1 v.2.2.2.2] 207)):=(Below.refl _ _).alloc (Nat.le_refl _) _
 have hb0 : Blk (w.alloc (.cells #[.int .i64 (v.1 : Int),.slice v.2.1.1 v.2.1.2.1 v.2.1.2.2,.slice v.2.2.1 v.2.2.2.1 v.2.2.2.2] 207)) w.heap.size 207 _:=Blk.new _ _ _
 go_enter Tryz.func206,Tryz.ntmps206
 go_wp2_with fail
 generalize (w.alloc (.cells #[.int .i64 (v.1 : Int),.slice v.2.1.1 v.2.1.2.1 v.2.1.2.2,.slice v.2.2.1 v.2.2.2.1 v.2.2.2.2] 207)) = w1 at Hz hb0 ⊢
 refine (HG.out w1 (HP.out.below Hz)).mono ?_
 rintro e w2 ⟨rfl,hb2⟩
 have hbw:=below_two Hz hb2
 have hb0':=hb0.below hb2
 have d0:=hb0'.cell 0
 have d1:=hb0'.cell 1
 have d2:=hb0'.cell 2
 simp only [zG,zI,zH] at d0 d1 d2
 have HL2:=Lib.hid (HL.out w2 (HP.out.below hbw) (hC.below hbw))
 clear HG HL hb0 hb0'
 go_wp2_with fail
 refine HL2.out.mono ?_
 rintro e w3 he
 obtain ⟨A2,c2,C2,rfl,hr2,hB2,hb3⟩:=he.rd
 have hbw3:=below_two hbw hb3
 have HB2:=Lib.hid hB2
 clear he HL2 d0 d1 d2 hB2
 go_wp2_with fail
 go_loopw [6,7] (fun u z wr=>∃ (i : Nat) (A : Option Addr) (k c : Nat),u = .slice A k c∧z = .int .i64 i∧i≤n+1∧k≤i∧Own wr w3.heap.size 3 1 A k c (((List.range i).filter fun i=>leadsP cl p i n).map encN)∧Below w3.heap.size w3 wr) (fun _ z _=>n+1 - (intOf z).toNat)
 case atStart=>exact ⟨0,none,0,0,rfl,rfl,by omega,by omega,Own.nil_ _ _ _ _,Below.refl _ _⟩
 case round =>
  obtain ⟨i,A,k,c,rfl,rfl,hi,hki,ho,hb⟩:=hrel
  have hsz:=hb.size
  by_cases hlt : i≤n
  ·obtain ⟨bm,om,Bm,dm,xm,em,km,-,hxm,hrm,hwm⟩:=hr2.at_ (i:=i) (by have:=Hn1.out;omega)
   simp only at em
   subst em
   have HR:=Lib.hid (HB2.out.row hxm (by have:=Hn1.out;omega))
   rw [Hk1.out] at km hwm
   replace km:=cell_keep km hb
   have hin1 : i < n1:=by have:=Hn1.out;omega
   obtain ⟨q,Hq⟩ : ∃ q,Hid (leadsP cl p i n = q):=⟨_,Lib.hid rfl⟩
   have HH:=Lib.hid (jhas_any Bm k1 dm n xm wr (hrm.below hb) hwm (by have:=Hn1.out;have:=Hk1.out;omega) (by omega))
   rw [HR.out n (by have:=Hn1.out;omega),Hq.out] at HH
   have HF:=Lib.hid (filter_next (m:=fun i=>leadsP cl p i n) (i:=i))
   rw [Hq.out] at HF
   clear hxm
   cases q with
   | false =>
    go_wp2_with fail
    refine HH.out.mono ?_
    rintro e w5 ⟨rfl,rfl⟩
    go_wp2
    go_roundw
    case rel=>exact ⟨i+1,A,k,c,rfl,by go_num,by omega,by omega,by rw [HF.out];simpa using ho,hb⟩
    case measure=>simp [intOf];omega
   | true =>
    go_wp2_with fail
    refine HH.out.mono ?_
    rintro e w5 ⟨rfl,rfl⟩
    go_wp2_with (at_builtin;go_must (refine wpList_app rfl (.tmp 27) (.tmp 29) _ rfl w3.heap.size 3 i0 _ 1 8 Tryz.underlying52 hi0 hz0 hz1 hz2 rfl (by omega) A k c _ rfl (ho.alloc _) _ 1 1 [encN i] rfl rfl (Rd.newAt (by simp) rfl) (encN_ok' [i]) (by unfold maxLen;omega) (by omega) (by simp;omega) ?_);intro A3 c3 w7 ho3 hg3 hA3)
    have hb7:=below_app (hb.alloc hsz (.cells #[.int .i64 (i : Int)] 3)) hg3 (by simp;omega) (fun a ha=>(ho.lt a ha).1)
    go_roundw
    case rel=>exact ⟨i+1,A3,k+1,c3,rfl,by go_num,by omega,by omega,by rw [HF.out,List.map_append];exact ho3,hb7⟩
    case measure=>simp [intOf];omega
  ·obtain rfl : i = n+1:=by omega
   rw [← HE.out] at ho
   obtain ⟨z,hz⟩ : ∃ z,n+1 = z:=⟨_,rfl⟩
   have ez : ((n : Int)+1) = (z : Int):=by omega
   go_wp2
   go_ret
   exact ⟨A,k,c,rfl,ho.more hbw3.size,below_two hbw3 hb⟩
theorem oin_any (A : Option Addr) (n c : Nat) (l : List Nat) (x : Nat) (w : World) (hA : Rd w 1 A (l.map encN)) (hl : l.length = n) (hn : n≤4000000) :
  Calls Tryz.prog 208 #[.slice A n c,.int .i64 (x : Nat)] w fun e w'=>e = .returned (.bool (l.contains x))∧w = w':=by
 have Hl:=Lib.hid hl
 clear hl
 go_enter Tryz.func208,Tryz.ntmps208
 go_wp2
 go_loopw [5] (fun v wr=>∃ i : Nat,v = .int .i64 i∧i≤n∧x ∉ l.take i∧wr = w) (fun v _=>n - (intOf v).toNat)
 case atStart=>exact ⟨0,rfl,by omega,by simp,rfl⟩
 case round =>
  obtain ⟨i,rfl,hi,hm,rfl⟩:=hrel
  by_cases hlt : i < n
  ·obtain ⟨y,hy⟩ : ∃ y,l[i]? = some y:=⟨_,List.getElem?_eq_getElem (by have:=Hl.out;omega)⟩
   obtain ⟨b,off,rfl,hc⟩:=hA.atNa hy
   by_cases e : y = x
   ·subst e
    have HV:=Lib.hid (show l.contains y = true from List.contains_iff_mem.2 (List.mem_of_getElem? hy))
    clear hm hy
    go_wp2
    go_ret
    exact ⟨by rw [HV.out];rfl,rfl⟩
   ·have e2 : ((y : Int) == (x : Int)) = false:=beq_eq_false_iff_ne.2 (by omega)
    have HM:=Lib.hid (mem_step hm hy e)
    clear hm hy e
    go_wp2
    go_roundw
    case rel=>exact ⟨i+1,by go_num,by omega,HM.out,by first | rfl | trivial⟩
    case measure=>simp [intOf];omega
  ·obtain rfl : i = n:=by omega
   have HV:=Lib.hid (show l.contains x = false from by
    rw [List.take_of_length_le (by have:=Hl.out;omega)] at hm
    exact Bool.eq_false_iff.2 fun h=>hm (List.contains_iff_mem.1 h))
   go_wp2
   go_ret
   exact ⟨by rw [HV.out];rfl,rfl⟩
end
section
open Go.RowKit
abbrev Ruv:=Bool × Bool × Bool × Pv × Pv
def valRu (v : Ruv) : Value:=.agg #[.bool v.1,.bool v.2.1,.bool v.2.2.1,.int .i64 (v.2.2.2.1.1 : Int),.slice v.2.2.2.1.2.1.1 v.2.2.2.1.2.1.2.1 v.2.2.2.1.2.1.2.2,.slice v.2.2.2.1.2.2.1 v.2.2.2.1.2.2.2.1 v.2.2.2.1.2.2.2.2,.int .i64 (v.2.2.2.2.1 : Int),.slice v.2.2.2.2.2.1.1 v.2.2.2.2.2.1.2.1 v.2.2.2.2.2.1.2.2,.slice v.2.2.2.2.2.2.1 v.2.2.2.2.2.2.2.1 v.2.2.2.2.2.2.2.2]
def encRul (v : Ruv) : List Value:=[.bool v.1,.bool v.2.1,.bool v.2.2.1]++encPt v.2.2.2.1++encPt v.2.2.2.2
structure RuX (w : World) (X : Nat→Prop) (r : RuleP) (v : Ruv) : Prop where
 cut : v.1 = r.cut
 start : v.2.1 = r.start
 stop : v.2.2.1 = r.stop
 left : PatX w X r.left v.2.2.2.1
 right : PatX w X r.right v.2.2.2.2
theorem RuX.keep {X X' : Nat→Prop} {w w' : World} {r : RuleP} {v : Ruv} (h : RuX w X r v) (k : KeepX X X' w w') : RuX w' X' r v:=⟨h.cut,h.start,h.stop,h.left.keep k,h.right.keep k⟩
theorem RuX.below {X : Nat→Prop} {w w' : World} {r : RuleP} {v : Ruv} (h : RuX w X r v) (hb : Below w.heap.size w w') : RuX w' X r v:=h.keep (KeepX.below hb)
structure RuleOk (r : RuleP) : Prop where
 left : goodP 64 r.left = true
 right : goodP 64 r.right = true
 sl : sizeP r.left≤2048
 sr : sizeP r.right≤2048
theorem Rd.pre' {w : World} {s : Nat} {A : Option Addr} {cs ds : List (List Value)} (h : Rd w s A (cs++ds)) : Rd w s A cs:=fun hn=>by
 obtain ⟨b,off,e,hc⟩:=h (by intro e;rw [List.append_eq_nil_iff] at e;exact hn e.1)
 exact ⟨b,off,e,fun k j x u hk hj=>hc k j x u (by rw [List.getElem?_append_left (List.getElem?_eq_some_iff.1 hk).1];exact hk) hj⟩
theorem Rd.takeN {w : World} {A : Option Addr} {l : List Nat} (h : Rd w 1 A (l.map encN)) (k : Nat) : Rd w 1 A ((l.take k).map encN):=by
 have e : l.map encN = (l.take k).map encN++(l.drop k).map encN:=by rw [← List.map_append,List.take_append_drop]
 rw [e] at h
 exact Rd.pre' h
theorem Rd.dropN {w : World} {b off : Nat} {l : List Nat} (h : Rd w 1 (some ⟨b,off,none⟩) (l.map encN)) (k : Nat) : Rd w 1 (some ⟨b,off+k,none⟩) ((l.drop k).map encN):=fun hn=>by
 obtain ⟨b',off',e,hc⟩:=h (by intro e;rw [List.map_eq_nil_iff] at e;subst e;simp at hn)
 injection e with e
 injection e with e1 e2 _
 subst e1
 subst e2
 refine ⟨b,off+k,rfl,fun i j x u hi hj=>?_⟩
 have:=hc (k+i) j x u (by rw [List.getElem?_map,List.getElem?_drop] at hi;rw [List.getElem?_map];exact hi) hj
 rw [show off+k+i*1+j = off+(k+i)*1+j by omega]
 exact this
theorem own_empty {w : World} {base : Nat} {A : Option Addr} {k c : Nat} {l : List Nat} (h : Own w base 3 1 A k c (l.map encN)) : l.length = k:=by have:=h.len;rwa [List.length_map] at this
theorem empty_iff {l : List Nat} {k : Nat} (h : l.length = k) : ((k : Int) == 0) = l.isEmpty:=by
 cases l with
 | nil=>simp at h;subst h;rfl
 | cons a r=>simp at h;rw [← h];rw [Bool.eq_iff_iff];simp;omega
theorem oApplies_any (cl : List Nat) (b0 off0 n c0 a : Nat) (hl : cl.length = n) (hn : n≤100000) (hc0 : n≤c0) (h0 : 0 < a) (ha : a < n) (X : Nat→Prop) (r : RuleP) (v : Ruv) (w : World) (hr : RuX w X r v) (hok : RuleOk r) (hC : Rd w 1 (some ⟨b0,off0,none⟩) (cl.map encN)) :
  Calls Tryz.prog 158 #[valRu v,.slice (some ⟨b0,off0,none⟩) n c0,.int .i64 (a : Nat)] w fun e w'=>e = .returned (.bool (appliesB r cl a))∧Below w.heap.size w w':=by
 obtain ⟨v1,v2,v3,vl,vr⟩:=v
 have HR:=Lib.hid hr
 have HGl:=Lib.hid (fun W (h : PatX W X r.left vl)=>jGood_any X r.left vl W h (goodP_mono (by omega) hok.left) hok.sl)
 have HGr:=Lib.hid (fun W (h : PatX W X r.right vr)=>jGood_any X r.right vr W h (goodP_mono (by omega) hok.right) hok.sr)
 have HS:=Lib.hid (fun W c (h : PatX W X r.left vl) (hc : Rd W 1 (some ⟨b0,off0,none⟩) ((cl.take a).map encN))=>jStarts_any (cl.take a) (some ⟨b0,off0,none⟩) a c (by rw [List.length_take];omega) (by omega) X r.left vl W h hok.left hok.sl hc)
 have HE:=Lib.hid (fun W m c (hm : m = n - a) (h : PatX W X r.right vr) (hc : Rd W 1 (some ⟨b0,off0+a,none⟩) ((cl.drop a).map encN))=>jEnds_any (cl.drop a) (some ⟨b0,off0+a,none⟩) m c (by rw [List.length_drop];omega) (by omega) X r.right vr W h hok.right hok.sr hc)
 have HV : Hid (appliesB r cl a = (!(startsB r.left (cl.take a)).isEmpty && !(endsB r.right (cl.drop a)).isEmpty && (!v2 || (startsB r.left (cl.take a)).contains 0) && (!v3 || (endsB r.right (cl.drop a)).contains (n - a)))):=Lib.hid (by
  have h2:=hr.start
  have h3:=hr.stop
  simp only at h2 h3
  unfold appliesB;rw [hl,h2,h3])
 have HSz : Hid ((startsB r.left (cl.take a)).length≤n+1):=Lib.hid (by
  unfold startsB
  refine Nat.le_trans (List.length_filter_le _ _) ?_
  rw [List.length_range,List.length_take];omega)
 have HEz : Hid ((endsB r.right (cl.drop a)).length≤n+1):=Lib.hid (by
  unfold endsB
  refine Nat.le_trans (List.length_filter_le _ _) ?_
  rw [List.length_range,List.length_drop];omega)
 generalize startsB r.left (cl.take a) = SL at HS HV HSz
 generalize endsB r.right (cl.drop a) = EL at HE HV HEz
 clear hr hok
 unfold valRu
 unfold valPt at HGl HGr HS HE
 simp only
 have hac : (a : Int)≤(c0 : Int):=by omega
 have hac' : a≤c0:=by omega
 have haz : (0 : Int)≤(a : Int):=by omega
 have han : a≤n:=by omega
 have hca : ¬ c0 = a:=by omega
 have t1 : decide (n < a) = false:=decide_eq_false (by omega)
 have t2 : decide ((a : Int) < 0) = false:=decide_eq_false (by omega)
 go_enter Tryz.func158,Tryz.ntmps158
 go_wp2_with fail
 have Hz : Below w.heap.size w (w.alloc (.cells #[.bool v1,.bool v2,.bool v3,.int .i64 (vl.1 : Int),.slice vl.2.1.1 vl.2.1.2.1 vl.2.1.2.2,.slice vl.2.2.1 vl.2.2.2.1 vl.2.2.2.2,.int .i64 (vr.1 : Int),.slice vr.2.1.1 vr.2.1.2.1 vr.2.1.2.2,.slice vr.2.2.1 vr.2.2.2.1 vr.2.2.2.2] 209)):=(Below.refl _ _).alloc (Nat.le_refl _) _
 have hb0 : Blk (w.alloc (.cells #[.bool v1,.bool v2,.bool v3,.int .i64 (vl.1 : Int),.slice vl.2.1.1 vl.2.1.2.1 vl.2.1.2.2,.slice vl.2.2.1 vl.2.2.2.1 vl.2.2.2.2,.int .i64 (vr.1 : Int),.slice vr.2.1.1 vr.2.1.2.1 vr.2.1.2.2,.slice vr.2.2.1 vr.2.2.2.1 vr.2.2.2.2] 209)) w.heap.size 209 _:=Blk.new _ _ _
 generalize (w.alloc (.cells #[.bool v1,.bool v2,.bool v3,.int .i64 (vl.1 : Int),.slice vl.2.1.1 vl.2.1.2.1 vl.2.1.2.2,.slice vl.2.2.1 vl.2.2.2.1 vl.2.2.2.2,.int .i64 (vr.1 : Int),.slice vr.2.1.1 vr.2.1.2.1 vr.2.1.2.2,.slice vr.2.2.1 vr.2.2.2.1 vr.2.2.2.2] 209)) = w1 at Hz hb0 ⊢
 have d3:=hb0.cell 3
 have d4:=hb0.cell 4
 have d5:=hb0.cell 5
 have d6:=hb0.cell 6
 have d7:=hb0.cell 7
 have d8:=hb0.cell 8
 have d1:=hb0.cell 1
 have d2:=hb0.cell 2
 simp only [zG,zI,zH] at d1 d2 d3 d4 d5 d6 d7 d8
 have HD:=Lib.hid (fun W (h : Below w1.heap.size w1 W)=>And.intro (cell_keep d1 h) (And.intro (cell_keep d2 h) (And.intro (cell_keep d3 h) (And.intro (cell_keep d4 h) (And.intro (cell_keep d5 h) (And.intro (cell_keep d6 h) (And.intro (cell_keep d7 h) (cell_keep d8 h))))))))
 have HX:=Lib.hid (fun W (h : Below w1.heap.size w1 W)=>(HR.out.below Hz).below h)
 have HCc:=Lib.hid (fun W (h : Below w1.heap.size w1 W)=>(hC.below Hz).below h)
 clear hb0 HR hC
 refine (HGl.out w1 (HX.out w1 (Below.refl _ _)).left).mono ?_
 rintro e w2 ⟨rfl,hb2⟩
 obtain ⟨d1,d2,d3,d4,d5,d6,d7,d8⟩:=HD.out w2 hb2
 go_wp2_with fail
 refine (HGr.out w2 (HX.out w2 hb2).right).mono ?_
 rintro e w3 ⟨rfl,hb3⟩
 replace hb3:=below_two hb2 hb3
 clear HGl HGr d1 d2 d3 d4 d5 d6 d7 d8
 obtain ⟨d1,d2,d3,d4,d5,d6,d7,d8⟩:=HD.out w3 hb3
 have hb3d:=hb3.drew
 have Hbz:=Lib.hid (below_two Hz hb3)
 go_upto_region 3 with fail
 go_cut [7] from 29 to 34 (fun v wx=>∃ (A : Option Addr) (k c : Nat),v = .slice A k c∧SL.length = k∧Rd wx 1 A (SL.map encN)∧Below w1.heap.size w1 wx)
 case first =>
  refine wp_region_noPanic ?_
  go_region_law (go_simp;go_at_call 206;refine (HS.out w3.drew _ (HX.out w3.drew hb3d).left ((HCc.out w3.drew hb3d).takeN a)).mono ?_;rintro e w4 ⟨A4,k4,c4,rfl,ho4,hb4⟩)
  all_goals
   refine NoPanic.normal ?_
   have hb4':=below_step hb3d hb4 hb3d.size
   have hk4:=own_empty ho4
   go_wp2_with fail
   go_meet
   exact ⟨A4,k4,c4,rfl,hk4,ho4.rd (by omega),hb4'⟩
 case rest =>
  clear d1 d2 d3 d4 d5 d6 d7 d8 hb3d HS
  obtain ⟨A4,k4,c4,rfl,hk4,hr4,hb4⟩:=hcut
  obtain ⟨d1,d2,d3,d4,d5,d6,d7,d8⟩:=HD.out wc hb4
  have hb4d:=hb4.drew
  have hnac : (n : Int) - (a : Int) = ((n - a : Nat) : Int):=by omega
  go_upto_region 4 with fail
  go_cut [8] from 35 to 40 (fun v wx=>∃ (A : Option Addr) (k c : Nat),v = .slice A k c∧EL.length = k∧Rd wx 1 A (EL.map encN)∧Rd wx 1 A4 (SL.map encN)∧Below w1.heap.size w1 wx)
  case first =>
   refine wp_region_noPanic ?_
   go_region_law (go_simp;go_at_call 207;refine (HE.out wc.drew _ _ rfl (HX.out wc.drew hb4d).right ((HCc.out wc.drew hb4d).dropN a)).mono ?_;rintro e w5 ⟨A5,k5,c5,rfl,ho5,hb5⟩)
   all_goals
    refine NoPanic.normal ?_
    have hb5':=below_step hb4d hb5 hb4d.size
    have hk5:=own_empty ho5
    have hr4':=(hr4.drew).below hb5
    go_wp2_with fail
    go_meet
    exact ⟨A5,k5,c5,rfl,hk5,ho5.rd (by omega),hr4',hb5'⟩
  case rest =>
   clear d1 d2 d3 d4 d5 d6 d7 d8 hb4d HE hr4 hb4
   obtain ⟨A5,k5,c5,rfl,hk5,hr5,hr4,hb5⟩:=hcut
   obtain ⟨d1,d2,d3,d4,d5,d6,d7,d8⟩:=HD.out wc hb5
   have hbw:=below_two Hz hb5
   have hk4z : k4≤4000000:=by have:=HSz.out;omega
   have hk5z : k5≤4000000:=by have:=HEz.out;omega
   have u1:=empty_iff hk4
   have u2:=empty_iff hk5
   have HI1:=Lib.hid (oin_any A4 k4 c4 SL 0 wc hr4 hk4 hk4z)
   have HI2:=Lib.hid (oin_any A5 k5 c5 EL (n - a) wc hr5 hk5 hk5z)
   generalize SL.isEmpty = s1 at u1 HV
   generalize EL.isEmpty = s2 at u2 HV
   generalize SL.contains 0 = s3 at HI1 HV
   generalize EL.contains (n - a) = s4 at HI2 HV
   rw [← hnac] at HI2
   clear hr4 hr5 hk4 hk5 hk4z hk5z HSz HEz d3 d4 d5 d6 d7 d8 HD HX HCc hb5 hnac
   cases s1 with
   | true =>
    go_wp2
    go_ret
    exact ⟨by rw [HV.out];rfl,hbw⟩
   | false =>
    cases s2 with
    | true =>
     go_wp2
     go_ret
     exact ⟨by rw [HV.out];rfl,hbw⟩
    | false =>
     cases v2 with
     | true =>
      cases s3 with
      | false =>
       go_wp2_with fail
       refine HI1.out.mono ?_
       rintro e w7 ⟨rfl,rfl⟩
       go_wp2
       go_ret
       exact ⟨by rw [HV.out];rfl,hbw⟩
      | true =>
       cases v3 with
       | false =>
        go_wp2_with fail
        refine HI1.out.mono ?_
        rintro e w7 ⟨rfl,rfl⟩
        go_wp2
        go_ret
        exact ⟨by rw [HV.out];rfl,hbw⟩
       | true =>
        go_wp2_with fail
        refine HI1.out.mono ?_
        rintro e w7 ⟨rfl,rfl⟩
        go_wp2_with fail
        refine HI2.out.mono ?_
        rintro e w7 ⟨rfl,rfl⟩
        go_wp2
        go_ret
        exact ⟨by rw [HV.out];cases s4 <;> rfl,hbw⟩
     | false =>
      cases v3 with
      | false =>
       go_wp2
       go_ret
       exact ⟨by rw [HV.out];cases s3 <;> rfl,hbw⟩
      | true =>
       go_wp2_with fail
       refine HI2.out.mono ?_
       rintro e w7 ⟨rfl,rfl⟩
       go_wp2
       go_ret
       exact ⟨by rw [HV.out];cases s3 <;> cases s4 <;> rfl,hbw⟩
end
section
open Go.RowKit
theorem zamong_any (A : Option Addr) (n c : Nat) (l : List Nat) (x : Nat) (w : World) (hA : Rd w 1 A (l.map encN)) (hl : l.length = n) (hn : n≤4000000) :
  Calls Tryz.prog 204 #[.slice A n c,.int .i64 (x : Nat)] w fun e w'=>e = .returned (.bool (l.contains x))∧w = w':=by
 have Hl:=Lib.hid hl
 clear hl
 go_enter Tryz.func204,Tryz.ntmps204
 go_wp2
 go_loopw [5] (fun v wr=>∃ i : Nat,v = .int .i64 i∧i≤n∧x ∉ l.take i∧wr = w) (fun v _=>n - (intOf v).toNat)
 case atStart=>exact ⟨0,rfl,by omega,by simp,rfl⟩
 case round =>
  obtain ⟨i,rfl,hi,hm,rfl⟩:=hrel
  by_cases hlt : i < n
  ·obtain ⟨y,hy⟩ : ∃ y,l[i]? = some y:=⟨_,List.getElem?_eq_getElem (by have:=Hl.out;omega)⟩
   obtain ⟨b,off,rfl,hc⟩:=hA.atNa hy
   by_cases e : y = x
   ·subst e
    have HV:=Lib.hid (show l.contains y = true from List.contains_iff_mem.2 (List.mem_of_getElem? hy))
    clear hm hy
    go_wp2
    go_ret
    exact ⟨by rw [HV.out];rfl,rfl⟩
   ·have e2 : ((y : Int) == (x : Int)) = false:=beq_eq_false_iff_ne.2 (by omega)
    have HM:=Lib.hid (mem_step hm hy e)
    clear hm hy e
    go_wp2
    go_roundw
    case rel=>exact ⟨i+1,by go_num,by omega,HM.out,by first | rfl | trivial⟩
    case measure=>simp [intOf];omega
  ·obtain rfl : i = n:=by omega
   have HV:=Lib.hid (show l.contains x = false from by
    rw [List.take_of_length_le (by have:=Hl.out;omega)] at hm
    exact Bool.eq_false_iff.2 fun h=>hm (List.contains_iff_mem.1 h))
   go_wp2
   go_ret
   exact ⟨by rw [HV.out];rfl,rfl⟩
theorem jEmpty_any (X : Nat→Prop) (p : Pat) (v : Pv) (w : World) (hp : PatX w X p v) (hg : goodP 64 p = true) (hs : sizeP p≤2048) :
  Calls Tryz.prog 203 #[valPt v] w fun e w'=>e = .returned (.bool (emptyB p))∧Below w.heap.size w w':=by
 have HM : Hid (∀ W,PatX W X p v→Calls Tryz.prog 250 #[valPt v,.slice none 0 0] W fun e w'=>e = .returned (.bool (emptyB p))∧Below W.heap.size W w'):=Lib.hid fun W hp=>by
  have HE:=Lib.hid (fun W (h : PatX W X p v)=>jEnds_any [] none 0 0 rfl (by omega) X p v W h hg hs (Rd.nil_ _ _ _))
  have HZ : Hid ((endsB p []).length≤1):=Lib.hid (by
   unfold endsB
   refine Nat.le_trans (List.length_filter_le _ _) ?_
   rw [List.length_range];exact Nat.le_refl _)
  have HV : Hid (emptyB p = (endsB p []).contains 0):=Lib.hid rfl
  have HP:=Lib.hid hp
  generalize endsB p [] = EL at HE HZ HV
  clear hp hg
  unfold valPt at HE ⊢
  have Hz : Below W.heap.size W (W.alloc (.cells #[.int .i64 (v.1 : Int),.slice v.2.1.1 v.2.1.2.1 v.2.1.2.2,.slice v.2.2.1 v.2.2.2.1 v.2.2.2.2] 207)):=(Below.refl _ _).alloc (Nat.le_refl _) _
  go_enter Tryz.func250,Tryz.ntmps250
  go_wp2_with fail
  refine (HE.out _ (HP.out.below Hz)).mono ?_
  rintro e w2 ⟨A,k,c,rfl,ho,hb2⟩
  have hk:=own_empty ho
  have HI:=Lib.hid (jin_any A k c EL 0 w2 (ho.rd (by omega)) hk (by have:=HZ.out;omega))
  generalize EL.contains 0 = q at HI HV
  clear ho HE
  go_wp2_with fail
  refine HI.out.mono ?_
  rintro e w3 ⟨rfl,rfl⟩
  go_wp2
  go_ret
  exact ⟨by rw [HV.out];rfl,below_two Hz hb2⟩
 have HP:=Lib.hid hp
 clear hp hg
 unfold valPt at HM ⊢
 have Hz : Below w.heap.size w (w.alloc (.cells #[.int .i64 (v.1 : Int),.slice v.2.1.1 v.2.1.2.1 v.2.1.2.2,.slice v.2.2.1 v.2.2.2.1 v.2.2.2.2] 207)):=(Below.refl _ _).alloc (Nat.le_refl _) _
 go_enter Tryz.func203,Tryz.ntmps203
 go_wp2_with fail
 refine (HM.out _ (HP.out.below Hz)).mono ?_
 rintro e w2 ⟨rfl,hb2⟩
 go_wp2
 go_ret
 exact ⟨rfl,below_two Hz hb2⟩
theorem someT_all : ∀ ks : List Pat,someT ks = ks.all someB
 | []=>by unfold someT;rfl
 | p :: r=>by unfold someT;rw [List.all_cons,someT_all r]
theorem someO_any : ∀ ks : List Pat,someO ks = ks.any someB
 | []=>by unfold someO;rfl
 | p :: r=>by unfold someO;rw [List.any_cons,someO_any r]
def KidSome (p : Pat) : Prop:=∀ (X : Nat→Prop) (v : Pv) (w : World),PatX w X p v→goodP 64 p = true→Calls Tryz.prog 286 #[valPt v] w fun e w'=>e = .returned (.bool (someB p))∧Below w.heap.size w w'
theorem jrest_any (X : Nat→Prop) (ks : List Pat) (vs : List Pv) (A : Option Addr) (n c : Nat) (w : World) (hA : SlX w X 3 (A,n,c) (vs.map encPt)) (hK : PatsX w X ks vs) (HK : ∀ p ∈ ks,KidSome p) (hg : goodL 64 ks = true) (hz : ks.length≤2048) :
  Calls Tryz.prog 287 #[.slice A n c] w fun e w'=>e = .returned (.bool (someT ks))∧Below w.heap.size w w':=by
 have hl:=hA.len
 rw [List.length_map,hK.len] at hl
 simp only at hl
 have Hl:=Lib.hid hl
 have HA:=Lib.hid hA
 have HKs:=Lib.hid hK
 have HKid:=Lib.hid HK
 have Hg:=Lib.hid hg
 have hn : n≤2048:=by omega
 clear hl hA hK HK hg
 go_enter Tryz.func287,Tryz.ntmps287
 go_wp2
 go_loopw [3] (fun v wr=>∃ i : Nat,v = .int .i64 i∧i≤n∧Hid (∀ j q,j < i→ks[j]? = some q→someB q = true)∧Below w.heap.size w wr) (fun v _=>n - (intOf v).toNat)
 case atStart=>exact ⟨0,rfl,by omega,Lib.hid (fun j q h=>absurd h (Nat.not_lt_zero _)),Below.refl _ _⟩
 case round =>
  obtain ⟨i,rfl,hi,HI,hb⟩:=hrel
  by_cases hlt : i < n
  ·obtain ⟨q,hq⟩ : ∃ q,ks[i]? = some q:=⟨_,List.getElem?_eq_getElem (by have:=Hl.out;omega)⟩
   obtain ⟨u,hu,hp⟩:=HKs.out.at_ hq
   obtain ⟨b,off,e,k0,k1,k2⟩:=HA.out.atPt hu
   simp only at e
   subst e
   have HC:=Lib.hid (HKid.out q (List.mem_of_getElem? hq) X u wr (hp.below hb) (goodL_at Hg.out hq))
   replace k0:=cell_keep k0 hb
   replace k1:=cell_keep k1 hb
   replace k2:=cell_keep k2 hb
   unfold valPt at HC
   obtain ⟨sq,Hq⟩ : ∃ sq,Hid (someB q = sq):=⟨_,Lib.hid rfl⟩
   rw [Hq.out] at HC
   have Hqi:=Lib.hid hq
   clear hq hp hu
   go_wp2_with fail
   refine HC.out.mono ?_
   rintro e w3 ⟨rfl,hb3⟩
   cases sq with
   | false =>
    have HV:=Lib.hid (show someT ks = false from by
     rw [someT_all,Bool.eq_false_iff]
     intro h
     have:=List.all_eq_true.1 h q (List.mem_of_getElem? Hqi.out)
     rw [Hq.out] at this;cases this)
    go_wp2
    go_ret
    exact ⟨by rw [HV.out];rfl,below_two hb hb3⟩
   | true =>
    go_wp2
    go_roundw
    case rel=>exact ⟨i+1,by go_num,by omega,Lib.hid (fun j q' hj hq'=>by
     rcases Nat.lt_or_ge j i with h | h
     ·exact HI.out j q' h hq'
     ·obtain rfl : j = i:=by omega
      rw [Hqi.out] at hq'
      injection hq' with hq'
      rw [← hq'];exact Hq.out),below_two hb hb3⟩
    case measure=>simp [intOf];omega
  ·obtain rfl : i = n:=by omega
   have HV:=Lib.hid (show someT ks = true from by
    rw [someT_all,List.all_eq_true]
    intro q hq
    obtain ⟨j,hj,e⟩:=List.getElem_of_mem hq
    exact HI.out j q (by have:=Hl.out;omega) (by rw [List.getElem?_eq_getElem hj,e]))
   go_wp2
   go_ret
   exact ⟨by rw [HV.out];rfl,hb⟩
theorem jsome_all : ∀ (z : Nat) (p : Pat),sizeP p≤z→sizeP p≤2048→KidSome p:=by
 intro z
 induction z with
 | zero=>intro p hz;have:=sizeP_pos p;omega
 | succ z ih =>
  intro p hz hs X v w hp hg
  obtain ⟨op,cs,ks⟩:=p
  obtain ⟨o,⟨A,n,c⟩,⟨B,m,d⟩⟩:=v
  simp only [PatX] at hp
  obtain ⟨rfl,hA,vs,hB,hK⟩:=hp
  unfold goodP at hg
  rw [Bool.and_eq_true] at hg
  obtain ⟨h1,h2,h3,h4,h5⟩:=node_parts hg.1
  have hzl : sizeL ks≤z:=by unfold sizeP at hz;omega
  have hsl : sizeL ks≤2047:=by unfold sizeP at hs;omega
  have hk : ∀ p ∈ ks,KidSome p:=fun p hp=>by
   obtain ⟨i,hi,e⟩:=List.getElem_of_mem hp
   have h6:=sizeL_at (ks:=ks) (i:=i) (p:=p) (by rw [List.getElem?_eq_getElem hi,e])
   exact ih p (by omega) (by omega)
  have hkl:=sizeL_len ks
  have hn : cs.length = n:=by have:=hA.len;rwa [List.length_map] at this
  have hm : vs.length = m:=by have:=hB.len;rwa [List.length_map] at this
  have hk2:=hK.len
  rw [hm] at hk2
  have hgl:=hg.2
  unfold valPt
  simp only
  have Hz : Below w.heap.size w (w.alloc (.cells #[.int .i64 (o : Int),.slice A n c,.slice B m d] 207)):=(Below.refl _ _).alloc (Nat.le_refl _) _
  have hb0 : Blk (w.alloc (.cells #[.int .i64 (o : Int),.slice A n c,.slice B m d] 207)) w.heap.size 207 _:=Blk.new _ _ _
  have HB:=Lib.hid hB
  have HK:=Lib.hid hK
  have HKid:=Lib.hid hk
  have Hgl:=Lib.hid hgl
  have Hk2:=Lib.hid hk2
  have hkz : ks.length≤2048:=by omega
  have hmz : m≤2048:=by omega
  clear hA hB hK hk hgl hk2 hg hm ih hkl hzl hsl hz hs
  rcases (by omega : o = 0∨o = 1∨o = 2∨o = 3∨o = 4∨o = 5∨o = 6) with rfl | rfl | rfl | rfl | rfl | rfl | rfl
  ·have e : someB (.node 0 cs ks) = true:=by unfold someB;rfl
   rw [e]
   clear h1 h2 h3 h4 h5 hn
   go_enter Tryz.func286,Tryz.ntmps286
   go_wp2
   go_ret
   exact ⟨rfl,Hz⟩
  ·have e : someB (.node 1 cs ks) = !cs.isEmpty:=by unfold someB;rfl
   rw [e]
   have HE:=Lib.hid (empty_iff hn)
   clear h1 h2 h3 h4 h5
   cases cs with
   | nil =>
    simp only [List.length_nil] at hn
    subst hn
    go_enter Tryz.func286,Tryz.ntmps286
    go_wp2
    go_ret
    exact ⟨rfl,Hz⟩
   | cons x r =>
    have h0 : decide ((0 : Int) < (n : Int)) = true:=decide_eq_true (by simp at hn;omega)
    have h0' : 0 < n:=by simp at hn;omega
    clear hn
    go_enter Tryz.func286,Tryz.ntmps286
    go_wp2
    go_ret
    exact ⟨rfl,Hz⟩
  ·have e : someB (.node 2 cs ks) = someT ks:=by unfold someB;rfl
   rw [e]
   clear h1 h2 h3 h4 h5 hn
   have HC:=Lib.hid (jrest_any X ks vs B m d _ (HB.out.keep (KeepX.below Hz)) (HK.out.below Hz) HKid.out Hgl.out hkz)
   go_enter Tryz.func286,Tryz.ntmps286
   go_wp2_with fail
   refine HC.out.mono ?_
   rintro e w3 ⟨rfl,hb3⟩
   go_wp2
   go_ret
   exact ⟨rfl,below_two Hz hb3⟩
  ·have e : someB (.node 3 cs ks) = someO ks:=by unfold someB;rfl
   rw [e]
   clear h1 h2 h3 h4 h5 hn
   have e3 : ((3 : Nat) : Int) = 3:=rfl
   rw [e3] at Hz hb0 ⊢
   go_enter Tryz.func286,Tryz.ntmps286
   go_wp2_with fail
   generalize (w.alloc (.cells #[.int .i64 3,.slice A n c,.slice B m d] 207)) = w1 at Hz hb0 ⊢
   have k20:=hb0.cell 2
   simp only [zG,zI,zH] at k20
   clear hb0
   go_loopw [3] (fun v wr=>∃ i : Nat,v = .int .i64 i∧i≤m∧Hid (∀ j q,j < i→ks[j]? = some q→someB q = false)∧Below w1.heap.size w1 wr) (fun v _=>m - (intOf v).toNat)
   case atStart=>exact ⟨0,rfl,by omega,Lib.hid (fun j q h=>absurd h (Nat.not_lt_zero _)),Below.refl _ _⟩
   case round =>
    obtain ⟨i,rfl,hi,HI,hb⟩:=hrel
    have hbw:=below_two Hz hb
    have kk2:=cell_keep k20 hb
    by_cases hlt : i < m
    ·obtain ⟨q,hq⟩ : ∃ q,ks[i]? = some q:=⟨_,List.getElem?_eq_getElem (by have:=Hk2.out;omega)⟩
     obtain ⟨u,hu,hp⟩:=HK.out.at_ hq
     obtain ⟨b,off,e,k0,k1,k2⟩:=HB.out.atPt hu
     simp only at e
     subst e
     have HC:=Lib.hid (HKid.out q (List.mem_of_getElem? hq) X u wr (hp.below hbw) (goodL_at Hgl.out hq))
     replace k0:=cell_keep k0 hbw
     replace k1:=cell_keep k1 hbw
     replace k2:=cell_keep k2 hbw
     unfold valPt at HC
     obtain ⟨sq,Hq⟩ : ∃ sq,Hid (someB q = sq):=⟨_,Lib.hid rfl⟩
     rw [Hq.out] at HC
     have Hqi:=Lib.hid hq
     clear hq hp hu
     go_wp2_with fail
     refine HC.out.mono ?_
     rintro e w3 ⟨rfl,hb3⟩
     cases sq with
     | true =>
      have HV:=Lib.hid (show someO ks = true from by
       rw [someO_any,List.any_eq_true]
       exact ⟨q,List.mem_of_getElem? Hqi.out,Hq.out⟩)
      go_wp2
      go_ret
      exact ⟨by rw [HV.out];rfl,below_two hbw hb3⟩
     | false =>
      go_wp2
      go_roundw
      case rel=>exact ⟨i+1,by go_num,by omega,Lib.hid (fun j q' hj hq'=>by
       rcases Nat.lt_or_ge j i with h | h
       ·exact HI.out j q' h hq'
       ·obtain rfl : j = i:=by omega
        rw [Hqi.out] at hq'
        injection hq' with hq'
        rw [← hq'];exact Hq.out),below_two hb hb3⟩
      case measure=>simp [intOf];omega
    ·obtain rfl : i = m:=by omega
     have HV:=Lib.hid (show someO ks = false from by
      rw [someO_any,List.any_eq_false]
      intro q hq
      obtain ⟨j,hj,e⟩:=List.getElem_of_mem hq
      rw [HI.out j q (by have:=Hk2.out;omega) (by rw [List.getElem?_eq_getElem hj,e])]
      exact Bool.false_ne_true)
     go_wp2
     go_ret
     exact ⟨by rw [HV.out];rfl,hbw⟩
  ·have e : someB (.node 4 cs ks) = true:=by unfold someB;rfl
   rw [e]
   clear h1 h2 h3 h4 h5 hn
   go_enter Tryz.func286,Tryz.ntmps286
   go_wp2
   go_ret
   exact ⟨rfl,Hz⟩
  ·obtain ⟨q,rfl⟩:=form_one h3 (by omega)
   have e : someB (.node 5 cs [q]) = someB q:=by (conv=>lhs;unfold someB);simp [someH]
   rw [e]
   have hm1 : m = 1:=by have:=Hk2.out;simpa using this
   subst hm1
   have e5 : ((5 : Nat) : Int) = 5:=rfl
   rw [e5] at Hz hb0 ⊢
   obtain ⟨u,hu,hp⟩:=HK.out.at_ (k:=0) (p:=q) rfl
   obtain ⟨b,off,e,k0,k1,k2⟩:=HB.out.atPt hu
   simp only at e
   subst e
   have HC:=Lib.hid (HKid.out q (by simp) X u _ (hp.below Hz) (goodL_at Hgl.out (i:=0) rfl))
   replace k0:=cell_keep k0 Hz
   replace k1:=cell_keep k1 Hz
   replace k2:=cell_keep k2 Hz
   simp only [Nat.zero_mul,Nat.add_zero] at k0 k1 k2
   unfold valPt at HC
   clear h1 h2 h3 h4 h5 hn hu hp
   go_enter Tryz.func286,Tryz.ntmps286
   go_wp2_with fail
   refine HC.out.mono ?_
   rintro e w3 ⟨rfl,hb3⟩
   go_wp2
   go_ret
   exact ⟨rfl,below_two Hz hb3⟩
  ·have e : someB (.node 6 cs ks) = true:=by unfold someB;rfl
   rw [e]
   clear h1 h2 h3 h4 h5 hn
   go_enter Tryz.func286,Tryz.ntmps286
   go_wp2
   go_ret
   exact ⟨rfl,Hz⟩
end
section
open Go.RowKit
theorem SlX.dropPt {w : World} {X : Nat → Prop} {b off n c : Nat} {vs : List Pv} (h : SlX w X 3 (some ⟨b, off, none⟩, n, c) (vs.map encPt)) (k : Nat) (hk : k ≤ n) : SlX w X 3 (some ⟨b, off + k * 3, none⟩, n - k, c - k) ((vs.drop k).map encPt) :=
  ⟨fun hn => by
    obtain ⟨b', off', e, hc⟩ := h.rd (by intro e; rw [List.map_eq_nil_iff] at e; subst e; simp at hn)
    injection e with e
    injection e with e1 e2 _
    subst e1
    subst e2
    refine ⟨b, off + k * 3, rfl, fun i j x u hi hj => ?_⟩
    have := hc (k + i) j x u (by rw [List.getElem?_map, List.getElem?_drop] at hi; rw [List.getElem?_map]; exact hi) hj
    rw [show off + k * 3 + i * 3 + j = off + (k + i) * 3 + j by omega]
    exact this,
   by have := h.len; rw [List.length_map] at this; rw [List.length_map, List.length_drop]; simp only at this ⊢; omega,
   fun a ha => by injection ha with ha; subst ha; exact h.inn ⟨b, off, none⟩ rfl,
   by have := h.cap; simp only at this ⊢; omega⟩
theorem SlX.none_left {w : World} {X : Nat→Prop} {b off n c : Nat} {cs : List (List Value)} (h : SlX w X 3 (some ⟨b,off,none⟩,n,c) cs) : SlX w X 3 (some ⟨b,off,none⟩,0,0) [] :=
 ⟨Rd.nil_ _ _ _,rfl,fun a ha=>by injection ha with ha;subst ha;exact h.inn _ rfl,Nat.le_refl _⟩
mutual
theorem firsts_len : ∀ p : Pat,goodP 64 p = true→(firstsB p).length≤64*sizeP p
 | .node op cs ks,h=>by
  unfold goodP at h
  rw [Bool.and_eq_true] at h
  obtain ⟨_,_,_,h4,h5⟩:=node_parts h.1
  have hcz : cs.length≤64:=rises_len h5 h4
  have hk:=firstsL_len (decide (op = 2)) ks h.2
  unfold firstsB sizeP
  split
  ·simp
  split
  ·omega
  ·omega
theorem firstsL_len (t : Bool) : ∀ ks : List Pat,goodL 64 ks = true→(firstsL t ks).length≤64*sizeL ks
 | [],_=>by unfold firstsL;simp
 | p :: r,h=>by
  unfold goodL at h
  rw [Bool.and_eq_true] at h
  have h1:=firsts_len p h.1
  have h2:=firstsL_len t r h.2
  unfold firstsL sizeL
  rw [List.length_append]
  split <;> split <;> simp <;> omega
end
def FirstsEnd (w : World) (l : List Nat) (e : Ending) (w' : World) : Prop:=∃ (A : Option Addr) (n c : Nat),e = .returned (.slice A n c)∧Rd w' 1 A (l.map encN)∧l.length = n∧Below w.heap.size w w'
def KidFirsts (p : Pat) : Prop:=∀ (X : Nat→Prop) (v : Pv) (w : World),PatX w X p v→goodP 64 p = true→Calls Tryz.prog 248 #[valPt v] w (FirstsEnd w (firstsB p))
def stepF (t : Bool) (p : Pat) (r : List Pat) : List Nat:=if someB p && (!t || someT r) then firstsB p else []
theorem firstsL_step (t : Bool) (p : Pat) (r : List Pat) : firstsL t (p :: r) = stepF t p r++(if t && !emptyB p then [] else firstsL t r):=by
 conv=>lhs;unfold firstsL
 rfl
theorem firstsL_nil (t : Bool) : firstsL t [] = []:=by unfold firstsL;rfl
theorem drop_hd {α : Type} {l : List α} {i : Nat} {x : α} (h : l[i]? = some x) : l.drop i = x :: l.drop (i+1):=by
 obtain ⟨h1,h2⟩:=List.getElem?_eq_some_iff.1 h
 rw [List.drop_eq_getElem_cons h1,h2]
theorem goodL_drop {N : Nat} : ∀ {ks : List Pat} (k : Nat),goodL N ks = true→goodL N (ks.drop k) = true
 | [],k,h=>by simpa using h
 | p :: r,0,h=>h
 | p :: r,k+1,h=>by
  unfold goodL at h
  rw [Bool.and_eq_true] at h
  rw [List.drop_succ_cons]
  exact goodL_drop k h.2
theorem PatsX.drop {w : World} {X : Nat→Prop} : ∀ {ks : List Pat} {vs : List Pv} (k : Nat),PatsX w X ks vs→PatsX w X (ks.drop k) (vs.drop k)
 | [],vs,k,h=>by simp only [PatsX] at h;subst h;simp [PatsX]
 | p :: r,vs,0,h=>h
 | p :: r,vs,k+1,h=>by
  simp only [PatsX] at h
  obtain ⟨v,s,rfl,_,h3⟩:=h
  rw [List.drop_succ_cons,List.drop_succ_cons]
  exact PatsX.drop k h3
theorem jfirsts_then (X : Nat→Prop) (cs : List Nat) (ks : List Pat) (v : Pv) (w : World) (hp : PatX w X (.node 2 cs ks) v) (hg : goodL 64 ks = true) (hz : sizeL ks≤2048) (HK : ∀ p ∈ ks,KidFirsts p) (HS : ∀ p ∈ ks,KidSome p) :
  Calls Tryz.prog 248 #[valPt v] w (FirstsEnd w (firstsL true ks)):=by
 obtain ⟨i0,hi0,hz0,hz1,hz2⟩:=info_parts infoInt
 obtain ⟨o,⟨A,nc,c⟩,⟨B,m,d⟩⟩:=v
 simp only [PatX] at hp
 obtain ⟨rfl,hA,vs,hB,hKs⟩:=hp
 have hm : vs.length = m:=by have:=hB.len;rwa [List.length_map] at this
 have hk2:=hKs.len
 rw [hm] at hk2
 have hkl:=sizeL_len ks
 have hmz : m≤2048:=by omega
 have hmd : m≤d:=hB.cap
 have HTot:=Lib.hid (show (firstsL true ks).length≤131072 by have:=firstsL_len true ks hg;omega)
 have HF:=Lib.hid HK
 have HSo:=Lib.hid HS
 have Hg:=Lib.hid hg
 have HB:=Lib.hid hB
 have HKs:=Lib.hid hKs
 have Hk2:=Lib.hid hk2
 have Hkz:=Lib.hid (show ks.length≤2048 by omega)
 have Hsz:=Lib.hid (fun (i : Nat) (p : Pat) (h : ks[i]? = some p)=>show sizeP p≤2048 by have:=sizeL_at h;omega)
 unfold valPt
 show Calls Tryz.prog 248 #[.agg #[.int .i64 2,.slice A nc c,.slice B m d]] w _
 have hb0 : Blk (w.alloc (.cells #[.int .i64 2,.slice A nc c,.slice B m d] 207)) w.heap.size 207 _:=Blk.new _ _ _
 have Hz : Below w.heap.size w (w.alloc (.cells #[.int .i64 2,.slice A nc c,.slice B m d] 207)):=(Below.refl _ _).alloc (Nat.le_refl _) _
 clear hA hB hKs hk2 hkl hg hz HK HS hm
 unfold FirstsEnd
 go_enter Tryz.func248,Tryz.ntmps248
 go_wp2_with fail
 generalize (w.alloc (.cells #[.int .i64 2,.slice A nc c,.slice B m d] 207)) = w1 at Hz hb0 ⊢
 have k00:=hb0.cell 0
 have k20:=hb0.cell 2
 simp only [zG,zI,zH] at k00 k20
 clear hb0
 go_loopw [3,4] (fun u z wr=>∃ (i : Nat) (A3 : Option Addr) (k3 c3 : Nat) (L : List Nat),u = .slice A3 k3 c3∧z = .int .i64 i∧i≤m∧L.length = k3∧Hid (firstsL true ks = L++firstsL true (ks.drop i))∧Own wr w1.heap.size 3 1 A3 k3 c3 (L.map encN)∧Below w1.heap.size w1 wr) (fun _ z _=>m - (intOf z).toNat)
 case atStart=>exact ⟨0,none,0,0,[],rfl,rfl,by omega,rfl,Lib.hid (by simp),Own.nil_ _ _ _ _,Below.refl _ _⟩
 case round =>
  obtain ⟨i,A3,k3,c3,L,rfl,rfl,hi,hL,HL,ho,hb⟩:=hrel
  have hbw:=below_two Hz hb
  have k0:=cell_keep k00 hb
  have k2:=cell_keep k20 hb
  have hsz:=hb.size
  have hL3 : k3≤131072:=by
   have:=HTot.out
   rw [HL.out,List.length_append] at this
   omega
  by_cases hlt : i < m
  ·obtain ⟨q,hq⟩ : ∃ q,ks[i]? = some q:=⟨_,List.getElem?_eq_getElem (by have:=Hk2.out;omega)⟩
   obtain ⟨u,hu,hp⟩:=HKs.out.at_ hq
   obtain ⟨b,off,e,x0,x1,x2⟩:=HB.out.atPt hu
   simp only at e
   subst e
   have hqm:=List.mem_of_getElem? hq
   have hgq:=goodL_at Hg.out hq
   have hqz:=Hsz.out i q hq
   have HC1:=Lib.hid (fun W (h : Below w.heap.size w W)=>HSo.out q hqm X u W (hp.below h) hgq)
   have HC3:=Lib.hid (fun W (h : Below w.heap.size w W)=>HF.out q hqm X u W (hp.below h) hgq)
   have HC4:=Lib.hid (fun W (h : Below w.heap.size w W)=>jEmpty_any X q u W (hp.below h) hgq hqz)
   have HX:=Lib.hid (fun W (h : Below w.heap.size w W)=>And.intro (cell_keep x0 h) (And.intro (cell_keep x1 h) (cell_keep x2 h)))
   obtain ⟨i1,Hi1⟩ : ∃ i1,Hid (i+1 = i1):=⟨_,Lib.hid rfl⟩
   have e1 : (i : Int)+1 = (i1 : Int):=by have:=Hi1.out;omega
   have hi1m : i1≤m:=by have:=Hi1.out;omega
   have HC2:=Lib.hid (fun W (h : Below w.heap.size w W)=>jrest_any X (ks.drop i1) (vs.drop i1) (some ⟨b,off+i1*3,none⟩) (m - i1) (d - i1) W ((HB.out.keep (KeepX.below h)).dropPt i1 hi1m) ((HKs.out.below h).drop i1) (fun p hp=>HSo.out p (List.mem_of_mem_drop hp)) (goodL_drop i1 Hg.out) (by rw [List.length_drop];have:=Hkz.out;omega))
   have HC5:=Lib.hid (fun W (h : Below w.heap.size w W)=>jrest_any X [] [] (some ⟨b,off,none⟩) 0 0 W (HB.out.keep (KeepX.below h)).none_left (by simp only [PatsX]) (fun p hp=>by cases hp) (by unfold goodL;rfl) (by simp))
   have HD : Hid (firstsL true ks = L++stepF true q (ks.drop i1)++(if emptyB q then firstsL true (ks.drop i1) else [])):=Lib.hid (by
    rw [HL.out,drop_hd hq,firstsL_step,List.append_assoc,Hi1.out]
    cases emptyB q <;> rfl)
   have HSt : Hid (stepF true q (ks.drop i1) = if someB q && someT (ks.drop i1) then firstsB q else []):=Lib.hid (by unfold stepF;rfl)
   have HE : Hid (m = i1→someT (ks.drop i1) = true):=Lib.hid (fun e=>by rw [List.drop_eq_nil_of_le (by have:=Hk2.out;omega)];unfold someT;rfl)
   have HFl:=Lib.hid (firsts_len q hgq)
   have hne1 : someT ([] : List Pat) = true:=by unfold someT;rfl
   rw [hne1] at HC5
   generalize someT (ks.drop i1) = r1 at HC2 HSt HE
   generalize someB q = s1 at HC1 HSt
   generalize emptyB q = y1 at HC4 HD
   generalize stepF true q (ks.drop i1) = st at HD HSt
   unfold valPt at HC1 HC3 HC4
   clear hq hp hu hqm hgq x0 x1 x2 hne1
   go_upto_region 10 with fail
   go_cut [38] from 13 to 38 (fun t wx=>t = .bool (s1 && r1)∧Below wr.heap.size wr wx)
   case first =>
    obtain ⟨x0,x1,x2⟩:=HX.out wr hbw
    have h1:=Lib.hid (HC1.out wr hbw)
    cases s1 with
    | false =>
     go_wp2_with fail
     refine h1.out.mono ?_
     rintro e w3 ⟨rfl,hb3⟩
     go_wp2
     go_meet
     exact ⟨rfl,hb3⟩
    | true =>
     by_cases hdi : d = i1
     ·have hmi : m = i1:=by omega
      have hr1:=HE.out hmi
      subst hr1
      subst hmi
      subst hdi
      go_wp2_with fail
      refine h1.out.mono ?_
      rintro e w3 ⟨rfl,hb3⟩
      have h5:=Lib.hid (HC5.out w3 (below_two hbw hb3))
      have k0':=cell_keep k0 hb3
      have k2':=cell_keep k2 hb3
      go_wp2_with fail
      refine h5.out.mono ?_
      rintro e w4 ⟨rfl,hb4⟩
      go_wp2
      go_meet
      exact ⟨rfl,below_two hb3 hb4⟩
     ·have hdi' : i1≤d:=by omega
      have t1 : decide (m < i1) = false:=decide_eq_false (by omega)
      go_wp2_with fail
      refine h1.out.mono ?_
      rintro e w3 ⟨rfl,hb3⟩
      have h2:=Lib.hid (HC2.out w3 (below_two hbw hb3))
      have k0':=cell_keep k0 hb3
      have k2':=cell_keep k2 hb3
      go_wp2_with fail
      refine h2.out.mono ?_
      rintro e w4 ⟨rfl,hb4⟩
      go_wp2
      go_meet
      exact ⟨rfl,below_two hb3 hb4⟩
   case rest =>
    obtain ⟨rfl,hbc⟩:=hcut
    have hbw2:=below_two hbw hbc
    have hb1:=below_two hb hbc
    have ho2:=ho.below hbc
    have k0':=cell_keep k0 hbc
    have k2':=cell_keep k2 hbc
    have hsz2:=hb1.size
    generalize (s1 && r1) = tt at HSt ⊢
    generalize firstsB q = F at HC3 HFl HSt
    clear k0 k2 ho hb hbw hbc hsz HC1 HC2 HC5 HE
    go_upto_if 38 with fail
    go_cut [3] from 13 to 46 (fun v wx=>∃ (A4 : Option Addr) (k4 c4 : Nat),v = .slice A4 k4 c4∧(L++st).length = k4∧Own wx w1.heap.size 3 1 A4 k4 c4 ((L++st).map encN)∧Below w1.heap.size w1 wx)
    case first =>
     cases tt with
     | false =>
      have hst : st = []:=HSt.out
      subst hst
      go_wp2
      go_meet
      exact ⟨A3,k3,c3,rfl,by simpa using hL,by simpa using ho2,hb1⟩
     | true =>
      have hst : st = F:=HSt.out
      subst hst
      have hFz : st.length≤131072:=by have:=HFl.out;have:=Hsz.out;omega
      obtain ⟨x0,x1,x2⟩:=HX.out wc hbw2
      have h3:=Lib.hid (HC3.out wc hbw2)
      go_wp2_with fail
      refine h3.out.mono ?_
      rintro e w5 ⟨A5,n5,c5,rfl,hr5,hl5,hb5⟩
      have ho5:=ho2.below hb5
      have hb15:=below_two hb1 hb5
      have hsz5:=hb15.size
      go_wp2_with (at_builtin;go_must (refine wpList_app rfl (.tmp 39) (.tmp 45) _ rfl w1.heap.size 3 i0 _ 1 8 Tryz.underlying52 hi0 hz0 hz1 hz2 rfl (by omega) A3 k3 c3 _ rfl ho5 A5 n5 c5 (st.map encN) rfl (by simpa using hl5) hr5 (encN_ok' _) (by unfold maxLen;omega) (by omega) (by omega) ?_);intro A6 c6 w6 ho6 hg6 hA6)
      have hb6:=below_app hb15 hg6 hsz5 (fun a ha=>(ho5.lt a ha).1)
      go_meet
      exact ⟨A6,k3+n5,c6,rfl,by rw [List.length_append,hL,hl5],by rw [List.map_append];exact ho6,hb6⟩
    case rest =>
     obtain ⟨A4,k4,c4,rfl,hL4,ho4,hb4⟩:=hcut
     have hbw4:=below_two Hz hb4
     have q0:=cell_keep k00 hb4
     have q2:=cell_keep k20 hb4
     obtain ⟨x0,x1,x2⟩:=HX.out wc hbw4
     have h4:=Lib.hid (HC4.out wc hbw4)
     clear k0' k2' ho2 hb1
     go_wp2_with fail
     refine h4.out.mono ?_
     rintro e w5 ⟨rfl,hb5⟩
     have hb15:=below_two hb4 hb5
     cases y1 with
     | false =>
      have HV : Hid (firstsL true ks = L++st):=Lib.hid (by have:=HD.out;simpa using this)
      rw [← HV.out] at ho4 hL4
      go_wp2
      go_ret
      exact ⟨A4,k4,c4,rfl,(ho4.below hb5).rd (by decide),hL4,below_two hbw4 hb5⟩
     | true =>
      go_wp2
      go_roundw
      case rel=>exact ⟨i1,A4,k4,c4,L++st,rfl,by have:=Hi1.out;first | rfl | go_num,hi1m,hL4,Lib.hid (by have:=HD.out;simpa using this),ho4.below hb5,hb15⟩
      case measure=>simp [intOf];have:=Hi1.out;omega
  ·obtain rfl : i = m:=by omega
   have HV:=Lib.hid (show firstsL true ks = L by
    have:=HL.out
    rw [List.drop_eq_nil_of_le (by have:=Hk2.out;omega)] at this
    rw [firstsL_nil,List.append_nil] at this
    exact this)
   rw [← HV.out] at ho hL
   go_wp2
   go_ret
   exact ⟨A3,k3,c3,rfl,ho.rd (by decide),hL,hbw⟩
end
section
open Go.RowKit
structure RsX (w : World) (X : Nat→Prop) (rules : List RuleP) (v : Sv) : Prop where
 ex : ∃ vs : List Ruv,SlX w X 9 v (vs.map encRul)∧vs.length = rules.length∧∀ (i : Nat) (r : RuleP) (u : Ruv),rules[i]? = some r→vs[i]? = some u→RuX w X r u
theorem RsX.keep {X X' : Nat→Prop} {w w' : World} {rules : List RuleP} {v : Sv} (h : RsX w X rules v) (k : KeepX X X' w w') : RsX w' X' rules v:=by
 obtain ⟨vs,h1,h2,h3⟩:=h.ex
 exact ⟨vs,h1.keep k,h2,fun i r u hr hu=>(h3 i r u hr hu).keep k⟩
theorem RsX.below {X : Nat→Prop} {w w' : World} {rules : List RuleP} {v : Sv} (h : RsX w X rules v) (hb : Below w.heap.size w w') : RsX w' X rules v:=h.keep (KeepX.below hb)
theorem RsX.len {X : Nat→Prop} {w : World} {rules : List RuleP} {v : Sv} (h : RsX w X rules v) : v.2.1 = rules.length:=by
 obtain ⟨vs,h1,h2,h3⟩:=h.ex
 have:=h1.len
 rw [List.length_map] at this
 omega
theorem RsX.at_ {X : Nat→Prop} {w : World} {rules : List RuleP} {v : Sv} {i : Nat} {r : RuleP} (h : RsX w X rules v) (hr : rules[i]? = some r) :
  ∃ (b off : Nat) (u : Ruv),v.1 = some ⟨b,off,none⟩∧RuX w X r u∧w.cell? ⟨b,off+i*9,none⟩ = some (.bool u.1)∧w.cell? ⟨b,off+i*9+1,none⟩ = some (.bool u.2.1)∧w.cell? ⟨b,off+i*9+2,none⟩ = some (.bool u.2.2.1) ∧
   w.cell? ⟨b,off+i*9+3,none⟩ = some (.int .i64 (u.2.2.2.1.1 : Int))∧w.cell? ⟨b,off+i*9+4,none⟩ = some (.slice u.2.2.2.1.2.1.1 u.2.2.2.1.2.1.2.1 u.2.2.2.1.2.1.2.2)∧w.cell? ⟨b,off+i*9+5,none⟩ = some (.slice u.2.2.2.1.2.2.1 u.2.2.2.1.2.2.2.1 u.2.2.2.1.2.2.2.2) ∧
   w.cell? ⟨b,off+i*9+6,none⟩ = some (.int .i64 (u.2.2.2.2.1 : Int))∧w.cell? ⟨b,off+i*9+7,none⟩ = some (.slice u.2.2.2.2.2.1.1 u.2.2.2.2.2.1.2.1 u.2.2.2.2.2.1.2.2)∧w.cell? ⟨b,off+i*9+8,none⟩ = some (.slice u.2.2.2.2.2.2.1 u.2.2.2.2.2.2.2.1 u.2.2.2.2.2.2.2.2):=by
 obtain ⟨vs,h1,h2,h3⟩:=h.ex
 obtain ⟨u,hu⟩ : ∃ u,vs[i]? = some u:=⟨_,List.getElem?_eq_getElem (by have:=(List.getElem?_eq_some_iff.1 hr).1;omega)⟩
 obtain ⟨b,off,e,hc⟩:=h1.rd (by intro e;cases vs with | nil=>simp at hu | cons _ _=>simp at e)
 have hg:=fun j (x : Value) (hx : (encRul u)[j]? = some x)=>hc i j (encRul u) x (by simp [hu]) hx
 exact ⟨b,off,u,e,h3 i r u hr hu,hg 0 _ rfl,hg 1 _ rfl,hg 2 _ rfl,hg 3 _ rfl,hg 4 _ rfl,hg 5 _ rfl,hg 6 _ rfl,hg 7 _ rfl,hg 8 _ rfl⟩
def valRs (v : Sv) (rest : Bool) : Value:=.agg #[.slice v.1 v.2.1 v.2.2,.bool rest]
end
section
open Go.RowKit Go.Maps
theorem vrest_any (p base x : Nat) (d : DbP) (w : World) (hd : RfB w base p x d.names d.sets) (ho : d.Ok) (ha : Apart d.sets) (hB : base≤w.heap.size) :
  Calls Tryz.prog 180 #[.pointer (some ⟨p,0,none⟩)] w fun e w'=>e = .returned (.tuple #[])∧RfB w' base p x d.names d.full∧Below base w w':=by
 obtain ⟨An,nn,cn,As,ns,cs,xs,hX⟩:=hd.ex
 obtain ⟨j0,hj0,hy0,hy1,hy2⟩:=info_parts infoR
 have hns1 : 0 < ns:=by
  have h1:=hX.lenS.2;have h2:=ho.len;have h3:=ho.head
  cases hd : d.names with
  | nil=>rw [hd] at h3;cases h3
  | cons a b=>rw [hd] at h2;simp at h2;omega
 obtain ⟨g,HAs,hgB,hgw⟩:=hX.hs.form hns1
 subst HAs
 have hns64 : ns≤64:=by have h1:=hX.lenS.2;have h2:=ho.len;have h3:=ho.few;omega
 obtain ⟨T,HT⟩ : ∃ T,Hid (d.sets.tail = T):=⟨_,rfl⟩
 have hTl : T.length+1 = ns:=by have h1:=hX.lenS.2;have:=HT.out;rw [← this,List.length_tail];omega
 have HTl:=Lib.hid hTl
 have HTS : Hid (lenS T≤1114112):=Lib.hid (by have:=rng_len ho ha;rw [← HT.out];omega)
 have HTN : Hid (∀ (k : Nat) (s : List (Int × Int)),T[k]? = some s→NF s∧d.sets[k+1]? = some s):=Lib.hid (fun k s hk=>by
  have : d.sets[k+1]? = some s:=by rw [← HT.out] at hk;rw [List.getElem?_tail] at hk;exact hk
  exact ⟨ho.nf s (List.mem_of_getElem? this),this⟩)
 have HFS:=Lib.hid (full_set ho)
 have HRest : Hid (d.rest = notR (T.flatten)):=Lib.hid (by unfold DbP.rest;rw [HT.out])
 have c1:=hX.blk.cell 1
 simp at c1
 clear ho ha hTl hd
 go_enter Tryz.func180,Tryz.ntmps180
 go_wp2_with fail
 go_loopw [2,3] (fun a v wr=>∃ (c : Nat) (Aa : Option Addr) (na ca : Nat),a = .slice Aa na ca∧v = .int .i64 (c+1 : Nat)∧c+1≤ns∧Own wr w.heap.size 248 2 Aa na ca (((T.take c).flatten).map encR)∧Below w.heap.size w wr) (fun _ v _=>ns - (intOf v).toNat)
 case atStart=>exact ⟨0,none,0,0,rfl,rfl,by omega,by simp;exact Own.nil_ _ _ _ _,Below.refl _ _⟩
 case round =>
  obtain ⟨c,Aa,na,ca,rfl,rfl,hc,hal,hb⟩:=hrel
  have hszr:=hb.size
  have e1:=cell_keep c1 hb
  have hfl:=Lib.hid (flat_le T c)
  have hnal : na≤1114112:=by have h1:=hal.len;rw [List.length_map] at h1;have:=hfl.out;have:=HTS.out;omega
  by_cases hlt : c+1 < ns
  ·obtain ⟨s,Hs⟩ : ∃ s,Hid (T[c]? = some s):=⟨_,Lib.hid (List.getElem?_eq_getElem (show c < T.length by have:=HTl.out;omega))⟩
   obtain ⟨HNF,Hd⟩:=HTN.out c s Hs.out
   obtain ⟨⟨yA,yn,yc⟩,Hy⟩ : ∃ y,Hid (xs[c+1]? = some y):=⟨_,Lib.hid (List.getElem?_eq_getElem (show c+1 < xs.length by have:=hX.lenS.1;omega))⟩
   have hoy : Own w base 248 2 yA yn yc (s.map encR):=hX.hx.own (c+1) (yA,yn,yc) s Hy.out Hd
   have hly : s.length = yn:=by simpa using hoy.len
   have Hly:=Lib.hid hly
   have hny:=own_nf_len hoy HNF
   have hcell:=cell_keep (hX.hs.cell' rfl Hy.out) hb
   have hoq:=hoy.below hb
   have HFN:=Lib.hid (flat_next Hs.out)
   have hfl2:=Lib.hid (flat_le T (c+1))
   have hbound : na+yn≤1114112:=by
    have h1:=hal.len;rw [List.length_map] at h1
    have h2:=hfl2.out;rw [HFN.out,List.length_append] at h2;have:=HTS.out;omega
   have hI : (c : Int)+1 < ns:=by omega
   clear HNF Hd hly
   go_wp2_with (at_builtin;go_must (refine wpList_app rfl (.tmp 13) (.tmp 20) _ rfl w.heap.size 248 j0 _ 2 8 Tryz.underlying218 hj0 hy0 hy1 hy2 rfl (by omega) Aa na ca (((T.take c).flatten).map encR) rfl hal yA yn yc (s.map encR) rfl (by rw [List.length_map];exact Hly.out) (hoq.rd (by omega)) (encR_ok s) (by unfold maxLen;omega) (by omega) (by omega) ?_);intro A3 c3 w3 ho3 hg3 hA3)
   have Ho3 : Own w3 w.heap.size 248 2 A3 (na+yn) c3 (((T.take (c+1)).flatten).map encR):=by rw [HFN.out,List.map_append];exact ho3
   have hb3:=below_app hb hg3 hszr (fun a ha=>(hal.lt a ha).1)
   clear ho3 hg3
   go_roundw
   case rel=>exact ⟨c+1,A3,na+yn,c3,rfl,by go_num,by omega,Ho3,hb3⟩
   case measure=>simp [intOf];omega
  ·obtain rfl : c+1 = ns:=by omega
   have HFe : Hid ((T.take c).flatten = T.flatten):=Lib.hid (by rw [List.take_of_length_le (by have:=HTl.out;omega)])
   rw [HFe.out] at hal
   have hXr:=hX.below hb
   have HNot:=Lib.hid (sNot_any Aa na ca T.flatten wr.drew ((hal.rd (by omega)).drew) (by have h1:=hal.len;rw [List.length_map] at h1;exact h1) (by omega))
   obtain ⟨y0,hy0'⟩ : ∃ y,xs[0]? = some y:=⟨_,List.getElem?_eq_getElem (show 0 < xs.length by have:=hX.lenS.1;omega)⟩
   have k0:=hXr.hs.cell' rfl hy0'
   have hXd:=hXr.below (w':=wr.drew) ((Below.refl _ _).drew)
   have hBr : base≤wr.heap.size:=by omega
   go_wp2_with fail
   refine wp_region_noPanic ?_
   go_region_law (go_simp;go_at_call 237;refine HNot.out.mono ?_;rintro e wz ⟨A',n',c',rfl,ho',hb'⟩;have kz0:=cell_keep (w:=wr.drew) k0 hb';have kz1:=cell_keep (w:=wr.drew) e1 hb';have kzf:=(hXd.hs.below hb').frozen 0)
   all_goals
    refine NoPanic.normal ?_
    have hDz:=(hXd.below hb').storeSet (k:=0) (y:=(A',n',c')) (l:=d.rest) (by omega) (by rw [HRest.out];exact ho') hBr
    have hbz:=(((hb.mono hB).trans ((Below.refl wr.heap.size wr).drew.mono hBr)).trans (hb'.mono hBr)).trans hDz.2.1
    rw [HFS.out] at hDz
    go_wp2
    first | exact ⟨_,results_none rfl _ _ _,rfl,⟨_,_,_,_,_,_,_,hDz.1⟩,hbz⟩ | exact ⟨_,rfl,results_none rfl _ _ _,rfl,⟨_,_,_,_,_,_,_,hDz.1⟩,hbz⟩ | exact ⟨rfl,_,results_none rfl _ _ _,rfl,⟨_,_,_,_,_,_,_,hDz.1⟩,hbz⟩
def RNewEnd (r : Except (Int × Nat) DbP) (e : Ending) (w' : World) (base : Nat) : Prop :=
 match r with
 | .error x=>e = .returned (.tuple #[.pointer none,.int .i64 x.1,.int .i64 (x.2 : Int)])
 | .ok d=>∃ p x,e = .returned (.tuple #[.pointer (some ⟨p,0,none⟩),.int .i64 0,.int .i64 0])∧RfB w' base p x d.names d.full
theorem RNewEnd.err {r : Except (Int × Nat) DbP} {k : Int} {i : Nat} {w' : World} {base : Nat} (h : r = .error (k,i)) : RNewEnd r (.returned (.tuple #[.pointer none,.int .i64 k,.int .i64 (i : Int)])) w' base:=by rw [h];exact rfl
theorem RNewEnd.fine {r : Except (Int × Nat) DbP} {d : DbP} {p x : Nat} {w' : World} {base : Nat} (h : r = .ok d) (hd : RfB w' base p x d.names d.full) : RNewEnd r (.returned (.tuple #[.pointer (some ⟨p,0,none⟩),.int .i64 0,.int .i64 0])) w' base:=by rw [h];exact ⟨p,x,rfl,hd⟩
theorem step_err {d : DbP} {L : List UInt8} {k : Int} (h : stepL d L = .error k) : 6≤k:=by
 unfold stepL at h
 split at h
 ·cases h
 ·injection h with h;omega
 ·exact addL_err h
theorem rfX_first (w : World) :
  RfX (((w.alloc (.cells #[.string (bytesOf otherL)] 9)).alloc (.cells #[.slice none 0 0] 218)).alloc (.cells #[.slice (some ⟨w.heap.size,0,none⟩) 1 1,.slice (some ⟨w.heap.size+1,0,none⟩) 1 1] 194)) w.heap.size (w.heap.size+2) (w.heap.size+3)
   (some ⟨w.heap.size,0,none⟩) 1 1 (some ⟨w.heap.size+1,0,none⟩) 1 1 [(none,0,0)] [otherL] [[]] ∧
  Below w.heap.size w (((w.alloc (.cells #[.string (bytesOf otherL)] 9)).alloc (.cells #[.slice none 0 0] 218)).alloc (.cells #[.slice (some ⟨w.heap.size,0,none⟩) 1 1,.slice (some ⟨w.heap.size+1,0,none⟩) 1 1] 194)):=by
 have n1 : Own (w.alloc (.cells #[.string (bytesOf otherL)] 9)) w.heap.size 9 1 (some ⟨w.heap.size,0,none⟩) 1 1 ([otherL].map encNm):=own_one (Nat.le_refl _)
 have s2 : Own ((w.alloc (.cells #[.string (bytesOf otherL)] 9)).alloc (.cells #[.slice none 0 0] 218)) w.heap.size 218 1 (some ⟨w.heap.size+1,0,none⟩) 1 1 ([((none : Option Addr),0,0)].map encSl):=by
  have:=own_one (w:=w.alloc (.cells #[.string (bytesOf otherL)] 9)) (t:=218) (u:=.slice none 0 0) (base:=w.heap.size) (by simp)
  rw [show (w.alloc (.cells #[.string (bytesOf otherL)] 9)).heap.size = w.heap.size+1 by simp] at this
  exact this
 refine ⟨⟨?_,by omega,(n1.alloc _).alloc _,s2.alloc _,⟨rfl,?_⟩,by omega,fun a ha=>by injection ha with ha;subst ha;show w.heap.size ≠ w.heap.size+3;omega,fun a ha=>by injection ha with ha;subst ha;show w.heap.size+1 ≠ w.heap.size+3;omega⟩,?_⟩
 ·have:=Blk.new ((w.alloc (.cells #[.string (bytesOf otherL)] 9)).alloc (.cells #[.slice none 0 0] 218)) 194 #[.slice (some ⟨w.heap.size,0,none⟩) 1 1,.slice (some ⟨w.heap.size+1,0,none⟩) 1 1]
  simpa using this
 ·intro k x l hx hl
  match k,hx,hl with
  | 0,hx,hl=>simp at hx hl;subst hx;subst hl;exact Own.nil_ _ _ _ _
  | k+1,hx,hl=>simp at hx
 ·exact (((Below.refl _ _).alloc (Nat.le_refl _) _).alloc (by simp) _).alloc (by simp;omega) _
theorem vNew_any (t : List UInt8) (w : World) (ht : t.length≤maxLen) :
  Calls Tryz.prog 133 #[.string (bytesOf t)] w fun e w'=>RNewEnd (newP t) e w' w.heap.size∧Below w.heap.size w w':=by
 have hsz : (bytesOf t).size = t.length:=bytesOf_size t
 unfold maxLen at ht
 by_cases hl : 65536 < t.length
 ·have HE:=Lib.hid (newP_long hl)
  go_enter Tryz.func133,Tryz.ntmps133
  go_wp2
  go_ret3
  exact ⟨RNewEnd.err HE.out,Below.refl _ _⟩
 ·have HG:=Lib.hid (newP_go hl)
  obtain ⟨hX,hB0⟩:=rfX_first w
  have hw3 : w.heap.size+3 = (((w.alloc (.cells #[.string (bytesOf otherL)] 9)).alloc (.cells #[.slice none 0 0] 218)).alloc (.cells #[.slice (some ⟨w.heap.size,0,none⟩) 1 1,.slice (some ⟨w.heap.size+1,0,none⟩) 1 1] 194)).heap.size:=by simp
  obtain ⟨L,HL⟩ : ∃ L,Hid (splitL t = L):=⟨_,rfl⟩
  have HLl:=Lib.hid (fun i l (h : L[i]? = some l)=>line_len (t:=t) (i:=i) (l:=l) (by rw [HL.out];exact h))
  have HLn : Hid (L.length≤65537):=Lib.hid (by rw [← HL.out,splitL_count];have:=List.count_le_length (a:=(10 : UInt8)) (l:=t);omega)
  have HNP : Hid (newP t = linesGo DbP.first L 0):=Lib.hid (by rw [HG.out,HL.out])
  have HV:=Lib.hid (fun W=>vLines_any t W (by omega))
  rw [HL.out] at HV
  go_enter Tryz.func133,Tryz.ntmps133
  go_wp2_with fail
  rw [show (⟨#[79,116,104,101,114]⟩ : ByteArray) = bytesOf otherL from rfl]
  generalize ((w.alloc (.cells #[.string (bytesOf otherL)] 9)).alloc (.cells #[.slice none 0 0] 218)).alloc (.cells #[.slice (some ⟨w.heap.size,0,none⟩) 1 1,.slice (some ⟨w.heap.size+1,0,none⟩) 1 1] 194) = w3 at hX hB0 hw3 ⊢
  refine (HV.out w3).mono ?_
  rintro e w4 ⟨AL,nL,cL,rfl,hoL,hb4⟩
  have hnL : L.length = nL:=by simpa using hoL.len
  have hX4:=hX.below hb4
  have hB4:=below_step hB0 hb4 (by have:=hB0.size;omega)
  have HnL:=Lib.hid hnL
  have HLne : Hid (L ≠ []):=Lib.hid (by rw [← HL.out];exact splitL_ne t)
  clear hnL HG HL
  obtain ⟨x,hxw,hXx,hcells⟩ : ∃ x,x < w4.heap.size∧RfX w4 w.heap.size (w.heap.size+2) x (some ⟨w.heap.size,0,none⟩) 1 1 (some ⟨w.heap.size+1,0,none⟩) 1 1 [(none,0,0)] [otherL] [[]] ∧
    (∀ W : World,W.heap[x]? = w4.heap[x]?→∀ i l,L[i]? = some l→∃ off,AL = some ⟨x,off,none⟩∧W.cell? ⟨x,off+i,none⟩ = some (.string (bytesOf l))):=by
   have h0 : 0 < nL:=by
    cases hq : L with
    | nil=>exact absurd hq HLne.out
    | cons a b=>rw [← HnL.out,hq];simp
   obtain ⟨gx,hgx,hg1,hg2⟩:=hoL.form h0
   subst hgx
   refine ⟨gx,hg2,{ hX4 with xp:=by omega,xn:=fun a ha=>by injection ha with ha;subst ha;show w.heap.size ≠ gx;omega,xs_:=fun a ha=>by injection ha with ha;subst ha;show w.heap.size+1 ≠ gx;omega },fun W hW i l hl=>?_⟩
   have h1:=hoL.cell (k:=i) (j:=0) (x:=encNm l) (u:=.string (bytesOf l)) (by rw [List.getElem?_map,hl];rfl) rfl
   simp only [Nat.mul_one,Nat.add_zero] at h1
   exact ⟨0,rfl,by rw [Nat.zero_add];exact (World.cell?_of_block hW).trans h1⟩
  have HCells:=Lib.hid hcells
  have hsw:=hB4.size
  clear hcells hX hX4 hB0 hw3 hb4 hoL
  generalize w.heap.size+2 = p at hXx ⊢
  go_wp2_with fail
  go_loopw [7] (fun v wr=>∃ (i : Nat) (d : DbP),v = .int .i64 i∧i≤L.length∧RfB wr w.heap.size p x d.names d.sets∧wr.heap[x]? = w4.heap[x]?∧Hid (NewAt L i d)∧Below w.heap.size w wr∧x < wr.heap.size) (fun v _=>L.length - (intOf v).toNat)
  case atStart=>exact ⟨0,DbP.first,rfl,by omega,⟨_,_,_,_,_,_,_,hXx⟩,rfl,newAt_first L,hB4,hxw⟩
  case round =>
   clear hXx
   obtain ⟨i,d,rfl,hi,hd,hxr,HN,hb,hxl⟩:=hrel
   have hszr:=hb.size
   have hnl:=HnL.out
   by_cases hlt : i < L.length
   ·obtain ⟨l,Hl⟩ : ∃ l,Hid (L[i]? = some l):=⟨_,Lib.hid (List.getElem?_eq_getElem hlt)⟩
    obtain ⟨off,rfl,hcell⟩:=HCells.out wr hxr i l Hl.out
    have hll:=HLl.out i l Hl.out
    have HN2:=HLn.out
    have HA:=Lib.hid (vline_any p w.heap.size x d l wr hd HN.out.2.2.1 hxl hszr (by omega))
    have hltn : i < nL:=by omega
    clear hnl
    cases hs : stepL d l with
    | error k =>
     rw [hs] at HA
     have hk0 : ((k : Int) != 0) = true:=by rw [bne_iff_ne];have:=step_err hs;omega
     have HE:=Lib.hid (HNP.out.trans (newAt_err HN.out Hl.out hs))
     clear hs
     go_wp2_with fail
     refine HA.out.mono ?_
     rintro e w6 ⟨hk,hae⟩
     have he : e = .returned (.int .i64 k):=hae
     subst he
     go_wp2
     go_ret3
     exact ⟨RNewEnd.err HE.out,hb.trans hk.1⟩
    | ok d' =>
     rw [hs] at HA
     have HN':=Lib.hid (newAt_next HN.out Hl.out hs)
     clear hs
     go_wp2_with fail
     refine HA.out.mono ?_
     rintro e w6 ⟨hk,rfl,hd'⟩
     go_wp2
     go_roundw
     case rel=>exact ⟨i+1,d',by go_num,by omega,hd',(hk.2 hxl).trans hxr,HN',hb.trans hk.1,Nat.lt_of_lt_of_le hxl hk.1.size⟩
     case measure=>simp [intOf];omega
   ·have HE:=Lib.hid (HNP.out.trans (newAt_end HN.out hlt))
    have HC:=Lib.hid (vrest_any p w.heap.size x d wr hd HN.out.2.2.1 HN.out.2.2.2 hszr)
    go_wp2_with (go_at_call 180;refine HC.out.mono ?_;rintro e w5 ⟨rfl,hda,hb5⟩)
    go_ret3
    exact ⟨RNewEnd.fine HE.out hda,hb.trans hb5⟩
end
section
open Go.RowKit
theorem Rd.atRn {w : World} {A : Option Addr} {l : List (Nat × Nat × Nat)} {k : Nat} {x : Nat × Nat × Nat} (h : Rd w 3 A (l.map encRn)) (hk : l[k]? = some x) :
  ∃ b off,A = some ⟨b,off,none⟩∧w.cell? ⟨b,off+k*3,none⟩ = some (.int .i32 (x.1 : Nat))∧w.cell? ⟨b,off+k*3+1,none⟩ = some (.int .i64 (x.2.1 : Nat))∧w.cell? ⟨b,off+k*3+2,none⟩ = some (.int .i64 (x.2.2 : Nat)):=by
 obtain ⟨b,off,rfl,hc⟩:=h (by intro e;cases l with | nil=>simp at hk | cons _ _=>simp at e)
 have h0:=hc k 0 (encRn x) (.int .i32 (x.1 : Nat)) (by simp [hk]) rfl
 have h1:=hc k 1 (encRn x) (.int .i64 (x.2.1 : Nat)) (by simp [hk]) rfl
 have h2:=hc k 2 (encRn x) (.int .i64 (x.2.2 : Nat)) (by simp [hk]) rfl
 exact ⟨b,off,rfl,by simpa using h0,h1,h2⟩
end
section
open Go.RowKit
end
section
open Go.RowKit
end
section
open Go.RowKit
end
section
open Go.RowKit
def nmW (r : Int) : List UInt8:=(wordD.names[gW r]?).getD []
theorem kDbR_any (w : World) :
  Calls Tryz.prog 188 #[] w fun e w'=>∃ p x,e = .returned (.pointer (some ⟨p,0,none⟩))∧RfB w' w.heap.size p x wordD.names wordD.full∧Below w.heap.size w w':=by
 go_enter Tryz.func188,Tryz.ntmps188
 generalize hT : ByteArray.mk _ = T
 have HN : newP T.data.toList = .ok wordD:=by rw [← hT];exact new_K (by kernel_rfl) (by kernel_rfl)
 have hTl : T.data.toList.length≤maxLen:=by rw [← hT];exact of_decide_eq_true (by kernel_rfl)
 clear hT
 have HC:=vNew_any T.data.toList w hTl
 rw [HN,bytes_is] at HC
 replace HC:=Lib.hid HC
 clear HN hTl
 go_wp2_with fail
 refine HC.out.mono ?_
 rintro e w1 ⟨⟨p,x,rfl,hd⟩,hb1⟩
 go_wp2
 go_ret
 exact ⟨p,x,rfl,hd,hb1⟩
theorem wnames_len : wordD.names.length = 20:=by decide
end
section
open Go.RowKit
theorem pick_next {c : List Int} {P : List Nat} {i a : Nat} (h : P[i]? = some a) : wPick c 0 (P.take (i+1)) = wPick c 0 (P.take i)++(if i = 0∨wCut c i = true then [a] else []):=by
 obtain ⟨h1,h2⟩:=List.getElem?_eq_some_iff.1 h
 rw [List.take_add_one,h,Option.toList_some,wPick_append,Nat.zero_add,List.length_take,Nat.min_eq_left (by omega),wPick,wPick,List.append_nil]
theorem kBounds_any (s : ByteArray) (w : World) (hE : Env w) (hs : s.size≤1000000) :
  Calls Tryz.prog 84 #[.string s] w fun e w'=>∃ A n c,e = .returned (.slice A n c)∧Own w' w.heap.size 3 1 A n c ((wBounds gW s).map encN)∧Below w.heap.size w w':=by
 obtain ⟨i0,hi0,hz0,hz1,hz2⟩:=info_parts infoInt
 have HC:=Lib.hid (kscan_any s w hE hs)
 obtain ⟨P,HP⟩ : ∃ P,Hid ((runesP s).map (·.2.1) = P):=⟨_,Lib.hid rfl⟩
 obtain ⟨C,HCl⟩ : ∃ C,Hid (wCls gW s = C):=⟨_,Lib.hid rfl⟩
 have HW : Hid (wBounds gW s = wPick C 0 P++(if s.size = 0 then [] else [s.size])):=Lib.hid (by rw [← HP.out,← HCl.out];rfl)
 have hPl : P.length = C.length:=by rw [← HP.out,← HCl.out,List.length_map,wCls_len]
 have hPz : P.length≤s.size:=by rw [← HP.out,List.length_map];exact runesP_len s
 clear hE
 go_enter Tryz.func84,Tryz.ntmps84
 go_wp2_with fail
 refine HC.out.mono ?_
 rintro e w1 ⟨A1,n1,c1,A2,n2,c2,rfl,o1,o2,hb1⟩
 clear HC
 rw [HP.out] at o1
 rw [HCl.out] at o2
 have hn1 : P.length = n1:=by have:=o1.len;simpa using this
 have hn2 : C.length = n2:=by have:=o2.len;simpa using this
 obtain rfl : n2 = n1:=by omega
 have Hn2:=Lib.hid hn2
 have Hn1:=Lib.hid hn1
 have hnz : n2≤s.size:=by omega
 clear hn1 hn2 hPl hPz
 have hK:=Blk.new w1 181 #[.slice A1 n2 c1,.slice A2 n2 c2,.int .i64 s.size]
 have hb2 : Below w1.heap.size w1 (w1.alloc (.cells #[.slice A1 n2 c1,.slice A2 n2 c2,.int .i64 s.size] 181)):=(Below.refl _ _).alloc (Nat.le_refl _) _
 have o1:=o1.below hb2
 have o2:=o2.below hb2
 have hb3:=below_step hb1 hb2 hb1.size
 have k0:=hK.cell 0
 have k1:=hK.cell 1
 have k2:=hK.cell 2
 simp only [zG,zH,zI] at k0 k1 k2
 go_wp2_with fail
 have hk3 : w1.heap.size < (w1.alloc (.cells #[.slice A1 n2 c1,.slice A2 n2 c2,.int .i64 s.size] 181)).heap.size:=by simp
 generalize (w1.alloc (.cells #[.slice A1 n2 c1,.slice A2 n2 c2,.int .i64 s.size] 181)) = w3 at hK o1 o2 hb3 k0 k1 k2 hk3 ⊢
 generalize w1.heap.size = bx at hK k0 k1 k2 hk3 ⊢
 have rd1:=o1.rd (by decide)
 have rd2:=o2.rd (by decide)
 have hsz3:=hb3.size
 clear o1 o2 hb1 hb2
 go_loopw [4,12] (fun v u wr=>∃ (i : Nat) (A : Option Addr) (n c : Nat) (O : List Nat),v = .slice A n c∧u = .int .i64 i∧i≤n2∧Own wr w3.heap.size 3 1 A n c (O.map encN)∧n≤i∧Hid (O = wPick C 0 (P.take i))∧Below w3.heap.size w3 wr) (fun _ u _=>n2 - (intOf u).toNat)
 case atStart=>exact ⟨0,none,0,0,[],rfl,rfl,by omega,Own.nil_ _ _ _ _,by omega,Lib.hid rfl,Below.refl _ _⟩
 case round =>
  obtain ⟨i,A,n,c,O,rfl,rfl,hi,ho,hni,HO,hb⟩:=hrel
  have hszr:=hb.size
  by_cases hlt : i < n2
  ·obtain ⟨a,Ha⟩ : ∃ a,Hid (P[i]? = some a):=⟨_,Lib.hid (List.getElem?_eq_getElem (by have:=Hn1.out;omega))⟩
   obtain ⟨b1,off1,rfl,hc1⟩:=rd1.atP Ha.out
   have hc1:=cell_keep hc1 hb
   have j0:=cell_keep k0 hb
   have j1:=cell_keep k1 hb
   have j2:=cell_keep k2 hb
   have HN:=Lib.hid (pick_next (c:=C) Ha.out)
   rw [← HO.out] at HN
   have HX : Hid (i = 0∨∃ j,i = j+1):=Lib.hid (by cases i with | zero=>exact .inl rfl | succ j=>exact .inr ⟨j,rfl⟩)
   rcases HX.out with hi0 | ⟨j,rfl⟩
   ·have HN' : Hid (O++[a] = wPick C 0 (P.take (i+1))):=Lib.hid (by rw [HN.out,if_pos (.inl hi0)])
    have e0 : ((i : Int) == 0) = true:=by rw [hi0];rfl
    clear hi0
    go_wp2_with (at_builtin;go_must (refine wpList_app rfl (.tmp 24) (.tmp 26) _ rfl w3.heap.size 3 i0 _ 1 8 Tryz.underlying52 hi0 hz0 hz1 hz2 rfl (by omega) A n c (O.map encN) rfl (ho.alloc _) _ 1 1 [encN a] rfl rfl (Rd.newAt (by simp) rfl) (encN_ok [a]) (by unfold maxLen;omega) (by omega) (by simp;omega) ?_);intro A3 c3 w4 ho4 hg4 hA4;have hb4:=below_app (hb.alloc (by omega) _) hg4 (by simp;omega) (fun a ha=>by have:=(ho.lt a ha).1;omega);clear hg4 hA4)
    go_roundw
    case rel=>exact ⟨i+1,A3,n+1,c3,O++[a],rfl,by go_num,by omega,by rw [List.map_append];exact ho4,by omega,HN',hb4⟩
    case measure=>simp [intOf];omega
   ·have HCu:=Lib.hid (kcut_any (some ⟨b1,off1,none⟩) A2 n2 c1 n2 c2 s.size C (j+1) wr (rd2.below hb) Hn2.out (by omega) (by omega) (by omega))
    cases hcu : wCut C (j+1) with
    | true =>
     have HN' : Hid (O++[a] = wPick C 0 (P.take (j+1+1))):=Lib.hid (by rw [HN.out,if_pos (.inr hcu)])
     rw [hcu] at HCu
     clear hcu
     go_wp2_with (first | (go_at_call 138;refine HCu.out.mono ?_;rintro e w5 ⟨rfl,hb5⟩;have hbb:=below_step hb hb5 hb.size;have ho5:=ho.below hb5;have hs5:=hbb.size) | (at_builtin;go_must (refine wpList_app rfl (.tmp 24) (.tmp 26) _ rfl w3.heap.size 3 i0 _ 1 8 Tryz.underlying52 hi0 hz0 hz1 hz2 rfl (by omega) A n c (O.map encN) rfl (ho5.alloc _) _ 1 1 [encN a] rfl rfl (Rd.newAt (by simp) rfl) (encN_ok [a]) (by unfold maxLen;omega) (by omega) (by simp;omega) ?_);intro A3 c3 w4 ho4 hg4 hA4;have hb4:=below_app (hbb.alloc (by omega) _) hg4 (by simp;omega) (fun a ha=>by have:=(ho5.lt a ha).1;omega);clear hg4 hA4))
     go_roundw
     case rel=>exact ⟨j+1+1,A3,n+1,c3,O++[a],rfl,by go_num,by omega,by rw [List.map_append];exact ho4,by omega,HN',hb4⟩
     case measure=>simp [intOf];omega
    | false =>
     have HN' : Hid (O = wPick C 0 (P.take (j+1+1))):=Lib.hid (by rw [HN.out,if_neg (by rw [hcu];simp),List.append_nil])
     rw [hcu] at HCu
     clear hcu
     go_wp2_with (go_at_call 138;refine HCu.out.mono ?_;rintro e w5 ⟨rfl,hb5⟩;have hbb:=below_step hb hb5 hb.size;have ho5:=ho.below hb5)
     go_roundw
     case rel=>exact ⟨j+1+1,A,n,c,O,rfl,by go_num,by omega,ho5,by omega,HN',hbb⟩
     case measure=>simp [intOf];omega
  ·obtain rfl : i = n2:=by omega
   have hO : Hid (O = wPick C 0 P):=Lib.hid (by rw [HO.out,List.take_of_length_le (by have:=Hn1.out;omega)])
   by_cases hz : 0 < s.size
   ·have HV : Hid (O++[s.size] = wBounds gW s):=Lib.hid (by rw [HW.out,hO.out,if_neg (by omega)])
    go_wp2_with (at_builtin;go_must (refine wpList_app rfl (.tmp 32) (.tmp 35) _ rfl w3.heap.size 3 i0 _ 1 8 Tryz.underlying52 hi0 hz0 hz1 hz2 rfl (by omega) A n c (O.map encN) rfl (ho.alloc _) _ 1 1 [encN s.size] rfl rfl (Rd.newAt (by simp) rfl) (encN_ok [s.size]) (by unfold maxLen;omega) (by omega) (by simp;omega) ?_);intro A3 c3 w4 ho4 hg4 hA4;have hb4:=below_app (hb.alloc (by omega) _) hg4 (by simp;omega) (fun a ha=>by have:=(ho.lt a ha).1;omega);clear hg4 hA4)
    go_ret
    exact ⟨A3,n+1,c3,rfl,by rw [← HV.out,List.map_append];exact ho4.more hsz3,below_step hb3 hb4 hsz3⟩
   ·have HV : Hid (O = wBounds gW s):=Lib.hid (by rw [HW.out,hO.out,if_pos (by omega),List.append_nil])
    go_wp2
    go_ret
    exact ⟨A,n,c,rfl,by rw [← HV.out];exact ho.more hsz3,below_step hb3 hb hsz3⟩
end
end Go.Proofs.YtglmcknlnoknoaaGreatDoor
