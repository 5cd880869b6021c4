/- -/
import Derived.RegionTactic
import Derived.BigRegion
import Derived.Deep.RegionHeld3
import Derived.Test.YtlfpdpbbkjnapaaGreatDoorYPlacesTells0c
import Derived.Test.YtlfpdpbbkjnapaaGreatDoorYPlacesTells0b
import Derived.Test.YtlfpdpbbkjnapaaGreatDoorPRefX
namespace Go.Proofs.YtlfpdpbbkjnapaaGreatDoor
set_option maxRecDepth 100000
set_option maxHeartbeats 40000000
section
open Go.RowKit Go.Maps
def LineEnd (base p x : Nat) (r : Except Int DbP) (e : Ending) (w' : World) : Prop :=
 match r with
 | .error k=>e = .returned (.int .i64 k)
 | .ok d'=>e = .returned (.int .i64 0)∧RfB w' base p x d'.names d'.sets
theorem LineEnd.err {base p x : Nat} {r : Except Int DbP} {k : Int} {w' : World} (h : r = .error k) : LineEnd base p x r (.returned (.int .i64 k)) w':=by rw [h];exact rfl
theorem LineEnd.fine {base p x : Nat} {r : Except Int DbP} {d : DbP} {w' : World} (h : r = .ok d) (hd : RfB w' base p x d.names d.sets) : LineEnd base p x r (.returned (.int .i64 0)) w':=by rw [h];exact ⟨rfl,hd⟩
theorem stepD_nil {d : DbP} {L : List UInt8} (h : trimL (L.take (hashP L)) = []) : stepL d L = .ok d:=by
 rw [stepL_doc];unfold lineD;simp only [h,if_true]
theorem stepD_add {d : DbP} {L : List UInt8} (h : trimL (L.take (hashP L)) ≠ []) : stepL d L = addS d (L.take (hashP L)):=by
 rw [stepL_doc];unfold lineD addS;simp only [if_neg h]
 cases findP 59 (L.take (hashP L)) with
 | none=>rfl
 | some j=>rfl
theorem clash_one {d : DbP} {c : Nat} {l : List (Int × Int)} (h : d.Ok) : ClashAt d c l 1:=fun q hq hqc=>by
 obtain rfl : q = 0:=by omega
 have:=h.head'
 rw [List.head?_eq_getElem?] at this
 rw [List.getD_eq_getElem?_getD,this];rfl
theorem vline_any (p base x : Nat) (d : DbP) (L : List UInt8) (w : World) (hd : RfB w base p x d.names d.sets) (ho : d.Ok) (hx : x < w.heap.size) (hB : base≤w.heap.size) (hL : L.length≤65536) :
  Calls Tryz.prog 158 #[.pointer (some ⟨p,0,none⟩),.string (bytesOf L)] w fun e w'=>KX base x w w'∧LineEnd base p x (stepL d L) e w':=by
 obtain ⟨An,nn,cn,As,ns,cs,xs,hX⟩:=hd.ex
 have hns0 : nn = ns:=by have:=ho.len;have h1:=hX.lenN;have h2:=hX.lenS;omega
 subst hns0
 obtain ⟨is1,his1,hzs1,hzs2,hzs3⟩:=info_parts info_cloneS
 obtain ⟨iz1,hiz1,hzz1,hzz2,hzz3⟩:=info_parts (show (Tryz.prog.info? 239).map (fun i=>(i.zero,i.size,i.bytes)) = some (some (.slice none 0 0),1,24) by kernel_rfl)
 have HCU:=Lib.hid (vcut_any L w (by omega))
 have HNIL:=Lib.hid (@stepD_nil d L)
 have HADD:=Lib.hid (@stepD_add d L)
 obtain ⟨u,Hu⟩ : ∃ u,Hid (L.take (hashP L) = u):=⟨_,rfl⟩
 have hu : u.length≤65536:=by rw [← Hu.out,List.length_take];omega
 rw [Hu.out] at HCU HNIL HADD
 have hsz : (bytesOf u).size = u.length:=bytesOf_size u
 have HTU:=Lib.hid (fun W=>vtrim_any u W (by omega))
 have HO:=Lib.hid ho
 clear ho
 by_cases hnil : trimL u = []
 ·have HE:=Lib.hid (HNIL.out hnil)
  have hem : (bytesOf (trimL u)).toList.isEmpty = true:=by rw [ByteArray.toList_eq,bytesOf_list,hnil];rfl
  clear hnil
  go_enter Tryz.func158,Tryz.ntmps158
  go_wp2_with fail
  refine HCU.out.mono ?_
  rintro e w2 ⟨rfl,hb2⟩
  go_wp2_with fail
  refine (HTU.out w2).mono ?_
  rintro e w3 ⟨rfl,rfl⟩
  go_wp2
  go_ret
  exact ⟨KX.below hb2 hB,LineEnd.fine HE.out (RfB.below ⟨_,_,_,_,_,_,_,hX⟩ hb2)⟩
 ·have HST:=Lib.hid (HADD.out hnil)
  have hem : (bytesOf (trimL u)).toList.isEmpty = false:=by
   rw [ByteArray.toList_eq,bytesOf_list]
   cases hq : trimL u with
   | nil=>exact absurd hq hnil
   | cons a b=>rfl
  clear hnil HNIL HADD
  cases hq : findP 59 u with
  | none =>
   have HE:=Lib.hid (HST.out.trans (addS_none (d:=d) hq))
   rw [hq] at HCU
   clear hq
   go_enter Tryz.func158,Tryz.ntmps158
   go_wp2_with fail
   refine HCU.out.mono ?_
   rw [show fv none = -1 from rfl]
   rintro e w2 ⟨rfl,hb2⟩
   go_wp2_with fail
   refine (HTU.out w2).mono ?_
   rintro e w3 ⟨rfl,rfl⟩
   go_wp2
   go_ret
   exact ⟨KX.below hb2 hB,LineEnd.err HE.out⟩
  | some j =>
   rw [hq] at HCU
   have hj : j < u.length:=(List.getElem?_eq_some_iff.1 (findP_lt (c:=59) _ u (Nat.le_refl _) j hq)).1
   obtain ⟨n,Hn⟩ : ∃ n,Hid (trimL (u.drop (j+1)) = n):=⟨_,rfl⟩
   have hnl : n.length≤65536:=by have:=Hn.out;have:=trimL_len (u.drop (j+1));rw [List.length_drop] at this;rw [← Hn.out];omega
   have HTR:=Lib.hid (fun W=>vtrim_any (u.drop (j+1)) W (by rw [List.length_drop];omega))
   have HX1:=Lib.hid (ext_bytes u (j+1))
   rw [hsz] at HX1
   rw [← HX1.out,Hn.out] at HTR
   have HRP:=Lib.hid (fun W=>vspaced_any (u.take j) W (by rw [List.length_take];omega))
   rw [← ext_bytes0] at HRP
   have HNM:=Lib.hid (addS_name (d:=d) hq)
   have HPA:=Lib.hid (fun hn e=>addS_parse (d:=d) hq hn (e:=e))
   have HMA:=Lib.hid (fun hn l hp e=>addS_many (d:=d) hq hn (l:=l) hp (e:=e))
   have HCL:=Lib.hid (fun hn l hp c hm=>addS_clash (d:=d) hq hn (l:=l) hp (c:=c) hm)
   have HOK:=Lib.hid (fun hn l hp c hm=>addS_ok (d:=d) hq hn (l:=l) hp (c:=c) hm)
   rw [Hn.out] at HNM HPA HMA HCL HOK
   rw [← HST.out] at HNM HPA HMA HCL HOK
   clear hq HST
   go_enter Tryz.func158,Tryz.ntmps158
   go_wp2_with fail
   refine HCU.out.mono ?_
   rw [show fv (some j) = (j : Int) from rfl]
   rintro e w2 ⟨rfl,hb2⟩
   go_wp2_with fail
   refine (HTU.out w2).mono ?_
   rintro e w3 ⟨rfl,rfl⟩
   go_wp2_with fail
   refine (HTR.out w2).mono ?_
   rintro e w3 ⟨rfl,rfl⟩
   go_wp2_with fail
   refine (vName_any n w2 (by omega)).mono ?_
   rintro e w4 ⟨rfl,hb4⟩
   have hb:=below_two hb2 hb4
   clear hb2 hb4
   have hX4:=hX.below hb
   cases hnm : nameL n with
   | false =>
    have HE:=Lib.hid (HNM.out (.inl hnm))
    go_wp2
    go_ret
    exact ⟨KX.below hb hB,LineEnd.err HE.out⟩
   | true =>
    by_cases hot : n = otherL
    ·have HE:=Lib.hid (HNM.out (.inr hot))
     have heq : ((bytesOf n).toList == [79,116,104,101,114]) = true:=by rw [ByteArray.toList_eq,bytesOf_list,hot];rfl
     clear hot hnm HNM
     go_wp2
     go_ret
     exact ⟨KX.below hb hB,LineEnd.err HE.out⟩
    ·have heq : ((bytesOf n).toList == [79,116,104,101,114]) = false:=by rw [ByteArray.toList_eq,bytesOf_list];exact beq_eq_false_iff_ne.2 hot
     have HNN : Hid (¬ (nameL n = false∨n = otherL)):=Lib.hid (fun h=>by rcases h with h | h;rw [hnm] at h;cases h;exact hot h)
     clear hnm hot HNM
     go_wp2_with fail
     refine (HRP.out w4).mono ?_
     rintro e w5 ⟨rfl,hb5⟩
     go_wp2_with fail
     refine (sParse_any (bytesOf (spcL (u.take j))) w5 (by rw [bytesOf_size,spcL_len,List.length_take];omega)).mono ?_
     rintro e w6 ⟨hb6,hpe⟩
     have hb6':=below_two (below_two hb hb5) hb6
     have hX6:=hX.below hb6'
     have hKX6:=KX.below (x:=x) hb6' hB
     have hB6 : base≤w6.heap.size:=Nat.le_trans hB hb6'.size
     have hx6 : x < w6.heap.size:=Nat.lt_of_lt_of_le hx hb6'.size
     clear hX hX4 HTR HRP HCU HTU HX1
     cases hps : parseP (bytesOf (spcL (u.take j))) with
     | error y =>
      rw [hps] at hpe
      have hpe' : e = .returned (.tuple #[.slice none 0 0,.int .i64 y.1,.int .i64 y.2]):=hpe
      subst hpe'
      have hcode:=parse_code hps
      have hne : ((y.1 : Int) != 0) = true:=by rw [bne_iff_ne];omega
      have HE:=Lib.hid (HPA.out HNN.out y.1 (parseE_err hps))
      clear hps hpe
      go_wp2
      go_ret
      exact ⟨hKX6,LineEnd.err HE.out⟩
     | ok l0 =>
      rw [hps] at hpe
      obtain ⟨A1,n1,c1,rfl,ho1⟩:=hpe
      have HPE:=Lib.hid (parseE_ok hps)
      obtain ⟨q,Hq⟩ : ∃ q,Hid (normR l0 = q):=⟨_,rfl⟩
      have HNFq : Hid (NF q):=Lib.hid (by rw [← Hq.out];exact normR_NF l0)
      rw [Hq.out] at ho1
      have ho1:=ho1.more (b':=base) (by have:=hb5.size;have:=hb.size;omega)
      have hn1:=own_nf_len ho1 HNFq.out
      have hnn : nn≤64:=by have:=HO.out.few;have:=hX6.lenN;omega
      have HNB : Hid (nbrP d n = match d.names.idxOf? n with | some c=>.ok c | none=>if 64≤d.names.length then .error 6 else .ok d.names.length):=rfl
      clear hps
      go_wp2_with fail
      refine (vClass_any base p x d.names d.sets n w6 ⟨_,_,_,_,_,_,_,hX6⟩ (by have:=hX6.lenN;omega)).mono ?_
      rintro e w7 ⟨rfl,rfl⟩
      have hlS:=hX6.lenS
      have hlN:=hX6.lenN
      have hn0 : 0 < nn:=by
       have h1:=HO.out.head
       cases hd : d.names with
       | nil=>rw [hd] at h1;cases h1
       | cons a b=>rw [hd] at hlN;simp at hlN;omega
      have c0:=hX6.blk.cell 0
      have c1':=hX6.blk.cell 1
      simp only [zG,zH,zI] at c0 c1'
      obtain ⟨g,HAs,_,_⟩:=hX6.hs.form hn0
      cases hix : d.names.idxOf? n with
      | some c =>
       rw [hix] at HNB
       have HCL':=Lib.hid (fun h=>HCL.out HNN.out l0 HPE.out c HNB.out (by rw [Hq.out];exact h))
       have HOK':=Lib.hid (fun h=>HOK.out HNN.out l0 HPE.out c HNB.out (by rw [Hq.out];exact h))
       rw [Hq.out] at HOK'
       have hclt : c < nn:=by have:=(List.getElem?_eq_some_iff.1 (idxOf?_some hix)).1;omega
       rw [show ((some c).getD 0 : Nat) = c from rfl,show (some c).isSome = true from rfl]
       clear hix
       go_wp2_with fail
       go_loopw [12] (fun v wr=>∃ (k m : Nat),v = .int .i64 k∧k≤nn∧Hid (ClashAt d c q k)∧wr = w6.drewN m) (fun v _=>nn - (intOf v).toNat)
       case atStart=>exact ⟨1,0,rfl,by omega,clash_one HO.out,rfl⟩
       case round =>
        obtain ⟨k,m,rfl,hk,HC,rfl⟩:=hrel
        by_cases hlt : k < nn
        ·obtain ⟨s,Hs⟩ : ∃ s,Hid (d.sets[k]? = some s):=⟨_,Lib.hid (List.getElem?_eq_getElem (show k < d.sets.length by omega))⟩
         obtain ⟨y,Hy⟩ : ∃ y,Hid (xs[k]? = some y):=⟨_,Lib.hid (List.getElem?_eq_getElem (show k < xs.length by omega))⟩
         have hoy:=hX6.hx.own k y s Hy.out Hs.out
         have HNFs : Hid (NF s):=Lib.hid (HO.out.nf s (List.mem_of_getElem? Hs.out))
         have hny:=own_nf_len hoy HNFs.out
         have hly : s.length = y.2.1:=by simpa using hoy.len
         have hcell:=hX6.hs.cell' HAs (k:=k) (y:=y) Hy.out
         subst HAs
         by_cases hkc : k = c
         ·have hbb : ((k : Int) != (c : Int)) = false:=by rw [hkc];simp
          have HC':=Lib.hid (clashAt_next HC.out Hs.out (.inl hkc))
          clear hkc
          go_wp2
          go_roundw
          case rel=>exact ⟨k+1,m,by go_num,by omega,HC',rfl⟩
          case measure=>simp [intOf];omega
         ·have hbb : ((k : Int) != (c : Int)) = true:=by rw [bne_iff_ne];omega
          cases hmt : meetB s q with
          | true =>
           have HE:=Lib.hid (HCL'.out (clash_here Hs.out hkc hmt))
           clear hkc
           go_wp2_with (go_at_call 191;refine (vmeet_any y.1 A1 y.2.1 y.2.2 n1 c1 s q (w6.drewN m) ((hoy.rd (by omega)).drewN m) ((ho1.rd (by omega)).drewN m) hly (by simpa using ho1.len) (by omega) (by omega)).mono ?_;rw [hmt];rintro e w8 ⟨rfl,m2,rfl⟩)
           go_ret
           exact ⟨hKX6.trans (KX.below (by first | exact below_refl_drewN _ _ | exact below_drewN (below_refl_drewN _ _) _) hB6),LineEnd.err HE.out⟩
          | false =>
           have HC':=Lib.hid (clashAt_next HC.out Hs.out (.inr hmt))
           clear hkc
           go_wp2_with (go_at_call 191;refine (vmeet_any y.1 A1 y.2.1 y.2.2 n1 c1 s q (w6.drewN m) ((hoy.rd (by omega)).drewN m) ((ho1.rd (by omega)).drewN m) hly (by simpa using ho1.len) (by omega) (by omega)).mono ?_;rw [hmt];rintro e w8 ⟨rfl,m2,rfl⟩)
           go_roundw
           case rel=>exact ⟨k+1,_,by go_num,by omega,HC',by first | rfl | exact World.drewN_drewN _ _ _⟩
           case measure=>simp [intOf];omega
        ·have HC2:=Lib.hid (HOK'.out (clashAt_end HC.out (show ¬ k < d.sets.length by omega)))
         have hbm : Below w6.heap.size w6 (w6.drewN m):=below_refl_drewN _ _
         have hXm:=hX6.below hbm
         have hom:=ho1.below hbm
         have hKt:=hKX6.trans (KX.below hbm hB6)
         have hBt : base≤(w6.drewN m).heap.size:=hB6
         generalize w6.drewN m = wm at hXm hom hKt hBt ⊢
         have hXmN:=hXm.lenN
         have HP' : Hid (putP d n c q = ⟨d.names,d.sets.set c (orR (d.sets.getD c []) q)⟩):=Lib.hid (putP_old (by omega))
         obtain ⟨l1,Hl1⟩ : ∃ l1,Hid (d.sets[c]? = some l1):=⟨_,Lib.hid (List.getElem?_eq_getElem (show c < d.sets.length by omega))⟩
         have HP2 : Hid (stepL d L = .ok ⟨d.names,d.sets.set c (orR l1 q)⟩):=Lib.hid (by rw [HC2.out,HP'.out,List.getD_eq_getElem?_getD,Hl1.out];rfl)
         obtain ⟨y,Hxc⟩ : ∃ y,Hid (xs[c]? = some y):=⟨_,Lib.hid (List.getElem?_eq_getElem (show c < xs.length by omega))⟩
         have hoy:=hXm.hx.own c y l1 Hxc.out Hl1.out
         have hny:=own_nf_len hoy (HO.out.nf l1 (List.mem_of_getElem? Hl1.out))
         have hrd0:=hoy.rd (by omega)
         have hrd1:=hom.rd (by omega)
         have hlen0 : l1.length = y.2.1:=by simpa using hoy.len
         have hlen1 : q.length = n1:=by simpa using hom.len
         have k0:=hXm.blk.cell 0
         simp at k0
         clear hX6 ho1 HC HCL' HOK' c0 c1' hKX6 hB6 hx6 hbm HAs hXmN hlN
         go_wp2_with fail
         obtain ⟨g,HAs,_,_⟩:=hXm.hs.form (show 0 < nn by omega)
         have hcell:=hXm.hs.cell' HAs (k:=c) (y:=y) Hxc.out
         subst HAs
         have k1:=hXm.blk.cell 1
         simp at k1
         have hXd:=hXm.below (w':=wm.drew) ((Below.refl _ _).drew)
         have HOR:=Lib.hid (sOr_any y.1 A1 y.2.1 y.2.2 n1 c1 l1 q wm.drew hrd0.drew hrd1.drew hlen0 hlen1 (by omega))
         refine wp_region_noPanic ?_
         go_region_law (go_simp;go_at_call 192;refine HOR.out.mono ?_;rintro e wz ⟨A',n',c',rfl,ho',hb'⟩;have kz1:=cell_keep (w:=wm.drew) k1 hb';have kzc:=cell_keep (w:=wm.drew) hcell hb';have kzf:=(hXd.hs.below hb').frozen c)
         all_goals
          refine NoPanic.normal ?_
          have hDz:=(hXd.below hb').storeSet (k:=c) (y:=(A',n',c')) (show c < nn by omega) ho' hBt
          have hKz:=(hKt.trans ((KX.below ((Below.refl _ _).drew) hBt).trans (KX.below hb' hBt))).trans hDz.2
          go_wp2
          go_ret
          exact ⟨hKz,LineEnd.fine HP2.out ⟨_,_,_,_,_,_,_,hDz.1⟩⟩
      | none =>
       rw [hix] at HNB
       rw [show ((none : Option Nat).getD 0 : Nat) = 0 from rfl,show (none : Option Nat).isSome = false from rfl]
       clear hix
       by_cases h64 : 64≤nn
       ·have HE:=Lib.hid (HMA.out HNN.out l0 HPE.out 6 (by rw [HNB.out];exact if_pos (by omega)))
        have h64b : (64 : Int)≤nn:=by omega
        clear hlN
        go_wp2
        go_ret
        exact ⟨hKX6,LineEnd.err HE.out⟩
       ·have HNB2 : Hid (nbrP d n = .ok nn):=Lib.hid (by rw [HNB.out,← hlN];exact if_neg (by omega))
        obtain ⟨c,Hc⟩ : ∃ c,Hid (c = nn):=⟨_,rfl⟩
        have HCL':=Lib.hid (fun h=>HCL.out HNN.out l0 HPE.out nn HNB2.out (by rw [Hq.out];exact h))
        have HOK':=Lib.hid (fun h=>HOK.out HNN.out l0 HPE.out nn HNB2.out (by rw [Hq.out];exact h))
        rw [Hq.out] at HOK'
        have h64b : ¬ (64 : Int)≤nn:=by omega
        go_wp2_with fail
        go_loopw [12] (fun v wr=>∃ (k m : Nat),v = .int .i64 k∧k≤nn∧Hid (ClashAt d nn q k)∧wr = w6.drewN m) (fun v _=>nn - (intOf v).toNat)
        case atStart=>exact ⟨1,0,rfl,by omega,clash_one HO.out,rfl⟩
        case round =>
         obtain ⟨k,m,rfl,hk,HC,rfl⟩:=hrel
         by_cases hlt : k < nn
         ·obtain ⟨s,Hs⟩ : ∃ s,Hid (d.sets[k]? = some s):=⟨_,Lib.hid (List.getElem?_eq_getElem (show k < d.sets.length by omega))⟩
          obtain ⟨y,Hy⟩ : ∃ y,Hid (xs[k]? = some y):=⟨_,Lib.hid (List.getElem?_eq_getElem (show k < xs.length by omega))⟩
          have hoy:=hX6.hx.own k y s Hy.out Hs.out
          have HNFs : Hid (NF s):=Lib.hid (HO.out.nf s (List.mem_of_getElem? Hs.out))
          have hny:=own_nf_len hoy HNFs.out
          have hly : s.length = y.2.1:=by simpa using hoy.len
          have hcell:=hX6.hs.cell' HAs (k:=k) (y:=y) Hy.out
          subst HAs
          by_cases hkc : k = nn
          ·have hbb : ((k : Int) != (nn : Int)) = false:=by rw [hkc];simp
           have HC':=Lib.hid (clashAt_next HC.out Hs.out (.inl hkc))
           clear hkc
           go_wp2
           go_roundw
           case rel=>exact ⟨k+1,m,by go_num,by omega,HC',rfl⟩
           case measure=>simp [intOf];omega
          ·have hbb : ((k : Int) != (nn : Int)) = true:=by rw [bne_iff_ne];omega
           cases hmt : meetB s q with
           | true =>
            have HE:=Lib.hid (HCL'.out (clash_here Hs.out hkc hmt))
            clear hkc
            go_wp2_with (go_at_call 191;refine (vmeet_any y.1 A1 y.2.1 y.2.2 n1 c1 s q (w6.drewN m) ((hoy.rd (by omega)).drewN m) ((ho1.rd (by omega)).drewN m) hly (by simpa using ho1.len) (by omega) (by omega)).mono ?_;rw [hmt];rintro e w8 ⟨rfl,m2,rfl⟩)
            go_ret
            exact ⟨hKX6.trans (KX.below (by first | exact below_refl_drewN _ _ | exact below_drewN (below_refl_drewN _ _) _) hB6),LineEnd.err HE.out⟩
           | false =>
            have HC':=Lib.hid (clashAt_next HC.out Hs.out (.inr hmt))
            clear hkc
            go_wp2_with (go_at_call 191;refine (vmeet_any y.1 A1 y.2.1 y.2.2 n1 c1 s q (w6.drewN m) ((hoy.rd (by omega)).drewN m) ((ho1.rd (by omega)).drewN m) hly (by simpa using ho1.len) (by omega) (by omega)).mono ?_;rw [hmt];rintro e w8 ⟨rfl,m2,rfl⟩)
            go_roundw
            case rel=>exact ⟨k+1,_,by go_num,by omega,HC',by first | rfl | exact World.drewN_drewN _ _ _⟩
            case measure=>simp [intOf];omega
         ·have HC2:=Lib.hid (HOK'.out (clashAt_end HC.out (show ¬ k < d.sets.length by omega)))
          have hbm : Below w6.heap.size w6 (w6.drewN m):=below_refl_drewN _ _
          have hXm:=hX6.below hbm
          have hom:=ho1.below hbm
          have hKm:=hKX6.trans (KX.below hbm hB6)
          have hBm : base≤(w6.drewN m).heap.size:=hB6
          have hxm : x < (w6.drewN m).heap.size:=hx6
          generalize w6.drewN m = wm at hXm hom hKm hBm hxm ⊢
          have HP2 : Hid (stepL d L = .ok ⟨d.names++[n],(d.sets++[[]]).set nn (orR [] q)⟩):=Lib.hid (by
           have e : (d.sets++[[]]).set nn (orR [] q) = d.sets++[orR [] q]:=by
            have:=set_mid d.sets [] (orR [] q) []
            rw [show nn = d.sets.length by omega];exact this
           rw [HC2.out,e,← hXm.lenN];exact congrArg Except.ok putP_new)
          have Hxc : Hid ((xs++[((none : Option Addr),0,0)])[nn]? = some (none,0,0)):=Lib.hid (by rw [show nn = xs.length by omega];exact get_mid xs _ [])
          have hclt : nn < nn+1:=by omega
          have k0:=hXm.blk.cell 0
          simp at k0
          have on8:=hXm.hn
          clear hX6 ho1 HC HCL' HOK' c0 c1' hKX6 hB6 hx6 hbm HAs hlN
          go_wp2_with (first
           | (at_builtin;refine wpList_app rfl (.tmp 95) (.tmp 97) _ rfl base 9 is1 _ 1 16 Tryz.underlying184 his1 hzs1 hzs2 hzs3 rfl (by omega) An nn cn (d.names.map encNm) rfl (on8.alloc _) _ 1 1 [encNm n] rfl rfl (Rd.newAt (by simp) rfl) (encNm_ok [n]) (by unfold maxLen;omega) (by omega) (by simp;omega) ?_;intro A3 c3 w9 ho9 hg9 hA9;have HN9:=hXm.named (by rw [List.map_append];exact ho9) hg9 hA9 hxm hBm;have k90:=HN9.1.cell 0;have f90:=HN9.1.frozen 0;have k92:=HN9.2.1.blk.cell 1;simp only [zG,zH,zI] at k90 k92;have hz9 : wm.heap.size≤(w9.setCell ⟨p,0,none⟩ (.slice A3 (nn+1) c3)).heap.size:=HN9.2.2.1.1.size)
           | (at_builtin;refine wpList_app rfl (.tmp 105) (.tmp 106) _ rfl base 239 iz1 _ 1 24 Tryz.underlying204 hiz1 hzz1 hzz2 hzz3 rfl (by omega) As nn cs (xs.map encSl) rfl (HN9.2.1.hs.alloc _) _ 1 1 [encSl (none,0,0)] rfl rfl (Rd.newAt (by simp [World.setCell]) rfl) (encSl_ok [(none,0,0)]) (by unfold maxLen;omega) (by omega) (by simp [World.setCell] at hz9 ⊢;omega) ?_;intro A6 c6 w11 ho11 hg11 hA11;have HM:=HN9.2.1.moreSet (by rw [List.map_append];exact ho11) hg11 hA11 (by omega) (by omega);have k110:=HM.1.cell 1;have f110:=HM.1.frozen 1;have k112:=HM.2.1.blk.cell 1;simp only [zG,zH,zI] at k110 k112)
           | fail)
          have hXt:=HM.2.1
          have hKt:=(hKm.trans HN9.2.2.1).trans HM.2.2.1
          have hot:=(hom.keepR HN9.2.2.2 (Nat.le_refl _)).keepR HM.2.2.2 (Nat.le_refl _)
          have hBt : base≤(w11.setCell ⟨p,1,none⟩ (.slice A6 (nn+1) c6)).heap.size:=Nat.le_trans hBm (Nat.le_trans hz9 HM.2.2.1.1.size)
          clear HM HN9 hg9 hA9 ho9 k90 f90 k92 hz9 hg11 hA11 ho11 k110 f110 k112 hXm hom hKm hBm hxm k0 on8
          generalize w11.setCell ⟨p,1,none⟩ (.slice A6 (nn+1) c6) = wt at hXt hKt hot hBt ⊢
          have hrd0 : Rd wt 2 none (([] : List (Int × Int)).map encR):=Rd.nil_ _ _ _
          have hrd1:=hot.rd (by omega)
          have hlen0 : ([] : List (Int × Int)).length = 0:=rfl
          have hlen1 : q.length = n1:=by simpa using hot.len
          have hcI : (nn : Int) < (nn : Int)+1:=by omega
          obtain ⟨g,HAs,_,_⟩:=hXt.hs.form (show 0 < nn+1 by omega)
          have hcell:=hXt.hs.cell' HAs (k:=nn) (y:=((none : Option Addr),0,0)) Hxc.out
          subst HAs
          have k1:=hXt.blk.cell 1
          simp at k1
          have hXd:=hXt.below (w':=wt.drew) ((Below.refl _ _).drew)
          have HOR:=Lib.hid (sOr_any none A1 0 0 n1 c1 [] q wt.drew hrd0.drew hrd1.drew hlen0 hlen1 (by omega))
          refine wp_region_noPanic ?_
          go_region_law (go_simp;go_at_call 192;refine HOR.out.mono ?_;rintro e wz ⟨A',n',c',rfl,ho',hb'⟩;have kz1:=cell_keep (w:=wt.drew) k1 hb';have kzc:=cell_keep (w:=wt.drew) hcell hb';have kzf:=(hXd.hs.below hb').frozen nn)
          all_goals
           refine NoPanic.normal ?_
           have hDz:=(hXd.below hb').storeSet (k:=nn) (y:=(A',n',c')) (show nn < nn+1 by omega) ho' hBt
           have hKz:=(hKt.trans ((KX.below ((Below.refl _ _).drew) hBt).trans (KX.below hb' hBt))).trans hDz.2
           go_wp2
           go_ret
           exact ⟨hKz,LineEnd.fine HP2.out ⟨_,_,_,_,_,_,_,hDz.1⟩⟩
end
end Go.Proofs.YtlfpdpbbkjnapaaGreatDoor
