/- -/
import Derived.RegionTactic
import Derived.BigRegion
import Derived.Test.YtlfpdpbbkjnapaaGreatDoorPWa
import Derived.Test.YtlfpdpbbkjnapaaGreatDoorPWb
import Derived.Test.YtlfpdpbbkjnapaaGreatDoorP2a
import Derived.Test.YtlfpdpbbkjnapaaGreatDoorP0a
import Derived.Test.YtlfpdpbbkjnapaaGreatDoorPParse
namespace Go.Proofs.YtlfpdpbbkjnapaaGreatDoor
set_option maxRecDepth 100000
set_option maxHeartbeats 40000000
section
open Go.RowKit Go.Maps
theorem itemP_err {s : ByteArray} {a p : Nat} {e : Int} (h : itemP s a = .error (e,p)) : 20≤e∧e≤23:=by
 unfold itemP at h
 cases h1 : runeP s a with
 | error x=>rw [h1] at h;injection h with h;subst h;have:=runeP_err h1;omega
 | ok y =>
  obtain ⟨lo,q⟩:=y
  rw [h1] at h
  by_cases h45 : (rest s q).head? = some 45
  ·simp only [h45,if_true] at h
   cases h2 : runeP s (q+1) with
   | error x=>rw [h2] at h;injection h with h;subst h;have:=runeP_err h2;omega
   | ok z =>
    rw [h2] at h
    simp only at h
    repeat' split at h
    all_goals first
     | (injection h with h;injection h with h1 h2;subst h1;omega)
     | cases h
  ·simp only [h45,if_false] at h
   repeat' split at h
   all_goals first
    | (injection h with h;injection h with h1 h2;subst h1;omega)
    | cases h
theorem parseGo_err {s : ByteArray} {p : Nat} {e : Int} : ∀ (f a : Nat) (l : List (Int × Int)),parseGo s f a l = .error (e,p)→20≤e∧e≤23
 | 0,a,l,h=>by cases h
 | f+1,a,l,h=>by
  unfold parseGo at h
  split at h
  ·cases h
  ·split at h
   ·exact parseGo_err f _ _ h
   ·cases hi : itemP s a with
    | error x=>rw [hi] at h;injection h with h;subst h;exact itemP_err hi
    | ok y=>rw [hi] at h;exact parseGo_err f _ _ h
theorem parse_code {s : ByteArray} {x : Int × Nat} (h : parseP s = .error x) : 20≤x.1∧x.1≤23:=parseGo_err _ _ _ (show parseGo s (s.size+1) 0 [] = .error (x.1,x.2) from h)
def MaxW (w : World) : Prop:=∃ m,w.cell? ⟨0,0,none⟩ = some (.int .i64 m)
theorem MaxW.below {w w' : World} (h : MaxW w) (hb : Below w.heap.size w w') : MaxW w':=let ⟨m,hm⟩:=h;⟨m,cell_keep hm hb⟩
theorem lReplace_any (s : ByteArray) (w : World) (hM : MaxW w) (hs : s.size≤1000000) :
  Calls Tryz.prog 199 #[.string s,.string ⟨#[9]⟩,.string ⟨#[32]⟩] w fun e w'=>e = .returned (.string (bytesOf (spcL s.data.toList)))∧Below w.heap.size w w':=by
 obtain ⟨m,hm⟩:=hM
 have hc:=Lib.countB_le (⟨#[9]⟩ : ByteArray) (show 1≤1 by omega) s.size s (Nat.le_refl _)
 have h:=Tryz.strings_ReplaceAll s ⟨#[9]⟩ ⟨#[32]⟩ m w (by omega) hm (show 1≤1 by omega) (by rw [show (ByteArray.mk #[32]).size = 1 from rfl];omega)
 refine h.mono ?_
 rintro e w' ⟨rfl,hb⟩
 refine ⟨?_,hb⟩
 rw [show (ByteArray.mk #[9]).data.toList = [9] from rfl,show (ByteArray.mk #[32]).data.toList = [32] from rfl,replace_spc];rfl
def AddEnd (base p x : Nat) (r : Except Int DbP) (e : Ending) (w' : World) : Prop :=
 match r with
 | .error k=>e = .returned (.int .i64 k)
 | .ok d'=>e = .returned (.int .i64 0)∧DbB w' base p x d'
theorem AddEnd.err {base p x : Nat} {r : Except Int DbP} {k : Int} {w' : World} (h : r = .error k) : AddEnd base p x r (.returned (.int .i64 k)) w':=by rw [h];exact rfl
theorem AddEnd.fine {base p x : Nat} {r : Except Int DbP} {d : DbP} {w' : World} (h : r = .ok d) (hd : DbB w' base p x d) : AddEnd base p x r (.returned (.int .i64 0)) w':=by rw [h];exact ⟨rfl,hd⟩
theorem nbrP_err {d : DbP} {n : List UInt8} {k : Int} (h : nbrP d n = .error k) : k = 6:=by
 unfold nbrP at h
 split at h
 ·cases h
 ·split at h
  ·injection h with h;exact h.symm
  ·cases h
theorem parseE_err {l : List UInt8} {y : Int × Nat} (h : parseP (bytesOf l) = .error y) : parseE l = .error y.1:=by unfold parseE;rw [h]
theorem parseE_ok {l : List UInt8} {q : List (Int × Int)} (h : parseP (bytesOf l) = .ok q) : parseE l = .ok q:=by unfold parseE;rw [h]
theorem spcL_len (l : List UInt8) : (spcL l).length = l.length:=by unfold spcL;rw [List.length_map]
theorem putP_new {d : DbP} {n : List UInt8} {l : List (Int × Int)} : putP d n d.names.length l = ⟨d.names++[n],d.sets++[orR [] l]⟩:=if_pos rfl
theorem putP_old {d : DbP} {n : List UInt8} {c : Nat} {l : List (Int × Int)} (h : c ≠ d.names.length) : putP d n c l = ⟨d.names,d.sets.set c (orR (d.sets.getD c []) l)⟩:=if_neg h
theorem wadd_any (p base x : Nat) (d : DbP) (u : List UInt8) (w : World) (hd : DbB w base p x d) (ho : d.Ok) (hx : x < w.heap.size) (hB : base≤w.heap.size) (hT : Tabs w) (hM : MaxW w) (hu : u.length≤65536) :
  Calls Tryz.prog 162 #[.pointer (some ⟨p,0,none⟩),.string (bytesOf u)] w fun e w'=>KX base x w w'∧AddEnd base p x (addS d u) e w':=by
 obtain ⟨An,nn,cn,bm,nm,D,As,ns,cs,xs,hX⟩:=hd.ex
 have hns0 : nn = ns:=by have:=ho.len;have h1:=hX.lenN;have h2:=hX.lenS;omega
 subst hns0
 obtain ⟨is1,his1,hzs1,hzs2,hzs3⟩:=info_parts info_cloneS
 obtain ⟨iz1,hiz1,hzz1,hzz2,hzz3⟩:=info_parts (show (Tryz.prog.info? 239).map (fun i=>(i.zero,i.size,i.bytes)) = some (some (.slice none 0 0),1,24) by kernel_rfl)
 have HF:=Lib.hid (wfind_any (bytesOf u) 59 59 rfl w hT (by rw [bytesOf_size];omega))
 rw [bytesOf_list] at HF
 have hsz : (bytesOf u).size = u.length:=bytesOf_size u
 have HO:=Lib.hid ho
 clear ho
 cases hq : findP 59 u with
 | none =>
  have HE:=Lib.hid (addS_none (d:=d) hq)
  rw [hq] at HF
  clear hq
  go_enter Tryz.func162,Tryz.ntmps162
  go_wp2_with (go_at_call 195;refine HF.out.mono ?_;rw [show fv none = -1 from rfl];rintro e w2 ⟨rfl,hb2⟩)
  go_ret
  exact ⟨KX.below hb2 hB,AddEnd.err HE.out⟩
 | some j =>
  rw [hq] at HF
  have hj : j < u.length:=(List.getElem?_eq_some_iff.1 (findP_lt (c:=59) _ u (Nat.le_refl _) j hq)).1
  obtain ⟨n,Hn⟩ : ∃ n,Hid (trimL (u.drop (j+1)) = n):=⟨_,rfl⟩
  have hnl : n.length≤65536:=by have:=Hn.out;have:=trimL_len (u.drop (j+1));rw [List.length_drop] at this;rw [← Hn.out];omega
  have HTR:=Lib.hid (fun W=>lTrim_any ((bytesOf u).extract (j+1) u.length) W (by rw [ByteArray.size_extract];omega))
  rw [show ((bytesOf u).extract (j+1) u.length).data.toList = u.drop (j+1) by rw [← hsz,rest_drop,bytesOf_list],Hn.out] at HTR
  have HRP:=Lib.hid (fun W hMW=>lReplace_any ((bytesOf u).extract 0 j) W hMW (by rw [ByteArray.size_extract];omega))
  rw [take_extract,bytesOf_list] at HRP
  have HNM:=Lib.hid (addS_name (d:=d) hq)
  have HPA:=Lib.hid (fun hn e=>addS_parse (d:=d) hq hn (e:=e))
  have HMA:=Lib.hid (fun hn l hp e=>addS_many (d:=d) hq hn (l:=l) hp (e:=e))
  have HCL:=Lib.hid (fun hn l hp c hm=>addS_clash (d:=d) hq hn (l:=l) hp (c:=c) hm)
  have HOK:=Lib.hid (fun hn l hp c hm=>addS_ok (d:=d) hq hn (l:=l) hp (c:=c) hm)
  rw [Hn.out] at HNM HPA HMA HCL HOK
  clear hq
  go_enter Tryz.func162,Tryz.ntmps162
  go_wp2_with fail
  refine HF.out.mono ?_
  rw [show fv (some j) = (j : Int) from rfl]
  rintro e w2 ⟨rfl,hb2⟩
  go_wp2_with fail
  refine (HTR.out w2).mono ?_
  rintro e w3 ⟨rfl,hb3⟩
  go_wp2_with fail
  refine (wName_any n w3 (by omega)).mono ?_
  rintro e w4 ⟨rfl,hb4⟩
  have hb:=below_two (below_two hb2 hb3) hb4
  clear hb2 hb3 hb4
  have hX4:=hX.below hb
  have hT4:=hT.below hb
  have hM4:=hM.below hb
  cases hnm : nameL n with
  | false =>
   have HE:=Lib.hid (HNM.out (.inl hnm))
   go_wp2
   go_ret
   exact ⟨KX.below hb hB,AddEnd.err HE.out⟩
  | true =>
   by_cases hot : n = otherL
   ·have HE:=Lib.hid (HNM.out (.inr hot))
    have heq : ((bytesOf n).toList == [79,116,104,101,114]) = true:=by rw [ByteArray.toList_eq,bytesOf_list,hot];rfl
    clear hot hnm HNM
    go_wp2
    go_ret
    exact ⟨KX.below hb hB,AddEnd.err HE.out⟩
   ·have heq : ((bytesOf n).toList == [79,116,104,101,114]) = false:=by rw [ByteArray.toList_eq,bytesOf_list];exact beq_eq_false_iff_ne.2 hot
    have HNN : Hid (¬ (nameL n = false∨n = otherL)):=Lib.hid (fun h=>by rcases h with h | h;rw [hnm] at h;cases h;exact hot h)
    clear hnm hot HNM
    go_wp2_with fail
    refine (HRP.out w4 hM4).mono ?_
    rintro e w5 ⟨rfl,hb5⟩
    go_wp2_with fail
    refine (rParse_any (bytesOf (spcL (u.take j))) w5 (hT4.below hb5) (by rw [bytesOf_size,spcL_len,List.length_take];omega)).mono ?_
    rintro e w6 ⟨hb6,hpe⟩
    have hb6':=below_two (below_two hb hb5) hb6
    have hX6:=hX.below hb6'
    have hKX6:=KX.below (x:=x) hb6' hB
    have hB6 : base≤w6.heap.size:=Nat.le_trans hB hb6'.size
    have hx6 : x < w6.heap.size:=Nat.lt_of_lt_of_le hx hb6'.size
    clear hX hX4 hT4 hM4 HTR HRP HF
    cases hps : parseP (bytesOf (spcL (u.take j))) with
    | error y =>
     rw [hps] at hpe
     have hpe' : e = .returned (.tuple #[.slice none 0 0,.int .i64 y.1,.int .i64 y.2]):=hpe
     subst hpe'
     have hcode:=parse_code hps
     have hne : ((y.1 : Int) != 0) = true:=by rw [bne_iff_ne];omega
     have HE:=Lib.hid (HPA.out HNN.out y.1 (parseE_err hps))
     clear hps hpe
     go_wp2
     go_ret
     exact ⟨hKX6,AddEnd.err HE.out⟩
    | ok l0 =>
     rw [hps] at hpe
     obtain ⟨A1,n1,c1,rfl,ho1⟩:=hpe
     have HPE:=Lib.hid (parseE_ok hps)
     obtain ⟨q,Hq⟩ : ∃ q,Hid (normR l0 = q):=⟨_,rfl⟩
     have HNFq : Hid (NF q):=Lib.hid (by rw [← Hq.out];exact normR_NF l0)
     rw [Hq.out] at ho1
     have ho1:=ho1.more (b':=base) (by have:=hb5.size;have:=hb.size;omega)
     have hn1:=own_nf_len ho1 HNFq.out
     clear hps
     go_wp2_with fail
     refine (wnumber_any p bm nm nn cn nn cs An As (.slice none 0 0) d D n w6 hX6.blk hX6.hm hX6.hD hX6.lenN HO.out.nodup (by have:=HO.out.few;have:=hX6.lenN;omega) (by omega)).mono ?_
     rintro e w7 ⟨rfl,hw7⟩
     replace hw7 : w6 = w7:=hw7.symm
     subst hw7
     cases hnb : nbrP d n with
     | error k =>
      obtain rfl:=nbrP_err hnb
      have HE:=Lib.hid (HMA.out HNN.out l0 HPE.out 6 hnb)
      clear hnb
      rw [show numV (.error 6) = .tuple #[.int .i64 0,.int .i64 6] from rfl]
      go_wp2
      go_ret
      exact ⟨hKX6,AddEnd.err HE.out⟩
     | ok c =>
      have HCL':=Lib.hid (fun h=>HCL.out HNN.out l0 HPE.out c hnb (by rw [Hq.out];exact h))
      have HOK':=Lib.hid (fun h=>HOK.out HNN.out l0 HPE.out c hnb (by rw [Hq.out];exact h))
      rw [Hq.out] at HOK'
      have hcn : c≤nn:=by have:=nbrP_le hnb;have:=hX6.lenN;omega
      have hlS:=hX6.lenS
      have hnn : nn≤64:=by have:=HO.out.few;have:=hX6.lenN;omega
      have hn0 : 0 < nn:=by
       have h1:=HO.out.head
       have h2:=hX6.lenN
       cases hd : d.names with
       | nil=>rw [hd] at h1;cases h1
       | cons a b=>rw [hd] at h2;simp at h2;omega
      clear hnb
      obtain ⟨g,HAs,_,_⟩:=hX6.hs.form (by omega)
      have c0:=hX6.blk.cell 0
      have c1':=hX6.blk.cell 1
      have c2:=hX6.blk.cell 2
      simp at c0 c1' c2
      rw [show numV (.ok c) = .tuple #[.int .i64 c,.int .i64 0] from rfl]
      go_wp2_with fail
      go_loopw [55] (fun v wr=>∃ (k m : Nat),v = .int .i64 k∧k≤nn∧Hid (ClashAt d c q k)∧wr = w6.drewN m) (fun v _=>nn - (intOf v).toNat)
      case atStart=>exact ⟨0,0,rfl,by omega,clashAt_first d c q,rfl⟩
      case round =>
       obtain ⟨k,m,rfl,hk,HC,rfl⟩:=hrel
       by_cases hlt : k < nn
       ·obtain ⟨s,Hs⟩ : ∃ s,Hid (d.sets[k]? = some s):=⟨_,Lib.hid (List.getElem?_eq_getElem (show k < d.sets.length by omega))⟩
        obtain ⟨y,Hy⟩ : ∃ y,Hid (xs[k]? = some y):=⟨_,Lib.hid (List.getElem?_eq_getElem (show k < xs.length by omega))⟩
        have hoy:=hX6.hx.own k y s Hy.out Hs.out
        have HNFs : Hid (NF s):=Lib.hid (HO.out.nf s (List.mem_of_getElem? Hs.out))
        have hny:=own_nf_len hoy HNFs.out
        have hly : s.length = y.2.1:=by simpa using hoy.len
        have hcell:=hX6.hs.cell' HAs (k:=k) (y:=y) Hy.out
        have hcap:=hoy.cap.1
        have hcap1:=ho1.cap.1
        subst HAs
        by_cases hkc : k = c
        ·have hbb : ((k : Int) != (c : Int)) = false:=by rw [hkc];simp
         have HC':=Lib.hid (clashAt_next HC.out Hs.out (.inl hkc))
         clear hkc
         go_wp2
         go_roundw
         case rel=>exact ⟨k+1,m,by go_num,by omega,HC',rfl⟩
         case measure=>simp [intOf];omega
        ·have hbb : ((k : Int) != (c : Int)) = true:=by rw [bne_iff_ne];omega
         cases hmt : meetB s q with
         | true =>
          have HE:=Lib.hid (HCL'.out (clash_here Hs.out hkc hmt))
          clear hkc
          go_wp2_with (go_at_call 201;refine (wmeet_any y.1 A1 y.2.1 y.2.2 n1 c1 s q (w6.drewN m) ((hoy.rd (by omega)).drewN m) ((ho1.rd (by omega)).drewN m) hly (by simpa using ho1.len) (by omega) (by omega) hcap hcap1 HNFs.out.1 HNFq.out.1).mono ?_;rw [hmt];rintro e w8 ⟨rfl,m2,rfl⟩)
          go_ret
          exact ⟨hKX6.trans (KX.below (by first | exact below_refl_drewN _ _ | exact below_drewN (below_refl_drewN _ _) _) hB6),AddEnd.err HE.out⟩
         | false =>
          have HC':=Lib.hid (clashAt_next HC.out Hs.out (.inr hmt))
          clear hkc
          go_wp2_with (go_at_call 201;refine (wmeet_any y.1 A1 y.2.1 y.2.2 n1 c1 s q (w6.drewN m) ((hoy.rd (by omega)).drewN m) ((ho1.rd (by omega)).drewN m) hly (by simpa using ho1.len) (by omega) (by omega) hcap hcap1 HNFs.out.1 HNFq.out.1).mono ?_;rw [hmt];rintro e w8 ⟨rfl,m2,rfl⟩)
          go_roundw
          case rel=>exact ⟨k+1,_,by go_num,by omega,HC',by first | rfl | exact World.drewN_drewN⟩
          case measure=>simp [intOf];omega
       ·have HC2:=Lib.hid (HOK'.out (clashAt_end HC.out (show ¬ k < d.sets.length by omega)))
        have hbm : Below w6.heap.size w6 (w6.drewN m):=below_refl_drewN _ _
        have hXm:=hX6.below hbm
        have hom:=ho1.below hbm
        have hKm:=hKX6.trans (KX.below hbm hB6)
        have hBm : base≤(w6.drewN m).heap.size:=hB6
        have hxm : x < (w6.drewN m).heap.size:=hx6
        generalize w6.drewN m = wm at hXm hom hKm hBm hxm ⊢
        clear hX6 ho1 HC HCL' HOK' c0 c1' c2 hKX6 hB6 hx6 hbm HAs
        by_cases hc : c = nn
        ·have hcb : ((c : Int) == (nn : Int)) = true:=by rw [hc];simp
         have HKk:=Lib.hid (keyS (n:=n) (by omega))
         have hD':=hXm.hD
         have HP2 : Hid (addS d u = .ok ⟨d.names++[n],(d.sets++[[]]).set c (orR [] q)⟩):=Lib.hid (by
          have e : (d.sets++[[]]).set c (orR [] q) = d.sets++[orR [] q]:=by
           have:=set_mid d.sets [] (orR [] q) []
           rw [show c = d.sets.length by omega];exact this
          rw [HC2.out,e,hc,← hXm.lenN];exact congrArg Except.ok putP_new)
         have hcN : Hid ((c : Int) = (d.names.length : Int)):=Lib.hid (by rw [hc,hXm.lenN])
         have Hxc : Hid ((xs++[((none : Option Addr),0,0)])[c]? = some (none,0,0)):=Lib.hid (by rw [show c = xs.length by omega];exact get_mid xs _ [])
         have hclt : c < nn+1:=by omega
         have hcI : (c : Int) < (nn : Int)+1:=by omega
         have hcJ : c≤nn:=by omega
         have k0:=hXm.blk.cell 0
         have k1:=hXm.blk.cell 1
         simp at k0 k1
         clear hc
         go_wp2_with (first
          | (at_mapUpdate;refine wpList_mapUpdate_own _ rfl _ _ _ 226 rfl 9 3 keyedS Tryz.underlying226 _ bm nm D rfl hXm.hm (by have:=hXm.nle;unfold maxLen;omega) _ _ (.string n) rfl rfl HKk.out _ [] (plainElem_int Tryz.underlying3 (WalkArith.wf_i64 (by omega))) ?_;intro w8 hown8 hg8;obtain ⟨bl8,on8,os8,ox8⟩:=hXm.mapped hg8;have k80:=bl8.cell 0;have hs8:=hg8.size;simp only [zG,zH] at k80)
          | (at_builtin;refine wpList_app rfl (.tmp 86) (.tmp 88) _ rfl base 9 is1 _ 1 16 Tryz.underlying184 his1 hzs1 hzs2 hzs3 rfl (by omega) An nn cn (d.names.map encNm) rfl (on8.alloc _) _ 1 1 [encNm n] rfl rfl (Rd.newAt (by simp) rfl) (encNm_ok [n]) (by unfold maxLen;omega) (by omega) (by simp;omega) ?_;intro A3 c3 w9 ho9 hg9 hA9;have HN9:=hXm.named hcN.out hown8 hg8 (by rw [List.map_append];exact ho9) hg9 hA9 hxm hBm;have k90:=HN9.1.cell 0;have f90:=HN9.1.frozen 0;have k92:=HN9.2.1.blk.cell 2;simp only [zG,zH,zI] at k90 k92;have hz9 : wm.heap.size≤(w9.setCell ⟨p,0,none⟩ (.slice A3 (nn+1) c3)).heap.size:=HN9.2.2.1.1.size)
          | (at_builtin;refine wpList_app rfl (.tmp 96) (.tmp 97) _ rfl base 239 iz1 _ 1 24 Tryz.underlying204 hiz1 hzz1 hzz2 hzz3 rfl (by omega) As nn cs (xs.map encSl) rfl (HN9.2.1.hs.alloc _) _ 1 1 [encSl (none,0,0)] rfl rfl (Rd.newAt (by simp [World.setCell]) rfl) (encSl_ok [(none,0,0)]) (by unfold maxLen;omega) (by omega) (by simp [World.setCell] at hz9 ⊢;omega) ?_;intro A6 c6 w11 ho11 hg11 hA11;have HM:=HN9.2.1.moreSet (by rw [List.map_append];exact ho11) hg11 hA11 (by omega) (by omega);have k110:=HM.1.cell 2;have f110:=HM.1.frozen 2;have k112:=HM.2.1.blk.cell 2;simp only [zG,zH,zI] at k110 k112)
          | fail)
         have hXt:=HM.2.1
         have hKt:=(hKm.trans HN9.2.2.1).trans HM.2.2.1
         have hot:=(hom.keepR HN9.2.2.2 (Nat.le_refl _)).keepR HM.2.2.2 (Nat.le_refl _)
         have hBt : base≤(w11.setCell ⟨p,2,none⟩ (.slice A6 (nn+1) c6)).heap.size:=Nat.le_trans hBm (Nat.le_trans hz9 HM.2.2.1.1.size)
         clear HM HN9 hown8 hg8 bl8 on8 os8 ox8 k80 hs8 hg9 hA9 ho9 k90 f90 k92 hz9 hg11 hA11 ho11 k110 f110 k112 hXm hom hKm hBm hxm k0 k1
         generalize w11.setCell ⟨p,2,none⟩ (.slice A6 (nn+1) c6) = wt at hXt hKt hot hBt ⊢
         have hrd0 : Rd wt 2 none (([] : List (Int × Int)).map encR):=Rd.nil_ _ _ _
         have hrd1:=hot.rd (by omega)
         have hlen0 : ([] : List (Int × Int)).length = 0:=rfl
         have hlen1 : q.length = n1:=by simpa using hot.len
         obtain ⟨g,HAs,_,_⟩:=hXt.hs.form (show 0 < nn+1 by omega)
         have hcell:=hXt.hs.cell' HAs (k:=c) (y:=((none : Option Addr),0,0)) Hxc.out
         subst HAs
         have k2:=hXt.blk.cell 2
         simp at k2
         have hXd:=hXt.below (w':=wt.drew) ((Below.refl _ _).drew)
         have HOR:=Lib.hid (rOr_any none A1 0 0 n1 c1 [] q wt.drew hrd0.drew hrd1.drew hlen0 hlen1 (by omega))
         refine wp_region_noPanic ?_
         go_region_law (go_simp;go_at_call 202;refine HOR.out.mono ?_;rintro e wz ⟨A',n',c',rfl,ho',hb'⟩;have kz2:=cell_keep (w:=wt.drew) k2 hb';have kzc:=cell_keep (w:=wt.drew) hcell hb';have kzf:=(hXd.hs.below hb').frozen c)
         all_goals
          refine NoPanic.normal ?_
          have hDz:=(hXd.below hb').storeSet (k:=c) (y:=(A',n',c')) (show c < nn+1 by omega) ho' hBt
          have hKz:=(hKt.trans ((KX.below ((Below.refl _ _).drew) hBt).trans (KX.below hb' hBt))).trans hDz.2
          go_wp2
          go_ret
          exact ⟨hKz,AddEnd.fine HP2.out ⟨_,_,_,_,_,_,_,_,_,_,hDz.1⟩⟩
        ·have hcb : ((c : Int) == (nn : Int)) = false:=beq_eq_false_iff_ne.2 (by omega)
         have HP' : Hid (putP d n c q = ⟨d.names,d.sets.set c (orR (d.sets.getD c []) q)⟩):=Lib.hid (putP_old (by rw [hXm.lenN];exact hc))
         obtain ⟨l1,Hl1⟩ : ∃ l1,Hid (d.sets[c]? = some l1):=⟨_,Lib.hid (List.getElem?_eq_getElem (show c < d.sets.length by omega))⟩
         have HP2 : Hid (addS d u = .ok ⟨d.names,d.sets.set c (orR l1 q)⟩):=Lib.hid (by rw [HC2.out,HP'.out,List.getD_eq_getElem?_getD,Hl1.out];rfl)
         obtain ⟨y,Hxc⟩ : ∃ y,Hid (xs[c]? = some y):=⟨_,Lib.hid (List.getElem?_eq_getElem (show c < xs.length by omega))⟩
         have hoy:=hXm.hx.own c y l1 Hxc.out Hl1.out
         have hny:=own_nf_len hoy (HO.out.nf l1 (List.mem_of_getElem? Hl1.out))
         have hrd0:=hoy.rd (by omega)
         have hrd1:=hom.rd (by omega)
         have hlen0 : l1.length = y.2.1:=by simpa using hoy.len
         have hlen1 : q.length = n1:=by simpa using hom.len
         have hKt:=hKm
         have hBt:=hBm
         have hclt : c < nn:=by omega
         have k0:=hXm.blk.cell 0
         simp at k0
         clear hc
         go_wp2_with fail
         obtain ⟨g,HAs,_,_⟩:=hXm.hs.form (show 0 < nn by omega)
         have hcell:=hXm.hs.cell' HAs (k:=c) (y:=y) Hxc.out
         subst HAs
         have k2:=hXm.blk.cell 2
         simp at k2
         have hXd:=hXm.below (w':=wm.drew) ((Below.refl _ _).drew)
         have HOR:=Lib.hid (rOr_any y.1 A1 y.2.1 y.2.2 n1 c1 l1 q wm.drew hrd0.drew hrd1.drew hlen0 hlen1 (by omega))
         refine wp_region_noPanic ?_
         go_region_law (go_simp;go_at_call 202;refine HOR.out.mono ?_;rintro e wz ⟨A',n',c',rfl,ho',hb'⟩;have kz2:=cell_keep (w:=wm.drew) k2 hb';have kzc:=cell_keep (w:=wm.drew) hcell hb';have kzf:=(hXd.hs.below hb').frozen c)
         all_goals
          refine NoPanic.normal ?_
          have hDz:=(hXd.below hb').storeSet (k:=c) (y:=(A',n',c')) (show c < nn by omega) ho' hBt
          have hKz:=(hKt.trans ((KX.below ((Below.refl _ _).drew) hBt).trans (KX.below hb' hBt))).trans hDz.2
          go_wp2
          go_ret
          exact ⟨hKz,AddEnd.fine HP2.out ⟨_,_,_,_,_,_,_,_,_,_,hDz.1⟩⟩
end
end Go.Proofs.YtlfpdpbbkjnapaaGreatDoor
