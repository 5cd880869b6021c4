/-
 Several texts in one,in their build order: Vm,Va,Vc,Ve,Ds,PrsE,SenP,PrsS.
-/
import Derived.Deep.DeepMust
import Derived.Test.YtlfpdpbbkjnapaaGreatDoorYPlacesTells0b
import Derived.Test.YtlfpdpbbkjnapaaGreatDoorP0a
import Derived.Test.YtlfpdpbbkjnapaaGreatDoorPWa
import Derived.Test.YtlfpdpbbkjnapaaGreatDoorP2a
import Derived.Test.YtlfpdpbbkjnapaaGreatDoorYPlacesTells0a
/- -/
namespace Go.Proofs.YtlfpdpbbkjnapaaGreatDoor
set_option maxRecDepth 100000
set_option maxHeartbeats 40000000
section
open Go.RowKit Go.Maps
theorem vOf_any (base p x : Nat) (d : DbP) (s : ByteArray) (w : World) (h : RfB w base p x d.names d.full) (ho : d.Ok) (ha : Apart d.sets) (hs : s.size≤1000000) :
  Calls Tryz.prog 124 #[.pointer (some ⟨p,0,none⟩),.string s] w fun e w'=>∃ A n c,e = .returned (.slice A n c)∧Own w' w.heap.size 3 1 A n c ((ofC d s).map encN)∧Below w.heap.size w w':=by
 obtain ⟨i0,hi0,hz0,hz1,hz2⟩:=info_parts infoInt
 have HD:=Lib.hid (And.intro h (And.intro ho ha))
 clear h ho ha
 go_enter Tryz.func124,Tryz.ntmps124
 go_wp2
 go_loopw [5] (fun v wr=>∃ (q f : Nat) (A1 : Option Addr) (n1 c1 : Nat) (o : List Nat),v = .slice A1 n1 c1∧wr.heap[w.heap.size]? = some (.stringIter s q)∧Own wr (w.heap.size+1) 3 1 A1 n1 c1 (o.map encN) ∧
   n1≤q∧q≤s.size∧Hid (OfCAt d s f q o)∧Below w.heap.size w wr) (fun _ wr=>s.size - wr.iterPos w.heap.size)
 case atStart=>exact ⟨0,s.size,none,0,0,[],rfl,iter_new _ _ _,Own.nil_ _ _ _ _,by omega,by omega,ofCAt_first d s,below_iter (Below.refl _ _) (Nat.le_refl _) _ _⟩
 case round =>
  obtain ⟨q,f,A1,n1,c1,o,rfl,hit,ho,hn1,hps,HR,hb⟩:=hrel
  have hsz : w.heap.size < wr.heap.size:=(Array.getElem?_eq_some_iff.1 hit).1
  have Hpos:=Lib.hid (iterPos_of hit)
  by_cases hp : q < s.size
  ·obtain ⟨⟨R,W⟩,HDc⟩ : ∃ d,Utf8.decode s q = d:=⟨_,rfl⟩
   have hd:=dec_bd s q hp
   have hnx : ∀ ty,(Instr.next (.pointer (some ⟨w.heap.size,0,none⟩)) true ty).run Tryz.prog wr = _:=fun ty=>Lib.run_next_any_at wr w.heap.size s q ty hit hp
   have hit2:=Lib.iterAt_heap wr w.heap.size s q (q+(Utf8.decode s q).2) hit
   have hb2:=Lib.below_iterAt hb (k:=w.heap.size) (Nat.le_refl _) s (q+(Utf8.decode s q).2)
   have ho2:=ho.iterAt (k:=w.heap.size) (by omega) s (q+(Utf8.decode s q).2)
   have hsz2 : w.heap.size < (wr.iterAt w.heap.size s (q+(Utf8.decode s q).2)).heap.size:=by rw [Lib.iterAt_size];exact hsz
   rw [HDc] at hd hnx hit2 hb2 ho2 hsz2
   simp only at hd hnx hit2 hb2 ho2 hsz2
   obtain ⟨g,HA⟩:=ofCAt_add HR.out hp HDc (by omega)
   have HA:=Lib.hid HA
   clear HR HDc
   generalize wr.iterAt w.heap.size s (q+W) = w2 at hnx hit2 hb2 ho2 hsz2
   have HG:=Lib.hid (vGet_any base p x d R w2 (HD.out.1.below hb2) HD.out.2.1 HD.out.2.2)
   clear ho hb hit hsz
   go_wp2_with (first | (go_at_call 148;refine HG.out.mono ?_;rintro e w4 ⟨rfl,rfl⟩;have hit4:=hit2;have ho4:=ho2;have hbb:=hb2;have hsz4:=hsz2) | (at_builtin;go_must (refine wpList_app rfl (.tmp 13) (.tmp 17) _ rfl (w.heap.size+1) 3 i0 _ 1 8 Tryz.underlying65 hi0 hz0 hz1 hz2 rfl (by omega) A1 n1 c1 (o.map encN) rfl (ho4.alloc _) _ 1 1 [encN (d.get R)] rfl rfl (Rd.newAt (by simp) rfl) (encN_ok [d.get R]) (by unfold maxLen;omega) (by omega) (by simp;omega) ?_);intro A3 c3 w3 ho3 hg3 hA3;have hit3:=hg3.block w.heap.size (by simp;omega) (fun e=>by cases A1 with | none=>simp at e | some a=>have:=(ho4.lt a rfl).1;simp at e;omega);have hb3:=below_app (hbb.alloc (by omega) _) hg3 (by simp;omega) (fun a ha=>by have:=(ho4.lt a ha).1;omega);clear hg3))
   have hit5 : w3.heap[w.heap.size]? = some (.stringIter s (q+W)):=hit3.trans ((Below.heap_alloc _ _ _ hsz4).trans hit4)
   have Ho3 : Own w3 (w.heap.size+1) 3 1 A3 (n1+1) c3 ((o++[d.get (R : Int)]).map encN):=by rw [List.map_append];exact ho3
   clear hit3 ho3
   go_roundw
   case rel=>exact ⟨q+W,g,A3,n1+1,c3,o++[d.get (R : Int)],rfl,hit5,Ho3,by omega,by omega,HA,hb3⟩
   case measure=>rw [iterPos_of hit5,Hpos.out];omega
  ·have hnx : ∀ ty,(Instr.next (.pointer (some ⟨w.heap.size,0,none⟩)) true ty).run Tryz.prog wr = _:=fun ty=>Lib.run_next_end_at wr w.heap.size s q ty hit hp
   have HE:=Lib.hid (ofCAt_end HR.out hp)
   go_wp2
   go_ret
   exact ⟨A1,n1,c1,rfl,by rw [← HE.out];exact ho.more (by omega),hb⟩
end
section
open Go.RowKit Go.Maps
theorem vName_any (l : List UInt8) (w : World) (hs : l.length≤9223372036854775807) : Calls Tryz.prog 187 #[.string (bytesOf l)] w fun e w'=>e = .returned (.bool (nameL l))∧Below w.heap.size w w':=by
 have hsz : (bytesOf l).size = l.length:=bytesOf_size l
 go_enter Tryz.func187,Tryz.ntmps187
 go_wp2
 have hbw : Below w.heap.size w w:=Below.refl _ _
 go_loop [3] (fun i=>∃ k : Nat,i = .int .i64 k∧k≤l.length∧Hid (nameU (l.take k) = true)) (fun i=>l.length - (intOf i).toNat)
 case atStart=>exact ⟨0,rfl,by omega,rfl⟩
 case round =>
  obtain ⟨k,rfl,hk,Hm⟩:=hrel
  by_cases hlt : k < l.length
  ·have hkl : k < (bytesOf l).size:=by rw [hsz];exact hlt
   have hc:=index_at (bytesOf l) k k rfl hkl
   obtain ⟨c,hce⟩ : ∃ c,(bytesOf l)[k]'hkl = c:=⟨_,rfl⟩
   have Hc : Hid (l[k]? = some c):=Lib.hid (by have:=get_list hkl;rw [bytesOf_list,hce] at this;exact this)
   have hcc : (((bytesOf l)[k]'hkl).toNat : Int) = (c.toNat : Int):=by rw [hce]
   rw [hce] at hc
   clear hce
   have HN:=Lib.hid (nameU_next Hc.out Hm.out)
   have HE : Hid (nameU (l.take (k+1)) = false→nameL l = false):=Lib.hid (fun h=>by rw [nameL_eq,nameU_take h,Bool.false_and])
   have hc0 : 0≤(c.toNat : Int):=by omega
   have hc255 : (c.toNat : Int)≤255:=by have:=c.toNat_lt;omega
   have HLT : Hid ((65≤(c.toNat : Int)∧(c.toNat : Int)≤90)∨(97≤(c.toNat : Int)∧(c.toNat : Int)≤122)→letB c = true∧partB c = true):=Lib.hid (fun h=>⟨letB_t (by omega),partB_t (by omega)⟩)
   have HLF : Hid (¬ ((65≤(c.toNat : Int)∧(c.toNat : Int)≤90)∨(97≤(c.toNat : Int)∧(c.toNat : Int)≤122))→letB c = false):=Lib.hid (fun h=>letB_f (by omega))
   have HPT : Hid ((48≤(c.toNat : Int)∧(c.toNat : Int)≤57)∨(c.toNat : Int) = 95→partB c = true):=Lib.hid (fun h=>partB_t (by omega))
   have HPF : Hid (¬ ((65≤(c.toNat : Int)∧(c.toNat : Int)≤90)∨(97≤(c.toNat : Int)∧(c.toNat : Int)≤122)∨(48≤(c.toNat : Int)∧(c.toNat : Int)≤57)∨(c.toNat : Int) = 95)→partB c = false):=Lib.hid (fun h=>partB_f (by omega))
   generalize (c.toNat : Int) = z at hc hcc hc0 hc255 HLT HLF HPT HPF
   rcases Nat.eq_zero_or_pos k with rfl | h0
   ·rcases (by omega : (65≤z∧z≤90)∨(97≤z∧z≤122)∨(z < 65∨(90 < z∧z < 97)∨122 < z)) with ⟨hq,hq'⟩ | ⟨hq,hq'⟩ | hq
    iterate 2
     ·have HV : Hid (nameU (l.take (0+1)) = true):=Lib.hid (by rw [HN.out,if_pos rfl];exact (HLT.out (by omega)).1)
      clear HLT HLF HPT HPF HN HE
      try first | (have d65 : decide (65≤z) = true:=decide_eq_true (by omega)) | (have d65 : decide (65≤z) = false:=decide_eq_false (by omega))
      try first | (have d90 : decide (z≤90) = true:=decide_eq_true (by omega)) | (have d90 : decide (z≤90) = false:=decide_eq_false (by omega))
      try first | (have d97 : decide (97≤z) = true:=decide_eq_true (by omega)) | (have d97 : decide (97≤z) = false:=decide_eq_false (by omega))
      try first | (have d122 : decide (z≤122) = true:=decide_eq_true (by omega)) | (have d122 : decide (z≤122) = false:=decide_eq_false (by omega))
      try first | (have d48 : decide (z < 48) = true:=decide_eq_true (by omega)) | (have d48 : decide (z < 48) = false:=decide_eq_false (by omega))
      try first | (have d57 : decide (57 < z) = true:=decide_eq_true (by omega)) | (have d57 : decide (57 < z) = false:=decide_eq_false (by omega))
      try first | (have d95 : (z != 95) = true:=bne_iff_ne.2 (by omega)) | (have d95 : (z != 95) = false:=by rw [bne_eq_false_iff_eq];omega)
      go_wp2
      refine ⟨⟨0+1,by go_num,by omega,HV⟩,?_⟩
      simp [intOf];omega
    ·have HV : Hid (nameL l = false):=Lib.hid (HE.out (by rw [HN.out,if_pos rfl];exact HLF.out (by omega)))
     clear HLT HLF HPT HPF HN HE
     rcases hq with hq | ⟨hq,hq'⟩ | hq
     all_goals
      try first | (have d65 : decide (65≤z) = true:=decide_eq_true (by omega)) | (have d65 : decide (65≤z) = false:=decide_eq_false (by omega))
      try first | (have d90 : decide (z≤90) = true:=decide_eq_true (by omega)) | (have d90 : decide (z≤90) = false:=decide_eq_false (by omega))
      try first | (have d97 : decide (97≤z) = true:=decide_eq_true (by omega)) | (have d97 : decide (97≤z) = false:=decide_eq_false (by omega))
      try first | (have d122 : decide (z≤122) = true:=decide_eq_true (by omega)) | (have d122 : decide (z≤122) = false:=decide_eq_false (by omega))
      try first | (have d48 : decide (z < 48) = true:=decide_eq_true (by omega)) | (have d48 : decide (z < 48) = false:=decide_eq_false (by omega))
      try first | (have d57 : decide (57 < z) = true:=decide_eq_true (by omega)) | (have d57 : decide (57 < z) = false:=decide_eq_false (by omega))
      try first | (have d95 : (z != 95) = true:=bne_iff_ne.2 (by omega)) | (have d95 : (z != 95) = false:=by rw [bne_eq_false_iff_eq];omega)
      go_wp2
      go_ret
      exact ⟨by rw [HV.out];rfl,hbw⟩
   ·have hk0 : ((k : Int) == 0) = false:=beq_eq_false_iff_ne.2 (by omega)
    rcases (by omega : (65≤z∧z≤90)∨(97≤z∧z≤122)∨(48≤z∧z≤57)∨z = 95∨(z < 48∨(57 < z∧z < 65)∨(90 < z∧z < 95)∨z = 96∨122 < z)) with ⟨hq,hq'⟩ | ⟨hq,hq'⟩ | ⟨hq,hq'⟩ | hq | hq
    iterate 4
     ·have HV : Hid (nameU (l.take (k+1)) = true):=Lib.hid (by rw [HN.out,if_neg (by omega)];first | exact (HLT.out (by omega)).2 | exact HPT.out (by omega))
      clear HLT HLF HPT HPF HN HE
      try first | (have d65 : decide (65≤z) = true:=decide_eq_true (by omega)) | (have d65 : decide (65≤z) = false:=decide_eq_false (by omega))
      try first | (have d90 : decide (z≤90) = true:=decide_eq_true (by omega)) | (have d90 : decide (z≤90) = false:=decide_eq_false (by omega))
      try first | (have d97 : decide (97≤z) = true:=decide_eq_true (by omega)) | (have d97 : decide (97≤z) = false:=decide_eq_false (by omega))
      try first | (have d122 : decide (z≤122) = true:=decide_eq_true (by omega)) | (have d122 : decide (z≤122) = false:=decide_eq_false (by omega))
      try first | (have d48 : decide (z < 48) = true:=decide_eq_true (by omega)) | (have d48 : decide (z < 48) = false:=decide_eq_false (by omega))
      try first | (have d57 : decide (57 < z) = true:=decide_eq_true (by omega)) | (have d57 : decide (57 < z) = false:=decide_eq_false (by omega))
      try first | (have d95 : (z != 95) = true:=bne_iff_ne.2 (by omega)) | (have d95 : (z != 95) = false:=by rw [bne_eq_false_iff_eq];omega)
      go_wp2
      refine ⟨⟨k+1,by go_num,by omega,HV⟩,?_⟩
      simp [intOf];omega
    ·have HV : Hid (nameL l = false):=Lib.hid (HE.out (by rw [HN.out,if_neg (by omega)];exact HPF.out (by omega)))
     clear HLT HLF HPT HPF HN HE
     rcases hq with hq | ⟨hq,hq'⟩ | ⟨hq,hq'⟩ | hq | hq
     all_goals
      try first | (have d65 : decide (65≤z) = true:=decide_eq_true (by omega)) | (have d65 : decide (65≤z) = false:=decide_eq_false (by omega))
      try first | (have d90 : decide (z≤90) = true:=decide_eq_true (by omega)) | (have d90 : decide (z≤90) = false:=decide_eq_false (by omega))
      try first | (have d97 : decide (97≤z) = true:=decide_eq_true (by omega)) | (have d97 : decide (97≤z) = false:=decide_eq_false (by omega))
      try first | (have d122 : decide (z≤122) = true:=decide_eq_true (by omega)) | (have d122 : decide (z≤122) = false:=decide_eq_false (by omega))
      try first | (have d48 : decide (z < 48) = true:=decide_eq_true (by omega)) | (have d48 : decide (z < 48) = false:=decide_eq_false (by omega))
      try first | (have d57 : decide (57 < z) = true:=decide_eq_true (by omega)) | (have d57 : decide (57 < z) = false:=decide_eq_false (by omega))
      try first | (have d95 : (z != 95) = true:=bne_iff_ne.2 (by omega)) | (have d95 : (z != 95) = false:=by rw [bne_eq_false_iff_eq];omega)
      go_wp2
      go_ret
      exact ⟨by rw [HV.out];rfl,hbw⟩
  ·have HE : Hid (nameL l = decide (1≤l.length∧l.length≤32)):=Lib.hid (by rw [nameL_eq,show nameU l = true by have:=Hm.out;rwa [List.take_of_length_le (by omega)] at this,Bool.true_and])
   rcases (by omega : l.length = 0∨(1≤l.length∧l.length≤32)∨32 < l.length) with h | ⟨h,h'⟩ | h
   all_goals
    go_wp2
    go_ret
    exact ⟨ret_bool (by rw [HE.out];first | exact (decide_eq_false (by omega)).symm | exact (decide_eq_true (by omega)).symm | (rw [decide_eq_decide];omega)),hbw⟩
end
section
open Go.RowKit Go.Maps
theorem ret_pair {a b c d : Value} (h1 : a = c) (h2 : b = d) : Ending.returned (.tuple #[a,b]) = .returned (.tuple #[c,d]):=by rw [h1,h2]
theorem vcut_any (L : List UInt8) (w : World) (hL : L.length≤1000000) :
  Calls Tryz.prog 185 #[.string (bytesOf L)] w fun e w'=>e = .returned (.tuple #[.string (bytesOf (L.take (hashP L))),.int .i64 (fv (findP 59 (L.take (hashP L))))])∧Below w.heap.size w w':=by
 have HIS:=Lib.hid (cutD_is L)
 have hsz : (bytesOf L).size = L.length:=bytesOf_size L
 go_enter Tryz.func185,Tryz.ntmps185
 go_wp2
 go_loopw [4,5] (fun a v wr=>∃ (semi : Option Nat) (i : Nat),a = .int .i64 (fv semi)∧v = .int .i64 i∧i≤L.length∧Hid (CutAt L i semi)∧Below w.heap.size w wr) (fun _ v _=>L.length - (intOf v).toNat)
 case atStart=>exact ⟨none,0,rfl,rfl,by omega,cutAt_first L,Below.refl _ _⟩
 case round =>
  obtain ⟨semi,i,rfl,rfl,hi,HC,hb⟩:=hrel
  by_cases hlt : i < L.length
  ·have HQ:=Lib.hid (sQuoted_any (bytesOf L) i wr (by omega) (by omega))
   have hqq:=quoted_qt (bytesOf L) i (by omega)
   rw [bytesOf_list] at hqq
   have hp : i < (bytesOf L).size:=by omega
   have hix:=index_at (bytesOf L) i i rfl hp
   obtain ⟨x,hx⟩ : ∃ x,(bytesOf L)[i]'hp = x:=⟨_,rfl⟩
   have Hx : Hid (L[i]? = some x):=Lib.hid (by have:=get_list hp;rw [bytesOf_list,hx] at this;exact this)
   have hgi : (((bytesOf L)[i]'hp).toNat : Int) = (x.toNat : Int):=by rw [hx]
   rw [hx] at hix
   clear hx
   cases hq : qtL (L.drop i) with
   | some k =>
    rw [hq] at hqq
    obtain ⟨q1,q2⟩:=hqq
    have HC':=Lib.hid (cutAt_qt HC.out hq)
    have hik : i+k≤L.length:=HC'.out.1
    generalize quotedP (bytesOf L) i = Q at HQ q1 q2
    obtain ⟨r,wd,ok⟩:=Q
    simp only at q1 q2
    subst q1
    have hk3:=(qtL_some hq).1
    clear hq
    go_wp2_with (go_at_call 217;refine HQ.out.mono ?_;rintro e w2 ⟨rfl,hb2⟩)
    go_roundw
    case rel=>exact ⟨semi,i+k,rfl,by go_num,hik,HC',below_step hb hb2 hb.size⟩
    case measure=>simp [intOf];omega
   | none =>
    rw [hq] at hqq
    generalize quotedP (bytesOf L) i = Q at HQ hqq
    obtain ⟨r,wd,ok⟩:=Q
    simp only at hqq
    subst hqq
    have h35 : x = 35 ↔ (x.toNat : Int) = 35:=by have h1 : x = 35 ↔ x.toNat = 35:=u8_eq (n:=35) (by omega);rw [h1];omega
    have h59 : x = 59 ↔ (x.toNat : Int) = 59:=by have h1 : x = 59 ↔ x.toNat = 59:=u8_eq (n:=59) (by omega);rw [h1];omega
    have HH:=Lib.hid (fun h=>cutAt_hash HC.out Hx.out hq (h35.2 h))
    have HS:=Lib.hid (fun h hs=>cutAt_semi HC.out Hx.out hq (h59.2 h) hs)
    have HGo:=Lib.hid (fun (h : ¬ (x.toNat : Int) = 35) (hs : ¬ ((x.toNat : Int) = 59∧semi = none))=>cutAt_go HC.out Hx.out hq (fun k=>h (h35.1 k)) (fun k=>hs ⟨h59.1 k.1,k.2⟩))
    generalize (x.toNat : Int) = z at hix hgi HH HS HGo
    clear h35 h59 hq
    rcases (by omega : z = 35∨z = 59∨(z ≠ 35∧z ≠ 59)) with hz | hz | ⟨hz,hz'⟩
    ·have HE:=HH.out hz
     rw [HIS.out] at HE
     injection HE with HE1 HE2
     have HE1:=Lib.hid HE1
     have HE2:=Lib.hid HE2
     have hzz : (z == 35) = true:=by rw [hz];rfl
     clear hz HH HS HGo
     go_wp2_with (go_at_call 217;refine HQ.out.mono ?_;rintro e w2 ⟨rfl,hb2⟩)
     go_ret2
     have h1:=ext_bytes0 L i
     rw [← HE1.out] at h1
     exact ⟨ret_pair (congrArg Value.string (by first | exact h1 | (rw [HE1.out] at h1 ⊢;exact h1) | rfl)) (congrArg (Value.int .i64) (by rw [HE2.out])),below_step hb hb2 hb.size⟩
    ·have hzz : (z == 35) = false:=by rw [hz];rfl
     have hzy : (z == 59) = true:=by rw [hz];rfl
     cases semi with
     | none =>
      have HC':=Lib.hid (HS.out hz rfl)
      have hfn : decide (fv none < 0) = true:=rfl
      clear hz HH HS HGo
      go_wp2_with (go_at_call 217;refine HQ.out.mono ?_;rintro e w2 ⟨rfl,hb2⟩)
      go_roundw
      case rel=>exact ⟨some i,i+1,rfl,by go_num,by omega,HC',below_step hb hb2 hb.size⟩
      case measure=>simp [intOf];omega
     | some k =>
      have HC':=Lib.hid (HGo.out (by omega) (fun h=>by cases h.2))
      have hfn : decide (fv (some k) < 0) = false:=decide_eq_false (by simp only [fv];omega)
      clear hz HH HS HGo
      go_wp2_with (go_at_call 217;refine HQ.out.mono ?_;rintro e w2 ⟨rfl,hb2⟩)
      go_roundw
      case rel=>exact ⟨some k,i+1,rfl,by go_num,by omega,HC',below_step hb hb2 hb.size⟩
      case measure=>simp [intOf];omega
    ·have hzz : (z == 35) = false:=beq_eq_false_iff_ne.2 hz
     have hzy : (z == 59) = false:=beq_eq_false_iff_ne.2 hz'
     have HC':=Lib.hid (HGo.out hz (fun h=>hz' h.1))
     clear hz hz' HH HS HGo
     go_wp2_with (go_at_call 217;refine HQ.out.mono ?_;rintro e w2 ⟨rfl,hb2⟩)
     go_roundw
     case rel=>exact ⟨semi,i+1,rfl,by go_num,by omega,HC',below_step hb hb2 hb.size⟩
     case measure=>simp [intOf];omega
  ·have HE:=cutAt_end HC.out hlt
   rw [HIS.out] at HE
   injection HE with HE1 HE2
   have HE1:=Lib.hid HE1
   have HE2:=Lib.hid HE2
   go_wp2
   go_ret2
   exact ⟨ret_pair (congrArg Value.string (by rw [HE1.out,List.take_length];try rfl)) (by rw [HE2.out];try rfl),hb⟩
end
section
open Go.RowKit Go.Maps
def hitR (x y : Int × Int) : Bool:=decide (x.1≤y.2) && decide (y.1≤x.2)
theorem meetB_any (a b : List (Int × Int)) : meetB a b = a.any fun x=>b.any fun y=>hitR x y:=rfl
theorem any_next {α : Type} {l : List α} {i : Nat} {x : α} {f : α→Bool} (h : (l.take i).any f = false) (hx : l[i]? = some x) (hf : f x = false) : (l.take (i+1)).any f = false:=by
 rw [List.take_add_one,hx];simp [List.any_append,h,hf]
theorem any_hit {α : Type} {l : List α} {i : Nat} {x : α} {f : α→Bool} (hx : l[i]? = some x) (hf : f x = true) : l.any f = true:=List.any_eq_true.2 ⟨x,List.mem_of_getElem? hx,hf⟩
theorem any_all {α : Type} {l : List α} {i : Nat} {f : α→Bool} (h : (l.take i).any f = false) (hi : ¬ i < l.length) : l.any f = false:=by rwa [List.take_of_length_le (by omega)] at h
theorem vmeet_any (A B : Option Addr) (n c m e : Nat) (l q : List (Int × Int)) (w : World) (hA : Rd w 2 A (l.map encR)) (hB : Rd w 2 B (q.map encR)) (hl : l.length = n) (hq : q.length = m) (hn : n≤4000000) (hm : m≤4000000) :
  Calls Tryz.prog 191 #[.slice A n c,.slice B m e] w fun e w'=>e = .returned (.bool (meetB l q))∧∃ k,w' = w.drewN k:=by
 have Hl:=Lib.hid hl
 have Hq:=Lib.hid hq
 have HMB:=Lib.hid (meetB_any l q)
 go_enter Tryz.func191,Tryz.ntmps191
 go_wp2
 go_loopw [5] (fun v wr=>∃ i k : Nat,v = .int .i64 i∧i≤n∧Hid ((l.take i).any (fun x=>q.any fun y=>hitR x y) = false)∧wr = w.drewN k) (fun v _=>n - (intOf v).toNat)
 case atStart=>exact ⟨0,0,rfl,by omega,by simp [Hid],rfl⟩
 case round =>
  obtain ⟨i,k,rfl,hi,HI,rfl⟩:=hrel
  by_cases hlt : i < n
  ·obtain ⟨bA,oA,x1,x2,rfl,Hx,hx1,hx2⟩:=hA.atR (k:=i) (by have:=Hl.out;omega)
   have hdi : decide (i < n) = true:=decide_eq_true hlt
   go_wp2_with fail
   go_loopw [6] (fun v wr=>∃ j k2 : Nat,v = .int .i64 j∧j≤m∧Hid ((q.take j).any (fun y=>hitR (x1,x2) y) = false)∧wr = w.drewN k2) (fun v _=>m - (intOf v).toNat)
   case atStart=>exact ⟨0,k,rfl,by omega,by simp [Hid],rfl⟩
   case round =>
    obtain ⟨j,k2,rfl,hj,HJ,rfl⟩:=hrel
    by_cases hltj : j < m
    ·obtain ⟨bB,oB,y1,y2,rfl,Hy,hy1,hy2⟩:=hB.atR (k:=j) (by have:=Hq.out;omega)
     rcases (by omega : ¬ x1≤y2∨(x1≤y2∧¬ y1≤x2)∨(x1≤y2∧y1≤x2)) with h1 | ⟨h1,h2⟩ | ⟨h1,h2⟩
     ·have HJ':=Lib.hid (any_next HJ.out Hy.out (show hitR (x1,x2) (y1,y2) = false by simp [hitR,h1]))
      have hd1 : decide (x1≤y2) = false:=decide_eq_false h1
      go_wp2_with fail
      go_quiet (fail)
      go_wp2
      go_roundw
      case rel=>exact ⟨j+1,_,by go_num,by omega,HJ',by first | rfl | exact World.drewN_drewN _ _ _⟩
      case measure=>simp [intOf];omega
     ·have HJ':=Lib.hid (any_next HJ.out Hy.out (show hitR (x1,x2) (y1,y2) = false by simp [hitR,h2]))
      have hd1 : decide (x1≤y2) = true:=decide_eq_true h1
      have hd2 : decide (y1≤x2) = false:=decide_eq_false h2
      go_wp2_with fail
      go_quiet (fail)
      go_wp2
      go_roundw
      case rel=>exact ⟨j+1,_,by go_num,by omega,HJ',by first | rfl | exact World.drewN_drewN _ _ _⟩
      case measure=>simp [intOf];omega
     ·have HE : Hid (meetB l q = true):=Lib.hid (by rw [HMB.out];exact any_hit Hx.out (any_hit Hy.out (show hitR (x1,x2) (y1,y2) = true by simp [hitR,h1,h2])))
      have hd1 : decide (x1≤y2) = true:=decide_eq_true h1
      have hd2 : decide (y1≤x2) = true:=decide_eq_true h2
      go_wp2_with fail
      go_quiet (fail)
      go_wp2
      go_ret
      exact ⟨by rw [HE.out];rfl,_,by first | rfl | exact World.drewN_drewN _ _ _⟩
    ·have HI':=Lib.hid (any_next HI.out Hx.out (any_all HJ.out (show ¬ j < q.length by have:=Hq.out;omega)))
     go_wp2
     go_roundw
     case rel=>exact ⟨i+1,k2,by go_num,by omega,HI',rfl⟩
     case measure=>simp [intOf];omega
  ·have HE : Hid (meetB l q = false):=Lib.hid (by rw [HMB.out];exact any_all HI.out (show ¬ i < l.length by have:=Hl.out;omega))
   go_wp2
   go_ret
   exact ⟨by rw [HE.out];rfl,k,rfl⟩
end
section
end
end Go.Proofs.YtlfpdpbbkjnapaaGreatDoor
/- -/
namespace Go.Proofs.YtlfpdpbbkjnapaaGreatDoor
set_option maxRecDepth 100000
set_option maxHeartbeats 40000000
section
inductive El where
 | one (cs : List Nat)
 | many (cs : List Nat)
 | may (cs : List Nat)
def eat : List El→List Nat→Bool
 | [],_=>true
 | .one _ :: _,[]=>false
 | .one cs :: es,x :: r=>cs.contains x && eat es r
 | .many cs :: es,r=>eat es (r.dropWhile fun x=>cs.contains x)
 | .may _ :: es,[]=>eat es []
 | .may cs :: es,x :: r=>if cs.contains x then eat es r else eat es (x :: r)
structure RB where
 cut : Bool
 f : List Nat→Bool
 g : List Nat→Bool
end
section
end
end Go.Proofs.YtlfpdpbbkjnapaaGreatDoor
/- -/
namespace Go.Proofs.YtlfpdpbbkjnapaaGreatDoor
set_option maxRecDepth 100000
set_option maxHeartbeats 40000000
section
def tests : List RB:=[
 ⟨false,eat [.one [1]],eat [.one [2]]⟩,
 ⟨true,eat [.one [1,2,3]],eat []⟩,
 ⟨false,eat [],eat [.one [13]]⟩,
 ⟨false,eat [.many [13],.one [9]],eat [.one [8]]⟩,
 ⟨false,eat [.many [13],.one [9],.many [13],.one [6,5]],eat [.one [6]]⟩,
 ⟨false,eat [.many [4,13],.many [11,13],.one [9]],eat [.many [0,4,8,11,12,13],.one [5]]⟩,
 ⟨false,eat [.many [4,13],.many [11,13],.one [9,10]],eat [.one [12,9,10]]⟩,
 ⟨false,eat [.many [11,13],.one [9,10]],eat [.one [11,4,3,1,2]]⟩,
 ⟨false,eat [.many [4,13],.many [11,13],.one [9,10]],eat [.one [4,3,1,2]]⟩,
 ⟨true,eat [.many [4,13],.many [11,13],.one [9,10]],eat []⟩]
end
end Go.Proofs.YtlfpdpbbkjnapaaGreatDoor
