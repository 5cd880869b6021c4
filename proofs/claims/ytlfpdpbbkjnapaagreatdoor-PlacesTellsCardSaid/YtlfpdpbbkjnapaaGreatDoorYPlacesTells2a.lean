/-
 Several texts in one,in their build order: PrB,PrC,PrD,PrE,PrG,PrJ.
-/
import Derived.Deep.CutRange
import Derived.OwnWalk
import Derived.Deep.DeepCutAuto
import Derived.Test.YtlfpdpbbkjnapaaGreatDoorYPlacesTellsPrA
import Derived.Test.YtlfpdpbbkjnapaaGreatDoorYPlacesTells0b
import Derived.Test.YtlfpdpbbkjnapaaGreatDoorYPlacesTells1a
/- -/
namespace Go.Proofs.YtlfpdpbbkjnapaaGreatDoor
set_option maxRecDepth 100000
set_option maxHeartbeats 40000000
section
open Go.RowKit
theorem run_split {s : ByteArray} {a x : Nat} {q : UInt8→Bool} (hax : a≤x) (hx : x≤s.size) (h : (s.data.toList.drop a).takeWhile q = (s.data.toList.drop a).take (x - a)++(s.data.toList.drop x).takeWhile q) (hd : (s.data.toList.drop a).dropWhile q = (s.data.toList.drop x).dropWhile q)
  (hstop : ∀ b,(s.data.toList.drop x).head? = some b→q b = false) : (s.data.toList.drop a).takeWhile q = (s.extract a x).data.toList∧(s.data.toList.drop a).dropWhile q = s.data.toList.drop x∧((s.data.toList.drop a).takeWhile q).length = x - a:=by
 have e0 : (s.data.toList.drop x).takeWhile q = []:=by
  cases hl : s.data.toList.drop x with
  | nil=>rfl
  | cons b l=>rw [List.takeWhile_cons,if_neg (by rw [hstop b (by rw [hl];rfl)];simp)]
 have e1 : (s.data.toList.drop x).dropWhile q = s.data.toList.drop x:=by
  cases hl : s.data.toList.drop x with
  | nil=>rfl
  | cons b l=>rw [List.dropWhile_cons,if_neg (by rw [hstop b (by rw [hl];rfl)];simp)]
 have e2 : (s.extract a x).data.toList = (s.data.toList.drop a).take (x - a):=by
  rw [ByteArray.data_extract,Array.toList_extract,List.extract_eq_take_drop]
 rw [e0,List.append_nil] at h
 refine ⟨by rw [h,e2],by rw [hd,e1],?_⟩
 rw [h,List.length_take,List.length_drop,size_data]
 omega
theorem take_step (s : ByteArray) {a x : Nat} {b : UInt8} (hax : a≤x) (hd : s.data.toList.drop x = b :: s.data.toList.drop (x+1)) : (s.data.toList.drop a).take (x+1 - a) = (s.data.toList.drop a).take (x - a)++[b]:=by
 have h1 : (s.data.toList.drop a)[x - a]? = some b:=by
  rw [List.getElem?_drop,show a+(x - a) = x by omega]
  have:=congrArg List.head? hd
  rw [List.head?_drop] at this
  exact this
 rw [show x+1 - a = x - a+1 by omega,List.take_add_one,h1];rfl
theorem jname_any (p : Nat) (s : ByteArray) (A : Option Addr) (nn cn : Nat) (names : List (List UInt8)) (a d k i0 : Nat) (rest : List UInt8) (w : World) (h : RS w p s A nn cn names a d k) (ha : a≤s.size) (hs : s.size≤1000000) (hnz : nn≤1000000) (hP : pName names (s.data.toList.drop a) = some (i0,rest)) :
  Calls Tryz.prog 307 #[.pointer (some ⟨p,0,none⟩)] w fun e w'=>e = .returned (.int .i64 (i0 : Nat))∧∃ x,RS w' p s A nn cn names x d k∧s.data.toList.drop x = rest∧x≤s.size∧w.grownBy w' (some p):=by
 have HP:=Lib.hid hP
 have c0:=h.c0
 have c1:=h.c1
 clear hP
 go_enter Tryz.func307,Tryz.ntmps307
 go_wp2_with fail
 go_loopw [10] (fun _ wr=>∃ x : Nat,RS wr p s A nn cn names x d k∧a≤x∧x≤s.size∧Hid ((s.data.toList.drop a).takeWhile pPart = (s.data.toList.drop a).take (x - a)++(s.data.toList.drop x).takeWhile pPart)∧Hid ((s.data.toList.drop a).dropWhile pPart = (s.data.toList.drop x).dropWhile pPart)∧w.grownBy wr (some p)) (fun _ wr=>s.size - atOf wr p)
 case atStart=>exact ⟨a,h,by omega,ha,Lib.hid (by rw [Nat.sub_self];rfl),Lib.hid rfl,only_refl _ _⟩
 case round =>
  clear h c0 c1
  obtain ⟨x,hr,hax,hx,HT,HD,hg⟩:=hrel
  have c0:=hr.c0
  have c1:=hr.c1
  have c2:=hr.c2
  have f1:=hr.f 1
  have Hat:=Lib.hid hr.atOf
  by_cases hlt : x < s.size∧∃ b,(s.data.toList.drop x).head? = some b∧pPart b = true
  ·obtain ⟨hlt,b',hb',hpb⟩:=hlt
   obtain ⟨b,hd,hidx⟩:=byte_at s hlt
   replace hpb : pPart b = true:=by
    rw [hd] at hb'
    injection hb' with hb'
    rw [hb']
    exact hpb
   have HJ:=Lib.hid (fun q=>jpart_b b (wr.drewN q))
   rw [hpb] at HJ
   have HT2:=Lib.hid (show (s.data.toList.drop a).takeWhile pPart = (s.data.toList.drop a).take (x+1 - a)++(s.data.toList.drop (x+1)).takeWhile pPart by
    rw [HT.out,hd,List.takeWhile_cons,if_pos hpb,take_step s hax hd,List.append_assoc];rfl)
   have HD2:=Lib.hid (show (s.data.toList.drop a).dropWhile pPart = (s.data.toList.drop (x+1)).dropWhile pPart by
    rw [HD.out,hd,List.dropWhile_cons,if_pos hpb])
   clear hd hb'
   go_wp2_with fail
   go_quiet ((go_at_call 207;exact quiet_left (HJ.out _)))
   go_wp2
   have hr2:=(hr.drewN nq).setAt (x+1)
   have ez : ((x+1 : Nat) : Int) = (x : Int)+1:=by omega
   rw [ez] at hr2
   refine ⟨⟨x+1,hr2,by omega,by omega,HT2,HD2,only_setCell (only_drewN hg _) (.inl rfl) _⟩,?_⟩
   rw [hr2.atOf,Hat.out];omega
  ·have hstop : ∀ b,(s.data.toList.drop x).head? = some b→pPart b = false:=fun b hb=>by
    by_cases h1 : x < s.size
    ·cases hq : pPart b with
     | false=>rfl
     | true=>exact absurd ⟨h1,b,hb,hq⟩ hlt
    ·rw [drop_end s h1] at hb;cases hb
   obtain ⟨k1,k2,k3⟩:=run_split hax hx HT.out HD.out hstop
   obtain ⟨sub,hsub⟩ : ∃ sub,s.extract a x = sub:=⟨_,rfl⟩
   rw [hsub] at k1
   have HPn : Hid (x - a≤32∧names.findIdx? (fun y=>y == sub.data.toList) = some i0∧rest = s.data.toList.drop x):=Lib.hid (by
    have h1:=HP.out
    unfold pName at h1
    rw [k3,k1,k2] at h1
    split at h1
    ·cases h1
    ·rename_i h32
     split at h1
     ·cases h1
     ·rename_i j hj
      injection h1 with h1
      injection h1 with h1 h2
      exact ⟨by omega,by rw [hj,h1],h2.symm⟩)
   have HSz:=Lib.hid (show sub.size = x - a by rw [← hsub,ByteArray.size_extract];omega)
   have HQ : Hid ((¬ x < s.size)∨(∃ (hlt : x < s.size) (b : UInt8),s.data.toList.drop x = b :: s.data.toList.drop (x+1)∧(∀ W,(Instr.index 9 (.string s) (.int .i64 (x : Nat))).run Tryz.prog W = .ok (.int .u8 (b.toNat : Int)) W)∧pPart b = false)):=Lib.hid (by
    by_cases h1 : x < s.size
    ·obtain ⟨b,hb1,hb2⟩:=byte_at s h1
     exact .inr ⟨h1,b,hb1,hb2,hstop b (by rw [hb1];rfl)⟩
    ·exact .inl h1)
   clear hlt hstop k1 k2 k3 HP HT HD
   have hax' : (a : Int)≤(x : Int):=by omega
   have hxs' : (x : Int)≤(s.size : Int):=by omega
   have hxa0 : ¬ x < a:=by omega
   go_upto_region 2 with fail
   go_cut [31] from 10 to 30 (fun v wx=>v = .bool false∧∃ q,wx = wr.drewN q)
   case first =>
    rcases HQ.out with h1 | ⟨h1,b,hb1,hidx,hpb⟩
    ·go_quiet (fail)
     go_wp2_with fail
     go_meet
     exact ⟨rfl,nq,rfl⟩
    ·have HJ:=Lib.hid (fun q=>jpart_b b (wr.drewN q))
     rw [hpb] at HJ
     go_quiet ((go_at_call 207;exact quiet_left (HJ.out _)))
     go_wp2_with fail
     go_meet
     exact ⟨rfl,nq,rfl⟩
   case rest =>
    obtain ⟨rfl,q,rfl⟩:=hcut
    have hr2:=hr.drewN q
    have hg2:=only_drewN hg q
    have d0:=hr2.c0
    have d1:=hr2.c1
    have d2:=hr2.c2
    clear hr hg c0 c1 c2 f1 HQ
    generalize wr.drewN q = w3 at hr2 hg2 d0 d1 d2 ⊢
    go_wp2_with fail
    go_quiet (fail)
    have hsz32 : ¬ (32 : Int) < (sub.size : Int):=by have:=HSz.out;have:=HPn.out.1;omega
    have hr3:=hr2.drewN nq
    have hg3:=only_drewN hg2 nq
    have x0:=hr3.c0
    have x2:=hr3.c2
    clear hr2 hg2 d0 d1 d2 hsub
    generalize w3.drewN nq = w4 at hr3 hg3 x0 x2 ⊢
    have Hl:=Lib.hid hr3.len
    have hrd:=hr3.nm
    go_wp2_with fail
    go_loopw [5] (fun v wq=>∃ i : Nat,v = .int .i64 i∧i≤i0∧wq = w4) (fun v _=>nn - (intOf v).toNat)
    case atStart=>exact ⟨0,rfl,by omega,rfl⟩
    case round =>
     obtain ⟨i,rfl,hi,rfl⟩:=hrel
     have HF:=Lib.hid (List.findIdx?_eq_some_iff_getElem.1 HPn.out.2.1)
     have hi0n : i0 < nn:=by
      obtain ⟨h1,_⟩:=HF.out
      have:=Hl.out
      omega
     have hin : i < nn:=by omega
     obtain ⟨y,Hy⟩ : ∃ y,Hid (names[i]? = some y):=⟨_,Lib.hid (List.getElem?_eq_getElem (show i < names.length by have:=Hl.out;omega))⟩
     obtain ⟨b,off,rfl,hc⟩:=hrd.atS Hy.out
     by_cases hlt : i < i0
     ·have hyn : y ≠ sub.data.toList:=fun e=>by
       obtain ⟨h1,h2,h3⟩:=HF.out
       have h4:=h3 i hlt
       obtain ⟨h5,h6⟩:=List.getElem?_eq_some_iff.1 Hy.out
       rw [h6,e] at h4
       simp at h4
      have e1 : ((bytesOf y).toList == sub.toList) = false:=by rw [ByteArray.toList_eq,ByteArray.toList_eq,bytesOf_list];exact beq_eq_false_iff_ne.2 hyn
      have e3 : decide (bytesOf y = sub) = false:=decide_eq_false (fun k=>hyn (by rw [← k,bytesOf_list]))
      clear hyn
      go_wp2
      go_roundw
      case rel=>exact ⟨i+1,by go_num,by omega,by first | rfl | trivial⟩
      case measure=>simp [intOf];omega
     ·obtain rfl : i = i0:=by omega
      have hyn : bytesOf y = sub:=by
       obtain ⟨h1,h2,h3⟩:=HF.out
       obtain ⟨h5,h6⟩:=List.getElem?_eq_some_iff.1 Hy.out
       rw [h6] at h2
       have h7 : y = sub.data.toList:=by simpa using h2
       rw [h7,bytesOf_data]
      have e1 : ((bytesOf y).toList == sub.toList) = true:=by rw [hyn];simp
      have e3 : decide (bytesOf y = sub) = true:=decide_eq_true hyn
      clear hyn hlt
      go_wp2
      go_ret
      exact ⟨rfl,x,hr3,HPn.out.2.2.symm,hx,hg3⟩
end
section
open Go.RowKit
def PCell (w : World) (b : Nat) (v : Pv) : Prop:=w.cell? ⟨b,0,none⟩ = some (.int .i64 (v.1 : Int))∧w.cell? ⟨b,1,none⟩ = some (.slice v.2.1.1 v.2.1.2.1 v.2.1.2.2)∧w.cell? ⟨b,2,none⟩ = some (.slice v.2.2.1 v.2.2.2.1 v.2.2.2.2)
theorem PCell.of_blk {w : World} {b : Nat} {v : Pv} (h : Blk w b 221 #[.int .i64 (v.1 : Int),.slice v.2.1.1 v.2.1.2.1 v.2.1.2.2,.slice v.2.2.1 v.2.2.2.1 v.2.2.2.2]) : PCell w b v:=⟨h.cell 0,h.cell 1,h.cell 2⟩
theorem res_one (w : World) (b : Nat) (v : Pv) (tmps : Array Value) (ht : tmps.getD 2 undef = .pointer (some ⟨b,0,none⟩)) (hc : PCell w b v) : (results Tryz.f306 tmps).run Tryz.prog w = .ok (valPt v) w:=by
 have ht' : tmps[2]?.getD undef = .pointer (some ⟨b,0,none⟩):=by simpa [Array.getD_eq_getD_getElem?] using ht
 obtain ⟨h0,h1,h2⟩:=hc
 simp [results,Tryz.results306,go_sem,ht',h0,h1,h2,valPt]
theorem jone_any (c : Nat) (w : World) : Calls Tryz.prog 306 #[.int .i64 (c : Nat)] w fun e w'=>∃ v,e = .returned (valPt v)∧PatX w' (fun b=>w.heap.size≤b) (.node 1 [c] []) v∧Below w.heap.size w w':=by
 go_enter Tryz.func306,Tryz.ntmps306
 go_wp2
 have hbl : Blk ((w.alloc (.cells #[.int .i64 1,.slice (some ⟨w.heap.size+1,0,none⟩) 1 1,.slice none 0 0] 221)).alloc (.cells #[.int .i64 (c : Int)] 3)) w.heap.size 221 #[.int .i64 1,.slice (some ⟨w.heap.size+1,0,none⟩) 1 1,.slice none 0 0]:=(Blk.new _ _ _).alloc _
 refine bodyPost_ret (res_one _ w.heap.size (1,(some ⟨w.heap.size+1,0,none⟩,1,1),(none,0,0)) _ rfl (PCell.of_blk hbl)) rfl ?_
 refine ⟨_,rfl,?_,?_⟩
 ·simp only [PatX]
  refine ⟨trivial,⟨Rd.newAt (x:=encN c) (by simp) rfl,rfl,fun a ha=>?_,Nat.le_refl _⟩,[],SlX.nil_ _ _ _,by simp only [PatsX]⟩
  injection ha with ha
  subst ha
  simp
 ·exact ((Below.refl _ _).alloc (Nat.le_refl _) _).alloc (by simp) _
def pickB (M : List Bool) (no : Bool) (i : Nat) : List Nat:=(List.range i).filter fun j=>M.getD j false != no
theorem pickB_next (M : List Bool) (no : Bool) (i : Nat) : pickB M no (i+1) = pickB M no i++(if M.getD i false != no then [i] else []):=by
 unfold pickB
 rw [List.range_succ,List.filter_append]
 congr 1
 cases h : (M.getD i false != no) with
 | true=>rw [List.filter_cons_of_pos (p:=fun j=>M.getD j false != no) h];rfl
 | false=>rw [List.filter_cons_of_neg (p:=fun j=>M.getD j false != no) (by rw [h];decide)];rfl
def encBo (x : Bool) : List Value:=[.bool x]
theorem Rd.atBo {w : World} {A : Option Addr} {l : List Bool} {k : Nat} {x : Bool} (h : Rd w 1 A (l.map encBo)) (hk : l[k]? = some x) : ∃ b off,A = some ⟨b,off,none⟩∧w.cell? ⟨b,off+k,none⟩ = some (.bool x):=by
 obtain ⟨b,off,rfl,hc⟩:=h (by intro e;cases l with | nil=>simp at hk | cons _ _=>simp at e)
 have h0:=hc k 0 (encBo x) (.bool x) (by simp [hk]) rfl
 exact ⟨b,off,rfl,by simpa using h0⟩
theorem res_from (w : World) (b : Nat) (v : Pv) (tmps : Array Value) (ht : tmps.getD 6 undef = .pointer (some ⟨b,0,none⟩)) (hc : PCell w b v) : (results Tryz.f305 tmps).run Tryz.prog w = .ok (valPt v) w:=by
 have ht' : tmps[6]?.getD undef = .pointer (some ⟨b,0,none⟩):=by simpa [Array.getD_eq_getD_getElem?] using ht
 obtain ⟨h0,h1,h2⟩:=hc
 simp [results,Tryz.results305,go_sem,ht',h0,h1,h2,valPt]
theorem jfrom_any (n : Nat) (A : Option Addr) (m c : Nat) (M : List Bool) (no : Bool) (w : World) (hA : Rd w 1 A (M.map encBo)) (hm : M.length = n) (hmm : m = n) (hn : n≤1000000) :
  Calls Tryz.prog 305 #[.int .i64 (n : Nat),.slice A m c,.bool no] w fun e w'=>∃ v,e = .returned (valPt v)∧PatX w' (fun b=>w.heap.size≤b) (.node 1 (pickB M no n) []) v∧Below w.heap.size w w':=by
 obtain ⟨i0,hi0,hz0,hz1,hz2⟩:=info_parts infoInt
 subst hmm
 have Hm:=Lib.hid hm
 clear hm
 go_enter Tryz.func305,Tryz.ntmps305
 go_wp2
 have hS1 : Blk ((w.alloc (.cells #[.int .i64 0,.slice none 0 0,.slice none 0 0] 221)).alloc (.cells #[.int .i64 1,.slice none 0 0,.slice none 0 0] 221)) (w.heap.size+1) 221 #[.int .i64 1,.slice none 0 0,.slice none 0 0]:=by
  have h:=Blk.new (w.alloc (.cells #[.int .i64 0,.slice none 0 0,.slice none 0 0] 221)) 221 #[.int .i64 1,.slice none 0 0,.slice none 0 0]
  simpa using h
 have hS0 : Blk ((w.alloc (.cells #[.int .i64 0,.slice none 0 0,.slice none 0 0] 221)).alloc (.cells #[.int .i64 1,.slice none 0 0,.slice none 0 0] 221)) w.heap.size 221 #[.int .i64 0,.slice none 0 0,.slice none 0 0]:=(Blk.new w _ _).alloc _
 go_loopw [8] (fun v wr=>∃ (k : Nat) (A1 : Option Addr) (n1 c1 : Nat),v = .int .i64 k∧k≤m∧n1≤k∧Own wr (w.heap.size+2) 3 1 A1 n1 c1 ((pickB M no k).map encN)∧Blk wr (w.heap.size+1) 221 #[.int .i64 1,.slice A1 n1 c1,.slice none 0 0]∧Blk wr w.heap.size 221 #[.int .i64 0,.slice none 0 0,.slice none 0 0]∧Below w.heap.size w wr) (fun v _=>m - (intOf v).toNat)
 case atStart=>exact ⟨0,none,0,0,rfl,by omega,by omega,Own.nil_ _ _ _ _,hS1,hS0,((Below.refl _ _).alloc (Nat.le_refl _) _).alloc (by simp) _⟩
 case round =>
  obtain ⟨k,A1,n1,c1,rfl,hk,hnk,ho,hB1,hB0,hb⟩:=hrel
  by_cases hlt : k < m
  ·obtain ⟨x,hx⟩ : ∃ x,M[k]? = some x:=⟨_,List.getElem?_eq_getElem (by have:=Hm.out;omega)⟩
   obtain ⟨bk,off,rfl,cM⟩:=(hA.below hb).atBo hx
   have hpn:=pickB_next M no k
   have hgd : M.getD k false = x:=by rw [List.getD_eq_getElem?_getD,hx];rfl
   have hzr:=hB1.lt
   have p1:=hB1.cell 1
   simp only [zG,zI,zH] at p1
   cases hq : (x != no) with
   | true =>
    rw [hgd,hq,if_pos rfl] at hpn
    have hq2 : (x == no) = false:=by cases x <;> cases no <;> first | rfl | cases hq
    have Hpn:=Lib.hid hpn
    clear hpn hgd
    have T1:=(ho.alloc (.cells #[.int .i64 (k : Int)] 3))
    have T2 : (n1+1)*8≤140737488355328:=by omega
    have T3 : w.heap.size+2≤(wr.alloc (.cells #[.int .i64 (k : Int)] 3)).heap.size:=by simp;omega
    have T4:=encN_ok' [k]
    have T5 : Rd (wr.alloc (.cells #[.int .i64 (k : Int)] 3)) 1 (some ⟨wr.heap.size,0,none⟩) [encN k]:=Rd.newAt (by simp) rfl
    have T6 : n1+1≤maxLen:=by unfold maxLen;omega
    have hNE : some (w.heap.size+1) ≠ A1.map (·.block):=fun e=>by
     cases hA1 : A1 with
     | none=>rw [hA1] at e;cases e
     | some a=>rw [hA1] at e;injection e with e;have e2 : w.heap.size+1 = a.block:=e;have:=(ho.lt a hA1).1;omega
    go_wp2_with (at_builtin;refine wpList_app rfl (.tmp 22) (.tmp 24) _ rfl (w.heap.size+2) 3 i0 _ 1 8 Tryz.underlying65 hi0 hz0 hz1 hz2 rfl (by omega) A1 n1 c1 ((pickB M no k).map encN) rfl T1 _ 1 1 [encN k] rfl rfl T5 T4 T6 T2 T3 ?_;intro A3 c3 w5 ho5 hg5 hA5;have hB5:=(hB1.alloc (.cells #[.int .i64 (k : Int)] 3)).grown hg5 hNE;have d1:=hB5.cell 1;simp only [zG,zI,zH] at d1;have f1:=hB5.frozen 1)
    have hB50:=(hB0.alloc (.cells #[.int .i64 (k : Int)] 3)).grown hg5 (fun e=>by
     cases hA1 : A1 with
     | none=>rw [hA1] at e;cases e
     | some a=>rw [hA1] at e;injection e with e;have e2 : w.heap.size = a.block:=e;have:=(ho.lt a hA1).1;omega)
    have hb5:=below_app (hb.alloc (by omega) (.cells #[.int .i64 (k : Int)] 3)) hg5 (by simp;omega) (fun a ha=>by have:=(ho.lt a ha).1;omega)
    refine ⟨⟨k+1,A3,n1+1,c3,by go_num,by omega,by omega,by rw [Hpn.out,List.map_append];exact ho5.setCell (p:=⟨w.heap.size+1,1,none⟩) (fun a ha=>by have:=(ho5.lt a ha).1;simp;omega) _,by simpa using hB5.set_ 1 (.slice A3 (n1+1) c3),hB50.far (p:=⟨w.heap.size+1,1,none⟩) (by simp) _,hb5.setCell (p:=⟨w.heap.size+1,1,none⟩) (by simp) _⟩,?_⟩
    simp [intOf];omega
   | false =>
    rw [hgd,hq,if_neg (by decide),List.append_nil] at hpn
    have hq2 : (x == no) = true:=by cases x <;> cases no <;> first | rfl | cases hq
    have Hpn:=Lib.hid hpn
    clear hpn hgd
    go_wp2
    refine ⟨⟨k+1,A1,n1,c1,by go_num,by omega,by omega,by rw [Hpn.out];exact ho,hB1,hB0,hb⟩,?_⟩
    simp [intOf];omega
  ·have hkm : k = m:=by omega
   subst hkm
   have p0:=hB1.cell 0
   have p1:=hB1.cell 1
   have p2:=hB1.cell 2
   have z0:=hB0.cell 0
   have z1:=hB0.cell 1
   have z2:=hB0.cell 2
   simp only [zG,zI,zH] at p0 p1 p2 z0 z1 z2
   have g0:=hB0.frozen 0
   have g1:=hB0.frozen 1
   have g2:=hB0.frozen 2
   go_wp2
   have hf:=((hB0.set_ 0 (.int .i64 1)).set_ 1 (.slice A1 n1 c1)).set_ 2 (.slice none 0 0)
   refine bodyPost_ret (res_from _ w.heap.size (1,(A1,n1,c1),(none,0,0)) _ rfl (PCell.of_blk (by simpa using hf))) rfl ?_
   have hA1 : ∀ a,A1 = some a→a.block ≠ w.heap.size:=fun a ha=>by have:=(ho.lt a ha).1;omega
   refine ⟨_,rfl,?_,?_⟩
   ·simp only [PatX]
    refine ⟨trivial,⟨(((ho.setCell (p:=⟨w.heap.size,0,none⟩) hA1 _).setCell (p:=⟨w.heap.size,1,none⟩) hA1 _).setCell (p:=⟨w.heap.size,2,none⟩) hA1 _).rd (by decide),by have:=ho.len;simpa using this,fun a ha=>by have:=ho.lt a ha;exact ⟨by omega,by simp;omega⟩,ho.cap.1⟩,[],SlX.nil_ _ _ _,by simp only [PatsX]⟩
   ·exact ((hb.setCell (p:=⟨w.heap.size,0,none⟩) (Nat.le_refl _) _).setCell (p:=⟨w.heap.size,1,none⟩) (Nat.le_refl _) _).setCell (p:=⟨w.heap.size,2,none⟩) (Nat.le_refl _) _
end
section
open Go.RowKit
theorem infoBoD : (Tryz.prog.info? 4).map (fun i=>(i.zero,i.size,i.bytes)) = some (some (.bool false),1,1):=by kernel_rfl
theorem letter_part {c : UInt8} (h : pLetter c = true) : pPart c = true:=by unfold pPart;rw [h];rfl
theorem pName_some {ns : List (List UInt8)} {l r2 : List UInt8} {i : Nat} (h : pName ns l = some (i,r2)) : i < ns.length∧r2 = l.dropWhile pPart:=by
 unfold pName at h
 split at h
 ·cases h
 ·split at h
  ·cases h
  ·rename_i j hj
   injection h with h
   injection h with h1 h2
   subst h1
   exact ⟨(List.findIdx?_eq_some_iff_getElem.1 hj).1,h2.symm⟩
theorem drop_less (q : UInt8→Bool) (l : List UInt8) : (l.dropWhile q).length≤l.length:=(List.dropWhile_suffix q).length_le
theorem name_less {ns : List (List UInt8)} {c : UInt8} {r r2 : List UInt8} {i : Nat} (h : pName ns (c :: r) = some (i,r2)) (hc : pLetter c = true) : r2.length < (c :: r).length:=by
 rw [(pName_some h).2,List.dropWhile_cons,if_pos (letter_part hc),List.length_cons]
 exact Nat.lt_succ_of_le (drop_less _ _)
theorem listGo_cases {ns : List (List UInt8)} {f : Nat} {l : List UInt8} {acc : List Nat} {res : List Nat × List UInt8} (h : listGo ns f l acc = some res) :
  ∃ c r,skipB l = c :: r∧((c.toNat = 93∧res = (acc,r))∨(c.toNat ≠ 93∧pLetter c = true∧∃ i r2 f',pName ns (c :: r) = some (i,r2)∧listGo ns f' r2 (i :: acc) = some res)):=by
 cases f with
 | zero=>cases h
 | succ f =>
  rw [listGo] at h
  split at h
  ·cases h
  ·rename_i c r hs
   refine ⟨c,r,hs,?_⟩
   split at h
   ·rename_i h93
    injection h with h
    exact .inl ⟨h93,h.symm⟩
   ·rename_i h93
    split at h
    ·rename_i hl
     split at h
     ·cases h
     ·rename_i i r2 hp
      exact .inr ⟨h93,hl,i,r2,f,hp,h⟩
    ·cases h
def marksP (acc : List Nat) (n : Nat) : List Bool:=(List.range n).map fun i=>acc.contains i
theorem marks_len (acc : List Nat) (n : Nat) : (marksP acc n).length = n:=by simp [marksP]
theorem marks_nil (n : Nat) : marksP [] n = List.replicate n false:=by
 unfold marksP
 rw [List.eq_replicate_iff]
 simp
theorem marks_set {acc : List Nat} {n i : Nat} : (marksP acc n).set i true = marksP (i :: acc) n:=by
 apply List.ext_getElem (by simp [marksP])
 intro k h1 h2
 rw [List.getElem_set]
 simp only [marksP,List.getElem_map,List.getElem_range,List.contains_cons]
 by_cases e : i = k
 ·subst e
  rw [if_pos rfl];simp
 ·rw [if_neg e,show (k == i) = false from beq_eq_false_iff_ne.2 (Ne.symm e),Bool.false_or]
theorem marks_at {acc : List Nat} {n i : Nat} (h : i < n) : (marksP acc n)[i]? = some (acc.contains i):=by
 unfold marksP
 rw [List.getElem?_map,List.getElem?_range h];rfl
theorem pick_marks (acc : List Nat) (n : Nat) (no : Bool) : pickB (marksP acc n) no n = (List.range n).filter fun i=>acc.contains i != no:=by
 unfold pickB
 apply List.filter_congr
 intro j hj
 rw [List.getD_eq_getElem?_getD,marks_at (List.mem_range.1 hj)];rfl
theorem made_noB (n : Nat) : (madeCells (Value.bool false).cells (n*1)).toList = ((List.replicate n false).map encBo).flatten:=by
 rw [Nat.mul_one]
 unfold madeCells
 rw [Array.toList_map,Array.toList_range]
 induction n with
 | zero=>rfl
 | succ n ih =>
  rw [List.range_succ,List.map_append,ih,List.replicate_succ',List.map_append,List.flatten_append]
  congr 1
  simp [Value.cells,encBo,Nat.mod_one]
theorem encBo_ok (l : List Bool) : ∀ y ∈ l.map encBo,y.length = 1∧∀ u ∈ y,u.oneCell' = true:=by
 intro y hy
 obtain ⟨x,_,rfl⟩:=List.mem_map.1 hy
 exact ⟨rfl,fun u hu=>by simp [encBo] at hu;subst hu;rfl⟩
theorem res_list (w : World) (b : Nat) (v : Pv) (tmps : Array Value) (ht : tmps.getD 2 undef = .pointer (some ⟨b,0,none⟩)) (hc : PCell w b v) : (results Tryz.f304 tmps).run Tryz.prog w = .ok (valPt v) w:=by
 have ht' : tmps[2]?.getD undef = .pointer (some ⟨b,0,none⟩):=by simpa [Array.getD_eq_getD_getElem?] using ht
 obtain ⟨h0,h1,h2⟩:=hc
 simp [results,Tryz.results304,go_sem,ht',h0,h1,h2,valPt]
theorem RS.belowB {w w' : World} {p B : Nat} {s : ByteArray} {A : Option Addr} {nn cn : Nat} {names : List (List UInt8)} {a d k : Nat} (h : RS w p s A nn cn names a d k) (hb : Below B w w') (hp : p < B) (hA : ∀ x,A = some x→x.block < B) : RS w' p s A nn cn names a d k :=
 ⟨(hb.block p hp).trans h.blk,h.nm.belowB hb hA,h.len,fun x hx=>⟨(h.off x hx).1,Nat.lt_of_lt_of_le (h.off x hx).2 hb.size⟩⟩
theorem jlist_any (p : Nat) (s : ByteArray) (A : Option Addr) (nn cn : Nat) (names : List (List UInt8)) (a d k f : Nat) (b : UInt8) (r1 rest : List UInt8) (acc : List Nat) (w : World)
  (h : RS w p s A nn cn names a d k) (hk : k < 512) (ha : a < s.size) (hs : s.size≤1000000) (hnz : nn≤1000000) (hsk : skipB (s.data.toList.drop (a+1)) = b :: r1)
  (hL : listGo names f (if b.toNat = 94 then r1 else b :: r1) [] = some (acc,rest)) :
  Calls Tryz.prog 304 #[.pointer (some ⟨p,0,none⟩)] w fun e w'=>∃ v x,e = .returned (valPt v)∧RS w' p s A nn cn names x d (k+1)∧s.data.toList.drop x = rest∧x≤s.size∧w.grownBy w' (some p)∧PatX w' (fun b=>w.heap.size≤b) (fromP nn acc (decide (b.toNat = 94))) v:=by
 obtain ⟨j0,hj0,hy0,hy1,hy2⟩:=info_parts infoBoD
 have hpw:=h.lt
 have hln:=h.len
 have HAw:=Lib.hid (fun x (hx : A = some x)=>(h.off x hx).2)
 have HC:=Lib.hid (fun W (h : RS W p s A nn cn names a d k)=>jcounts_any p s A nn cn names a d k a W h hk)
 have HS:=Lib.hid (fun x W (h : RS W p s A nn cn names x d (k+1)) (hx : x≤s.size)=>jsees_any p s A nn cn names x d (k+1) W h hx hs)
 have HN:=Lib.hid (fun x i0 rest W (h : RS W p s A nn cn names x d (k+1)) (hx : x≤s.size) (hP : pName names (s.data.toList.drop x) = some (i0,rest))=>jname_any p s A nn cn names x d (k+1) i0 rest W h hx hs hnz hP)
 have HF:=Lib.hid (fun A' c' M no W (hA : Rd W 1 A' (M.map encBo)) (hm : M.length = nn)=>jfrom_any nn A' nn c' M no W hA hm rfl hnz)
 have hw0:=h.below ((Below.refl w.heap.size w).alloc (Nat.le_refl _) (.cells #[.int .i64 0,.slice none 0 0,.slice none 0 0] 221))
 have cz:=hw0.c1
 obtain ⟨L0,HL0⟩ : ∃ L,Hid ((if b.toNat = 94 then r1 else b :: r1) = L):=⟨_,Lib.hid rfl⟩
 rw [HL0.out] at hL
 have HL:=Lib.hid hL
 obtain ⟨q,Hq⟩ : ∃ q,Hid (decide (b.toNat = 94) = q):=⟨_,Lib.hid rfl⟩
 have e94 : ((b.toNat : Int) == 94) = q:=by rw [← Hq.out,Bool.eq_iff_iff,beq_iff_eq,decide_eq_true_iff];omega
 have Hsk:=Lib.hid hsk
 rw [Hq.out]
 clear hL hsk h
 go_enter Tryz.func304,Tryz.ntmps304
 go_wp2_with fail
 refine (HC.out _ hw0).mono ?_
 rintro e w1 ⟨rfl,hr,hg⟩
 clear cz
 have hB0 : Blk w1 w.heap.size 221 #[.int .i64 0,.slice none 0 0,.slice none 0 0]:=(Blk.new w _ _).grown hg (fun e=>by injection e with e;omega)
 have hg0 : w.grownBy w1 (some p):=only_trans (only_alloc (only_refl w _) _) hg
 have c1:=hr.c1
 have f1:=hr.f 1
 have hr2:=hr.setAt (a+1)
 have ez : ((a+1 : Nat) : Int) = (a : Int)+1:=by omega
 rw [ez] at hr2
 have hB1:=hB0.far (p:=⟨p,1,none⟩) (by simp;omega) (.int .i64 ((a : Int)+1))
 have hg1:=only_setCell hg0 (p:=⟨p,1,none⟩) (.inl rfl) (.int .i64 ((a : Int)+1))
 have c5:=hr2.c5
 have h0:=HS.out (a+1) _ hr2 (by omega)
 rw [Hsk.out,show headN (b :: r1) = b.toNat from rfl] at h0
 have HS1:=Lib.hid h0
 clear h0 hB0 hg0 hg hr hw0 HC ez
 go_wp2_with fail
 refine HS1.out.mono ?_
 rintro e w2 ⟨rfl,x,hr3,hd,hx,hg3⟩
 have hB2:=hB1.grown hg3 (fun e=>by injection e with e;omega)
 have hg2:=only_trans hg1 hg3
 have Hd:=Lib.hid hd
 clear hd c1 f1 c5 hr2 hB1 hg1 hg3 HS1
 go_upto_if 29 with fail
 go_cut [3] from 7 to 37 (fun v wx=>v = .bool q∧∃ x,RS wx p s A nn cn names x d (k+1)∧Hid (s.data.toList.drop x = L0)∧x≤s.size∧w.grownBy wx (some p)∧Blk wx w.heap.size 221 #[.int .i64 0,.slice none 0 0,.slice none 0 0])
 case first =>
  cases q with
  | true =>
   have hb94:=of_decide_eq_true Hq.out
   have hxs : x < s.size:=Nat.lt_of_not_le fun hle=>by
    have h1:=Hd.out
    rw [drop_end s (by omega)] at h1
    cases h1
   have HD2:=Lib.hid (show s.data.toList.drop (x+1) = L0 by
    obtain ⟨b',h1,_⟩:=byte_at s hxs
    have h2:=Hd.out
    rw [h1] at h2
    injection h2 with _ h2
    rw [h2,← HL0.out,if_pos hb94])
   have c1:=hr3.c1
   have f1:=hr3.f 1
   have hr4:=hr3.setAt (x+1)
   have ez : ((x+1 : Nat) : Int) = (x : Int)+1:=by omega
   rw [ez] at hr4
   clear ez hb94
   go_wp2_with fail
   go_meet
   exact ⟨rfl,x+1,hr4,HD2,by omega,only_setCell hg2 (.inl rfl) _,hB2.far (p:=⟨p,1,none⟩) (by simp;omega) _⟩
  | false =>
   have hb94:=of_decide_eq_false Hq.out
   have HD2:=Lib.hid (show s.data.toList.drop x = L0 by rw [Hd.out,← HL0.out,if_neg hb94])
   clear hb94
   go_wp2_with fail
   go_meet
   exact ⟨rfl,x,hr3,HD2,hx,hg2,hB2⟩
 case rest =>
  clear hr3 Hd hx hg2 hB2 e94 Hsk
  obtain ⟨rfl,x,hr3,HD0,hx,hg2,hB2⟩:=hcut
  have c2:=hr3.c2
  have hbz:=hB2.lt
  go_wp2_with (at_make;go_must (refine wpList_make_full _ rfl (.tmp 41) (.tmp 41) 346 rfl (w.heap.size+1) 4 j0 (.bool false) 1 Tryz.underlying346 hj0 hy0 hy1 .i64 .i64 _ _ nn rfl rfl (by omega) (by omega) (by rw [hy2];omega) (by unfold maxLen;omega) (by omega) ?_);intro w4 ho4 hg4)
  have HO : Own w4 (w.heap.size+1) 4 1 (some ⟨wc.heap.size,0,none⟩) nn nn ((marksP [] nn).map encBo):=⟨by simp [marks_len],fun y hy=>(encBo_ok _ y hy).1,by rw [marks_nil,← made_noB];exact ho4⟩
  have hg40 : w.grownBy w4 (some p):=only_below hg2 (below_new hg4)
  have hr4:=hr3.below (below_new hg4)
  have hB4:=hB2.below (below_new hg4)
  have HL2 : Hid (listGo names f (s.data.toList.drop x) [] = some (acc,rest)):=Lib.hid (by rw [HD0.out];exact HL.out)
  clear ho4 hg4 hr3 hB2 hg2 c2 HL HD0 HL0 Hq
  generalize wc.heap.size = mb at HO hbz
  go_loopw [5,6] (fun _ _ wr=>∃ (x : Nat) (acc0 : List Nat) (f0 : Nat),RS wr p s A nn cn names x d (k+1)∧Hid (listGo names f0 (s.data.toList.drop x) acc0 = some (acc,rest))∧x≤s.size∧w.grownBy wr (some p)∧Blk wr w.heap.size 221 #[.int .i64 0,.slice none 0 0,.slice none 0 0]∧Own wr (w.heap.size+1) 4 1 (some ⟨mb,0,none⟩) nn nn ((marksP acc0 nn).map encBo)) (fun _ _ wr=>s.size - atOf wr p)
  case atStart=>exact ⟨x,[],f,hr4,HL2,hx,hg40,hB4,HO⟩
  case round =>
   clear hr4 HL2 hx hg40 hB4 HO
   obtain ⟨y,acc0,f0,hr,HG,hy,hg,hB,ho⟩:=hrel
   have Hat:=Lib.hid hr.atOf
   obtain ⟨c,r,hsk2,hcs⟩:=listGo_cases HG.out
   have Hcs:=Lib.hid hcs
   have hly : (c :: r).length≤s.size - y:=by
    rw [← hsk2]
    refine Nat.le_trans (drop_less _ _) ?_
    rw [List.length_drop,size_data];exact Nat.le_refl _
   have c5:=hr.c5
   have h0:=HS.out y _ hr hy
   rw [hsk2,show headN (c :: r) = c.toNat from rfl] at h0
   have HS2:=Lib.hid h0
   clear h0 hsk2 hcs HG
   go_wp2_with fail
   refine HS2.out.mono ?_
   rintro e w5 ⟨rfl,x1,hr5,hd5,hx1,hg5⟩
   have hxs : x1 < s.size:=Nat.lt_of_not_le fun hle=>by
    rw [drop_end s (by omega)] at hd5
    cases hd5
   have hl1 : (c :: r).length = s.size - x1:=by rw [← hd5,List.length_drop,size_data]
   have t1 : decide (s.size≤x1) = false:=decide_eq_false (by omega)
   have Hd5:=Lib.hid hd5
   have c0:=hr5.c0
   have c1:=hr5.c1
   have hB5:=hB.grown hg5 (fun e=>by injection e with e;omega)
   have ho5:=ho.grown hg5 (fun a ha e=>by injection ha with ha;subst ha;injection e with e;simp only at e;omega)
   have hgg:=only_trans hg hg5
   clear hr c5 hg hB ho HS2 hd5 hg5
   go_wp2_with fail
   go_quiet (fail)
   rcases Hcs.out with ⟨h93,hres⟩ | ⟨h93,hlet,i0,r2,f',hp,hL2⟩
   ·have t2 : ((c.toNat : Int) == 93) = true:=by rw [beq_iff_eq];omega
    have hxy : acc = acc0∧rest = r:=by injection hres with h1 h2;exact ⟨h1,h2⟩
    obtain ⟨rfl,rfl⟩:=hxy
    have HD2:=Lib.hid (show s.data.toList.drop (x1+1) = rest by
     obtain ⟨b',h1,_⟩:=byte_at s hxs
     have h2:=Hd5.out
     rw [h1] at h2
     injection h2)
    have f1:=hr5.f 1
    have hr6:=(hr5.drewN nq).setAt (x1+1)
    have ez : ((x1+1 : Nat) : Int) = (x1 : Int)+1:=by omega
    rw [ez] at hr6
    have c2:=hr6.c2
    have ho6 : Own ((w5.drewN nq).setCell ⟨p,1,none⟩ (.int .i64 ((x1 : Int)+1))) (w.heap.size+1) 4 1 (some ⟨mb,0,none⟩) nn nn ((marksP acc nn).map encBo):=(ho5.drewN nq).setCell (p:=⟨p,1,none⟩) (fun a ha e=>by injection ha with ha;subst ha;simp only at e;omega) _
    have hB6 : Blk ((w5.drewN nq).setCell ⟨p,1,none⟩ (.int .i64 ((x1 : Int)+1))) w.heap.size 221 #[.int .i64 0,.slice none 0 0,.slice none 0 0]:=(hB5.drewN nq).far (p:=⟨p,1,none⟩) (by simp;omega) _
    have hg6 : w.grownBy ((w5.drewN nq).setCell ⟨p,1,none⟩ (.int .i64 ((x1 : Int)+1))) (some p):=only_setCell (only_drewN hgg nq) (p:=⟨p,1,none⟩) (.inl rfl) _
    have HC2:=Lib.hid (HF.out _ nn (marksP acc nn) q _ (ho6.rd (by decide)) (marks_len _ _))
    clear ez Hcs hres hly hl1 Hat ho5 hB5 hgg hr5
    go_wp2_with fail
    refine HC2.out.mono ?_
    rintro e w7 ⟨v,rfl,hpat,hb7⟩
    have hB7:=hB6.below hb7
    have hr7:=hr6.below hb7
    have hg7:=only_below hg6 hb7
    have hz7:=hB6.lt
    rw [pick_marks] at hpat
    have Hpat:=Lib.hid hpat
    have z0:=hB7.cell 0
    have z1:=hB7.cell 1
    have z2:=hB7.cell 2
    simp only [zG,zI,zH] at z0 z1 z2
    have g0:=hB7.frozen 0
    have g1:=hB7.frozen 1
    have g2:=hB7.frozen 2
    clear HC2 hpat c2 hr6 ho6 hB6 hg6
    obtain ⟨v0,⟨A1,n1,c1'⟩,⟨A2,n2,c2'⟩⟩:=v
    simp only [valPt]
    go_wp2
    have hf:=((hB7.set_ 0 (.int .i64 (v0 : Int))).set_ 1 (.slice A1 n1 c1')).set_ 2 (.slice A2 n2 c2')
    have hg8 : w7.grownBy (((w7.setCell ⟨w.heap.size,0,none⟩ (.int .i64 (v0 : Int))).setCell ⟨w.heap.size,1,none⟩ (.slice A1 n1 c1')).setCell ⟨w.heap.size,2,none⟩ (.slice A2 n2 c2')) (some w.heap.size):=only_setCell (only_setCell (only_setCell (only_refl _ _) (p:=⟨w.heap.size,0,none⟩) (.inl rfl) _) (p:=⟨w.heap.size,1,none⟩) (.inl rfl) _) (p:=⟨w.heap.size,2,none⟩) (.inl rfl) _
    have hb8 : Below w.heap.size w7 (((w7.setCell ⟨w.heap.size,0,none⟩ (.int .i64 (v0 : Int))).setCell ⟨w.heap.size,1,none⟩ (.slice A1 n1 c1')).setCell ⟨w.heap.size,2,none⟩ (.slice A2 n2 c2')):=(((Below.refl _ _).setCell (p:=⟨w.heap.size,0,none⟩) (Nat.le_refl _) _).setCell (p:=⟨w.heap.size,1,none⟩) (Nat.le_refl _) _).setCell (p:=⟨w.heap.size,2,none⟩) (Nat.le_refl _) _
    refine bodyPost_ret (res_list _ w.heap.size (v0,(A1,n1,c1'),(A2,n2,c2')) _ rfl (PCell.of_blk (by simpa using hf))) rfl ?_
    refine ⟨_,x1+1,rfl,hr7.belowB hb8 hpw HAw.out,HD2.out,by omega,only_setCell (only_setCell (only_setCell hg7 (p:=⟨w.heap.size,0,none⟩) (.inr (Nat.le_refl _)) _) (p:=⟨w.heap.size,1,none⟩) (.inr (Nat.le_refl _)) _) (p:=⟨w.heap.size,2,none⟩) (.inr (Nat.le_refl _)) _,?_⟩
    exact PatX.keep ((KeepX.grown hg8 (fun r hr h=>by injection hr with hr;subst hr;omega)).trans (KeepX.same (fun b h _=>by show w.heap.size≤b;omega))) Hpat.out
   ·have t2 : ((c.toNat : Int) == 93) = false:=by rw [beq_eq_false_iff_ne];omega
    have hi0:=(pName_some hp).1
    rw [hln] at hi0
    have hlr:=name_less hp hlet
    have h1:=jletter_b c (w5.drewN nq)
    rw [hlet] at h1
    have HLt:=Lib.hid h1
    have HN2:=Lib.hid (HN.out x1 i0 r2 _ (hr5.drewN nq) hx1 (by rw [Hd5.out];exact hp))
    clear h1 hp Hcs
    have HLr:=Lib.hid hL2
    clear hL2
    go_wp2_with fail
    refine HLt.out.mono ?_
    rintro e w6 ⟨rfl,rfl⟩
    go_wp2_with fail
    refine HN2.out.mono ?_
    rintro e w6 ⟨rfl,x2,hr6,hd6,hx2,hg6⟩
    have c5:=hr6.c5
    have ho6:=(ho5.drewN nq).grown hg6 (fun a ha e=>by injection ha with ha;subst ha;injection e with e;simp only at e;omega)
    have hB6:=(hB5.drewN nq).grown hg6 (fun e=>by injection e with e;omega)
    have hst:=fun v=>ho6.stored (k:=i0) (j:=0) (x:=encBo (acc0.contains i0)) (by rw [List.getElem?_map,marks_at hi0];rfl) (by omega) v
    have hca:=ho6.cell (k:=i0) (j:=0) (x:=encBo (acc0.contains i0)) (u:=.bool (acc0.contains i0)) (by rw [List.getElem?_map,marks_at hi0];rfl) rfl
    have hfz:=ho6.frozen i0
    simp only [Nat.mul_one,Nat.add_zero] at hst hca
    have HS6 : Hid (Own (w6.setCell ⟨mb,i0,none⟩ (.bool true)) (w.heap.size+1) 4 1 (some ⟨mb,0,none⟩) nn nn ((marksP (i0 :: acc0) nn).map encBo)):=Lib.hid (by
     rw [← marks_set,List.map_set]
     exact hst _)
    have hb7 : Below w.heap.size w6 (w6.setCell ⟨mb,i0,none⟩ (.bool true)):=(Below.refl _ _).setCell (p:=⟨mb,i0,none⟩) (by simp;omega) _
    have hr7:=hr6.belowB hb7 hpw HAw.out
    have hB7:=hB6.far (p:=⟨mb,i0,none⟩) (by simp;omega) (.bool true)
    have hg7:=only_setCell (only_trans (only_drewN hgg nq) hg6) (p:=⟨mb,i0,none⟩) (.inr (by simp;omega)) (.bool true)
    have hl2 : r2.length = s.size - x2:=by rw [← hd6,List.length_drop,size_data]
    have Hm2:=Lib.hid (show s.size - x2 < s.size - y by omega)
    have HG2 : Hid (listGo names f' (s.data.toList.drop x2) (i0 :: acc0) = some (acc,rest)):=Lib.hid (by rw [hd6];exact HLr.out)
    have hi1 : (i0 : Int) < (nn : Int):=by omega
    have hi2 : (0 : Int)≤(i0 : Int):=by omega
    clear hst HLr hd6 hl2 hly hl1 hlr hi0 HLt HN2 hg6 hB6
    go_wp2
    refine ⟨⟨x2,i0 :: acc0,f',hr7,HG2,hx2,hg7,hB7,HS6.out⟩,?_⟩
    rw [hr7.atOf,Hat.out];exact Hm2.out
end
section
open Go.RowKit
theorem atomP_cases {ns : List (List UInt8)} {f d k k' : Nat} {c : UInt8} {r rest : List UInt8} {pat : Pat} (h : atomP ns (f+1) d c r k = some (pat,rest,k')) :
  k < 512∧((c.toNat = 40∧d < 32∧∃ c2,patP ns f (d+1) r (k+1) = some (pat,c2 :: rest,k')) ∨
   (c.toNat = 91∧k' = k+1∧∃ b r1 acc,skipB r = b :: r1∧listGo ns f (if b.toNat = 94 then r1 else b :: r1) [] = some (acc,rest)∧pat = fromP ns.length acc (decide (b.toNat = 94))) ∨
   (c.toNat = 46∧pat = fromP ns.length [] true∧rest = r∧k' = k+1) ∨
   (c.toNat ≠ 40∧c.toNat ≠ 91∧c.toNat ≠ 46∧k' = k+1∧∃ i,pName ns (c :: r) = some (i,rest)∧pat = .node 1 [i] [])):=by
 rw [atomP] at h
 split at h
 ·cases h
 ·rename_i hk
  refine ⟨by omega,?_⟩
  split at h
  ·rename_i h40
   split at h
   ·cases h
   ·rename_i hd
    split at h
    ·cases h
    ·cases h
    ·rename_i p c2 l1 k1 hp
     injection h with h
     injection h with e1 e2
     injection e2 with e2 e3
     subst e1 e2 e3
     exact .inl ⟨h40,by omega,c2,hp⟩
  ·rename_i h40
   split at h
   ·rename_i h91
    split at h
    ·cases h
    ·rename_i b r1 hs
     split at h
     ·cases h
     ·rename_i acc l1 hl
      injection h with h
      injection h with e1 e2
      injection e2 with e2 e3
      subst e1 e2 e3
      exact .inr (.inl ⟨h91,rfl,b,r1,acc,hs,hl,rfl⟩)
   ·rename_i h91
    split at h
    ·rename_i h46
     injection h with h
     injection h with e1 e2
     injection e2 with e2 e3
     subst e1 e2 e3
     exact .inr (.inr (.inl ⟨h46,rfl,rfl,rfl⟩))
    ·rename_i h46
     split at h
     ·cases h
     ·rename_i i l1 hp
      injection h with h
      injection h with e1 e2
      injection e2 with e2 e3
      subst e1 e2 e3
      exact .inr (.inr (.inr ⟨h40,h91,h46,rfl,i,hp,rfl⟩))
def RdPost (w : World) (p : Nat) (s : ByteArray) (A : Option Addr) (nn cn : Nat) (names : List (List UInt8)) (d : Nat) (pat : Pat) (rest : List UInt8) (k' : Nat) (e : Ending) (w' : World) : Prop :=
 ∃ v x,e = .returned (valPt v)∧RS w' p s A nn cn names x d k'∧s.data.toList.drop x = rest∧x≤s.size∧w.grownBy w' (some p)∧PatX w' (fun b=>w.heap.size≤b) pat v
theorem pt_end {w w7 : World} {p B : Nat} {s : ByteArray} {A : Option Addr} {nn cn : Nat} {names : List (List UInt8)} {x d k : Nat} {a0 a1 a2 : Value} {pat : Pat} (v : Pv) (hB7 : Blk w7 w.heap.size 221 #[a0,a1,a2])
  (hr7 : RS w7 p s A nn cn names x d k) (hpw : p < w.heap.size) (hA : ∀ x,A = some x→x.block < w.heap.size) (hg7 : w.grownBy w7 (some p)) (hz : w.heap.size < B) (hpat : PatX w7 (fun b=>B≤b) pat v) :
  Blk (((w7.setCell ⟨w.heap.size,0,none⟩ (.int .i64 (v.1 : Int))).setCell ⟨w.heap.size,1,none⟩ (.slice v.2.1.1 v.2.1.2.1 v.2.1.2.2)).setCell ⟨w.heap.size,2,none⟩ (.slice v.2.2.1 v.2.2.2.1 v.2.2.2.2)) w.heap.size 221 #[.int .i64 (v.1 : Int),.slice v.2.1.1 v.2.1.2.1 v.2.1.2.2,.slice v.2.2.1 v.2.2.2.1 v.2.2.2.2] ∧
  RS (((w7.setCell ⟨w.heap.size,0,none⟩ (.int .i64 (v.1 : Int))).setCell ⟨w.heap.size,1,none⟩ (.slice v.2.1.1 v.2.1.2.1 v.2.1.2.2)).setCell ⟨w.heap.size,2,none⟩ (.slice v.2.2.1 v.2.2.2.1 v.2.2.2.2)) p s A nn cn names x d k ∧
  w.grownBy (((w7.setCell ⟨w.heap.size,0,none⟩ (.int .i64 (v.1 : Int))).setCell ⟨w.heap.size,1,none⟩ (.slice v.2.1.1 v.2.1.2.1 v.2.1.2.2)).setCell ⟨w.heap.size,2,none⟩ (.slice v.2.2.1 v.2.2.2.1 v.2.2.2.2)) (some p) ∧
  PatX (((w7.setCell ⟨w.heap.size,0,none⟩ (.int .i64 (v.1 : Int))).setCell ⟨w.heap.size,1,none⟩ (.slice v.2.1.1 v.2.1.2.1 v.2.1.2.2)).setCell ⟨w.heap.size,2,none⟩ (.slice v.2.2.1 v.2.2.2.1 v.2.2.2.2)) (fun b=>w.heap.size≤b) pat v:=by
 obtain ⟨v0,⟨A1,n1,c1'⟩,⟨A2,n2,c2'⟩⟩:=v
 have hf:=((hB7.set_ 0 (.int .i64 (v0 : Int))).set_ 1 (.slice A1 n1 c1')).set_ 2 (.slice A2 n2 c2')
 have hg8 : w7.grownBy (((w7.setCell ⟨w.heap.size,0,none⟩ (.int .i64 (v0 : Int))).setCell ⟨w.heap.size,1,none⟩ (.slice A1 n1 c1')).setCell ⟨w.heap.size,2,none⟩ (.slice A2 n2 c2')) (some w.heap.size):=only_setCell (only_setCell (only_setCell (only_refl _ _) (p:=⟨w.heap.size,0,none⟩) (.inl rfl) _) (p:=⟨w.heap.size,1,none⟩) (.inl rfl) _) (p:=⟨w.heap.size,2,none⟩) (.inl rfl) _
 have hb8 : Below w.heap.size w7 (((w7.setCell ⟨w.heap.size,0,none⟩ (.int .i64 (v0 : Int))).setCell ⟨w.heap.size,1,none⟩ (.slice A1 n1 c1')).setCell ⟨w.heap.size,2,none⟩ (.slice A2 n2 c2')):=(((Below.refl _ _).setCell (p:=⟨w.heap.size,0,none⟩) (Nat.le_refl _) _).setCell (p:=⟨w.heap.size,1,none⟩) (Nat.le_refl _) _).setCell (p:=⟨w.heap.size,2,none⟩) (Nat.le_refl _) _
 refine ⟨by simpa using hf,hr7.belowB hb8 hpw hA,only_setCell (only_setCell (only_setCell hg7 (p:=⟨w.heap.size,0,none⟩) (.inr (Nat.le_refl _)) _) (p:=⟨w.heap.size,1,none⟩) (.inr (Nat.le_refl _)) _) (p:=⟨w.heap.size,2,none⟩) (.inr (Nat.le_refl _)) _,?_⟩
 exact PatX.keep ((KeepX.grown hg8 (fun r hr h=>by injection hr with hr;subst hr;omega)).trans (KeepX.same (fun b h _=>by show w.heap.size≤b;omega))) hpat
theorem res_atom (w : World) (b : Nat) (v : Pv) (tmps : Array Value) (ht : tmps.getD 2 undef = .pointer (some ⟨b,0,none⟩)) (hc : PCell w b v) : (results Tryz.f281 tmps).run Tryz.prog w = .ok (valPt v) w:=by
 have ht' : tmps[2]?.getD undef = .pointer (some ⟨b,0,none⟩):=by simpa [Array.getD_eq_getD_getElem?] using ht
 obtain ⟨h0,h1,h2⟩:=hc
 simp [results,Tryz.results281,go_sem,ht',h0,h1,h2,valPt]
end
section
open Go.RowKit
theorem opsGo_cases {f k k2 : Nat} {p q : Pat} {l l2 : List UInt8} (h : opsGo f p l k = some (q,l2,k2)) :
  (skipB l = []∧q = p∧l2 = []∧k2 = k)∨∃ c r,skipB l = c :: r∧((pOper c = 0∧q = p∧l2 = c :: r∧k2 = k)∨(pOper c ≠ 0∧k < 512∧∃ f',opsGo f' (.node (pOper c) [] [p]) r (k+1) = some (q,l2,k2))):=by
 cases f with
 | zero=>cases h
 | succ f =>
  rw [opsGo] at h
  split at h
  ·rename_i hs
   injection h with h
   injection h with e1 e2
   injection e2 with e2 e3
   exact .inl ⟨hs,e1.symm,e2.symm,e3.symm⟩
  ·rename_i c r hs
   refine .inr ⟨c,r,hs,?_⟩
   split at h
   ·rename_i h0
    injection h with h
    injection h with e1 e2
    injection e2 with e2 e3
    exact .inl ⟨h0,e1.symm,e2.symm,e3.symm⟩
   ·rename_i h0
    split at h
    ·cases h
    ·rename_i hk
     exact .inr ⟨h0,by omega,f,h⟩
theorem branchP_cases {ns : List (List UInt8)} {f d k k' : Nat} {acc : List Pat} {pat : Pat} {l rest : List UInt8} (h : branchP ns f d l k acc = some (pat,rest,k')) :
  (skipB l = []∧pat = seqOf acc∧rest = []∧k' = k)∨∃ c r,skipB l = c :: r∧((pBegins c = false∧pat = seqOf acc∧rest = c :: r∧k' = k) ∨
   (pBegins c = true∧∃ f' p l1 k1 q l2 k2,f = f'+1∧atomP ns f' d c r k = some (p,l1,k1)∧opsGo f' p l1 k1 = some (q,l2,k2)∧branchP ns f' d l2 k2 (acc++[q]) = some (pat,rest,k'))):=by
 cases f with
 | zero=>rw [branchP] at h;cases h
 | succ f =>
  rw [branchP] at h
  split at h
  ·rename_i hs
   injection h with h
   injection h with e1 e2
   injection e2 with e2 e3
   exact .inl ⟨hs,e1.symm,e2.symm,e3.symm⟩
  ·rename_i c r hs
   refine .inr ⟨c,r,hs,?_⟩
   split at h
   ·rename_i hb
    refine .inr ⟨hb,f,?_⟩
    split at h
    ·cases h
    ·rename_i p l1 k1 ha
     split at h
     ·cases h
     ·rename_i q l2 k2 ho
      exact ⟨p,l1,k1,q,l2,k2,rfl,ha,ho,h⟩
   ·rename_i hb
    injection h with h
    injection h with e1 e2
    injection e2 with e2 e3
    exact .inl ⟨by simpa using hb,e1.symm,e2.symm,e3.symm⟩
theorem altsP_cases {ns : List (List UInt8)} {f d k k' : Nat} {acc : List Pat} {pat : Pat} {l rest : List UInt8} (h : altsP ns f d l k acc = some (pat,rest,k')) :
  (skipB l = []∧pat = altOf acc∧rest = []∧k' = k)∨∃ c r,skipB l = c :: r∧((c.toNat = 124∧k < 512∧∃ f' p l1 k1,f = f'+1∧branchP ns f' d r (k+1) [] = some (p,l1,k1)∧altsP ns f' d l1 k1 (acc++[p]) = some (pat,rest,k')) ∨
   (c.toNat = 41∧0 < d∧pat = altOf acc∧rest = c :: r∧k' = k)):=by
 cases f with
 | zero=>rw [altsP] at h;cases h
 | succ f =>
  rw [altsP] at h
  split at h
  ·rename_i hs
   injection h with h
   injection h with e1 e2
   injection e2 with e2 e3
   exact .inl ⟨hs,e1.symm,e2.symm,e3.symm⟩
  ·rename_i c r hs
   refine .inr ⟨c,r,hs,?_⟩
   split at h
   ·rename_i hc
    split at h
    ·cases h
    ·rename_i hk
     split at h
     ·cases h
     ·rename_i p l1 k1 hb
      exact .inl ⟨hc,by omega,f,p,l1,k1,rfl,hb,h⟩
   ·split at h
    ·rename_i hc
     injection h with h
     injection h with e1 e2
     injection e2 with e2 e3
     exact .inr ⟨hc.1,hc.2,e1.symm,e2.symm,e3.symm⟩
    ·cases h
theorem patP_cases {ns : List (List UInt8)} {f d k k' : Nat} {pat : Pat} {l rest : List UInt8} (h : patP ns f d l k = some (pat,rest,k')) :
  ∃ f' p l1 k1,f = f'+1∧branchP ns f' d l k [] = some (p,l1,k1)∧altsP ns f' d l1 k1 [p] = some (pat,rest,k'):=by
 cases f with
 | zero=>rw [patP] at h;cases h
 | succ f =>
  rw [patP] at h
  split at h
  ·cases h
  ·rename_i p l1 k1 hb
   exact ⟨f,p,l1,k1,rfl,hb,h⟩
def UpTo (k k' : Nat) : Prop:=k≤k'∧(k≤512→k'≤512)
theorem UpTo.refl (k : Nat) : UpTo k k:=⟨Nat.le_refl _,id⟩
theorem UpTo.trans {a b c : Nat} (h : UpTo a b) (k : UpTo b c) : UpTo a c:=⟨Nat.le_trans h.1 k.1,fun q=>k.2 (h.2 q)⟩
theorem UpTo.one {k : Nat} (h : k < 512) : UpTo k (k+1):=⟨Nat.le_succ _,fun _=>h⟩
theorem ops_up : ∀ (f : Nat) {k k2 : Nat} {p q : Pat} {l l2 : List UInt8},opsGo f p l k = some (q,l2,k2)→UpTo k k2
 | 0,_,_,_,_,_,_,h=>by rw [opsGo] at h;cases h
 | f+1,k,k2,p,q,l,l2,h=>by
  rw [opsGo] at h
  split at h
  ·injection h with h;injection h with _ h;injection h with _ h;subst h;exact UpTo.refl _
  ·split at h
   ·injection h with h;injection h with _ h;injection h with _ h;subst h;exact UpTo.refl _
   ·split at h
    ·cases h
    ·rename_i hk
     exact (UpTo.one (by omega)).trans (ops_up f h)
theorem parts_up (ns : List (List UInt8)) : ∀ f : Nat,
  (∀ {d k k' : Nat} {pat : Pat} {l rest : List UInt8},patP ns f d l k = some (pat,rest,k')→UpTo k k') ∧
  (∀ {d k k' : Nat} {acc : List Pat} {pat : Pat} {l rest : List UInt8},altsP ns f d l k acc = some (pat,rest,k')→UpTo k k') ∧
  (∀ {d k k' : Nat} {acc : List Pat} {pat : Pat} {l rest : List UInt8},branchP ns f d l k acc = some (pat,rest,k')→UpTo k k') ∧
  (∀ {d k k' : Nat} {c : UInt8} {pat : Pat} {r rest : List UInt8},atomP ns f d c r k = some (pat,rest,k')→k < 512∧UpTo (k+1) k')
 | 0=>⟨fun h=>(by rw [patP] at h;cases h),fun h=>(by rw [altsP] at h;cases h),fun h=>(by rw [branchP] at h;cases h),fun h=>(by rw [atomP] at h;cases h)⟩
 | f+1=>by
  obtain ⟨i1,i2,i3,i4⟩:=parts_up ns f
  refine ⟨fun h=>?_,fun h=>?_,fun h=>?_,fun h=>?_⟩
  ·obtain ⟨f',p,l1,k1,e,hb,ha⟩:=patP_cases h
   injection e with e
   subst e
   exact (i3 hb).trans (i2 ha)
  ·rcases altsP_cases h with ⟨_,_,_,rfl⟩ | ⟨c,r,_,⟨_,hk,f',p,l1,k1,e,hb,ha⟩ | ⟨_,_,_,_,rfl⟩⟩
   ·exact UpTo.refl _
   ·injection e with e
    subst e
    exact (UpTo.one hk).trans ((i3 hb).trans (i2 ha))
   ·exact UpTo.refl _
  ·rcases branchP_cases h with ⟨_,_,_,rfl⟩ | ⟨c,r,_,⟨_,_,_,rfl⟩ | ⟨_,f',p,l1,k1,q,l2,k2,e,ha,ho,hb⟩⟩
   ·exact UpTo.refl _
   ·exact UpTo.refl _
   ·injection e with e
    subst e
    obtain ⟨hk,hu⟩:=i4 ha
    exact (UpTo.one hk).trans (hu.trans ((ops_up _ ho).trans (i3 hb)))
  ·obtain ⟨hk,hcs⟩:=atomP_cases h
   refine ⟨hk,?_⟩
   rcases hcs with ⟨_,_,c2,hp⟩ | ⟨_,rfl,_⟩ | ⟨_,_,_,rfl⟩ | ⟨_,_,_,rfl,_⟩
   ·exact i1 hp
   ·exact UpTo.refl _
   ·exact UpTo.refl _
   ·exact UpTo.refl _
end
section
open Go.RowKit
def nmOk (l : List UInt8) : Bool:=l.all pPart && (l.head?.map pLetter).getD false && decide (l.length≤32)
def nmsOk (ns : List (List UInt8)) : Bool:=decide (ns.length≤64) && ns.all nmOk && decide ns.Nodup
theorem nm_part {l : List UInt8} (h : nmOk l = true) {b : UInt8} (hb : b ∈ l) : pPart b = true:=by
 unfold nmOk at h
 simp only [Bool.and_eq_true,List.all_eq_true] at h
 exact h.1.1 b hb
theorem nm_letter {b : UInt8} {r : List UInt8} (h : nmOk (b :: r) = true) : pLetter b = true:=by
 unfold nmOk at h
 simp only [Bool.and_eq_true,List.head?_cons,Option.map_some,Option.getD_some] at h
 exact h.1.2
theorem nm_len {l : List UInt8} (h : nmOk l = true) : 1≤l.length∧l.length≤32:=by
 unfold nmOk at h
 simp only [Bool.and_eq_true,decide_eq_true_iff] at h
 refine ⟨?_,h.2⟩
 cases l with
 | nil=>simp at h
 | cons b r=>simp
theorem jName_ok (s : ByteArray) (w : World) (h : nmOk s.data.toList = true) : Calls Tryz.prog 172 #[.string s] w fun e w'=>e = .returned (.bool true)∧w = w':=by
 have HP:=Lib.hid (fun b hb=>nm_part h (b:=b) hb)
 have HL:=Lib.hid (fun b r (e : s.data.toList = b :: r)=>nm_letter (b:=b) (r:=r) (e ▸ h))
 have hl:=nm_len h
 rw [size_data] at hl
 clear h
 go_enter Tryz.func172,Tryz.ntmps172
 go_wp2
 go_loopw [3] (fun v wr=>∃ i : Nat,v = .int .i64 i∧i≤s.size∧wr = w) (fun v _=>s.size - (intOf v).toNat)
 case atStart=>exact ⟨0,rfl,by omega,rfl⟩
 case round =>
  obtain ⟨i,rfl,hi,rfl⟩:=hrel
  by_cases hlt : i < s.size
  ·obtain ⟨b,hd,hidx⟩:=byte_at s hlt
   have hpb:=HP.out b (List.mem_of_mem_drop (by rw [hd];simp))
   have h1:=jpart_b b wr
   rw [hpb] at h1
   have HJ:=Lib.hid h1
   clear h1 hpb
   by_cases h0 : i = 0
   ·subst h0
    have h2:=jletter_b b wr
    rw [HL.out b _ (by simpa using hd)] at h2
    have HK:=Lib.hid h2
    have hidx0 : ∀ W,(Instr.index 9 (.string s) (.int .i64 0)).run Tryz.prog W = .ok (.int .u8 (b.toNat : Int)) W:=hidx
    clear h2 hd hidx
    go_wp2_with fail
    refine HJ.out.mono ?_
    rintro e w2 ⟨rfl,rfl⟩
    go_wp2_with fail
    refine HK.out.mono ?_
    rintro e w2 ⟨rfl,rfl⟩
    go_wp2
    go_roundw
    case rel=>exact ⟨1,by go_num,by omega,by first | rfl | trivial⟩
    case measure=>simp [intOf];omega
   ·have t0 : ((i : Int) == 0) = false:=by rw [beq_eq_false_iff_ne];omega
    clear hd
    go_wp2_with fail
    refine HJ.out.mono ?_
    rintro e w2 ⟨rfl,rfl⟩
    go_wp2
    go_roundw
    case rel=>exact ⟨i+1,by go_num,by omega,by first | rfl | trivial⟩
    case measure=>simp [intOf];omega
  ·obtain rfl : i = s.size:=by omega
   have t1 : decide (1≤s.size) = true:=decide_eq_true hl.1
   have t2 : decide ((s.size : Int)≤32) = true:=decide_eq_true (by omega)
   go_wp2
   go_ret
   exact ⟨by first | rfl | exact congrArg (fun b=>Ending.returned (.bool b)) t2,rfl⟩
theorem jNames_ok (A : Option Addr) (n c : Nat) (ns : List (List UInt8)) (w : World) (hA : Rd w 1 A (ns.map encNm)) (hl : ns.length = n) (h : nmsOk ns = true) : Calls Tryz.prog 149 #[.slice A n c] w fun e w'=>e = .returned (.bool true)∧∃ q,w' = w.drewN q:=by
 unfold nmsOk at h
 simp only [Bool.and_eq_true,decide_eq_true_iff,List.all_eq_true] at h
 obtain ⟨⟨h64,hnm⟩,hnd⟩:=h
 have HN:=Lib.hid (fun y (hy : y ∈ ns) W=>jName_ok (bytesOf y) W (by rw [bytesOf_list];exact hnm y hy))
 have HD:=Lib.hid (fun i k x y (hi : ns[i]? = some x) (hk : ns[k]? = some y) (hlt : k < i)=>(fun e=>by
  obtain ⟨h1,h2⟩:=List.getElem?_eq_some_iff.1 hi
  obtain ⟨h3,h4⟩:=List.getElem?_eq_some_iff.1 hk
  have:=(List.nodup_iff_pairwise_ne.1 hnd)
  rw [List.pairwise_iff_getElem] at this
  exact this k i h3 h1 hlt (by rw [h4,h2,e]) : y ≠ x))
 rw [hl] at h64
 clear hnm hnd
 have Hl:=Lib.hid hl
 have h65 : ¬ 64 < n:=by omega
 clear hl h64
 go_enter Tryz.func149,Tryz.ntmps149
 go_wp2
 go_loopw [3,4] (fun v _ wr=>∃ i q : Nat,v = .int .i64 i∧i≤n∧wr = w.drewN q) (fun v _ _=>n - (intOf v).toNat)
 case atStart=>exact ⟨0,0,rfl,by omega,rfl⟩
 case round =>
  obtain ⟨i,q,rfl,hi,rfl⟩:=hrel
  have hA1:=hA
  by_cases hlt : i < n
  ·obtain ⟨x,Hx⟩ : ∃ x,Hid (ns[i]? = some x):=⟨_,Lib.hid (List.getElem?_eq_getElem (by have:=Hl.out;omega))⟩
   obtain ⟨b,off,rfl,hc⟩:=hA1.atS Hx.out
   have HJ:=Lib.hid (HN.out x (List.mem_of_getElem? Hx.out) (w.drewN q))
   go_wp2_with fail
   refine HJ.out.mono ?_
   rintro e w2 ⟨rfl,rfl⟩
   go_wp2_with fail
   go_loopw [4] (fun v wq=>∃ k q : Nat,v = .int .i64 k∧k≤i∧wq = w.drewN q) (fun v _=>i - (intOf v).toNat)
   case atStart=>exact ⟨0,q,rfl,by omega,rfl⟩
   case round =>
    clear hc hA1
    obtain ⟨k,q2,rfl,hk,rfl⟩:=hrel
    have hA2:=hA
    obtain ⟨b3,off3,e3,hc⟩:=hA2.atS Hx.out
    injection e3 with e3
    injection e3 with e4 e5 _
    subst e4 e5
    by_cases hki : k < i
    ·obtain ⟨y,Hy⟩ : ∃ y,Hid (ns[k]? = some y):=⟨_,Lib.hid (List.getElem?_eq_getElem (by have:=Hl.out;omega))⟩
     obtain ⟨b2,off2,e2,hc2⟩:=hA2.atS Hy.out
     injection e2 with e2
     injection e2 with e3 e4 _
     subst e3 e4
     have hyx : y ≠ x:=HD.out i k x y Hx.out Hy.out hki
     have q1 : ((bytesOf y).toList == (bytesOf x).toList) = false:=by rw [ByteArray.toList_eq,ByteArray.toList_eq,bytesOf_list,bytesOf_list];exact beq_eq_false_iff_ne.2 hyx
     have q2 : decide (bytesOf y = bytesOf x) = false:=decide_eq_false (fun k=>hyx (by have:=congrArg (fun b=>b.data.toList) k;simpa [bytesOf_list] using this))
     have hkn : k < n:=by omega
     clear hyx
     go_wp2_with fail
     go_quiet (fail)
     go_wp2
     go_roundw
     case rel=>exact ⟨k+1,_,by go_num,by omega,by first | rfl | exact World.drewN_drewN _ _ _⟩
     case measure=>simp [intOf];omega
    ·obtain rfl : k = i:=by omega
     go_wp2
     go_roundw
     case rel=>exact ⟨k+1,_,by go_num,by omega,by first | rfl | exact World.drewN_drewN _ _ _⟩
     case measure=>simp [intOf];omega
  ·obtain rfl : i = n:=by omega
   go_wp2
   go_ret
   exact ⟨rfl,q,rfl⟩
end
end Go.Proofs.YtlfpdpbbkjnapaaGreatDoor
