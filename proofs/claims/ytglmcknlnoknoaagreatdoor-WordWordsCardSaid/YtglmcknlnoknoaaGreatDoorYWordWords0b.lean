/-
 Several texts in one,in their build order: Dw,LinP,LinQ,LinR,Dl,UtfS,UtfI,UtfL,Vc,Ve,Vf,SenP,PrsS,PrsR,PrsW,PrK,PrL,Vm,Li,RunD,RunT,Ue,Rng,AppIn,RngC,Ge,Each,Kt,WorT,Wl,Rgn,Rgq.
-/
import Derived.Lib.SpaceU
import Derived.RangeFuncNested
import Derived.RangeFuncBound
import Derived.RangeFuncCalls
import Derived.RangeFuncLeaves
import Derived.Shelf.Abstract
import Derived.Shelf.RegionOpen
import Derived.OwnWalkIn
import Derived.TacticsInMore
import Derived.LoopNIn
import Derived.LoopIn
import Derived.RangeFuncKeeps
import Derived.Deep.RegionHeld3
import Derived.CallsIn
import Derived.OrdersIn
import Derived.Deep.QuietTactic
import Derived.BigQuiet
import Derived.Test.YtglmcknlnoknoaaGreatDoorYWordWords0a
import Derived.Test.YtglmcknlnoknoaaGreatDoorW0a
import Derived.Test.YtglmcknlnoknoaaGreatDoorW2a
import Derived.Test.YtglmcknlnoknoaaGreatDoorW1a
import Derived.Test.YtglmcknlnoknoaaGreatDoorWWc
/- -/
namespace Go.Proofs.YtglmcknlnoknoaaGreatDoor
set_option maxRecDepth 100000
set_option maxHeartbeats 40000000
section
def wordD : DbP:=⟨[otherL,[67,114],[76,102],[78,101,119,108,105,110,101],[69,120,116,101,110,100],[90,119,106],[70,111,114,109,97,116],[82,101,103,105,111,110],[75,97,116,97,107,97,110,97],[72,101,98,114,101,119],[76,101,116,116,101,114],[81,117,111,116,101],[68,111,117,98,108,101],[77,105,100,78,117,109,76,101,116],[77,105,100,76,101,116,116,101,114],[77,105,100,78,117,109],[68,105,103,105,116],[76,111,119],[83,112,97,99,101],[80,105,99,116]],[[],[(13,13)],[(10,10)],[(11,12),(133,133),(8232,8233)],[(768,879),(1425,1469),(8204,8204),(12441,12442),(65024,65039),(127995,127999)],[(8205,8205)],[(173,173),(8206,8207),(8288,8288),(65279,65279)],[(127462,127487)],[(12449,12538),(12540,12540),(65382,65437)],[(1488,1514)],[(65,90),(97,122),(170,170),(181,181),(192,214),(216,246),(248,687),(880,883),(902,902),(904,1153),(1162,1366),(1568,1610),(7680,8124),(44032,55203),(64256,64262)],[(39,39)],[(34,34)],[(46,46),(8216,8217)],[(58,58),(183,183)],[(44,44),(59,59),(1644,1644)],[(48,57),(1632,1641)],[(95,95),(8255,8255)],[(32,32),(8192,8198),(12288,12288)],[(169,169),(174,174),(9728,10175),(127744,127994),(128000,128591),(128640,128767)]]⟩
theorem word_ok : wordD.okB = true:=by kernel_rfl
theorem wordOk : wordD.Ok∧Apart wordD.sets∧wordD.Named:=DbP.okB_spec word_ok
def gW (r : Int) : Nat:=wordD.get r
theorem gW_lt (r : Int) : gW r < 20:=get_lt wordOk.1 r
end
section
end
end Go.Proofs.YtglmcknlnoknoaaGreatDoor
/- -/
namespace Go.Proofs.YtglmcknlnoknoaaGreatDoor
set_option maxRecDepth 100000
set_option maxHeartbeats 40000000
section
section
variable {A B : List Int} {e : Int}
end
end
section
end
end Go.Proofs.YtglmcknlnoknoaaGreatDoor
/- -/
namespace Go.Proofs.YtglmcknlnoknoaaGreatDoor
set_option maxRecDepth 100000
set_option maxHeartbeats 40000000
section
end
section
end
end Go.Proofs.YtglmcknlnoknoaaGreatDoor
/- -/
namespace Go.Proofs.YtglmcknlnoknoaaGreatDoor
set_option maxRecDepth 100000
set_option maxHeartbeats 40000000
section
end
section
end
end Go.Proofs.YtglmcknlnoknoaaGreatDoor
/- -/
namespace Go.Proofs.YtglmcknlnoknoaaGreatDoor
set_option maxRecDepth 100000
set_option maxHeartbeats 40000000
section
open Go.RowKit Go.Maps
theorem ret_pair {a b c d : Value} (h1 : a = c) (h2 : b = d) : Ending.returned (.tuple #[a,b]) = .returned (.tuple #[c,d]):=by rw [h1,h2]
theorem vcut_any (L : List UInt8) (w : World) (hL : L.length≤1000000) :
  Calls Tryz.prog 229 #[.string (bytesOf L)] w fun e w'=>e = .returned (.tuple #[.string (bytesOf (L.take (hashP L))),.int .i64 (fv (findP 59 (L.take (hashP L))))])∧Below w.heap.size w w':=by
 have HIS:=Lib.hid (cutD_is L)
 have hsz : (bytesOf L).size = L.length:=bytesOf_size L
 go_enter Tryz.func229,Tryz.ntmps229
 go_wp2
 go_loopw [4,5] (fun a v wr=>∃ (semi : Option Nat) (i : Nat),a = .int .i64 (fv semi)∧v = .int .i64 i∧i≤L.length∧Hid (CutAt L i semi)∧Below w.heap.size w wr) (fun _ v _=>L.length - (intOf v).toNat)
 case atStart=>exact ⟨none,0,rfl,rfl,by omega,cutAt_first L,Below.refl _ _⟩
 case round =>
  obtain ⟨semi,i,rfl,rfl,hi,HC,hb⟩:=hrel
  by_cases hlt : i < L.length
  ·have HQ:=Lib.hid (sQuoted_any (bytesOf L) i wr (by omega) (by omega))
   have hqq:=quoted_qt (bytesOf L) i (by omega)
   rw [bytesOf_list] at hqq
   have hp : i < (bytesOf L).size:=by omega
   have hix:=index_at (bytesOf L) i i rfl hp
   obtain ⟨x,hx⟩ : ∃ x,(bytesOf L)[i]'hp = x:=⟨_,rfl⟩
   have Hx : Hid (L[i]? = some x):=Lib.hid (by have:=get_list hp;rw [bytesOf_list,hx] at this;exact this)
   have hgi : (((bytesOf L)[i]'hp).toNat : Int) = (x.toNat : Int):=by rw [hx]
   rw [hx] at hix
   clear hx
   cases hq : qtL (L.drop i) with
   | some k =>
    rw [hq] at hqq
    obtain ⟨q1,q2⟩:=hqq
    have HC':=Lib.hid (cutAt_qt HC.out hq)
    have hik : i+k≤L.length:=HC'.out.1
    generalize quotedP (bytesOf L) i = Q at HQ q1 q2
    obtain ⟨r,wd,ok⟩:=Q
    simp only at q1 q2
    subst q1
    have hk3:=(qtL_some hq).1
    clear hq
    go_wp2_with (go_at_call 278;refine HQ.out.mono ?_;rintro e w2 ⟨rfl,hb2⟩)
    go_roundw
    case rel=>exact ⟨semi,i+k,rfl,by go_num,hik,HC',below_step hb hb2 hb.size⟩
    case measure=>simp [intOf];omega
   | none =>
    rw [hq] at hqq
    generalize quotedP (bytesOf L) i = Q at HQ hqq
    obtain ⟨r,wd,ok⟩:=Q
    simp only at hqq
    subst hqq
    have h35 : x = 35 ↔ (x.toNat : Int) = 35:=by have h1 : x = 35 ↔ x.toNat = 35:=u8_eq (n:=35) (by omega);rw [h1];omega
    have h59 : x = 59 ↔ (x.toNat : Int) = 59:=by have h1 : x = 59 ↔ x.toNat = 59:=u8_eq (n:=59) (by omega);rw [h1];omega
    have HH:=Lib.hid (fun h=>cutAt_hash HC.out Hx.out hq (h35.2 h))
    have HS:=Lib.hid (fun h hs=>cutAt_semi HC.out Hx.out hq (h59.2 h) hs)
    have HGo:=Lib.hid (fun (h : ¬ (x.toNat : Int) = 35) (hs : ¬ ((x.toNat : Int) = 59∧semi = none))=>cutAt_go HC.out Hx.out hq (fun k=>h (h35.1 k)) (fun k=>hs ⟨h59.1 k.1,k.2⟩))
    generalize (x.toNat : Int) = z at hix hgi HH HS HGo
    clear h35 h59 hq
    rcases (by omega : z = 35∨z = 59∨(z ≠ 35∧z ≠ 59)) with hz | hz | ⟨hz,hz'⟩
    ·have HE:=HH.out hz
     rw [HIS.out] at HE
     injection HE with HE1 HE2
     have HE1:=Lib.hid HE1
     have HE2:=Lib.hid HE2
     have hzz : (z == 35) = true:=by rw [hz];rfl
     clear hz HH HS HGo
     go_wp2_with (go_at_call 278;refine HQ.out.mono ?_;rintro e w2 ⟨rfl,hb2⟩)
     go_ret2
     have h1:=ext_bytes0 L i
     rw [← HE1.out] at h1
     exact ⟨ret_pair (congrArg Value.string (by first | exact h1 | (rw [HE1.out] at h1 ⊢;exact h1) | rfl)) (congrArg (Value.int .i64) (by rw [HE2.out])),below_step hb hb2 hb.size⟩
    ·have hzz : (z == 35) = false:=by rw [hz];rfl
     have hzy : (z == 59) = true:=by rw [hz];rfl
     cases semi with
     | none =>
      have HC':=Lib.hid (HS.out hz rfl)
      have hfn : decide (fv none < 0) = true:=rfl
      clear hz HH HS HGo
      go_wp2_with (go_at_call 278;refine HQ.out.mono ?_;rintro e w2 ⟨rfl,hb2⟩)
      go_roundw
      case rel=>exact ⟨some i,i+1,rfl,by go_num,by omega,HC',below_step hb hb2 hb.size⟩
      case measure=>simp [intOf];omega
     | some k =>
      have HC':=Lib.hid (HGo.out (by omega) (fun h=>by cases h.2))
      have hfn : decide (fv (some k) < 0) = false:=decide_eq_false (by simp only [fv];omega)
      clear hz HH HS HGo
      go_wp2_with (go_at_call 278;refine HQ.out.mono ?_;rintro e w2 ⟨rfl,hb2⟩)
      go_roundw
      case rel=>exact ⟨some k,i+1,rfl,by go_num,by omega,HC',below_step hb hb2 hb.size⟩
      case measure=>simp [intOf];omega
    ·have hzz : (z == 35) = false:=beq_eq_false_iff_ne.2 hz
     have hzy : (z == 59) = false:=beq_eq_false_iff_ne.2 hz'
     have HC':=Lib.hid (HGo.out hz (fun h=>hz' h.1))
     clear hz hz' HH HS HGo
     go_wp2_with (go_at_call 278;refine HQ.out.mono ?_;rintro e w2 ⟨rfl,hb2⟩)
     go_roundw
     case rel=>exact ⟨semi,i+1,rfl,by go_num,by omega,HC',below_step hb hb2 hb.size⟩
     case measure=>simp [intOf];omega
  ·have HE:=cutAt_end HC.out hlt
   rw [HIS.out] at HE
   injection HE with HE1 HE2
   have HE1:=Lib.hid HE1
   have HE2:=Lib.hid HE2
   go_wp2
   go_ret2
   exact ⟨ret_pair (congrArg Value.string (by rw [HE1.out,List.take_length];try rfl)) (by rw [HE2.out];try rfl),hb⟩
end
section
open Go.RowKit Go.Maps
def hitR (x y : Int × Int) : Bool:=decide (x.1≤y.2) && decide (y.1≤x.2)
theorem meetB_any (a b : List (Int × Int)) : meetB a b = a.any fun x=>b.any fun y=>hitR x y:=rfl
theorem any_next {α : Type} {l : List α} {i : Nat} {x : α} {f : α→Bool} (h : (l.take i).any f = false) (hx : l[i]? = some x) (hf : f x = false) : (l.take (i+1)).any f = false:=by
 rw [List.take_add_one,hx];simp [List.any_append,h,hf]
theorem any_hit {α : Type} {l : List α} {i : Nat} {x : α} {f : α→Bool} (hx : l[i]? = some x) (hf : f x = true) : l.any f = true:=List.any_eq_true.2 ⟨x,List.mem_of_getElem? hx,hf⟩
theorem any_all {α : Type} {l : List α} {i : Nat} {f : α→Bool} (h : (l.take i).any f = false) (hi : ¬ i < l.length) : l.any f = false:=by rwa [List.take_of_length_le (by omega)] at h
theorem vmeet_any (A B : Option Addr) (n c m e : Nat) (l q : List (Int × Int)) (w : World) (hA : Rd w 2 A (l.map encR)) (hB : Rd w 2 B (q.map encR)) (hl : l.length = n) (hq : q.length = m) (hn : n≤4000000) (hm : m≤4000000) :
  Calls Tryz.prog 235 #[.slice A n c,.slice B m e] w fun e w'=>e = .returned (.bool (meetB l q))∧∃ k,w' = w.drewN k:=by
 have Hl:=Lib.hid hl
 have Hq:=Lib.hid hq
 have HMB:=Lib.hid (meetB_any l q)
 go_enter Tryz.func235,Tryz.ntmps235
 go_wp2
 go_loopw [5] (fun v wr=>∃ i k : Nat,v = .int .i64 i∧i≤n∧Hid ((l.take i).any (fun x=>q.any fun y=>hitR x y) = false)∧wr = w.drewN k) (fun v _=>n - (intOf v).toNat)
 case atStart=>exact ⟨0,0,rfl,by omega,by simp [Hid],rfl⟩
 case round =>
  obtain ⟨i,k,rfl,hi,HI,rfl⟩:=hrel
  by_cases hlt : i < n
  ·obtain ⟨bA,oA,x1,x2,rfl,Hx,hx1,hx2⟩:=hA.atR (k:=i) (by have:=Hl.out;omega)
   have hdi : decide (i < n) = true:=decide_eq_true hlt
   go_wp2_with fail
   go_loopw [6] (fun v wr=>∃ j k2 : Nat,v = .int .i64 j∧j≤m∧Hid ((q.take j).any (fun y=>hitR (x1,x2) y) = false)∧wr = w.drewN k2) (fun v _=>m - (intOf v).toNat)
   case atStart=>exact ⟨0,k,rfl,by omega,by simp [Hid],rfl⟩
   case round =>
    obtain ⟨j,k2,rfl,hj,HJ,rfl⟩:=hrel
    by_cases hltj : j < m
    ·obtain ⟨bB,oB,y1,y2,rfl,Hy,hy1,hy2⟩:=hB.atR (k:=j) (by have:=Hq.out;omega)
     rcases (by omega : ¬ x1≤y2∨(x1≤y2∧¬ y1≤x2)∨(x1≤y2∧y1≤x2)) with h1 | ⟨h1,h2⟩ | ⟨h1,h2⟩
     ·have HJ':=Lib.hid (any_next HJ.out Hy.out (show hitR (x1,x2) (y1,y2) = false by simp [hitR,h1]))
      have hd1 : decide (x1≤y2) = false:=decide_eq_false h1
      go_wp2_with fail
      go_quiet (fail)
      go_wp2
      go_roundw
      case rel=>exact ⟨j+1,_,by go_num,by omega,HJ',by first | rfl | exact World.drewN_drewN _ _ _⟩
      case measure=>simp [intOf];omega
     ·have HJ':=Lib.hid (any_next HJ.out Hy.out (show hitR (x1,x2) (y1,y2) = false by simp [hitR,h2]))
      have hd1 : decide (x1≤y2) = true:=decide_eq_true h1
      have hd2 : decide (y1≤x2) = false:=decide_eq_false h2
      go_wp2_with fail
      go_quiet (fail)
      go_wp2
      go_roundw
      case rel=>exact ⟨j+1,_,by go_num,by omega,HJ',by first | rfl | exact World.drewN_drewN _ _ _⟩
      case measure=>simp [intOf];omega
     ·have HE : Hid (meetB l q = true):=Lib.hid (by rw [HMB.out];exact any_hit Hx.out (any_hit Hy.out (show hitR (x1,x2) (y1,y2) = true by simp [hitR,h1,h2])))
      have hd1 : decide (x1≤y2) = true:=decide_eq_true h1
      have hd2 : decide (y1≤x2) = true:=decide_eq_true h2
      go_wp2_with fail
      go_quiet (fail)
      go_wp2
      go_ret
      exact ⟨by rw [HE.out];rfl,_,by first | rfl | exact World.drewN_drewN _ _ _⟩
    ·have HI':=Lib.hid (any_next HI.out Hx.out (any_all HJ.out (show ¬ j < q.length by have:=Hq.out;omega)))
     go_wp2
     go_roundw
     case rel=>exact ⟨i+1,k2,by go_num,by omega,HI',rfl⟩
     case measure=>simp [intOf];omega
  ·have HE : Hid (meetB l q = false):=Lib.hid (by rw [HMB.out];exact any_all HI.out (show ¬ i < l.length by have:=Hl.out;omega))
   go_wp2
   go_ret
   exact ⟨by rw [HE.out];rfl,k,rfl⟩
end
section
open Go.RowKit Go.Maps
structure Byt (w : World) (b : Nat) (L : List UInt8) : Prop where
 cell : ∀ j (h : j < L.length),w.cell? ⟨b,j,none⟩ = some (.int .u8 ((L[j]'h).toNat : Int))
 free : ∀ j,j < L.length→w.frozen? ⟨b,j,none⟩ = false
theorem Byt.set_ {w : World} {b : Nat} {L : List UInt8} (h : Byt w b L) {i : Nat} (hi : i < L.length) (c : UInt8) (v : Int) (hv : v = (c.toNat : Int)) : Byt (w.setCell ⟨b,i,none⟩ (.int .u8 v)) b (L.set i c):=by
 subst hv
 refine ⟨fun j hj=>?_,fun j hj=>?_⟩
 ·rw [List.length_set] at hj
  by_cases e : i = j
  ·subst e
   rw [World.cell?_setCell_same _ _ _ (h.cell i hi)];simp
  ·rw [World.cell?_setCell_other _ _ _ _ (fun k=>e (by injection k)),h.cell j hj];simp [List.getElem_set_ne e]
 ·rw [List.length_set] at hj
  rw [World.frozen?_setCell];exact h.free j hj
theorem byt_world (w : World) (l : List UInt8) : Byt (Lib.bytesWorld w 5 (bytesOf l)) w.heap.size l:=by
 refine ⟨fun j hj=>?_,fun j hj=>?_⟩
 ·have h1:=Lib.bytesWorld_cell w 5 (bytesOf l) j (by rw [bytesOf_size];exact hj)
  rw [bytesOf_list,List.getD_eq_getElem?_getD,List.getElem?_eq_getElem hj] at h1
  exact h1
 ·unfold World.frozen?
  rw [Lib.bytesWorld_at_new]
  have hc : l.length≤(Lib.bytesCells w 5 (bytesOf l)).size:=by
   simp [Lib.bytesCells]
   rw [bytesOf_size];omega
  simp;omega
theorem vspaced_any (l : List UInt8) (w : World) (hs : l.length≤1000000) : Calls Tryz.prog 233 #[.string (bytesOf l)] w fun e w'=>e = .returned (.string (bytesOf (spcL l)))∧Below w.heap.size w w':=by
 have hcv:=fun W=>Lib.run_convert_string_bytes (P:=Tryz.prog) W 9 164 5 (bytesOf l) Tryz.underlying9 Tryz.underlying164 Tryz.underlying5
 have hsz : (bytesOf l).size = l.length:=bytesOf_size l
 have Hlen : Hid ((spcL l).length = l.length):=Lib.hid (by unfold spcL;rw [List.length_map])
 go_enter Tryz.func233,Tryz.ntmps233
 go_wp2
 have hby:=byt_world w l
 have hbw:=below_bytesWorld w 5 (bytesOf l)
 generalize Lib.bytesWorld w 5 (bytesOf l) = w1 at hby hbw ⊢
 clear hcv
 go_loopw [4] (fun v wr=>∃ i : Nat,v = .int .i64 i∧i≤l.length∧Byt wr w.heap.size ((spcL l).take i++l.drop i)∧Below w.heap.size w wr) (fun v _=>l.length - (intOf v).toNat)
 case atStart=>exact ⟨0,rfl,by omega,by simpa using hby,hbw⟩
 case round =>
  clear hby hbw
  obtain ⟨i,rfl,hi,hB,hb⟩:=hrel
  have hll : ((spcL l).take i++l.drop i).length = l.length:=by rw [List.length_append,List.length_take,List.length_drop,Hlen.out];omega
  by_cases hlt : i < l.length
  ·obtain ⟨x,Hx⟩ : ∃ x,Hid (l[i]? = some x):=⟨_,Lib.hid (List.getElem?_eq_getElem hlt)⟩
   have hgx : ((spcL l).take i++l.drop i)[i]'(by omega) = x:=by
    have h1 : ((spcL l).take i++l.drop i)[i]? = some x:=by
     rw [List.getElem?_append_right (by rw [List.length_take,Hlen.out];omega),List.length_take,Hlen.out,Nat.min_eq_left (by omega),Nat.sub_self,List.getElem?_drop];exact Hx.out
    obtain ⟨_,h2⟩:=List.getElem?_eq_some_iff.1 h1
    exact h2
   have hc:=hB.cell i (by omega)
   rw [hgx] at hc
   have hf:=hB.free i (by omega)
   have hnext : ∀ y,y = (if x = 9 then 32 else x)→((spcL l).take i++l.drop i).set i y = (spcL l).take (i+1)++l.drop (i+1):=fun y hy=>by
    have h1 : (spcL l)[i]? = some y:=by unfold spcL;rw [List.getElem?_map,Hx.out,hy];rfl
    rw [drop_at Hx.out,List.take_add_one,h1]
    have h2 : ((spcL l).take i).length = i:=by rw [List.length_take,Hlen.out];omega
    have h3:=set_mid ((spcL l).take i) x y (l.drop (i+1))
    rw [h2] at h3
    rw [h3];simp
   by_cases hx9 : x = 9
   ·have hz : ((x.toNat : Int) == 9) = true:=by rw [hx9];rfl
    have HN:=Lib.hid (hnext 32 (by rw [if_pos hx9]))
    have HB:=Lib.hid (hB.set_ (i:=i) (by omega) 32 32 rfl)
    rw [HN.out] at HB
    clear hnext hx9 hgx
    go_wp2
    go_roundw
    case rel=>exact ⟨i+1,by go_num,by omega,HB.out,hb.setCell (p:=⟨w.heap.size,i,none⟩) (Nat.le_refl _) _⟩
    case measure=>simp [intOf];omega
   ·have hz : ((x.toNat : Int) == 9) = false:=beq_eq_false_iff_ne.2 (fun e=>hx9 ((u8_eq (n:=9) (by omega)).2 (by omega)))
    have HN:=Lib.hid (hnext x (by rw [if_neg hx9]))
    have hsame : ((spcL l).take i++l.drop i).set i x = (spcL l).take i++l.drop i:=by
     conv=>lhs;rw [← hgx]
     exact List.set_getElem_self _
    rw [hsame] at HN
    clear hnext hx9 hgx hsame
    go_wp2
    go_roundw
    case rel=>exact ⟨i+1,by go_num,by omega,by rw [← HN.out];exact hB,hb⟩
    case measure=>simp [intOf];omega
  ·have HE : Hid ((spcL l).take i++l.drop i = spcL l):=Lib.hid (by rw [List.take_of_length_le (by rw [Hlen.out];omega),List.drop_of_length_le (by omega),List.append_nil])
   rw [HE.out] at hB
   have hcb:=fun c=>run_convert_bytes_back (P:=Tryz.prog) wr 164 9 5 ⟨w.heap.size,0,none⟩ c (spcL l) Tryz.underlying164 Tryz.underlying5 Tryz.underlying9 (fun k hk=>by
    have e : (⟨w.heap.size,0,none⟩ : Addr).add k = ⟨w.heap.size,k,none⟩:=by
     unfold Addr.add
     split
     ·rename_i h0;rw [h0]
     ·simp
    rw [e];exact hB.cell k hk)
   rw [Hlen.out] at hcb
   go_wp2
   go_ret
   exact ⟨rfl,hb⟩
theorem take_sub {l : List UInt8} {a b : Nat} : (bytesOf l).extract a b = bytesOf ((l.drop a).take (b - a)):=ext_bytes2 l a b
theorem vLines_any (t : List UInt8) (w : World) (ht : t.length≤1000000) :
  Calls Tryz.prog 178 #[.string (bytesOf t)] w fun e w'=>∃ A n c,e = .returned (.slice A n c)∧Own w' w.heap.size 9 1 A n c ((splitL t).map encNm)∧Below w.heap.size w w':=by
 obtain ⟨i0,hi0,hz0,hz1,hz2⟩:=info_parts info_cloneS
 have hsz : (bytesOf t).size = t.length:=bytesOf_size t
 go_enter Tryz.func178,Tryz.ntmps178
 go_wp2
 go_loopw [3,4,5] (fun a f v wr=>∃ (i frm : Nat) (done : List (List UInt8)) (A : Option Addr) (n c : Nat),a = .slice A n c∧f = .int .i64 frm∧v = .int .i64 i∧i≤t.length∧n≤i∧frm≤i∧Hid (LinesAt t i frm done)∧Own wr w.heap.size 9 1 A n c (done.map encNm)∧Below w.heap.size w wr) (fun _ _ v _=>t.length - (intOf v).toNat)
 case atStart=>exact ⟨0,0,[],none,0,0,rfl,rfl,rfl,by omega,by omega,by omega,LinesAt.start t,Own.nil_ _ _ _ _,Below.refl _ _⟩
 case round =>
  obtain ⟨i,frm,done,A,n,c,rfl,rfl,rfl,hi,hni,hfi,HL,ho,hb⟩:=hrel
  have hszr:=hb.size
  by_cases hlt : i < t.length
  ·have hp : i < (bytesOf t).size:=by omega
   have hix:=index_at (bytesOf t) i i rfl hp
   obtain ⟨x,hx⟩ : ∃ x,(bytesOf t)[i]'hp = x:=⟨_,rfl⟩
   have Hx : Hid (t[i]? = some x):=Lib.hid (by have:=get_list hp;rw [bytesOf_list,hx] at this;exact this)
   have hgi : (((bytesOf t)[i]'hp).toNat : Int) = (x.toNat : Int):=by rw [hx]
   rw [hx] at hix
   clear hx
   by_cases hx10 : x = 10
   ·have hz : ((x.toNat : Int) == 10) = true:=by rw [hx10];rfl
    have HL':=Lib.hid (LinesAt.line HL.out (by rw [Hx.out,hx10]))
    have HX:=Lib.hid (take_sub (l:=t) (a:=frm) (b:=i))
    clear hx10
    go_wp2_with (at_builtin;go_must (refine wpList_app rfl (.tmp 16) (.tmp 21) _ rfl w.heap.size 9 i0 _ 1 16 Tryz.underlying122 hi0 hz0 hz1 hz2 rfl (by omega) A n c (done.map encNm) rfl (ho.alloc _) _ 1 1 [encNm ((t.drop frm).take (i - frm))] rfl rfl (Rd.newAt (by simp) (by simp [encNm,HX.out])) (encNm_ok [(t.drop frm).take (i - frm)]) (by unfold maxLen;omega) (by omega) (by simp;omega) ?_);intro A3 c3 w3 ho3 hg3 hA3;have hb3:=below_app (hb.alloc (by omega) _) hg3 (by simp;omega) (fun a ha=>(ho.lt a ha).1);clear hg3)
    have Ho3 : Own w3 w.heap.size 9 1 A3 (n+1) c3 ((done++[(t.drop frm).take (i - frm)]).map encNm):=by rw [List.map_append];exact ho3
    clear ho3
    go_roundw
    case rel=>exact ⟨i+1,i+1,_,A3,n+1,c3,rfl,by go_num,by go_num,by omega,by omega,by omega,HL',Ho3,hb3⟩
    case measure=>simp [intOf];omega
   ·have hz : ((x.toNat : Int) == 10) = false:=beq_eq_false_iff_ne.2 (fun e=>hx10 ((u8_eq (n:=10) (by omega)).2 (by omega)))
    have HL':=Lib.hid (LinesAt.byte HL.out Hx.out hx10)
    clear hx10
    go_wp2
    go_roundw
    case rel=>exact ⟨i+1,frm,done,A,n,c,rfl,rfl,by go_num,by omega,by omega,by omega,HL',ho,hb⟩
    case measure=>simp [intOf];omega
  ·obtain rfl : i = t.length:=by omega
   have HE:=Lib.hid (LinesAt.done HL.out)
   have HX:=Lib.hid (ext_bytes t frm)
   rw [hsz] at HX
   go_wp2_with (at_builtin;go_must (refine wpList_app rfl (.tmp 25) (.tmp 29) _ rfl w.heap.size 9 i0 _ 1 16 Tryz.underlying122 hi0 hz0 hz1 hz2 rfl (by omega) A n c (done.map encNm) rfl (ho.alloc _) _ 1 1 [encNm (t.drop frm)] rfl rfl (Rd.newAt (by simp) (by simp [encNm,HX.out])) (encNm_ok [t.drop frm]) (by unfold maxLen;omega) (by omega) (by simp;omega) ?_);intro A3 c3 w3 ho3 hg3 hA3;have hb3:=below_app (hb.alloc (by omega) _) hg3 (by simp;omega) (fun a ha=>(ho.lt a ha).1);clear hg3)
   go_ret
   exact ⟨A3,n+1,c3,rfl,by rw [HE.out,List.map_append];exact ho3,hb3⟩
end
section
end
end Go.Proofs.YtglmcknlnoknoaaGreatDoor
/- -/
namespace Go.Proofs.YtglmcknlnoknoaaGreatDoor
set_option maxRecDepth 100000
set_option maxHeartbeats 40000000
section
def toI (c : List Nat) : List Int:=c.map fun (x : Nat)=>(x : Int)
theorem toI_get (c : List Nat) (i : Nat) : (toI c).getD i 0 = ((c.getD i 0 : Nat) : Int):=by
 unfold toI
 rw [List.getD_eq_getElem?_getD,List.getD_eq_getElem?_getD,List.getElem?_map]
 cases c[i]? <;> rfl
theorem ahead_succ {c : List Nat} {n : Nat} (h : n < c.length) : (c.take (n+1)).reverse = c.getD n 0 :: (c.take n).reverse:=by
 rw [List.take_add_one,List.getElem?_eq_getElem h,List.reverse_append,List.getD_eq_getElem?_getD,List.getElem?_eq_getElem h];rfl
def tests : List RB:=[
 ⟨false,eat [.one [1]],eat [.one [2]]⟩,
 ⟨true,eat [.one [1,2,3]],eat []⟩,
 ⟨false,eat [],eat [.one [13]]⟩,
 ⟨false,eat [.many [13],.one [9]],eat [.one [8]]⟩,
 ⟨false,eat [.many [13],.one [9],.many [13],.one [6,5]],eat [.one [6]]⟩,
 ⟨false,eat [.many [4,13],.many [11,13],.one [9]],eat [.many [0,4,8,11,12,13],.one [5]]⟩,
 ⟨false,eat [.many [4,13],.many [11,13],.one [9,10]],eat [.one [12,9,10]]⟩,
 ⟨false,eat [.many [11,13],.one [9,10]],eat [.one [11,4,3,1,2]]⟩,
 ⟨false,eat [.many [4,13],.many [11,13],.one [9,10]],eat [.one [4,3,1,2]]⟩,
 ⟨true,eat [.many [4,13],.many [11,13],.one [9,10]],eat []⟩]
end
section
def skH (hs r : List Nat) : List Nat:=r.dropWhile fun x=>hs.contains x
def regR (hs : List Nat) (k : Nat) : List Nat→Nat
 | []=>0
 | x :: r=>if hs.contains x then regR hs k r else if x = k then regR hs k r+1 else 0
theorem regR_drop (hs : List Nat) (k : Nat) : ∀ r,regR hs k r = match skH hs r with | []=>0 | x :: t=>if x = k then regR hs k t+1 else 0
 | []=>rfl
 | x :: r=>by
  unfold skH
  rw [regR,List.dropWhile_cons]
  split
  ·exact regR_drop hs k r
  ·rfl
theorem drop_head {P : Nat→Bool} : ∀ {r : List Nat} {x : Nat} {t : List Nat},r.dropWhile P = x :: t→P x = false
 | [],_,_,h=>by simp at h
 | y :: r,x,t,h=>by
  rw [List.dropWhile_cons] at h
  split at h
  ·exact drop_head h
  ·rename_i hy
   injection h with h1 _
   subst h1
   exact Bool.eq_false_iff.2 hy
theorem count_none {hs : List Nat} {k : Nat} (hk : k ∉ hs) {u : List Nat} (h : ∀ x ∈ u,x ∈ hs) : u.count k = 0:=List.count_eq_zero.2 fun hm=>hk (h k hm)
def pairQ (Hp : Pat) (k : Nat) : Pat:=.node 2 [] [setQ k,Hp,setQ k,Hp]
theorem pair_iff {hs : List Nat} {Hp : Pat} (hH : ∀ u,Lang Hp u ↔ ∀ x ∈ u,x ∈ hs) (k : Nat) (u : List Nat) : Lang (pairQ Hp k) u ↔ ∃ h1 h2,u = k :: (h1++k :: h2)∧(∀ x ∈ h1,x ∈ hs)∧∀ x ∈ h2,x ∈ hs:=by
 unfold pairQ
 rw [lang_then]
 simp only [LangT,setQ,lang_set,One,hH]
 constructor
 ·rintro ⟨_,_,rfl,⟨y,rfl,hy⟩,h1,_,rfl,g1,_,_,rfl,⟨z,rfl,hz⟩,h2,_,rfl,g2,rfl⟩
  have hy : y = k:=by simpa using hy
  have hz : z = k:=by simpa using hz
  rw [hy,hz]
  exact ⟨h1,h2,by simp,g1,g2⟩
 ·rintro ⟨h1,h2,rfl,g1,g2⟩
  exact ⟨[k],h1++k :: h2,rfl,⟨k,rfl,by simp⟩,h1,k :: h2,rfl,g1,[k],h2,rfl,⟨k,rfl,by simp⟩,h2,[],by simp,g2,rfl⟩
theorem odd_go {hs : List Nat} {Hp : Pat} {k : Nat} (hk : k ∉ hs) (hH : ∀ u,Lang Hp u ↔ ∀ x ∈ u,x ∈ hs) : ∀ (z : Nat) (v : List Nat),v.length≤z→(∀ x ∈ v,x ∈ hs∨x = k)→v.count k % 2 = 1→(∀ x r,v = x :: r→x = k)→∃ s h,v = s++k :: h∧Star (Lang (pairQ Hp k)) s∧∀ x ∈ h,x ∈ hs
 | z,[],_,_,hc,_=>by simp at hc
 | 0,x :: t,hz,_,_,_=>by simp at hz
 | z+1,x :: t,hz,hv,hc,hh=>by
  have hx:=hh x t rfl
  subst hx
  have ht : t = t.takeWhile (fun x=>hs.contains x)++t.dropWhile (fun x=>hs.contains x):=List.takeWhile_append_dropWhile.symm
  have hin:=take_in hs t
  generalize t.takeWhile (fun x=>hs.contains x) = h1 at ht hin
  cases hd : t.dropWhile (fun x=>hs.contains x) with
  | nil =>
   rw [hd,List.append_nil] at ht
   rw [ht]
   exact ⟨[],h1,rfl,.nil,hin⟩
  | cons y t2 =>
   rw [hd] at ht
   have hy : y = x:=by
    have h2:=drop_head hd
    rcases hv y (by rw [ht];simp) with h3 | h3
    ·rw [List.contains_iff_mem.2 h3] at h2;cases h2
    ·exact h3
   subst hy
   have ht2 : t2 = t2.takeWhile (fun x=>hs.contains x)++t2.dropWhile (fun x=>hs.contains x):=List.takeWhile_append_dropWhile.symm
   have hin2:=take_in hs t2
   generalize t2.takeWhile (fun x=>hs.contains x) = h2 at ht2 hin2
   cases hd2 : t2.dropWhile (fun x=>hs.contains x) with
   | nil =>
    rw [hd2,List.append_nil] at ht2
    rw [ht,ht2] at hc
    simp [List.count_append,count_none hk hin,count_none hk hin2] at hc
   | cons w t3 =>
    rw [hd2] at ht2
    have hw : w = y:=by
     have h3:=drop_head hd2
     rcases hv w (by rw [ht,ht2];simp) with h4 | h4
     ·rw [List.contains_iff_mem.2 h4] at h3;cases h3
     ·exact h4
    have hl : (w :: t3).length≤z:=by
     have : (y :: t).length≤z+1:=hz
     rw [ht,ht2] at this
     simp at this ⊢
     omega
    obtain ⟨s,h,e,hs1,hs2⟩:=odd_go hk hH z (w :: t3) hl (fun x hx=>hv x (by rw [ht,ht2];simp only [List.mem_cons,List.mem_append] at hx ⊢;exact .inr (.inr (.inr (.inr hx))))) (by
     rw [ht,ht2] at hc
     simp only [List.count_cons_self,List.count_append,count_none hk hin,count_none hk hin2] at hc
     omega) (fun x r hx=>by injection hx with hx _;rw [← hx,hw])
    refine ⟨y :: (h1++y :: h2)++s,h,?_,.app ((pair_iff hH y _).2 ⟨h1,h2,rfl,hin,hin2⟩) hs1,hs2⟩
    rw [ht,ht2,e]
    simp
def flagsQ (Hp : Pat) (k : Nat) : List Pat:=[Hp,.node 4 [] [pairQ Hp k],setQ k,Hp]
theorem flags_iff {hs : List Nat} {Hp : Pat} {k : Nat} (hk : k ∉ hs) (hH : ∀ u,Lang Hp u ↔ ∀ x ∈ u,x ∈ hs) (u : List Nat) : LangT (flagsQ Hp k) u ↔ (∀ x ∈ u,x ∈ hs∨x = k)∧u.count k % 2 = 1:=by
 unfold flagsQ
 simp only [LangT,lang_many,hH]
 constructor
 ·rintro ⟨h0,_,rfl,g0,s,_,rfl,gs,_,_,rfl,gk,h1,_,rfl,g1,rfl⟩
  obtain ⟨y,rfl,hy⟩:=(lang_set [k] [] _).1 gk
  have hy : y = k:=by simpa using hy
  subst hy
  have h : (∀ x ∈ s,x ∈ hs∨x = y)∧s.count y % 2 = 0:=by
   induction gs with
   | nil=>simp
   | app ha _ ih =>
    obtain ⟨a1,a2,rfl,b1,b2⟩:=(pair_iff hH y _).1 ha
    refine ⟨fun x hx=>?_,?_⟩
    ·simp only [List.mem_append,List.mem_cons] at hx
     rcases hx with (h | h | h | h) | h
     ·exact .inr h
     ·exact .inl (b1 x h)
     ·exact .inr h
     ·exact .inl (b2 x h)
     ·exact ih.1 x h
    ·have:=ih.2
     simp only [List.count_append,List.count_cons_self,count_none hk b1,count_none hk b2]
     omega
  refine ⟨fun x hx=>?_,?_⟩
  ·simp only [List.mem_append,List.mem_singleton,List.append_nil] at hx
   rcases hx with h2 | h2 | h2 | h2
   ·exact .inl (g0 x h2)
   ·exact h.1 x h2
   ·exact .inr h2
   ·exact .inl (g1 x h2)
  ·have:=h.2
   simp only [List.append_nil,List.count_append,List.count_cons_self,List.count_nil,count_none hk g0,count_none hk g1]
   omega
 ·rintro ⟨hv,hc⟩
  have ht : u = u.takeWhile (fun x=>hs.contains x)++u.dropWhile (fun x=>hs.contains x):=List.takeWhile_append_dropWhile.symm
  have hin:=take_in hs u
  have hdh:=fun x r (h : u.dropWhile (fun x=>hs.contains x) = x :: r)=>drop_head h
  generalize u.takeWhile (fun x=>hs.contains x) = h0 at ht hin
  generalize u.dropWhile (fun x=>hs.contains x) = d at ht hdh
  have hvd : ∀ x ∈ d,x ∈ hs∨x = k:=fun x hx=>hv x (by rw [ht];simp [hx])
  obtain ⟨s,h,e,hs1,hs2⟩:=odd_go hk hH d.length d (Nat.le_refl _) hvd (by
   rw [ht,List.count_append,count_none hk hin] at hc
   omega) (fun x r h=>by
    have h3:=hdh x r h
    rcases hvd x (by rw [h];simp) with h4 | h4
    ·rw [List.contains_iff_mem.2 h4] at h3;cases h3
    ·exact h4)
  exact ⟨h0,d,ht,hin,s,k :: h,e,hs1,[k],h,rfl,(lang_set [k] [] _).2 ⟨k,rfl,by simp⟩,h,[],by simp,hs2,rfl⟩
def isF (hs : List Nat) (k x : Nat) : Bool:=hs.contains x || x == k
def oddA (hs : List Nat) (k : Nat) (r : List Nat) : Bool:=r.all (isF hs k) && r.count k % 2 == 1
def oddB (hs : List Nat) (k : Nat) (cs r : List Nat) : Bool:=(match r.dropWhile (isF hs k) with | []=>false | y :: _=>cs.contains y) && (r.takeWhile (isF hs k)).count k % 2 == 1
theorem isF_iff {hs : List Nat} {k x : Nat} : isF hs k x = true ↔ x ∈ hs∨x = k:=by unfold isF;simp
theorem eats_oddA {hs : List Nat} {Hp q : Pat} {k : Nat} {fs : List El} (hk : k ∉ hs) (hH : ∀ u,Lang Hp u ↔ ∀ x ∈ u,x ∈ hs) (h2 : elsP q = some fs) (o2 : okE fs = true) : Eats ⟨false,true,false,.node 2 [] (flagsQ Hp k),q⟩ ⟨false,oddA hs k,eat fs⟩ :=
 ⟨rfl,fun a=>by
  have e : Ahead true (Lang (.node 2 [] (flagsQ Hp k))) a ↔ LangT (flagsQ Hp k) a:=by
   constructor
   ·rintro ⟨u,v,rfl,h,hl⟩
    rw [h rfl,List.nil_append]
    exact (lang_then [] _ _).1 hl
   ·intro h
    exact ⟨[],a,rfl,fun _=>rfl,(lang_then [] _ _).2 h⟩
  show Ahead true _ a ↔ _
  rw [e,flags_iff hk hH]
  unfold oddA
  simp only [List.all_reverse,List.count_reverse,Bool.and_eq_true,List.all_eq_true,isF_iff,beq_iff_eq],fun b=>behind_pat h2 o2 b⟩
theorem take_all {P : Nat→Bool} {y : Nat} (hy : P y = false) (r : List Nat) : ∀ (v : List Nat),(∀ x ∈ v,P x = true)→(v++y :: r).takeWhile P = v∧(v++y :: r).dropWhile P = y :: r
 | [],_=>by rw [List.nil_append,List.takeWhile_cons,List.dropWhile_cons,hy];exact ⟨rfl,rfl⟩
 | x :: v,h=>by
  have:=take_all hy r v fun z hz=>h z (List.mem_cons_of_mem _ hz)
  rw [List.cons_append,List.takeWhile_cons,List.dropWhile_cons,h x (by simp),this.1,this.2]
  exact ⟨rfl,rfl⟩
theorem take_allR (P : Nat→Bool) : ∀ (r : List Nat),∀ x ∈ r.takeWhile P,P x = true
 | [],x,h=>by simp at h
 | y :: r,x,h=>by
  rw [List.takeWhile_cons] at h
  split at h
  ·rename_i hy
   rcases List.mem_cons.1 h with rfl | h
   ·exact hy
   ·exact take_allR P r x h
  ·simp at h
theorem eats_oddB {hs cs : List Nat} {Hp q : Pat} {k : Nat} {fs : List El} (hk : k ∉ hs) (hc : ∀ x ∈ cs,isF hs k x = false) (hH : ∀ u,Lang Hp u ↔ ∀ x ∈ u,x ∈ hs) (h2 : elsP q = some fs) (o2 : okE fs = true) : Eats ⟨false,false,false,.node 2 [] (.node 1 cs [] :: flagsQ Hp k),q⟩ ⟨false,oddB hs k cs,eat fs⟩ :=
 ⟨rfl,fun a=>by
  have e : Ahead false (Lang (.node 2 [] (.node 1 cs [] :: flagsQ Hp k))) a ↔ ∃ u y v,a = u++y :: v∧y ∈ cs∧(∀ x ∈ v,x ∈ hs∨x = k)∧v.count k % 2 = 1:=by
   constructor
   ·rintro ⟨u,v,rfl,_,hl⟩
    have hl:=(lang_then [] _ _).1 hl
    unfold LangT at hl
    obtain ⟨_,w,rfl,h1,hw⟩:=hl
    obtain ⟨y,rfl,hy⟩:=(lang_set cs [] _).1 h1
    have:=(flags_iff hk hH w).1 hw
    exact ⟨u,y,w,rfl,hy,this.1,this.2⟩
   ·rintro ⟨u,y,v,rfl,hy,h1,h2⟩
    refine ⟨u,y :: v,rfl,(fun h=>by cases h),(lang_then [] _ _).2 ?_⟩
    unfold LangT
    exact ⟨[y],v,rfl,(lang_set cs [] _).2 ⟨y,rfl,hy⟩,(flags_iff hk hH v).2 ⟨h1,h2⟩⟩
  show Ahead false _ a ↔ _
  rw [e]
  unfold oddB
  rw [Bool.and_eq_true,beq_iff_eq]
  constructor
  ·rintro ⟨u,y,v,rfl,hy,h1,h2⟩
   have e2 : (u++y :: v).reverse = v.reverse++y :: u.reverse:=by simp
   obtain ⟨e3,e4⟩:=take_all (P:=isF hs k) (hc y hy) u.reverse v.reverse (fun x hx=>isF_iff.2 (h1 x (by simpa using hx)))
   rw [e2,e3,e4,List.count_reverse]
   exact ⟨by simpa using hy,h2⟩
  ·rintro ⟨h1,h2⟩
   have h3 : a.reverse = a.reverse.takeWhile (isF hs k)++a.reverse.dropWhile (isF hs k):=List.takeWhile_append_dropWhile.symm
   have h4:=take_allR (isF hs k) a.reverse
   cases hd : a.reverse.dropWhile (isF hs k) with
   | nil=>rw [hd] at h1;cases h1
   | cons y t =>
    rw [hd] at h1 h3
    simp only [List.contains_iff_mem] at h1
    generalize a.reverse.takeWhile (isF hs k) = v at h2 h3 h4
    refine ⟨t.reverse,y,v.reverse,?_,h1,fun x hx=>isF_iff.1 (h4 x (by simpa using hx)),by rw [List.count_reverse];exact h2⟩
    have:=congrArg List.reverse h3
    rw [List.reverse_reverse] at this
    rw [this];simp,fun b=>behind_pat h2 o2 b⟩
theorem reg_count {hs : List Nat} {k : Nat} (hk : k ∉ hs) : ∀ r,regR hs k r = (r.takeWhile (isF hs k)).count k
 | []=>by simp [regR]
 | x :: r=>by
  have ih:=reg_count hk r
  rw [regR,List.takeWhile_cons]
  by_cases h1 : hs.contains x = true
  ·have hx : x ≠ k:=fun e=>hk (by rw [← e];exact List.contains_iff_mem.1 h1)
   rw [if_pos h1,if_pos (isF_iff.2 (.inl (List.contains_iff_mem.1 h1))),ih,List.count_cons_of_ne hx]
  ·by_cases h2 : x = k
   ·subst h2
    rw [if_neg h1,if_pos rfl,if_pos (isF_iff.2 (.inr rfl)),ih,List.count_cons_self]
   ·rw [if_neg h1,if_neg h2,if_neg (fun h=>(isF_iff.1 h).elim (fun h=>h1 (List.contains_iff_mem.2 h)) h2)]
    rfl
theorem odd_both {hs cs : List Nat} {k : Nat} (hk : k ∉ hs) {r : List Nat} (hr : ∀ x ∈ r,x ∈ cs∨isF hs k x = true) : (oddA hs k r || oddB hs k cs r) = (regR hs k r % 2 == 1):=by
 rw [reg_count hk]
 unfold oddA oddB
 have h3 : r = r.takeWhile (isF hs k)++r.dropWhile (isF hs k):=List.takeWhile_append_dropWhile.symm
 have h4:=take_allR (isF hs k) r
 cases hd : r.dropWhile (isF hs k) with
 | nil =>
  rw [hd,List.append_nil] at h3
  have h5 : r.all (isF hs k) = true:=List.all_eq_true.2 (by rw [h3];exact h4)
  rw [h5,← h3]
  simp
 | cons y t =>
  have h5:=drop_head hd
  have hy : y ∈ r:=by rw [h3,hd];simp
  have h6 : r.all (isF hs k) = false:=Bool.eq_false_iff.2 fun h=>by
   rw [List.all_eq_true.1 h y hy] at h5;cases h5
  have h7 : cs.contains y = true:=by
   rcases hr y hy with h | h
   ·exact List.contains_iff_mem.2 h
   ·rw [h] at h5;cases h5
  rw [h6]
  simp only [h7,Bool.false_and,Bool.false_or,Bool.true_and]
def nearH (hs r : List Nat) : Nat:=(skH hs r).head?.getD 99
def farH (hs r : List Nat) : Nat:=nearH hs (skH hs r).tail
theorem eat_near1 (hs l r : List Nat) (h99 : l.contains 99 = false) : eat [.many hs,.one l] r = l.contains (nearH hs r):=by
 unfold nearH skH
 rw [eat]
 cases r.dropWhile (fun x=>hs.contains x) with
 | nil=>exact h99.symm
 | cons x t=>simp [eat]
theorem eat_near2 (hs l m r : List Nat) (hl : l.contains 99 = false) (hm : m.contains 99 = false) : eat [.many hs,.one l,.many hs,.one m] r = (l.contains (nearH hs r) && m.contains (farH hs r)):=by
 unfold farH nearH
 rw [show skH hs r = r.dropWhile (fun x=>hs.contains x) from rfl,eat]
 cases r.dropWhile (fun x=>hs.contains x) with
 | nil=>simp only [List.head?_nil,Option.getD_none,hl];rfl
 | cons x t =>
  rw [eat,eat_near1 hs m t hm]
  rfl
end
section
def setS (l : List Nat) : Pat:=.node 1 l []
def hangQ : Pat:=.node 4 [] [setS [4,5,6]]
def seqQ (l : List Pat) : Pat:=.node 2 [] l
def noneQ : Pat:=.node 0 [] []
def rulesW : List RuleP:=[
 ⟨false,false,false,setQ 1,setQ 2⟩,
 ⟨true,false,false,setS [1,2,3],noneQ⟩,
 ⟨true,false,false,noneQ,setS [1,2,3]⟩,
 ⟨false,false,false,setQ 5,setQ 19⟩,
 ⟨false,false,false,setQ 18,setQ 18⟩,
 ⟨false,false,false,noneQ,setS [4,5,6]⟩,
 ⟨false,false,false,seqQ [setS [9,10],hangQ],setS [9,10]⟩,
 ⟨false,false,false,seqQ [setS [9,10],hangQ],seqQ [setS [11,13,14],hangQ,setS [9,10]]⟩,
 ⟨false,false,false,seqQ [setS [9,10],hangQ,setS [11,13,14],hangQ],setS [9,10]⟩,
 ⟨false,false,false,seqQ [setQ 9,hangQ],setQ 11⟩,
 ⟨false,false,false,seqQ [setQ 9,hangQ],seqQ [setQ 12,hangQ,setQ 9]⟩,
 ⟨false,false,false,seqQ [setQ 9,hangQ,setQ 12,hangQ],setQ 9⟩,
 ⟨false,false,false,seqQ [setQ 16,hangQ],setQ 16⟩,
 ⟨false,false,false,seqQ [setS [9,10],hangQ],setQ 16⟩,
 ⟨false,false,false,seqQ [setQ 16,hangQ],setS [9,10]⟩,
 ⟨false,false,false,seqQ [setQ 16,hangQ,setS [11,13,15],hangQ],setQ 16⟩,
 ⟨false,false,false,seqQ [setQ 16,hangQ],seqQ [setS [11,13,15],hangQ,setQ 16]⟩,
 ⟨false,false,false,seqQ [setQ 8,hangQ],setQ 8⟩,
 ⟨false,false,false,seqQ [setS [8,9,10,16,17],hangQ],setQ 17⟩,
 ⟨false,false,false,seqQ [setQ 17,hangQ],setS [8,9,10,16]⟩,
 ⟨false,true,false,seqQ (flagsQ hangQ 7),setQ 7⟩,
 ⟨false,false,false,seqQ (setS [0,1,2,3,8,9,10,11,12,13,14,15,16,17,18,19] :: flagsQ hangQ 7),setQ 7⟩]
def testsW : List RB:=[
 ⟨false,eat [.one [1]],eat [.one [2]]⟩,
 ⟨true,eat [.one [1,2,3]],eat []⟩,
 ⟨true,eat [],eat [.one [1,2,3]]⟩,
 ⟨false,eat [.one [5]],eat [.one [19]]⟩,
 ⟨false,eat [.one [18]],eat [.one [18]]⟩,
 ⟨false,eat [],eat [.one [4,5,6]]⟩,
 ⟨false,eat [.many [4,5,6],.one [9,10]],eat [.one [9,10]]⟩,
 ⟨false,eat [.many [4,5,6],.one [9,10]],eat [.one [11,13,14],.many [4,5,6],.one [9,10]]⟩,
 ⟨false,eat [.many [4,5,6],.one [11,13,14],.many [4,5,6],.one [9,10]],eat [.one [9,10]]⟩,
 ⟨false,eat [.many [4,5,6],.one [9]],eat [.one [11]]⟩,
 ⟨false,eat [.many [4,5,6],.one [9]],eat [.one [12],.many [4,5,6],.one [9]]⟩,
 ⟨false,eat [.many [4,5,6],.one [12],.many [4,5,6],.one [9]],eat [.one [9]]⟩,
 ⟨false,eat [.many [4,5,6],.one [16]],eat [.one [16]]⟩,
 ⟨false,eat [.many [4,5,6],.one [9,10]],eat [.one [16]]⟩,
 ⟨false,eat [.many [4,5,6],.one [16]],eat [.one [9,10]]⟩,
 ⟨false,eat [.many [4,5,6],.one [11,13,15],.many [4,5,6],.one [16]],eat [.one [16]]⟩,
 ⟨false,eat [.many [4,5,6],.one [16]],eat [.one [11,13,15],.many [4,5,6],.one [16]]⟩,
 ⟨false,eat [.many [4,5,6],.one [8]],eat [.one [8]]⟩,
 ⟨false,eat [.many [4,5,6],.one [8,9,10,16,17]],eat [.one [17]]⟩,
 ⟨false,eat [.many [4,5,6],.one [17]],eat [.one [8,9,10,16]]⟩,
 ⟨false,oddA [4,5,6] 7,eat [.one [7]]⟩,
 ⟨false,oddB [4,5,6] 7 [0,1,2,3,8,9,10,11,12,13,14,15,16,17,18,19],eat [.one [7]]⟩]
theorem hangQ_iff (u : List Nat) : Lang hangQ u ↔ ∀ x ∈ u,x ∈ [4,5,6]:=by
 unfold hangQ setS
 rw [lang_many,star_congr (lang_set [4,5,6] []),star_set]
theorem eats_W : EatsL rulesW testsW :=
 .cons (.pat rfl rfl rfl rfl) <| .cons (.pat rfl rfl rfl rfl) <| .cons (.pat rfl rfl rfl rfl) <| .cons (.pat rfl rfl rfl rfl) <| .cons (.pat rfl rfl rfl rfl) <|
 .cons (.pat rfl rfl rfl rfl) <| .cons (.pat rfl rfl rfl rfl) <| .cons (.pat rfl rfl rfl rfl) <| .cons (.pat rfl rfl rfl rfl) <| .cons (.pat rfl rfl rfl rfl) <|
 .cons (.pat rfl rfl rfl rfl) <| .cons (.pat rfl rfl rfl rfl) <| .cons (.pat rfl rfl rfl rfl) <| .cons (.pat rfl rfl rfl rfl) <| .cons (.pat rfl rfl rfl rfl) <|
 .cons (.pat rfl rfl rfl rfl) <| .cons (.pat rfl rfl rfl rfl) <| .cons (.pat rfl rfl rfl rfl) <| .cons (.pat rfl rfl rfl rfl) <| .cons (.pat rfl rfl rfl rfl) <|
 .cons (eats_oddA (by decide) hangQ_iff rfl rfl) <| .cons (eats_oddB (by decide) (by decide) hangQ_iff rfl rfl) .nil
def lateW (q a z n : Nat) : Bool :=
 ([9,10].contains a && [9,10].contains q) || ([9,10].contains a && ([11,13,14].contains q && [9,10].contains n)) || (([11,13,14].contains a && [9,10].contains z) && [9,10].contains q) ||
 ([9].contains a && [11].contains q) || ([9].contains a && ([12].contains q && [9].contains n)) || (([12].contains a && [9].contains z) && [9].contains q) ||
 ([16].contains a && [16].contains q) || ([9,10].contains a && [16].contains q) || ([16].contains a && [9,10].contains q) ||
 (([11,13,15].contains a && [16].contains z) && [16].contains q) || ([16].contains a && ([11,13,15].contains q && [16].contains n)) ||
 ([8].contains a && [8].contains q) || ([8,9,10,16,17].contains a && [17].contains q) || ([17].contains a && [8,9,10,16].contains q)
def toW (a : Nat) : Int:=if a = 99 then -1 else a
def repW (z : Nat) : Nat:=if z = 9 then 9 else if z = 10 then 10 else if z = 16 then 16 else 0
def clsW : List Nat:=99 :: List.range 20
theorem late_all : (List.range 20).all (fun q=>clsW.all fun a=>[0,9,10,16].all fun z=>[0,9,10,16].all fun n=>lateW q a z n == wLetters (toW z) (toW a) (q : Int) (toW n)) = true:=by decide +kernel
theorem repW_in (z : Nat) : repW z ∈ [0,9,10,16]:=by unfold repW;split;decide;split;decide;split;decide;decide
theorem repW_c (z : Nat) : [9,10].contains (repW z) = [9,10].contains z∧[9].contains (repW z) = [9].contains z∧[16].contains (repW z) = [16].contains z:=by
 unfold repW
 split
 ·rename_i h;subst h;decide
 split
 ·rename_i h;subst h;decide
 split
 ·rename_i h;subst h;decide
 ·rename_i h1 h2 h3
  refine ⟨?_,?_,?_⟩
  ·rw [Bool.eq_iff_iff];simp [h1,h2]
  ·rw [Bool.eq_iff_iff];simp [h1]
  ·rw [Bool.eq_iff_iff];simp [h3]
theorem toW_eq (z : Nat) (m : Nat) (hm : m < 99) : (toW z == (m : Int)) = (z == m):=by
 unfold toW
 rw [Bool.eq_iff_iff,beq_iff_eq,beq_iff_eq]
 split <;> omega
theorem toW_iff (z : Nat) (m : Nat) (hm : m < 99) : toW z = (m : Int) ↔ z = m:=by
 have h:=toW_eq z m hm
 rwa [Bool.eq_iff_iff,beq_iff_eq,beq_iff_eq] at h
theorem toW_rep (z : Nat) : wLet (toW (repW z)) = wLet (toW z)∧(toW (repW z) == 9) = (toW z == 9)∧(toW (repW z) == 16) = (toW z == 16):=by
 have h9:=fun z=>toW_eq z 9 (by omega)
 have h10:=fun z=>toW_eq z 10 (by omega)
 have h16:=fun z=>toW_eq z 16 (by omega)
 simp only [Int.cast_ofNat_Int] at h9 h10 h16
 unfold wLet
 rw [h9,h10,h16,h9,h10,h16]
 unfold repW
 split
 ·rename_i h;subst h;decide
 split
 ·rename_i h;subst h;decide
 split
 ·rename_i h;subst h;decide
 ·rename_i h1 h2 h3
  refine ⟨?_,?_,?_⟩ <;> rw [Bool.eq_iff_iff] <;> simp [h1,h2,h3]
theorem late_rep (q a z n : Nat) : lateW q a (repW z) (repW n) = lateW q a z n:=by
 obtain ⟨a1,a2,a3⟩:=repW_c z
 obtain ⟨b1,b2,b3⟩:=repW_c n
 unfold lateW
 rw [a1,a2,a3,b1,b2,b3]
theorem letters_rep (z n : Nat) (a q : Int) : wLetters (toW (repW z)) a q (toW (repW n)) = wLetters (toW z) a q (toW n):=by
 obtain ⟨a1,a2,a3⟩:=toW_rep z
 obtain ⟨b1,b2,b3⟩:=toW_rep n
 unfold wLetters
 rw [a1,a2,a3,b1,b2,b3]
theorem late_eq {q a : Nat} (hq : q < 20) (ha : a ∈ clsW) (z n : Nat) : lateW q a z n = wLetters (toW z) (toW a) (q : Int) (toW n):=by
 have h:=late_all
 rw [List.all_eq_true] at h
 have h:=h q (by simpa using hq)
 rw [List.all_eq_true] at h
 have h:=h a ha
 rw [List.all_eq_true] at h
 have h:=h (repW z) (repW_in z)
 rw [List.all_eq_true] at h
 have h:=h (repW n) (repW_in n)
 rw [beq_iff_eq,late_rep,letters_rep] at h
 exact h
theorem hang_nat (x : Nat) : wHang (x : Int) = [4,5,6].contains x:=by
 unfold wHang
 rw [Bool.eq_iff_iff]
 simp only [Bool.or_eq_true,beq_iff_eq,List.contains_iff_mem,List.mem_cons,List.not_mem_nil,or_false]
 omega
theorem toI_len (c : List Nat) : (toI c).length = c.length:=by unfold toI;rw [List.length_map]
theorem back_drop (c : List Nat) : ∀ i,i≤c.length→skH [4,5,6] (c.take i).reverse = (c.take (wBack (toI c) i+1).toNat).reverse
 | 0,_=>by simp [wBack,skH]
 | i+1,h=>by
  have ih:=back_drop c i (by omega)
  unfold skH at ih ⊢
  rw [ahead_succ (by omega),List.dropWhile_cons,wBack,toI_get,hang_nat]
  split
  ·exact ih
  ·rw [show ((i : Int)+1).toNat = i+1 by omega,ahead_succ (by omega)]
theorem back_cases (c : List Nat) (i : Nat) (hi : i≤c.length) : (wBack (toI c) i = -1∧skH [4,5,6] (c.take i).reverse = [])∨∃ k,k < i∧wBack (toI c) i = (k : Int)∧skH [4,5,6] (c.take i).reverse = c.getD k 0 :: (c.take k).reverse:=by
 have h1:=back_drop c i hi
 have h2:=wBack_lt (toI c) i
 rcases (by omega : wBack (toI c) i = -1∨0≤wBack (toI c) i) with h3 | h3
 ·left
  refine ⟨h3,?_⟩
  rw [h1,h3];rfl
 ·right
  refine ⟨(wBack (toI c) i).toNat,by omega,by omega,?_⟩
  rw [h1,show (wBack (toI c) i+1).toNat = (wBack (toI c) i).toNat+1 by omega,ahead_succ (by omega)]
theorem of_nat {c : List Nat} (hc : ∀ x ∈ c,x < 20) {k : Nat} (hk : k < c.length) : wOf (toI c) (k : Int) = toW (c.getD k 0):=by
 rw [wOf_nat (by rw [toI_len];exact hk),toI_get]
 have : c.getD k 0 < 20:=by rw [List.getD_eq_getElem?_getD,List.getElem?_eq_getElem hk];exact hc _ (List.getElem_mem _)
 unfold toW
 rw [if_neg (by omega)]
theorem of_none (c : List Int) : wOf c (-1) = -1:=by unfold wOf;rw [if_pos (.inl (by omega))]
theorem near_eq {c : List Nat} (hc : ∀ x ∈ c,x < 20) {i : Nat} (hi : i≤c.length) : wOf (toI c) (wBack (toI c) i) = toW (nearH [4,5,6] (c.take i).reverse):=by
 unfold nearH
 rcases back_cases c i hi with ⟨h1,h2⟩ | ⟨k,hk,h1,h2⟩
 ·rw [h1,h2,of_none];rfl
 ·rw [h1,h2,of_nat hc (by omega)];rfl
theorem far_eq {c : List Nat} (hc : ∀ x ∈ c,x < 20) {i : Nat} (hi : i≤c.length) : wOf (toI c) (wBack (toI c) (wBack (toI c) i).toNat) = toW (farH [4,5,6] (c.take i).reverse):=by
 unfold farH
 rcases back_cases c i hi with ⟨h1,h2⟩ | ⟨k,hk,h1,h2⟩
 ·rw [h1,h2];rfl
 ·rw [h1,h2,Int.toNat_natCast,near_eq hc (by omega)];rfl
theorem reg_eq {c : List Nat} (hc : ∀ x ∈ c,x < 20) : ∀ (f i : Nat),i < f→i≤c.length→wRegGo (toI c) f i = regR [4,5,6] 7 (c.take i).reverse
 | 0,i,h,_=>absurd h (Nat.not_lt_zero _)
 | f+1,i,h,hi=>by
  rw [wRegGo,regR_drop]
  rcases back_cases c i hi with ⟨h1,h2⟩ | ⟨k,hk,h1,h2⟩
  ·rw [h1,h2,of_none];rfl
  ·rw [h1,h2,of_nat hc (by omega),Int.toNat_natCast]
   have h7 : toW (c.getD k 0) = 7 ↔ c.getD k 0 = 7:=toW_iff _ 7 (by omega)
   simp only
   by_cases h8 : c.getD k 0 = 7
   ·rw [if_pos (h7.2 h8),if_pos h8,reg_eq hc f k (by omega) (by omega)]
   ·rw [if_neg (fun e=>h8 (h7.1 e)),if_neg h8]
theorem on_eq {c : List Nat} (hc : ∀ x ∈ c,x < 20) (i : Nat) : wOn (toI c) i = toW (nearH [4,5,6] (c.drop (i+1))):=by
 unfold wOn nearH skH
 have h : ∀ l : List Nat,((l.map fun (x : Nat)=>(x : Int)).dropWhile wHang) = (l.dropWhile fun x=>[4,5,6].contains x).map fun (x : Nat)=>(x : Int):=fun l=>by
  induction l with
  | nil=>rfl
  | cons x l ih =>
   rw [List.map_cons,List.dropWhile_cons,List.dropWhile_cons,hang_nat]
   split
   ·exact ih
   ·rfl
 unfold toI
 rw [← List.map_drop,h]
 cases hd : (c.drop (i+1)).dropWhile (fun x=>[4,5,6].contains x) with
 | nil=>rfl
 | cons x t =>
  have hx : x ∈ c:=List.mem_of_mem_drop ((List.dropWhile_suffix _).subset (hd ▸ List.mem_cons_self))
  have:=hc x hx
  simp only [List.map_cons,List.head?_cons,Option.getD_some]
  unfold toW
  rw [if_neg (by omega)]
theorem near_cls {c : List Nat} (hc : ∀ x ∈ c,x < 20) (i : Nat) : nearH [4,5,6] (c.take i).reverse ∈ clsW:=by
 unfold nearH skH clsW
 cases hd : (c.take i).reverse.dropWhile (fun x=>[4,5,6].contains x) with
 | nil=>simp
 | cons x t =>
  have hx : x ∈ c:=List.mem_of_mem_take (by have:=(List.dropWhile_suffix (fun x=>[4,5,6].contains x) (l:=(c.take i).reverse)).subset (hd ▸ List.mem_cons_self);simpa using this)
  have:=hc x hx
  simp only [List.head?_cons,Option.getD_some,List.mem_cons,List.mem_range]
  exact .inr this
def headW (p q : Nat) (l o : Bool) : Bool :=
 if [1].contains p && [2].contains q then false
 else if [1,2,3].contains p then true
 else if [1,2,3].contains q then true
 else if [5].contains p && [19].contains q then false
 else if [18].contains p && [18].contains q then false
 else if [4,5,6].contains q then false
 else if l then false
 else if o && [7].contains q then false
 else true
def cutW (p q : Int) (l o : Bool) : Bool :=
 if p = 1∧q = 2 then false
 else if wEnd p || wEnd q then true
 else if (p == 5 && q == 19) || (p == 18 && q == 18) || wHang q then false
 else if l then false else !(q == 7) || !o
theorem head_all : (List.range 20).all (fun p=>(List.range 20).all fun q=>[false,true].all fun l=>[false,true].all fun o=>headW p q l o == cutW (p : Int) (q : Int) l o) = true:=by decide +kernel
theorem head_eq {p q : Nat} (hp : p < 20) (hq : q < 20) (l o : Bool) : headW p q l o = cutW (p : Int) (q : Int) l o:=by
 have h:=head_all
 rw [List.all_eq_true] at h
 have h:=h p (by simpa using hp)
 rw [List.all_eq_true] at h
 have h:=h q (by simpa using hq)
 rw [List.all_eq_true] at h
 have h:=h l (by cases l <;> simp)
 rw [List.all_eq_true] at h
 have h:=h o (by cases o <;> simp)
 rwa [beq_iff_eq] at h
theorem or_ite (a b : Bool) (e : Bool) : (if a = true then false else if b = true then false else e) = if (a || b) = true then false else e:=by cases a <;> cases b <;> rfl
theorem chain_W {r b : List Nat} {p q : Nat} {t : List Nat} {s : List Nat} (hr : r = p :: s) (hb : b = q :: t) (hin : ∀ x ∈ r,x < 20) : decF true r b testsW = headW p q (lateW q (nearH [4,5,6] r) (farH [4,5,6] r) (nearH [4,5,6] t)) (regR [4,5,6] 7 r % 2 == 1):=by
 have e1:=fun l (h : l.contains 99 = false)=>eat_near1 [4,5,6] l r h
 have e2:=fun l m (h : l.contains 99 = false) (h' : m.contains 99 = false)=>eat_near2 [4,5,6] l m r h h'
 have f1 : ∀ l,eat [.one l] r = l.contains p:=fun l=>by rw [hr];simp [eat]
 have g1 : ∀ l,eat [.one l] b = l.contains q:=fun l=>by rw [hb];simp [eat]
 have g2 : ∀ l m,m.contains 99 = false→eat [.one l,.many [4,5,6],.one m] b = (l.contains q && m.contains (nearH [4,5,6] t)):=fun l m hm=>by rw [hb,eat,eat_near1 _ _ _ hm]
 have z1 : ∀ r,eat [] r = true:=fun r=>by rw [eat]
 have ho:=odd_both (hs:=[4,5,6]) (cs:=[0,1,2,3,8,9,10,11,12,13,14,15,16,17,18,19]) (k:=7) (by decide) (r:=r) (fun x hx=>by
  have hx:=hin x hx
  have h : (List.range 20).all (fun x=>[0,1,2,3,8,9,10,11,12,13,14,15,16,17,18,19].contains x || isF [4,5,6] 7 x) = true:=by decide
  rw [List.all_eq_true] at h
  have h:=h x (by simpa using hx)
  rw [Bool.or_eq_true,List.contains_iff_mem] at h
  exact h)
 unfold testsW
 simp only [decF]
 simp only [e1 [9,10] rfl,e1 [9] rfl,e1 [16] rfl,e1 [8] rfl,e1 [8,9,10,16,17] rfl,e1 [17] rfl]
 simp only [e2 [11,13,14] [9,10] rfl rfl,e2 [12] [9] rfl rfl,e2 [11,13,15] [16] rfl rfl]
 simp only [g2 [11,13,14] [9,10] rfl,g2 [12] [9] rfl,g2 [11,13,15] [16] rfl]
 simp only [f1,g1,z1,Bool.and_true,Bool.true_and]
 rw [← ho]
 unfold headW lateW
 generalize nearH [4,5,6] r = a
 generalize farH [4,5,6] r = z
 generalize nearH [4,5,6] t = n
 generalize oddA [4,5,6] 7 r = o1
 generalize oddB [4,5,6] 7 _ r = o2
 simp only [or_ite]
 simp only [Bool.or_assoc,Bool.and_or_distrib_right]
theorem rules_word {c : List Nat} (hc : ∀ x ∈ c,x < 20) {i : Nat} (h0 : 0 < i) (hi : i < c.length) : decideB true c i rulesW = wCut (toI c) i:=by
 rw [decide_F true c i eats_W]
 obtain ⟨k,rfl⟩ : ∃ k,i = k+1:=⟨i - 1,by omega⟩
 have e1 : c.getD k 0 = c[k]'(by omega):=by rw [List.getD_eq_getElem?_getD,List.getElem?_eq_getElem (by omega)];rfl
 have e2 : c.getD (k+1) 0 = c[k+1]'hi:=by rw [List.getD_eq_getElem?_getD,List.getElem?_eq_getElem hi];rfl
 have hp : c.getD k 0 < 20:=by rw [e1];exact hc _ (List.getElem_mem _)
 have hq : c.getD (k+1) 0 < 20:=by rw [e2];exact hc _ (List.getElem_mem _)
 rw [chain_W (ahead_succ (by omega)) (show c.drop (k+1) = c.getD (k+1) 0 :: c.drop (k+2) by rw [List.drop_eq_getElem_cons hi,e2]) (fun x hx=>hc x (List.mem_of_mem_take (by simpa using hx)))]
 rw [head_eq hp hq,late_eq hq (near_cls hc _)]
 unfold wCut cutW wReg
 simp only [toI_get]
 rw [far_eq hc (i:=k+1) (by omega),near_eq hc (i:=k+1) (by omega),on_eq hc,reg_eq hc (k+1+1) (k+1) (by omega) (by omega),Nat.add_sub_cancel]
 have hod : (!(regR [4,5,6] 7 (c.take (k+1)).reverse % 2 == 1)) = (regR [4,5,6] 7 (c.take (k+1)).reverse % 2 == 0):=by
  generalize regR [4,5,6] 7 (c.take (k+1)).reverse = m
  rw [Bool.eq_iff_iff,Bool.not_eq_true',beq_eq_false_iff_ne,beq_iff_eq]
  omega
 rw [hod]
end
section
open Go.RowKit Go.Maps
theorem oblank_any (c : UInt8) (w : World) : Calls Tryz.prog 246 #[.int .u8 (c.toNat : Int)] w fun e w'=>e = .returned (.bool (blkB c))∧w = w':=by
 have HT:=Lib.hid (@blk_true c)
 have HF:=Lib.hid (@blk_false c)
 generalize (c.toNat : Int) = z at HT HF
 rcases (by omega : z = 32∨z = 9∨(z ≠ 32∧z ≠ 9)) with h | h | ⟨h,h'⟩
 ·have HV:=Lib.hid (HT.out (.inl h))
  subst h
  go_enter Tryz.func246,Tryz.ntmps246
  go_wp2
  go_ret
  exact ⟨by rw [HV.out];rfl,rfl⟩
 ·have HV:=Lib.hid (HT.out (.inr h))
  subst h
  go_enter Tryz.func246,Tryz.ntmps246
  go_wp2
  go_ret
  exact ⟨by rw [HV.out];rfl,rfl⟩
 ·have HV:=Lib.hid (HF.out (by omega))
  have h1 : (z == 32) = false:=beq_eq_false_iff_ne.2 h
  have h2 : (z == 9) = false:=beq_eq_false_iff_ne.2 h'
  go_enter Tryz.func246,Tryz.ntmps246
  go_wp2
  go_ret
  exact ⟨by rw [HV.out];rfl,rfl⟩
theorem otrim_any (L : List UInt8) (w : World) (hL : L.length≤1000000) : Calls Tryz.prog 199 #[.string (bytesOf L)] w fun e w'=>e = .returned (.string (bytesOf (trimL L)))∧w = w':=by
 have HTE:=Lib.hid (trimL_eq L)
 go_enter Tryz.func199,Tryz.ntmps199
 go_wp2
 go_loopw [0] (fun v wr=>∃ l : List UInt8,v = .string (bytesOf l)∧l.length≤L.length∧Hid (l.dropWhile blkB = L.dropWhile blkB)∧wr = w) (fun v _=>strSize v)
 case atStart=>exact ⟨L,rfl,by omega,rfl,rfl⟩
 case round =>
  obtain ⟨l,rfl,hl,HD,rfl⟩:=hrel
  have hsz : (bytesOf l).size = l.length:=bytesOf_size l
  by_cases hb : ∃ c r,l = c :: r∧blkB c = true
  ·obtain ⟨c,r,rfl,hc⟩:=hb
   have h0 : 0 < (bytesOf (c :: r)).size:=by rw [hsz];simp
   have hix:=index_at (bytesOf (c :: r)) 0 0 rfl h0
   have hg : (bytesOf (c :: r))[0]'h0 = c:=by have:=get_list h0;rw [bytesOf_list] at this;simpa using this.symm
   rw [hg] at hix
   have hgi : (((bytesOf (c :: r))[0]'h0).toNat : Int) = (c.toNat : Int):=by rw [hg]
   have HX:=Lib.hid (ext_bytes (c :: r) 1)
   rw [hsz] at HX
   have hl2 : (r.length : Int)+1≤1000000:=by simp at hl;omega
   clear hg
   go_wp2_with (go_at_call 246;refine (oblank_any c _).mono ?_;rw [hc];rintro e w' ⟨rfl,rfl⟩)
   go_roundw
   case rel=>exact ⟨r,by first | exact congrArg Value.string HX.out | (rw [← ext_bytes (c :: r) 1];rfl),by simp at hl;omega,Lib.hid (by rw [← HD.out,drop_blank hc]),by first | rfl | trivial⟩
   case measure=>simp only [strSize,ByteArray.size_extract,bytesOf_size,List.length_cons];omega
  ·have HLD : Hid (l = L.dropWhile blkB):=Lib.hid (by
    rw [← HD.out]
    cases l with
    | nil=>rfl
    | cons c r =>
     have : blkB c = false:=by
      cases hq : blkB c with
      | false=>rfl
      | true=>exact absurd ⟨c,r,rfl,hq⟩ hb
     exact (dropWhile_stop this).symm)
   have HTR : Hid (trimL L = trimR l):=Lib.hid (by rw [HTE.out,HLD.out])
   have hstop : l = []∨∃ c r,l = c :: r∧blkB c = false:=by
    cases l with
    | nil=>exact .inl rfl
    | cons c r =>
     refine .inr ⟨c,r,rfl,?_⟩
     cases hq : blkB c with
     | false=>rfl
     | true=>exact absurd ⟨c,r,rfl,hq⟩ hb
   clear hb HD HLD
   rcases hstop with rfl | ⟨c,r,rfl,hc⟩
   ·have HT0 : Hid (trimL L = []):=Lib.hid (by rw [HTR.out];rfl)
    have hz0 : (bytesOf []).size = 0:=rfl
    go_wp2_with fail
    go_loopw [0] (fun v wq=>v = .string (bytesOf [])∧wq = wr) (fun _ _=>0)
    case atStart=>exact ⟨rfl,rfl⟩
    case round =>
     obtain ⟨rfl,rfl⟩:=hrel
     go_wp2
     go_ret
     exact ⟨by rw [HT0.out];rfl,rfl⟩
   ·have h0 : 0 < (bytesOf (c :: r)).size:=by rw [hsz];simp
    have hix:=index_at (bytesOf (c :: r)) 0 0 rfl h0
    have hg : (bytesOf (c :: r))[0]'h0 = c:=by have:=get_list h0;rw [bytesOf_list] at this;simpa using this.symm
    rw [hg] at hix
    have hgi : (((bytesOf (c :: r))[0]'h0).toNat : Int) = (c.toNat : Int):=by rw [hg]
    clear hg
    go_wp2_with (go_at_call 246;refine (oblank_any c _).mono ?_;rw [hc];rintro e w' ⟨rfl,rfl⟩)
    go_loopw [0] (fun v wq=>∃ l : List UInt8,v = .string (bytesOf l)∧l.length≤L.length∧Hid (trimR l = trimL L)∧wq = wr) (fun v _=>strSize v)
    case atStart=>exact ⟨c :: r,rfl,hl,Lib.hid HTR.out.symm,rfl⟩
    case round =>
     clear hix hgi h0
     obtain ⟨l,rfl,hl2,HD,rfl⟩:=hrel
     have hsz2 : (bytesOf l).size = l.length:=bytesOf_size l
     rcases List.eq_nil_or_concat l with rfl | ⟨o,y,rfl⟩
     ·have HT0 : Hid (trimL L = []):=Lib.hid (by rw [← HD.out];rfl)
      have hz0 : (bytesOf []).size = 0:=rfl
      go_wp2
      go_ret
      exact ⟨by rw [HT0.out];rfl,rfl⟩
     ·rw [List.concat_eq_append] at *
      have hlast : (o++[y]).getLast? = some y:=by simp
      have hol : (o++[y]).length = o.length+1:=by simp
      rw [hol] at hsz2 hl2
      have hp : o.length < (bytesOf (o++[y])).size:=by omega
      have hix:=index_at (bytesOf (o++[y])) ((o.length : Int)+1 - 1) o.length (by omega) hp
      have hix2:=index_at (bytesOf (o++[y])) (o.length : Int) o.length rfl hp
      have hg : (bytesOf (o++[y]))[o.length]'hp = y:=by have:=get_list hp;rw [bytesOf_list] at this;simpa using this.symm
      rw [hg] at hix hix2
      have hgi : (((bytesOf (o++[y]))[o.length]'hp).toNat : Int) = (y.toNat : Int):=by rw [hg]
      clear hg
      cases hy : blkB y with
      | true =>
       have HX : Hid ((bytesOf (o++[y])).extract 0 o.length = bytesOf o):=Lib.hid (by rw [ext_bytes0];simp)
       have HD' : Hid (trimR o = trimL L):=Lib.hid (by rw [← HD.out,(trim_last hlast).1 hy,hol,Nat.add_sub_cancel];simp)
       go_wp2_with (go_at_call 246;refine (oblank_any y _).mono ?_;rw [hy];rintro e w' ⟨rfl,rfl⟩)
       go_roundw
       case rel=>exact ⟨o,congrArg Value.string HX.out,by omega,HD',by first | rfl | trivial⟩
       case measure=>simp only [strSize,ByteArray.size_extract,bytesOf_size,List.length_append,List.length_singleton];omega
      | false =>
       have HD' : Hid (trimL L = o++[y]):=Lib.hid (by rw [← HD.out,(trim_last hlast).2 hy])
       go_wp2_with (go_at_call 246;refine (oblank_any y _).mono ?_;rw [hy];rintro e w' ⟨rfl,rfl⟩)
       go_ret
       exact ⟨by rw [HD'.out];rfl,rfl⟩
theorem oLines_any (t : List UInt8) (w : World) (ht : t.length≤1000000) :
  Calls Tryz.prog 153 #[.string (bytesOf t)] w fun e w'=>∃ A n c,e = .returned (.slice A n c)∧Own w' w.heap.size 9 1 A n c ((splitL t).map encNm)∧Below w.heap.size w w':=by
 obtain ⟨i0,hi0,hz0,hz1,hz2⟩:=info_parts info_cloneS
 have hsz : (bytesOf t).size = t.length:=bytesOf_size t
 go_enter Tryz.func153,Tryz.ntmps153
 go_wp2
 go_loopw [3,4,5] (fun a f v wr=>∃ (i frm : Nat) (done : List (List UInt8)) (A : Option Addr) (n c : Nat),a = .slice A n c∧f = .int .i64 frm∧v = .int .i64 i∧i≤t.length∧n≤i∧frm≤i∧Hid (LinesAt t i frm done)∧Own wr w.heap.size 9 1 A n c (done.map encNm)∧Below w.heap.size w wr) (fun _ _ v _=>t.length - (intOf v).toNat)
 case atStart=>exact ⟨0,0,[],none,0,0,rfl,rfl,rfl,by omega,by omega,by omega,LinesAt.start t,Own.nil_ _ _ _ _,Below.refl _ _⟩
 case round =>
  obtain ⟨i,frm,done,A,n,c,rfl,rfl,rfl,hi,hni,hfi,HL,ho,hb⟩:=hrel
  have hszr:=hb.size
  by_cases hlt : i < t.length
  ·have hp : i < (bytesOf t).size:=by omega
   have hix:=index_at (bytesOf t) i i rfl hp
   obtain ⟨x,hx⟩ : ∃ x,(bytesOf t)[i]'hp = x:=⟨_,rfl⟩
   have Hx : Hid (t[i]? = some x):=Lib.hid (by have:=get_list hp;rw [bytesOf_list,hx] at this;exact this)
   have hgi : (((bytesOf t)[i]'hp).toNat : Int) = (x.toNat : Int):=by rw [hx]
   rw [hx] at hix
   clear hx
   by_cases hx10 : x = 10
   ·have hz : ((x.toNat : Int) == 10) = true:=by rw [hx10];rfl
    have HL':=Lib.hid (LinesAt.line HL.out (by rw [Hx.out,hx10]))
    have HX:=Lib.hid (take_sub (l:=t) (a:=frm) (b:=i))
    clear hx10
    go_wp2_with (at_builtin;go_must (refine wpList_app rfl (.tmp 16) (.tmp 21) _ rfl w.heap.size 9 i0 _ 1 16 Tryz.underlying122 hi0 hz0 hz1 hz2 rfl (by omega) A n c (done.map encNm) rfl (ho.alloc _) _ 1 1 [encNm ((t.drop frm).take (i - frm))] rfl rfl (Rd.newAt (by simp) (by simp [encNm,HX.out])) (encNm_ok [(t.drop frm).take (i - frm)]) (by unfold maxLen;omega) (by omega) (by simp;omega) ?_);intro A3 c3 w3 ho3 hg3 hA3;have hb3:=below_app (hb.alloc (by omega) _) hg3 (by simp;omega) (fun a ha=>(ho.lt a ha).1);clear hg3)
    have Ho3 : Own w3 w.heap.size 9 1 A3 (n+1) c3 ((done++[(t.drop frm).take (i - frm)]).map encNm):=by rw [List.map_append];exact ho3
    clear ho3
    go_roundw
    case rel=>exact ⟨i+1,i+1,_,A3,n+1,c3,rfl,by go_num,by go_num,by omega,by omega,by omega,HL',Ho3,hb3⟩
    case measure=>simp [intOf];omega
   ·have hz : ((x.toNat : Int) == 10) = false:=beq_eq_false_iff_ne.2 (fun e=>hx10 ((u8_eq (n:=10) (by omega)).2 (by omega)))
    have HL':=Lib.hid (LinesAt.byte HL.out Hx.out hx10)
    clear hx10
    go_wp2
    go_roundw
    case rel=>exact ⟨i+1,frm,done,A,n,c,rfl,rfl,by go_num,by omega,by omega,by omega,HL',ho,hb⟩
    case measure=>simp [intOf];omega
  ·obtain rfl : i = t.length:=by omega
   have HE:=Lib.hid (LinesAt.done HL.out)
   have HX:=Lib.hid (ext_bytes t frm)
   rw [hsz] at HX
   go_wp2_with (at_builtin;go_must (refine wpList_app rfl (.tmp 25) (.tmp 29) _ rfl w.heap.size 9 i0 _ 1 16 Tryz.underlying122 hi0 hz0 hz1 hz2 rfl (by omega) A n c (done.map encNm) rfl (ho.alloc _) _ 1 1 [encNm (t.drop frm)] rfl rfl (Rd.newAt (by simp) (by simp [encNm,HX.out])) (encNm_ok [t.drop frm]) (by unfold maxLen;omega) (by omega) (by simp;omega) ?_);intro A3 c3 w3 ho3 hg3 hA3;have hb3:=below_app (hb.alloc (by omega) _) hg3 (by simp;omega) (fun a ha=>(ho.lt a ha).1);clear hg3)
   go_ret
   exact ⟨A3,n+1,c3,rfl,by rw [HE.out,List.map_append];exact ho3,hb3⟩
end
section
open Go.RowKit Go.Maps
theorem pBlank_eq : pBlank = blkB:=by
 funext c
 have h1 : c = 32 ↔ c.toNat = 32:=u8_eq (n:=32) (by omega)
 have h2 : c = 9 ↔ c.toNat = 9:=u8_eq (n:=9) (by omega)
 unfold pBlank blkB
 rw [Bool.eq_iff_iff]
 simp only [Bool.or_eq_true,beq_iff_eq,decide_eq_true_iff,h1,h2]
theorem trimB_eq (l : List UInt8) : trimB l = trimL l:=by unfold trimB trimL;rw [pBlank_eq]
theorem byte_of (t : List UInt8) {i : Nat} (hi : i < t.length) : ∃ x,t[i]? = some x∧∀ W,(Instr.index 9 (.string (bytesOf t)) (.int .i64 (i : Nat))).run Tryz.prog W = .ok (.int .u8 (x.toNat : Int)) W:=by
 have hp : i < (bytesOf t).size:=by rw [bytesOf_size];exact hi
 refine ⟨(bytesOf t)[i]'hp,?_,fun W=>index_at (bytesOf t) i i rfl hp W⟩
 have:=get_list hp
 rw [bytesOf_list] at this
 exact this
theorem take_at {q : UInt8→Bool} {l : List UInt8} {i : Nat} {x : UInt8} (hx : l[i]? = some x) : (q x = true→l.take i++(l.drop i).takeWhile q = l.take (i+1)++(l.drop (i+1)).takeWhile q)∧(q x = false→l.take i++(l.drop i).takeWhile q = l.take i):=by
 obtain ⟨hi,e⟩:=List.getElem?_eq_some_iff.1 hx
 rw [List.drop_eq_getElem_cons hi,e]
 constructor
 ·intro hq
  rw [List.takeWhile_cons,if_pos hq,List.take_add_one,hx]
  simp
 ·intro hq
  rw [List.takeWhile_cons,if_neg (by rw [hq];simp),List.append_nil]
theorem oplain_any (L : List UInt8) (w : World) (hL : L.length≤1000000) : Calls Tryz.prog 197 #[.string (bytesOf L)] w fun e w'=>e = .returned (.string (bytesOf (plainB L)))∧w = w':=by
 have hsz : (bytesOf L).size = L.length:=bytesOf_size L
 have HT:=Lib.hid (fun i W=>show Calls Tryz.prog 199 #[.string ((bytesOf L).extract 0 i)] W fun e w'=>e = .returned (.string (bytesOf (trimL (L.take i))))∧W = w' by
  rw [ext_bytes0];exact otrim_any (L.take i) W (by rw [List.length_take];omega))
 have HA:=Lib.hid (fun W=>otrim_any L W hL)
 have HP:=Lib.hid (show plainB L = trimL (L.takeWhile fun c=>decide (c.toNat ≠ 35)) by unfold plainB;rw [trimB_eq])
 go_enter Tryz.func197,Tryz.ntmps197
 go_wp2
 go_loopw [3] (fun v wr=>∃ i : Nat,v = .int .i64 i∧i≤L.length∧Hid ((L.takeWhile fun c=>decide (c.toNat ≠ 35)) = L.take i++(L.drop i).takeWhile fun c=>decide (c.toNat ≠ 35))∧wr = w) (fun v _=>L.length - (intOf v).toNat)
 case atStart=>exact ⟨0,rfl,by omega,Lib.hid rfl,rfl⟩
 case round =>
  obtain ⟨i,rfl,hi,HD,rfl⟩:=hrel
  by_cases hlt : i < L.length
  ·obtain ⟨x,hx,hix⟩:=byte_of L hlt
   by_cases h35 : x.toNat = 35
   ·have t1 : ((x.toNat : Int) == 35) = true:=by rw [beq_iff_eq];omega
    have HE:=Lib.hid (show plainB L = trimL (L.take i) by rw [HP.out,HD.out,(take_at hx).2 (by simp [h35])])
    have HT1:=Lib.hid (HT.out i wr)
    clear hx h35
    go_wp2_with (go_at_call 199;refine HT1.out.mono ?_;rintro e w' ⟨rfl,rfl⟩)
    go_ret
    exact ⟨by rw [HE.out];rfl,rfl⟩
   ·have t1 : ((x.toNat : Int) == 35) = false:=by rw [beq_eq_false_iff_ne];omega
    have HD2:=Lib.hid (HD.out.trans ((take_at hx).1 (by simp [h35])))
    clear hx h35
    go_wp2
    go_roundw
    case rel=>exact ⟨i+1,by go_num,by omega,HD2,by first | rfl | trivial⟩
    case measure=>simp [intOf];omega
  ·obtain rfl : i = L.length:=by omega
   have HE:=Lib.hid (show plainB L = trimL L by rw [HP.out,HD.out];simp)
   have HT1:=Lib.hid (HA.out wr)
   go_wp2_with (go_at_call 199;refine HT1.out.mono ?_;rintro e w' ⟨rfl,rfl⟩)
   go_ret
   exact ⟨by rw [HE.out];rfl,rfl⟩
theorem signP_some {l a b : List UInt8} {cut : Bool} (h : signP l = some (a,cut,b)) : ∃ c,l = a++c :: b∧(∀ x ∈ a,pSign x = false)∧pSign c = true∧(∀ x ∈ b,pSign x = false)∧cut = decide (c.toNat = 47):=by
 unfold signP at h
 split at h
 ·cases h
 ·rename_i c t hd
  split at h
  ·cases h
  ·rename_i hb
   injection h with h
   injection h with h1 h2
   injection h2 with h2 h3
   subst h1 h2 h3
   have hc : (!pSign c) = false:=by
    have h1:=List.head?_dropWhile_not (fun c=>!pSign c) l
    rw [hd] at h1
    simpa using h1
   refine ⟨c,?_,fun x hx=>?_,by simpa using hc,fun x hx=>?_,rfl⟩
   ·rw [← hd,List.takeWhile_append_dropWhile]
   ·have h1:=List.all_takeWhile (p:=fun c=>!pSign c) (l:=l)
    rw [List.all_eq_true] at h1
    simpa using h1 x hx
   ·cases hq : pSign x with
    | false=>rfl
    | true=>exact absurd (List.any_eq_true.2 ⟨x,hx,hq⟩) hb
theorem sign_tests (x : UInt8) : pSign x = (((x.toNat : Int) == 126) || ((x.toNat : Int) == 47)):=by
 unfold pSign
 rw [Bool.eq_iff_iff]
 simp only [Bool.or_eq_true,beq_iff_eq,decide_eq_true_iff]
 omega
theorem osplit_ok (a b : List UInt8) (c : UInt8) (w : World) (hz : (a++c :: b).length≤1000000) (ha : ∀ x ∈ a,pSign x = false) (hc : pSign c = true) (hb : ∀ x ∈ b,pSign x = false) : Calls Tryz.prog 198 #[.string (bytesOf (a++c :: b))] w fun e w'=>e = .returned (.int .i64 (a.length : Nat))∧w = w':=by
 have HI:=Lib.hid (fun i x (hx : (a++c :: b)[i]? = some x)=>show pSign x = decide (i = a.length) by
  rcases Nat.lt_trichotomy i a.length with h | h | h
  ·rw [List.getElem?_append_left h] at hx
   rw [ha x (List.mem_of_getElem? hx),decide_eq_false (by omega)]
  ·subst h
   rw [List.getElem?_append_right (Nat.le_refl _),Nat.sub_self,zH] at hx
   injection hx with hx
   subst hx
   rw [hc,decide_eq_true rfl]
  ·rw [List.getElem?_append_right (by omega)] at hx
   obtain ⟨j,hj⟩ : ∃ j,i - a.length = j+1:=⟨i - a.length - 1,by omega⟩
   rw [hj,zI] at hx
   rw [hb x (List.mem_of_getElem? hx),decide_eq_false (by omega)])
 have hl : (a++c :: b).length = a.length+1+b.length:=by simp;omega
 have hsz : (bytesOf (a++c :: b)).size = (a++c :: b).length:=bytesOf_size _
 have HB:=Lib.hid (fun i (hi : i < (a++c :: b).length)=>byte_of (a++c :: b) hi)
 obtain ⟨m,hm⟩ : ∃ m,a.length = m:=⟨_,rfl⟩
 rw [hm] at HI hl ⊢
 generalize a++c :: b = L at HI HB hsz hl hz ⊢
 clear ha hb hc hm
 go_enter Tryz.func198,Tryz.ntmps198
 go_wp2
 go_loopw [3,4] (fun u v wr=>∃ i : Nat,v = .int .i64 i∧i≤L.length∧((i≤m∧u = .int .i64 (-1))∨(m < i∧u = .int .i64 (m : Nat)))∧wr = w) (fun _ v _=>L.length - (intOf v).toNat)
 case atStart=>exact ⟨0,rfl,by omega,.inl ⟨by omega,rfl⟩,rfl⟩
 case round =>
  obtain ⟨i,rfl,hi,hcs,rfl⟩:=hrel
  by_cases hlt : i < L.length
  ·obtain ⟨x,hx,hix⟩:=HB.out i hlt
   have hq:=HI.out i x hx
   rw [sign_tests] at hq
   rcases Nat.lt_trichotomy i m with h | h | h
   ·rcases hcs with ⟨_,rfl⟩ | ⟨h2,_⟩
    ·rw [decide_eq_false (by omega),Bool.or_eq_false_iff] at hq
     obtain ⟨t1,t2⟩:=hq
     clear hx
     go_wp2
     go_roundw
     case rel=>exact ⟨i+1,by go_num,by omega,.inl ⟨by omega,rfl⟩,by first | rfl | trivial⟩
     case measure=>simp [intOf];omega
    ·omega
   ·subst h
    rcases hcs with ⟨_,rfl⟩ | ⟨h2,_⟩
    ·rw [decide_eq_true rfl,Bool.or_eq_true] at hq
     cases t1 : ((x.toNat : Int) == 126) with
     | true =>
      clear hx hq
      go_wp2
      go_roundw
      case rel=>exact ⟨i+1,by go_num,by omega,.inr ⟨by omega,rfl⟩,by first | rfl | trivial⟩
      case measure=>simp [intOf];omega
     | false =>
      have t2 : ((x.toNat : Int) == 47) = true:=by rcases hq with h | h;rw [t1] at h;cases h;exact h
      clear hx hq
      go_wp2
      go_roundw
      case rel=>exact ⟨i+1,by go_num,by omega,.inr ⟨by omega,rfl⟩,by first | rfl | trivial⟩
      case measure=>simp [intOf];omega
    ·omega
   ·rcases hcs with ⟨h2,_⟩ | ⟨_,rfl⟩
    ·omega
    ·rw [decide_eq_false (by omega),Bool.or_eq_false_iff] at hq
     obtain ⟨t1,t2⟩:=hq
     clear hx
     go_wp2
     go_roundw
     case rel=>exact ⟨i+1,by go_num,by omega,.inr ⟨by omega,rfl⟩,by first | rfl | trivial⟩
     case measure=>simp [intOf];omega
  ·obtain rfl : i = L.length:=by omega
   rcases hcs with ⟨h2,_⟩ | ⟨_,rfl⟩
   ·omega
   ·go_wp2
    go_ret
    exact ⟨rfl,rfl⟩
end
section
open Go.RowKit Go.Maps
end
section
open Go.RowKit
def NoneTo (p : Int→Bool) (l : List Int) (j : Nat) : Prop:=∀ k x,k < j→l[k]? = some x→p x = false
theorem noneTo_first (p : Int→Bool) (l : List Int) : NoneTo p l 0:=fun k x hk=>by omega
theorem noneTo_next {p : Int→Bool} {l : List Int} {j : Nat} {x : Int} (h : NoneTo p l j) (hx : l[j]? = some x) (hp : p x = false) : NoneTo p l (j+1):=fun k y hk hy=>by
 rcases (by omega : k < j∨k = j) with h1 | rfl
 ·exact h k y h1 hy
 ·rw [hx] at hy;injection hy with hy;rw [← hy];exact hp
theorem noneTo_end {p : Int→Bool} {l : List Int} {j : Nat} (h : NoneTo p l j) (hj : ¬ j < l.length) : l.any p = false:=by
 rw [List.any_eq_false]
 intro x hx
 obtain ⟨k,hk,e⟩:=List.getElem_of_mem hx
 rw [h k x (by omega) (by rw [List.getElem?_eq_getElem hk,e])]
 simp
theorem any_here {p : Int→Bool} {l : List Int} {j : Nat} {x : Int} (hx : l[j]? = some x) (hp : p x = true) : l.any p = true:=List.any_eq_true.2 ⟨x,List.mem_of_getElem? hx,hp⟩
theorem ge_nat (j : Nat) : decide (0≤(j : Int)) = true:=decide_eq_true (by omega)
theorem lIndexI_any (A : Option Addr) (n c : Nat) (l : List Int) (x : Int) (w : World) (hA : Rd w 1 A (l.map encZ)) (hl : l.length = n) (hn : n≤4000000) :
  Calls Tryz.prog 169 #[.slice A n c,.int .i64 x] w fun e w'=>∃ v : Int,e = .returned (.int .i64 v)∧decide (0≤v) = l.any (x == ·)∧w = w':=by
 have Hl:=Lib.hid hl
 clear hl
 go_enter Tryz.func169,Tryz.ntmps169
 go_wp2
 go_loopw [8] (fun v wr=>∃ j : Nat,v = .int .i64 j∧j≤n∧Hid (NoneTo (x == ·) l j)∧wr = w) (fun v _=>n - (intOf v).toNat)
 case atStart=>exact ⟨0,rfl,by omega,Lib.hid (noneTo_first _ l),rfl⟩
 case round =>
  obtain ⟨j,rfl,hj,HN,rfl⟩:=hrel
  by_cases hlt : j < n
  ·obtain ⟨y,Hy⟩ : ∃ y,Hid (l[j]? = some y):=⟨_,Lib.hid (List.getElem?_eq_getElem (by have:=Hl.out;omega))⟩
   obtain ⟨b,off,rfl,hc⟩:=hA.atZ Hy.out
   obtain ⟨q,Hq⟩ : ∃ q,Hid ((x == ·) y = q):=⟨_,Lib.hid rfl⟩
   cases q with
   | true =>
    have HV:=Lib.hid (any_here Hy.out Hq.out)
    have he:=Hq.out
    go_wp2
    go_ret
    exact ⟨j,rfl,by rw [HV.out];exact ge_nat j,rfl⟩
   | false =>
    have HN':=Lib.hid (noneTo_next HN.out Hy.out Hq.out)
    have he:=Hq.out
    go_wp2
    go_roundw
    case rel=>exact ⟨j+1,by go_num,by omega,HN',trivial⟩
    case measure=>simp [intOf];omega
  ·have HV:=Lib.hid (noneTo_end HN.out (by rw [Hl.out];exact hlt))
   go_wp2
   go_ret
   exact ⟨-1,rfl,by rw [HV.out];rfl,rfl⟩
theorem lContains_any (A : Option Addr) (n c : Nat) (l : List Int) (x : Int) (w : World) (hA : Rd w 1 A (l.map encZ)) (hl : l.length = n) (hn : n≤4000000) :
  Calls Tryz.prog 123 #[.slice A n c,.int .i64 x] w fun e w'=>e = .returned (.bool (l.any (x == ·)))∧w = w':=by
 have HI:=Lib.hid (lIndexI_any A n c l x w hA hl hn)
 clear hA hl
 go_enter Tryz.func123,Tryz.ntmps123
 go_wp2_with fail
 refine HI.out.mono ?_
 rintro e w1 ⟨v,rfl,hv,rfl⟩
 have HV:=Lib.hid hv
 clear hv HI
 go_wp2
 go_ret
 exact ⟨by rw [← HV.out];rfl,rfl⟩
end
section
open Go.RowKit
end
section
open Go.RowKit Go.Shelf
attribute [local go_sem] Oper.semAt_some
structure Mid (m n : Nat) (W W' : World) : Prop where
 size : W.heap.size≤W'.heap.size
 block : ∀ k,m≤k→k < n→W'.heap[k]? = W.heap[k]?
def Kp (m n : Nat) (W W' : World) : Prop:=Mid m n W W'∧KeepsWalks W W'
theorem grown_of_below {w w' : World} (h : RowKit.Below w.heap.size w w') : w.grownBy w' none:=⟨h.os,h.tape,h.output,h.size,fun k hk _=>h.block k hk⟩
theorem abides_below {β : Type} {B : Nat} {J : β→World→Prop} (h : AbidesFrom B J) {x : β} {w w' : World} (hx : J x w) (hb : RowKit.Below w.heap.size w w') : J x w':=h x w w' none hx (grown_of_below hb) (fun _ e=>by cases e)
section
variable {s : ByteArray} {set : List (Int × Int)} {f p : Nat} {cur : Option Nat} {pre : List (Nat × Nat)} {R W : Nat}
end
theorem not_row {w : World} {row : Option Nat} {b : Nat} {o : Obj} (hb : w.heap[b]? = some o) (hc : o.isCells = true) (hr : ∀ r,row = some r→∃ o : Obj,w.heap[r]? = some o∧o.isCells = false) : some b ≠ row:=by
 rintro rfl
 obtain ⟨o',h1,h2⟩:=hr b rfl
 rw [hb] at h1;cases h1;rw [hc] at h2;cases h2
theorem Blk.kept {w w' : World} {row : Option Nat} {g : Nat} {t : TypeId} {cs : Array Value} (h : Blk w g t cs) (hg : w.grownBy w' row) (hr : ∀ r,row = some r→∃ o : Obj,w.heap[r]? = some o∧o.isCells = false) : Blk w' g t cs:=h.grown hg (not_row h rfl hr)
end
section
open Go.RowKit Go.Shelf
attribute [local go_sem] Oper.semAt_some
end
section
open Go.RowKit
section
variable {P : Program} {F : Fence} {n : Nat}
theorem rngH {α : Type} {g : Operand} {ps : Array Tmp} {assign body : Code} {Q : Exit→Act→World→Prop} {a : Act} {w : World}
  (hro : F.round = none) (h1 : 1≤n) {gf : Nat} {lb : Array Value} (hg : a.eval g = .func (.func gf) #[] lb) (hFg : F.fn gf) (eg : ∀ args w,(callFunc gf args).run P w = .ok (.enter gf args) w)
  {encs : α→Array Value} {Kp : World→World→Prop} {S Sp : List α→Prop} {N : Nat} {w0 : World} (hseq : SeqStopsK F (n - 1) P gf lb encs Kp S Sp N w0)
  (hKt : ∀ {A B C : World},Kp A B→Kp B C→Kp A C) (hKb : ∀ (W : World) (l : Nat) (o o' : Obj),w.heap.size≤l→W.heap[l]? = some o→o.isCells = false→o.isWalk = false→Kp W (W.putObj l o')) (hb0 : Below w0.heap.size w0 w) (hps : ∀ x,(encs x).size = ps.size) (hKr : ∀ W,Kp W W)
  (I : List α→World→Prop) (Ix : Code→List α→World→Prop) (hI : OwnFrom w.heap.size I) (hIx : ∀ c,OwnFrom w.heap.size (Ix c)) (h0 : I [] w) (f : Array Value→α→Array Value)
  (hassign : ∀ (l : Nat) (x : α) (W : World) (K : Act→World→Prop),K { tmps:=f a.tmps x,defers:=[] } W →
   assign.wpIn (F.inRound l) (n - 1 - 1) P (Exit.then K (fun _ _ _=>False)) { tmps:=(ps.zip (encs x)).foldl (fun t (p,v)=>t.setIfInBounds p v) a.tmps,defers:=[] } W)
  (hbody : ∀ (l : Nat) (pre : List α) (x : α) (W : World),w.heap.size≤l→(∃ r,W.heap[l]? = some (.loop r))→I pre W→pre.length < N→body.wpIn (F.inRound l) (n - 1 - 1) P (ownPostG w.heap.size Kp I Ix (pre++[x]) W) { tmps:=f a.tmps x,defers:=[] } W)
  (hdone : ∀ (D : Nat) (xs : List α) (W : World),w.heap.size≤D→S xs→I xs W→W.heap[D]? = some (.deferred (some []))→Q .normal { a with defers:={ target:=.collected D,args:=#[] } :: a.defers } W)
  (hstop : ∀ (D : Nat) (c : Code) (pre : List α) (W : World),w.heap.size≤D→Sp pre→Ix c pre W→W.heap[D]? = some (.deferred (some []))→c.wpIn F n P Q { a with defers:={ target:=.collected D,args:=#[] } :: a.defers } W) :
  (Code.rangeFunc g ps assign body).wpIn F n P Q a w :=
 wpIn_rangeFunc_ownH hro h1 hg hFg eg hseq (fun h k=>hKt h k) hKb hb0 hps I Ix hI hIx h0 (fun x a' _=>a' = { tmps:=f a.tmps x,defers:=[] }) (fun _ _ _ _ _ _ hs _ _=>hs)
  (fun l _ x W K hi hK=>hassign l x W K (hK _ _ (KeepsFrom.refl _ _) (hKr W) hi rfl)) (fun l pre x a' W hl hr hi e=>by subst e;exact hbody l pre x W hl hr hi) hdone hstop
end
end
section
open Go.RowKit
section
variable {P : Program}
end
end
section
open Go.RowKit
section
variable {P : Program} {F : Fence} {n : Nat} {α : Type}
def SeqC (F : Fence) (n : Nat) (P : Program) (g : Nat) (lb : Array Value) (encs : α→Array Value) (Kp : World→World→Prop) (S Sp : List α→Prop) (N : Nat) (w : World) : Prop :=
 ∀ (l : Nat) (J Jx : List α→World→Prop) (W : World),Below w.heap.size w W→OwnFrom W.heap.size J→OwnFrom W.heap.size Jx →
  (∀ pre x W1,J pre W1→pre.length < N→YieldAt F (n - 1) P l (encs x) W1 fun e W'=>(e = .returned (.bool true)∧J (pre++[x]) W'∧Kp W1 W'∧KeepsFrom W.heap.size W1 W')∨(e = .returned (.bool false)∧Jx (pre++[x]) W'∧KeepsFrom W.heap.size W1 W')) →
  J [] W→CallsIn F n P g (#[.func (.yield l) #[] #[]]++lb) W fun e W'=>(∃ v,e = .returned v)∧((∃ xs,S xs∧J xs W')∨(∃ pre,Sp pre∧Jx pre W'))
theorem SeqC.inRound {g : Nat} {lb : Array Value} {encs : α→Array Value} {Kp : World→World→Prop} {S Sp : List α→Prop} {N : Nat} {w : World} (l : Nat) (h : SeqC F n P g lb encs Kp S Sp N w) : SeqC (F.inRound l) n P g lb encs Kp S Sp N w:=h
def recC (fn : FuncId) (tmps : Array Value) (ps : Array Tmp) (assign body : Code) (d : Nat) (st : LoopState) (pe : Option Code) : Loop:={ state:=st,pending:=pe,fn,tmps,params:=ps,assign,body,defers:=d }
structure StaysC (B l : Nat) (W W' : World) : Prop where
 size : W.heap.size≤W'.heap.size
 same : ∀ (k : Nat) (o : Obj),B≤k→k ≠ l→W.heap[k]? = some o→o.isCells = false→W'.heap[k]? = some o
variable {encs : α→Array Value} {Kp : World→World→Prop} {I : List α→World→Prop} {Ix : Code→List α→World→Prop} {ps : Array Tmp} {assign body : Code}
theorem yieldC {fn : FuncId} {tmps : Array Value} {d l B m : Nat} {pre : List α} {x : α} {W : World} {a' : Act} (hfn : F.fn fn) (hps : (encs x).size = ps.size) (hB : B≤l)
  (hKt : ∀ {A B C : World},Kp A B→Kp B C→Kp A C) (hKb : ∀ (W : World) (l : Nat) (o o' : Obj),B≤l→W.heap[l]? = some o→o.isCells = false→o.isWalk = false→Kp W (W.putObj l o'))
  (hI : OwnFrom B I) (hIx : ∀ c,OwnFrom B (Ix c)) (hi : I pre W) (hl : W.heap[l]? = some (.loop (recC fn tmps ps assign body d .ready none)))
  (hassign : ∀ K : Act→World→Prop,K a' W→assign.wpIn (F.inRound l) m P (Exit.then K (fun _ _ _=>False)) { tmps:=(ps.zip (encs x)).foldl (fun t (p,v)=>t.setIfInBounds p v) tmps,defers:=[] } W)
  (hbody : ∀ W',(∃ r,W'.heap[l]? = some (.loop r))→I pre W'→body.wpIn (F.inRound l) m P (ownPostG B Kp I Ix (pre++[x]) W') a' W') :
  YieldAt F m P l (encs x) W fun e W' =>
   (e = .returned (.bool true)∧(I (pre++[x]) W'∧W'.heap[l]? = some (.loop (recC fn tmps ps assign body d .ready none))∧StaysC B l W W')∧Kp W W') ∨
   (e = .returned (.bool false)∧∃ c,Ix c (pre++[x]) W'∧W'.heap[l]? = some (.loop (recC fn tmps ps assign body d .done (some c)))∧StaysC B l W W'):=by
 refine ⟨fn,_,assign,body,run_yield (P:=P) (args:=encs x) hl hps,roundIn_of_wpIn hfn (hassign _ ?_)⟩
 have hlt:=(Array.getElem?_eq_some_iff.1 hl).1
 refine ⟨_,run_beginRound hl rfl,?_⟩
 have hl2 : (W.putObj l (.loop { recC fn tmps ps assign body d .ready none with state:=.busy })).heap[l]? = some (.loop { recC fn tmps ps assign body d .ready none with state:=.busy }):=World.putObj_heap_same hlt
 have hk2 : Kp W (W.putObj l (.loop { recC fn tmps ps assign body d .ready none with state:=.busy })):=hKb _ _ _ _ hB hl rfl rfl
 refine wpIn_mono (hbody _ ⟨_,hl2⟩ (hI.putObj _ hi hB hl rfl)) ?_
 have last : ∀ (jump : Option Code) (W3 : World),KeepsFrom B (W.putObj l (.loop { recC fn tmps ps assign body d .ready none with state:=.busy })) W3 →
   ∃ W4,(Instr.endRound l jump).run P W3 = .ok (.bool jump.isNone) W4∧W4.heap[l]? = some (.loop (recC fn tmps ps assign body d (if jump.isNone then .ready else .done) jump))∧StaysC B l W W4 ∧
    (∀ Y : World→Prop,(∀ (o o' : Obj),W3.heap[l]? = some o→o.isCells = false→o.isWalk = false→Y (W3.putObj l o'))→Y W4):=fun jump W3 hk=>by
  have hl3:=hk.same _ _ hB hl2 rfl
  refine ⟨_,run_endRound (P:=P) jump hl3,World.putObj_heap_same (Array.getElem?_eq_some_iff.1 hl3).1,⟨by have:=hk.size;simpa using this,fun k o hBk hne ho hc=>?_⟩,fun Y hY=>hY _ _ hl3 rfl rfl⟩
  exact (World.putObj_heap_other hne).trans (hk.same k o hBk ((World.putObj_heap_other hne).trans ho) hc)
 rintro e a3 W3 hp
 cases e with
 | normal =>
  obtain ⟨hk,hkp,hi3⟩:=hp
  obtain ⟨W4,hr,h4,hs,hY⟩:=last none W3 hk
  exact ⟨_,_,hr,.inl ⟨rfl,⟨hY (fun W=>I (pre++[x]) W) (fun o o' ho hc _=>hI.putObj o' hi3 hB ho hc),h4,hs⟩,hKt (hKt hk2 hkp) (hY (Kp W3) (fun o o' ho hc hw=>hKb W3 l o o' hB ho hc hw))⟩⟩
 | ret =>
  obtain ⟨hk,hi3⟩:=hp
  obtain ⟨W4,hr,h4,hs,hY⟩:=last (some .ret) W3 hk
  exact ⟨_,_,hr,.inr ⟨rfl,_,hY (fun W=>Ix .ret (pre++[x]) W) (fun o o' ho hc _=>(hIx _).putObj o' hi3 hB ho hc),h4,hs⟩⟩
 | exit id =>
  obtain ⟨hk,hi3⟩:=hp
  obtain ⟨W4,hr,h4,hs,hY⟩:=last (some (.exit id)) W3 hk
  exact ⟨_,_,hr,.inr ⟨rfl,_,hY (fun W=>Ix (.exit id) (pre++[x]) W) (fun o o' ho hc _=>(hIx _).putObj o' hi3 hB ho hc),h4,hs⟩⟩
 | goto t =>
  obtain ⟨hk,hi3⟩:=hp
  obtain ⟨W4,hr,h4,hs,hY⟩:=last (some (.goto t)) W3 hk
  exact ⟨_,_,hr,.inr ⟨rfl,_,hY (fun W=>Ix (.goto t) (pre++[x]) W) (fun o o' ho hc _=>(hIx _).putObj o' hi3 hB ho hc),h4,hs⟩⟩
 | panic ch=>exact hp.elim
 | outgrown=>exact hp.elim
theorem grown_later {A B : World} {row : Option Nat} {W1 : World} (hg : A.grownBy B row) (hr : ∀ r,row = some r→W1.heap.size≤r∧∃ o : Obj,A.heap[r]? = some o∧o.isCells = false) {k : Nat} {o : Obj} (hk : k < W1.heap.size) (ho : A.heap[k]? = some o) : B.heap[k]? = some o :=
 (hg.block k (Array.getElem?_eq_some_iff.1 ho).1 (fun e=>by have:=(hr k e.symm).1;omega)).trans ho
theorem own_later {β : Type} {B : Nat} {I : β→World→Prop} (h : OwnFrom B I) {C : Nat} (hBC : B≤C) : OwnFrom C I:=fun s X Y row hs hg hr=>h s X Y row hs hg (fun r e=>⟨Nat.le_trans hBC (hr r e).1,(hr r e).2⟩)
variable {g : Operand} {Q : Exit→Act→World→Prop} {a : Act} {w : World}
theorem rngC (hro : F.round = none) (h1 : 1≤n) {gf : Nat} {lb : Array Value} (hg : a.eval g = .func (.func gf) #[] lb) (hFg : F.fn gf) (eg : ∀ args w,(callFunc gf args).run P w = .ok (.enter gf args) w)
  {S Sp : List α→Prop} {N : Nat} {w0 : World} (hseq : SeqC F (n - 1) P gf lb encs Kp S Sp N w0)
  (hKt : ∀ {A B C : World},Kp A B→Kp B C→Kp A C) (hKb : ∀ (W : World) (l : Nat) (o o' : Obj),w.heap.size≤l→W.heap[l]? = some o→o.isCells = false→o.isWalk = false→Kp W (W.putObj l o')) (hb0 : Below w0.heap.size w0 w) (hps : ∀ x,(encs x).size = ps.size)
  (I : List α→World→Prop) (Ix : Code→List α→World→Prop) (hI : OwnFrom w.heap.size I) (hIx : ∀ c,OwnFrom w.heap.size (Ix c)) (h0 : I [] w) (f : Array Value→α→Array Value)
  (hassign : ∀ (l : Nat) (x : α) (W : World) (K : Act→World→Prop),K { tmps:=f a.tmps x,defers:=[] } W →
   assign.wpIn (F.inRound l) (n - 1 - 1) P (Exit.then K (fun _ _ _=>False)) { tmps:=(ps.zip (encs x)).foldl (fun t (p,v)=>t.setIfInBounds p v) a.tmps,defers:=[] } W)
  (hbody : ∀ (l : Nat) (pre : List α) (x : α) (W : World),w.heap.size≤l→(∃ r,W.heap[l]? = some (.loop r))→I pre W→pre.length < N→body.wpIn (F.inRound l) (n - 1 - 1) P (ownPostG w.heap.size Kp I Ix (pre++[x]) W) { tmps:=f a.tmps x,defers:=[] } W)
  (hdone : ∀ (D : Nat) (xs : List α) (W : World),w.heap.size≤D→S xs→I xs W→W.heap[D]? = some (.deferred (some []))→Q .normal { a with defers:={ target:=.collected D,args:=#[] } :: a.defers } W)
  (hstop : ∀ (D : Nat) (c : Code) (pre : List α) (W : World),w.heap.size≤D→Sp pre→Ix c pre W→W.heap[D]? = some (.deferred (some []))→c.wpIn F n P Q { a with defers:={ target:=.collected D,args:=#[] } :: a.defers } W) :
  (Code.rangeFunc g ps assign body).wpIn F n P Q a w:=by
 refine wpIn_rangeFunc (fun fn hfn=>?_)
 rw [hro]
 have z1 : (w.alloc (.deferred (some []))).heap.size = w.heap.size+1:=by simp
 have hL : ((w.alloc (.deferred (some []))).alloc (.loop (recC fn a.tmps ps assign body w.heap.size .ready none))).heap[w.heap.size+1]? = some (.loop (recC fn a.tmps ps assign body w.heap.size .ready none)):=by
  have:=World.alloc_heap_new (w.alloc (.deferred (some []))) (.loop (recC fn a.tmps ps assign body w.heap.size .ready none));rwa [z1] at this
 have hD : ((w.alloc (.deferred (some []))).alloc (.loop (recC fn a.tmps ps assign body w.heap.size .ready none))).heap[w.heap.size]? = some (.deferred (some [])):=(Below.heap_alloc _ _ _ (by simp)).trans (World.alloc_heap_new w _)
 have hz : ((w.alloc (.deferred (some []))).alloc (.loop (recC fn a.tmps ps assign body w.heap.size .ready none))).heap.size = w.heap.size+2:=by simp
 have hi : I [] ((w.alloc (.deferred (some []))).alloc (.loop (recC fn a.tmps ps assign body w.heap.size .ready none))):=hI.alloc _ (hI.alloc _ h0)
 have hb1 : Below w0.heap.size w0 ((w.alloc (.deferred (some []))).alloc (.loop (recC fn a.tmps ps assign body w.heap.size .ready none))):=(hb0.alloc hb0.size _).alloc (by simp;have:=hb0.size;omega) _
 refine ⟨w.heap.size+1,[{ target:=.collected w.heap.size,args:=#[] }],(w.alloc (.deferred (some []))).alloc (.loop (recC fn a.tmps ps assign body w.heap.size .ready none)),{ target:=.fn (.func gf) lb,args:=#[.func (.yield (w.heap.size+1)) #[] #[]] },
  (w.alloc (.deferred (some []))).alloc (.loop (recC fn a.tmps ps assign body w.heap.size .ready none)),gf,#[.func (.yield (w.heap.size+1)) #[] #[]]++lb,(w.alloc (.deferred (some []))).alloc (.loop (recC fn a.tmps ps assign body w.heap.size .ready none)),?_,?_,?_,?_,fun _=>h1,?_⟩
 ·exact run_enterLoop_outer _ _ _ _ _
 ·simp only [resolve,hg];simp [go_sem]
 ·intro f' hf';simp [Target.leads] at hf';subst hf';exact hFg
 ·simp [invoke,go_sem,eg]
 ·generalize hW1 : (w.alloc (.deferred (some []))).alloc (.loop (recC fn a.tmps ps assign body w.heap.size .ready none)) = W1 at hL hD hz hi hb1
  have hle : w.heap.size≤W1.heap.size:=by omega
  refine (hseq (w.heap.size+1)
   (fun pre W=>I pre W∧W.heap[w.heap.size+1]? = some (.loop (recC fn a.tmps ps assign body w.heap.size .ready none))∧W.heap[w.heap.size]? = some (.deferred (some [])))
   (fun pre W=>∃ c,Ix c pre W∧W.heap[w.heap.size+1]? = some (.loop (recC fn a.tmps ps assign body w.heap.size .done (some c)))∧W.heap[w.heap.size]? = some (.deferred (some [])))
   W1 hb1
   (fun s X Y row hs hg' hr=>⟨own_later hI hle s X Y row hs.1 hg' hr,grown_later hg' hr (by omega) hs.2.1,grown_later hg' hr (by omega) hs.2.2⟩)
   (fun s X Y row hs hg' hr=>let ⟨c,h1,h2,h3⟩:=hs;⟨c,own_later (hIx c) hle s X Y row h1 hg' hr,grown_later hg' hr (by omega) h2,grown_later hg' hr (by omega) h3⟩)
   (fun pre x W hj hlen=>YieldAt.mono (yieldC (Kp:=Kp) (l:=w.heap.size+1) hfn (hps x) (Nat.le_succ _) (fun h k=>hKt h k) hKb hI hIx hj.1 hj.2.1 (hassign _ x W) (fun W' hr hi'=>hbody _ pre x W' (Nat.le_succ _) hr hi' hlen)) ?_) ⟨hi,hL,hD⟩).mono ?_
  ·rintro e W' (⟨he,⟨h2,h3,h4⟩,h5⟩ | ⟨he,c,h2,h3,h4⟩)
   ·exact .inl ⟨he,⟨h2,h3,h4.same _ _ (Nat.le_refl _) (by omega) hj.2.2 rfl⟩,h5,⟨h4.size,fun k o hk ho hc=>h4.same k o (by omega) (by omega) ho hc⟩⟩
   ·exact .inr ⟨he,⟨c,h2,h3,h4.same _ _ (Nat.le_refl _) (by omega) hj.2.2 rfl⟩,⟨h4.size,fun k o hk ho hc=>h4.same k o (by omega) (by omega) ho hc⟩⟩
  ·rintro e W2 ⟨⟨v,rfl⟩,(⟨xs,hS,hi,hl,hk⟩ | ⟨pre,hSp,c,hi,hl,hk⟩)⟩
   ·exact ⟨none,_,run_endLoop (P:=P) hl (by simp [recC]),hdone _ xs _ (Nat.le_refl _) hS (hI.putObj _ hi (Nat.le_succ _) hl rfl) ((World.putObj_heap_other (by omega)).trans hk)⟩
   ·exact ⟨some c,_,run_endLoop (P:=P) hl (by simp [recC]),hstop _ c pre _ (Nat.le_refl _) hSp ((hIx c).putObj _ hi (Nat.le_succ _) hl rfl) ((World.putObj_heap_other (by omega)).trans hk)⟩
theorem rngCN {l₀ : Nat} {r₀ : Loop} (hro : F.round = some l₀) (hl₀ : w.heap[l₀]? = some (.loop r₀)) (h1 : 1≤n) {gf : Nat} {lb : Array Value} (hg : a.eval g = .func (.func gf) #[] lb) (hFg : F.fn gf) (eg : ∀ args w,(callFunc gf args).run P w = .ok (.enter gf args) w)
  {S Sp : List α→Prop} {N : Nat} {w0 : World} (hseq : SeqC F (n - 1) P gf lb encs Kp S Sp N w0)
  (hKt : ∀ {A B C : World},Kp A B→Kp B C→Kp A C) (hKb : ∀ (W : World) (l : Nat) (o o' : Obj),w.heap.size≤l→W.heap[l]? = some o→o.isCells = false→o.isWalk = false→Kp W (W.putObj l o')) (hb0 : Below w0.heap.size w0 w) (hps : ∀ x,(encs x).size = ps.size)
  (I : List α→World→Prop) (Ix : Code→List α→World→Prop) (hI : OwnFrom w.heap.size I) (hIx : ∀ c,OwnFrom w.heap.size (Ix c)) (h0 : I [] w) (f : Array Value→α→Array Value)
  (hassign : ∀ (l : Nat) (x : α) (W : World) (K : Act→World→Prop),K { tmps:=f a.tmps x,defers:=[] } W →
   assign.wpIn (F.inRound l) (n - 1 - 1) P (Exit.then K (fun _ _ _=>False)) { tmps:=(ps.zip (encs x)).foldl (fun t (p,v)=>t.setIfInBounds p v) a.tmps,defers:=[] } W)
  (hbody : ∀ (l : Nat) (pre : List α) (x : α) (W : World),w.heap.size≤l→(∃ r,W.heap[l]? = some (.loop r))→I pre W→pre.length < N→body.wpIn (F.inRound l) (n - 1 - 1) P (ownPostG w.heap.size Kp I Ix (pre++[x]) W) { tmps:=f a.tmps x,defers:=[] } W)
  (hdone : ∀ (xs : List α) (W : World),S xs→I xs W→Q .normal a W)
  (hstop : ∀ (c : Code) (pre : List α) (W : World),Sp pre→Ix c pre W→c.wpIn F n P Q a W) :
  (Code.rangeFunc g ps assign body).wpIn F n P Q a w:=by
 refine wpIn_rangeFunc (fun fn hfn=>?_)
 rw [hro]
 have hL : (w.alloc (.loop (recC fn a.tmps ps assign body r₀.defers .ready none))).heap[w.heap.size]? = some (.loop (recC fn a.tmps ps assign body r₀.defers .ready none)):=World.alloc_heap_new w _
 have hz : (w.alloc (.loop (recC fn a.tmps ps assign body r₀.defers .ready none))).heap.size = w.heap.size+1:=by simp
 have hi : I [] (w.alloc (.loop (recC fn a.tmps ps assign body r₀.defers .ready none))):=hI.alloc _ h0
 have hb1 : Below w0.heap.size w0 (w.alloc (.loop (recC fn a.tmps ps assign body r₀.defers .ready none))):=hb0.alloc hb0.size _
 refine ⟨w.heap.size,[],w.alloc (.loop (recC fn a.tmps ps assign body r₀.defers .ready none)),{ target:=.fn (.func gf) lb,args:=#[.func (.yield w.heap.size) #[] #[]] },
  w.alloc (.loop (recC fn a.tmps ps assign body r₀.defers .ready none)),gf,#[.func (.yield w.heap.size) #[] #[]]++lb,w.alloc (.loop (recC fn a.tmps ps assign body r₀.defers .ready none)),?_,?_,?_,?_,fun _=>h1,?_⟩
 ·exact run_enterLoop_inner hl₀ _ _ _ _ _
 ·simp only [resolve,hg];simp [go_sem]
 ·intro f' hf';simp [Target.leads] at hf';subst hf';exact hFg
 ·simp [invoke,go_sem,eg]
 ·generalize hW1 : w.alloc (.loop (recC fn a.tmps ps assign body r₀.defers .ready none)) = W1 at hL hz hi hb1
  have hle : w.heap.size≤W1.heap.size:=by omega
  refine (hseq w.heap.size
   (fun pre W=>I pre W∧W.heap[w.heap.size]? = some (.loop (recC fn a.tmps ps assign body r₀.defers .ready none)))
   (fun pre W=>∃ c,Ix c pre W∧W.heap[w.heap.size]? = some (.loop (recC fn a.tmps ps assign body r₀.defers .done (some c))))
   W1 hb1
   (fun s X Y row hs hg' hr=>⟨own_later hI hle s X Y row hs.1 hg' hr,grown_later hg' hr (by omega) hs.2⟩)
   (fun s X Y row hs hg' hr=>let ⟨c,h1,h2⟩:=hs;⟨c,own_later (hIx c) hle s X Y row h1 hg' hr,grown_later hg' hr (by omega) h2⟩)
   (fun pre x W hj hlen=>YieldAt.mono (yieldC (Kp:=Kp) (l:=w.heap.size) hfn (hps x) (Nat.le_refl _) (fun h k=>hKt h k) hKb hI hIx hj.1 hj.2 (hassign _ x W) (fun W' hr hi'=>hbody _ pre x W' (Nat.le_refl _) hr hi' hlen)) ?_) ⟨hi,hL⟩).mono ?_
  ·rintro e W' (⟨he,⟨h2,h3,h4⟩,h5⟩ | ⟨he,c,h2,h3,h4⟩)
   ·exact .inl ⟨he,⟨h2,h3⟩,h5,⟨h4.size,fun k o hk ho hc=>h4.same k o (by omega) (by omega) ho hc⟩⟩
   ·exact .inr ⟨he,⟨c,h2,h3⟩,⟨h4.size,fun k o hk ho hc=>h4.same k o (by omega) (by omega) ho hc⟩⟩
  ·rintro e W2 ⟨⟨v,rfl⟩,(⟨xs,hS,hi,hl⟩ | ⟨pre,hSp,c,hi,hl⟩)⟩
   ·exact ⟨none,_,run_endLoop (P:=P) hl (by simp [recC]),hdone xs _ hS (hI.putObj _ hi (Nat.le_refl _) hl rfl)⟩
   ·exact ⟨some c,_,run_endLoop (P:=P) hl (by simp [recC]),hstop c pre _ hSp ((hIx c).putObj _ hi (Nat.le_refl _) hl rfl)⟩
end
end
section
open Go.RowKit Go.Shelf
attribute [local go_sem] Oper.semAt_some
end
section
open Go.RowKit Go.Shelf
attribute [local go_sem] Oper.semAt_some
structure KC (m : Nat) (X : Nat→Prop) (W W' : World) : Prop where
 size : W.heap.size≤W'.heap.size
 same : ∀ (k : Nat) (o : Obj),m≤k→¬ X k→W.heap[k]? = some o→o.isCells = true→W'.heap[k]? = some o
 walks : KeepsWalks W W'
theorem KC.refl (m : Nat) (X : Nat→Prop) (W : World) : KC m X W W:=⟨Nat.le_refl _,fun _ _ _ _ h _=>h,KeepsWalks.refl _⟩
theorem KC.trans {m : Nat} {X : Nat→Prop} {A B C : World} (h : KC m X A B) (k : KC m X B C) : KC m X A C :=
 ⟨Nat.le_trans h.size k.size,fun i o hm hx ho hc=>k.same i o hm hx (h.same i o hm hx ho hc) hc,h.walks.trans k.walks⟩
theorem KC.put {m : Nat} {X : Nat→Prop} (W : World) (l : Nat) (o o' : Obj) (h : W.heap[l]? = some o) (hc : o.isCells = false) (hw : o.isWalk = false) : KC m X W (W.putObj l o') :=
 ⟨by simp,fun k o2 _ _ hk hk2=>by
  by_cases e : k = l
  ·subst e;rw [h] at hk;cases hk;rw [hc] at hk2;cases hk2
  ·exact (World.putObj_heap_other e).trans hk,KeepsWalks.putObj o' h hw⟩
theorem KC.blk {m : Nat} {X : Nat→Prop} {W W' : World} (h : KC m X W W') {g : Nat} {t : TypeId} {cs : Array Value} (hB : Blk W g t cs) (hm : m≤g) (hx : ¬ X g) : Blk W' g t cs:=h.same g _ hm hx hB rfl
end
section
open Go Go.RowKit
def KT (t : TypeId) (X : Nat→Prop) (W W' : World) : Prop:=W.heap.size≤W'.heap.size∧∀ (k : Nat) (cur : Array Value) (fz : Nat × Nat),¬ X k→W.heap[k]? = some (.cells cur t fz)→W'.heap[k]? = some (.cells cur t fz)
theorem Rd.atQ {w : World} {A : Option Addr} {l : List Nat} {k x : Nat} (h : Rd w 1 A (l.map fun a=>[.int .i64 (a : Nat)])) (hk : l[k]? = some x) : ∃ b off,A = some ⟨b,off,none⟩∧w.cell? ⟨b,off+k,none⟩ = some (.int .i64 (x : Nat)):=by
 obtain ⟨b,off,rfl,hc⟩:=h (by intro e;have:=congrArg List.length e;rw [List.length_map] at this;have h2:=(List.getElem?_eq_some_iff.1 hk).1;simp at this;rw [this] at h2;simp at h2)
 have h0:=hc k 0 [.int .i64 (x : Nat)] (.int .i64 (x : Nat)) (by simp [hk]) rfl
 refine ⟨b,off,rfl,?_⟩
 simpa using h0
theorem Rd.manyQ (W : World) (t : TypeId) (s : Nat) (cs : List (List Value)) (arr : Array Value) (harr : arr = cs.flatten.toArray) (h : ∀ x ∈ cs,x.length = s) : Rd (W.alloc (.cells arr t)) s (some ⟨W.heap.size,0,none⟩) cs:=fun _ =>
 ⟨W.heap.size,0,rfl,fun k j x u hx hu=>by
  subst harr
  rw [(Blk.new W t cs.flatten.toArray).cell (0+k*s+j),zG,Nat.zero_add]
  exact flatten_get h hx hu⟩
theorem kcQ_setCell {m : Nat} {X : Nat→Prop} {A B : World} (h : KC m X A B) {p : Addr} (hp : p.block < m∨X p.block) (u : Value) : KC m X A (B.setCell p u) :=
 ⟨by simpa [World.setCell] using h.size,fun k o hm hx ho hc=>(Below.heap_setCell B p u k (by
  rintro rfl
  rcases hp with hp | hp
  ·omega
  ·exact hx hp)).trans (h.same k o hm hx ho hc),h.walks.trans (KeepsWalks.setCell B p u)⟩
theorem kcQ_below {m : Nat} {X : Nat→Prop} {A B : World} (h : Below A.heap.size A B) : KC m X A B :=
 ⟨h.size,fun k _ _ _ hk _=>(h.block k (Array.getElem?_eq_some_iff.1 hk).1).trans hk,⟨h.size,fun k _ hk _=>(h.block k (Array.getElem?_eq_some_iff.1 hk).1).trans hk⟩⟩
section
variable {t : TypeId} {X : Nat→Prop} {A B C : World}
theorem KT.refl (t : TypeId) (X : Nat→Prop) (W : World) : KT t X W W:=⟨Nat.le_refl _,fun _ _ _ _ h=>h⟩
theorem KT.trans (h : KT t X A B) (k : KT t X B C) : KT t X A C:=⟨Nat.le_trans h.1 k.1,fun i c z hx hc=>k.2 i c z hx (h.2 i c z hx hc)⟩
theorem KT.of_kc (h : KC 0 X A B) : KT t X A B:=⟨h.size,fun k _ _ hx hk=>h.same k _ (Nat.zero_le _) hx hk rfl⟩
theorem KT.put (W : World) (l : Nat) (o o' : Obj) (h : W.heap[l]? = some o) (hc : o.isCells = false) : KT t X W (W.putObj l o') :=
 ⟨by simp,fun k c z _ hk=>by
  by_cases e : k = l
  ·subst e;rw [h] at hk;cases hk;cases hc
  ·exact (World.putObj_heap_other e).trans hk⟩
theorem KT.below (h : Below A.heap.size A B) : KT t X A B:=⟨h.size,fun k _ _ _ hk=>(h.block k (Array.getElem?_eq_some_iff.1 hk).1).trans hk⟩
theorem KT.own {base : Nat} {s : Nat} {P : Option Addr} {n c : Nat} {cs : List (List Value)} (h : KT t X A B) (ho : Own A base t s P n c cs) (hX : ∀ b,X b→b < base) : Own B base t s P n c cs:=by
 refine ho.keep fun a ha=>?_
 rcases ho.2.2.2 with ⟨h0,_⟩ | ⟨g,cap,cur,hv,hg,hh,_⟩
 ·injection h0 with h0;rw [h0] at ha;cases ha
 ·injection hv with hv
  rw [hv] at ha
  injection ha with ha
  subst ha
  exact (h.2 _ _ _ (fun hx=>by have:=hX _ hx;omega) hh).trans hh.symm
end
end
section
def piecesF : List Nat→List (Nat × Nat)
 | a :: b :: r=>(a,b) :: piecesF (b :: r)
 | _=>[]
theorem piecesF_len : ∀ (L : List Nat),(piecesF L).length = L.length - 1
 | []=>rfl
 | [_]=>rfl
 | a :: b :: r=>by rw [piecesF,List.length_cons,piecesF_len (b :: r)];simp
theorem piecesF_at : ∀ (L : List Nat) (k x y : Nat),L[k]? = some x→L[k+1]? = some y→(piecesF L)[k]? = some (x,y)
 | [],_,_,_,h,_=>by simp at h
 | [_],k,_,_,_,h=>by simp at h
 | a :: b :: r,0,x,y,hx,hy=>by
  simp only [zH,zI,Option.some.injEq] at hx hy
  subst hx hy
  rfl
 | a :: b :: r,k+1,x,y,hx,hy=>by
  rw [piecesF,zI]
  exact piecesF_at (b :: r) k x y (by simpa using hx) (by simpa using hy)
theorem piecesF_le {s : ByteArray} : ∀ {L : List Nat},L.Pairwise (· < ·)→(∀ a ∈ L,a≤s.size)→∀ x ∈ piecesF L,x.1≤x.2∧x.2≤s.size
 | [],_,_,x,h=>by simp [piecesF] at h
 | [_],_,_,x,h=>by simp [piecesF] at h
 | a :: b :: r,hp,hz,x,h=>by
  rw [List.pairwise_cons] at hp
  rw [piecesF] at h
  rcases List.mem_cons.1 h with rfl | h
  ·exact ⟨Nat.le_of_lt (hp.1 b (by simp)),hz b (by simp)⟩
  ·exact piecesF_le hp.2 (fun c hc=>hz c (by simp [hc])) x h
def clP (s : ByteArray) (x : Nat × Nat) : Nat × Nat:=if x.1≤x.2∧x.2≤s.size then x else (0,0)
theorem clP_le (s : ByteArray) (x : Nat × Nat) : (clP s x).1≤(clP s x).2∧(clP s x).2≤s.size:=by
 unfold clP
 split
 ·assumption
 ·exact ⟨Nat.le_refl _,Nat.zero_le _⟩
theorem clP_in {s : ByteArray} {x : Nat × Nat} (h : x.1≤x.2∧x.2≤s.size) : clP s x = x:=if_pos h
theorem wPick_sub (c : List Int) : ∀ (l : List Nat) (i : Nat),List.Sublist (wPick c i l) l
 | [],_=>List.Sublist.refl _
 | a :: r,i=>by
  rw [wPick]
  split
  ·exact (wPick_sub c r (i+1)).cons_cons a
  ·exact (wPick_sub c r (i+1)).cons a
theorem wBounds_rise (g : Int→Nat) (s : ByteArray) : (wBounds g s).Pairwise (· < ·):=by
 have h1 : ((runesP s).map (fun x=>x.2.1)).Pairwise (· < ·):=by
  rw [List.pairwise_map];exact runes_rise s
 have h2:=h1.sublist (wPick_sub (wCls g s) _ 0)
 unfold wBounds
 split
 ·rw [List.append_nil];exact h2
 ·rw [List.pairwise_append]
  refine ⟨h2,List.pairwise_singleton _ _,fun a ha b hb=>?_⟩
  rw [List.mem_singleton] at hb
  subst hb
  obtain ⟨x,hx,rfl⟩:=List.mem_map.1 ((wPick_sub _ _ 0).mem ha)
  have:=runesP_bd x hx
  omega
theorem wBounds_le (g : Int→Nat) (s : ByteArray) : ∀ a ∈ wBounds g s,a≤s.size:=fun a ha=>by
 unfold wBounds at ha
 rcases List.mem_append.1 ha with h | h
 ·obtain ⟨x,hx,rfl⟩:=List.mem_map.1 ((wPick_sub _ _ 0).mem h)
  have:=runesP_bd x hx
  omega
 ·split at h
  ·simp at h
  ·simp at h;omega
theorem wBounds_len (g : Int→Nat) (s : ByteArray) : (wBounds g s).length≤s.size+1:=by
 unfold wBounds
 rw [List.length_append]
 have h1:=(wPick_sub (wCls g s) ((runesP s).map (fun x=>x.2.1)) 0).length_le
 rw [List.length_map] at h1
 have h2:=runesP_len s
 have h3 : (if s.size = 0 then [] else [s.size]).length≤1:=by split <;> simp
 omega
end
section
open Go.RowKit Go.Shelf Go.Maps
attribute [local go_sem] Oper.semAt_some
def KpB (m : Nat) (X : Nat→Prop) (A B : World) : Prop:=RowKit.Below m A B∧KC 0 X A B
theorem KpB.refl (m : Nat) (X : Nat→Prop) (W : World) : KpB m X W W:=⟨RowKit.Below.refl _ _,KC.refl _ _ _⟩
theorem KpB.trans {m : Nat} {X : Nat→Prop} {A B C : World} (h : KpB m X A B) (k : KpB m X B C) : KpB m X A C:=⟨h.1.trans k.1,h.2.trans k.2⟩
theorem KpB.put {m : Nat} {X : Nat→Prop} {w : World} (hm : m≤w.heap.size) (W : World) (l : Nat) (o o' : Obj) (hl : w.heap.size≤l) (h : W.heap[l]? = some o) (hc : o.isCells = false) (hw : o.isWalk = false) : KpB m X W (W.putObj l o') :=
 ⟨belowK_b (w:=w) hm W l o o' hl h hc hw,KC.put W l o o' h hc hw⟩
theorem keepsFrom_below {B : Nat} {A C : World} (h : RowKit.Below A.heap.size A C) : KeepsFrom B A C:=⟨h.size,fun k _ _ hk _=>(h.block k (Array.getElem?_eq_some_iff.1 hk).1).trans hk⟩
theorem keeps_later {B C : Nat} {A D : World} (h : KeepsFrom B A D) (hBC : B≤C) : KeepsFrom C A D:=⟨h.size,fun k o hk h0 ho=>h.same k o (Nat.le_trans hBC hk) h0 ho⟩
end
section
open Go Go.RowKit
section
variable {P : Program} {Q : Exit→Act→World→Prop} {l n : Nat}
def noDefer (ops : Array Oper) : Bool:=ops.toList.all fun o=>match o.op with | .defer _=>false | _=>true
theorem noDefer_at {ops : Array Oper} (h : noDefer ops = true) {i : Nat} {o : Oper} (ho : ops[i]? = some o) : ∀ c,o.op ≠ .defer c:=fun c hc=>by
 unfold noDefer at h
 rw [List.all_eq_true] at h
 have:=h o (by rw [← Array.getElem?_toList] at ho;exact List.mem_of_getElem? ho)
 rw [hc] at this
 cases this
theorem wpIn_of_wp_round {o : Oper} (hd : ∀ c,o.op ≠ .defer c) {a : Act} {w : World} {K : Act→World→Prop} (h : o.wp P a w K Q) : o.wpIn (Fence.wide.inRound l) n P a w K Q:=by
 refine ⟨fun _ _=>trivial,?_⟩
 rw [Oper.semAt_plain _ _ _ hd]
 unfold Oper.wp at h
 generalize (execOp a.eval o).run P w = r at h ⊢
 cases r with
 | ok x w' =>
  cases x with
  | enter f args=>exact ⟨fun h=>by simp [Fence.wide,Fence.inRound] at h,CallsIn.inRound l (callsIn_wide.2 h)⟩
  | row row args=>exact ⟨fun h=>by simp [Fence.wide,Fence.inRound] at h,fun c cs _=>let ⟨v,w2,r1,s1⟩:=h c cs;⟨v,w2,r1,stepsIn_wide.2 s1⟩⟩
  | round=>exact False.elim h
  | _=>exact h
 | halt x w'=>cases x <;> exact h
theorem wpOpsIn_round {ops : Array Oper} (hd : noDefer ops = true) (hL : ¬ LetsOut Q) : ∀ (L : List Nat) (a : Act) (w : World),wpOps P ops Q L a w→wpOpsIn (Fence.wide.inRound l) n P ops Q L a w
 | [],_,_,h=>h
 | i :: rest,a,w,h=>by
  unfold wpOps at h
  unfold wpOpsIn
  cases ho : ops[i]? with
  | none=>simp only [ho] at h ⊢;exact wpOpsIn_round hd hL rest a w h
  | some o =>
   simp only [ho] at h ⊢
   by_cases hw : Region.wanted o (yielded ops a.tmps) = true
   ·simp only [hw,if_true] at h ⊢
    rcases h with h | h
    ·exact Oper.wpIn_mono (fun a w h=>wpOpsIn_round hd hL rest a w h) (wpIn_of_wp_round (noDefer_at hd ho) h)
    ·exact absurd h.2 hL
   ·simp only [hw,if_false,Bool.false_eq_true] at h ⊢
    exact ⟨fun _ _=>trivial,wpOpsIn_round hd hL rest _ w h⟩
theorem wpIn_of_wide_round {o : Oper} (hd : ∀ c,o.op ≠ .defer c) {a : Act} {w : World} {K : Act→World→Prop} (h : o.wpIn Fence.wide n P a w K Q) : o.wpIn (Fence.wide.inRound l) n P a w K Q:=by
 refine ⟨fun _ _=>trivial,?_⟩
 have h2:=h.2
 rw [Oper.semAt_plain _ _ _ hd] at h2 ⊢
 generalize (execOp a.eval o).run P w = r at h2 ⊢
 cases r with
 | ok x w' =>
  cases x with
  | enter f args=>exact ⟨fun h=>by simp [Fence.wide,Fence.inRound] at h,CallsIn.inRound l h2.2⟩
  | row row args=>exact ⟨fun h=>by simp [Fence.wide,Fence.inRound] at h,fun c cs _=>h2.2 c cs (room_wide _)⟩
  | round=>exact ⟨fun h=>by simp [Fence.wide,Fence.inRound] at h,⟨h2.2.1,fun c cs _=>h2.2.2 c cs (room_wide _)⟩⟩
  | _=>exact h2
 | halt x w'=>cases x <;> exact h2
theorem wpOpsIn_wide_round {ops : Array Oper} (hd : noDefer ops = true) : ∀ (L : List Nat) (a : Act) (w : World),wpOpsIn Fence.wide n P ops Q L a w→wpOpsIn (Fence.wide.inRound l) n P ops Q L a w
 | [],_,_,h=>h
 | i :: rest,a,w,h=>by
  unfold wpOpsIn at h ⊢
  cases ho : ops[i]? with
  | none=>simp only [ho] at h ⊢;exact wpOpsIn_wide_round hd rest a w h
  | some o =>
   simp only [ho] at h ⊢
   by_cases hw : Region.wanted o (yielded ops a.tmps) = true
   ·simp only [hw,if_true] at h ⊢
    exact Oper.wpIn_mono (fun a w h=>wpOpsIn_wide_round hd rest a w h) (wpIn_of_wide_round (noDefer_at hd ho) h)
   ·simp only [hw,if_false,Bool.false_eq_true] at h ⊢
    exact ⟨fun _ _=>trivial,wpOpsIn_wide_round hd rest _ w h.2⟩
theorem wpIn_region_wide {id : Nat} {ops : Array Oper} {a : Act} {w : World} (hm : P.follows .mixedOrders = true) (hd : noDefer ops = true)
  (h : wpAnyIn Fence.wide n P .any ops Q ops.size (Array.replicate ops.size false) a w.drew) : (Code.region id ops true).wpIn (Fence.wide.inRound l) n P Q a w :=
 wpIn_region_draw fun t=>by
  simp only [Region.schedule,hm,Bool.true_or,if_true]
  exact wpOpsIn_wide_round hd _ _ _ (wpAnyIn_sound ops.size t _ a _ h)
theorem round_deep {m m' : Nat} {f : FuncId} {tmps : Array Value} {assign body : Code} {w : World} {R : Ending→World→Prop} (h : RoundIn Fence.wide m P l f tmps assign body w R) : RoundIn Fence.wide m' P l f tmps assign body w R :=
 ⟨h.1,fun c cs _=>h.2 c cs (room_wide _)⟩
end
end
section
open Go Go.RowKit
section
variable {P : Program} {Q : Exit→Act→World→Prop} {l₀ n : Nat}
theorem wpIn_region_quiet_round {id : Nat} {a : Act} {w : World} {l : List Oper} (hm : P.follows .mixedOrders = true) (hB : Region.lexB .any l.toArray = true) (hd : noDefer l.toArray = true) (hL : ¬ LetsOut Q)
  (h : wpQuiet P l.toArray (fun w'=>∃ n,w' = w.drewN n) (fun a'=>∀ w',(∃ n,w' = w.drewN n)→Q .normal a' w') l a) : (Code.region id l.toArray true).wpIn (Fence.wide.inRound l₀) n P Q a w :=
 wpIn_region_draw fun t=>by
  simp only [Region.schedule,hm,Bool.true_or,if_true]
  simp only [Region.lexB,Bool.and_eq_true] at hB
  refine wpOpsIn_round hd hL _ _ _ (wpAny_sound l.toArray.size t _ a _ (wpAny_of_quiet (C:=fun w'=>∃ n,w' = w.drewN n) (Q:=fun a'=>∀ w',(∃ n,w' = w.drewN n)→Q .normal a' w') (fun _ w' hw' h=>h w' hw') _ _ _ _ ⟨1,rfl⟩ ?_))
  have:=wpAnyQ_lex (C:=fun w'=>∃ n,w' = w.drewN n) (md:=.any) hB.1 l 0 (Array.replicate l.toArray.size false) a (by simp) (by simpa using hB.2) h
  simpa using this
end
end
end Go.Proofs.YtglmcknlnoknoaaGreatDoor
