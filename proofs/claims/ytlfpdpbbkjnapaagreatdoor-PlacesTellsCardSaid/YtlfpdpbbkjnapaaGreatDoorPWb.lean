/- -/
import Derived.Deep.DeepMust
import Derived.Test.YtlfpdpbbkjnapaaGreatDoorP0a
namespace Go.Proofs.YtlfpdpbbkjnapaaGreatDoor
set_option maxRecDepth 100000
set_option maxHeartbeats 40000000
section
open Go.RowKit Go.Maps
theorem info_cloneS : (Tryz.prog.info? 9).map (fun i=>(i.zero,i.size,i.bytes)) = some (some (.string ByteArray.empty),1,16):=by kernel_rfl
theorem info_cloneD : (Tryz.prog.info? 235).map (fun i=>(i.zero,i.size,i.bytes)) = some (some (.agg #[.int .i32 0,.int .i32 0,.int .i64 0]),3,16):=by kernel_rfl
theorem Rd.nextR {w : World} {A : Option Addr} {x : Int × Int} {l : List (Int × Int)} {b off : Nat} (h : Rd w 2 A ((x :: l).map encR)) (hA : A = some ⟨b,off,none⟩) : Rd w 2 (some ⟨b,off+2,none⟩) (l.map encR):=by
 intro hn
 obtain ⟨b',off',e,hc⟩:=h (by simp)
 rw [hA] at e;injection e with e;injection e with e1 e2 _
 subst e1;subst e2
 refine ⟨b,off+2,rfl,fun k j y u hy hu=>?_⟩
 have:=hc (k+1) j y u (by simpa using hy) hu
 rw [show off+(k+1)*2+j = off+2+k*2+j by omega] at this
 exact this
theorem Rd.nextC {w : World} {x : Int × Int} {l : List (Int × Int)} {b off c : Nat} (h : Rd w 2 (some ⟨b,off,none⟩) ((x :: l).map encR)) (hc : l.length+1≤c) : Rd w 2 (if c = 1 then some ⟨b,off,none⟩ else some ⟨b,off+2,none⟩) (l.map encR):=by
 by_cases e : c = 1
 ·have : l = []:=List.eq_nil_of_length_eq_zero (by omega)
  subst this;exact Rd.nil_ _ _ _
 ·rw [if_neg e];exact h.nextR rfl
theorem wmeet_any (A B : Option Addr) (n c m e : Nat) (l q : List (Int × Int)) (w : World) (hA : Rd w 2 A (l.map encR)) (hB : Rd w 2 B (q.map encR)) (hl : l.length = n) (hq : q.length = m) (hn : n≤4000000) (hm : m≤4000000) (hc : n≤c) (he : m≤e) (h1 : Nf l) (h2 : Nf q) :
  Calls Tryz.prog 201 #[.slice A n c,.slice B m e] w fun e w'=>e = .returned (.bool (meetB l q))∧∃ k,w' = w.drewN k:=by
 have H1:=Lib.hid h1
 have H2:=Lib.hid h2
 have Hl:=Lib.hid hl
 have Hq:=Lib.hid hq
 clear h1 h2
 go_enter Tryz.func201,Tryz.ntmps201
 go_wp2
 go_loopw [0,1] (fun u v wr=>∃ (i j k : Nat) (A1 B1 : Option Addr) (c1 e1 : Nat),u = .slice A1 (n - i) c1∧v = .slice B1 (m - j) e1∧n - i≤c1∧m - j≤e1∧Rd w 2 A1 ((l.drop i).map encR)∧Rd w 2 B1 ((q.drop j).map encR)∧i≤n∧j≤m∧Hid (MeetAt l q i j)∧wr = w.drewN k) (fun u v _=>(match u with | .slice _ n _=>n | _=>0)+(match v with | .slice _ n _=>n | _=>0))
 case atStart=>exact ⟨0,0,0,A,B,c,e,rfl,rfl,hc,he,by rw [List.drop_zero];exact hA,by rw [List.drop_zero];exact hB,by omega,by omega,meetAt_first l q,rfl⟩
 case round =>
  obtain ⟨i,j,k,A1,B1,c1,e1,rfl,rfl,hc1,he1,hA1,hB1,hi,hj,HM,rfl⟩:=hrel
  by_cases hlt : i < n∧j < m
  ·obtain ⟨hin,hjm⟩:=hlt
   obtain ⟨x,Hx⟩ : ∃ x,Hid (l[i]? = some x):=⟨_,Lib.hid (List.getElem?_eq_getElem (show i < l.length by have:=Hl.out;omega))⟩
   obtain ⟨y,Hy⟩ : ∃ y,Hid (q[j]? = some y):=⟨_,Lib.hid (List.getElem?_eq_getElem (show j < q.length by have:=Hq.out;omega))⟩
   have hA2 : Rd w 2 A1 ((x :: l.drop (i+1)).map encR):=by rw [← drop_at Hx.out];exact hA1
   have hB2 : Rd w 2 B1 ((y :: q.drop (j+1)).map encR):=by rw [← drop_at Hy.out];exact hB1
   obtain ⟨b,off,rfl,hcx⟩:=hA2 (by simp)
   obtain ⟨b',off',rfl,hcy⟩:=hB2 (by simp)
   have x1:=hcx 0 0 (encR x) (.int .i32 x.1) rfl rfl
   have x2:=hcx 0 1 (encR x) (.int .i32 x.2) rfl rfl
   have y1:=hcy 0 0 (encR y) (.int .i32 y.1) rfl rfl
   have y2:=hcy 0 1 (encR y) (.int .i32 y.2) rfl rfl
   simp only [Nat.zero_mul,Nat.add_zero] at x1 x2 y1 y2
   have HA3:=Lib.hid (hA2.nextC (c:=c1) (by have:=Hl.out;rw [List.length_drop];omega))
   have HB3:=Lib.hid (hB2.nextC (c:=e1) (by have:=Hq.out;rw [List.length_drop];omega))
   have HA2:=Lib.hid hA1
   have HB2:=Lib.hid hB1
   have HL:=Lib.hid (fun h=>meetAt_left HM.out H2.out Hx.out Hy.out h)
   have HR:=Lib.hid (fun h=>meetAt_right HM.out H1.out Hx.out Hy.out h)
   have HH:=Lib.hid (fun h h'=>meetAt_here HM.out Hx.out Hy.out h h')
   clear hcx hcy hA1 hB1 hA2 hB2
   have HD1:=Lib.hid (drop_at Hx.out)
   have HD2:=Lib.hid (drop_at Hy.out)
   by_cases hxy : x.2 < y.1
   ·go_wp2_with fail
    go_quiet (fail)
    go_wp2
    go_roundw
    case rel=>exact ⟨i+1,j,_,_,_,c1 - 1,e1,by rw [show n - (i+1) = n - i - 1 by omega],rfl,by omega,he1,HA3.out,HB2.out,by omega,by omega,Lib.hid (HL.out hxy),rfl⟩
    case measure=>simp only [];omega
   ·by_cases hyx : y.2 < x.1
    ·go_wp2_with fail
     go_quiet (fail)
     go_wp2_with fail
     go_quiet (fail)
     go_wp2
     go_roundw
     case rel=>exact ⟨i,j+1,_,_,_,c1,e1 - 1,rfl,by rw [show m - (j+1) = m - j - 1 by omega],hc1,by omega,HA2.out,HB3.out,by omega,by omega,Lib.hid (HR.out hyx),rfl⟩
     case measure=>simp only [];omega
    ·have HE:=Lib.hid (HH.out hxy hyx)
     go_wp2_with fail
     go_quiet (fail)
     go_wp2_with fail
     go_quiet (fail)
     go_wp2
     go_ret
     exact ⟨by rw [HE.out];rfl,_,by rw [World.drewN_drewN,World.drewN_drewN]⟩
  ·have HE:=Lib.hid (meetAt_end HM.out (by have:=Hl.out;have:=Hq.out;omega))
   rcases (by omega : ¬ i < n∨(i < n∧¬ j < m)) with h | ⟨h,h'⟩
   all_goals
    go_wp2
    go_ret
    exact ⟨by rw [HE.out];rfl,k,rfl⟩
def numV : Except Int Nat→Value
 | .ok c=>.tuple #[.int .i64 c,.int .i64 0]
 | .error x=>.tuple #[.int .i64 0,.int .i64 x]
theorem wnumber_any (p bm nm nn cn ns cs : Nat) (An As : Option Addr) (v3 : Value) (d : DbP) (D : DataW Unit) (n : List UInt8) (w : World) (hp : Blk w p 229 #[.slice An nn cn,.map (some bm),.slice As ns cs,v3])
  (hm : w.ownsMap Tryz.prog 9 (plainElem (H:=Unit) Tryz.prog 3) bm nm D) (hD : MapIs D d.names) (hl : d.names.length = nn) (hd : d.names.Nodup) (hf : nn≤64) (hn : n.length≤1000000) :
  Calls Tryz.prog 200 #[.pointer (some ⟨p,0,none⟩),.string (bytesOf n)] w fun e w'=>e = .returned (numV (nbrP d n))∧w' = w:=by
 have c0:=hp.cell 0
 have c1:=hp.cell 1
 simp at c0 c1
 have HL:=Lib.hid (hD.look hd n)
 have HK:=Lib.hid (keyS hn)
 have HN : Hid (nbrP d n = match d.names.idxOf? n with | some c=>.ok c | none=>if 64≤d.names.length then .error 6 else .ok d.names.length):=rfl
 cases hq : d.names.idxOf? n with
 | some c =>
  have HV : Hid (Maps.has D (.string n) = true):=Lib.hid (by rw [HL.out.2,hq];rfl)
  have HA : Hid (D.atKey (.string n) (.lit (.int .i64 0)) = .lit (.int .i64 (c : Int))):=Lib.hid (by rw [HL.out.1,hq];rfl)
  have HR : Hid (nbrP d n = .ok c):=Lib.hid (by rw [HN.out,hq])
  clear HL HN hq
  go_enter Tryz.func200,Tryz.ntmps200
  go_wp2_with (at_lookup;refine wpList_lookup_own_ok_int _ rfl _ _ 226 rfl 9 3 .i64 keyedS Tryz.underlying226 Tryz.underlying3 (zeroI _) bm nm D rfl hm _ (.string n) rfl HK.out ?_;intro z hz hw;rw [HA.out] at hz;injection hz with hz;injection hz with _ hz;subst hz;rw [HV.out])
  go_ret2
  exact ⟨by rw [HR.out];rfl,rfl⟩
 | none =>
  have HV : Hid (Maps.has D (.string n) = false):=Lib.hid (by rw [HL.out.2,hq];rfl)
  have HR : Hid (nbrP d n = if 64≤nn then .error 6 else .ok nn):=Lib.hid (by rw [HN.out,hq,hl])
  clear HL HN hq
  by_cases h64 : nn = 64
  ·have HR' : Hid (nbrP d n = .error 6):=Lib.hid (by rw [HR.out,if_pos (by omega)])
   go_enter Tryz.func200,Tryz.ntmps200
   go_wp2_with (at_lookup;refine wpList_lookup_own_ok_int _ rfl _ _ 226 rfl 9 3 .i64 keyedS Tryz.underlying226 Tryz.underlying3 (zeroI _) bm nm D rfl hm _ (.string n) rfl HK.out ?_;intro z hz hw;clear hz;rw [HV.out])
   go_ret2
   exact ⟨by rw [HR'.out];rfl,rfl⟩
  ·have HR' : Hid (nbrP d n = .ok nn):=Lib.hid (by rw [HR.out,if_neg (by omega)])
   have he : ((nn : Int) == 64) = false:=beq_eq_false_iff_ne.2 (by omega)
   go_enter Tryz.func200,Tryz.ntmps200
   go_wp2_with (at_lookup;refine wpList_lookup_own_ok_int _ rfl _ _ 226 rfl 9 3 .i64 keyedS Tryz.underlying226 Tryz.underlying3 (zeroI _) bm nm D rfl hm _ (.string n) rfl HK.out ?_;intro z hz hw;clear hz;rw [HV.out])
   go_ret2
   exact ⟨by rw [HR'.out];rfl,rfl⟩
end
end Go.Proofs.YtlfpdpbbkjnapaaGreatDoor
