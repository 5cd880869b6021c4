/-
 Several texts in one,in their build order: Vh,Tr,Wn,Wq,Wr,Ws,Wt.
-/
import Derived.Deep.RegionHeld3
import Derived.Test.YtdngkienloligaaGreatDoorWVg
import Derived.Test.YtdngkienloligaaGreatDoorW6a
import Derived.Test.YtdngkienloligaaGreatDoorW0b
import Derived.Test.YtdngkienloligaaGreatDoorWKg
import Derived.Test.YtdngkienloligaaGreatDoorW2a
import Derived.Test.YtdngkienloligaaGreatDoorW0c
import Derived.Test.YtdngkienloligaaGreatDoorW0a
/- -/
namespace Go.Proofs.YtdngkienloligaaGreatDoor
open Go.RowKit Go.Maps
set_option maxRecDepth 100000 in
set_option maxHeartbeats 8000000 in
theorem vrest_any (p base x : Nat) (d : DbP) (w : World) (hd : RfB w base p x d.names d.sets) (ho : d.Ok) (ha : Apart d.sets) (hB : base ≤ w.heap.size) :
  Calls Tryz.prog 186 #[.pointer (some ⟨p,0,none⟩)] w fun e w'=>e = .returned (.tuple #[]) ∧ RfB w' base p x d.names d.full ∧ Below base w w':=by
 obtain ⟨An,nn,cn,As,ns,cs,xs,hX⟩:=hd.ex
 obtain ⟨j0,hj0,hy0,hy1,hy2⟩:=info_parts infoR
 have hns1 : 0 < ns:=by
  have h1:=hX.lenS.2;have h2:=ho.len;have h3:=ho.head
  cases hd : d.names with
  | nil=>rw [hd] at h3;cases h3
  | cons a b=>rw [hd] at h2;simp at h2;omega
 obtain ⟨g,HAs,hgB,hgw⟩:=hX.hs.form hns1
 subst HAs
 have hns64 : ns ≤ 64:=by have h1:=hX.lenS.2;have h2:=ho.len;have h3:=ho.few;omega
 obtain ⟨T,HT⟩ : ∃ T,Hid (d.sets.tail = T):=⟨_,rfl⟩
 have hTl : T.length + 1 = ns:=by have h1:=hX.lenS.2;have:=HT.out;rw [← this,List.length_tail];omega
 have HTl:=Lib.hid hTl
 have HTS : Hid (lenS T ≤ 1114112):=Lib.hid (by have:=rng_len ho ha;rw [← HT.out];omega)
 have HTN : Hid (∀ (k : Nat) (s : List (Int × Int)),T[k]? = some s → NF s ∧ d.sets[k + 1]? = some s):=Lib.hid (fun k s hk=>by
  have : d.sets[k + 1]? = some s:=by rw [← HT.out] at hk;rw [List.getElem?_tail] at hk;exact hk
  exact ⟨ho.nf s (List.mem_of_getElem? this),this⟩)
 have HFS:=Lib.hid (full_set ho)
 have HRest : Hid (d.rest = notR (T.flatten)):=Lib.hid (by unfold DbP.rest;rw [HT.out])
 have c1:=hX.blk.cell 1
 simp at c1
 clear ho ha hTl hd
 go_enter Tryz.func186,Tryz.ntmps186
 go_wp2_with fail
 go_loopw [2,3] (fun a v wr=>∃ (c : Nat) (Aa : Option Addr) (na ca : Nat),a = .slice Aa na ca ∧ v = .int .i64 (c + 1 : Nat) ∧ c + 1 ≤ ns ∧ Own wr w.heap.size 211 2 Aa na ca (((T.take c).flatten).map encR) ∧ Below w.heap.size w wr) (fun _ v _=>ns - (intOf v).toNat)
 case atStart=>exact ⟨0,none,0,0,rfl,rfl,by omega,by simp;exact Own.nil_ _ _ _ _,Below.refl _ _⟩
 case round =>
  obtain ⟨c,Aa,na,ca,rfl,rfl,hc,hal,hb⟩:=hrel
  have hszr:=hb.size
  have e1:=cell_keep c1 hb
  have hfl:=Lib.hid (flat_le T c)
  have hnal : na ≤ 1114112:=by have h1:=hal.len;rw [List.length_map] at h1;have:=hfl.out;have:=HTS.out;omega
  by_cases hlt : c + 1 < ns
  ·obtain ⟨s,Hs⟩ : ∃ s,Hid (T[c]? = some s):=⟨_,Lib.hid (List.getElem?_eq_getElem (show c < T.length by have:=HTl.out;omega))⟩
   obtain ⟨HNF,Hd⟩:=HTN.out c s Hs.out
   obtain ⟨⟨yA,yn,yc⟩,Hy⟩ : ∃ y,Hid (xs[c + 1]? = some y):=⟨_,Lib.hid (List.getElem?_eq_getElem (show c + 1 < xs.length by have:=hX.lenS.1;omega))⟩
   have hoy : Own w base 211 2 yA yn yc (s.map encR):=hX.hx.own (c + 1) (yA,yn,yc) s Hy.out Hd
   have hly : s.length = yn:=by simpa using hoy.len
   have Hly:=Lib.hid hly
   have hny:=own_nf_len hoy HNF
   have hcell:=cell_keep (hX.hs.cell' rfl Hy.out) hb
   have hoq:=hoy.below hb
   have HFN:=Lib.hid (flat_next Hs.out)
   have hfl2:=Lib.hid (flat_le T (c + 1))
   have hbound : na + yn ≤ 1114112:=by
    have h1:=hal.len;rw [List.length_map] at h1
    have h2:=hfl2.out;rw [HFN.out,List.length_append] at h2;have:=HTS.out;omega
   have hI : (c : Int) + 1 < ns:=by omega
   clear HNF Hd hly
   go_wp2_with (at_builtin;go_must (refine wpList_app rfl (.tmp 13) (.tmp 20) _ rfl w.heap.size 211 j0 _ 2 8 Tryz.underlying186 hj0 hy0 hy1 hy2 rfl (by omega) Aa na ca (((T.take c).flatten).map encR) rfl hal yA yn yc (s.map encR) rfl (by rw [List.length_map];exact Hly.out) (hoq.rd (by omega)) (encR_ok s) (by unfold maxLen;omega) (by omega) (by omega) ?_);intro A3 c3 w3 ho3 hg3 hA3)
   have Ho3 : Own w3 w.heap.size 211 2 A3 (na + yn) c3 (((T.take (c + 1)).flatten).map encR):=by rw [HFN.out,List.map_append];exact ho3
   have hb3:=below_app hb hg3 hszr (fun a ha=>(hal.lt a ha).1)
   clear ho3 hg3
   go_roundw
   case rel=>exact ⟨c + 1,A3,na + yn,c3,rfl,by go_num,by omega,Ho3,hb3⟩
   case measure=>simp [intOf];omega
  ·obtain rfl : c + 1 = ns:=by omega
   have HFe : Hid ((T.take c).flatten = T.flatten):=Lib.hid (by rw [List.take_of_length_le (by have:=HTl.out;omega)])
   rw [HFe.out] at hal
   have hXr:=hX.below hb
   have HNot:=Lib.hid (sNot_any Aa na ca T.flatten wr.drew ((hal.rd (by omega)).drew) (by have h1:=hal.len;rw [List.length_map] at h1;exact h1) (by omega))
   obtain ⟨y0,hy0'⟩ : ∃ y,xs[0]? = some y:=⟨_,List.getElem?_eq_getElem (show 0 < xs.length by have:=hX.lenS.1;omega)⟩
   have k0:=hXr.hs.cell' rfl hy0'
   have hXd:=hXr.below (w':=wr.drew) ((Below.refl _ _).drew)
   have hBr : base ≤ wr.heap.size:=by omega
   go_wp2_with fail
   refine wp_region_noPanic ?_
   go_region_law (go_simp;go_at_call 232;refine HNot.out.mono ?_;rintro e wz ⟨A',n',c',rfl,ho',hb'⟩;have kz0:=cell_keep (w:=wr.drew) k0 hb';have kz1:=cell_keep (w:=wr.drew) e1 hb';have kzf:=(hXd.hs.below hb').frozen 0)
   all_goals
    refine NoPanic.normal ?_
    have hDz:=(hXd.below hb').storeSet (k:=0) (y:=(A',n',c')) (l:=d.rest) (by omega) (by rw [HRest.out];exact ho') hBr
    have hbz:=(((hb.mono hB).trans ((Below.refl wr.heap.size wr).drew.mono hBr)).trans (hb'.mono hBr)).trans hDz.2.1
    rw [HFS.out] at hDz
    go_wp2
    first | exact ⟨_,results_none rfl _ _ _,rfl,⟨_,_,_,_,_,_,_,hDz.1⟩,hbz⟩ | exact ⟨_,rfl,results_none rfl _ _ _,rfl,⟨_,_,_,_,_,_,_,hDz.1⟩,hbz⟩ | exact ⟨rfl,_,results_none rfl _ _ _,rfl,⟨_,_,_,_,_,_,_,hDz.1⟩,hbz⟩
def RNewEnd (r : Except (Int × Nat) DbP) (e : Ending) (w' : World) (base : Nat) : Prop :=
 match r with
 | .error x=>e = .returned (.tuple #[.pointer none,.int .i64 x.1,.int .i64 (x.2 : Int)])
 | .ok d=>∃ p x,e = .returned (.tuple #[.pointer (some ⟨p,0,none⟩),.int .i64 0,.int .i64 0]) ∧ RfB w' base p x d.names d.full
theorem RNewEnd.err {r : Except (Int × Nat) DbP} {k : Int} {i : Nat} {w' : World} {base : Nat} (h : r = .error (k,i)) : RNewEnd r (.returned (.tuple #[.pointer none,.int .i64 k,.int .i64 (i : Int)])) w' base:=by rw [h];exact rfl
theorem RNewEnd.fine {r : Except (Int × Nat) DbP} {d : DbP} {p x : Nat} {w' : World} {base : Nat} (h : r = .ok d) (hd : RfB w' base p x d.names d.full) : RNewEnd r (.returned (.tuple #[.pointer (some ⟨p,0,none⟩),.int .i64 0,.int .i64 0])) w' base:=by rw [h];exact ⟨p,x,rfl,hd⟩
theorem step_err {d : DbP} {L : List UInt8} {k : Int} (h : stepL d L = .error k) : 6 ≤ k:=by
 unfold stepL at h
 split at h
 ·cases h
 ·injection h with h;omega
 ·exact addL_err h
theorem rfX_first (w : World) :
  RfX (((w.alloc (.cells #[.string (bytesOf otherL)] 9)).alloc (.cells #[.slice none 0 0] 186)).alloc (.cells #[.slice (some ⟨w.heap.size,0,none⟩) 1 1,.slice (some ⟨w.heap.size + 1,0,none⟩) 1 1] 158)) w.heap.size (w.heap.size + 2) (w.heap.size + 3)
   (some ⟨w.heap.size,0,none⟩) 1 1 (some ⟨w.heap.size + 1,0,none⟩) 1 1 [(none,0,0)] [otherL] [[]] ∧
  Below w.heap.size w (((w.alloc (.cells #[.string (bytesOf otherL)] 9)).alloc (.cells #[.slice none 0 0] 186)).alloc (.cells #[.slice (some ⟨w.heap.size,0,none⟩) 1 1,.slice (some ⟨w.heap.size + 1,0,none⟩) 1 1] 158)):=by
 have n1 : Own (w.alloc (.cells #[.string (bytesOf otherL)] 9)) w.heap.size 9 1 (some ⟨w.heap.size,0,none⟩) 1 1 ([otherL].map encNm):=own_one (Nat.le_refl _)
 have s2 : Own ((w.alloc (.cells #[.string (bytesOf otherL)] 9)).alloc (.cells #[.slice none 0 0] 186)) w.heap.size 186 1 (some ⟨w.heap.size + 1,0,none⟩) 1 1 ([((none : Option Addr),0,0)].map encSl):=by
  have:=own_one (w:=w.alloc (.cells #[.string (bytesOf otherL)] 9)) (t:=186) (u:=.slice none 0 0) (base:=w.heap.size) (by simp)
  rw [show (w.alloc (.cells #[.string (bytesOf otherL)] 9)).heap.size = w.heap.size + 1 by simp] at this
  exact this
 refine ⟨⟨?_,by omega,(n1.alloc _).alloc _,s2.alloc _,⟨rfl,?_⟩,by omega,fun a ha=>by injection ha with ha;subst ha;show w.heap.size ≠ w.heap.size + 3;omega,fun a ha=>by injection ha with ha;subst ha;show w.heap.size + 1 ≠ w.heap.size + 3;omega⟩,?_⟩
 ·have:=Blk.new ((w.alloc (.cells #[.string (bytesOf otherL)] 9)).alloc (.cells #[.slice none 0 0] 186)) 158 #[.slice (some ⟨w.heap.size,0,none⟩) 1 1,.slice (some ⟨w.heap.size + 1,0,none⟩) 1 1]
  simpa using this
 ·intro k x l hx hl
  match k,hx,hl with
  | 0,hx,hl=>simp at hx hl;subst hx;subst hl;exact Own.nil_ _ _ _ _
  | k + 1,hx,hl=>simp at hx
 ·exact (((Below.refl _ _).alloc (Nat.le_refl _) _).alloc (by simp) _).alloc (by simp;omega) _
set_option maxRecDepth 100000 in
set_option maxHeartbeats 8000000 in
theorem vNew_any (t : List UInt8) (w : World) (ht : t.length ≤ maxLen) :
  Calls Tryz.prog 139 #[.string (bytesOf t)] w fun e w'=>RNewEnd (newP t) e w' w.heap.size ∧ Below w.heap.size w w':=by
 have hsz : (bytesOf t).size = t.length:=bytesOf_size t
 unfold maxLen at ht
 by_cases hl : 65536 < t.length
 ·have HE:=Lib.hid (newP_long hl)
  go_enter Tryz.func139,Tryz.ntmps139
  go_wp2
  go_ret3
  exact ⟨RNewEnd.err HE.out,Below.refl _ _⟩
 ·have HG:=Lib.hid (newP_go hl)
  obtain ⟨hX,hB0⟩:=rfX_first w
  have hw3 : w.heap.size + 3 = (((w.alloc (.cells #[.string (bytesOf otherL)] 9)).alloc (.cells #[.slice none 0 0] 186)).alloc (.cells #[.slice (some ⟨w.heap.size,0,none⟩) 1 1,.slice (some ⟨w.heap.size + 1,0,none⟩) 1 1] 158)).heap.size:=by simp
  obtain ⟨L,HL⟩ : ∃ L,Hid (splitL t = L):=⟨_,rfl⟩
  have HLl:=Lib.hid (fun i l (h : L[i]? = some l)=>line_len (t:=t) (i:=i) (l:=l) (by rw [HL.out];exact h))
  have HLn : Hid (L.length ≤ 65537):=Lib.hid (by rw [← HL.out,splitL_count];have:=List.count_le_length (a:=(10 : UInt8)) (l:=t);omega)
  have HNP : Hid (newP t = linesGo DbP.first L 0):=Lib.hid (by rw [HG.out,HL.out])
  have HV:=Lib.hid (fun W=>vLines_any t W (by omega))
  rw [HL.out] at HV
  go_enter Tryz.func139,Tryz.ntmps139
  go_wp2_with fail
  rw [show (⟨#[79,116,104,101,114]⟩ : ByteArray) = bytesOf otherL from rfl]
  generalize ((w.alloc (.cells #[.string (bytesOf otherL)] 9)).alloc (.cells #[.slice none 0 0] 186)).alloc (.cells #[.slice (some ⟨w.heap.size,0,none⟩) 1 1,.slice (some ⟨w.heap.size + 1,0,none⟩) 1 1] 158) = w3 at hX hB0 hw3 ⊢
  refine (HV.out w3).mono ?_
  rintro e w4 ⟨AL,nL,cL,rfl,hoL,hb4⟩
  have hnL : L.length = nL:=by simpa using hoL.len
  have hX4:=hX.below hb4
  have hB4:=below_step hB0 hb4 (by have:=hB0.size;omega)
  have HnL:=Lib.hid hnL
  have HLne : Hid (L ≠ []):=Lib.hid (by rw [← HL.out];exact splitL_ne t)
  clear hnL HG HL
  obtain ⟨x,hxw,hXx,hcells⟩ : ∃ x,x < w4.heap.size ∧ RfX w4 w.heap.size (w.heap.size + 2) x (some ⟨w.heap.size,0,none⟩) 1 1 (some ⟨w.heap.size + 1,0,none⟩) 1 1 [(none,0,0)] [otherL] [[]] ∧
    (∀ W : World,W.heap[x]? = w4.heap[x]? → ∀ i l,L[i]? = some l → ∃ off,AL = some ⟨x,off,none⟩ ∧ W.cell? ⟨x,off + i,none⟩ = some (.string (bytesOf l))):=by
   have h0 : 0 < nL:=by
    cases hq : L with
    | nil=>exact absurd hq HLne.out
    | cons a b=>rw [← HnL.out,hq];simp
   obtain ⟨gx,hgx,hg1,hg2⟩:=hoL.form h0
   subst hgx
   refine ⟨gx,hg2,{ hX4 with xp:=by omega,xn:=fun a ha=>by injection ha with ha;subst ha;show w.heap.size ≠ gx;omega,xs_:=fun a ha=>by injection ha with ha;subst ha;show w.heap.size + 1 ≠ gx;omega },fun W hW i l hl=>?_⟩
   have h1:=hoL.cell (k:=i) (j:=0) (x:=encNm l) (u:=.string (bytesOf l)) (by rw [List.getElem?_map,hl];rfl) rfl
   simp only [Nat.mul_one,Nat.add_zero] at h1
   exact ⟨0,rfl,by rw [Nat.zero_add];exact (World.cell?_of_block hW).trans h1⟩
  have HCells:=Lib.hid hcells
  have hsw:=hB4.size
  clear hcells hX hX4 hB0 hw3 hb4 hoL
  generalize w.heap.size + 2 = p at hXx ⊢
  go_wp2_with fail
  go_loopw [7] (fun v wr=>∃ (i : Nat) (d : DbP),v = .int .i64 i ∧ i ≤ L.length ∧ RfB wr w.heap.size p x d.names d.sets ∧ wr.heap[x]? = w4.heap[x]? ∧ Hid (NewAt L i d) ∧ Below w.heap.size w wr ∧ x < wr.heap.size) (fun v _=>L.length - (intOf v).toNat)
  case atStart=>exact ⟨0,DbP.first,rfl,by omega,⟨_,_,_,_,_,_,_,hXx⟩,rfl,newAt_first L,hB4,hxw⟩
  case round =>
   clear hXx
   obtain ⟨i,d,rfl,hi,hd,hxr,HN,hb,hxl⟩:=hrel
   have hszr:=hb.size
   have hnl:=HnL.out
   by_cases hlt : i < L.length
   ·obtain ⟨l,Hl⟩ : ∃ l,Hid (L[i]? = some l):=⟨_,Lib.hid (List.getElem?_eq_getElem hlt)⟩
    obtain ⟨off,rfl,hcell⟩:=HCells.out wr hxr i l Hl.out
    have hll:=HLl.out i l Hl.out
    have HN2:=HLn.out
    have HA:=Lib.hid (vline_any p w.heap.size x d l wr hd HN.out.2.2.1 hxl hszr (by omega))
    have hltn : i < nL:=by omega
    clear hnl
    cases hs : stepL d l with
    | error k =>
     rw [hs] at HA
     have hk0 : ((k : Int) != 0) = true:=by rw [bne_iff_ne];have:=step_err hs;omega
     have HE:=Lib.hid (HNP.out.trans (newAt_err HN.out Hl.out hs))
     clear hs
     go_wp2_with fail
     refine HA.out.mono ?_
     rintro e w6 ⟨hk,hae⟩
     have he : e = .returned (.int .i64 k):=hae
     subst he
     go_wp2
     go_ret3
     exact ⟨RNewEnd.err HE.out,hb.trans hk.1⟩
    | ok d' =>
     rw [hs] at HA
     have HN':=Lib.hid (newAt_next HN.out Hl.out hs)
     clear hs
     go_wp2_with fail
     refine HA.out.mono ?_
     rintro e w6 ⟨hk,rfl,hd'⟩
     go_wp2
     go_roundw
     case rel=>exact ⟨i + 1,d',by go_num,by omega,hd',(hk.2 hxl).trans hxr,HN',hb.trans hk.1,Nat.lt_of_lt_of_le hxl hk.1.size⟩
     case measure=>simp [intOf];omega
   ·have HE:=Lib.hid (HNP.out.trans (newAt_end HN.out hlt))
    have HC:=Lib.hid (vrest_any p w.heap.size x d wr hd HN.out.2.2.1 HN.out.2.2.2 hszr)
    go_wp2_with (go_at_call 186;refine HC.out.mono ?_;rintro e w5 ⟨rfl,hda,hb5⟩)
    go_ret3
    exact ⟨RNewEnd.fine HE.out hda,hb.trans hb5⟩
end Go.Proofs.YtdngkienloligaaGreatDoor
/- -/
namespace Go.Proofs.YtdngkienloligaaGreatDoor
open Go.RowKit
theorem Rd.atRn {w : World} {A : Option Addr} {l : List (Nat × Nat × Nat)} {k : Nat} {x : Nat × Nat × Nat} (h : Rd w 3 A (l.map encRn)) (hk : l[k]? = some x) :
  ∃ b off,A = some ⟨b,off,none⟩ ∧ w.cell? ⟨b,off + k * 3,none⟩ = some (.int .i32 (x.1 : Nat)) ∧ w.cell? ⟨b,off + k * 3 + 1,none⟩ = some (.int .i64 (x.2.1 : Nat)) ∧ w.cell? ⟨b,off + k * 3 + 2,none⟩ = some (.int .i64 (x.2.2 : Nat)):=by
 obtain ⟨b,off,rfl,hc⟩:=h (by intro e;cases l with | nil=>simp at hk | cons _ _=>simp at e)
 have h0:=hc k 0 (encRn x) (.int .i32 (x.1 : Nat)) (by simp [hk]) rfl
 have h1:=hc k 1 (encRn x) (.int .i64 (x.2.1 : Nat)) (by simp [hk]) rfl
 have h2:=hc k 2 (encRn x) (.int .i64 (x.2.2 : Nat)) (by simp [hk]) rfl
 exact ⟨b,off,rfl,by simpa using h0,h1,h2⟩
end Go.Proofs.YtdngkienloligaaGreatDoor
/- -/
namespace Go.Proofs.YtdngkienloligaaGreatDoor
open Go.RowKit
set_option maxRecDepth 100000 in
set_option maxHeartbeats 4000000 in
theorem kDbR_any (w : World) :
  Calls Tryz.prog 103 #[] w fun e w'=>∃ p x,e = .returned (.pointer (some ⟨p,0,none⟩)) ∧ RfB w' w.heap.size p x wordD.names wordD.full ∧ Below w.heap.size w w':=by
 go_enter Tryz.func103,Tryz.ntmps103
 generalize hT : ByteArray.mk _ = T
 have HN : newP T.data.toList = .ok wordD:=by rw [← hT];exact new_K (by kernel_rfl) (by kernel_rfl)
 have hTl : T.data.toList.length ≤ maxLen:=by rw [← hT];exact of_decide_eq_true (by kernel_rfl)
 clear hT
 have HC:=vNew_any T.data.toList w hTl
 rw [HN,bytes_is] at HC
 replace HC:=Lib.hid HC
 clear HN hTl
 go_wp2_with fail
 refine HC.out.mono ?_
 rintro e w1 ⟨⟨p,x,rfl,hd⟩,hb1⟩
 go_wp2
 go_ret
 exact ⟨p,x,rfl,hd,hb1⟩
end Go.Proofs.YtdngkienloligaaGreatDoor
/- -/
namespace Go.Proofs.YtdngkienloligaaGreatDoor
open Go.RowKit Go.Shelf
attribute [local go_sem] Oper.semAt_some
def encP2 (x : Nat × Nat) : Array Value:=#[.int .i64 (x.1 : Nat),.int .i64 (x.2 : Nat)]
def encCl (s : ByteArray) (x : Nat × Nat) : Array Value:=encP2 (clP s x)
set_option maxRecDepth 100000 in
theorem kEach_any (s : ByteArray) (w : World) : Calls Tryz.prog 34 #[.string s] w fun e w'=>∃ bs,e = .returned (.func (.func 107) #[] #[.pointer (some ⟨bs,0,none⟩)]) ∧ w'.cell? ⟨bs,0,none⟩ = some (.string s) ∧ Below w.heap.size w w':=by
 have hmf : ∀ (fn : Fn) (first cap : Array Value) (w : World),(Instr.makeFunc fn first cap).run Tryz.prog w = .ok (.func fn first cap) w:=fun _ _ _ _=>rfl
 go_enter Tryz.func34,Tryz.ntmps34
 go_wp2
 go_ret
 exact ⟨_,rfl,(Blk.new w 9 #[.string s]).cell 0,(Below.refl _ _).alloc (Nat.le_refl _) _⟩
set_option maxRecDepth 100000 in
set_option maxHeartbeats 4000000 in
theorem kEach_seq (n : Nat) (hn : 1 ≤ n) (w : World) (s : ByteArray) (bs : Nat) (X : Nat → Prop) (hX : ∀ b,X b → b < w.heap.size) (hE : Env w) (hs : s.size ≤ 1000000) (h : w.cell? ⟨bs,0,none⟩ = some (.string s)) :
  SeqStopsK Fence.wide n Tryz.prog 107 #[.pointer (some ⟨bs,0,none⟩)] (encCl s) (KT 3 X) (fun ys=>ys = piecesF (wBounds gW s)) (fun pre=>pre <+: piecesF (wBounds gW s)) (piecesF (wBounds gW s)).length w:=by
 intro l J Jx W hW hJ _ hY h0
 have hc1 : W.cell? ⟨bs,0,none⟩ = some (.string s):=cell_keep h hW
 have hWz:=hW.size
 have HB:=Lib.hid (kBounds_any s W (hE.below hW) hs)
 have HL:=Lib.hid (wBounds_len gW s)
 have HP:=Lib.hid (piecesF_le (wBounds_rise gW s) (wBounds_le gW s))
 clear hE h
 refine callsIn_of_wp Tryz.func107 rfl trivial ?_ rfl
 simp only [Tryz.ntmps107,List.size_toArray,List.length_cons,List.length_nil,Nat.reduceAdd,Nat.reduceSub,Array.replicate_succ,Array.replicate_zero,List.push_toArray,List.append_toArray,List.nil_append,List.cons_append]
 refine wpIn_wide.2 ?_
 go_wp2_with fail
 refine HB.out.mono ?_
 rintro e w1 ⟨A,m,c,rfl,ho,hb1⟩
 have hJ1 : J [] w1:=abides_below hJ h0 hb1
 have hm : (wBounds gW s).length = m:=by have:=ho.len;simpa using this
 have hz : m ≤ 1000001:=by have:=HL.out;omega
 have Hm:=Lib.hid hm
 clear hm
 go_wp2_with fail
 refine (wpIn_wide (n:=n)).1 ?_
 gi_loopw [4] (fun v wr=>∃ k j : Nat,v = .int .i64 (j : Int) ∧ Hid (j = k + 1) ∧ (k = 0 ∨ k + 1 ≤ m) ∧ J ((piecesF (wBounds gW s)).take k) wr ∧ Own wr W.heap.size 3 1 A m c ((wBounds gW s).map encN)) (fun v _=>m + 1 - (intOf v).toNat)
 case atStart=>exact ⟨0,1,rfl,Lib.hid rfl,.inl rfl,hJ1,ho⟩
 case round =>
  obtain ⟨k,j,rfl,HJ,hk,hJr,hor⟩:=hrel
  by_cases hlt : j < m
  ·have hjm : k + 1 < m:=by have:=HJ.out;omega
   have rd:=hor.rd (by decide)
   obtain ⟨x,Hx⟩ : ∃ x,Hid ((wBounds gW s)[k]? = some x):=⟨_,Lib.hid (List.getElem?_eq_getElem (by have:=Hm.out;omega))⟩
   obtain ⟨y,Hy⟩ : ∃ y,Hid ((wBounds gW s)[k + 1]? = some y):=⟨_,Lib.hid (List.getElem?_eq_getElem (by have:=Hm.out;omega))⟩
   obtain ⟨b,off,rfl,cx⟩:=Rd.atQ rd Hx.out
   obtain ⟨b',off',e2,cy⟩:=Rd.atQ rd Hy.out
   injection e2 with e2
   injection e2 with e2 e3
   subst e2 e3
   have hat:=piecesF_at _ k x y Hx.out Hy.out
   have hcl : clP s (x,y) = (x,y):=clP_in (HP.out _ (List.mem_of_getElem? hat))
   have hp : (piecesF (wBounds gW s)).take k ++ [(x,y)] = (piecesF (wBounds gW s)).take (k + 1):=by
    rw [List.take_add_one,hat];rfl
   have hlen : ((piecesF (wBounds gW s)).take k).length < (piecesF (wBounds gW s)).length:=by
    rw [List.length_take,piecesF_len,Hm.out];omega
   have e4 : (j : Int) - 1 = (k : Int):=by have:=HJ.out;omega
   have e5 : IntKind.i64.wrap ((j : Int) - 1) = (k : Int):=by rw [e4];exact IntWalk.i64_in _ (by omega)
   have e6 : IntKind.i64.wrap (k : Int) = (k : Int):=IntWalk.i64_in _ (by omega)
   have hk0 : (0 : Int) ≤ (k : Int):=by omega
   have hkm : (k : Int) < (m : Int):=by omega
   have hkN : k < m:=by omega
   have hjN : j < m:=by omega
   have hj0 : (0 : Int) ≤ (j : Int):=by omega
   have hj1 : (j : Int) < (m : Int):=by omega
   have cy : wr.cell? ⟨b,off + j,none⟩ = some (.int .i64 (y : Nat)):=by rw [HJ.out];exact cy
   have hYW:=YieldAt.mono (R':=fun e W'=>∃ q : Bool,e = .returned (.bool q) ∧ (q = true → J ((piecesF (wBounds gW s)).take (k + 1)) W' ∧ KT 3 X wr.drew W') ∧ (q = false → Jx ((piecesF (wBounds gW s)).take (k + 1)) W')) (hY _ (x,y) wr.drew (abides_below hJ hJr (Below.refl _ _).drew) hlen) (by
    rw [hp]
    rintro e W' (⟨h1,h2,h3⟩ | ⟨h1,h2⟩)
    ·exact ⟨true,h1,fun _=>⟨h2,h3⟩,fun h=>absurd h (by decide)⟩
    ·exact ⟨false,h1,fun h=>absurd h (by decide),fun _=>h2⟩)
   obtain ⟨fn,tmps,assign,body,hy,hR⟩:=hYW
   dsimp only [encCl] at hy
   rw [hcl] at hy
   dsimp only [encP2] at hy
   clear hat hcl hlen hjm
   have hmx : Tryz.prog.follows .mixedOrders = true:=by kernel_rfl
   gi_wp2_with fail
   gi_region_with_o (refine hR.mono ?_;rintro e W4 ⟨q,rfl,hqt,hqf⟩)
   all_goals
    cases q with
    | true =>
     obtain ⟨hJ4,hk4⟩:=hqt rfl
     gi_wp2_with fail
     go_roundw
     case rel=>exact ⟨k + 1,j + 1,by go_num,Lib.hid (by rw [HJ.out]),.inr (by have:=HJ.out;omega),hJ4,hk4.own hor (fun b hb=>Nat.lt_of_lt_of_le (hX b hb) hWz)⟩
     case measure=>simp [intOf];omega
    | false =>
     have hJ4:=hqf rfl
     gi_wp2
     refine bodyPost_ret (results_none rfl _ _ _) rfl ?_
     exact ⟨⟨_,rfl⟩,.inr ⟨_,List.take_prefix _ _,hJ4⟩⟩
  ·have hend : (piecesF (wBounds gW s)).take k = piecesF (wBounds gW s):=List.take_of_length_le (by have:=HJ.out;rw [piecesF_len,Hm.out];omega)
   rw [hend] at hJr
   gi_wp2
   go_end0
   first | exact ⟨⟨_,rfl⟩,.inl hJr⟩ | exact ⟨⟨_,rfl⟩,.inl ⟨_,rfl,hJr⟩⟩
end Go.Proofs.YtdngkienloligaaGreatDoor
/- -/
namespace Go.Proofs.YtdngkienloligaaGreatDoor
open Go.RowKit Go.Shelf
attribute [local go_sem] Oper.semAt_some
def isWP (s : ByteArray) : Bool:=decide (kindC (wCls gW s) = 4) || decide (kindC (wCls gW s) = 3)
def isWX (s : ByteArray) (x : Nat × Nat) : Bool:=isWP (s.extract (clP s x).1 (clP s x).2)
def wordsP (s : ByteArray) : List (Nat × Nat):=(piecesF (wBounds gW s)).filter (isWX s)
def encWd (s : ByteArray) (x : Nat × Nat) : Array Value:=#[.int .i64 ((clP s x).1 : Nat),.string (s.extract (clP s x).1 (clP s x).2)]
set_option maxRecDepth 100000 in
theorem kisWord_any (s : ByteArray) (w : World) (hE : Env w) (hs : s.size ≤ 1000000) : Calls Tryz.prog 111 #[.string s] w fun e w'=>e = .returned (.bool (isWP s)) ∧ Below w.heap.size w w':=by
 have HK:=Lib.hid (kKind_any s w hE hs)
 obtain ⟨k,Hk⟩ : ∃ k,Hid (kindC (wCls gW s) = k):=⟨_,Lib.hid rfl⟩
 have HV : Hid (isWP s = (decide (k = 4) || decide (k = 3))):=Lib.hid (by unfold isWP;rw [Hk.out])
 rw [Hk.out] at HK
 clear Hk hE
 go_enter Tryz.func111,Tryz.ntmps111
 go_wp2_with fail
 refine HK.out.mono ?_
 rintro e w1 ⟨rfl,hb⟩
 by_cases h4 : k = 4
 ·subst h4
  go_wp2
  go_ret
  exact ⟨by rw [HV.out];rfl,hb⟩
 ·have q4 : (k == 4) = false:=by simpa using h4
  by_cases h3 : k = 3
  ·subst h3
   go_wp2
   go_ret
   exact ⟨by rw [HV.out];rfl,hb⟩
  ·have q3 : (k == 3) = false:=by simpa using h3
   go_wp2
   go_ret
   exact ⟨by rw [HV.out];simp [h4,h3],hb⟩
set_option maxRecDepth 100000 in
theorem kWords_any (s : ByteArray) (w : World) : Calls Tryz.prog 44 #[.string s] w fun e w'=>e = .returned (.func (.func 110) #[] #[.pointer (some ⟨w.heap.size,0,none⟩)]) ∧ Blk w' w.heap.size 9 #[.string s] ∧ Below w.heap.size w w':=by
 have hmf : ∀ (fn : Fn) (first cap : Array Value) (w : World),(Instr.makeFunc fn first cap).run Tryz.prog w = .ok (.func fn first cap) w:=fun _ _ _ _=>rfl
 go_enter Tryz.func44,Tryz.ntmps44
 go_wp2
 go_ret
 exact ⟨rfl,Blk.new w 9 #[.string s],(Below.refl _ _).alloc (Nat.le_refl _) _⟩
set_option maxRecDepth 100000 in
set_option maxHeartbeats 4000000 in
theorem kWords_seq (n : Nat) (hn : 4 ≤ n) (w w0 : World) (s : ByteArray) (bs : Nat) (X : Nat → Prop) (hw : Below w.heap.size w w0) (hX : ∀ b,X b → w.heap.size ≤ b ∧ b < w0.heap.size) (hXb : ¬ X bs) (hE : Env w) (hs : s.size ≤ 1000000) (h : Blk w0 bs 9 #[.string s]) :
  SeqC Fence.wide n Tryz.prog 110 #[.pointer (some ⟨bs,0,none⟩)] (encWd s) (KpB w.heap.size X) (fun ys=>ys = wordsP s) (fun pre=>pre <+: wordsP s) (piecesF (wBounds gW s)).length w0:=by
 intro l J Jx W hW0 hJ hJx hY h0
 have hW : Below w.heap.size w W:=hw.trans (hW0.mono hw.size)
 have hz0:=hW0.size
 have HW:=Lib.hid (fun t V (h : Env V) (ht : t.size ≤ 1000000)=>kisWord_any t V h ht)
 have hbs:=h.lt
 have hS1 : Blk W bs 9 #[.string s]:=h.below hW0
 have hA0 : Below W.heap.size W (W.alloc (.cells #[.func (.yield l) #[] #[]] 111)):=(Below.refl _ _).alloc (Nat.le_refl _) _
 have B0 : Blk (W.alloc (.cells #[.func (.yield l) #[] #[]] 111)) W.heap.size 111 #[.func (.yield l) #[] #[]]:=Blk.new _ _ _
 have hS2:=hS1.below hA0
 have a2:=hS2.cell 0
 simp only [List.getElem?_toArray,List.getElem?_cons_zero] at a2
 refine callsIn_of_wp_marks Tryz.func110 rfl trivial ?_ rfl
 simp only [Tryz.ntmps110,List.size_toArray,List.length_cons,List.length_nil,Nat.reduceAdd,Nat.reduceSub,Array.replicate_succ,Array.replicate_zero,List.push_toArray,List.append_toArray,List.nil_append,List.cons_append]
 refine wpIn_wide.2 ?_
 go_wp2_with fail
 generalize (W.alloc (.cells #[.func (.yield l) #[] #[]] 111)) = W0 at hA0 B0 hS2 a2 ⊢
 refine (kEach_any s W0).mono ?_
 rintro e w1 ⟨bu,rfl,hu,hb⟩
 have hb1:=below_two hA0 hb
 have B1:=B0.below hb
 have hS3:=hS2.below hb
 have hJ1 : J [] w1:=hJ [] W w1 none h0 (grown_of_below hb1) (fun r e=>by cases e)
 have hz1 : W.heap.size < w1.heap.size:=B1.lt
 have hzW:=hW.size
 have hE1 : Env w1:=hE.below (hW.trans (hb1.mono hzW))
 clear hb hA0 B0 a2 hS1 hS2
 go_wp2_with fail
 refine (wpIn_wide (n:=n)).1 ?_
 refine rngH rfl (by omega) (gf:=107) (lb:=#[.pointer (some ⟨bu,0,none⟩)]) rfl trivial (enters_of Tryz.func107 (by kernel_rfl) rfl)
  (kEach_seq (n - 1) (by omega) w1 s bu X (fun b hb=>by have:=(hX b hb).2;omega) hE1 hs hu) (fun h k=>h.trans k) (fun W l o o' _ h hc _=>KT.put W l o o' h hc) (Below.refl _ _) (fun _=>rfl) (fun W=>KT.refl _ _ W)
  (fun pre V=>J (pre.filter (isWX s)) V ∧ Blk V W.heap.size 111 #[.func (.yield l) #[] #[]] ∧ Blk V bs 9 #[.string s] ∧ Below w.heap.size w V)
  (fun c pre V=>c = .ret ∧ Jx (pre.filter (isWX s)) V)
  (OwnFrom.and (fun pre X Y row hs hg hr=>own_later hJ (by omega) (pre.filter (isWX s)) X Y row hs hg hr) (OwnFrom.and (Go.Own.from (fun s A B row hs hg hr=>hs.kept hg hr) _) (OwnFrom.and (Go.Own.from (fun s A B row hs hg hr=>hs.kept hg hr) _) (ownFrom_below (Nat.le_refl _) (by omega)))))
  (fun c s' X Y row hs hg hr=>⟨hs.1,own_later hJx (by omega) (s'.filter (isWX s)) X Y row hs.2 hg hr⟩) ⟨hJ1,B1,hS3,hW.trans (hb1.mono hzW)⟩
  (fun T x=>((((T.setIfInBounds 7 (.int .i64 ((clP s x).1 : Nat))).setIfInBounds 8 (.int .i64 ((clP s x).2 : Nat))).setIfInBounds 3 (.int .i64 ((clP s x).1 : Nat))).setIfInBounds 4 (.int .i64 ((clP s x).2 : Nat)))) ?assign ?body ?done ?stop
 case assign =>
  intro l2 x V K hK
  simp only [List.setIfInBounds_toArray,List.set_cons_succ,List.set_cons_zero] at hK
  simp only [encCl,encP2]
  gi_wp2
  exact hK
 case body =>
  rintro l2 pre x V hl ⟨r,hr⟩ ⟨hj,B,hS,hbV⟩ hlen
  have b0:=B.cell 0
  simp only [List.getElem?_toArray,List.getElem?_cons_zero] at b0
  have b1:=hS.cell 0
  simp only [List.getElem?_toArray,List.getElem?_cons_zero] at b1
  have hmx : Tryz.prog.follows .mixedOrders = true:=by kernel_rfl
  have hcx:=clP_le s x
  have hfl : (pre.filter (isWX s)).length < (piecesF (wBounds gW s)).length:=Nat.lt_of_le_of_lt (List.length_filter_le _ _) hlen
  have hfs : ∀ q,isWX s x = q → (pre ++ [x]).filter (isWX s) = if q then pre.filter (isWX s) ++ [x] else pre.filter (isWX s):=fun q hq=>by
   subst hq
   rw [List.filter_append,List.filter_cons,List.filter_nil]
   split <;> simp
  have hYV:=fun V2 (hb2 : Below V.heap.size V V2)=>YieldAt.mono (R':=fun e W'=>∃ b : Bool,e = .returned (.bool b) ∧ (b = true → J (pre.filter (isWX s) ++ [x]) W' ∧ KpB w.heap.size X V2 W' ∧ KeepsFrom W.heap.size V2 W') ∧ (b = false → Jx (pre.filter (isWX s) ++ [x]) W' ∧ KeepsFrom W.heap.size V2 W'))
   (hY (pre.filter (isWX s)) x V2 (hJ _ V V2 none hj (grown_of_below hb2) (fun r e=>by cases e)) hfl) (by
    rintro e W' (⟨h1,h2,h3,h4⟩ | ⟨h1,h2,h3⟩)
    ·exact ⟨true,h1,fun _=>⟨h2,h3,h4⟩,fun h=>absurd h (by decide)⟩
    ·exact ⟨false,h1,fun h=>absurd h (by decide),fun _=>⟨h2,h3⟩⟩)
  obtain ⟨q,Hq⟩ : ∃ q,Hid (isWX s x = q):=⟨_,Lib.hid rfl⟩
  have hfq:=hfs q Hq.out
  have hqq : isWP (s.extract (clP s x).1 (clP s x).2) = q:=Hq.out
  unfold encWd at hYV
  have hJf : ∀ V2,(q = false → J (pre.filter (isWX s)) V2 → J ((pre ++ [x]).filter (isWX s)) V2):=fun V2 hq h=>by rw [hfq,hq];exact h
  have hJt : ∀ V2,(q = true → J (pre.filter (isWX s) ++ [x]) V2 → J ((pre ++ [x]).filter (isWX s)) V2):=fun V2 hq h=>by rw [hfq,hq];exact h
  have hJxt : ∀ V2,(q = true → Jx (pre.filter (isWX s) ++ [x]) V2 → Jx ((pre ++ [x]).filter (isWX s)) V2):=fun V2 hq h=>by rw [hfq,hq];exact h
  clear hfs hfq Hq
  obtain ⟨⟨a,b⟩,hab⟩ : ∃ z,clP s x = z:=⟨_,rfl⟩
  rw [hab] at hcx hqq hYV ⊢
  simp only at hcx hqq hYV ⊢
  simp only [List.setIfInBounds_toArray,List.set_cons_succ,List.set_cons_zero]
  have HW2:=Lib.hid (fun V2 h=>HW.out (s.extract a b) V2 h (by rw [ByteArray.size_extract];omega))
  rw [hqq] at HW2
  have ha0 : (0 : Int) ≤ (a : Int):=by omega
  have ha1 : (a : Int) ≤ (b : Int):=by omega
  have ha2 : (b : Int) ≤ (s.size : Int):=by omega
  clear hqq
  cases q with
  | false =>
   gi_wp2_with fail
   refine wpIn_region_wide (by kernel_rfl) (by kernel_rfl) ?_
   refine wpAnyIn_take (i:=1) (v:=?_) rfl rfl (by kernel_rfl) (by kernel_rfl) (by kernel_rfl) (fun _ _ _ h=>h) ⟨Or.inl ⟨by rfl,?_⟩,fun _=>rfl⟩ ?_;rotate_left;focus (intro w;go_simp;try with_reducible rfl)
   (try simp only [Act.put,List.getElem_toArray,List.getElem_cons_succ,List.getElem_cons_zero,List.setIfInBounds_toArray,List.set_cons_zero,List.set_cons_succ])
   refine wpAnyIn_take (i:=2) (v:=?_) rfl rfl (by kernel_rfl) (by kernel_rfl) (by kernel_rfl) (fun _ _ _ h=>h) ⟨Or.inl ⟨by rfl,?_⟩,fun _=>rfl⟩ ?_;rotate_left;focus (intro w;go_simp;try with_reducible rfl)
   (try simp only [Act.put,List.getElem_toArray,List.getElem_cons_succ,List.getElem_cons_zero,List.setIfInBounds_toArray,List.set_cons_zero,List.set_cons_succ])
   refine wpAnyIn_all (rs:=[0]) (by kernel_rfl) (by simp) (AllReadyIn.cons rfl (fun K hK=>?_) AllReadyIn.nil)
   go_simp
   refine hK _ _ ?_
   clear hK K
   (try simp only [Act.put,List.getElem_toArray,List.getElem_cons_succ,List.getElem_cons_zero,List.setIfInBounds_toArray,List.set_cons_zero,List.set_cons_succ])
   refine wpAnyIn_take (i:=3) (v:=?_) rfl rfl (by kernel_rfl) (by kernel_rfl) (by kernel_rfl) (fun _ _ _ h=>h) ⟨Or.inl ⟨by rfl,?_⟩,fun _=>rfl⟩ ?_;rotate_left;focus (intro w;go_simp;try with_reducible rfl)
   (try simp only [Act.put,List.getElem_toArray,List.getElem_cons_succ,List.getElem_cons_zero,List.setIfInBounds_toArray,List.set_cons_zero,List.set_cons_succ])
   refine wpAnyIn_all (rs:=[4]) (by kernel_rfl) (by simp) (AllReadyIn.cons rfl (fun K hK=>?_) AllReadyIn.nil)
   (try go_simp)
   refine ⟨trivial,fun h=>(by cases h),?_⟩
   gi_at_call 111
   refine (callsIn_wide.2 (HW2.out _ (hE.below hbV.drew))).mono ?_
   rintro e V2 ⟨rfl,hb2⟩
   have hbd:=below_two (Below.refl V.heap.size V).drew hb2
   (try go_simp)
   refine hK _ _ ?_
   clear hK K
   (try simp only [Act.put,List.getElem_toArray,List.getElem_cons_succ,List.getElem_cons_zero,List.setIfInBounds_toArray,List.set_cons_zero,List.set_cons_succ])
   refine wpAnyIn_take (i:=5) (v:=?_) rfl rfl (by kernel_rfl) (by kernel_rfl) (by kernel_rfl) (fun _ _ _ h=>h) ⟨Or.inl ⟨by rfl,?_⟩,fun _=>rfl⟩ ?_;rotate_left;focus (intro w;go_simp;try with_reducible rfl)
   (try simp only [Act.put,List.getElem_toArray,List.getElem_cons_succ,List.getElem_cons_zero,List.setIfInBounds_toArray,List.set_cons_zero,List.set_cons_succ])
   refine wpAnyIn_take (i:=6) (v:=undef) rfl rfl (by kernel_rfl) (by kernel_rfl) (by kernel_rfl) (fun _ _ _ h=>h) ⟨Or.inr ⟨by rfl,rfl⟩,fun _=>rfl⟩ ?_
   (try simp only [Act.put,List.getElem_toArray,List.getElem_cons_succ,List.getElem_cons_zero,List.setIfInBounds_toArray,List.set_cons_zero,List.set_cons_succ])
   refine wpAnyIn_take (i:=7) (v:=undef) rfl rfl (by kernel_rfl) (by kernel_rfl) (by kernel_rfl) (fun _ _ _ h=>h) ⟨Or.inr ⟨by rfl,rfl⟩,fun _=>rfl⟩ ?_
   (try simp only [Act.put,List.getElem_toArray,List.getElem_cons_succ,List.getElem_cons_zero,List.setIfInBounds_toArray,List.set_cons_zero,List.set_cons_succ])
   refine wpAnyIn_take (i:=8) (v:=undef) rfl rfl (by kernel_rfl) (by kernel_rfl) (by kernel_rfl) (fun _ _ _ h=>h) ⟨Or.inr ⟨by rfl,rfl⟩,fun _=>rfl⟩ ?_
   (try simp only [Act.put,List.getElem_toArray,List.getElem_cons_succ,List.getElem_cons_zero,List.setIfInBounds_toArray,List.set_cons_zero,List.set_cons_succ])
   refine wpAnyIn_take (i:=9) (v:=undef) rfl rfl (by kernel_rfl) (by kernel_rfl) (by kernel_rfl) (fun _ _ _ h=>h) ⟨Or.inr ⟨by rfl,rfl⟩,fun _=>rfl⟩ ?_
   (try simp only [Act.put,List.getElem_toArray,List.getElem_cons_succ,List.getElem_cons_zero,List.setIfInBounds_toArray,List.set_cons_zero,List.set_cons_succ])
   refine wpAnyIn_take (i:=10) (v:=undef) rfl rfl (by kernel_rfl) (by kernel_rfl) (by kernel_rfl) (fun _ _ _ h=>h) ⟨Or.inr ⟨by rfl,rfl⟩,fun _=>rfl⟩ ?_
   (try simp only [Act.put,List.getElem_toArray,List.getElem_cons_succ,List.getElem_cons_zero,List.setIfInBounds_toArray,List.set_cons_zero,List.set_cons_succ])
   refine wpAnyIn_take (i:=11) (v:=undef) rfl rfl (by kernel_rfl) (by kernel_rfl) (by kernel_rfl) (fun _ _ _ h=>h) ⟨Or.inr ⟨by rfl,rfl⟩,fun _=>rfl⟩ ?_
   (try simp only [Act.put,List.getElem_toArray,List.getElem_cons_succ,List.getElem_cons_zero,List.setIfInBounds_toArray,List.set_cons_zero,List.set_cons_succ])
   refine wpAnyIn_take (i:=12) (v:=undef) rfl rfl (by kernel_rfl) (by kernel_rfl) (by kernel_rfl) (fun _ _ _ h=>h) ⟨Or.inr ⟨by rfl,rfl⟩,fun _=>rfl⟩ ?_
   (try simp only [Act.put,List.getElem_toArray,List.getElem_cons_succ,List.getElem_cons_zero,List.setIfInBounds_toArray,List.set_cons_zero,List.set_cons_succ])
   refine wpAnyIn_take (i:=13) (v:=undef) rfl rfl (by kernel_rfl) (by kernel_rfl) (by kernel_rfl) (fun _ _ _ h=>h) ⟨Or.inr ⟨by rfl,rfl⟩,fun _=>rfl⟩ ?_
   (try simp only [Act.put,List.getElem_toArray,List.getElem_cons_succ,List.getElem_cons_zero,List.setIfInBounds_toArray,List.set_cons_zero,List.set_cons_succ])
   refine wpAnyIn_take (i:=14) (v:=?_) rfl rfl (by kernel_rfl) (by kernel_rfl) (by kernel_rfl) (fun _ _ _ h=>h) ⟨Or.inl ⟨by rfl,?_⟩,fun _=>rfl⟩ ?_;rotate_left;focus (intro w;go_simp;try with_reducible rfl)
   (try simp only [Act.put,List.getElem_toArray,List.getElem_cons_succ,List.getElem_cons_zero,List.setIfInBounds_toArray,List.set_cons_zero,List.set_cons_succ])
   refine wpAnyIn_done (by kernel_rfl) ?_ _
   gi_wp2
   exact ⟨keepsFrom_below hbd,KT.below hbd,hJf _ (by first | rfl | trivial) (hJ _ V _ none hj (grown_of_below hbd) (fun r e=>by cases e)),B.below hbd,hS.below hbd,hbV.trans (hbd.mono hbV.size)⟩
  | true =>
   gi_wp2_with fail
   refine wpIn_region_wide (by kernel_rfl) (by kernel_rfl) ?_
   refine wpAnyIn_take (i:=1) (v:=?_) rfl rfl (by kernel_rfl) (by kernel_rfl) (by kernel_rfl) (fun _ _ _ h=>h) ⟨Or.inl ⟨by rfl,?_⟩,fun _=>rfl⟩ ?_;rotate_left;focus (intro w;go_simp;try with_reducible rfl)
   (try simp only [Act.put,List.getElem_toArray,List.getElem_cons_succ,List.getElem_cons_zero,List.setIfInBounds_toArray,List.set_cons_zero,List.set_cons_succ])
   refine wpAnyIn_take (i:=2) (v:=?_) rfl rfl (by kernel_rfl) (by kernel_rfl) (by kernel_rfl) (fun _ _ _ h=>h) ⟨Or.inl ⟨by rfl,?_⟩,fun _=>rfl⟩ ?_;rotate_left;focus (intro w;go_simp;try with_reducible rfl)
   (try simp only [Act.put,List.getElem_toArray,List.getElem_cons_succ,List.getElem_cons_zero,List.setIfInBounds_toArray,List.set_cons_zero,List.set_cons_succ])
   refine wpAnyIn_all (rs:=[0]) (by kernel_rfl) (by simp) (AllReadyIn.cons rfl (fun K hK=>?_) AllReadyIn.nil)
   go_simp
   refine hK _ _ ?_
   clear hK K
   (try simp only [Act.put,List.getElem_toArray,List.getElem_cons_succ,List.getElem_cons_zero,List.setIfInBounds_toArray,List.set_cons_zero,List.set_cons_succ])
   refine wpAnyIn_take (i:=3) (v:=?_) rfl rfl (by kernel_rfl) (by kernel_rfl) (by kernel_rfl) (fun _ _ _ h=>h) ⟨Or.inl ⟨by rfl,?_⟩,fun _=>rfl⟩ ?_;rotate_left;focus (intro w;go_simp;try with_reducible rfl)
   (try simp only [Act.put,List.getElem_toArray,List.getElem_cons_succ,List.getElem_cons_zero,List.setIfInBounds_toArray,List.set_cons_zero,List.set_cons_succ])
   refine wpAnyIn_all (rs:=[4]) (by kernel_rfl) (by simp) (AllReadyIn.cons rfl (fun K hK=>?_) AllReadyIn.nil)
   (try go_simp)
   refine ⟨trivial,fun h=>(by cases h),?_⟩
   gi_at_call 111
   refine (callsIn_wide.2 (HW2.out _ (hE.below hbV.drew))).mono ?_
   rintro e V2 ⟨rfl,hb2⟩
   have hbd:=below_two (Below.refl V.heap.size V).drew hb2
   (try go_simp)
   have b02:=cell_keep b0 hbd
   have b12:=cell_keep b1 hbd
   obtain ⟨fn,tmps,assign,body,hy,hR⟩:=hYV V2 hbd
   refine hK _ _ ?_
   clear hK K
   (try simp only [Act.put,List.getElem_toArray,List.getElem_cons_succ,List.getElem_cons_zero,List.setIfInBounds_toArray,List.set_cons_zero,List.set_cons_succ])
   refine wpAnyIn_take (i:=5) (v:=?_) rfl rfl (by kernel_rfl) (by kernel_rfl) (by kernel_rfl) (fun _ _ _ h=>h) ⟨Or.inl ⟨by rfl,?_⟩,fun _=>rfl⟩ ?_;rotate_left;focus (intro w;go_simp;try with_reducible rfl)
   (try simp only [Act.put,List.getElem_toArray,List.getElem_cons_succ,List.getElem_cons_zero,List.setIfInBounds_toArray,List.set_cons_zero,List.set_cons_succ])
   refine wpAnyIn_take (i:=7) (v:=?_) rfl rfl (by kernel_rfl) (by kernel_rfl) (by kernel_rfl) (fun _ _ _ h=>h) ⟨Or.inl ⟨by rfl,?_⟩,fun _=>rfl⟩ ?_;rotate_left;focus (intro w;go_simp;try with_reducible rfl)
   (try simp only [Act.put,List.getElem_toArray,List.getElem_cons_succ,List.getElem_cons_zero,List.setIfInBounds_toArray,List.set_cons_zero,List.set_cons_succ])
   refine wpAnyIn_take (i:=9) (v:=?_) rfl rfl (by kernel_rfl) (by kernel_rfl) (by kernel_rfl) (fun _ _ _ h=>h) ⟨Or.inl ⟨by rfl,?_⟩,fun _=>rfl⟩ ?_;rotate_left;focus (intro w;go_simp;try with_reducible rfl)
   (try simp only [Act.put,List.getElem_toArray,List.getElem_cons_succ,List.getElem_cons_zero,List.setIfInBounds_toArray,List.set_cons_zero,List.set_cons_succ])
   refine wpAnyIn_take (i:=10) (v:=?_) rfl rfl (by kernel_rfl) (by kernel_rfl) (by kernel_rfl) (fun _ _ _ h=>h) ⟨Or.inl ⟨by rfl,?_⟩,fun _=>rfl⟩ ?_;rotate_left;focus (intro w;go_simp;try with_reducible rfl)
   (try simp only [Act.put,List.getElem_toArray,List.getElem_cons_succ,List.getElem_cons_zero,List.setIfInBounds_toArray,List.set_cons_zero,List.set_cons_succ])
   refine wpAnyIn_all (rs:=[6,8]) (by kernel_rfl) (by simp) (AllReadyIn.cons rfl (fun K hK=>?_) (AllReadyIn.cons rfl (fun K hK=>?_) AllReadyIn.nil))
   ·go_simp
    refine hK _ _ ?_
    clear hK K
    (try simp only [Act.put,List.getElem_toArray,List.getElem_cons_succ,List.getElem_cons_zero,List.setIfInBounds_toArray,List.set_cons_zero,List.set_cons_succ])
    refine wpAnyIn_all (rs:=[8]) (by kernel_rfl) (by simp) (AllReadyIn.cons rfl (fun K hK=>?_) AllReadyIn.nil)
    go_simp
    refine hK _ _ ?_
    clear hK K
    (try simp only [Act.put,List.getElem_toArray,List.getElem_cons_succ,List.getElem_cons_zero,List.setIfInBounds_toArray,List.set_cons_zero,List.set_cons_succ])
    refine wpAnyIn_take (i:=11) (v:=?_) rfl rfl (by kernel_rfl) (by kernel_rfl) (by kernel_rfl) (fun _ _ _ h=>h) ⟨Or.inl ⟨by rfl,?_⟩,fun _=>rfl⟩ ?_;rotate_left;focus (intro w;go_simp;try with_reducible rfl)
    (try simp only [Act.put,List.getElem_toArray,List.getElem_cons_succ,List.getElem_cons_zero,List.setIfInBounds_toArray,List.set_cons_zero,List.set_cons_succ])
    refine wpAnyIn_all (rs:=[12]) (by kernel_rfl) (by simp) (AllReadyIn.cons rfl (fun K hK=>?_) AllReadyIn.nil)
    go_simp
    first | refine ⟨fun h=>(by cases h),?_⟩ | refine ⟨fun _ h=>(by cases h),fun h=>(by cases h),?_⟩ | skip
    refine (round_deep hR).mono ?_
    rintro e W4 ⟨z,rfl,hbt,hbf⟩
    (try go_simp)
    refine hK _ _ ?_
    clear hK K
    (try simp only [Act.put,List.getElem_toArray,List.getElem_cons_succ,List.getElem_cons_zero,List.setIfInBounds_toArray,List.set_cons_zero,List.set_cons_succ])
    refine wpAnyIn_take (i:=13) (v:=?_) rfl rfl (by kernel_rfl) (by kernel_rfl) (by kernel_rfl) (fun _ _ _ h=>h) ⟨Or.inl ⟨by rfl,?_⟩,fun _=>rfl⟩ ?_;rotate_left;focus (intro w;go_simp;try with_reducible rfl)
    (try simp only [Act.put,List.getElem_toArray,List.getElem_cons_succ,List.getElem_cons_zero,List.setIfInBounds_toArray,List.set_cons_zero,List.set_cons_succ])
    refine wpAnyIn_take (i:=14) (v:=?_) rfl rfl (by kernel_rfl) (by kernel_rfl) (by kernel_rfl) (fun _ _ _ h=>h) ⟨Or.inl ⟨by rfl,?_⟩,fun _=>rfl⟩ ?_;rotate_left;focus (intro w;go_simp;try with_reducible rfl)
    (try simp only [Act.put,List.getElem_toArray,List.getElem_cons_succ,List.getElem_cons_zero,List.setIfInBounds_toArray,List.set_cons_zero,List.set_cons_succ])
    refine wpAnyIn_done (by kernel_rfl) ?_ _
    cases z with
    | true =>
     obtain ⟨hj4,hk4,hf4⟩:=hbt rfl
     gi_wp2
     exact ⟨(keepsFrom_below hbd).trans (keeps_later hf4 (by omega)),(KT.below hbd).trans (KT.of_kc hk4.2),hJt _ (by first | rfl | trivial) hj4,hk4.2.blk (B.below hbd) (Nat.zero_le _) (fun h=>by have:=(hX _ h).2;omega),hk4.2.blk (hS.below hbd) (Nat.zero_le _) hXb,(hbV.trans (hbd.mono hbV.size)).trans hk4.1⟩
    | false =>
     obtain ⟨hj4,hf4⟩:=hbf rfl
     gi_wp2
     exact ⟨(keepsFrom_below hbd).trans (keeps_later hf4 (by omega)),rfl,hJxt _ (by first | rfl | trivial) hj4⟩
   ·go_simp
    refine hK _ _ ?_
    clear hK K
    (try simp only [Act.put,List.getElem_toArray,List.getElem_cons_succ,List.getElem_cons_zero,List.setIfInBounds_toArray,List.set_cons_zero,List.set_cons_succ])
    refine wpAnyIn_take (i:=11) (v:=?_) rfl rfl (by kernel_rfl) (by kernel_rfl) (by kernel_rfl) (fun _ _ _ h=>h) ⟨Or.inl ⟨by rfl,?_⟩,fun _=>rfl⟩ ?_;rotate_left;focus (intro w;go_simp;try with_reducible rfl)
    (try simp only [Act.put,List.getElem_toArray,List.getElem_cons_succ,List.getElem_cons_zero,List.setIfInBounds_toArray,List.set_cons_zero,List.set_cons_succ])
    refine wpAnyIn_all (rs:=[6]) (by kernel_rfl) (by simp) (AllReadyIn.cons rfl (fun K hK=>?_) AllReadyIn.nil)
    go_simp
    refine hK _ _ ?_
    clear hK K
    (try simp only [Act.put,List.getElem_toArray,List.getElem_cons_succ,List.getElem_cons_zero,List.setIfInBounds_toArray,List.set_cons_zero,List.set_cons_succ])
    refine wpAnyIn_all (rs:=[12]) (by kernel_rfl) (by simp) (AllReadyIn.cons rfl (fun K hK=>?_) AllReadyIn.nil)
    go_simp
    first | refine ⟨fun h=>(by cases h),?_⟩ | refine ⟨fun _ h=>(by cases h),fun h=>(by cases h),?_⟩ | skip
    refine (round_deep hR).mono ?_
    rintro e W4 ⟨z,rfl,hbt,hbf⟩
    (try go_simp)
    refine hK _ _ ?_
    clear hK K
    (try simp only [Act.put,List.getElem_toArray,List.getElem_cons_succ,List.getElem_cons_zero,List.setIfInBounds_toArray,List.set_cons_zero,List.set_cons_succ])
    refine wpAnyIn_take (i:=13) (v:=?_) rfl rfl (by kernel_rfl) (by kernel_rfl) (by kernel_rfl) (fun _ _ _ h=>h) ⟨Or.inl ⟨by rfl,?_⟩,fun _=>rfl⟩ ?_;rotate_left;focus (intro w;go_simp;try with_reducible rfl)
    (try simp only [Act.put,List.getElem_toArray,List.getElem_cons_succ,List.getElem_cons_zero,List.setIfInBounds_toArray,List.set_cons_zero,List.set_cons_succ])
    refine wpAnyIn_take (i:=14) (v:=?_) rfl rfl (by kernel_rfl) (by kernel_rfl) (by kernel_rfl) (fun _ _ _ h=>h) ⟨Or.inl ⟨by rfl,?_⟩,fun _=>rfl⟩ ?_;rotate_left;focus (intro w;go_simp;try with_reducible rfl)
    (try simp only [Act.put,List.getElem_toArray,List.getElem_cons_succ,List.getElem_cons_zero,List.setIfInBounds_toArray,List.set_cons_zero,List.set_cons_succ])
    refine wpAnyIn_done (by kernel_rfl) ?_ _
    cases z with
    | true =>
     obtain ⟨hj4,hk4,hf4⟩:=hbt rfl
     gi_wp2
     exact ⟨(keepsFrom_below hbd).trans (keeps_later hf4 (by omega)),(KT.below hbd).trans (KT.of_kc hk4.2),hJt _ (by first | rfl | trivial) hj4,hk4.2.blk (B.below hbd) (Nat.zero_le _) (fun h=>by have:=(hX _ h).2;omega),hk4.2.blk (hS.below hbd) (Nat.zero_le _) hXb,(hbV.trans (hbd.mono hbV.size)).trans hk4.1⟩
    | false =>
     obtain ⟨hj4,hf4⟩:=hbf rfl
     gi_wp2
     exact ⟨(keepsFrom_below hbd).trans (keeps_later hf4 (by omega)),rfl,hJxt _ (by first | rfl | trivial) hj4⟩
 case done =>
  rintro D ys V hD hys ⟨hj,B,_,hbV⟩ hK
  subst hys
  gi_wp2
  refine ⟨by simp,.inl ⟨_,_,rfl,run_takeDeferred hK,?_⟩⟩
  exact ⟨_,results_none rfl _ _ _,⟨_,rfl⟩,.inl ⟨_,rfl,hJ.putObj _ hj (by omega) hK rfl⟩⟩
 case stop =>
  rintro D c pre V hD hp ⟨rfl,hjx⟩ hK
  gi_wp2
  refine ⟨by simp,.inl ⟨_,_,rfl,run_takeDeferred hK,?_⟩⟩
  exact ⟨_,results_none rfl _ _ _,⟨_,rfl⟩,.inr ⟨_,hp.filter _,hJx.putObj _ hjx (by omega) hK rfl⟩⟩
end Go.Proofs.YtdngkienloligaaGreatDoor
/- -/
namespace Go.Proofs.YtdngkienloligaaGreatDoor
open Go.RowKit Go.Shelf
attribute [local go_sem] Oper.semAt_some
set_option maxRecDepth 100000 in
set_option maxHeartbeats 4000000 in
theorem kCount_any (s : ByteArray) (w : World) (hE : Env w) (hs : s.size ≤ 1000000) : Calls Tryz.prog 45 #[.string s] w fun e w'=>e = .returned (.int .i64 ((wordsP s).length : Nat)) ∧ Below w.heap.size w w':=by
 have hA0 : Below w.heap.size w (w.alloc (.cells #[.int .i64 0] 3)):=(Below.refl _ _).alloc (Nat.le_refl _) _
 have B0 : Blk (w.alloc (.cells #[.int .i64 0] 3)) w.heap.size 3 #[.int .i64 0]:=Blk.new _ _ _
 have hN : (piecesF (wBounds gW s)).length ≤ 1000000:=by rw [piecesF_len];have:=wBounds_len gW s;omega
 refine (callsIn_wide (n:=8)).1 ?_
 refine callsIn_of_wp_marks Tryz.func45 rfl trivial ?_ rfl
 simp only [Tryz.ntmps45,List.size_toArray,List.length_cons,List.length_nil,Nat.reduceAdd,Nat.reduceSub,Array.replicate_succ,Array.replicate_zero,List.push_toArray,List.append_toArray,List.nil_append,List.cons_append]
 refine wpIn_wide.2 ?_
 have c0:=B0.cell 0
 have f0:=B0.frozen 0
 simp only [List.getElem?_toArray,List.getElem?_cons_zero] at c0
 go_wp2_with fail
 clear c0 f0
 generalize (w.alloc (.cells #[.int .i64 0] 3)) = w0 at hA0 B0 ⊢
 have hz0:=B0.lt
 refine (kWords_any s w0).mono ?_
 rintro e w1 ⟨rfl,hS,hb⟩
 have hW1:=below_two hA0 hb
 have B1:=B0.below hb
 have hz1:=B1.lt
 have hz2:=hS.lt
 clear hA0 hb B0
 go_wp2_with fail
 refine (wpIn_wide (n:=8)).1 ?_
 refine rngC rfl (by decide) (gf:=110) (lb:=#[.pointer (some ⟨w0.heap.size,0,none⟩)]) rfl trivial (enters_of Tryz.func110 (by kernel_rfl) rfl)
  (kWords_seq 7 (by decide) w w1 s w0.heap.size (fun b=>b = w.heap.size) hW1 (by rintro b rfl;exact ⟨Nat.le_refl _,hz1⟩) (by omega) hE hs hS) (fun h k=>h.trans k) (KpB.put (by omega)) (Below.refl _ _) (fun _=>rfl)
  (fun (pre : List (Nat × Nat)) W=>Blk W w.heap.size 3 #[.int .i64 (pre.length : Nat)] ∧ Below w.heap.size w W)
  (fun _ _ _=>False)
  (OwnFrom.and (Go.Own.from (fun s A B row hs hg hr=>hs.kept hg hr) _) (ownFrom_below (Nat.le_refl _) (by omega)))
  (fun _ _ _ _ _ hs _ _=>hs) ⟨B1,hW1⟩
  (fun T (x : Nat × Nat)=>(T.setIfInBounds 6 (.int .i64 ((clP s x).1 : Nat))).setIfInBounds 7 (.string (s.extract (clP s x).1 (clP s x).2))) ?assign ?body ?done ?stop
 case assign =>
  intro l2 x V K hK
  simp only [List.setIfInBounds_toArray,List.set_cons_succ,List.set_cons_zero] at hK
  simp only [encWd]
  gi_wp2
  rw [show (#[6,7].zip #[Value.int .i64 ((clP s x).1 : Nat),Value.string (s.extract (clP s x).1 (clP s x).2)]) = #[(6,Value.int .i64 ((clP s x).1 : Nat)),(7,Value.string (s.extract (clP s x).1 (clP s x).2))] from by rw [List.zip_toArray];rfl]
  simp only [List.foldl_toArray,List.foldl_cons,List.foldl_nil,List.setIfInBounds_toArray,List.set_cons_succ,List.set_cons_zero]
  exact hK
 case stop =>
  rintro D cc pre W _ hp h _
  exact absurd h id
 case body =>
  rintro l2 pre x W hl2 _ ⟨B,hbW⟩ hlen
  simp only [List.setIfInBounds_toArray,List.set_cons_succ,List.set_cons_zero]
  have c1:=B.cell 0
  have f1:=B.frozen 0
  simp only [List.getElem?_toArray,List.getElem?_cons_zero] at c1
  have hpl : pre.length < 1000000:=by omega
  have Hl : Hid ((pre.length : Int) + 1 = ((pre ++ [x]).length : Nat)):=Lib.hid (by rw [List.length_append,List.length_singleton];omega)
  gi_wp2
  refine ⟨(KeepsOthers.setCell W ⟨w.heap.size,0,none⟩ (.int .i64 ((pre.length : Int) + 1))).from _,⟨(Below.refl _ _).setCell (p:=⟨w.heap.size,0,none⟩) (Nat.le_refl _) _,kcQ_setCell (X:=fun b=>b = w.heap.size) (KC.refl _ _ _) (p:=⟨w.heap.size,0,none⟩) (.inr rfl) _⟩,?_,hbW.setCell (p:=⟨w.heap.size,0,none⟩) (Nat.le_refl _) _⟩
  exact cast (congrArg (fun z=>Blk _ _ _ #[Value.int .i64 z]) Hl.out) (B.set_ 0 (.int .i64 ((pre.length : Int) + 1)))
 case done =>
  rintro D ys V hD hys ⟨B,hbV⟩ hK
  subst hys
  have c1:=B.cell 0
  simp only [List.getElem?_toArray,List.getElem?_cons_zero] at c1
  go_wp2
  refine ⟨by simp,.inl ⟨_,_,rfl,run_takeDeferred hK,?_⟩⟩
  exact ⟨_,results_tmp rfl _ _ _,rfl,hbV.trans (belowK_b (w:=w) (Nat.le_refl _) _ D _ _ (by omega) hK rfl rfl)⟩
def afterP (s : ByteArray) (x : Int) : Option (Nat × Nat):=(wordsP s).find? fun p=>decide (x ≤ (p.1 : Int))
theorem res_after (w : World) (b4 b5 b6 : Nat) (tmps : Array Value) (h4 : tmps.getD 4 undef = .pointer (some ⟨b4,0,none⟩)) (h5 : tmps.getD 5 undef = .pointer (some ⟨b5,0,none⟩)) (h6 : tmps.getD 6 undef = .pointer (some ⟨b6,0,none⟩)) {x y : Int} {v : Bool}
  (c4 : w.cell? ⟨b4,0,none⟩ = some (.int .i64 x)) (c5 : w.cell? ⟨b5,0,none⟩ = some (.int .i64 y)) (c6 : w.cell? ⟨b6,0,none⟩ = some (.bool v)) : (results Tryz.f46 tmps).run Tryz.prog w = .ok (.tuple #[.int .i64 x,.int .i64 y,.bool v]) w:=by
 have h4' : tmps[4]?.getD undef = .pointer (some ⟨b4,0,none⟩):=by simpa [Array.getD_eq_getD_getElem?] using h4
 have h5' : tmps[5]?.getD undef = .pointer (some ⟨b5,0,none⟩):=by simpa [Array.getD_eq_getD_getElem?] using h5
 have h6' : tmps[6]?.getD undef = .pointer (some ⟨b6,0,none⟩):=by simpa [Array.getD_eq_getD_getElem?] using h6
 simp [results,Tryz.results46,go_sem,h4',h5',h6',c4,c5,c6]
theorem blk_far {V : World} {p : Addr} {u : Value} {k : Nat} {t : TypeId} {cs : Array Value} (h : Blk V k t cs) (hne : k ≠ p.block) : Blk (V.setCell p u) k t cs:=(Below.heap_setCell V p u k hne).trans h
theorem blk_put {V : World} {D : Nat} {o : Obj} {k : Nat} {t : TypeId} {cs : Array Value} (h : Blk V k t cs) (hne : k ≠ D) : Blk (V.putObj D o) k t cs:=(World.putObj_heap_other hne).trans h
def NoW (s : ByteArray) (x : Int) (pre : List (Nat × Nat)) : Prop:=∀ p ∈ pre,¬ x ≤ ((clP s p).1 : Nat)
def AfM (s : ByteArray) (x : Int) (w : World) (pre : List (Nat × Nat)) (W : World) : Prop :=
 ∃ (q : Nat × Nat) (pre0 : List (Nat × Nat)),pre = pre0 ++ [q] ∧ NoW s x pre0 ∧ x ≤ ((clP s q).1 : Nat) ∧ Blk W (w.heap.size + 1) 3 #[.int .i64 ((clP s q).1 : Nat)] ∧ Blk W (w.heap.size + 1 + 1) 3 #[.int .i64 ((clP s q).2 : Nat)] ∧ Blk W (w.heap.size + 1 + 1 + 1) 4 #[.bool true] ∧ Below w.heap.size w W
theorem find_prefix {α : Type} {P : α → Bool} : ∀ {pre L : List α} {q : α},pre ++ [q] <+: L → (∀ p ∈ pre,P p = false) → P q = true → L.find? P = some q
 | [],L,q,⟨t,h⟩,_,hq=>by rw [← h];simp [hq]
 | a :: r,L,q,⟨t,h⟩,hp,hq=>by
  rw [← h,List.cons_append,List.cons_append,List.find?_cons,hp a (by simp)]
  exact find_prefix ⟨t,rfl⟩ (fun p hp'=>hp p (by simp [hp'])) hq
theorem words_cl {s : ByteArray} {p : Nat × Nat} (h : p ∈ wordsP s) : clP s p = p :=
 clP_in (piecesF_le (wBounds_rise gW s) (wBounds_le gW s) p (List.mem_filter.1 h).1)
def afterV (s : ByteArray) (x : Int) : Value:=match afterP s x with
 | some p=>.tuple #[.int .i64 (p.1 : Nat),.int .i64 (p.2 : Nat),.bool true]
 | none=>.tuple #[.int .i64 0,.int .i64 0,.bool false]
set_option maxRecDepth 100000 in
set_option maxHeartbeats 4000000 in
theorem kAfter_any (s : ByteArray) (x : Int) (w : World) (hE : Env w) (hs : s.size ≤ 1000000) : Calls Tryz.prog 46 #[.string s,.int .i64 x] w fun e w'=>e = .returned (afterV s x) ∧ Below w.heap.size w w':=by
 have hA1 : Below w.heap.size w (w.alloc (.cells #[.int .i64 x] 3)):=(Below.refl _ _).alloc (Nat.le_refl _) _
 have hA2:=hA1.alloc hA1.size (.cells #[.int .i64 0] 3)
 have hA3:=hA2.alloc hA2.size (.cells #[.int .i64 0] 3)
 have hA4:=hA3.alloc hA3.size (.cells #[.bool false] 4)
 have B3 : Blk ((((w.alloc (.cells #[.int .i64 x] 3)).alloc (.cells #[.int .i64 0] 3)).alloc (.cells #[.int .i64 0] 3)).alloc (.cells #[.bool false] 4)) w.heap.size 3 #[.int .i64 x]:=((((Blk.new w 3 #[.int .i64 x]).alloc _).alloc _).alloc _)
 have B4 : Blk ((((w.alloc (.cells #[.int .i64 x] 3)).alloc (.cells #[.int .i64 0] 3)).alloc (.cells #[.int .i64 0] 3)).alloc (.cells #[.bool false] 4)) (w.heap.size + 1) 3 #[.int .i64 0]:=by
  have:=((Blk.new (w.alloc (.cells #[.int .i64 x] 3)) 3 #[.int .i64 0]).alloc (.cells #[.int .i64 0] 3)).alloc (.cells #[.bool false] 4)
  rw [World.size_alloc] at this
  exact this
 have B5 : Blk ((((w.alloc (.cells #[.int .i64 x] 3)).alloc (.cells #[.int .i64 0] 3)).alloc (.cells #[.int .i64 0] 3)).alloc (.cells #[.bool false] 4)) (w.heap.size + 1 + 1) 3 #[.int .i64 0]:=by
  have:=(Blk.new ((w.alloc (.cells #[.int .i64 x] 3)).alloc (.cells #[.int .i64 0] 3)) 3 #[.int .i64 0]).alloc (.cells #[.bool false] 4)
  rw [World.size_alloc,World.size_alloc] at this
  exact this
 have B6 : Blk ((((w.alloc (.cells #[.int .i64 x] 3)).alloc (.cells #[.int .i64 0] 3)).alloc (.cells #[.int .i64 0] 3)).alloc (.cells #[.bool false] 4)) (w.heap.size + 1 + 1 + 1) 4 #[.bool false]:=by
  have:=Blk.new (((w.alloc (.cells #[.int .i64 x] 3)).alloc (.cells #[.int .i64 0] 3)).alloc (.cells #[.int .i64 0] 3)) 4 #[.bool false]
  rw [World.size_alloc,World.size_alloc,World.size_alloc] at this
  exact this
 clear hA1 hA2 hA3
 refine (callsIn_wide (n:=8)).1 ?_
 refine callsIn_of_wp_marks Tryz.func46 rfl trivial ?_ rfl
 simp only [Tryz.ntmps46,List.size_toArray,List.length_cons,List.length_nil,Nat.reduceAdd,Nat.reduceSub,Array.replicate_succ,Array.replicate_zero,List.push_toArray,List.append_toArray,List.nil_append,List.cons_append]
 refine wpIn_wide.2 ?_
 go_wp2_with fail
 generalize ((((w.alloc (.cells #[.int .i64 x] 3)).alloc (.cells #[.int .i64 0] 3)).alloc (.cells #[.int .i64 0] 3)).alloc (.cells #[.bool false] 4)) = w0 at hA4 B3 B4 B5 B6 ⊢
 refine (kWords_any s w0).mono ?_
 rintro e w1 ⟨rfl,hS,hb⟩
 have hW1:=below_two hA4 hb
 have C3:=B3.below hb
 have C4:=B4.below hb
 have C5:=B5.below hb
 have C6:=B6.below hb
 have hz6:=C6.lt
 have hz2:=hS.lt
 have hE1:=hE.below hW1
 clear hA4 hb B3 B4 B5 B6 hE
 go_wp2_with fail
 refine (wpIn_wide (n:=8)).1 ?_
 refine rngC rfl (by decide) (gf:=110) (lb:=#[.pointer (some ⟨w0.heap.size,0,none⟩)]) rfl trivial (enters_of Tryz.func110 (by kernel_rfl) rfl)
  (kWords_seq 7 (by decide) w1 w1 s w0.heap.size (fun _=>False) (Below.refl _ _) (fun b h=>h.elim) (fun h=>h) hE1 hs hS) (fun h k=>h.trans k) (KpB.put (Nat.le_refl _)) (Below.refl _ _) (fun _=>rfl)
  (fun (pre : List (Nat × Nat)) W=>NoW s x pre ∧ Below w1.heap.size w1 W)
  (fun cc pre W=>cc = .ret ∧ AfM s x w pre W)
  (OwnFrom.and (fun _ _ _ _ hs _ _=>hs) (ownFrom_below (Nat.le_refl _) (Nat.le_refl _)))
  (fun cc pre A B row hs hg hr=>by
   obtain ⟨h1,q,pre0,h2,h3,h4,h5,h6,h7,h8⟩:=hs
   exact ⟨h1,q,pre0,h2,h3,h4,h5.kept hg (fun r e=>(hr r e).2),h6.kept hg (fun r e=>(hr r e).2),h7.kept hg (fun r e=>(hr r e).2),ownFrom_below (β:=Unit) (Nat.le_refl w.heap.size) (by omega : w.heap.size ≤ w1.heap.size) () A B row h8 hg hr⟩)
  ⟨(fun p hp=>by cases hp),Below.refl _ _⟩
  (fun T (x : Nat × Nat)=>(((T.setIfInBounds 11 (.int .i64 ((clP s x).1 : Nat))).setIfInBounds 12 (.string (s.extract (clP s x).1 (clP s x).2))).setIfInBounds 7 (.int .i64 ((clP s x).1 : Nat))).setIfInBounds 8 (.string (s.extract (clP s x).1 (clP s x).2))) ?assign ?body ?done ?stop
 case assign =>
  intro l2 x V K hK
  simp only [List.setIfInBounds_toArray,List.set_cons_succ,List.set_cons_zero] at hK
  simp only [encWd]
  gi_wp2
  exact hK
 case body =>
  rintro l2 pre y W hl2 _ ⟨hno,hbW⟩ hlen
  simp only [List.setIfInBounds_toArray,List.set_cons_succ,List.set_cons_zero]
  have hcx:=clP_le s y
  obtain ⟨⟨a,b⟩,hab⟩ : ∃ z,clP s y = z:=⟨_,rfl⟩
  have hes : (s.extract a b).size = b - a:=by rw [hab] at hcx;rw [ByteArray.size_extract];omega
  rw [hab] at hcx ⊢
  simp only at hcx ⊢
  have c3:=(C3.below hbW).cell 0
  have D4:=C4.below hbW
  have D5:=C5.below hbW
  have D6:=C6.below hbW
  have c4:=D4.cell 0
  have c5:=D5.cell 0
  have c6:=D6.cell 0
  have f4:=D4.frozen 0
  have f5:=D5.frozen 0
  have f6:=D6.frozen 0
  simp only [List.getElem?_toArray,List.getElem?_cons_zero] at c3 c4 c5 c6
  by_cases hge : x ≤ (a : Int)
  ·have g1 : (a : Int) + ((b - a : Nat) : Int) = (b : Int):=by omega
   have hq : (a : Int) ≥ x:=hge
   have hz4 : w.heap.size + 1 + 1 + 1 < w1.heap.size:=hz6
   have HNo:=Lib.hid hno
   have HAB:=Lib.hid hab
   clear hno hab
   gi_wp2
   have E4:=D4.set_ 0 (.int .i64 (a : Nat))
   have E5:=(blk_far (p:=⟨w.heap.size + 1,0,none⟩) (u:=.int .i64 (a : Nat)) D5 (by simp)).set_ 0 (.int .i64 (b : Nat))
   have E6:=(blk_far (p:=⟨w.heap.size + 1 + 1,0,none⟩) (u:=.int .i64 (b : Nat)) (blk_far (p:=⟨w.heap.size + 1,0,none⟩) (u:=.int .i64 (a : Nat)) D6 (by simp <;> omega)) (by simp)).set_ 0 (.bool true)
   refine ⟨((KeepsOthers.setCell _ _ _).trans ((KeepsOthers.setCell _ _ _).trans (KeepsOthers.setCell _ _ _))).from _,rfl,y,pre,rfl,HNo.out,by rw [HAB.out];exact hge,?_,?_,?_,?_⟩
   ·rw [HAB.out];exact blk_far (blk_far E4 (by simp)) (by simp <;> omega)
   ·rw [HAB.out];exact blk_far E5 (by simp)
   ·exact E6
   ·exact ((((hW1.trans (hbW.mono hW1.size)).setCell (p:=⟨w.heap.size + 1,0,none⟩) (by simp only;omega) _).setCell (p:=⟨w.heap.size + 1 + 1,0,none⟩) (by simp only;omega) _).setCell (p:=⟨w.heap.size + 1 + 1 + 1,0,none⟩) (by simp only;omega) _)
  ·have hq : ¬ (a : Int) ≥ x:=hge
   have HNo : Hid (NoW s x (pre ++ [y])):=Lib.hid (fun p hp=>by
    rcases List.mem_append.1 hp with h | h
    ·exact hno p h
    ·rw [List.mem_singleton] at h;subst h;rw [hab];exact hge)
   gi_wp2
   exact ⟨KeepsFrom.refl _ _,KpB.refl _ _ _,HNo.out,hbW⟩
 case done =>
  rintro D ys V hD hys ⟨hno,hbV⟩ hK
  subst hys
  have HV : Hid (afterV s x = .tuple #[.int .i64 0,.int .i64 0,.bool false]):=Lib.hid (by
   have : afterP s x = none:=by
    unfold afterP
    rw [List.find?_eq_none]
    intro p hp
    have:=hno p hp
    rw [words_cl hp] at this
    simpa using this
   unfold afterV;rw [this])
  have D4:=C4.below hbV
  have D5:=C5.below hbV
  have D6:=C6.below hbV
  have c4:=D4.cell 0
  have c5:=D5.cell 0
  have c6:=D6.cell 0
  have f4:=D4.frozen 0
  have f5:=D5.frozen 0
  have f6:=D6.frozen 0
  simp only [List.getElem?_toArray,List.getElem?_cons_zero] at c4 c5 c6
  go_wp2
  have hz4 : w.heap.size + 1 + 1 + 1 < w1.heap.size:=hz6
  have E4:=D4.set_ 0 (.int .i64 0)
  have E5:=(blk_far (p:=⟨w.heap.size + 1,0,none⟩) (u:=.int .i64 0) D5 (by simp)).set_ 0 (.int .i64 0)
  have E6:=(blk_far (p:=⟨w.heap.size + 1 + 1,0,none⟩) (u:=.int .i64 0) (blk_far (p:=⟨w.heap.size + 1,0,none⟩) (u:=.int .i64 0) D6 (by simp <;> omega)) (by simp)).set_ 0 (.bool false)
  have hK3:=((Below.heap_setCell _ ⟨w.heap.size + 1 + 1 + 1,0,none⟩ (.bool false) D (by simp only;omega)).trans ((Below.heap_setCell _ ⟨w.heap.size + 1 + 1,0,none⟩ (.int .i64 0) D (by simp only;omega)).trans ((Below.heap_setCell V ⟨w.heap.size + 1,0,none⟩ (.int .i64 0) D (by simp only;omega)).trans hK)))
  refine ⟨by simp,.inl ⟨_,_,rfl,run_takeDeferred hK3,?_⟩⟩
  have F4:=blk_put (D:=D) (o:=.deferred none) (blk_far (p:=⟨w.heap.size + 1 + 1 + 1,0,none⟩) (u:=.bool false) (blk_far (p:=⟨w.heap.size + 1 + 1,0,none⟩) (u:=.int .i64 0) E4 (by simp)) (by simp <;> omega)) (by omega)
  have F5:=blk_put (D:=D) (o:=.deferred none) (blk_far (p:=⟨w.heap.size + 1 + 1 + 1,0,none⟩) (u:=.bool false) E5 (by simp)) (by omega)
  have F6:=blk_put (D:=D) (o:=.deferred none) E6 (by omega)
  refine ⟨_,res_after _ _ _ _ _ rfl rfl rfl (F4.cell 0) (F5.cell 0) (F6.cell 0),by rw [HV.out],?_⟩
  exact ((((hW1.trans (hbV.mono hW1.size)).setCell (p:=⟨w.heap.size + 1,0,none⟩) (by simp only;omega) _).setCell (p:=⟨w.heap.size + 1 + 1,0,none⟩) (by simp only;omega) _).setCell (p:=⟨w.heap.size + 1 + 1 + 1,0,none⟩) (by simp only;omega) _).trans (belowK_b (w:=w) (Nat.le_refl _) _ D _ _ (by omega) hK3 rfl rfl)
 case stop =>
  rintro D cc pre W hD hp ⟨rfl,q,pre0,rfl,h3,h4,h5,h6,h7,h8⟩ hK
  have hmem : ∀ p ∈ pre0 ++ [q],p ∈ wordsP s:=fun p h=>hp.subset h
  have HV : Hid (afterV s x = .tuple #[.int .i64 ((clP s q).1 : Nat),.int .i64 ((clP s q).2 : Nat),.bool true]):=Lib.hid (by
   have : afterP s x = some q:=by
    unfold afterP
    refine find_prefix hp (fun p hp'=>?_) ?_
    ·have:=h3 p hp'
     rw [words_cl (hmem p (by simp [hp']))] at this
     simpa using this
    ·rw [words_cl (hmem q (by simp))] at h4
     simpa using h4
   unfold afterV;rw [this,words_cl (hmem q (by simp))])
  have c4:=h5.cell 0
  have c5:=h6.cell 0
  have c6:=h7.cell 0
  simp only [List.getElem?_toArray,List.getElem?_cons_zero] at c4 c5 c6
  have hz4 : w.heap.size + 1 + 1 + 1 < w1.heap.size:=hz6
  gi_wp2
  refine ⟨by simp,.inl ⟨_,_,rfl,run_takeDeferred hK,?_⟩⟩
  have F4:=blk_put (D:=D) (o:=.deferred none) h5 (by omega)
  have F5:=blk_put (D:=D) (o:=.deferred none) h6 (by omega)
  have F6:=blk_put (D:=D) (o:=.deferred none) h7 (by omega)
  exact ⟨_,res_after _ _ _ _ _ rfl rfl rfl (F4.cell 0) (F5.cell 0) (F6.cell 0),by rw [HV.out],h8.trans (belowK_b (w:=w) (Nat.le_refl _) _ D _ _ (by omega) hK rfl rfl)⟩
def nextW (s : ByteArray) (x : Int) : Nat:=((wBounds gW s).find? fun (a : Nat)=>decide (x < (a : Int))).getD s.size
set_option maxRecDepth 100000 in
set_option maxHeartbeats 2000000 in
theorem kNext_any (s : ByteArray) (x : Int) (w : World) (hE : Env w) (hs : s.size ≤ 1000000) :
  Calls Tryz.prog 39 #[.string s,.int .i64 x] w fun e w'=>e = .returned (.int .i64 (nextW s x : Nat)) ∧ Below w.heap.size w w':=by
 have HB:=Lib.hid (kBounds_any s w hE hs)
 have HL:=Lib.hid (wBounds_len gW s)
 clear hE
 go_enter Tryz.func39,Tryz.ntmps39
 go_wp2_with fail
 refine HB.out.mono ?_
 rintro e w1 ⟨A,n,c,rfl,ho,hb1⟩
 have hn : (wBounds gW s).length = n:=by have:=ho.len;simpa using this
 have Hn:=Lib.hid hn
 have hz : n ≤ 1000001:=by have:=HL.out;omega
 have rd:=ho.rd (by decide)
 clear hn ho
 go_wp2_with fail
 go_loopw [10] (fun v wr=>∃ i : Nat,v = .int .i64 i ∧ i ≤ n ∧ wr = w1 ∧ Hid (nextW s x = (((wBounds gW s).drop i).find? fun (a : Nat)=>decide (x < (a : Int))).getD s.size)) (fun v _=>n - (intOf v).toNat)
 case atStart=>exact ⟨0,rfl,by omega,rfl,Lib.hid rfl⟩
 case round =>
  obtain ⟨i,rfl,hi,rfl,HN⟩:=hrel
  by_cases hlt : i < n
  ·obtain ⟨y,Hy⟩ : ∃ y,Hid ((wBounds gW s)[i]? = some y):=⟨_,Lib.hid (List.getElem?_eq_getElem (by have:=Hn.out;omega))⟩
   obtain ⟨b,off,rfl,cy⟩:=Rd.atQ rd Hy.out
   have hdr : (wBounds gW s).drop i = y :: (wBounds gW s).drop (i + 1):=by rw [List.drop_eq_getElem_cons (by have:=Hn.out;omega)];rw [(List.getElem?_eq_some_iff.1 Hy.out).2]
   have HN2:=HN.out
   rw [hdr,List.find?_cons] at HN2
   clear hdr HN
   cases hq : decide (x < (y : Int)) with
   | true =>
    rw [hq] at HN2
    have HN3 : Hid (nextW s x = y):=Lib.hid HN2
    have hq2 : ((y : Int) > x) = True:=eq_true (of_decide_eq_true hq)
    clear HN2
    go_wp2
    go_ret
    exact ⟨by rw [HN3.out];rfl,hb1⟩
   | false =>
    rw [hq] at HN2
    have HN3:=Lib.hid HN2
    clear HN2
    go_wp2
    go_roundw
    case rel=>exact ⟨i + 1,by go_num,by omega,by first | rfl | trivial,HN3⟩
    case measure=>simp [intOf];omega
  ·obtain rfl : i = n:=by omega
   have HN2 : Hid (nextW s x = s.size):=Lib.hid (by rw [HN.out,List.drop_eq_nil_of_le (by have:=Hn.out;omega)];rfl)
   go_wp2
   go_ret
   exact ⟨by rw [HN2.out];rfl,hb1⟩
set_option maxRecDepth 100000 in
set_option maxHeartbeats 2000000 in
theorem kints_same (A B : Option Addr) (n c e : Nat) (l : List Nat) (w : World) (hA : Rd w 1 A (l.map encN)) (hB : Rd w 1 B (l.map encN)) (hl : l.length = n) (hn : n ≤ 4000000) :
  Calls Tryz.prog 33 #[.slice A n c,.slice B n e] w fun e w'=>e = .returned (.bool true) ∧ Below w.heap.size w w':=by
 have Hl:=Lib.hid hl
 clear hl
 go_enter Tryz.func33,Tryz.ntmps33
 go_wp2
 go_loopw [5] (fun v wr=>∃ i k : Nat,v = .int .i64 i ∧ i ≤ n ∧ wr = w.drewN k) (fun v _=>n - (intOf v).toNat)
 case atStart=>exact ⟨0,0,rfl,by omega,rfl⟩
 case round =>
  obtain ⟨i,k,rfl,hi,rfl⟩:=hrel
  by_cases hlt : i < n
  ·obtain ⟨x,Hx⟩ : ∃ x,Hid (l[i]? = some x):=⟨_,Lib.hid (List.getElem?_eq_getElem (by have:=Hl.out;omega))⟩
   obtain ⟨b,off,rfl,h1⟩:=Rd.atQ hA Hx.out
   obtain ⟨b',off',rfl,k1⟩:=Rd.atQ hB Hx.out
   go_wp2_with fail
   go_region
   go_wp2
   go_roundw
   case rel=>exact ⟨i + 1,_,by go_num,by omega,by first | rfl | exact World.drewN_drewN _ _ _⟩
   case measure=>simp [intOf];omega
  ·go_wp2
   go_ret
   exact ⟨rfl,below_refl_drewN w k⟩
end Go.Proofs.YtdngkienloligaaGreatDoor
/- -/
namespace Go.Proofs.YtdngkienloligaaGreatDoor
open Go.RowKit
theorem klive_bounds : wBounds gW ⟨#[99,97,110,39,116,32,51,46,49,52]⟩ = [0,5,6,10]:=by kernel_rfl
theorem klive_after : afterV ⟨#[97,32,98,99]⟩ 1 = .tuple #[.int .i64 2,.int .i64 4,.bool true]:=by kernel_rfl
theorem klive_count : (wordsP ⟨#[97,44,32,98,33]⟩).length = 2:=by kernel_rfl
theorem klive_kind : kindC (wCls gW ⟨#[51,97]⟩) = 4:=by kernel_rfl
theorem klive_space : kindC (wCls gW ⟨#[32]⟩) = 1:=by kernel_rfl
theorem klive_next : nextW ⟨#[97,98,32,99]⟩ 0 = 2:=by kernel_rfl
set_option maxRecDepth 100000 in
set_option maxHeartbeats 4000000 in
theorem klive_any (w : World) (hE : Env w) : Calls Tryz.prog 30 #[] w fun e w'=>e = .returned (.bool true) ∧ Below w.heap.size w w':=by
 have H1:=Lib.hid (kBounds_any ⟨#[99,97,110,39,116,32,51,46,49,52]⟩ w hE (by decide))
 have H2:=Lib.hid (fun W (h : Env W)=>kAfter_any ⟨#[97,32,98,99]⟩ 1 W h (by decide))
 have H3:=Lib.hid (fun W (h : Env W)=>kCount_any ⟨#[97,44,32,98,33]⟩ W h (by decide))
 have H4:=Lib.hid (fun W (h : Env W)=>kKind_any ⟨#[51,97]⟩ W h (by decide))
 have H5:=Lib.hid (fun W (h : Env W)=>kKind_any ⟨#[32]⟩ W h (by decide))
 have H6:=Lib.hid (fun W (h : Env W)=>kNext_any ⟨#[97,98,32,99]⟩ 0 W h (by decide))
 rw [klive_bounds] at H1
 simp only [klive_after] at H2
 simp only [klive_count] at H3
 simp only [klive_kind] at H4
 simp only [klive_space] at H5
 simp only [klive_next] at H6
 go_enter Tryz.func30,Tryz.ntmps30
 go_wp2_with fail
 refine H1.out.mono ?_
 rintro e w1 ⟨A,n,c,rfl,ho,hb1⟩
 obtain rfl : 4 = n:=ho.len
 go_wp2_with fail
 refine (H2.out _ (hE.below hb1)).mono ?_
 rintro e w2 ⟨rfl,hb2⟩
 have hbb:=below_two hb1 hb2
 have ho:=ho.below hb2
 have hb4 : Below w.heap.size w (w2.alloc (.cells #[.int .i64 0,.int .i64 5,.int .i64 6,.int .i64 10] 3)):=hbb.alloc hbb.size _
 have ho:=ho.alloc (.cells #[.int .i64 0,.int .i64 5,.int .i64 6,.int .i64 10] 3)
 have hr:=Rd.manyQ w2 3 1 ([(0 : Nat),5,6,10].map encN) #[.int .i64 0,.int .i64 5,.int .i64 6,.int .i64 10] rfl (by intro x hx;obtain ⟨y,_,rfl⟩:=List.mem_map.1 hx;rfl)
 have HY:=Lib.hid (kints_same A (some ⟨w2.heap.size,0,none⟩) 4 c 4 [0,5,6,10] _ (ho.rd (by decide)) hr rfl (by omega))
 clear H1 H2 hr ho
 go_wp2_with fail
 refine HY.out.mono ?_
 rintro e w3 ⟨rfl,hb5⟩
 have hb6:=below_step hb4 hb5 hb4.size
 go_wp2_with fail
 refine (H3.out _ (hE.below hb6)).mono ?_
 rintro e w4 ⟨rfl,hb7⟩
 have hb8:=below_step hb6 hb7 hb6.size
 go_wp2_with fail
 refine (H4.out _ (hE.below hb8)).mono ?_
 rintro e w5 ⟨rfl,hb9⟩
 have hb10:=below_step hb8 hb9 hb8.size
 go_wp2_with fail
 refine (H5.out _ (hE.below hb10)).mono ?_
 rintro e w6 ⟨rfl,hb11⟩
 have hb12:=below_step hb10 hb11 hb10.size
 go_wp2_with fail
 refine (H6.out _ (hE.below hb12)).mono ?_
 rintro e w7 ⟨rfl,hb13⟩
 have hb14:=below_step hb12 hb13 hb12.size
 go_wp2
 go_ret
 exact ⟨rfl,hb14⟩
end Go.Proofs.YtdngkienloligaaGreatDoor
