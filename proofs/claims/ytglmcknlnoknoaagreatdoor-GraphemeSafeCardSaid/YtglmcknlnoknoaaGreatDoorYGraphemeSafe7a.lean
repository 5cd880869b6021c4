/-
 Several texts in one,in their build order: PrO,PrQ,Nb0,Ne,GsP,Nf,Gn,Gq,Nh,Ni,GsA,GsB,GsC.
-/
import Derived.Deep.RegionHeld3
import Derived.BigRegion
import Derived.Test.YtglmcknlnoknoaaGreatDoorYGraphemeSafePrN
import Derived.Test.YtglmcknlnoknoaaGreatDoorYGraphemeSafe2a
import Derived.Test.YtglmcknlnoknoaaGreatDoorYGraphemeSafe0a
import Derived.Test.YtglmcknlnoknoaaGreatDoorG0a
import Derived.Test.YtglmcknlnoknoaaGreatDoorYGraphemeSafeNa
import Derived.Test.YtglmcknlnoknoaaGreatDoorYGraphemeSafe1a
import Derived.Test.YtglmcknlnoknoaaGreatDoorYGraphemeSafe3a
/- -/
namespace Go.Proofs.YtglmcknlnoknoaaGreatDoor
open Go.RowKit
theorem linesB_split : ∀ (l acc : List UInt8),∃ x t,splitL l = x :: t ∧ linesB l acc = (acc.reverse ++ x) :: t
 | [],acc=>⟨[],[],rfl,by simp [linesB]⟩
 | c :: r,acc=>by
  have hc : c = 10 ↔ c.toNat = 10:=u8_eq (n:=10) (by omega)
  by_cases h : c.toNat = 10
  ·obtain ⟨x,t,h1,h2⟩:=linesB_split r []
   refine ⟨[],splitL r,by rw [splitL,if_pos (hc.2 h)],?_⟩
   rw [linesB,if_pos h,h2,h1];simp
  ·obtain ⟨x,t,h1,h2⟩:=linesB_split r (c :: acc)
   refine ⟨c :: x,t,by rw [splitL,if_neg (fun e=>h (hc.1 e)),h1],?_⟩
   rw [linesB,if_neg h,h2];simp
theorem linesB_eq (l : List UInt8) : linesB l [] = splitL l:=by
 obtain ⟨x,t,h1,h2⟩:=linesB_split l []
 rw [h1,h2];rfl
theorem split_each : ∀ (l : List UInt8),(splitL l).length ≤ l.length + 1 ∧ ∀ x ∈ splitL l,x.length ≤ l.length
 | []=>by simp [splitL]
 | c :: r=>by
  obtain ⟨h1,h2⟩:=split_each r
  rw [splitL]
  split
  ·refine ⟨by simp;omega,fun x hx=>?_⟩
   rcases List.mem_cons.1 hx with rfl | hx
   ·simp
   ·have:=h2 x hx;simp;omega
  ·split
   ·exact ⟨by simp,by simp⟩
   ·rename_i x t hs
    rw [hs] at h1 h2
    refine ⟨by simp at h1 ⊢;omega,fun y hy=>?_⟩
    rcases List.mem_cons.1 hy with rfl | hy
    ·have:=h2 x (by simp);simp;omega
    ·have:=h2 y (List.mem_cons_of_mem _ hy);simp;omega
theorem rules_step {ns : List (List UInt8)} {ls : List (List UInt8)} {i : Nat} {l : List UInt8} {x y : RsP} (h : rulesGo ns (ls.drop i) x = some y) (hl : ls[i]? = some l) : ∃ z,ruleLine ns x l = some z ∧ rulesGo ns (ls.drop (i + 1)) z = some y:=by
 obtain ⟨hi,e⟩:=List.getElem?_eq_some_iff.1 hl
 rw [List.drop_eq_getElem_cons hi,e,rulesGo] at h
 split at h
 ·cases h
 ·rename_i z hz
  exact ⟨z,hz,h⟩
theorem rules_end {ns : List (List UInt8)} {ls : List (List UInt8)} {i : Nat} {x y : RsP} (h : rulesGo ns (ls.drop i) x = some y) (hi : ls.length ≤ i) : x = y:=by
 rw [List.drop_eq_nil_of_le hi,rulesGo] at h
 injection h
theorem rulesP_some {ns : List (List UInt8)} {l : List UInt8} {y : RsP} (h : rulesP ns l = some y) : l.length ≤ 16384 ∧ rulesGo ns (splitL l) ⟨[],true,false⟩ = some y:=by
 unfold rulesP at h
 split at h
 ·cases h
 ·rw [linesB_eq] at h
  exact ⟨by omega,h⟩
def RRx (w : World) (p B : Nat) (A : Option Addr) (nn cn : Nat) (names : List (List UInt8)) (x : RsP) : Prop:=∃ v,RR w p B A nn cn names x.rules v x.rest x.rested
def RuCell (w : World) (b : Nat) (v : Sv) (rest : Bool) : Prop:=w.cell? ⟨b,0,none⟩ = some (.slice v.1 v.2.1 v.2.2) ∧ w.cell? ⟨b,1,none⟩ = some (.bool rest)
set_option maxRecDepth 100000 in
theorem res_parse8 (w : World) (b : Nat) (v : Sv) (rest : Bool) (tmps : Array Value) (h4 : tmps.getD 4 undef = .pointer (some ⟨b,0,none⟩)) (h5 : tmps.getD 5 undef = .int .i64 0) (h6 : tmps.getD 6 undef = .int .i64 0) (hc : RuCell w b v rest) : (results Tryz.f98 tmps).run Tryz.prog w = .ok (.tuple #[valRs v rest,.int .i64 0,.int .i64 0]) w:=by
 have h4' : tmps[4]?.getD undef = .pointer (some ⟨b,0,none⟩):=by simpa [Array.getD_eq_getD_getElem?] using h4
 have h5' : tmps[5]?.getD undef = .int .i64 0:=by simpa [Array.getD_eq_getD_getElem?] using h5
 have h6' : tmps[6]?.getD undef = .int .i64 0:=by simpa [Array.getD_eq_getD_getElem?] using h6
 obtain ⟨h0,h1⟩:=hc
 simp [results,Tryz.results98,go_sem,h4',h5',h6',h0,h1,valRs]
set_option maxRecDepth 100000 in
set_option maxHeartbeats 8000000 in
theorem oParse_any (t : List UInt8) (A : Option Addr) (nn cn : Nat) (names : List (List UInt8)) (y : RsP) (w : World) (hA : Rd w 1 A (names.map encNm)) (hAl : ∀ x,A = some x → x.block < w.heap.size) (hl : names.length = nn) (hn : nmsOk names = true) (hP : rulesP names t = some y) :
  Calls Tryz.prog 98 #[.string (bytesOf t),.slice A nn cn] w fun e w'=>∃ v,e = .returned (.tuple #[valRs v y.rest,.int .i64 0,.int .i64 0]) ∧ RsX w' (fun b=>w.heap.size ≤ b) y.rules v ∧ Below w.heap.size w w':=by
 obtain ⟨hsz,hg⟩:=rulesP_some hP
 have hbs : (bytesOf t).size = t.length:=bytesOf_size t
 have HN:=Lib.hid (jNames_ok A nn cn names (w.alloc (.cells #[.slice none 0 0,.bool false] 110)) (hA.alloc _) hl hn)
 have HL:=Lib.hid (fun W=>oLines_any t W (by omega))
 have HE:=Lib.hid (split_each t)
 have HO:=Lib.hid (fun L p B x z W (h : RRx W p B A nn cn names x) (hL : L.length ≤ 16384) (hP : ruleLine names x L = some z)=>(by
  obtain ⟨v,hv⟩:=h
  exact (oline_any L p B A nn cn names x z v W hv hn hL hP).mono fun e w' he=>⟨he.1,by obtain ⟨v',h1,h2,h3⟩:=he.2;exact ⟨⟨v',h1⟩,h2,h3⟩⟩ : Calls Tryz.prog 154 #[.pointer (some ⟨p,0,none⟩),.string (bytesOf L)] W fun e w'=>e = .returned (.int .i64 0) ∧ RRx w' p B A nn cn names z ∧ Below p W w' ∧ ∀ i,i < B → i ≠ p → w'.heap[i]? = W.heap[i]?))
 have HG:=Lib.hid hg
 have HA:=Lib.hid hA
 have HAl:=Lib.hid hAl
 have Hl:=Lib.hid hl
 have h16 : ¬ 16384 < t.length:=by omega
 clear hA hAl hl hn hP hg
 go_enter Tryz.func98,Tryz.ntmps98
 go_wp2_with fail
 refine HN.out.mono ?_
 rintro e w1 ⟨rfl,q,rfl⟩
 have hB1 : Blk ((w.alloc (.cells #[.slice none 0 0,.bool false] 110)).drewN q) w.heap.size 110 #[.slice none 0 0,.bool false]:=(Blk.new w _ _).drewN q
 have hb1 : Below w.heap.size w ((w.alloc (.cells #[.slice none 0 0,.bool false] 110)).drewN q):=below_drewN ((Below.refl w.heap.size w).alloc (Nat.le_refl _) _) q
 have hz1 : ((w.alloc (.cells #[.slice none 0 0,.bool false] 110)).drewN q).heap.size = w.heap.size + 1:=by simp
 generalize (w.alloc (.cells #[.slice none 0 0,.bool false] 110)).drewN q = V at hB1 hb1 hz1 ⊢
 have hP2 : Blk (V.alloc (.cells #[.slice A nn cn,.slice none 0 0,.bool true,.bool false] 191)) V.heap.size 191 #[.slice A nn cn,.slice none 0 0,.bool true,.bool false]:=Blk.new _ _ _
 rw [hz1] at hP2
 have hB2:=hB1.alloc (.cells #[.slice A nn cn,.slice none 0 0,.bool true,.bool false] 191)
 have hb2:=hb1.alloc (by omega) (.cells #[.slice A nn cn,.slice none 0 0,.bool true,.bool false] 191)
 have hz2 : (V.alloc (.cells #[.slice A nn cn,.slice none 0 0,.bool true,.bool false] 191)).heap.size = w.heap.size + 2:=by simp;omega
 have HL2:=Lib.hid (HL.out (V.alloc (.cells #[.slice A nn cn,.slice none 0 0,.bool true,.bool false] 191)))
 clear HN HL hB1 hb1
 go_wp2_with fail
 refine HL2.out.mono ?_
 rintro e w3 ⟨AL,n,c,rfl,hol,hb3⟩
 have hP3:=hP2.below hb3
 have hB3:=hB2.below hb3
 have hbw3:=below_step hb2 hb3 (by omega)
 have hz3:=hb3.size
 have hnl : (splitL t).length = n:=by have:=hol.len;simpa using this
 have Hnl:=Lib.hid hnl
 have hnz : n ≤ 16385:=by have:=HE.out.1;omega
 have hRL:=hol.rd (by decide)
 have hAL : ∀ a,AL = some a → w.heap.size + 2 ≤ a.block ∧ a.block < w3.heap.size:=fun a ha=>by have:=hol.lt a ha;omega
 have hR3 : RRx w3 (w.heap.size + 1) w3.heap.size A nn cn names ⟨[],true,false⟩:=⟨(none,0,0),hP3,HA.out.below hbw3,Hl.out,fun x hx=>by have:=HAl.out x hx;omega,by omega,Nat.le_refl _,[],Own.nil_ _ _ _ _,rfl,fun i r u hr _=>by simp at hr⟩
 clear HL2 hP2 hB2 hb2 hb3 hP3 hnl hol hz1
 go_wp2_with fail
 go_loopw [9,10] (fun v9 _ wr=>∃ (i : Nat) (x : RsP),v9 = .int .i64 i ∧ i ≤ n ∧ RRx wr (w.heap.size + 1) w3.heap.size A nn cn names x ∧ Hid (rulesGo names ((splitL t).drop i) x = some y) ∧ Below (w.heap.size + 1) w3 wr ∧ ∀ k,k < w3.heap.size → k ≠ w.heap.size + 1 → wr.heap[k]? = w3.heap[k]?) (fun v9 _ _=>n - (intOf v9).toNat)
 case atStart=>exact ⟨0,⟨[],true,false⟩,rfl,by omega,hR3,HG,Below.refl _ _,fun _ _ _=>rfl⟩
 case round =>
  clear hR3
  obtain ⟨i,x,rfl,hi,hR,HGi,hbr,hkr⟩:=hrel
  have hRLr : Rd wr 1 AL ((splitL t).map encNm):=hRL.keep fun b off k u ha hc=>by
   have:=hAL _ ha
   rw [← hc]
   simp [World.cell?,hkr b this.2 (by simp only at this;omega)]
  by_cases hlt : i < n
  ·obtain ⟨l,Hl2⟩ : ∃ l,Hid ((splitL t)[i]? = some l):=⟨_,Lib.hid (List.getElem?_eq_getElem (by have:=Hnl.out;omega))⟩
   obtain ⟨z,hz,hgz⟩:=rules_step HGi.out Hl2.out
   obtain ⟨b,off,rfl,hc⟩:=hRLr.atS Hl2.out
   have HO2:=Lib.hid (HO.out l _ _ x z wr hR (by have:=HE.out.2 l (List.mem_of_getElem? Hl2.out);omega) hz)
   have HGz:=Lib.hid hgz
   clear hz hgz hRLr
   go_wp2_with fail
   refine HO2.out.mono ?_
   rintro e w5 ⟨rfl,hR5,hb5,hk5⟩
   have hbr5:=hbr.trans hb5
   have hkr5 : ∀ k,k < w3.heap.size → k ≠ w.heap.size + 1 → w5.heap[k]? = w3.heap[k]?:=fun k h1 h2=>(hk5 k h1 h2).trans (hkr k h1 h2)
   clear HO2 hR hb5 hk5 hbr hkr
   go_wp2
   go_roundw
   case rel=>exact ⟨i + 1,z,by go_num,by omega,hR5,HGz,hbr5,hkr5⟩
   case measure=>simp [intOf];omega
  ·obtain rfl : i = n:=by omega
   obtain rfl:=rules_end HGi.out (by have:=Hnl.out;omega)
   obtain ⟨v,hv⟩:=hR
   obtain ⟨A1,n1,c1'⟩:=v
   have c1:=hv.blk.cell 1
   have c2:=hv.blk.cell 2
   simp only [List.getElem?_toArray,List.getElem?_cons_succ,List.getElem?_cons_zero] at c1 c2
   have hB4 : Blk wr w.heap.size 110 #[.slice none 0 0,.bool false]:=(hbr.block _ (by omega)).trans hB3
   have z0:=hB4.cell 0
   have z1:=hB4.cell 1
   simp only [List.getElem?_toArray,List.getElem?_cons_succ,List.getElem?_cons_zero] at z0 z1
   have g0:=hB4.frozen 0
   have g1:=hB4.frozen 1
   have hk8 : wr.grownBy ((wr.setCell ⟨w.heap.size,0,none⟩ (.slice A1 n1 c1')).setCell ⟨w.heap.size,1,none⟩ (.bool x.rest)) (some w.heap.size):=only_setCell (only_setCell (only_refl _ _) (p:=⟨w.heap.size,0,none⟩) (.inl rfl) _) (p:=⟨w.heap.size,1,none⟩) (.inl rfl) _
   have hB8:=(hB4.set_ 0 (.slice A1 n1 c1')).set_ 1 (.bool x.rest)
   simp only [List.setIfInBounds_toArray,List.set_cons_zero,List.set_cons_succ] at hB8
   have HX : Hid (RsX ((wr.setCell ⟨w.heap.size,0,none⟩ (.slice A1 n1 c1')).setCell ⟨w.heap.size,1,none⟩ (.bool x.rest)) (fun b=>w.heap.size ≤ b) x.rules (A1,n1,c1')):=Lib.hid (by
    obtain ⟨vs,ho,hvs,hru⟩:=hv.ex
    have hx1 : RsX wr (fun b=>w.heap.size + 1 ≤ b) x.rules (A1,n1,c1'):=⟨vs,SlX.own ho (by decide) (fun a ha=>by have:=(ho.lt a ha).1;omega),hvs,fun i r u hr hu=>(hru i r u hr hu).keep (KeepX.same (fun b h _=>by have:=h.1;omega))⟩
    exact hx1.keep ((KeepX.grown hk8 (fun r hr h=>by injection hr with hr;subst hr;omega)).trans (KeepX.same (fun b h _=>by omega))))
   have HB:=Lib.hid ((hbw3.trans (hbr.mono (by omega))).trans (below_only hk8 (by have:=hbr.size;omega) (Nat.le_refl _)))
   have HC : Hid (RuCell ((wr.setCell ⟨w.heap.size,0,none⟩ (.slice A1 n1 c1')).setCell ⟨w.heap.size,1,none⟩ (.bool x.rest)) w.heap.size (A1,n1,c1') x.rest):=Lib.hid ⟨hB8.cell 0,hB8.cell 1⟩
   clear hk8 hB8 hB4 hbr hkr hRLr hv
   go_wp2
   refine bodyPost_ret (res_parse8 _ w.heap.size (A1,n1,c1') x.rest _ rfl rfl rfl HC.out) rfl ?_
   exact ⟨_,rfl,HX.out,HB.out⟩
set_option maxRecDepth 100000 in
set_option maxHeartbeats 4000000 in
theorem vNames_any (base p x : Nat) (N : List (List UInt8)) (S : List (List (Int × Int))) (w : World) (h : RfB w base p x N S) (hz : N.length ≤ 64) :
  Calls Tryz.prog 99 #[.pointer (some ⟨p,0,none⟩)] w fun e w'=>∃ A n c,e = .returned (.slice A n c) ∧ Own w' w.heap.size 9 1 A n c (N.map encNm) ∧ Below w.heap.size w w':=by
 obtain ⟨i0,hi0,hz0,hz1,hz2⟩:=info_parts info_cloneS
 obtain ⟨An,nn,cn,As,ns,cs,xs,hX⟩:=h.ex
 have hl:=hX.lenN
 have Hl:=Lib.hid hl
 have c0:=hX.blk.cell 0
 simp only [List.getElem?_toArray,List.getElem?_cons_zero] at c0
 have c0':=cell_alloc9 c0 (.cells #[] 9)
 have hA:=hX.hn.rd (by decide)
 have hnz : nn ≤ 64:=by omega
 clear h hX hl hz
 go_enter Tryz.func99,Tryz.ntmps99
 go_wp2_with (at_builtin;go_must (refine wpList_app rfl (.tmp 3) (.tmp 7) _ rfl w.heap.size 9 i0 _ 1 16 Tryz.underlying122 hi0 hz0 hz1 hz2 rfl (by omega) (some ⟨w.heap.size,0,none⟩) 0 0 [] rfl (Own.lit w w.heap.size 9 1 (Nat.le_refl _)) An nn cn (N.map encNm) rfl (by rw [List.length_map];exact Hl.out) (hA.alloc _) (encNm_ok N) (by unfold maxLen;omega) (by omega) (by simp) ?_);intro A3 c3 w3 ho3 hg3 hA3)
 go_ret
 rw [Nat.zero_add] at ho3
 exact ⟨A3,nn,c3,rfl,by simpa using ho3,below_app ((Below.refl _ _).alloc (Nat.le_refl _) _) hg3 (by simp) (fun a ha=>by injection ha with ha;subst ha;exact Nat.le_refl _)⟩
set_option maxRecDepth 100000 in
set_option maxHeartbeats 4000000 in
theorem bOf_any (t r : List UInt8) (d : DbP) (y : RsP) (w : World) (ht : t.length ≤ maxLen) (hd : newP t = .ok d) (hn : nmsOk d.names = true) (hr : rulesP d.names r = some y) :
  Calls Tryz.prog 80 #[.string (bytesOf t),.string (bytesOf r)] w fun e w'=>∃ pb,e = .returned (.pointer (some ⟨pb,0,none⟩)) ∧ BrkB w' w.heap.size pb d y.rules y.rest ∧ Below w.heap.size w w':=by
 have HNw:=vNew_any t w ht
 rw [hd] at HNw
 have HN:=Lib.hid HNw
 have HV:=Lib.hid (fun p x W (h : RfB W w.heap.size p x d.names d.full)=>vNames_any w.heap.size p x d.names d.full W h (nms_len hn))
 have HO:=Lib.hid (fun A nn cn W (hA : Rd W 1 A (d.names.map encNm)) (hAl : ∀ x,A = some x → x.block < W.heap.size) (hl : d.names.length = nn)=>oParse_any r A nn cn d.names y W hA hAl hl hn hr)
 clear HNw hd hn hr ht
 go_enter Tryz.func80,Tryz.ntmps80
 go_wp2_with fail
 refine HN.out.mono ?_
 rintro e w1 ⟨⟨p,x,rfl,hf⟩,hb1⟩
 have HV1:=Lib.hid (HV.out p x w1 hf)
 go_wp2_with fail
 refine HV1.out.mono ?_
 rintro e w2 ⟨A,nn,cn,rfl,ho2,hb2⟩
 have HO2:=Lib.hid (HO.out A nn cn w2 (ho2.rd (by decide)) (fun x hx=>(ho2.lt x hx).2) (by have:=ho2.len;simpa using this))
 have hf2:=hf.below hb2
 have hb12:=below_two hb1 hb2
 clear HV1 HV HO HN hf ho2
 go_wp2_with fail
 refine HO2.out.mono ?_
 rintro e w3 ⟨v,rfl,hx3,hb3⟩
 have hf3:=hf2.below hb3
 have hb13:=below_two hb12 hb3
 obtain ⟨A1,n1,c1⟩:=v
 simp only [valRs]
 clear HO2 hf2 hb12 hb1 hb2 hb3
 go_wp2
 go_ret
 have hal : Below w3.heap.size w3 (w3.alloc (.cells #[.slice A1 n1 c1,.bool y.rest] 110)):=(Below.refl _ _).alloc (Nat.le_refl _) _
 have hal2 : Below w3.heap.size w3 ((w3.alloc (.cells #[.slice A1 n1 c1,.bool y.rest] 110)).alloc (.cells #[.pointer (some ⟨p,0,none⟩),.slice A1 n1 c1,.bool y.rest] 112)):=hal.alloc (by simp) _
 refine ⟨_,rfl,⟨p,x,n1,c1,A1,_,?_,hf3.below hal2,hx3.below hal2⟩,below_two hb13 hal2⟩
 have:=Blk.new (w3.alloc (.cells #[.slice A1 n1 c1,.bool y.rest] 110)) 112 #[.pointer (some ⟨p,0,none⟩),.slice A1 n1 c1,.bool y.rest]
 simpa using this
end Go.Proofs.YtglmcknlnoknoaaGreatDoor
/- -/
namespace Go.Proofs.YtglmcknlnoknoaaGreatDoor
open Go.RowKit
set_option maxRecDepth 100000 in
theorem graphs_nms : nmsOk graphsD.names = true:=by kernel_rfl
set_option maxRecDepth 100000 in
set_option maxHeartbeats 4000000 in
theorem bNew_any (w : World) : Calls Tryz.prog 18 #[] w fun e w'=>∃ pb,e = .returned (.pointer (some ⟨pb,0,none⟩)) ∧ BrkB w' w.heap.size pb graphsD rulesG true ∧ Below w.heap.size w w':=by
 go_enter Tryz.func18,Tryz.ntmps18
 generalize hT : ByteArray.mk _ = T
 generalize hR : ByteArray.mk _ = R
 have HN : newP T.data.toList = .ok graphsD:=by rw [← hT];exact new_K (by kernel_rfl) (by kernel_rfl)
 have hTl : T.data.toList.length ≤ maxLen:=by rw [← hT];exact of_decide_eq_true (by kernel_rfl)
 have HR : rulesP graphsD.names R.data.toList = some ⟨rulesG,true,false⟩:=by rw [← hR];kernel_rfl
 clear hT hR
 have HC:=bOf_any T.data.toList R.data.toList graphsD ⟨rulesG,true,false⟩ w hTl HN graphs_nms HR
 rw [show bytesOf T.data.toList = T from bytesOf_data T,show bytesOf R.data.toList = R from bytesOf_data R] at HC
 replace HC:=Lib.hid HC
 clear HN hTl HR
 go_wp2_with fail
 refine HC.out.mono ?_
 rintro e w1 ⟨pb,rfl,hb,hb1⟩
 go_wp2
 go_ret
 exact ⟨pb,rfl,hb,hb1⟩
end Go.Proofs.YtglmcknlnoknoaaGreatDoor
/- -/
namespace Go.Proofs.YtglmcknlnoknoaaGreatDoor
open Go.RowKit
end Go.Proofs.YtglmcknlnoknoaaGreatDoor
/- -/
namespace Go.Proofs.YtglmcknlnoknoaaGreatDoor
open Go.RowKit
def isE (s : ByteArray) (z : Int) : Bool:=if z < 0 ∨ (s.size : Int) < z then false else edgeB s z.toNat
set_option maxRecDepth 100000 in
set_option maxHeartbeats 1000000 in
theorem uIsZ_any (s : ByteArray) (z : Int) (w : World) (hT : Tabs w) (hs : s.size ≤ 1000000) :
  Calls Tryz.prog 19 #[.string s,.int .i64 z] w fun e w'=>e = .returned (.bool (isE s z)) ∧ Below w.heap.size w w':=by
 by_cases h0 : z < 0
 ·have HV : Hid (isE s z = false):=Lib.hid (if_pos (.inl h0))
  go_enter Tryz.func19,Tryz.ntmps19
  go_wp2
  go_ret
  exact ⟨by rw [HV.out];rfl,Below.refl _ _⟩
 by_cases h1 : (s.size : Int) < z
 ·have HV : Hid (isE s z = false):=Lib.hid (if_pos (.inr h1))
  have h2 : z > (s.size : Int):=h1
  go_enter Tryz.func19,Tryz.ntmps19
  go_wp2
  go_ret
  exact ⟨by rw [HV.out];rfl,Below.refl _ _⟩
 obtain ⟨k,rfl⟩ : ∃ k : Nat,z = k:=⟨z.toNat,by omega⟩
 have HV : isE s k = edgeB s k:=by unfold isE;rw [if_neg (by omega)];rfl
 rw [HV]
 exact uIs_any s k w hT (by omega) hs
set_option maxHeartbeats 1000000 in
theorem uDecode_any (s : ByteArray) (w : World) (hT : Tabs w) (h0 : 0 < s.size) :
  Calls Tryz.prog 72 #[.string s] w fun e w'=>e = .returned (.tuple #[.int .i32 ((Utf8.decode s 0).1 : Nat),.int .i64 ((Utf8.decode s 0).2 : Nat)]) ∧ Below w.heap.size w w':=by
 have HC:=lDecode_any s 0 w hT (by omega)
 have hx : s.extract 0 s.size = s:=by simp
 have hr : runeAt s 0 = Utf8.decode s 0:=by unfold runeAt;rw [if_pos h0]
 rw [hx,hr] at HC
 replace HC:=Lib.hid HC
 have hem : s.toList.isEmpty = false:=by
  rw [ByteArray.toList_eq]
  cases hq : s.data.toList with
  | nil=>rw [← size_data,hq] at h0;simp at h0
  | cons a b=>rfl
 generalize Utf8.decode s 0 = r at HC ⊢
 clear hr hx
 go_enter Tryz.func72,Tryz.ntmps72
 go_wp2_with fail
 refine HC.out.mono ?_
 rintro e w1 ⟨rfl,hb⟩
 go_wp2
 go_ret2
 exact ⟨rfl,hb⟩
end Go.Proofs.YtglmcknlnoknoaaGreatDoor
/- -/
namespace Go.Proofs.YtglmcknlnoknoaaGreatDoor
def safeP (s : ByteArray) (z : Int) : Bool :=
 if (!isE s z || decide (s.size = 0)) = true then false else safeC (ofC graphsD (s.extract 0 z.toNat)) (ofC graphsD (s.extract z.toNat s.size))
def backD (C : List Nat) (v k : Nat) : Bool:=!((C.take k).reverse.dropWhile fun x=>x == v).isEmpty
theorem backD_zero (C : List Nat) (v : Nat) : backD C v 0 = false:=by simp [backD]
theorem backD_step {C : List Nat} {v j y : Nat} (h : C[j]? = some y) : backD C v (j + 1) = if ((y : Int) == (v : Int)) = true then backD C v j else true:=by
 unfold backD
 rw [List.take_add_one,h]
 simp only [Option.toList_some,List.reverse_append,List.reverse_singleton,List.singleton_append,List.dropWhile_cons]
 by_cases e : y = v
 ·subst e;simp
 ·rw [if_neg (by simpa using e),if_neg (by rw [beq_iff_eq];omega)];rfl
theorem safe_first (q : Nat) (r : List Nat) : safeC [] (q :: r) = ((q : Int) == 1 || (q : Int) == 3):=by
 simp only [safeC,List.reverse_nil]
 rw [Bool.eq_iff_iff]
 simp only [Bool.or_eq_true,beq_iff_eq]
 omega
theorem safe_last (C : List Nat) (p : Nat) : safeC (C ++ [p]) [] = ((p : Int) == 2 || (p : Int) == 3):=by
 simp only [safeC,List.reverse_append,List.reverse_singleton,List.singleton_append]
 rw [Bool.eq_iff_iff]
 simp only [Bool.or_eq_true,beq_iff_eq]
 omega
theorem safe_mid {C : List Nat} {m p q : Nat} (r : List Nat) (hm : C.length = m + 1) (hp : C[m]? = some p) :
  safeC C (q :: r) = if (endG p || endG q) = true then true else if ((p : Int) == 5 && (q : Int) == 12) = true then backD C 4 m else if ((p : Int) == 13 && (q : Int) == 13) = true then backD C 13 (m + 1) else true:=by
 have e : C = C.take m ++ [p]:=by
  have:=List.take_add_one (l:=C) (i:=m)
  rw [hp,List.take_of_length_le (by omega)] at this
  exact this
 have e2 : C.reverse = p :: (C.take m).reverse:=by rw [e];simp [List.length_take,hm]
 unfold safeC
 rw [e2]
 simp only
 by_cases h1 : (endG p || endG q) = true
 ·rw [if_pos h1,if_pos h1]
 rw [if_neg h1,if_neg h1]
 by_cases h2 : p = 5 ∧ q = 12
 ·have k2 : ((p : Int) == 5 && (q : Int) == 12) = true:=by rw [Bool.and_eq_true,beq_iff_eq,beq_iff_eq];omega
  rw [if_pos h2,k2]
  rfl
 have k2 : ((p : Int) == 5 && (q : Int) == 12) = false:=by
  rw [Bool.eq_false_iff,ne_eq,Bool.and_eq_true,beq_iff_eq,beq_iff_eq];omega
 rw [if_neg h2,k2]
 by_cases h3 : p = 13 ∧ q = 13
 ·have k3 : ((p : Int) == 13 && (q : Int) == 13) = true:=by rw [Bool.and_eq_true,beq_iff_eq,beq_iff_eq];omega
  rw [if_pos h3,k3]
  show _ = backD C 13 (m + 1)
  unfold backD
  rw [← hm,List.take_length,e2]
 have k3 : ((p : Int) == 13 && (q : Int) == 13) = false:=by
  rw [Bool.eq_false_iff,ne_eq,Bool.and_eq_true,beq_iff_eq,beq_iff_eq];omega
 rw [if_neg h3,k3]
 rfl
theorem safe_mid' {C : List Nat} {m p q : Nat} (r : List Nat) (hm : C.length = m + 1) (hp : C[m]? = some p) (hp14 : p < 14) (hq14 : q < 14) :
  safeC C (q :: r) = if joinG p q = true then true else if ((p : Int) == 5 && (q : Int) == 12) = true then backD C 4 m else if ((p : Int) == 13 && (q : Int) == 13) = true then backD C 13 (m + 1) else true:=by
 rw [safe_mid r hm hp]
 have h : ∀ p : Nat,p < 14 → ∀ q : Nat,q < 14 → (((p : Int) == 5 && (q : Int) == 12) = true ∨ ((p : Int) == 13 && (q : Int) == 13) = true) → (endG p || endG q) = false ∧ joinG p q = false:=by decide
 by_cases hc : ((p : Int) == 5 && (q : Int) == 12) = true ∨ ((p : Int) == 13 && (q : Int) == 13) = true
 ·obtain ⟨h1,h2⟩:=h p hp14 q hq14 hc
  rw [h1,h2]
 ·rw [not_or] at hc
  rw [if_neg hc.1,if_neg hc.2]
  split <;> split <;> rfl
theorem cls_first {d : DbP} {s : ByteArray} (h : 0 < s.size) : ∃ r,ofC d s = d.get ((Utf8.decode s 0).1 : Nat) :: r:=by
 unfold ofC
 obtain ⟨g,hg,hk⟩:=runesGo_step (s:=s) (f:=s.size) (a:=0) h (by omega)
 unfold runesP
 rw [hk]
 exact ⟨_,rfl⟩
theorem cls_none {d : DbP} {s : ByteArray} (h : s.size = 0) : ofC d s = []:=by
 unfold ofC runesP
 rw [runesGo_end (by omega)];rfl
theorem cls_last {d : DbP} {s : ByteArray} (h : 0 < s.size) : ∃ C,ofC d s = C ++ [d.get ((Lib.decodeLastL s.data.toList).1 : Nat)]:=by
 have hr:=runesP_contig s
 have hne : runesP s ≠ []:=fun e=>by rw [e] at hr;have : 0 = s.size:=hr;omega
 obtain ⟨L,x,e⟩ : ∃ L x,runesP s = L ++ [x]:=by
  rcases List.eq_nil_or_concat (runesP s) with h1 | ⟨L,x,h1⟩
  ·exact absurd h1 hne
  ·exact ⟨L,x,by rw [h1,List.concat_eq_append]⟩
 have hz : x.2.2 = s.size:=by
  have h2 : ∀ (L : List (Nat × Nat × Nat)) (q : Nat),Contig q (L ++ [x]) s.size → x.2.2 = s.size:=fun L=>by
   induction L with
   | nil=>intro q h;exact h.2.2
   | cons a L ih=>intro q h;exact ih _ h.2.2
  rw [e] at hr
  exact h2 L 0 hr
 have hl:=last_rune s (x:=x) (by rw [e];simp) hz
 refine ⟨L.map fun x=>d.get (x.1 : Int),?_⟩
 unfold ofC
 rw [e,hl,List.map_append]
 rfl
theorem isE_in {s : ByteArray} {z : Int} (h : isE s z = true) : ∃ k : Nat,z = k ∧ k ≤ s.size ∧ PlaceAt s k:=by
 unfold isE at h
 split at h
 ·cases h
 ·rename_i hn
  rw [not_or] at hn
  refine ⟨z.toNat,by omega,by omega,?_⟩
  exact (edge_iff s (by omega)).1 h
end Go.Proofs.YtglmcknlnoknoaaGreatDoor
/- -/
namespace Go.Proofs.YtglmcknlnoknoaaGreatDoor
open Go.RowKit
end Go.Proofs.YtglmcknlnoknoaaGreatDoor
/- -/
namespace Go.Proofs.YtglmcknlnoknoaaGreatDoor
open Go.RowKit
end Go.Proofs.YtglmcknlnoknoaaGreatDoor
/- -/
namespace Go.Proofs.YtglmcknlnoknoaaGreatDoor
open Go.RowKit
def hasL (L : List Nat) (x : Int) : Bool:=(L.map fun (a : Nat)=>(a : Int)).contains x
theorem hasL_step {L : List Nat} {x : Int} {i y : Nat} (h : L[i]? = some y) : hasL (L.take (i + 1)) x = (hasL (L.take i) x || ((y : Int) == x)):=by
 unfold hasL
 rw [List.take_add_one,h,Option.toList_some,List.map_append,List.map_cons,List.map_nil,List.contains_eq_any_beq,List.contains_eq_any_beq,List.any_append,List.any_cons,List.any_nil,Bool.or_false,Bool.beq_comm]
end Go.Proofs.YtglmcknlnoknoaaGreatDoor
/- -/
namespace Go.Proofs.YtglmcknlnoknoaaGreatDoor
open Go.RowKit
theorem hasL_iff {L : List Nat} {z : Int} : hasL L z = true ↔ ∃ a ∈ L,(a : Int) = z:=by
 unfold hasL
 rw [List.contains_iff_mem,List.mem_map]
theorem isE_has (s : ByteArray) (z : Int) : isE s z = hasL (edgesP s) z:=by
 have hm : ∀ a,a ∈ edgesP s ↔ PlaceAt s a:=fun a=>by
  unfold edgesP PlaceAt
  rw [List.mem_append,List.mem_map,List.mem_singleton]
  exact Or.comm
 rw [Bool.eq_iff_iff,hasL_iff]
 unfold isE
 by_cases h : z < 0 ∨ (s.size : Int) < z
 ·rw [if_pos h]
  refine ⟨fun e=>by simp at e,?_⟩
  rintro ⟨a,ha,rfl⟩
  have:=((hm a).1 ha).le
  omega
 ·rw [if_neg h,edge_iff s (by omega),← hm]
  constructor
  ·intro h2;exact ⟨z.toNat,h2,by omega⟩
  ·rintro ⟨a,ha,rfl⟩;exact ha
theorem edgesP_len (s : ByteArray) : (edgesP s).length ≤ s.size + 1:=by
 unfold edgesP
 rw [List.length_append,List.length_map,List.length_singleton]
 have:=runesP_len s
 omega
set_option maxRecDepth 100000 in
set_option maxHeartbeats 2000000 in
theorem tIs_any (s : ByteArray) (x : Int) (w : World) (hs : s.size ≤ 1000000) :
  Calls Tryz.prog 77 #[.string s,.int .i64 x] w fun e w'=>e = .returned (.bool (isE s x)) ∧ Below w.heap.size w w':=by
 rw [isE_has]
 have HB:=Lib.hid (tEdges_any s w hs)
 have hL:=edgesP_len s
 generalize edgesP s = L at HB hL ⊢
 have HS:=Lib.hid (fun i y (h : L[i]? = some y)=>hasL_step (x:=x) h)
 go_enter Tryz.func77,Tryz.ntmps77
 go_wp2_with fail
 refine HB.out.mono ?_
 rintro e w1 ⟨A,n,c,rfl,ho,hb1⟩
 obtain rfl : L.length = n:=by have:=ho.len;simpa using this
 have rd:=ho.rd (by decide)
 clear HB ho
 go_wp2_with fail
 go_loopw [6] (fun v wr=>∃ i : Nat,v = .int .i64 i ∧ i ≤ L.length ∧ wr = w1 ∧ Hid (hasL (L.take i) x = false)) (fun v _=>L.length - (intOf v).toNat)
 case atStart=>exact ⟨0,rfl,by omega,rfl,Lib.hid rfl⟩
 case round =>
  obtain ⟨i,rfl,hi,rfl,HF⟩:=hrel
  by_cases hlt : i < L.length
  ·obtain ⟨y,Hy⟩ : ∃ y,Hid (L[i]? = some y):=⟨_,Lib.hid (List.getElem?_eq_getElem hlt)⟩
   obtain ⟨b,off,rfl,cy⟩:=rd.atP' Hy.out
   have HN:=Lib.hid (HS.out i y Hy.out)
   cases q : ((y : Int) == x) with
   | true =>
    have HV : Hid (hasL L x = true):=Lib.hid (hasL_iff.2 ⟨y,List.mem_of_getElem? Hy.out,by simpa using q⟩)
    go_wp2
    go_ret
    exact ⟨by rw [HV.out];rfl,hb1⟩
   | false =>
    have HN2 : Hid (hasL (L.take (i + 1)) x = false):=Lib.hid (by rw [HN.out,HF.out,q];rfl)
    go_wp2
    go_roundw
    case rel=>exact ⟨i + 1,by go_num,by omega,by first | rfl | trivial,HN2⟩
    case measure=>simp [intOf];omega
  ·have HV : Hid (hasL L x = false):=Lib.hid (by rw [← HF.out,List.take_of_length_le (by omega)])
   go_wp2
   go_ret
   exact ⟨by rw [HV.out];rfl,hb1⟩
end Go.Proofs.YtglmcknlnoknoaaGreatDoor
/- -/
namespace Go.Proofs.YtglmcknlnoknoaaGreatDoor
open Go.RowKit
end Go.Proofs.YtglmcknlnoknoaaGreatDoor
/- -/
namespace Go.Proofs.YtglmcknlnoknoaaGreatDoor
open Go.RowKit
set_option maxHeartbeats 400000 in
theorem bends_any (c : Nat) (w : World) : Calls Tryz.prog 79 #[.int .i64 (c : Nat)] w fun e w'=>e = .returned (.bool (endG c)) ∧ w = w':=by
 rcases (by omega : c = 1 ∨ c = 2 ∨ c = 3 ∨ (c ≠ 1 ∧ c ≠ 2 ∧ c ≠ 3)) with rfl | rfl | rfl | ⟨h1,h2,h3⟩
 iterate 3
  ·go_enter Tryz.func79,Tryz.ntmps79
   go_wp2
   go_ret
   exact ⟨rfl,rfl⟩
 ·have HV : Hid (endG c = false):=Lib.hid (by simp [endG,h1,h2,h3])
  have e1 : ((c : Int) == 1) = false:=beq_eq_false_iff_ne.2 (by omega)
  have e2 : ((c : Int) == 2) = false:=beq_eq_false_iff_ne.2 (by omega)
  have e3 : ((c : Int) == 3) = false:=beq_eq_false_iff_ne.2 (by omega)
  clear h1 h2 h3
  go_enter Tryz.func79,Tryz.ntmps79
  go_wp2
  go_ret
  exact ⟨by rw [HV.out];rfl,rfl⟩
set_option maxRecDepth 100000 in
set_option maxHeartbeats 4000000 in
theorem bSafe_any (base pb : Nat) (s : ByteArray) (z : Int) (w : World) (hB : BrkB w base pb graphsD rulesG true) (hs : s.size ≤ 1000000) :
  Calls Tryz.prog 17 #[.pointer (some ⟨pb,0,none⟩),.string s,.int .i64 z] w fun e w'=>e = .returned (.bool (safeP s z)) ∧ Below w.heap.size w w':=by
 have HI:=Lib.hid (tIs_any s z w hs)
 cases hq : isE s z with
 | false =>
  have HV : Hid (safeP s z = false):=Lib.hid (by unfold safeP;rw [hq];rfl)
  rw [hq] at HI
  clear hq
  go_enter Tryz.func17,Tryz.ntmps17
  go_wp2_with fail
  refine HI.out.mono ?_
  rintro e w1 ⟨rfl,hb1⟩
  go_wp2
  go_ret
  exact ⟨by rw [HV.out];rfl,hb1⟩
 | true =>
 rw [hq] at HI
 by_cases h0 : s.size = 0
 ·have HV : Hid (safeP s z = false):=Lib.hid (by unfold safeP;rw [hq,decide_eq_true h0];rfl)
  have t0 : ((s.size : Int) == 0) = true:=by rw [h0];rfl
  clear hq h0
  go_enter Tryz.func17,Tryz.ntmps17
  go_wp2_with fail
  refine HI.out.mono ?_
  rintro e w1 ⟨rfl,hb1⟩
  go_wp2
  go_ret
  exact ⟨by rw [HV.out];rfl,hb1⟩
 have t0 : ((s.size : Int) == 0) = false:=beq_eq_false_iff_ne.2 (by omega)
 obtain ⟨a,rfl,has,_⟩:=isE_in hq
 have HV : Hid (safeP s a = safeC (ofC graphsD (s.extract 0 a)) (ofC graphsD (s.extract a s.size))):=Lib.hid (by unfold safeP;rw [hq,decide_eq_false h0];rfl)
 obtain ⟨p,xx,n,c,A,X,hb,hd,_⟩:=hB.ex
 have HO1:=Lib.hid (fun W (h : Below w.heap.size w W)=>vOf_any base p xx graphsD (s.extract 0 a) W (hd.below h) graphsOk.1 graphsOk.2.1 (by rw [ByteArray.size_extract];omega))
 have HO2:=Lib.hid (fun W (h : Below w.heap.size w W)=>vOf_any base p xx graphsD (s.extract a s.size) W (hd.below h) graphsOk.1 graphsOk.2.1 (by rw [ByteArray.size_extract];omega))
 have hl : ∀ t : ByteArray,(ofC graphsD t).length ≤ t.size:=fun t=>by unfold ofC;rw [List.length_map];exact runesP_len t
 have hC1 : (ofC graphsD (s.extract 0 a)).length ≤ 1000000:=by have:=hl (s.extract 0 a);rw [ByteArray.size_extract] at this;omega
 have hC2 : (ofC graphsD (s.extract a s.size)).length ≤ 1000000:=by have:=hl (s.extract a s.size);rw [ByteArray.size_extract] at this;omega
 have HBe : Hid (ofC graphsD (s.extract 0 a) = [] → ∃ q r,ofC graphsD (s.extract a s.size) = q :: r):=Lib.hid (fun h=>by
  rcases Nat.eq_zero_or_pos a with h1 | h1
  ·subst h1
   obtain ⟨r,hr⟩:=cls_first (d:=graphsD) (s:=s.extract 0 s.size) (by rw [ByteArray.size_extract];omega)
   exact ⟨_,r,hr⟩
  ·obtain ⟨r,hr⟩:=cls_first (d:=graphsD) (s:=s.extract 0 a) (by rw [ByteArray.size_extract];omega)
   rw [hr] at h;cases h)
 generalize ofC graphsD (s.extract 0 a) = C at HV HO1 hC1 HBe
 generalize ofC graphsD (s.extract a s.size) = B at HV HO2 hC2 HBe
 have d0:=hb.cell 0
 simp only [List.getElem?_toArray,List.getElem?_cons_zero] at d0
 have ha0 : (0 : Int) ≤ (a : Int):=by omega
 have ha1 : (a : Int) ≤ (s.size : Int):=by omega
 have HEnd:=Lib.hid (fun c W=>bends_any c W)
 clear hq h0 hB hb hd hl
 go_enter Tryz.func17,Tryz.ntmps17
 go_wp2_with fail
 refine HI.out.mono ?_
 rintro e w1 ⟨rfl,hb1⟩
 have c0:=cell_keep d0 hb1
 clear HI
 go_upto_region 3 with fail
 go_region_held3 (fun W=>W.cell? ⟨pb,0,none⟩ = some (.pointer (some ⟨p,0,none⟩)) ∧ Below w.heap.size w W)
  (first | exact ⟨ka,Ba⟩ | exact ⟨c0,hb1⟩ | exact ⟨c0,below_drewN hb1 1⟩)
  (first | (go_at_call 78;go_split_ands;refine (HO1.out _ (by assumption)).mono ?_;rintro e wa ⟨A1,n1,c1,rfl,ho1,hba⟩;have Ba:=below_two (by assumption) hba;have ka:=cell_keep d0 Ba))
 obtain rfl : C.length = n1:=by have:=ho1.len;simpa using this
 go_upto_region 4 with fail
 go_region_held3 (fun W=>W.cell? ⟨pb,0,none⟩ = some (.pointer (some ⟨p,0,none⟩)) ∧ Below w.heap.size w W ∧ Below wa.heap.size wa W)
  (first | exact ⟨kb,Bb,hab⟩ | exact ⟨ka,Ba,Below.refl _ _⟩ | exact ⟨ka,below_drewN Ba 1,below_drewN (Below.refl _ _) 1⟩)
  (first | (go_at_call 78;go_split_ands;refine (HO2.out _ (by assumption)).mono ?_;rintro e wb ⟨A2,n2,c2,rfl,ho2,hbb⟩;have Bb : Below w.heap.size w wb:=below_two (by assumption) hbb;have hab : Below wa.heap.size wa wb:=below_two (by assumption) hbb;have kb:=cell_keep d0 Bb))
 obtain rfl : B.length = n2:=by have:=ho2.len;simpa using this
 have rdC:=(ho1.rd (by decide)).below hab
 have rdB:=ho2.rd (by decide)
 clear ho1 ho2 HO1 HO2 hab ka kb d0 c0
 by_cases hC0 : C.length = 0
 ·have t1 : ((C.length : Int) == 0) = true:=by rw [hC0];rfl
  have hCn : C = []:=List.eq_nil_of_length_eq_zero hC0
  obtain ⟨q,r,hBq⟩:=HBe.out hCn
  have HV2 : Hid (safeP s a = ((q : Int) == 1 || (q : Int) == 3)):=Lib.hid (by rw [HV.out,hCn,hBq];exact safe_first q r)
  obtain ⟨bk,off,rfl,cy⟩:=rdB.atP' (k:=0) (x:=q) (by rw [hBq];rfl)
  have hbl : 0 < B.length:=by rw [hBq];simp
  simp only [Nat.add_zero] at cy
  generalize B.length = nB at hbl
  generalize C.length = nC at t1
  have hbl2 : (0 : Int) < (nB : Int):=by omega
  clear hCn hBq hC0 HV HBe rdB rdC
  cases q1 : ((q : Int) == 1) with
  | true =>
   go_wp2
   go_ret
   exact ⟨by rw [HV2.out,q1];rfl,Bb⟩
  | false =>
   cases q3 : ((q : Int) == 3) with
   | true =>
    go_wp2
    go_ret
    exact ⟨by rw [HV2.out,q1,q3];rfl,Bb⟩
   | false =>
    go_wp2
    go_ret
    exact ⟨by rw [HV2.out,q1,q3];rfl,Bb⟩
 have t1 : ((C.length : Int) == 0) = false:=beq_eq_false_iff_ne.2 (by omega)
 obtain ⟨m,hm⟩ : ∃ m,C.length = m + 1:=⟨C.length - 1,by omega⟩
 obtain ⟨y,Hy⟩ : ∃ y,Hid (C[m]? = some y):=⟨_,Lib.hid (List.getElem?_eq_getElem (by omega))⟩
 obtain ⟨bk,off,rfl,cy⟩:=rdC.atP' Hy.out
 have HRC:=Lib.hid rdC
 have HM:=Lib.hid hm
 have em : (C.length : Int) - 1 = (m : Int):=by omega
 have em2 : IntKind.i64.wrap ((C.length : Int) - 1) = (m : Int):=by rw [em];exact IntWalk.i64_in _ (by omega)
 have hmC : m < C.length:=by omega
 have hmC2 : (m : Int) < (C.length : Int):=by omega
 have hm0 : (0 : Int) ≤ (m : Int):=by omega
 have HS:=Lib.hid (fun v j x (h : C[j]? = some x)=>backD_step (v:=v) h)
 have hmz : m ≤ 1000000:=by omega
 clear hm hC0 HBe rdC
 generalize hnC : C.length = nC at t1 em em2 hmC hmC2 hC1
 have HnC:=Lib.hid hnC
 clear hnC
 by_cases hB0 : B.length = 0
 ·have t2 : ((B.length : Int) == 0) = true:=by rw [hB0];rfl
  have HV2 : Hid (safeP s a = ((y : Int) == 2 || (y : Int) == 3)):=Lib.hid (by
   have e : C = C.take m ++ [y]:=by
    have:=List.take_add_one (l:=C) (i:=m)
    rw [Hy.out,List.take_of_length_le (by have:=HM.out;omega)] at this
    exact this
   rw [HV.out,List.eq_nil_of_length_eq_zero hB0,e];exact safe_last _ y)
  generalize B.length = nB at t2
  clear hB0 HV rdB
  cases q1 : ((y : Int) == 2) with
  | true =>
   go_wp2
   go_ret
   exact ⟨by rw [HV2.out,q1];rfl,Bb⟩
  | false =>
   cases q3 : ((y : Int) == 3) with
   | true =>
    go_wp2
    go_ret
    exact ⟨by rw [HV2.out,q1,q3];rfl,Bb⟩
   | false =>
    go_wp2
    go_ret
    exact ⟨by rw [HV2.out,q1,q3];rfl,Bb⟩
 have t2 : ((B.length : Int) == 0) = false:=beq_eq_false_iff_ne.2 (by omega)
 obtain ⟨q,r,hBq⟩ : ∃ q r,B = q :: r:=by
  cases B with
  | nil=>exact absurd rfl hB0
  | cons q r=>exact ⟨q,r,rfl⟩
 obtain ⟨bk2,off2,rfl,cq⟩:=rdB.atP' (k:=0) (x:=q) (by rw [hBq];rfl)
 simp only [Nat.add_zero] at cq
 have HV2 : Hid (safeP s a = if (endG y || endG q) = true then true else if ((y : Int) == 5 && (q : Int) == 12) = true then backD C 4 m else if ((y : Int) == 13 && (q : Int) == 13) = true then backD C 13 (m + 1) else true):=Lib.hid (by rw [HV.out,hBq];exact safe_mid r HM.out Hy.out)
 have hbl : 0 < B.length:=by omega
 generalize B.length = nB at t2 hbl
 have hbl2 : (0 : Int) < (nB : Int):=by omega
 clear hBq hB0 HV rdB
 have HE1:=Lib.hid (fun W=>HEnd.out y W)
 have HE2:=Lib.hid (fun W=>HEnd.out q W)
 cases ey : endG y with
 | true =>
  rw [ey] at HE1
  have HV3 : Hid (safeP s a = true):=Lib.hid (by rw [HV2.out,ey];rfl)
  clear HV2
  go_wp2_with (first | (go_at_call 79;refine (HE1.out _).mono ?_;rintro e w5 ⟨rfl,rfl⟩))
  go_ret
  exact ⟨by rw [HV3.out];rfl,Bb⟩
 | false =>
 rw [ey] at HE1
 cases eq : endG q with
 | true =>
  rw [eq] at HE2
  have HV3 : Hid (safeP s a = true):=Lib.hid (by rw [HV2.out,ey,eq];rfl)
  clear HV2
  go_wp2_with fail
  refine (HE1.out _).mono ?_
  rintro e w5 ⟨rfl,rfl⟩
  go_wp2_with fail
  refine (HE2.out _).mono ?_
  rintro e w5 ⟨rfl,rfl⟩
  go_wp2
  go_ret
  exact ⟨by rw [HV3.out];rfl,Bb⟩
 | false =>
 rw [eq] at HE2
 rw [ey,eq,if_neg (by decide)] at HV2
 clear ey eq
 cases k5 : ((y : Int) == 5 && (q : Int) == 12) with
 | true =>
  have HV3 : Hid (safeP s a = backD C 4 m):=Lib.hid (by rw [HV2.out,k5];rfl)
  rw [Bool.and_eq_true] at k5
  obtain ⟨k5a,k5b⟩:=k5
  have em3 : (nC : Int) - 2 = (m : Int) - 1:=by omega
  have em4 : IntKind.i64.wrap ((nC : Int) - 2) = (m : Int) - 1:=by rw [em3];exact IntWalk.i64_in _ (by omega)
  clear HV2
  go_wp2_with fail
  refine (HE1.out _).mono ?_
  rintro e w5 ⟨rfl,rfl⟩
  go_wp2_with fail
  refine (HE2.out _).mono ?_
  rintro e w5 ⟨rfl,rfl⟩
  go_wp2_with fail
  go_loopw [12] (fun v wr=>∃ k : Nat,v = .int .i64 ((k : Int) - 1) ∧ k ≤ m ∧ wr = wb ∧ Hid (backD C 4 m = backD C 4 k)) (fun v _=>((intOf v) + 1).toNat)
  case atStart=>exact ⟨m,by first | rfl | (rw [em3];rfl),Nat.le_refl _,rfl,Lib.hid rfl⟩
  case round =>
   obtain ⟨k,rfl,hk,rfl,HK⟩:=hrel
   by_cases hk0 : k = 0
   ·have HV4 : Hid (safeP s a = false):=Lib.hid (by rw [HV3.out,HK.out,hk0,backD_zero])
    have g0 : ¬ ((k : Int) - 1 ≥ 0):=by omega
    clear hk0
    go_wp2
    go_ret
    exact ⟨by rw [HV4.out];rfl,Bb⟩
   obtain ⟨j,hj⟩ : ∃ j,k = j + 1:=⟨k - 1,by omega⟩
   have e1 : (k : Int) - 1 = (j : Int):=by omega
   rw [e1]
   have hjn : j < nC:=by omega
   obtain ⟨x,Hx⟩ : ∃ x,Hid (C[j]? = some x):=⟨_,Lib.hid (List.getElem?_eq_getElem (by rw [HnC.out];exact hjn))⟩
   obtain ⟨bk3,off3,e2,cx⟩:=HRC.out.atP' Hx.out
   injection e2 with e2
   injection e2 with e2 e3
   subst e2 e3
   have HN:=Lib.hid (HS.out 4 j x Hx.out)
   have HJ:=Lib.hid hj
   rw [hj] at HK
   have hj0 : (0 : Int) ≤ (j : Int):=by omega
   have hjm : (j : Int) < (nC : Int):=by omega
   have hjg : (j : Int) ≥ 0:=hj0
   clear hj e1 hk0
   cases q1 : ((x : Int) == 4) with
   | true =>
    have HK2 : Hid (backD C 4 m = backD C 4 j):=Lib.hid (by rw [HK.out,HN.out];exact if_pos q1)
    go_wp2
    go_roundw
    case rel=>exact ⟨j,by go_num,by have:=HJ.out;omega,by first | rfl | trivial,HK2⟩
    case measure=>first | (simp [intOf];done) | (have:=HJ.out;simp [intOf];omega)
   | false =>
    have HV4 : Hid (safeP s a = true):=Lib.hid (by rw [HV3.out,HK.out,HN.out];exact if_neg (by intro h;have h2 : ((x : Int) == 4) = true:=h;rw [q1] at h2;cases h2))
    go_wp2
    go_ret
    exact ⟨by rw [HV4.out];rfl,Bb⟩
 | false =>
 rw [k5,if_neg (by decide)] at HV2
 cases y5 : ((y : Int) == 5) with
 | true =>
  have q12 : ((q : Int) == 12) = false:=by rw [y5,Bool.true_and] at k5;exact k5
  have y13 : ((y : Int) == 13) = false:=beq_eq_false_iff_ne.2 (by have:=eq_of_beq y5;omega)
  have HV3 : Hid (safeP s a = true):=Lib.hid (by rw [HV2.out,y13];rfl)
  clear HV2 k5
  go_wp2_with fail
  refine (HE1.out _).mono ?_
  rintro e w5 ⟨rfl,rfl⟩
  go_wp2_with fail
  refine (HE2.out _).mono ?_
  rintro e w5 ⟨rfl,rfl⟩
  go_wp2
  go_ret
  exact ⟨by rw [HV3.out];rfl,Bb⟩
 | false =>
  clear k5
  cases y13 : ((y : Int) == 13) with
  | true =>
   cases q13 : ((q : Int) == 13) with
   | true =>
    have HV3 : Hid (safeP s a = backD C 13 (m + 1)):=Lib.hid (by rw [HV2.out,y13,q13];rfl)
    clear HV2
    go_wp2_with fail
    refine (HE1.out _).mono ?_
    rintro e w5 ⟨rfl,rfl⟩
    go_wp2_with fail
    refine (HE2.out _).mono ?_
    rintro e w5 ⟨rfl,rfl⟩
    go_wp2_with fail
    go_loopw [13] (fun v wr=>∃ k : Nat,v = .int .i64 ((k : Int) - 1) ∧ k ≤ m + 1 ∧ wr = wb ∧ Hid (backD C 13 (m + 1) = backD C 13 k)) (fun v _=>((intOf v) + 1).toNat)
    case atStart=>exact ⟨m + 1,by rw [show ((m + 1 : Nat) : Int) - 1 = (m : Int) by omega],Nat.le_refl _,rfl,Lib.hid rfl⟩
    case round =>
     obtain ⟨k,rfl,hk,rfl,HK⟩:=hrel
     by_cases hk0 : k = 0
     ·have HV4 : Hid (safeP s a = false):=Lib.hid (by rw [HV3.out,HK.out,hk0,backD_zero])
      have g0 : ¬ ((k : Int) - 1 ≥ 0):=by omega
      clear hk0
      go_wp2
      go_ret
      exact ⟨by rw [HV4.out];rfl,Bb⟩
     obtain ⟨j,hj⟩ : ∃ j,k = j + 1:=⟨k - 1,by omega⟩
     have e1 : (k : Int) - 1 = (j : Int):=by omega
     rw [e1]
     have hjn : j < nC:=by omega
     obtain ⟨x,Hx⟩ : ∃ x,Hid (C[j]? = some x):=⟨_,Lib.hid (List.getElem?_eq_getElem (by rw [HnC.out];exact hjn))⟩
     obtain ⟨bk3,off3,e2,cx⟩:=HRC.out.atP' Hx.out
     injection e2 with e2
     injection e2 with e2 e3
     subst e2 e3
     have HN:=Lib.hid (HS.out 13 j x Hx.out)
     have HJ:=Lib.hid hj
     rw [hj] at HK
     have hj0 : (0 : Int) ≤ (j : Int):=by omega
     have hjm : (j : Int) < (nC : Int):=by omega
     have hjg : (j : Int) ≥ 0:=hj0
     clear hj e1 hk0
     cases q1 : ((x : Int) == 13) with
     | true =>
      have HK2 : Hid (backD C 13 (m + 1) = backD C 13 j):=Lib.hid (by rw [HK.out,HN.out];exact if_pos q1)
      go_wp2
      go_roundw
      case rel=>exact ⟨j,by go_num,by have:=HJ.out;omega,by first | rfl | trivial,HK2⟩
      case measure=>first | (simp [intOf];done) | (have:=HJ.out;simp [intOf];omega)
     | false =>
      have HV4 : Hid (safeP s a = true):=Lib.hid (by rw [HV3.out,HK.out,HN.out];exact if_neg (by intro h;have h2 : ((x : Int) == 13) = true:=h;rw [q1] at h2;cases h2))
      go_wp2
      go_ret
      exact ⟨by rw [HV4.out];rfl,Bb⟩
   | false =>
    have HV3 : Hid (safeP s a = true):=Lib.hid (by rw [HV2.out,y13,q13];rfl)
    clear HV2
    go_wp2_with fail
    refine (HE1.out _).mono ?_
    rintro e w5 ⟨rfl,rfl⟩
    go_wp2_with fail
    refine (HE2.out _).mono ?_
    rintro e w5 ⟨rfl,rfl⟩
    go_wp2
    go_ret
    exact ⟨by rw [HV3.out];rfl,Bb⟩
  | false =>
   have HV3 : Hid (safeP s a = true):=Lib.hid (by rw [HV2.out,y13];rfl)
   clear HV2
   go_wp2_with fail
   refine (HE1.out _).mono ?_
   rintro e w5 ⟨rfl,rfl⟩
   go_wp2_with fail
   refine (HE2.out _).mono ?_
   rintro e w5 ⟨rfl,rfl⟩
   go_wp2
   go_ret
   exact ⟨by rw [HV3.out];rfl,Bb⟩
end Go.Proofs.YtglmcknlnoknoaaGreatDoor
/- -/
namespace Go.Proofs.YtglmcknlnoknoaaGreatDoor
open Go.RowKit
set_option maxRecDepth 100000 in
set_option maxHeartbeats 4000000 in
theorem gSafe_any (s : ByteArray) (z : Int) (w : World) (hE : Env w) (hs : s.size ≤ 1000000) :
  Calls Tryz.prog 16 #[.string s,.int .i64 z] w fun e w'=>e = .returned (.bool (safeP s z)) ∧ Below w.heap.size w w':=by
 have HI:=Lib.hid (uIsZ_any s z w hE.tabs hs)
 cases hq : isE s z with
 | false =>
  have HV : Hid (safeP s z = false):=Lib.hid (by unfold safeP;rw [hq];rfl)
  rw [hq] at HI
  clear hq
  go_enter Tryz.func16,Tryz.ntmps16
  go_wp2_with fail
  refine HI.out.mono ?_
  rintro e w1 ⟨rfl,hb1⟩
  go_wp2
  go_ret
  exact ⟨by rw [HV.out];rfl,hb1⟩
 | true =>
 rw [hq] at HI
 by_cases h0 : s.size = 0
 ·have HV : Hid (safeP s z = false):=Lib.hid (by unfold safeP;rw [hq,decide_eq_true h0];rfl)
  have hem : s.toList.isEmpty = true:=by
   rw [ByteArray.toList_eq,List.isEmpty_iff,← List.length_eq_zero_iff,size_data];exact h0
  clear hq h0
  go_enter Tryz.func16,Tryz.ntmps16
  go_wp2_with fail
  refine HI.out.mono ?_
  rintro e w1 ⟨rfl,hb1⟩
  go_wp2
  go_ret
  exact ⟨by rw [HV.out];rfl,hb1⟩
 have hem : s.toList.isEmpty = false:=by
  rw [ByteArray.toList_eq]
  cases hq : s.data.toList with
  | nil=>have h:=size_data s;rw [hq] at h;exact absurd h.symm h0
  | cons a b=>rfl
 obtain ⟨a,rfl,has,hpl⟩:=isE_in hq
 have HV : Hid (safeP s a = safeC (ofC graphsD (s.extract 0 a)) (ofC graphsD (s.extract a s.size))):=Lib.hid (by unfold safeP;rw [hq,decide_eq_false h0];rfl)
 have HDb:=Lib.hid (fun W (h : Env W)=>gdb_any W h)
 have HGt:=Lib.hid (fun p r W (h : DbAt W p graphsD)=>wGet_any p graphsD r W h graphsOk.1 graphsOk.2.1)
 clear hq
 by_cases ha0 : a = 0
 ·subst ha0
  have hfull : s.extract 0 s.size = s:=by simp
  have hz : s.extract 0 0 = ByteArray.empty:=by simp
  have HDc:=Lib.hid (fun W (h : Env W)=>uDecode_any s W h.tabs (by omega))
  obtain ⟨r,hr⟩:=cls_first (d:=graphsD) (s:=s) (by omega)
  obtain ⟨R,W0,hRW⟩ : ∃ R W,Utf8.decode s 0 = (R,W):=⟨_,_,rfl⟩
  rw [hRW] at HDc hr
  obtain ⟨q,Hq⟩ : ∃ q,Hid (graphsD.get (R : Nat) = q):=⟨_,Lib.hid rfl⟩
  have HV2 : Hid (safeP s (0 : Nat) = ((q : Int) == 1 || (q : Int) == 3)):=Lib.hid (by
   rw [HV.out,hfull,cls_none (s:=s.extract 0 0) (by rw [ByteArray.size_extract];omega),hr]
   show safeC [] (graphsD.get (R : Nat) :: r) = _
   rw [Hq.out];exact safe_first q r)
  have HG:=Lib.hid (fun p W (h : DbAt W p graphsD)=>HGt.out p (R : Nat) W h)
  simp only [Hq.out] at HG
  have g0 : ((0 : Nat) : Int) = 0:=rfl
  rw [g0] at HI HV2 ⊢
  clear hRW hr hfull hz HV hpl HGt
  go_enter Tryz.func16,Tryz.ntmps16
  go_wp2_with fail
  refine HI.out.mono ?_
  rintro e w1 ⟨rfl,hb1⟩
  clear HI
  have hE1:=hE.below hb1
  go_wp2_with fail
  refine (HDb.out _ hE1).mono ?_
  rintro e w2 ⟨p,rfl,hd2,hb2⟩
  have hE2:=hE1.below hb2
  have hb12:=below_two hb1 hb2
  go_wp2_with fail
  refine (HDc.out _ hE2).mono ?_
  rintro e w3 ⟨rfl,hb3⟩
  have hd3:=hd2.below hb3
  have hb13:=below_two hb12 hb3
  go_wp2_with fail
  refine (HG.out p _ hd3).mono ?_
  rintro e w4 ⟨rfl,hb4⟩
  have hd4:=hd3.below hb4
  have hb14:=below_two hb13 hb4
  cases q1 : ((q : Int) == 1) with
  | true =>
   go_wp2
   go_ret
   exact ⟨by rw [HV2.out,q1];rfl,hb14⟩
  | false =>
   go_wp2_with fail
   refine (HG.out p _ hd4).mono ?_
   rintro e w5 ⟨rfl,hb5⟩
   have hb15:=below_two hb14 hb5
   go_wp2
   go_ret
   exact ⟨by rw [HV2.out,q1];rfl,hb15⟩
 have t0 : ((a : Int) == 0) = false:=beq_eq_false_iff_ne.2 (by omega)
 by_cases haz : a = s.size
 ·have t1 : ((a : Int) == (s.size : Int)) = true:=by rw [haz];exact beq_self_eq_true _
  have hfull : s.extract 0 s.size = s:=by simp
  have HDc:=Lib.hid (fun W (h : Env W)=>eLast_any s W h.tabs (by omega) (by omega))
  obtain ⟨C,hC⟩:=cls_last (d:=graphsD) (s:=s) (by omega)
  obtain ⟨R,W0,hRW⟩ : ∃ R W,Lib.decodeLastL s.data.toList = (R,W):=⟨_,_,rfl⟩
  rw [hRW] at HDc hC
  obtain ⟨q,Hq⟩ : ∃ q,Hid (graphsD.get (R : Nat) = q):=⟨_,Lib.hid rfl⟩
  have HV2 : Hid (safeP s a = ((q : Int) == 2 || (q : Int) == 3)):=Lib.hid (by
   rw [HV.out,haz,hfull,cls_none (s:=s.extract s.size s.size) (by rw [ByteArray.size_extract];omega),hC]
   show safeC (C ++ [graphsD.get (R : Nat)]) [] = _
   rw [Hq.out];exact safe_last C q)
  have HG:=Lib.hid (fun p W (h : DbAt W p graphsD)=>HGt.out p (R : Nat) W h)
  simp only [Hq.out] at HG
  clear hRW hC hfull HV hpl HGt haz
  go_enter Tryz.func16,Tryz.ntmps16
  go_wp2_with fail
  refine HI.out.mono ?_
  rintro e w1 ⟨rfl,hb1⟩
  clear HI
  have hE1:=hE.below hb1
  go_wp2_with fail
  refine (HDb.out _ hE1).mono ?_
  rintro e w2 ⟨p,rfl,hd2,hb2⟩
  have hE2:=hE1.below hb2
  have hb12:=below_two hb1 hb2
  go_wp2_with fail
  refine (HDc.out _ hE2).mono ?_
  rintro e w3 ⟨rfl,hb3⟩
  have hd3:=hd2.below hb3
  have hb13:=below_two hb12 hb3
  go_wp2_with fail
  refine (HG.out p _ hd3).mono ?_
  rintro e w4 ⟨rfl,hb4⟩
  have hd4:=hd3.below hb4
  have hb14:=below_two hb13 hb4
  cases q1 : ((q : Int) == 2) with
  | true =>
   go_wp2
   go_ret
   exact ⟨by rw [HV2.out,q1];rfl,hb14⟩
  | false =>
   go_wp2_with fail
   refine (HG.out p _ hd4).mono ?_
   rintro e w5 ⟨rfl,hb5⟩
   have hb15:=below_two hb14 hb5
   go_wp2
   go_ret
   exact ⟨by rw [HV2.out,q1];rfl,hb15⟩
 have t1 : ((a : Int) == (s.size : Int)) = false:=beq_eq_false_iff_ne.2 (by omega)
 have hsx : (s.extract a s.size).size = s.size - a:=by rw [ByteArray.size_extract];omega
 have HDc:=Lib.hid (fun W (h : Env W)=>uDecode_any (s.extract a s.size) W h.tabs (by omega))
 obtain ⟨r,hr⟩:=cls_first (d:=graphsD) (s:=s.extract a s.size) (by omega)
 obtain ⟨R,W0,hRW⟩ : ∃ R W,Utf8.decode (s.extract a s.size) 0 = (R,W):=⟨_,_,rfl⟩
 rw [hRW] at HDc hr
 obtain ⟨q,Hq⟩ : ∃ q,Hid (graphsD.get (R : Nat) = q):=⟨_,Lib.hid rfl⟩
 have HG:=Lib.hid (fun p W (h : DbAt W p graphsD)=>HGt.out p (R : Nat) W h)
 simp only [Hq.out] at HG
 have HO:=Lib.hid (fun p W (h : DbAt W p graphsD)=>wOf_any p graphsD (s.extract 0 a) W h graphsOk.1 graphsOk.2.1 (by rw [ByteArray.size_extract];omega))
 have hC1 : (ofC graphsD (s.extract 0 a)).length ≤ 1000000:=by
  unfold ofC;rw [List.length_map]
  have:=runesP_len (s.extract 0 a);rw [ByteArray.size_extract] at this;omega
 have hC0 : 0 < (ofC graphsD (s.extract 0 a)).length:=by
  obtain ⟨r2,hr2⟩:=cls_first (d:=graphsD) (s:=s.extract 0 a) (by rw [ByteArray.size_extract];omega)
  rw [hr2];simp
 have H14 : Hid (∀ j x,(ofC graphsD (s.extract 0 a))[j]? = some x → x < 14):=Lib.hid (fun j x h=>by
  unfold ofC at h
  rw [List.getElem?_map] at h
  cases hh : (runesP (s.extract 0 a))[j]? with
  | none=>rw [hh] at h;cases h
  | some u=>rw [hh] at h;injection h with h;rw [← h];exact gG_lt _)
 have hq14 : q < 14:=by have:=gG_lt (R : Nat);rw [← Hq.out];exact this
 have HV0 : Hid (safeP s a = safeC (ofC graphsD (s.extract 0 a)) (q :: r)):=Lib.hid (by
  rw [HV.out,hr]
  show safeC _ (graphsD.get (R : Nat) :: r) = _
  rw [Hq.out])
 generalize ofC graphsD (s.extract 0 a) = C at HO hC1 hC0 HV0 H14
 obtain ⟨m,hm⟩ : ∃ m,C.length = m + 1:=⟨C.length - 1,by omega⟩
 obtain ⟨y,Hy⟩ : ∃ y,Hid (C[m]? = some y):=⟨_,Lib.hid (List.getElem?_eq_getElem (by omega))⟩
 have hy14:=H14.out m y Hy.out
 have HV2 : Hid (safeP s a = if joinG y q = true then true else if ((y : Int) == 5 && (q : Int) == 12) = true then backD C 4 m else if ((y : Int) == 13 && (q : Int) == 13) = true then backD C 13 (m + 1) else true):=Lib.hid (by rw [HV0.out];exact safe_mid' r hm Hy.out hy14 hq14)
 have HM:=Lib.hid hm
 have em : (C.length : Int) - 1 = (m : Int):=by omega
 have em2 : IntKind.i64.wrap ((C.length : Int) - 1) = (m : Int):=by rw [em];exact IntWalk.i64_in _ (by omega)
 have hmC : m < C.length:=by omega
 have hmC2 : (m : Int) < (C.length : Int):=by omega
 have hm0 : (0 : Int) ≤ (m : Int):=by omega
 have HS:=Lib.hid (fun v j x (h : C[j]? = some x)=>backD_step (v:=v) h)
 have hmz : m ≤ 1000000:=by omega
 have HJn : Hid (∀ W,Calls Tryz.prog 76 #[.int .i64 (y : Nat),.int .i64 (q : Nat)] W fun e w'=>e = .returned (.bool (joinG y q)) ∧ W = w'):=Lib.hid (fun W=>by rw [← joinZ_eq y hy14 q hq14];exact gjoins_any _ _ W)
 have ha1 : (a : Int) ≤ (s.size : Int):=by omega
 have ha00 : (0 : Int) ≤ (a : Int):=by omega
 clear hRW hr HV hpl HGt hm hC0 H14 hsx HV0
 generalize hnC : C.length = nC at em em2 hmC hmC2 hC1
 have HnC:=Lib.hid hnC
 clear hnC
 go_enter Tryz.func16,Tryz.ntmps16
 go_wp2_with fail
 refine HI.out.mono ?_
 rintro e w1 ⟨rfl,hb1⟩
 clear HI
 have hE1:=hE.below hb1
 go_wp2_with fail
 refine (HDb.out _ hE1).mono ?_
 rintro e w2 ⟨p,rfl,hd2,hb2⟩
 have hE2:=hE1.below hb2
 have hb12:=below_two hb1 hb2
 go_wp2_with fail
 refine (HDc.out _ hE2).mono ?_
 rintro e w3 ⟨rfl,hb3⟩
 have hd3:=hd2.below hb3
 have hb13:=below_two hb12 hb3
 go_wp2_with fail
 refine (HO.out p _ hd3).mono ?_
 rintro e wb ⟨A1,n1,c1,rfl,ho1,hb4⟩
 obtain rfl : nC = n1:=by have:=ho1.len;rw [List.length_map] at this;rw [← HnC.out];exact this
 have hd4:=hd3.below hb4
 have Bb:=below_two hb13 hb4
 have rdC:=ho1.rd (by decide)
 obtain ⟨bk,off,rfl,cy⟩:=rdC.atP' Hy.out
 have HRC:=Lib.hid rdC
 clear hd2 hd3 hb1 hb2 hb12 hb3 hb13 hb4 ho1 rdC HDc HO HDb hE1 hE2
 go_upto_region 14 with fail
 have hbd0 : Below wb.heap.size wb wb:=Below.refl _ _
 go_region_held3 (fun V=>V.cell? ⟨bk,off + m,none⟩ = some (.int .i64 (y : Nat)) ∧ Below wb.heap.size wb V)
  (first | exact ⟨kc,Bc⟩ | exact ⟨cy,hbd0⟩ | exact ⟨cy,below_drewN hbd0 1⟩)
  (first
   | (go_at_call 73;go_split_ands;refine (HG.out p _ (hd4.below (by assumption))).mono ?_;rintro e wc ⟨rfl,hbc⟩;have Bc : Below wb.heap.size wb wc:=below_two (by assumption) hbc;have kc:=cell_keep cy Bc)
   | (go_at_call 76;refine (HJn.out _).mono ?_;rintro e wd ⟨rfl,rfl⟩))
 have Bw:=below_two Bb Bc
 have hd5:=hd4.below Bc
 cases jt : joinG y q with
 | true =>
  have HV3 : Hid (safeP s a = true):=Lib.hid (by rw [HV2.out,jt];rfl)
  clear HV2
  go_wp2
  go_ret
  exact ⟨by rw [HV3.out];rfl,Bw⟩
 | false =>
 rw [jt,if_neg (by decide)] at HV2
 clear jt
 cases y5 : ((y : Int) == 5) with
 | true =>
  have y13 : ((y : Int) == 13) = false:=beq_eq_false_iff_ne.2 (by have:=eq_of_beq y5;omega)
  go_wp2_with fail
  refine (HG.out p _ hd5).mono ?_
  rintro e we ⟨rfl,hbe⟩
  have Be:=below_two Bw hbe
  have cye:=cell_keep kc hbe
  have Bce:=below_two Bc hbe
  cases q12 : ((q : Int) == 12) with
  | true =>
   have HV3 : Hid (safeP s a = backD C 4 m):=Lib.hid (by rw [HV2.out,y5,q12];rfl)
   clear HV2
   go_wp2_with fail
   go_loopw [13] (fun v wr=>∃ k : Nat,v = .int .i64 ((k : Int) - 1) ∧ k ≤ m ∧ wr = we ∧ Hid (backD C 4 (m) = backD C 4 k)) (fun v _=>((intOf v) + 1).toNat)
   case atStart=>exact ⟨m,by first | rfl | (rw [show ((m + 1 : Nat) : Int) - 1 = (m : Int) by omega]),Nat.le_refl _,rfl,Lib.hid rfl⟩
   case round =>
    obtain ⟨k,rfl,hk,rfl,HK⟩:=hrel
    by_cases hk0 : k = 0
    ·have HV4 : Hid (safeP s a = false):=Lib.hid (by rw [HV3.out,HK.out,hk0,backD_zero])
     have g0 : ¬ ((k : Int) - 1 ≥ 0):=by omega
     clear hk0
     go_wp2
     go_ret
     exact ⟨by rw [HV4.out];rfl,Be⟩
    obtain ⟨j,hj⟩ : ∃ j,k = j + 1:=⟨k - 1,by omega⟩
    have e1 : (k : Int) - 1 = (j : Int):=by omega
    rw [e1]
    have hjn : j < nC:=by omega
    obtain ⟨x,Hx⟩ : ∃ x,Hid (C[j]? = some x):=⟨_,Lib.hid (List.getElem?_eq_getElem (by rw [HnC.out];exact hjn))⟩
    obtain ⟨bk3,off3,e2,cx⟩:=HRC.out.atP' Hx.out
    injection e2 with e2
    injection e2 with e2 e3
    subst e2 e3
    replace cx:=cell_keep cx Bce
    have HN:=Lib.hid (HS.out 4 j x Hx.out)
    have HJ:=Lib.hid hj
    rw [hj] at HK
    have hj0 : (0 : Int) ≤ (j : Int):=by omega
    have hjm : (j : Int) < (nC : Int):=by omega
    have hjg : (j : Int) ≥ 0:=hj0
    clear hj e1 hk0
    cases q1 : ((x : Int) == 4) with
    | true =>
     have HK2 : Hid (backD C 4 (m) = backD C 4 j):=Lib.hid (by rw [HK.out,HN.out];exact if_pos q1)
     go_wp2
     go_roundw
     case rel=>exact ⟨j,by go_num,by have:=HJ.out;omega,by first | rfl | trivial,HK2⟩
     case measure=>first | (simp [intOf];done) | (have:=HJ.out;simp [intOf];omega)
    | false =>
     have HV4 : Hid (safeP s a = true):=Lib.hid (by rw [HV3.out,HK.out,HN.out];exact if_neg (by intro h;have h2 : ((x : Int) == 4) = true:=h;rw [q1] at h2;cases h2))
     go_wp2
     go_ret
     exact ⟨by rw [HV4.out];rfl,Be⟩
  | false =>
   have HV3 : Hid (safeP s a = true):=Lib.hid (by rw [HV2.out,y5,q12,y13];rfl)
   clear HV2
   go_wp2
   go_ret
   exact ⟨by rw [HV3.out];rfl,Be⟩
 | false =>
  cases y13 : ((y : Int) == 13) with
  | true =>
   go_wp2_with fail
   refine (HG.out p _ hd5).mono ?_
   rintro e we ⟨rfl,hbe⟩
   have Be:=below_two Bw hbe
   have Bce:=below_two Bc hbe
   cases q13 : ((q : Int) == 13) with
   | true =>
    have HV3 : Hid (safeP s a = backD C 13 (m + 1)):=Lib.hid (by rw [HV2.out,y5,y13,q13];rfl)
    clear HV2
    go_wp2_with fail
    go_loopw [13] (fun v wr=>∃ k : Nat,v = .int .i64 ((k : Int) - 1) ∧ k ≤ m + 1 ∧ wr = we ∧ Hid (backD C 13 (m + 1) = backD C 13 k)) (fun v _=>((intOf v) + 1).toNat)
    case atStart=>exact ⟨m + 1,by first | rfl | (rw [show ((m + 1 : Nat) : Int) - 1 = (m : Int) by omega]),Nat.le_refl _,rfl,Lib.hid rfl⟩
    case round =>
     obtain ⟨k,rfl,hk,rfl,HK⟩:=hrel
     by_cases hk0 : k = 0
     ·have HV4 : Hid (safeP s a = false):=Lib.hid (by rw [HV3.out,HK.out,hk0,backD_zero])
      have g0 : ¬ ((k : Int) - 1 ≥ 0):=by omega
      clear hk0
      go_wp2
      go_ret
      exact ⟨by rw [HV4.out];rfl,Be⟩
     obtain ⟨j,hj⟩ : ∃ j,k = j + 1:=⟨k - 1,by omega⟩
     have e1 : (k : Int) - 1 = (j : Int):=by omega
     rw [e1]
     have hjn : j < nC:=by omega
     obtain ⟨x,Hx⟩ : ∃ x,Hid (C[j]? = some x):=⟨_,Lib.hid (List.getElem?_eq_getElem (by rw [HnC.out];exact hjn))⟩
     obtain ⟨bk3,off3,e2,cx⟩:=HRC.out.atP' Hx.out
     injection e2 with e2
     injection e2 with e2 e3
     subst e2 e3
     replace cx:=cell_keep cx Bce
     have HN:=Lib.hid (HS.out 13 j x Hx.out)
     have HJ:=Lib.hid hj
     rw [hj] at HK
     have hj0 : (0 : Int) ≤ (j : Int):=by omega
     have hjm : (j : Int) < (nC : Int):=by omega
     have hjg : (j : Int) ≥ 0:=hj0
     clear hj e1 hk0
     cases q1 : ((x : Int) == 13) with
     | true =>
      have HK2 : Hid (backD C 13 (m + 1) = backD C 13 j):=Lib.hid (by rw [HK.out,HN.out];exact if_pos q1)
      go_wp2
      go_roundw
      case rel=>exact ⟨j,by go_num,by have:=HJ.out;omega,by first | rfl | trivial,HK2⟩
      case measure=>first | (simp [intOf];done) | (have:=HJ.out;simp [intOf];omega)
     | false =>
      have HV4 : Hid (safeP s a = true):=Lib.hid (by rw [HV3.out,HK.out,HN.out];exact if_neg (by intro h;have h2 : ((x : Int) == 13) = true:=h;rw [q1] at h2;cases h2))
      go_wp2
      go_ret
      exact ⟨by rw [HV4.out];rfl,Be⟩
   | false =>
    have HV3 : Hid (safeP s a = true):=Lib.hid (by rw [HV2.out,y5,y13,q13];rfl)
    clear HV2
    go_wp2
    go_ret
    exact ⟨by rw [HV3.out];rfl,Be⟩
  | false =>
   have HV3 : Hid (safeP s a = true):=Lib.hid (by rw [HV2.out,y5,y13];rfl)
   clear HV2
   go_wp2
   go_ret
   exact ⟨by rw [HV3.out];rfl,Bw⟩
end Go.Proofs.YtglmcknlnoknoaaGreatDoor
/- -/
namespace Go.Proofs.YtglmcknlnoknoaaGreatDoor
open Go.RowKit
set_option maxHeartbeats 400000 in
theorem uCount_any (s : ByteArray) (w : World) (hs : s.size ≤ 1000000) : Calls Tryz.prog 20 #[.string s] w fun e w'=>e = .returned (.int .i64 (Lib.runeCount s)) ∧ Below w.heap.size w w':=by
 have H:=Lib.hid (Tryz.utf8_RuneCountInString s w (by omega))
 generalize Lib.runeCount s = v at H ⊢
 clear hs
 go_enter Tryz.func20,Tryz.ntmps20
 go_wp2_with fail
 refine H.out.mono ?_
 rintro e w1 ⟨rfl,pos,rfl⟩
 go_wp2
 go_ret
 exact ⟨rfl,below_iter (Below.refl _ _) (Nat.le_refl _) _ _⟩
theorem runeCount_le (s : ByteArray) : Lib.runeCount s ≤ s.size:=by
 have h : ∀ f p,Lib.runeCountFrom s f p ≤ f:=fun f=>by
  induction f with
  | zero=>intro p;exact Nat.le_refl _
  | succ f ih =>
   intro p
   unfold Lib.runeCountFrom
   split
   ·have:=ih (p + (Utf8.decode s p).2);omega
   ·omega
 exact h _ _
theorem isE_place {s : ByteArray} {k : Nat} (h : isE s (k : Nat) = true) : PlaceAt s k:=by
 obtain ⟨j,hj,_,hp⟩:=isE_in h
 obtain rfl : k = j:=by omega
 exact hp
set_option maxRecDepth 100000 in
set_option maxHeartbeats 8000000 in
theorem mSafe_any (a s b : ByteArray) (z : Int) (w : World) (hE : Env w) (ha : a.size ≤ 140737488355328) (hs : s.size ≤ 140737488355328) (hb : b.size ≤ 140737488355328) :
  Calls Tryz.prog 3 #[.string a,.string s,.string b,.int .i64 z] w fun e w'=>e = .returned (.bool true) ∧ Below w.heap.size w w':=by
 have HLv:=Lib.hid (fun W (h : Env W)=>glive_any W h)
 have e1 : IntKind.i64.wrap ((a.size : Int) + (s.size : Int)) = (a.size : Int) + (s.size : Int):=IntWalk.i64_in _ (by omega)
 have e2 : IntKind.i64.wrap ((a.size : Int) + (s.size : Int) + (b.size : Int)) = (a.size : Int) + (s.size : Int) + (b.size : Int):=IntWalk.i64_in _ (by omega)
 by_cases h1 : 120 < a.size + s.size + b.size
 ·have g1 : (120 : Int) < (a.size : Int) + (s.size : Int) + (b.size : Int):=by omega
  go_enter Tryz.func3,Tryz.ntmps3
  go_wp2_with fail
  refine (HLv.out _ hE).mono ?_
  rintro e w1 ⟨rfl,hb⟩
  go_wp2
  go_ret
  exact ⟨rfl,hb⟩
 have g1 : ¬ (120 : Int) < (a.size : Int) + (s.size : Int) + (b.size : Int):=by omega
 have hsz : a.size + s.size + b.size ≤ 120:=by omega
 have HG:=Lib.hid (fun W (h : Env W)=>gSafe_any s z W h (by omega))
 have HN:=Lib.hid (fun W=>bNew_any W)
 have HB:=Lib.hid (fun base pb W (h : BrkB W base pb graphsD rulesG true)=>bSafe_any base pb s z W h (by omega))
 have hwz : (a ++ s ++ b).size = a.size + s.size + b.size:=by simp [ByteArray.size_append]
 have HI1:=Lib.hid (fun W (h : Env W)=>uIsZ_any (a ++ s ++ b) (a.size : Nat) W h.tabs (by omega))
 have HI2:=Lib.hid (fun W (h : Env W)=>uIsZ_any (a ++ s ++ b) ((a.size + s.size : Nat) : Int) W h.tabs (by omega))
 have HC0:=Lib.hid (fun W=>uCount_any (a ++ s ++ b) W (by omega))
 have HC1:=Lib.hid (fun W=>uCount_any a W (by omega))
 have HC2:=Lib.hid (fun W=>uCount_any s W (by omega))
 have HC3:=Lib.hid (fun W=>uCount_any b W (by omega))
 have HQ1:=Lib.hid (fun x W (h : Env W)=>gIs_any (a ++ s ++ b) x W h (by omega))
 have HQ2:=Lib.hid (fun x W (h : Env W)=>gIs_any s x W h (by omega))
 have HW : Hid (∀ k : Nat,z = k → safeP s z = true → isE (a ++ s ++ b) (a.size : Nat) = true → isE (a ++ s ++ b) ((a.size + s.size : Nat) : Int) = true → isG (a ++ s ++ b) ((a.size + k : Nat) : Int) = isG s (k : Nat)):=Lib.hid (fun k hk h2 h3 h4=>by
  subst hk
  have h5 : isE s (k : Nat) = true ∧ s.size ≠ 0 ∧ safeC (ofC graphsD (s.extract 0 k)) (ofC graphsD (s.extract k s.size)) = true:=by
   unfold safeP at h2
   split at h2
   ·cases h2
   ·rename_i hn
    rw [Bool.or_eq_true,not_or,decide_eq_true_iff] at hn
    refine ⟨?_,hn.2,h2⟩
    cases hq : isE s (k : Nat) with
    | true=>rfl
    | false=>rw [hq] at hn;exact absurd rfl hn.1
  exact safe_whole (isE_place h5.1) h5.2.1 h5.2.2 (isE_place h3) (isE_place h4))
 have HZ : Hid (safeP s z = true → ∃ k : Nat,z = k ∧ k ≤ s.size):=Lib.hid (fun h2=>by
  unfold safeP at h2
  split at h2
  ·cases h2
  ·rename_i hn
   rw [Bool.or_eq_true,not_or] at hn
   have : isE s z = true:=by
    cases hq : isE s z with
    | true=>rfl
    | false=>rw [hq] at hn;exact absurd rfl hn.1
   obtain ⟨k,h3,h4,_⟩:=isE_in this
   exact ⟨k,h3,h4⟩)
 have es : ((a.size + s.size : Nat) : Int) = (a.size : Int) + (s.size : Int):=by omega
 rw [es] at HI2 HW
 obtain ⟨is,His⟩ : ∃ q,safeP s z = q:=⟨_,rfl⟩
 obtain ⟨p1,Hp1⟩ : ∃ q,isE (a ++ s ++ b) (a.size : Nat) = q:=⟨_,rfl⟩
 obtain ⟨p2,Hp2⟩ : ∃ q,isE (a ++ s ++ b) ((a.size : Int) + (s.size : Int)) = q:=⟨_,rfl⟩
 rw [His] at HG HB HZ
 rw [Hp1] at HI1
 rw [Hp2] at HI2
 simp only [His,Hp1,Hp2] at HW
 have hc1:=runeCount_le a
 have hc2:=runeCount_le s
 have hc3:=runeCount_le b
 generalize Lib.runeCount (a ++ s ++ b) = c0 at HC0
 generalize Lib.runeCount a = c1 at HC1 hc1
 generalize Lib.runeCount s = c2 at HC2 hc2
 generalize Lib.runeCount b = c3 at HC3 hc3
 have e3 : IntKind.i64.wrap ((c1 : Int) + (c2 : Int)) = (c1 : Int) + (c2 : Int):=IntWalk.i64_in _ (by omega)
 have e4 : IntKind.i64.wrap ((c1 : Int) + (c2 : Int) + (c3 : Int)) = (c1 : Int) + (c2 : Int) + (c3 : Int):=IntWalk.i64_in _ (by omega)
 clear His Hp1 Hp2 h1
 go_enter Tryz.func3,Tryz.ntmps3
 go_wp2_with fail
 refine (HG.out w hE).mono ?_
 rintro e v1 ⟨rfl,hb1⟩
 go_wp2_with fail
 refine (HN.out v1).mono ?_
 rintro e v2 ⟨pb,rfl,hbk,hb2⟩
 have hb12:=below_two hb1 hb2
 go_wp2_with fail
 refine (HB.out _ _ v2 hbk).mono ?_
 rintro e v3 ⟨rfl,hb3⟩
 have hb13:=below_two hb12 hb3
 have hE3:=hE.below hb13
 have hqq : (is != is) = false:=by cases is <;> rfl
 clear HG HN HB hbk hb1 hb2 hb12 hb3
 have hb30 : Below v3.heap.size v3 v3:=Below.refl _ _
 cases p1 with
 | false =>
  go_wp2_with fail
  refine (HI1.out _ (hE3.below hb30)).mono ?_
  rintro e v40 ⟨rfl,hc40⟩
  have hb40:=below_two hb30 hc40
  cases is with
  | true =>
   go_wp2_with fail
   refine (HLv.out _ (hE3.below hb40)).mono ?_
   rintro e vz ⟨rfl,hbz⟩
   go_wp2
   go_ret
   exact ⟨rfl,below_two hb13 (below_two hb40 hbz)⟩
  | false =>
   go_wp2_with fail
   refine (HLv.out _ (hE3.below hb40)).mono ?_
   rintro e vz ⟨rfl,hbz⟩
   go_wp2
   go_ret
   exact ⟨rfl,below_two hb13 (below_two hb40 hbz)⟩
 | true =>
 go_wp2_with fail
 refine (HI1.out _ (hE3.below hb30)).mono ?_
 rintro e v41 ⟨rfl,hc41⟩
 have hb41:=below_two hb30 hc41
 cases p2 with
 | false =>
  go_wp2_with fail
  refine (HI2.out _ (hE3.below hb41)).mono ?_
  rintro e v42 ⟨rfl,hc42⟩
  have hb42:=below_two hb41 hc42
  cases is with
  | true =>
   go_wp2_with fail
   refine (HLv.out _ (hE3.below hb42)).mono ?_
   rintro e vz ⟨rfl,hbz⟩
   go_wp2
   go_ret
   exact ⟨rfl,below_two hb13 (below_two hb42 hbz)⟩
  | false =>
   go_wp2_with fail
   refine (HLv.out _ (hE3.below hb42)).mono ?_
   rintro e vz ⟨rfl,hbz⟩
   go_wp2
   go_ret
   exact ⟨rfl,below_two hb13 (below_two hb42 hbz)⟩
 | true =>
 go_wp2_with fail
 refine (HI2.out _ (hE3.below hb41)).mono ?_
 rintro e v43 ⟨rfl,hc43⟩
 have hb43:=below_two hb41 hc43
 go_wp2_with fail
 refine (HC0.out _).mono ?_
 rintro e v44 ⟨rfl,hc44⟩
 have hb44:=below_two hb43 hc44
 go_wp2_with fail
 refine (HC1.out _).mono ?_
 rintro e v45 ⟨rfl,hc45⟩
 have hb45:=below_two hb44 hc45
 go_wp2_with fail
 refine (HC2.out _).mono ?_
 rintro e v46 ⟨rfl,hc46⟩
 have hb46:=below_two hb45 hc46
 go_wp2_with fail
 refine (HC3.out _).mono ?_
 rintro e v47 ⟨rfl,hc47⟩
 have hb47:=below_two hb46 hc47
 cases ct : ((c0 : Int) == (c1 : Int) + (c2 : Int) + (c3 : Int)) with
 | false =>
  cases is with
  | true =>
   go_wp2_with fail
   refine (HLv.out _ (hE3.below hb47)).mono ?_
   rintro e vz ⟨rfl,hbz⟩
   go_wp2
   go_ret
   exact ⟨rfl,below_two hb13 (below_two hb47 hbz)⟩
  | false =>
   go_wp2_with fail
   refine (HLv.out _ (hE3.below hb47)).mono ?_
   rintro e vz ⟨rfl,hbz⟩
   go_wp2
   go_ret
   exact ⟨rfl,below_two hb13 (below_two hb47 hbz)⟩
 | true =>
 cases is with
 | false =>
  go_wp2_with fail
  refine (HLv.out _ (hE3.below hb47)).mono ?_
  rintro e vz ⟨rfl,hbz⟩
  go_wp2
  go_ret
  exact ⟨rfl,below_two hb13 (below_two hb47 hbz)⟩
 | true =>
  obtain ⟨k,rfl,hk⟩:=HZ.out rfl
  have HE:=HW.out k rfl (by first | rfl | trivial) (by first | rfl | trivial) (by first | rfl | trivial)
  obtain ⟨u,hu⟩ : ∃ u,u = a.size + k:=⟨_,rfl⟩
  rw [← hu] at HE
  have eu : (a.size : Int) + (k : Int) = (u : Int):=by omega
  have eu2 : IntKind.i64.wrap ((a.size : Int) + (k : Int)) = (u : Int):=by rw [eu];exact IntWalk.i64_in _ (by omega)
  have H1:=Lib.hid (HQ1.out (u : Nat))
  have H2:=Lib.hid (HQ2.out (k : Nat))
  rw [HE] at H1
  generalize isG s (k : Nat) = g at H1 H2
  clear HE hu HQ1 HQ2 HW
  have hgg : (g == g) = true:=by cases g <;> rfl
  go_wp2_with fail
  refine (H1.out _ (hE3.below hb47)).mono ?_
  rintro e y1 ⟨rfl,hy1⟩
  have hy1b:=below_two hb47 hy1
  go_wp2_with fail
  refine (H2.out _ (hE3.below hy1b)).mono ?_
  rintro e y2 ⟨rfl,hy2⟩
  have hy2b:=below_two hy1b hy2
  go_wp2_with fail
  refine (HLv.out _ (hE3.below hy2b)).mono ?_
  rintro e vz ⟨rfl,hbz⟩
  go_wp2
  go_ret
  exact ⟨rfl,below_two hb13 (below_two hy2b hbz)⟩
end Go.Proofs.YtglmcknlnoknoaaGreatDoor
