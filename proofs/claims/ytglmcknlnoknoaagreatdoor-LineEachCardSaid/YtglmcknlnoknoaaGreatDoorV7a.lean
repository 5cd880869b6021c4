/-
 Several texts in one,in their build order: ZbA,PrO.
-/
import Derived.Test.YtglmcknlnoknoaaGreatDoorV4a
import Derived.Test.YtglmcknlnoknoaaGreatDoorVFiE
import Derived.Test.YtglmcknlnoknoaaGreatDoorV3a
import Derived.Test.YtglmcknlnoknoaaGreatDoorVPrN
import Derived.Test.YtglmcknlnoknoaaGreatDoorV5a
import Derived.Test.YtglmcknlnoknoaaGreatDoorV6a
/- -/
namespace Go.Proofs.YtglmcknlnoknoaaGreatDoor
set_option maxRecDepth 100000
set_option maxHeartbeats 40000000
section
open Go.RowKit
theorem goodL_iff {N : Nat} : ∀ {ks : List Pat},goodL N ks = true ↔ ∀ p ∈ ks,goodP N p = true
 | []=>by unfold goodL;simp
 | p :: r=>by
  unfold goodL
  rw [Bool.and_eq_true,goodL_iff (ks:=r)]
  simp
theorem sizeL_sum : ∀ ks : List Pat,sizeL ks = (ks.map sizeP).sum
 | []=>by unfold sizeL;rfl
 | p :: r=>by unfold sizeL;rw [List.map_cons,List.sum_cons,sizeL_sum r]
mutual
theorem rev_good {N : Nat} : ∀ p : Pat,goodP N p = true→goodP N (revP p) = true
 | .node op cs ks,h=>by
  unfold goodP at h
  unfold revP goodP
  rw [Bool.and_eq_true] at h ⊢
  have hl:=revL_good ks h.2
  have hlen : (if op = 2 then (revL ks).reverse else revL ks).length = ks.length:=by split <;> simp [revL_map]
  refine ⟨by rw [hlen];exact h.1,?_⟩
  rw [goodL_iff] at hl ⊢
  split
  ·intro p hp;exact hl p (List.mem_reverse.1 hp)
  ·exact hl
theorem revL_good {N : Nat} : ∀ ks : List Pat,goodL N ks = true→goodL N (revL ks) = true
 | [],_=>by unfold revL goodL;rfl
 | p :: r,h=>by
  unfold goodL at h
  rw [Bool.and_eq_true] at h
  unfold revL goodL
  rw [rev_good p h.1,revL_good r h.2];rfl
end
mutual
theorem rev_size : ∀ p : Pat,sizeP (revP p) = sizeP p
 | .node op cs ks=>by
  have h:=revL_size ks
  unfold revP sizeP
  split
  ·rw [sizeL_sum,List.map_reverse,List.sum_reverse,← sizeL_sum,h]
  ·rw [h]
theorem revL_size : ∀ ks : List Pat,sizeL (revL ks) = sizeL ks
 | []=>by unfold revL;rfl
 | p :: r=>by unfold revL sizeL;rw [rev_size p,revL_size r]
end
abbrev Sdv:=Sv × Sv × Bool × Bool
def encSd (u : Sdv) : List Value:=[.slice u.1.1 u.1.2.1 u.1.2.2,.slice u.2.1.1 u.2.1.2.1 u.2.1.2.2,.bool u.2.2.1,.bool u.2.2.2]
theorem encSd_ok (l : List Sdv) : ∀ y ∈ l.map encSd,y.length = 4∧∀ u ∈ y,u.oneCell' = true:=by
 intro y hy
 obtain ⟨x,_,rfl⟩:=List.mem_map.1 hy
 exact ⟨rfl,fun u hu=>by simp [encSd] at hu;rcases hu with rfl | rfl | rfl | rfl <;> rfl⟩
theorem infoSd : (Tryz.prog.info? 203).map (fun i=>(i.zero,i.size,i.bytes)) = some (some (.agg #[.slice none 0 0,.slice none 0 0,.bool false,.bool false]),4,56):=by kernel_rfl
structure SideO (w : World) (base : Nat) (r : RuleP) (u : Sdv) : Prop where
 left : Own w base 3 1 u.1.1 u.1.2.1 u.1.2.2 ((sideP r).left.map encN)
 right : Own w base 3 1 u.2.1.1 u.2.1.2.1 u.2.1.2.2 ((sideP r).right.map encN)
 noL : u.2.2.1 = (sideP r).noL
 noR : u.2.2.2 = (sideP r).noR
theorem SideO.below {w w' : World} {base : Nat} {r : RuleP} {u : Sdv} (h : SideO w base r u) (hb : Below w.heap.size w w') : SideO w' base r u:=⟨h.left.below hb,h.right.below hb,h.noL,h.noR⟩
structure SidesO (w : World) (base : Nat) (rules : List RuleP) (i : Nat) (vs : List Sdv) : Prop where
 len : vs.length = i
 at_ : ∀ (j : Nat) (r : RuleP) (u : Sdv),rules[j]? = some r→vs[j]? = some u→SideO w base r u
theorem SidesO.below {w w' : World} {base i : Nat} {rules : List RuleP} {vs : List Sdv} (h : SidesO w base rules i vs) (hb : Below w.heap.size w w') : SidesO w' base rules i vs:=⟨h.len,fun j r u hr hu=>(h.at_ j r u hr hu).below hb⟩
theorem SidesO.grown {w w' : World} {base i b n c : Nat} {A : Option Addr} {cs : List (List Value)} {rules : List RuleP} {vs : List Sdv} (h : SidesO w base rules i vs) (ho : Own w b 203 4 A n c cs) (hg : w.grownBy w' (A.map (·.block))) : SidesO w' base rules i vs :=
 ⟨h.len,fun j r u hr hu=>by
  have h1:=h.at_ j r u hr hu
  have key : ∀ {A' : Option Addr} {n' c' : Nat} {cs' : List (List Value)},Own w base 3 1 A' n' c' cs'→Own w' base 3 1 A' n' c' cs':=fun h2=>h2.grown hg (fun a ha e=>by
   cases hA : A with
   | none=>rw [hA] at e;cases e
   | some a'=>rw [hA] at e;injection e with e;exact own_ne h2 ho (by decide) a a' ha hA e)
  exact ⟨key h1.left,key h1.right,h1.noL,h1.noR⟩⟩
theorem SidesO.snoc {w : World} {base i : Nat} {rules : List RuleP} {vs : List Sdv} {r : RuleP} {u : Sdv} (h : SidesO w base rules i vs) (hr : rules[i]? = some r) (hu : SideO w base r u) : SidesO w base rules (i+1) (vs++[u]) :=
 ⟨by rw [List.length_append,h.len];rfl,fun j r' u' hr' hu'=>by
  rcases Nat.lt_or_ge j i with hj | hj
  ·rw [List.getElem?_append_left (by rw [h.len];exact hj)] at hu'
   exact h.at_ j r' u' hr' hu'
  ·rw [List.getElem?_append_right (by rw [h.len];exact hj),h.len] at hu'
   obtain rfl : j = i:=by
    have:=(List.getElem?_eq_some_iff.1 hu').1
    simp at this;omega
   simp at hu'
   rw [hr] at hr'
   injection hr' with hr'
   subst hr'
   subst hu'
   exact hu⟩
theorem zmay_any (fl fr : List Nat) (A B : Option Addr) (n c m d : Nat) (nl nr : Bool) (a b : Nat) (w : World) (hA : Rd w 1 A (fl.map encN)) (hl : fl.length = n) (hB : Rd w 1 B (fr.map encN)) (hr : fr.length = m) (hn : n≤4000000) (hm : m≤4000000) :
  Calls Tryz.prog 157 #[.agg #[.slice A n c,.slice B m d,.bool nl,.bool nr],.int .i64 (a : Nat),.int .i64 (b : Nat)] w fun e w'=>e = .returned (.bool (mayB ⟨fl,fr,nl,nr⟩ a b))∧Below w.heap.size w w':=by
 have Hz : Below w.heap.size w (w.alloc (.cells #[.slice A n c,.slice B m d,.bool nl,.bool nr] 203)):=(Below.refl _ _).alloc (Nat.le_refl _) _
 have HI1:=Lib.hid (fun W (h : Below w.heap.size w W)=>zamong_any A n c fl a W (hA.below h) hl hn)
 have HI2:=Lib.hid (fun W (h : Below w.heap.size w W)=>zamong_any B m d fr b W (hB.below h) hr hm)
 have HV : Hid (mayB ⟨fl,fr,nl,nr⟩ a b = ((nl || fl.contains a) && (nr || fr.contains b))):=Lib.hid rfl
 generalize mayB ⟨fl,fr,nl,nr⟩ a b = V at HV ⊢
 generalize fl.contains a = q1 at HI1 HV
 generalize fr.contains b = q2 at HI2 HV
 clear hA hB hl hr
 cases nl with
 | true =>
  cases nr with
  | true =>
   go_enter Tryz.func157,Tryz.ntmps157
   go_wp2
   go_ret
   exact ⟨by rw [HV.out];rfl,Hz⟩
  | false =>
   go_enter Tryz.func157,Tryz.ntmps157
   go_wp2_with fail
   refine (HI2.out _ Hz).mono ?_
   rintro e w2 ⟨rfl,rfl⟩
   go_wp2
   go_ret
   exact ⟨by rw [HV.out];rfl,Hz⟩
 | false =>
  cases q1 with
  | false =>
   go_enter Tryz.func157,Tryz.ntmps157
   go_wp2_with fail
   refine (HI1.out _ Hz).mono ?_
   rintro e w2 ⟨rfl,rfl⟩
   go_wp2
   go_ret
   exact ⟨by rw [HV.out];rfl,Hz⟩
  | true =>
   cases nr with
   | true =>
    go_enter Tryz.func157,Tryz.ntmps157
    go_wp2_with fail
    refine (HI1.out _ Hz).mono ?_
    rintro e w2 ⟨rfl,rfl⟩
    go_wp2
    go_ret
    exact ⟨by rw [HV.out];rfl,Hz⟩
   | false =>
    go_enter Tryz.func157,Tryz.ntmps157
    go_wp2_with fail
    refine (HI1.out _ Hz).mono ?_
    rintro e w2 ⟨rfl,rfl⟩
    go_wp2_with fail
    refine (HI2.out _ Hz).mono ?_
    rintro e w2 ⟨rfl,rfl⟩
    go_wp2
    go_ret
    exact ⟨by rw [HV.out];rfl,Hz⟩
end
section
open Go.RowKit
theorem linesB_split : ∀ (l acc : List UInt8),∃ x t,splitL l = x :: t∧linesB l acc = (acc.reverse++x) :: t
 | [],acc=>⟨[],[],rfl,by simp [linesB]⟩
 | c :: r,acc=>by
  have hc : c = 10 ↔ c.toNat = 10:=u8_eq (n:=10) (by omega)
  by_cases h : c.toNat = 10
  ·obtain ⟨x,t,h1,h2⟩:=linesB_split r []
   refine ⟨[],splitL r,by rw [splitL,if_pos (hc.2 h)],?_⟩
   rw [linesB,if_pos h,h2,h1];simp
  ·obtain ⟨x,t,h1,h2⟩:=linesB_split r (c :: acc)
   refine ⟨c :: x,t,by rw [splitL,if_neg (fun e=>h (hc.1 e)),h1],?_⟩
   rw [linesB,if_neg h,h2];simp
theorem linesB_eq (l : List UInt8) : linesB l [] = splitL l:=by
 obtain ⟨x,t,h1,h2⟩:=linesB_split l []
 rw [h1,h2];rfl
theorem split_each : ∀ (l : List UInt8),(splitL l).length≤l.length+1∧∀ x ∈ splitL l,x.length≤l.length
 | []=>by simp [splitL]
 | c :: r=>by
  obtain ⟨h1,h2⟩:=split_each r
  rw [splitL]
  split
  ·refine ⟨by simp;omega,fun x hx=>?_⟩
   rcases List.mem_cons.1 hx with rfl | hx
   ·simp
   ·have:=h2 x hx;simp;omega
  ·split
   ·exact ⟨by simp,by simp⟩
   ·rename_i x t hs
    rw [hs] at h1 h2
    refine ⟨by simp at h1 ⊢;omega,fun y hy=>?_⟩
    rcases List.mem_cons.1 hy with rfl | hy
    ·have:=h2 x (by simp);simp;omega
    ·have:=h2 y (List.mem_cons_of_mem _ hy);simp;omega
theorem rules_step {ns : List (List UInt8)} {ls : List (List UInt8)} {i : Nat} {l : List UInt8} {x y : RsP} (h : rulesGo ns (ls.drop i) x = some y) (hl : ls[i]? = some l) : ∃ z,ruleLine ns x l = some z∧rulesGo ns (ls.drop (i+1)) z = some y:=by
 obtain ⟨hi,e⟩:=List.getElem?_eq_some_iff.1 hl
 rw [List.drop_eq_getElem_cons hi,e,rulesGo] at h
 split at h
 ·cases h
 ·rename_i z hz
  exact ⟨z,hz,h⟩
theorem rules_end {ns : List (List UInt8)} {ls : List (List UInt8)} {i : Nat} {x y : RsP} (h : rulesGo ns (ls.drop i) x = some y) (hi : ls.length≤i) : x = y:=by
 rw [List.drop_eq_nil_of_le hi,rulesGo] at h
 injection h
theorem rulesP_some {ns : List (List UInt8)} {l : List UInt8} {y : RsP} (h : rulesP ns l = some y) : l.length≤16384∧rulesGo ns (splitL l) ⟨[],true,false⟩ = some y:=by
 unfold rulesP at h
 split at h
 ·cases h
 ·rw [linesB_eq] at h
  exact ⟨by omega,h⟩
def RRx (w : World) (p B : Nat) (A : Option Addr) (nn cn : Nat) (names : List (List UInt8)) (x : RsP) : Prop:=∃ v,RR w p B A nn cn names x.rules v x.rest x.rested
def RuCell (w : World) (b : Nat) (v : Sv) (rest : Bool) : Prop:=w.cell? ⟨b,0,none⟩ = some (.slice v.1 v.2.1 v.2.2)∧w.cell? ⟨b,1,none⟩ = some (.bool rest)
theorem res_parse8 (w : World) (b : Nat) (v : Sv) (rest : Bool) (tmps : Array Value) (h4 : tmps.getD 4 undef = .pointer (some ⟨b,0,none⟩)) (h5 : tmps.getD 5 undef = .int .i64 0) (h6 : tmps.getD 6 undef = .int .i64 0) (hc : RuCell w b v rest) : (results Tryz.f98 tmps).run Tryz.prog w = .ok (.tuple #[valRs v rest,.int .i64 0,.int .i64 0]) w:=by
 have h4' : tmps[4]?.getD undef = .pointer (some ⟨b,0,none⟩):=by simpa [Array.getD_eq_getD_getElem?] using h4
 have h5' : tmps[5]?.getD undef = .int .i64 0:=by simpa [Array.getD_eq_getD_getElem?] using h5
 have h6' : tmps[6]?.getD undef = .int .i64 0:=by simpa [Array.getD_eq_getD_getElem?] using h6
 obtain ⟨h0,h1⟩:=hc
 simp [results,Tryz.results98,go_sem,h4',h5',h6',h0,h1,valRs]
theorem oParse_any (t : List UInt8) (A : Option Addr) (nn cn : Nat) (names : List (List UInt8)) (y : RsP) (w : World) (hA : Rd w 1 A (names.map encNm)) (hAl : ∀ x,A = some x→x.block < w.heap.size) (hl : names.length = nn) (hn : nmsOk names = true) (hP : rulesP names t = some y) :
  Calls Tryz.prog 98 #[.string (bytesOf t),.slice A nn cn] w fun e w'=>∃ v,e = .returned (.tuple #[valRs v y.rest,.int .i64 0,.int .i64 0])∧RsX w' (fun b=>w.heap.size≤b) y.rules v∧Below w.heap.size w w':=by
 obtain ⟨hsz,hg⟩:=rulesP_some hP
 have hbs : (bytesOf t).size = t.length:=bytesOf_size t
 have HN:=Lib.hid (jNames_ok A nn cn names (w.alloc (.cells #[.slice none 0 0,.bool false] 110)) (hA.alloc _) hl hn)
 have HL:=Lib.hid (fun W=>oLines_any t W (by omega))
 have HE:=Lib.hid (split_each t)
 have HO:=Lib.hid (fun L p B x z W (h : RRx W p B A nn cn names x) (hL : L.length≤16384) (hP : ruleLine names x L = some z)=>(by
  obtain ⟨v,hv⟩:=h
  exact (oline_any L p B A nn cn names x z v W hv hn hL hP).mono fun e w' he=>⟨he.1,by obtain ⟨v',h1,h2,h3⟩:=he.2;exact ⟨⟨v',h1⟩,h2,h3⟩⟩ : Calls Tryz.prog 154 #[.pointer (some ⟨p,0,none⟩),.string (bytesOf L)] W fun e w'=>e = .returned (.int .i64 0)∧RRx w' p B A nn cn names z∧Below p W w'∧∀ i,i < B→i ≠ p→w'.heap[i]? = W.heap[i]?))
 have HG:=Lib.hid hg
 have HA:=Lib.hid hA
 have HAl:=Lib.hid hAl
 have Hl:=Lib.hid hl
 have h16 : ¬ 16384 < t.length:=by omega
 clear hA hAl hl hn hP hg
 go_enter Tryz.func98,Tryz.ntmps98
 go_wp2_with fail
 refine HN.out.mono ?_
 rintro e w1 ⟨rfl,q,rfl⟩
 have hB1 : Blk ((w.alloc (.cells #[.slice none 0 0,.bool false] 110)).drewN q) w.heap.size 110 #[.slice none 0 0,.bool false]:=(Blk.new w _ _).drewN q
 have hb1 : Below w.heap.size w ((w.alloc (.cells #[.slice none 0 0,.bool false] 110)).drewN q):=below_drewN ((Below.refl w.heap.size w).alloc (Nat.le_refl _) _) q
 have hz1 : ((w.alloc (.cells #[.slice none 0 0,.bool false] 110)).drewN q).heap.size = w.heap.size+1:=by simp
 generalize (w.alloc (.cells #[.slice none 0 0,.bool false] 110)).drewN q = V at hB1 hb1 hz1 ⊢
 have hP2 : Blk (V.alloc (.cells #[.slice A nn cn,.slice none 0 0,.bool true,.bool false] 191)) V.heap.size 191 #[.slice A nn cn,.slice none 0 0,.bool true,.bool false]:=Blk.new _ _ _
 rw [hz1] at hP2
 have hB2:=hB1.alloc (.cells #[.slice A nn cn,.slice none 0 0,.bool true,.bool false] 191)
 have hb2:=hb1.alloc (by omega) (.cells #[.slice A nn cn,.slice none 0 0,.bool true,.bool false] 191)
 have hz2 : (V.alloc (.cells #[.slice A nn cn,.slice none 0 0,.bool true,.bool false] 191)).heap.size = w.heap.size+2:=by simp;omega
 have HL2:=Lib.hid (HL.out (V.alloc (.cells #[.slice A nn cn,.slice none 0 0,.bool true,.bool false] 191)))
 clear HN HL hB1 hb1
 go_wp2_with fail
 refine HL2.out.mono ?_
 rintro e w3 ⟨AL,n,c,rfl,hol,hb3⟩
 have hP3:=hP2.below hb3
 have hB3:=hB2.below hb3
 have hbw3:=below_step hb2 hb3 (by omega)
 have hz3:=hb3.size
 have hnl : (splitL t).length = n:=by have:=hol.len;simpa using this
 have Hnl:=Lib.hid hnl
 have hnz : n≤16385:=by have:=HE.out.1;omega
 have hRL:=hol.rd (by decide)
 have hAL : ∀ a,AL = some a→w.heap.size+2≤a.block∧a.block < w3.heap.size:=fun a ha=>by have:=hol.lt a ha;omega
 have hR3 : RRx w3 (w.heap.size+1) w3.heap.size A nn cn names ⟨[],true,false⟩:=⟨(none,0,0),hP3,HA.out.below hbw3,Hl.out,fun x hx=>by have:=HAl.out x hx;omega,by omega,Nat.le_refl _,[],Own.nil_ _ _ _ _,rfl,fun i r u hr _=>by simp at hr⟩
 clear HL2 hP2 hB2 hb2 hb3 hP3 hnl hol hz1
 go_wp2_with fail
 go_loopw [9,10] (fun v9 _ wr=>∃ (i : Nat) (x : RsP),v9 = .int .i64 i∧i≤n∧RRx wr (w.heap.size+1) w3.heap.size A nn cn names x∧Hid (rulesGo names ((splitL t).drop i) x = some y)∧Below (w.heap.size+1) w3 wr∧∀ k,k < w3.heap.size→k ≠ w.heap.size+1→wr.heap[k]? = w3.heap[k]?) (fun v9 _ _=>n - (intOf v9).toNat)
 case atStart=>exact ⟨0,⟨[],true,false⟩,rfl,by omega,hR3,HG,Below.refl _ _,fun _ _ _=>rfl⟩
 case round =>
  clear hR3
  obtain ⟨i,x,rfl,hi,hR,HGi,hbr,hkr⟩:=hrel
  have hRLr : Rd wr 1 AL ((splitL t).map encNm):=hRL.keep fun b off k u ha hc=>by
   have:=hAL _ ha
   rw [← hc]
   simp [World.cell?,hkr b this.2 (by simp only at this;omega)]
  by_cases hlt : i < n
  ·obtain ⟨l,Hl2⟩ : ∃ l,Hid ((splitL t)[i]? = some l):=⟨_,Lib.hid (List.getElem?_eq_getElem (by have:=Hnl.out;omega))⟩
   obtain ⟨z,hz,hgz⟩:=rules_step HGi.out Hl2.out
   obtain ⟨b,off,rfl,hc⟩:=hRLr.atS Hl2.out
   have HO2:=Lib.hid (HO.out l _ _ x z wr hR (by have:=HE.out.2 l (List.mem_of_getElem? Hl2.out);omega) hz)
   have HGz:=Lib.hid hgz
   clear hz hgz hRLr
   go_wp2_with fail
   refine HO2.out.mono ?_
   rintro e w5 ⟨rfl,hR5,hb5,hk5⟩
   have hbr5:=hbr.trans hb5
   have hkr5 : ∀ k,k < w3.heap.size→k ≠ w.heap.size+1→w5.heap[k]? = w3.heap[k]?:=fun k h1 h2=>(hk5 k h1 h2).trans (hkr k h1 h2)
   clear HO2 hR hb5 hk5 hbr hkr
   go_wp2
   go_roundw
   case rel=>exact ⟨i+1,z,by go_num,by omega,hR5,HGz,hbr5,hkr5⟩
   case measure=>simp [intOf];omega
  ·obtain rfl : i = n:=by omega
   obtain rfl:=rules_end HGi.out (by have:=Hnl.out;omega)
   obtain ⟨v,hv⟩:=hR
   obtain ⟨A1,n1,c1'⟩:=v
   have c1:=hv.blk.cell 1
   have c2:=hv.blk.cell 2
   simp only [zG,zI,zH] at c1 c2
   have hB4 : Blk wr w.heap.size 110 #[.slice none 0 0,.bool false]:=(hbr.block _ (by omega)).trans hB3
   have z0:=hB4.cell 0
   have z1:=hB4.cell 1
   simp only [zG,zI,zH] at z0 z1
   have g0:=hB4.frozen 0
   have g1:=hB4.frozen 1
   have hk8 : wr.grownBy ((wr.setCell ⟨w.heap.size,0,none⟩ (.slice A1 n1 c1')).setCell ⟨w.heap.size,1,none⟩ (.bool x.rest)) (some w.heap.size):=only_setCell (only_setCell (only_refl _ _) (p:=⟨w.heap.size,0,none⟩) (.inl rfl) _) (p:=⟨w.heap.size,1,none⟩) (.inl rfl) _
   have hB8:=(hB4.set_ 0 (.slice A1 n1 c1')).set_ 1 (.bool x.rest)
   simp only [zD,zE,zF] at hB8
   have HX : Hid (RsX ((wr.setCell ⟨w.heap.size,0,none⟩ (.slice A1 n1 c1')).setCell ⟨w.heap.size,1,none⟩ (.bool x.rest)) (fun b=>w.heap.size≤b) x.rules (A1,n1,c1')):=Lib.hid (by
    obtain ⟨vs,ho,hvs,hru⟩:=hv.ex
    have hx1 : RsX wr (fun b=>w.heap.size+1≤b) x.rules (A1,n1,c1'):=⟨vs,SlX.own ho (by decide) (fun a ha=>by have:=(ho.lt a ha).1;omega),hvs,fun i r u hr hu=>(hru i r u hr hu).keep (KeepX.same (fun b h _=>by have:=h.1;omega))⟩
    exact hx1.keep ((KeepX.grown hk8 (fun r hr h=>by injection hr with hr;subst hr;omega)).trans (KeepX.same (fun b h _=>by omega))))
   have HB:=Lib.hid ((hbw3.trans (hbr.mono (by omega))).trans (below_only hk8 (by have:=hbr.size;omega) (Nat.le_refl _)))
   have HC : Hid (RuCell ((wr.setCell ⟨w.heap.size,0,none⟩ (.slice A1 n1 c1')).setCell ⟨w.heap.size,1,none⟩ (.bool x.rest)) w.heap.size (A1,n1,c1') x.rest):=Lib.hid ⟨hB8.cell 0,hB8.cell 1⟩
   clear hk8 hB8 hB4 hbr hkr hRLr hv
   go_wp2
   refine bodyPost_ret (res_parse8 _ w.heap.size (A1,n1,c1') x.rest _ rfl rfl rfl HC.out) rfl ?_
   exact ⟨_,rfl,HX.out,HB.out⟩
theorem vNames_any (base p x : Nat) (N : List (List UInt8)) (S : List (List (Int × Int))) (w : World) (h : RfB w base p x N S) (hz : N.length≤64) :
  Calls Tryz.prog 99 #[.pointer (some ⟨p,0,none⟩)] w fun e w'=>∃ A n c,e = .returned (.slice A n c)∧Own w' w.heap.size 9 1 A n c (N.map encNm)∧Below w.heap.size w w':=by
 obtain ⟨i0,hi0,hz0,hz1,hz2⟩:=info_parts info_cloneS
 obtain ⟨An,nn,cn,As,ns,cs,xs,hX⟩:=h.ex
 have hl:=hX.lenN
 have Hl:=Lib.hid hl
 have c0:=hX.blk.cell 0
 simp only [zG,zH] at c0
 have c0':=cell_alloc9 c0 (.cells #[] 9)
 have hA:=hX.hn.rd (by decide)
 have hnz : nn≤64:=by omega
 clear h hX hl hz
 go_enter Tryz.func99,Tryz.ntmps99
 go_wp2_with (at_builtin;go_must (refine wpList_app rfl (.tmp 3) (.tmp 7) _ rfl w.heap.size 9 i0 _ 1 16 Tryz.underlying122 hi0 hz0 hz1 hz2 rfl (by omega) (some ⟨w.heap.size,0,none⟩) 0 0 [] rfl (Own.lit w w.heap.size 9 1 (Nat.le_refl _)) An nn cn (N.map encNm) rfl (by rw [List.length_map];exact Hl.out) (hA.alloc _) (encNm_ok N) (by unfold maxLen;omega) (by omega) (by simp) ?_);intro A3 c3 w3 ho3 hg3 hA3)
 go_ret
 rw [Nat.zero_add] at ho3
 exact ⟨A3,nn,c3,rfl,by simpa using ho3,below_app ((Below.refl _ _).alloc (Nat.le_refl _) _) hg3 (by simp) (fun a ha=>by injection ha with ha;subst ha;exact Nat.le_refl _)⟩
end
end Go.Proofs.YtglmcknlnoknoaaGreatDoor
