/- -/
import Derived.Test.YtlfpdpbbkjnapaaGreatDoorYPlacesTells4a
import Derived.Test.YtlfpdpbbkjnapaaGreatDoorYPlacesTells0b
import Derived.Test.YtlfpdpbbkjnapaaGreatDoorYPlacesTells1a
namespace Go.Proofs.YtlfpdpbbkjnapaaGreatDoor
set_option maxRecDepth 100000
set_option maxHeartbeats 40000000
section
open Go.RowKit
theorem ruleLine_cases {ns : List (List UInt8)} {x y : RsP} {l : List UInt8} (h : ruleLine ns x l = some y) : (plainB l = [] ∧ y = x) ∨
    (plainB l ≠ [] ∧ ∃ a c b, plainB l = a ++ c :: b ∧ (∀ z ∈ a, pSign z = false) ∧ pSign c = true ∧ (∀ z ∈ b, pSign z = false) ∧ x.rested = false ∧
      ((trimB a = restB ∧ trimB b = [] ∧ y = { x with rest := decide (c.toNat = 47), rested := true }) ∨
       (trimB a ≠ restB ∧ x.rules.length < 64 ∧ ∃ p q, patOf ns (if (trimB a).head? == some 94 then (trimB a).drop 1 else trimB a) = some p ∧ patOf ns (if (trimB b).getLast? == some 36 then (trimB b).dropLast else trimB b) = some q ∧
         y = { x with rules := x.rules ++ [⟨decide (c.toNat = 47), (trimB a).head? == some 94, (trimB b).getLast? == some 36, p, q⟩] }))) := by
  unfold ruleLine at h
  split at h
  · rename_i hp
    injection h with h
    exact .inl ⟨hp, h.symm⟩
  · rename_i h0 t hp
    rw [hp]
    refine .inr ⟨by simp, ?_⟩
    split at h
    · cases h
    · rename_i a cut b hs
      obtain ⟨c, e, h1, h2, h3, h4⟩ := signP_some hs
      split at h
      · cases h
      · rename_i hr
        refine ⟨a, c, b, e, h1, h2, h3, by simpa using hr, ?_⟩
        split at h
        · rename_i hrest
          split at h
          · rename_i hb
            injection h with h
            exact .inl ⟨by simpa using hrest, by simpa using hb, by rw [← h, h4]⟩
          · cases h
        · rename_i hrest
          split at h
          · cases h
          · rename_i hz
            split at h
            · rename_i p q hp hq
              injection h with h
              exact .inr ⟨by simpa using hrest, by omega, p, q, hp, hq, by rw [← h, h4]⟩
            · cases h
structure RR (w : World) (p B : Nat) (A : Option Addr) (nn cn : Nat) (names : List (List UInt8)) (rules : List RuleP) (v : Sv) (rest rested : Bool) : Prop where
 blk : Blk w p 201 #[.slice A nn cn,.slice v.1 v.2.1 v.2.2,.bool rest,.bool rested]
 nm : Rd w 1 A (names.map encNm)
 len : names.length = nn
 off : ∀ x,A = some x→x.block < p
 pb : p < B
 bz : B≤w.heap.size
 ex : ∃ vs : List Ruv,Own w B 223 9 v.1 v.2.1 v.2.2 (vs.map encRul)∧vs.length = rules.length∧∀ (i : Nat) (r : RuleP) (u : Ruv),rules[i]? = some r→vs[i]? = some u→RuX w (OffX B v.1) r u
theorem RR.below {w w' : World} {p B : Nat} {A : Option Addr} {nn cn : Nat} {names : List (List UInt8)} {rules : List RuleP} {v : Sv} {rest rested : Bool} (h : RR w p B A nn cn names rules v rest rested) (hb : Below w.heap.size w w') : RR w' p B A nn cn names rules v rest rested:=by
 obtain ⟨vs,h1,h2,h3⟩:=h.ex
 exact ⟨h.blk.below hb,h.nm.below hb,h.len,h.off,h.pb,Nat.le_trans h.bz hb.size,vs,h1.below hb,h2,fun i r u hr hu=>(h3 i r u hr hu).below hb⟩
theorem RR.below' {w w' : World} {p B : Nat} {A : Option Addr} {nn cn : Nat} {names : List (List UInt8)} {rules : List RuleP} {v : Sv} {rest rested : Bool} (h : RR w p B A nn cn names rules v rest rested) (hb : Below w.heap.size w w') : RR w' p B A nn cn names rules v rest rested:=h.below hb
theorem infoRule : (Tryz.prog.info? 223).map (fun i=>(i.zero,i.size,i.bytes)) = some (some (.agg #[.bool false,.bool false,.bool false,.int .i64 0,.slice none 0 0,.slice none 0 0,.int .i64 0,.slice none 0 0,.slice none 0 0]),9,120):=by kernel_rfl
theorem otrim_B (l : List UInt8) (w : World) (hL : l.length≤1000000) : Calls Tryz.prog 175 #[.string (bytesOf l)] w fun e w'=>e = .returned (.string (bytesOf (trimB l)))∧w = w':=by rw [trimB_eq];exact otrim_any l w hL
theorem trimB_len (l : List UInt8) : (trimB l).length≤l.length:=by
 unfold trimB
 rw [List.length_reverse]
 refine Nat.le_trans (List.dropWhile_suffix _).length_le ?_
 rw [List.length_reverse]
 exact (List.dropWhile_suffix _).length_le
theorem plainB_len (l : List UInt8) : (plainB l).length≤l.length:=by
 unfold plainB
 exact Nat.le_trans (trimB_len _) (List.takeWhile_prefix _).length_le
theorem emptyB_of (l : List UInt8) : (bytesOf l).toList.isEmpty = l.isEmpty:=by rw [ByteArray.toList_eq,bytesOf_list]
theorem rest_of (l : List UInt8) : ((bytesOf l).toList == [114,101,115,116]) = (l == restB):=by rw [ByteArray.toList_eq,bytesOf_list];rfl
theorem cell_alloc9 {w : World} {a : Addr} {u : Value} (h : w.cell? a = some u) (o : Obj) : (w.alloc o).cell? a = some u:=cell_keep h ((Below.refl _ _).alloc (Nat.le_refl _) o)
theorem encRul_ok (v : Ruv) : ∀ y ∈ [encRul v],y.length = 9∧∀ u ∈ y,u.oneCell' = true:=fun y hy=>by
 simp only [List.mem_singleton] at hy
 subst hy
 refine ⟨rfl,fun u hu=>?_⟩
 simp only [encRul,encPt,List.cons_append,List.nil_append,List.mem_cons,List.not_mem_nil,or_false] at hu
 rcases hu with rfl | rfl | rfl | rfl | rfl | rfl | rfl | rfl | rfl <;> rfl
def LnP (w : World) (p B : Nat) (A : Option Addr) (nn cn : Nat) (names : List (List UInt8)) (rules : List RuleP) (rest rested : Bool) (w' : World) : Prop:=∃ v',RR w' p B A nn cn names rules v' rest rested∧Below p w w'∧∀ i,i < B→i ≠ p→w'.heap[i]? = w.heap[i]?
theorem oline_any (L : List UInt8) (p B : Nat) (A : Option Addr) (nn cn : Nat) (names : List (List UInt8)) (x y : RsP) (v : Sv) (w : World) (h : RR w p B A nn cn names x.rules v x.rest x.rested) (hn : nmsOk names = true) (hL : L.length≤16384) (hP : ruleLine names x L = some y) :
  Calls Tryz.prog 151 #[.pointer (some ⟨p,0,none⟩),.string (bytesOf L)] w fun e w'=>e = .returned (.int .i64 0)∧LnP w p B A nn cn names y.rules y.rest y.rested w':=by
 have HPl:=Lib.hid (oplain_any L w (by omega))
 have hMz:=Nat.le_trans (plainB_len L) hL
 have HR:=Lib.hid h
 have hpw:=h.blk.lt
 rcases ruleLine_cases hP with ⟨h0,rfl⟩ | ⟨h0,a,c,b,hM,s1,s2,s3,hrd,hcs⟩
 ·have hem : (bytesOf (plainB L)).toList.isEmpty = true:=by rw [emptyB_of,h0];rfl
  clear h hP h0
  go_enter Tryz.func151,Tryz.ntmps151
  go_wp2_with fail
  refine HPl.out.mono ?_
  rintro e w2 ⟨rfl,rfl⟩
  go_wp2
  go_ret
  exact ⟨rfl,v,HR.out,Below.refl _ _,fun _ _ _=>rfl⟩
 have hem : (bytesOf (plainB L)).toList.isEmpty = false:=by rw [emptyB_of];cases hq : plainB L with | nil=>exact absurd hq h0 | cons _ _=>rfl
 have HSp:=Lib.hid (osplit_ok a b c w (by rw [← hM];omega) s1 s2 s3)
 rw [← hM] at HSp
 have hal : a.length < (plainB L).length:=by rw [hM];simp
 obtain ⟨x0,hx0,hidx⟩:=byte_of (plainB L) hal
 have hx0c : x0 = c:=by
  rw [hM,List.getElem?_append_right (Nat.le_refl _),Nat.sub_self] at hx0
  simpa using hx0.symm
 subst hx0c
 obtain ⟨cut,Hcut⟩ : ∃ q,Hid (decide (x0.toNat = 47) = q):=⟨_,Lib.hid rfl⟩
 have e47 : ((x0.toNat : Int) == 47) = cut:=by rw [← Hcut.out,Bool.eq_iff_iff,beq_iff_eq,decide_eq_true_iff];omega
 rw [Hcut.out] at hcs
 have HT:=Lib.hid (fun i j W=>show Calls Tryz.prog 175 #[.string ((bytesOf (plainB L)).extract i j)] W fun e w'=>e = .returned (.string (bytesOf (trimB (((plainB L).drop i).take (j - i)))))∧W = w' by
  rw [ext_bytes2];exact otrim_B _ W (by rw [List.length_take,List.length_drop];omega))
 have e1 : (((plainB L).drop 0).take (a.length - 0)) = a:=by rw [hM];simp
 have e2 : ((plainB L).drop (a.length+1)).take ((plainB L).length - (a.length+1)) = b:=by
  rw [hM,List.take_of_length_le (by simp;omega),List.drop_append]
  simp
 have E1:=Lib.hid e1
 have E2:=Lib.hid e2
 have Hcs:=Lib.hid hcs
 have hsz : (bytesOf (plainB L)).size = (plainB L).length:=bytesOf_size _
 have c0:=h.blk.cell 0
 have c1:=h.blk.cell 1
 have c3:=h.blk.cell 3
 simp only [zG,zI,zH] at c0 c1 c3
 rw [hrd] at c3
 have t0 : ¬ ((a.length : Int) < 0):=by omega
 have hal2 : (a.length : Int)+1≤((plainB L).length : Int):=by omega
 have hal3 : (a.length : Int) < ((plainB L).length : Int):=by omega
 generalize plainB L = M at HPl hem HSp hidx HT hMz hsz hal hal2 hal3 E1 E2
 generalize a.length = m at HSp hidx hal hal2 hal3 t0 E1 E2
 clear h hP h0 hM s1 s2 s3 hx0 hcs e1 e2
 go_enter Tryz.func151,Tryz.ntmps151
 go_wp2_with fail
 refine HPl.out.mono ?_
 rintro e w2 ⟨rfl,rfl⟩
 go_wp2_with fail
 refine HSp.out.mono ?_
 rintro e w2 ⟨rfl,rfl⟩
 go_upto_region 8 with fail
 go_quiet ((go_at_call 175;exact quiet_left (HT.out _ _ _)))
 rw [E1.out,E2.out]
 go_upto_region 9 with fail
 have hlrz : (trimB a).length≤16384∧(trimB b).length≤16384:=by
  have h1:=trimB_len a
  have h2:=trimB_len b
  have h3 : a.length≤M.length:=by rw [← E1.out];simp <;> omega
  have h4 : b.length≤M.length:=by rw [← E2.out];simp <;> omega
  omega
 generalize trimB a = l at Hcs hlrz ⊢
 generalize trimB b = r at Hcs hlrz ⊢
 have hbd:=below_refl_drewN (B:=w.heap.size) w nq
 have HR1:=Lib.hid (HR.out.below hbd)
 have hz1 : (w.drewN nq).heap.size = w.heap.size:=rfl
 clear c0 c1 c3
 generalize w.drewN nq = w1 at hbd HR1 hz1 ⊢
 rcases Hcs.out with ⟨rfl,rfl,rfl⟩ | ⟨hlr,hlen,pl,pr,hpl,hpr,rfl⟩
 ·have q1 : ((bytesOf restB).toList == [114,101,115,116]) = true:=by rw [rest_of];exact beq_self_eq_true _
  have q2 : (bytesOf []).toList.isEmpty = true:=by rw [emptyB_of];rfl
  have c2:=HR1.out.blk.cell 2
  have c3:=HR1.out.blk.cell 3
  simp only [zG,zI,zH] at c2 c3
  have g2:=HR1.out.blk.frozen 2
  have g3:=HR1.out.blk.frozen 3
  clear Hcs
  go_wp2
  go_ret
  obtain ⟨vs,ho,hv,hru⟩:=HR1.out.ex
  have hk : w1.grownBy ((w1.setCell ⟨p,2,none⟩ (.bool cut)).setCell ⟨p,3,none⟩ (.bool true)) (some p):=only_setCell (only_setCell (only_refl _ _) (p:=⟨p,2,none⟩) (.inl rfl) _) (p:=⟨p,3,none⟩) (.inl rfl) _
  have hof:=HR1.out.off
  refine ⟨rfl,v,⟨?_,(HR1.out.nm.setCell (p:=⟨p,2,none⟩) (fun x hx e=>by have:=hof x hx;simp only at e;omega) _).setCell (p:=⟨p,3,none⟩) (fun x hx e=>by have:=hof x hx;simp only at e;omega) _,HR1.out.len,hof,HR1.out.pb,by have:=HR1.out.bz;simpa using this,vs,(ho.setCell (p:=⟨p,2,none⟩) (fun x hx e=>by have:=(ho.lt x hx).1;have:=HR1.out.pb;simp only at e;omega) _).setCell (p:=⟨p,3,none⟩) (fun x hx e=>by have:=(ho.lt x hx).1;have:=HR1.out.pb;simp only at e;omega) _,hv,fun i r u hr hu=>(hru i r u hr hu).keep (KeepX.grown hk (fun r hr h=>by injection hr with hr;subst hr;have:=h.1;have:=HR1.out.pb;omega))⟩,?_,fun i hi hne=>(hk.block i (by have:=HR1.out.bz;omega) (fun e=>hne (by injection e))).trans (hbd.block i (by have:=HR.out.bz;omega))⟩
  ·have:=(HR1.out.blk.set_ 2 (.bool cut)).set_ 3 (.bool true)
   simpa using this
  ·exact (hbd.mono (by omega)).trans (below_only hk (by omega) (Nat.le_refl _))
 ·have q1 : ((bytesOf l).toList == [114,101,115,116]) = false:=by rw [rest_of];exact beq_eq_false_iff_ne.2 hlr
  have c1:=HR1.out.blk.cell 1
  simp only [zG,zI,zH] at c1
  have hvl : v.2.1 = x.rules.length:=by
   obtain ⟨vs,ho,hv,_⟩:=HR1.out.ex
   have:=ho.len
   rw [List.length_map] at this
   omega
  have hv64 : ¬ (64≤v.2.1):=by omega
  have hv9 : v.2.1≤64:=by omega
  have Hvl:=Lib.hid hvl
  clear hvl
  go_upto_region 18 with fail
  have hBr : Blk (w1.alloc (.cells #[.bool cut,.bool false,.bool false,.int .i64 0,.slice none 0 0,.slice none 0 0,.int .i64 0,.slice none 0 0,.slice none 0 0] 223)) w1.heap.size 223 #[.bool cut,.bool false,.bool false,.int .i64 0,.slice none 0 0,.slice none 0 0,.int .i64 0,.slice none 0 0,.slice none 0 0]:=Blk.new _ _ _
  have hbV:=hbd.alloc (by omega) (.cells #[.bool cut,.bool false,.bool false,.int .i64 0,.slice none 0 0,.slice none 0 0,.int .i64 0,.slice none 0 0,.slice none 0 0] 223)
  rw [hz1] at hBr
  generalize w1.alloc (.cells #[.bool cut,.bool false,.bool false,.int .i64 0,.slice none 0 0,.slice none 0 0,.int .i64 0,.slice none 0 0,.slice none 0 0] 223) = V at hBr hbV ⊢
  obtain ⟨st,Hst⟩ : ∃ q,Hid ((l.head? == some 94) = q):=⟨_,Lib.hid rfl⟩
  obtain ⟨en,Hen⟩ : ∃ q,Hid ((r.getLast? == some 36) = q):=⟨_,Lib.hid rfl⟩
  obtain ⟨l',Hl'⟩ : ∃ q,Hid ((if l.head? == some 94 then l.drop 1 else l) = q):=⟨_,Lib.hid rfl⟩
  obtain ⟨r',Hr'⟩ : ∃ q,Hid ((if r.getLast? == some 36 then r.dropLast else r) = q):=⟨_,Lib.hid rfl⟩
  rw [Hl'.out] at hpl
  rw [Hr'.out] at hpr
  have Hpl:=Lib.hid hpl
  have Hpr:=Lib.hid hpr
  have Hst2:=Lib.hid (show LnP w p B A nn cn names (x.rules++[⟨cut,st,en,pl,pr⟩]) x.rest x.rested = LnP w p B A nn cn names (x.rules++[⟨cut,l.head? == some 94,r.getLast? == some 36,pl,pr⟩]) x.rest x.rested by rw [Hst.out,Hen.out])
  have hlz : l.length≤16384:=hlrz.1
  have hrz : r.length≤16384:=hlrz.2
  have hlsz : (bytesOf l).size = l.length:=bytesOf_size l
  have hrsz : (bytesOf r).size = r.length:=bytesOf_size r
  clear hpl hpr Hcs hlr hz1 c1 hv64
  go_cut [70] from 64 to 69 (fun v wx=>v = .bool st∧wx = V)
  case first =>
   cases l with
   | nil =>
    have q2 : (bytesOf []).toList.isEmpty = true:=by rw [emptyB_of];rfl
    have hst0 : st = false:=by rw [← Hst.out];rfl
    subst hst0
    go_wp2_with fail
    go_meet
    exact ⟨rfl,rfl⟩
   | cons b0 l0 =>
    have q2 : (bytesOf (b0 :: l0)).toList.isEmpty = false:=by rw [emptyB_of];rfl
    obtain ⟨b1,hb1,hidx⟩:=byte_of (b0 :: l0) (i:=0) (by simp)
    have hb10 : b1 = b0:=by simpa using hb1.symm
    subst hb10
    have hidx0 : ∀ W,(Instr.index 9 (.string (bytesOf (b1 :: l0))) (.int .i64 0)).run Tryz.prog W = .ok (.int .u8 (b1.toNat : Int)) W:=hidx
    have hu : b1 = 94 ↔ b1.toNat = 94:=u8_eq (n:=94) (by omega)
    have e94 : ((b1.toNat : Int) == 94) = st:=by
     rw [← Hst.out,Bool.eq_iff_iff,beq_iff_eq,List.head?_cons,beq_iff_eq,Option.some_inj,hu];omega
    have hl1 : (0 : Int) < ((b1 :: l0).length : Int):=by simp <;> omega
    clear hu
    clear hb1 hidx
    go_wp2_with fail
    go_meet
    exact ⟨by first | rfl | rw [e94],rfl⟩
  case rest =>
   obtain ⟨rfl,rfl⟩:=hcut
   go_upto_if 70 with fail
   go_cut [7] from 71 to 73 (fun v wx=>v = .string (bytesOf l')∧Blk wx w.heap.size 223 #[.bool cut,.bool st,.bool false,.int .i64 0,.slice none 0 0,.slice none 0 0,.int .i64 0,.slice none 0 0,.slice none 0 0]∧Below w.heap.size w wx)
   case first =>
    cases st with
    | true =>
     have hl0 : l' = l.drop 1:=by rw [← Hl'.out,Hst.out];rfl
     have hl1 : (1 : Int)≤(l.length : Int):=by
      have h1:=Hst.out
      cases l with
      | nil=>simp at h1
      | cons _ _=>simp <;> omega
     have HX:=Lib.hid (ext_bytes l 1)
     rw [hlsz,← hl0] at HX
     have c1:=hBr.cell 1
     simp only [zG,zI,zH] at c1
     have g1:=hBr.frozen 1
     have hB2:=hBr.set_ 1 (.bool true)
     simp only [zD,zE,zF] at hB2
     have HB2:=Lib.hid hB2
     have hb2:=hbV.setCell (p:=⟨w.heap.size,1,none⟩) (Nat.le_refl _) (.bool true)
     clear hB2 hl0
     go_wp2_with fail
     go_meet
     exact ⟨congrArg Value.string HX.out,HB2.out,hb2⟩
    | false =>
     have hl0 : l' = l:=by rw [← Hl'.out,Hst.out];rfl
     subst hl0
     go_wp2_with fail
     go_meet
     exact ⟨rfl,hBr,hbV⟩
   case rest =>
    clear hBr hbV Hl' Hst hlsz hlz
    obtain ⟨rfl,hBr,hbV⟩:=hcut
    generalize wc = V at hBr hbV ⊢
    go_upto_region 21 with fail
    go_cut [83] from 74 to 82 (fun v wx=>v = .bool en∧wx = V)
    case first =>
     rcases List.eq_nil_or_concat r with rfl | ⟨r0,b0,rfl⟩
     ·have q2 : (bytesOf []).toList.isEmpty = true:=by rw [emptyB_of];rfl
      have hst0 : en = false:=by rw [← Hen.out];rfl
      subst hst0
      go_wp2_with fail
      go_meet
      exact ⟨rfl,rfl⟩
     ·rw [List.concat_eq_append] at *
      have q2 : (bytesOf (r0++[b0])).toList.isEmpty = false:=by rw [emptyB_of];simp
      obtain ⟨b1,hb1,hidx⟩:=byte_of (r0++[b0]) (i:=r0.length) (by simp)
      have hb10 : b1 = b0:=by simpa using hb1.symm
      subst hb10
      have hrl : (r0++[b1]).length = r0.length+1:=by simp
      rw [hrl] at hrsz hrz
      have ei : ((r0.length : Int)+1 - 1) = (r0.length : Int):=by omega
      have hidx2 : ∀ W,(Instr.index 9 (.string (bytesOf (r0++[b1]))) (.int .i64 ((r0.length : Int)+1 - 1))).run Tryz.prog W = .ok (.int .u8 (b1.toNat : Int)) W:=by rw [ei];exact hidx
      have hu : b1 = 36 ↔ b1.toNat = 36:=u8_eq (n:=36) (by omega)
      have e36 : ((b1.toNat : Int) == 36) = en:=by
       have hgl : (r0++[b1]).getLast? = some b1:=by simp
       rw [← Hen.out,hgl,Bool.eq_iff_iff,beq_iff_eq,beq_iff_eq,Option.some_inj,hu];omega
      clear hu
      clear hb1
      go_wp2_with fail
      go_meet
      exact ⟨by first | rfl | rw [e36],rfl⟩
    case rest =>
     obtain ⟨rfl,rfl⟩:=hcut
     go_upto_if 83 with fail
     go_cut [8] from 84 to 89 (fun v wx=>v = .string (bytesOf r')∧Blk wx w.heap.size 223 #[.bool cut,.bool st,.bool en,.int .i64 0,.slice none 0 0,.slice none 0 0,.int .i64 0,.slice none 0 0,.slice none 0 0]∧Below w.heap.size w wx)
     case first =>
      cases en with
      | true =>
       obtain ⟨r0,rfl⟩ : ∃ r0,r = r0++[36]:=by
        have h1:=Hen.out
        rcases List.eq_nil_or_concat r with rfl | ⟨r0,b0,rfl⟩
        ·simp at h1
        ·rw [List.concat_eq_append] at h1 ⊢
         have : b0 = 36:=by simpa using h1
         exact ⟨r0,by rw [this]⟩
       have hl0 : r' = r0:=by rw [← Hr'.out];simp
       subst hl0
       have hrl : (r'++[36]).length = r'.length+1:=by simp
       rw [hrl] at hrsz hrz
       have HX : Hid ((bytesOf (r'++[36])).extract 0 r'.length = bytesOf r'):=Lib.hid (by rw [ext_bytes0];simp)
       have c2:=hBr.cell 2
       simp only [zG,zI,zH] at c2
       have g2:=hBr.frozen 2
       have hB2:=hBr.set_ 2 (.bool true)
       simp only [zD,zE,zF] at hB2
       have HB2:=Lib.hid hB2
       have hb2:=hbV.setCell (p:=⟨w.heap.size,2,none⟩) (Nat.le_refl _) (.bool true)
       clear hB2
       go_wp2_with fail
       go_meet
       exact ⟨by first | exact congrArg Value.string HX.out | rfl,HB2.out,hb2⟩
      | false =>
       have hl0 : r' = r:=by rw [← Hr'.out,Hen.out];rfl
       subst hl0
       go_wp2_with fail
       go_meet
       exact ⟨rfl,hBr,hbV⟩
     case rest =>
      clear hBr hbV Hr' Hen hrsz hrz
      obtain ⟨rfl,hBr,hbV⟩:=hcut
      generalize wc = V at hBr hbV ⊢
      have hrr:=HR.out.below' hbV
      have c0:=hrr.blk.cell 0
      simp only [zG,zH] at c0
      have HJ1:=Lib.hid (jParse_any (bytesOf l') A nn cn names pl V hrr.nm (fun x hx=>by have:=hrr.off x hx;have:=hrr.blk.lt;omega) hrr.len hn (by rw [bytesOf_list];exact Hpl.out))
      have hVz:=hBr.lt
      go_wp2_with fail
      refine HJ1.out.mono ?_
      rintro e w3 ⟨v3,rfl,hp3,hb3⟩
      obtain ⟨k0,⟨A1,n1,c1'⟩,⟨A2,n2,c2'⟩⟩:=v3
      have hw3:=below_step hbV hb3 hbV.size
      have hB3:=hBr.below hb3
      have hal3 : Below w3.heap.size w3 (w3.alloc (.cells #[.int .i64 (k0 : Int),.slice A1 n1 c1',.slice A2 n2 c2'] 221)):=(Below.refl w3.heap.size w3).alloc (Nat.le_refl _) _
      have hN3 : Blk (w3.alloc (.cells #[.int .i64 (k0 : Int),.slice A1 n1 c1',.slice A2 n2 c2'] 221)) w3.heap.size 221 #[.int .i64 (k0 : Int),.slice A1 n1 c1',.slice A2 n2 c2']:=Blk.new _ _ _
      have hw4:=below_step hw3 hal3 hw3.size
      have hB4:=hB3.below hal3
      have hp4:=hp3.below hal3
      have hz3:=hb3.size
      simp only [valPt]
      clear HJ1 hp3 hB3 hbV hBr hrr c0 hb3 hw3
      go_upto_region 27 with fail
      generalize w3.alloc (.cells #[.int .i64 (k0 : Int),.slice A1 n1 c1',.slice A2 n2 c2'] 221) = V4 at hN3 hw4 hB4 hp4 ⊢
      clear hal3
      generalize w3.heap.size = g1 at hN3 hz3 ⊢
      generalize hZ : V.heap.size = Z at hVz hz3 hp4
      have hrr:=HR.out.below' hw4
      have c0:=hrr.blk.cell 0
      simp only [zG,zH] at c0
      have HJ2:=Lib.hid (jParse_any (bytesOf r') A nn cn names pr V4 hrr.nm (fun x hx=>by have:=hrr.off x hx;have:=hrr.blk.lt;omega) hrr.len hn (by rw [bytesOf_list];exact Hpr.out))
      have hg1z:=hN3.lt
      go_wp2_with fail
      refine HJ2.out.mono ?_
      rintro e w5 ⟨v5,rfl,hp5,hb5⟩
      obtain ⟨k3,⟨A4,n4,c4'⟩,⟨A5,n5,c5'⟩⟩:=v5
      have hw5:=below_step hw4 hb5 hw4.size
      have hB5:=hB4.below hb5
      have hN5:=hN3.below hb5
      have hp45:=hp4.below hb5
      have hal5 : Below w5.heap.size w5 (w5.alloc (.cells #[.int .i64 (k3 : Int),.slice A4 n4 c4',.slice A5 n5 c5'] 221)):=(Below.refl w5.heap.size w5).alloc (Nat.le_refl _) _
      have hM6 : Blk (w5.alloc (.cells #[.int .i64 (k3 : Int),.slice A4 n4 c4',.slice A5 n5 c5'] 221)) w5.heap.size 221 #[.int .i64 (k3 : Int),.slice A4 n4 c4',.slice A5 n5 c5']:=Blk.new _ _ _
      have hw6:=below_step hw5 hal5 hw5.size
      have hB6:=hB5.below hal5
      have hN6:=hN5.below hal5
      have hp46:=hp45.below hal5
      have hp6:=PatX.below (hp5.keep (X':=fun b=>Z≤b) (KeepX.same (fun b h _=>by omega))) hal5
      have hz5:=hb5.size
      simp only [valPt]
      clear HJ2 hp5 hB5 hw4 hB4 hrr c0 hb5 hw5 hN5 hp45 hN3 hp4
      go_upto_region 28 with fail
      generalize w5.alloc (.cells #[.int .i64 (k3 : Int),.slice A4 n4 c4',.slice A5 n5 c5'] 221) = V6 at hM6 hw6 hB6 hN6 hp46 hp6 ⊢
      clear hal5
      generalize w5.heap.size = g2 at hM6 hz5 ⊢
      have x0:=hN6.cell 0
      have x1:=hN6.cell 1
      have x2:=hN6.cell 2
      have y0:=hM6.cell 0
      have y1:=hM6.cell 1
      have y2:=hM6.cell 2
      have r3:=hB6.cell 3
      have r4:=hB6.cell 4
      have r5:=hB6.cell 5
      have r6:=hB6.cell 6
      have r7:=hB6.cell 7
      have r8:=hB6.cell 8
      simp only [zG,zI,zH] at x0 x1 x2 y0 y1 y2 r3 r4 r5 r6 r7 r8
      have f3:=hB6.frozen 3
      have f4:=hB6.frozen 4
      have f5:=hB6.frozen 5
      have f6:=hB6.frozen 6
      have f7:=hB6.frozen 7
      have f8:=hB6.frozen 8
      have hgR : V6.grownBy ((((((V6.setCell ⟨w.heap.size,3,none⟩ (.int .i64 (k0 : Int))).setCell ⟨w.heap.size,4,none⟩ (.slice A1 n1 c1')).setCell ⟨w.heap.size,5,none⟩ (.slice A2 n2 c2')).setCell ⟨w.heap.size,6,none⟩ (.int .i64 (k3 : Int))).setCell ⟨w.heap.size,7,none⟩ (.slice A4 n4 c4')).setCell ⟨w.heap.size,8,none⟩ (.slice A5 n5 c5')) (some w.heap.size):=only_setCell (only_setCell (only_setCell (only_setCell (only_setCell (only_setCell (only_refl _ _) (p:=⟨w.heap.size,3,none⟩) (.inl rfl) _) (p:=⟨w.heap.size,4,none⟩) (.inl rfl) _) (p:=⟨w.heap.size,5,none⟩) (.inl rfl) _) (p:=⟨w.heap.size,6,none⟩) (.inl rfl) _) (p:=⟨w.heap.size,7,none⟩) (.inl rfl) _) (p:=⟨w.heap.size,8,none⟩) (.inl rfl) _
      have hB7:=(((((hB6.set_ 3 (.int .i64 (k0 : Int))).set_ 4 (.slice A1 n1 c1')).set_ 5 (.slice A2 n2 c2')).set_ 6 (.int .i64 (k3 : Int))).set_ 7 (.slice A4 n4 c4')).set_ 8 (.slice A5 n5 c5')
      simp only [zD,zE,zF] at hB7
      have hw7 : Below w.heap.size w ((((((V6.setCell ⟨w.heap.size,3,none⟩ (.int .i64 (k0 : Int))).setCell ⟨w.heap.size,4,none⟩ (.slice A1 n1 c1')).setCell ⟨w.heap.size,5,none⟩ (.slice A2 n2 c2')).setCell ⟨w.heap.size,6,none⟩ (.int .i64 (k3 : Int))).setCell ⟨w.heap.size,7,none⟩ (.slice A4 n4 c4')).setCell ⟨w.heap.size,8,none⟩ (.slice A5 n5 c5')):=hw6.trans (below_only hgR hw6.size (Nat.le_refl _))
      have hp47:=hp46.keep (KeepX.grown hgR (fun r hr h=>by injection hr with hr;subst hr;omega))
      have hp7:=hp6.keep (KeepX.grown hgR (fun r hr h=>by injection hr with hr;subst hr;omega))
      have HF:=Lib.hid (And.intro hB7 (And.intro hw7 (And.intro hp47 hp7)))
      clear hgR hB7 hw7 hp47 hp7 hB6 hN6 hM6 hp46 hp6 hw6
      go_upto_region 32 with fail
      clear x0 x1 x2 y0 y1 y2 r3 r4 r5 r6 r7 r8 f3 f4 f5 f6 f7 f8
      obtain ⟨hB7,hw7,hp47,hp7⟩:=HF.out
      clear HF
      generalize ((((((V6.setCell ⟨w.heap.size,3,none⟩ (.int .i64 (k0 : Int))).setCell ⟨w.heap.size,4,none⟩ (.slice A1 n1 c1')).setCell ⟨w.heap.size,5,none⟩ (.slice A2 n2 c2')).setCell ⟨w.heap.size,6,none⟩ (.int .i64 (k3 : Int))).setCell ⟨w.heap.size,7,none⟩ (.slice A4 n4 c4')).setCell ⟨w.heap.size,8,none⟩ (.slice A5 n5 c5')) = V7 at hB7 hw7 hp47 hp7 ⊢
      obtain ⟨i0,hi0,hz0,hz1,hz2⟩:=info_parts infoRule
      have hrr:=HR.out.below' hw7
      obtain ⟨vs,ho,hvs,hru⟩:=hrr.ex
      have c1:=hrr.blk.cell 1
      have t0':=hB7.cell 0
      have t1':=hB7.cell 1
      have t2':=hB7.cell 2
      have t3':=hB7.cell 3
      have t4':=hB7.cell 4
      have t5':=hB7.cell 5
      have t6':=hB7.cell 6
      have t7':=hB7.cell 7
      have t8':=hB7.cell 8
      simp only [zG,zI,zH] at c1 t0' t1' t2' t3' t4' t5' t6' t7' t8'
      have hV7z:=hB7.lt
      have hpR : some p ≠ v.1.map (·.block):=fun e=>by
       cases hA1 : v.1 with
       | none=>rw [hA1] at e;cases e
       | some a=>rw [hA1] at e;injection e with e;have e2 : p = a.block:=e;have:=(ho.lt a hA1).1;have:=hrr.pb;omega
      have hRR : some w.heap.size ≠ v.1.map (·.block):=fun e=>by
       cases hA1 : v.1 with
       | none=>rw [hA1] at e;cases e
       | some a =>
        rw [hA1] at e;injection e with e;have e2 : w.heap.size = a.block:=e
        obtain ⟨vs0,ho0,_,_⟩:=HR.out.ex
        have:=(ho0.lt a hA1).2;omega
      refine wp_region_last (S:=fun U=>U.cell? ⟨p,1,none⟩ = some (.slice v.1 v.2.1 v.2.2)∧U.cell? ⟨w.heap.size,0,none⟩ = some (.bool cut)∧U.cell? ⟨w.heap.size,1,none⟩ = some (.bool st)∧U.cell? ⟨w.heap.size,2,none⟩ = some (.bool en)∧U.cell? ⟨w.heap.size,3,none⟩ = some (.int .i64 (k0 : Int))∧U.cell? ⟨w.heap.size,4,none⟩ = some (.slice A1 n1 c1')∧U.cell? ⟨w.heap.size,5,none⟩ = some (.slice A2 n2 c2')∧U.cell? ⟨w.heap.size,6,none⟩ = some (.int .i64 (k3 : Int))∧U.cell? ⟨w.heap.size,7,none⟩ = some (.slice A4 n4 c4')∧U.cell? ⟨w.heap.size,8,none⟩ = some (.slice A5 n5 c5')) 12 rfl (by kernel_rfl) (by kernel_rfl) (by kernel_rfl) ⟨c1,t0',t1',t2',t3',t4',t5',t6',t7',t8'⟩ (fun hHeld=>?_)
      simp only [List.dropLast_cons_cons,List.dropLast_singleton]
      refine tkH (i:=0) (v:=?_) rfl ?_ ?_;rotate_left;focus ((intro w hSw;(try dsimp only at hSw);go_simp);try with_reducible rfl)
      (try simp only [Act.put,zA,zC,zD,zE,zF])
      refine tkH (i:=1) (v:=?_) rfl ?_ ?_;rotate_left;focus ((intro w hSw;(try dsimp only at hSw);go_simp);try with_reducible rfl)
      (try simp only [Act.put,zA,zB,zC,zD,zE,zF])
      refine tkH (i:=2) (v:=?_) rfl ?_ ?_;rotate_left;focus ((intro w hSw;(try dsimp only at hSw);go_simp);try with_reducible rfl)
      (try simp only [Act.put,zA,zB,zC,zD,zE,zF])
      refine tkH (i:=3) (v:=?_) rfl ?_ ?_;rotate_left;focus ((intro w hSw;(try dsimp only at hSw);go_simp);try with_reducible rfl)
      (try simp only [Act.put,zA,zB,zC,zD,zE,zF])
      refine tkH (i:=4) (v:=?_) rfl ?_ ?_;rotate_left;focus ((intro w hSw;(try dsimp only at hSw);go_simp);try with_reducible rfl)
      (try simp only [Act.put,zA,zB,zC,zD,zE,zF])
      refine tkH (i:=5) (v:=?_) rfl ?_ ?_;rotate_left;focus ((intro w hSw;(try dsimp only at hSw);go_simp);try with_reducible rfl)
      (try simp only [Act.put,zA,zB,zC,zD,zE,zF])
      refine tkH (i:=6) (v:=?_) rfl ?_ ?_;rotate_left;focus ((intro w hSw;(try dsimp only at hSw);go_simp);try with_reducible rfl)
      (try simp only [Act.put,zA,zB,zC,zD,zE,zF])
      refine wpAnyH_ready (rs:=[7]) (by kernel_rfl) (by simp) ?_
      refine AllReadyH.cons rfl (fun K hK=>?_) AllReadyH.nil
      go_simp
      refine hK.out _ _ ⟨cell_alloc9 c1 _,cell_alloc9 t0' _,cell_alloc9 t1' _,cell_alloc9 t2' _,cell_alloc9 t3' _,cell_alloc9 t4' _,cell_alloc9 t5' _,cell_alloc9 t6' _,cell_alloc9 t7' _,cell_alloc9 t8' _⟩ (fun hHeld=>?_)
      clear hK K
      (try simp only [Act.put,zA,zB,zC,zD,zE,zF])
      refine wpAnyH_ready (rs:=[8]) (by kernel_rfl) (by simp) ?_
      refine AllReadyH.cons rfl (fun K hK=>?_) AllReadyH.nil
      refine step_app rfl (.tmp 125) (.tmp 127) _ rfl B 223 i0 _ 9 120 Tryz.underlying176 hi0 hz0 hz1 hz2 rfl (by omega) v.1 v.2.1 v.2.2 (vs.map encRul) rfl (ho.drew.alloc _) _ 1 1 [encRul (cut,st,en,(k0,(A1,n1,c1'),(A2,n2,c2')),(k3,(A4,n4,c4'),(A5,n5,c5')))] rfl rfl (Rd.newAt (by simp) rfl) (encRul_ok _) (by unfold maxLen;omega) (by omega) (by have:=hrr.bz;simp;omega) ?_
      intro A3 c3 w9 ho9 hg9 hA9
      have hP9:=(hrr.blk.drew.alloc (.cells (#[.bool cut,.bool st,.bool en,.int .i64 (k0 : Int),.slice A1 n1 c1',.slice A2 n2 c2',.int .i64 (k3 : Int),.slice A4 n4 c4',.slice A5 n5 c5'] : Array Value) 223)).grown hg9 hpR
      have hR9:=(hB7.drew.alloc (.cells (#[.bool cut,.bool st,.bool en,.int .i64 (k0 : Int),.slice A1 n1 c1',.slice A2 n2 c2',.int .i64 (k3 : Int),.slice A4 n4 c4',.slice A5 n5 c5'] : Array Value) 223)).grown hg9 hRR
      have p9:=hP9.cell 1
      have fz9:=hP9.frozen 1
      simp only [zG,zI,zH] at p9
      refine hK.out _ _ ⟨p9,hR9.cell 0,hR9.cell 1,hR9.cell 2,hR9.cell 3,hR9.cell 4,hR9.cell 5,hR9.cell 6,hR9.cell 7,hR9.cell 8⟩ (fun hHeld=>?_)
      clear hK K
      (try simp only [Act.put,zA,zB,zC,zD,zE,zF])
      refine tkH (i:=9) (v:=?_) rfl ?_ ?_;rotate_left;focus ((intro w hSw;(try dsimp only at hSw);go_simp);try with_reducible rfl)
      (try simp only [Act.put,zA,zB,zC,zD,zE,zF])
      refine tkH (i:=10) (v:=?_) rfl ?_ ?_;rotate_left;focus ((intro w hSw;(try dsimp only at hSw);go_simp);try with_reducible rfl)
      (try simp only [Act.put,zA,zB,zC,zD,zE,zF])
      refine tkH (i:=11) (v:=?_) rfl ?_ ?_;rotate_left;focus ((intro w hSw;(try dsimp only at hSw);go_simp);try with_reducible rfl)
      (try simp only [Act.put,zA,zB,zC,zD,zE,zF])
      refine wpAnyH_done (by kernel_rfl) ?_ _
      refine tailQ_end (wpOp_step (i:=12) rfl (fun K hK=>?_))
      go_simp
      refine hK _ _ ?_
      clear hK K
      have HFin : Hid (LnP w p B A nn cn names (x.rules++[⟨cut,st,en,pl,pr⟩]) x.rest x.rested (w9.setCell ⟨p,1,none⟩ (.slice A3 (v.2.1+1) c3))):=Lib.hid (by
       have hb9 : Below B V7 w9:=below_app (((Below.refl B V7).drew).alloc (by have:=hrr.bz;simp;omega) _) hg9 (by have:=hrr.bz;simp;omega) (fun a ha=>(ho.lt a ha).1)
       have hk9 : w9.grownBy (w9.setCell ⟨p,1,none⟩ (.slice A3 (v.2.1+1) c3)) (some p):=only_setCell (only_refl _ _) (p:=⟨p,1,none⟩) (.inl rfl) _
       have hkx : KeepX (OffX B v.1) (OffX B A3) V7 w9:=(KeepX.below (((Below.refl V7.heap.size V7).drew).alloc (Nat.le_refl _) (.cells (#[.bool cut,.bool st,.bool en,.int .i64 (k0 : Int),.slice A1 n1 c1',.slice A2 n2 c2',.int .i64 (k3 : Int),.slice A4 n4 c4',.slice A5 n5 c5'] : Array Value) 223))).trans ⟨hg9.size,fun b hb hl=>hg9.block b hl (fun e=>by
         cases hA1 : v.1 with
         | none=>rw [hA1] at e;cases e
         | some a=>rw [hA1] at e;injection e with e;exact hb.2 a hA1 e),fun b hb hl=>⟨hb.1,fun a ha e=>by
         rcases hA9 with h1 | h1
         ·exact hb.2 a (by rw [← h1];exact ha) e
         ·rw [h1] at ha
          injection ha with ha
          subst ha
          simp at hl e
          omega⟩⟩
       have hkp : KeepX (OffX B A3) (OffX B A3) w9 (w9.setCell ⟨p,1,none⟩ (.slice A3 (v.2.1+1) c3)):=KeepX.grown hk9 (fun r hr h=>by injection hr with hr;subst hr;have:=h.1;have:=hrr.pb;omega)
       have hvz : ∀ a,v.1 = some a→a.block < w.heap.size:=fun a ha=>by
        obtain ⟨vs0,ho0,_,_⟩:=HR.out.ex
        exact (ho0.lt a ha).2
       have hnew : ∀ {q : Pat} {u : Pv},PatX V7 (fun b=>Z≤b) q u→PatX w9 (OffX B A3) q u:=fun h=>h.keep ((KeepX.same (X':=OffX B v.1) (fun b h _=>⟨by have:=HR.out.bz;omega,fun a ha e=>by have:=hvz a ha;omega⟩)).trans hkx)
       refine ⟨(A3,v.2.1+1,c3),⟨?_,?_,hrr.len,hrr.off,hrr.pb,by have:=hrr.bz;have:=hb9.size;simp;omega,vs++[(cut,st,en,(k0,(A1,n1,c1'),(A2,n2,c2')),(k3,(A4,n4,c4'),(A5,n5,c5')))],?_,by rw [List.length_append,List.length_append,hvs];rfl,fun i r u hr hu=>?_⟩,?_,fun i hi hne=>?_⟩
       ·have:=hP9.set_ 1 (.slice A3 (v.2.1+1) c3)
        simpa using this
       ·exact (hrr.nm.belowB (hb9.mono (Nat.le_of_lt hrr.pb)) hrr.off).setCell (p:=⟨p,1,none⟩) (fun x hx e=>by have:=hrr.off x hx;simp only at e;omega) _
       ·rw [List.map_append]
        exact ho9.setCell (p:=⟨p,1,none⟩) (fun x hx e=>by have:=(ho9.lt x hx).1;have:=hrr.pb;simp only at e;omega) _
       ·refine RuX.keep ?_ hkp
        rcases Nat.lt_or_ge i x.rules.length with hlt | hge
        ·rw [List.getElem?_append_left hlt] at hr
         rw [List.getElem?_append_left (by omega)] at hu
         exact (hru i r u hr hu).keep hkx
        ·obtain ⟨j,rfl⟩ : ∃ j,i = x.rules.length+j:=⟨i - x.rules.length,by omega⟩
         rw [List.getElem?_append_right (by omega),Nat.add_sub_cancel_left] at hr
         rw [List.getElem?_append_right (by omega),hvs,Nat.add_sub_cancel_left] at hu
         cases j with
         | zero =>
          simp only [zH,Option.some.injEq] at hr hu
          subst hr hu
          exact ⟨rfl,rfl,rfl,hnew hp47,hnew hp7⟩
         | succ j=>simp at hr
       ·exact ((hw7.mono (by omega)).trans (hb9.mono (Nat.le_of_lt hrr.pb))).trans (below_only hk9 (by have:=hb9.size;omega) (Nat.le_refl _))
       ·exact (hk9.block i (by have:=hb9.size;have:=hrr.bz;omega) (fun e=>hne (by injection e))).trans ((hb9.block i hi).trans (hw7.block i (by have:=HR.out.bz;omega))))
      clear ho9 hg9 hA9 hP9 hR9 hHeld
      go_wp2
      go_ret
      refine ⟨rfl,?_⟩
      have h9:=HFin.out
      rw [Hst2.out,hrd] at h9
      exact h9
end
end Go.Proofs.YtlfpdpbbkjnapaaGreatDoor
