/-
 Several texts in one,in their build order: PtK,PtL,PtM,PtN,PtO,TrE,PtP,Vh,Gi.
-/
import Derived.Deep.CutRange
import Derived.Test.YtglmcknlnoknoaaGreatDoorYGraphemeSafePtJ
import Derived.Test.YtglmcknlnoknoaaGreatDoorYGraphemeSafe0a
import Derived.Test.YtglmcknlnoknoaaGreatDoorYGraphemeSafeTrD
import Derived.Test.YtglmcknlnoknoaaGreatDoorYGraphemeSafeVg
import Derived.Test.YtglmcknlnoknoaaGreatDoorYGraphemeSafeGf
import Derived.Test.YtglmcknlnoknoaaGreatDoorYGraphemeSafe1a
/- -/
namespace Go.Proofs.YtglmcknlnoknoaaGreatDoor
open Go.RowKit
theorem encN_ok' (l : List Nat) : ∀ y ∈ l.map encN,y.length = 1 ∧ ∀ u ∈ y,u.oneCell' = true:=by
 intro y hy
 obtain ⟨x,_,rfl⟩:=List.mem_map.1 hy
 exact ⟨rfl,fun u hu=>by simp [encN] at hu;rcases hu with rfl;rfl⟩
end Go.Proofs.YtglmcknlnoknoaaGreatDoor
/- -/
namespace Go.Proofs.YtglmcknlnoknoaaGreatDoor
open Go.RowKit
end Go.Proofs.YtglmcknlnoknoaaGreatDoor
/- -/
namespace Go.Proofs.YtglmcknlnoknoaaGreatDoor
open Go.RowKit
abbrev Ruv:=Bool × Bool × Bool × Pv × Pv
def encRul (v : Ruv) : List Value:=[.bool v.1,.bool v.2.1,.bool v.2.2.1] ++ encPt v.2.2.2.1 ++ encPt v.2.2.2.2
structure RuX (w : World) (X : Nat → Prop) (r : RuleP) (v : Ruv) : Prop where
 cut : v.1 = r.cut
 start : v.2.1 = r.start
 stop : v.2.2.1 = r.stop
 left : PatX w X r.left v.2.2.2.1
 right : PatX w X r.right v.2.2.2.2
theorem RuX.keep {X X' : Nat → Prop} {w w' : World} {r : RuleP} {v : Ruv} (h : RuX w X r v) (k : KeepX X X' w w') : RuX w' X' r v:=⟨h.cut,h.start,h.stop,h.left.keep k,h.right.keep k⟩
theorem RuX.below {X : Nat → Prop} {w w' : World} {r : RuleP} {v : Ruv} (h : RuX w X r v) (hb : Below w.heap.size w w') : RuX w' X r v:=h.keep (KeepX.below hb)
end Go.Proofs.YtglmcknlnoknoaaGreatDoor
/- -/
namespace Go.Proofs.YtglmcknlnoknoaaGreatDoor
open Go.RowKit
structure RsX (w : World) (X : Nat → Prop) (rules : List RuleP) (v : Sv) : Prop where
 ex : ∃ vs : List Ruv,SlX w X 9 v (vs.map encRul) ∧ vs.length = rules.length ∧ ∀ (i : Nat) (r : RuleP) (u : Ruv),rules[i]? = some r → vs[i]? = some u → RuX w X r u
theorem RsX.keep {X X' : Nat → Prop} {w w' : World} {rules : List RuleP} {v : Sv} (h : RsX w X rules v) (k : KeepX X X' w w') : RsX w' X' rules v:=by
 obtain ⟨vs,h1,h2,h3⟩:=h.ex
 exact ⟨vs,h1.keep k,h2,fun i r u hr hu=>(h3 i r u hr hu).keep k⟩
theorem RsX.below {X : Nat → Prop} {w w' : World} {rules : List RuleP} {v : Sv} (h : RsX w X rules v) (hb : Below w.heap.size w w') : RsX w' X rules v:=h.keep (KeepX.below hb)
def valRs (v : Sv) (rest : Bool) : Value:=.agg #[.slice v.1 v.2.1 v.2.2,.bool rest]
end Go.Proofs.YtglmcknlnoknoaaGreatDoor
/- -/
namespace Go.Proofs.YtglmcknlnoknoaaGreatDoor
open Go.RowKit
end Go.Proofs.YtglmcknlnoknoaaGreatDoor
/- -/
namespace Go.Proofs.YtglmcknlnoknoaaGreatDoor
open Go.RowKit
def encMk (x : Nat × Nat × Nat) : List Value:=[.int .i64 (x.2.1 : Nat),.int .i64 ((x.2.2 : Int) - (x.2.1 : Int)),.int .i32 (x.1 : Nat),.bool (decide (x.2.2 - x.2.1 = 1) && decide (x.1 = 65533))]
theorem infoMark : (Tryz.prog.info? 151).map (fun i=>(i.zero,i.size,i.bytes)) = some (some (.agg #[.int .i64 0,.int .i64 0,.int .i32 0,.bool false]),4,24):=by kernel_rfl
theorem encMk_ok (l : List (Nat × Nat × Nat)) : ∀ y ∈ l.map encMk,y.length = 4 ∧ ∀ u ∈ y,u.oneCell' = true:=by
 intro y hy
 obtain ⟨x,_,rfl⟩:=List.mem_map.1 hy
 exact ⟨rfl,fun u hu=>by simp [encMk] at hu;rcases hu with rfl | rfl | rfl | rfl <;> rfl⟩
theorem decode_part (s : ByteArray) {a : Nat} (_ha : a < s.size) : Utf8.decode (s.extract a s.size) 0 = Utf8.decode s a:=by
 have hg : ∀ k,(s.extract a s.size).get! k = s.get! (a + k):=fun k=>by
  rw [← get_sub s (Nat.le_refl _) k]
  congr 1
  simp
 rw [Lib.decode_at,Lib.decode_at,hg,hg,hg,hg,Nat.add_zero,Nat.zero_add,Nat.zero_add,Nat.zero_add,ByteArray.size_extract]
 rw [Nat.min_self,Nat.sub_zero]
def MkAt (s : ByteArray) (q : Nat) (o : List (Nat × Nat × Nat)) : Prop:=∃ f,s.size ≤ q + f ∧ runesP s = o ++ runesGo s f q
theorem mkAt_first (s : ByteArray) : MkAt s 0 []:=⟨s.size,by omega,rfl⟩
theorem mkAt_add {s : ByteArray} {q R W : Nat} {o : List (Nat × Nat × Nat)} (h : MkAt s q o) (hq : q < s.size) (hd : Utf8.decode s q = (R,W)) : MkAt s (q + W) (o ++ [(R,q,q + W)]):=by
 obtain ⟨f,hf,e⟩:=h
 obtain ⟨k,rfl,hk⟩:=runesGo_step hq hf
 rw [hk,hd] at e
 have hb:=dec_bd s q hq
 rw [hd] at hb
 exact ⟨k,by simp only at hb;omega,by rw [e,List.append_assoc];rfl⟩
theorem mkAt_end {s : ByteArray} {q : Nat} {o : List (Nat × Nat × Nat)} (h : MkAt s q o) (hq : ¬ q < s.size) : o = runesP s:=by
 obtain ⟨f,hf,e⟩:=h
 rw [e,runesGo_end (by omega),List.append_nil]
set_option maxRecDepth 100000 in
set_option maxHeartbeats 4000000 in
theorem tMarks_any (s : ByteArray) (w : World) (hz : s.size ≤ 1000000) :
  Calls Tryz.prog 116 #[.string s] w fun e w'=>∃ A n c,e = .returned (.slice A n c) ∧ Own w' w.heap.size 151 4 A n c ((runesP s).map encMk) ∧ Below w.heap.size w w':=by
 obtain ⟨i0,hi0,hz0,hz1,hz2⟩:=info_parts infoMark
 go_enter Tryz.func116,Tryz.ntmps116
 go_wp2
 go_loopw [3,4,5,6] (fun u v _ _ wr=>∃ (q n c : Nat) (A : Option Addr) (o : List (Nat × Nat × Nat)),u = .slice A n c ∧ v = .int .i64 (q : Nat) ∧ q ≤ s.size ∧ n ≤ q ∧ Hid (MkAt s q o) ∧ Own wr w.heap.size 151 4 A n c (o.map encMk) ∧ Below w.heap.size w wr) (fun _ v _ _ _=>s.size - (intOf v).toNat)
 case atStart=>exact ⟨0,0,0,none,[],rfl,rfl,by omega,by omega,Lib.hid (mkAt_first s),Own.nil_ _ _ _ _,Below.refl _ _⟩
 case round =>
  obtain ⟨q,n,c,A,o,rfl,rfl,hq,hn,HM,ho,hb⟩:=hrel
  have hsz:=hb.size
  by_cases hlt : q < s.size
  ·have hd:=dec_bd s q hlt
   obtain ⟨⟨R,W⟩,HDc⟩ : ∃ d,Hid (Utf8.decode s q = d):=⟨_,Lib.hid rfl⟩
   have HT:=Lib.hid (tDecode_any (s.extract q s.size) wr (by rw [ByteArray.size_extract];omega) (by rw [ByteArray.size_extract];omega))
   rw [decode_part s hlt,HDc.out] at HT
   rw [HDc.out] at hd
   simp only at hd HT
   have HM2:=Lib.hid (mkAt_add HM.out hlt HDc.out)
   have hq1 : (q : Int) ≤ (s.size : Int):=by omega
   obtain ⟨t1,ht1⟩ : ∃ t,((W : Int) == 1) = t:=⟨_,rfl⟩
   obtain ⟨t2,ht2⟩ : ∃ t,((R : Int) == 65533) = t:=⟨_,rfl⟩
   have HB : Hid (encMk (R,q,q + W) = [.int .i64 (q : Nat),.int .i64 (W : Nat),.int .i32 (R : Nat),.bool (t1 && t2)]):=Lib.hid (by
    unfold encMk
    have e1 : decide (q + W - q = 1) = t1:=by rw [← ht1,Bool.eq_iff_iff,decide_eq_true_iff,beq_iff_eq];omega
    have e2 : decide (R = 65533) = t2:=by rw [← ht2,Bool.eq_iff_iff,decide_eq_true_iff,beq_iff_eq];omega
    have e3 : (((q + W : Nat) : Int) - (q : Int)) = (W : Int):=by omega
    simp only
    rw [e1,e2,e3])
   clear HDc
   go_wp2_with fail
   refine HT.out.mono ?_
   rintro e w2 ⟨rfl,rfl⟩
   cases t1 with
   | false =>
    go_wp2_with (at_builtin;go_must (refine wpList_app rfl (.tmp 18) (.tmp 29) _ rfl w.heap.size 151 i0 _ 4 24 Tryz.underlying148 hi0 hz0 hz1 hz2 rfl (by omega) A n c _ rfl (ho.alloc _) _ 1 1 [encMk (R,q,q + W)] rfl rfl (Rd.newAt (by simp) (by rw [HB.out];rfl)) (encMk_ok [(R,q,q + W)]) (by unfold maxLen;omega) (by omega) (by simp;omega) ?_);intro A3 c3 w7 ho3 hg3 hA3)
    have hb7:=below_app (hb.alloc hsz _) hg3 (by simp;omega) (fun a ha=>(ho.lt a ha).1)
    go_roundw
    case rel=>exact ⟨q + W,n + 1,c3,A3,o ++ [(R,q,q + W)],rfl,by go_num,by omega,by omega,HM2,by rw [List.map_append];exact ho3,hb7⟩
    case measure=>simp [intOf];omega
   | true =>
    go_wp2_with (at_builtin;go_must (refine wpList_app rfl (.tmp 18) (.tmp 29) _ rfl w.heap.size 151 i0 _ 4 24 Tryz.underlying148 hi0 hz0 hz1 hz2 rfl (by omega) A n c _ rfl (ho.alloc _) _ 1 1 [encMk (R,q,q + W)] rfl rfl (Rd.newAt (by simp) (by rw [HB.out];rfl)) (encMk_ok [(R,q,q + W)]) (by unfold maxLen;omega) (by omega) (by simp;omega) ?_);intro A3 c3 w7 ho3 hg3 hA3)
    have hb7:=below_app (hb.alloc hsz _) hg3 (by simp;omega) (fun a ha=>(ho.lt a ha).1)
    go_roundw
    case rel=>exact ⟨q + W,n + 1,c3,A3,o ++ [(R,q,q + W)],rfl,by go_num,by omega,by omega,HM2,by rw [List.map_append];exact ho3,hb7⟩
    case measure=>simp [intOf];omega
  ·have HE:=Lib.hid (mkAt_end HM.out hlt)
   go_wp2
   go_ret
   exact ⟨A,n,c,rfl,by rw [← HE.out];exact ho,hb⟩
set_option maxRecDepth 100000 in
set_option maxHeartbeats 4000000 in
theorem tEdges_any (s : ByteArray) (w : World) (hz : s.size ≤ 1000000) :
  Calls Tryz.prog 131 #[.string s] w fun e w'=>∃ A n c,e = .returned (.slice A n c) ∧ Own w' w.heap.size 3 1 A n c ((edgesP s).map encN) ∧ Below w.heap.size w w':=by
 obtain ⟨i0,hi0,hz0,hz1,hz2⟩:=info_parts infoInt
 have HM:=Lib.hid (tMarks_any s w hz)
 obtain ⟨X,HX⟩ : ∃ L,Hid (runesP s = L):=⟨_,Lib.hid rfl⟩
 have hXz : X.length ≤ s.size:=by rw [← HX.out];exact runesP_len s
 have HV : Hid (edgesP s = X.map (fun x=>x.2.1) ++ [s.size]):=Lib.hid (by unfold edgesP;rw [HX.out])
 rw [HX.out] at HM
 go_enter Tryz.func131,Tryz.ntmps131
 go_wp2_with fail
 refine HM.out.mono ?_
 rintro e w2 ⟨A,m,c,rfl,ho,hb2⟩
 have hm : X.length = m:=by have:=ho.len;rwa [List.length_map] at this
 have rd:=ho.rd (by decide)
 have Hm:=Lib.hid hm
 have hmz : m ≤ 1000000:=by omega
 clear HM ho hm
 go_wp2_with fail
 go_loopw [4,5] (fun u v wr=>∃ (i k : Nat) (A1 : Option Addr),u = .slice A1 i k ∧ v = .int .i64 i ∧ i ≤ m ∧ Own wr w2.heap.size 3 1 A1 i k (((X.take i).map fun x=>x.2.1).map encN) ∧ Below w2.heap.size w2 wr) (fun _ v _=>m - (intOf v).toNat)
 case atStart=>exact ⟨0,0,none,rfl,rfl,by omega,Own.nil_ _ _ _ _,Below.refl _ _⟩
 case round =>
  obtain ⟨i,k,A1,rfl,rfl,hi,ho,hb⟩:=hrel
  have hsz:=hb.size
  by_cases hlt : i < m
  ·obtain ⟨⟨R,a,z⟩,Hx⟩ : ∃ x,Hid (X[i]? = some x):=⟨_,Lib.hid (List.getElem?_eq_getElem (by have:=Hm.out;omega))⟩
   obtain ⟨b,off,rfl,hc⟩:=rd (by intro e;have:=congrArg List.length e;rw [List.length_map,Hm.out] at this;simp at this;omega)
   have c0:=hc i 0 (encMk (R,a,z)) (.int .i64 (a : Nat)) (by rw [List.getElem?_map,Hx.out];rfl) rfl
   simp only [Nat.add_zero] at c0
   replace c0:=cell_keep c0 hb
   have HT:=Lib.hid (show ((X.take (i + 1)).map fun x=>x.2.1) = ((X.take i).map fun x=>x.2.1) ++ [a] by rw [List.take_add_one,Hx.out,Option.toList_some,List.map_append];rfl)
   clear hc Hx
   go_wp2_with (at_builtin;go_must (refine wpList_app rfl (.tmp 14) (.tmp 20) _ rfl w2.heap.size 3 i0 _ 1 8 Tryz.underlying52 hi0 hz0 hz1 hz2 rfl (by omega) A1 i k _ rfl (ho.alloc _) _ 1 1 [encN a] rfl rfl (Rd.newAt (by simp) rfl) (encN_ok' [a]) (by unfold maxLen;omega) (by omega) (by simp;omega) ?_);intro A3 c3 w7 ho3 hg3 hA3)
   have hb7:=below_app (hb.alloc hsz (.cells #[.int .i64 (a : Int)] 3)) hg3 (by simp;omega) (fun a ha=>(ho.lt a ha).1)
   go_roundw
   case rel=>exact ⟨i + 1,c3,A3,rfl,by go_num,by omega,by rw [HT.out,List.map_append];exact ho3,hb7⟩
   case measure=>simp [intOf];omega
  ·obtain rfl : i = m:=by omega
   have HT:=Lib.hid (show X.take i = X from List.take_of_length_le (by have:=Hm.out;omega))
   rw [HT.out] at ho
   have hsz1:=hb2.size
   go_wp2_with (at_builtin;go_must (refine wpList_app rfl (.tmp 22) (.tmp 25) _ rfl w2.heap.size 3 i0 _ 1 8 Tryz.underlying52 hi0 hz0 hz1 hz2 rfl (by omega) A1 i k _ rfl (ho.alloc _) _ 1 1 [encN s.size] rfl rfl (Rd.newAt (by simp) rfl) (encN_ok' [s.size]) (by unfold maxLen;omega) (by omega) (by simp;omega) ?_);intro A3 c3 w7 ho3 hg3 hA3)
   have hb7:=below_app (hb.alloc hsz (.cells #[.int .i64 (s.size : Int)] 3)) hg3 (by simp;omega) (fun a ha=>(ho.lt a ha).1)
   go_ret
   exact ⟨A3,i + 1,c3,rfl,by rw [HV.out,List.map_append];exact ho3.more hsz1,below_two hb2 hb7⟩
end Go.Proofs.YtglmcknlnoknoaaGreatDoor
/- -/
namespace Go.Proofs.YtglmcknlnoknoaaGreatDoor
open Go.RowKit
structure BrkB (w : World) (base pb : Nat) (d : DbP) (rules : List RuleP) (rest : Bool) : Prop where
 ex : ∃ (p x n c : Nat) (A : Option Addr) (X : Nat → Prop),Blk w pb 112 #[.pointer (some ⟨p,0,none⟩),.slice A n c,.bool rest] ∧ RfB w base p x d.names d.full ∧ RsX w X rules (A,n,c)
end Go.Proofs.YtglmcknlnoknoaaGreatDoor
/- -/
namespace Go.Proofs.YtglmcknlnoknoaaGreatDoor
open Go.RowKit Go.Maps
set_option maxRecDepth 100000 in
set_option maxHeartbeats 8000000 in
theorem vrest_any (p base x : Nat) (d : DbP) (w : World) (hd : RfB w base p x d.names d.sets) (ho : d.Ok) (ha : Apart d.sets) (hB : base ≤ w.heap.size) :
  Calls Tryz.prog 180 #[.pointer (some ⟨p,0,none⟩)] w fun e w'=>e = .returned (.tuple #[]) ∧ RfB w' base p x d.names d.full ∧ Below base w w':=by
 obtain ⟨An,nn,cn,As,ns,cs,xs,hX⟩:=hd.ex
 obtain ⟨j0,hj0,hy0,hy1,hy2⟩:=info_parts infoR
 have hns1 : 0 < ns:=by
  have h1:=hX.lenS.2;have h2:=ho.len;have h3:=ho.head
  cases hd : d.names with
  | nil=>rw [hd] at h3;cases h3
  | cons a b=>rw [hd] at h2;simp at h2;omega
 obtain ⟨g,HAs,hgB,hgw⟩:=hX.hs.form hns1
 subst HAs
 have hns64 : ns ≤ 64:=by have h1:=hX.lenS.2;have h2:=ho.len;have h3:=ho.few;omega
 obtain ⟨T,HT⟩ : ∃ T,Hid (d.sets.tail = T):=⟨_,rfl⟩
 have hTl : T.length + 1 = ns:=by have h1:=hX.lenS.2;have:=HT.out;rw [← this,List.length_tail];omega
 have HTl:=Lib.hid hTl
 have HTS : Hid (lenS T ≤ 1114112):=Lib.hid (by have:=rng_len ho ha;rw [← HT.out];omega)
 have HTN : Hid (∀ (k : Nat) (s : List (Int × Int)),T[k]? = some s → NF s ∧ d.sets[k + 1]? = some s):=Lib.hid (fun k s hk=>by
  have : d.sets[k + 1]? = some s:=by rw [← HT.out] at hk;rw [List.getElem?_tail] at hk;exact hk
  exact ⟨ho.nf s (List.mem_of_getElem? this),this⟩)
 have HFS:=Lib.hid (full_set ho)
 have HRest : Hid (d.rest = notR (T.flatten)):=Lib.hid (by unfold DbP.rest;rw [HT.out])
 have c1:=hX.blk.cell 1
 simp at c1
 clear ho ha hTl hd
 go_enter Tryz.func180,Tryz.ntmps180
 go_wp2_with fail
 go_loopw [2,3] (fun a v wr=>∃ (c : Nat) (Aa : Option Addr) (na ca : Nat),a = .slice Aa na ca ∧ v = .int .i64 (c + 1 : Nat) ∧ c + 1 ≤ ns ∧ Own wr w.heap.size 248 2 Aa na ca (((T.take c).flatten).map encR) ∧ Below w.heap.size w wr) (fun _ v _=>ns - (intOf v).toNat)
 case atStart=>exact ⟨0,none,0,0,rfl,rfl,by omega,by simp;exact Own.nil_ _ _ _ _,Below.refl _ _⟩
 case round =>
  obtain ⟨c,Aa,na,ca,rfl,rfl,hc,hal,hb⟩:=hrel
  have hszr:=hb.size
  have e1:=cell_keep c1 hb
  have hfl:=Lib.hid (flat_le T c)
  have hnal : na ≤ 1114112:=by have h1:=hal.len;rw [List.length_map] at h1;have:=hfl.out;have:=HTS.out;omega
  by_cases hlt : c + 1 < ns
  ·obtain ⟨s,Hs⟩ : ∃ s,Hid (T[c]? = some s):=⟨_,Lib.hid (List.getElem?_eq_getElem (show c < T.length by have:=HTl.out;omega))⟩
   obtain ⟨HNF,Hd⟩:=HTN.out c s Hs.out
   obtain ⟨⟨yA,yn,yc⟩,Hy⟩ : ∃ y,Hid (xs[c + 1]? = some y):=⟨_,Lib.hid (List.getElem?_eq_getElem (show c + 1 < xs.length by have:=hX.lenS.1;omega))⟩
   have hoy : Own w base 248 2 yA yn yc (s.map encR):=hX.hx.own (c + 1) (yA,yn,yc) s Hy.out Hd
   have hly : s.length = yn:=by simpa using hoy.len
   have Hly:=Lib.hid hly
   have hny:=own_nf_len hoy HNF
   have hcell:=cell_keep (hX.hs.cell' rfl Hy.out) hb
   have hoq:=hoy.below hb
   have HFN:=Lib.hid (flat_next Hs.out)
   have hfl2:=Lib.hid (flat_le T (c + 1))
   have hbound : na + yn ≤ 1114112:=by
    have h1:=hal.len;rw [List.length_map] at h1
    have h2:=hfl2.out;rw [HFN.out,List.length_append] at h2;have:=HTS.out;omega
   have hI : (c : Int) + 1 < ns:=by omega
   clear HNF Hd hly
   go_wp2_with (at_builtin;go_must (refine wpList_app rfl (.tmp 13) (.tmp 20) _ rfl w.heap.size 248 j0 _ 2 8 Tryz.underlying218 hj0 hy0 hy1 hy2 rfl (by omega) Aa na ca (((T.take c).flatten).map encR) rfl hal yA yn yc (s.map encR) rfl (by rw [List.length_map];exact Hly.out) (hoq.rd (by omega)) (encR_ok s) (by unfold maxLen;omega) (by omega) (by omega) ?_);intro A3 c3 w3 ho3 hg3 hA3)
   have Ho3 : Own w3 w.heap.size 248 2 A3 (na + yn) c3 (((T.take (c + 1)).flatten).map encR):=by rw [HFN.out,List.map_append];exact ho3
   have hb3:=below_app hb hg3 hszr (fun a ha=>(hal.lt a ha).1)
   clear ho3 hg3
   go_roundw
   case rel=>exact ⟨c + 1,A3,na + yn,c3,rfl,by go_num,by omega,Ho3,hb3⟩
   case measure=>simp [intOf];omega
  ·obtain rfl : c + 1 = ns:=by omega
   have HFe : Hid ((T.take c).flatten = T.flatten):=Lib.hid (by rw [List.take_of_length_le (by have:=HTl.out;omega)])
   rw [HFe.out] at hal
   have hXr:=hX.below hb
   have HNot:=Lib.hid (sNot_any Aa na ca T.flatten wr.drew ((hal.rd (by omega)).drew) (by have h1:=hal.len;rw [List.length_map] at h1;exact h1) (by omega))
   obtain ⟨y0,hy0'⟩ : ∃ y,xs[0]? = some y:=⟨_,List.getElem?_eq_getElem (show 0 < xs.length by have:=hX.lenS.1;omega)⟩
   have k0:=hXr.hs.cell' rfl hy0'
   have hXd:=hXr.below (w':=wr.drew) ((Below.refl _ _).drew)
   have hBr : base ≤ wr.heap.size:=by omega
   go_wp2_with fail
   refine wp_region_noPanic ?_
   go_region_law (go_simp;go_at_call 237;refine HNot.out.mono ?_;rintro e wz ⟨A',n',c',rfl,ho',hb'⟩;have kz0:=cell_keep (w:=wr.drew) k0 hb';have kz1:=cell_keep (w:=wr.drew) e1 hb';have kzf:=(hXd.hs.below hb').frozen 0)
   all_goals
    refine NoPanic.normal ?_
    have hDz:=(hXd.below hb').storeSet (k:=0) (y:=(A',n',c')) (l:=d.rest) (by omega) (by rw [HRest.out];exact ho') hBr
    have hbz:=(((hb.mono hB).trans ((Below.refl wr.heap.size wr).drew.mono hBr)).trans (hb'.mono hBr)).trans hDz.2.1
    rw [HFS.out] at hDz
    go_wp2
    first | exact ⟨_,results_none rfl _ _ _,rfl,⟨_,_,_,_,_,_,_,hDz.1⟩,hbz⟩ | exact ⟨_,rfl,results_none rfl _ _ _,rfl,⟨_,_,_,_,_,_,_,hDz.1⟩,hbz⟩ | exact ⟨rfl,_,results_none rfl _ _ _,rfl,⟨_,_,_,_,_,_,_,hDz.1⟩,hbz⟩
def RNewEnd (r : Except (Int × Nat) DbP) (e : Ending) (w' : World) (base : Nat) : Prop :=
 match r with
 | .error x=>e = .returned (.tuple #[.pointer none,.int .i64 x.1,.int .i64 (x.2 : Int)])
 | .ok d=>∃ p x,e = .returned (.tuple #[.pointer (some ⟨p,0,none⟩),.int .i64 0,.int .i64 0]) ∧ RfB w' base p x d.names d.full
theorem RNewEnd.err {r : Except (Int × Nat) DbP} {k : Int} {i : Nat} {w' : World} {base : Nat} (h : r = .error (k,i)) : RNewEnd r (.returned (.tuple #[.pointer none,.int .i64 k,.int .i64 (i : Int)])) w' base:=by rw [h];exact rfl
theorem RNewEnd.fine {r : Except (Int × Nat) DbP} {d : DbP} {p x : Nat} {w' : World} {base : Nat} (h : r = .ok d) (hd : RfB w' base p x d.names d.full) : RNewEnd r (.returned (.tuple #[.pointer (some ⟨p,0,none⟩),.int .i64 0,.int .i64 0])) w' base:=by rw [h];exact ⟨p,x,rfl,hd⟩
theorem step_err {d : DbP} {L : List UInt8} {k : Int} (h : stepL d L = .error k) : 6 ≤ k:=by
 unfold stepL at h
 split at h
 ·cases h
 ·injection h with h;omega
 ·exact addL_err h
theorem rfX_first (w : World) :
  RfX (((w.alloc (.cells #[.string (bytesOf otherL)] 9)).alloc (.cells #[.slice none 0 0] 218)).alloc (.cells #[.slice (some ⟨w.heap.size,0,none⟩) 1 1,.slice (some ⟨w.heap.size + 1,0,none⟩) 1 1] 194)) w.heap.size (w.heap.size + 2) (w.heap.size + 3)
   (some ⟨w.heap.size,0,none⟩) 1 1 (some ⟨w.heap.size + 1,0,none⟩) 1 1 [(none,0,0)] [otherL] [[]] ∧
  Below w.heap.size w (((w.alloc (.cells #[.string (bytesOf otherL)] 9)).alloc (.cells #[.slice none 0 0] 218)).alloc (.cells #[.slice (some ⟨w.heap.size,0,none⟩) 1 1,.slice (some ⟨w.heap.size + 1,0,none⟩) 1 1] 194)):=by
 have n1 : Own (w.alloc (.cells #[.string (bytesOf otherL)] 9)) w.heap.size 9 1 (some ⟨w.heap.size,0,none⟩) 1 1 ([otherL].map encNm):=own_one (Nat.le_refl _)
 have s2 : Own ((w.alloc (.cells #[.string (bytesOf otherL)] 9)).alloc (.cells #[.slice none 0 0] 218)) w.heap.size 218 1 (some ⟨w.heap.size + 1,0,none⟩) 1 1 ([((none : Option Addr),0,0)].map encSl):=by
  have:=own_one (w:=w.alloc (.cells #[.string (bytesOf otherL)] 9)) (t:=218) (u:=.slice none 0 0) (base:=w.heap.size) (by simp)
  rw [show (w.alloc (.cells #[.string (bytesOf otherL)] 9)).heap.size = w.heap.size + 1 by simp] at this
  exact this
 refine ⟨⟨?_,by omega,(n1.alloc _).alloc _,s2.alloc _,⟨rfl,?_⟩,by omega,fun a ha=>by injection ha with ha;subst ha;show w.heap.size ≠ w.heap.size + 3;omega,fun a ha=>by injection ha with ha;subst ha;show w.heap.size + 1 ≠ w.heap.size + 3;omega⟩,?_⟩
 ·have:=Blk.new ((w.alloc (.cells #[.string (bytesOf otherL)] 9)).alloc (.cells #[.slice none 0 0] 218)) 194 #[.slice (some ⟨w.heap.size,0,none⟩) 1 1,.slice (some ⟨w.heap.size + 1,0,none⟩) 1 1]
  simpa using this
 ·intro k x l hx hl
  match k,hx,hl with
  | 0,hx,hl=>simp at hx hl;subst hx;subst hl;exact Own.nil_ _ _ _ _
  | k + 1,hx,hl=>simp at hx
 ·exact (((Below.refl _ _).alloc (Nat.le_refl _) _).alloc (by simp) _).alloc (by simp;omega) _
set_option maxRecDepth 100000 in
set_option maxHeartbeats 8000000 in
theorem vNew_any (t : List UInt8) (w : World) (ht : t.length ≤ maxLen) :
  Calls Tryz.prog 133 #[.string (bytesOf t)] w fun e w'=>RNewEnd (newP t) e w' w.heap.size ∧ Below w.heap.size w w':=by
 have hsz : (bytesOf t).size = t.length:=bytesOf_size t
 unfold maxLen at ht
 by_cases hl : 65536 < t.length
 ·have HE:=Lib.hid (newP_long hl)
  go_enter Tryz.func133,Tryz.ntmps133
  go_wp2
  go_ret3
  exact ⟨RNewEnd.err HE.out,Below.refl _ _⟩
 ·have HG:=Lib.hid (newP_go hl)
  obtain ⟨hX,hB0⟩:=rfX_first w
  have hw3 : w.heap.size + 3 = (((w.alloc (.cells #[.string (bytesOf otherL)] 9)).alloc (.cells #[.slice none 0 0] 218)).alloc (.cells #[.slice (some ⟨w.heap.size,0,none⟩) 1 1,.slice (some ⟨w.heap.size + 1,0,none⟩) 1 1] 194)).heap.size:=by simp
  obtain ⟨L,HL⟩ : ∃ L,Hid (splitL t = L):=⟨_,rfl⟩
  have HLl:=Lib.hid (fun i l (h : L[i]? = some l)=>line_len (t:=t) (i:=i) (l:=l) (by rw [HL.out];exact h))
  have HLn : Hid (L.length ≤ 65537):=Lib.hid (by rw [← HL.out,splitL_count];have:=List.count_le_length (a:=(10 : UInt8)) (l:=t);omega)
  have HNP : Hid (newP t = linesGo DbP.first L 0):=Lib.hid (by rw [HG.out,HL.out])
  have HV:=Lib.hid (fun W=>vLines_any t W (by omega))
  rw [HL.out] at HV
  go_enter Tryz.func133,Tryz.ntmps133
  go_wp2_with fail
  rw [show (⟨#[79,116,104,101,114]⟩ : ByteArray) = bytesOf otherL from rfl]
  generalize ((w.alloc (.cells #[.string (bytesOf otherL)] 9)).alloc (.cells #[.slice none 0 0] 218)).alloc (.cells #[.slice (some ⟨w.heap.size,0,none⟩) 1 1,.slice (some ⟨w.heap.size + 1,0,none⟩) 1 1] 194) = w3 at hX hB0 hw3 ⊢
  refine (HV.out w3).mono ?_
  rintro e w4 ⟨AL,nL,cL,rfl,hoL,hb4⟩
  have hnL : L.length = nL:=by simpa using hoL.len
  have hX4:=hX.below hb4
  have hB4:=below_step hB0 hb4 (by have:=hB0.size;omega)
  have HnL:=Lib.hid hnL
  have HLne : Hid (L ≠ []):=Lib.hid (by rw [← HL.out];exact splitL_ne t)
  clear hnL HG HL
  obtain ⟨x,hxw,hXx,hcells⟩ : ∃ x,x < w4.heap.size ∧ RfX w4 w.heap.size (w.heap.size + 2) x (some ⟨w.heap.size,0,none⟩) 1 1 (some ⟨w.heap.size + 1,0,none⟩) 1 1 [(none,0,0)] [otherL] [[]] ∧
    (∀ W : World,W.heap[x]? = w4.heap[x]? → ∀ i l,L[i]? = some l → ∃ off,AL = some ⟨x,off,none⟩ ∧ W.cell? ⟨x,off + i,none⟩ = some (.string (bytesOf l))):=by
   have h0 : 0 < nL:=by
    cases hq : L with
    | nil=>exact absurd hq HLne.out
    | cons a b=>rw [← HnL.out,hq];simp
   obtain ⟨gx,hgx,hg1,hg2⟩:=hoL.form h0
   subst hgx
   refine ⟨gx,hg2,{ hX4 with xp:=by omega,xn:=fun a ha=>by injection ha with ha;subst ha;show w.heap.size ≠ gx;omega,xs_:=fun a ha=>by injection ha with ha;subst ha;show w.heap.size + 1 ≠ gx;omega },fun W hW i l hl=>?_⟩
   have h1:=hoL.cell (k:=i) (j:=0) (x:=encNm l) (u:=.string (bytesOf l)) (by rw [List.getElem?_map,hl];rfl) rfl
   simp only [Nat.mul_one,Nat.add_zero] at h1
   exact ⟨0,rfl,by rw [Nat.zero_add];exact (World.cell?_of_block hW).trans h1⟩
  have HCells:=Lib.hid hcells
  have hsw:=hB4.size
  clear hcells hX hX4 hB0 hw3 hb4 hoL
  generalize w.heap.size + 2 = p at hXx ⊢
  go_wp2_with fail
  go_loopw [7] (fun v wr=>∃ (i : Nat) (d : DbP),v = .int .i64 i ∧ i ≤ L.length ∧ RfB wr w.heap.size p x d.names d.sets ∧ wr.heap[x]? = w4.heap[x]? ∧ Hid (NewAt L i d) ∧ Below w.heap.size w wr ∧ x < wr.heap.size) (fun v _=>L.length - (intOf v).toNat)
  case atStart=>exact ⟨0,DbP.first,rfl,by omega,⟨_,_,_,_,_,_,_,hXx⟩,rfl,newAt_first L,hB4,hxw⟩
  case round =>
   clear hXx
   obtain ⟨i,d,rfl,hi,hd,hxr,HN,hb,hxl⟩:=hrel
   have hszr:=hb.size
   have hnl:=HnL.out
   by_cases hlt : i < L.length
   ·obtain ⟨l,Hl⟩ : ∃ l,Hid (L[i]? = some l):=⟨_,Lib.hid (List.getElem?_eq_getElem hlt)⟩
    obtain ⟨off,rfl,hcell⟩:=HCells.out wr hxr i l Hl.out
    have hll:=HLl.out i l Hl.out
    have HN2:=HLn.out
    have HA:=Lib.hid (vline_any p w.heap.size x d l wr hd HN.out.2.2.1 hxl hszr (by omega))
    have hltn : i < nL:=by omega
    clear hnl
    cases hs : stepL d l with
    | error k =>
     rw [hs] at HA
     have hk0 : ((k : Int) != 0) = true:=by rw [bne_iff_ne];have:=step_err hs;omega
     have HE:=Lib.hid (HNP.out.trans (newAt_err HN.out Hl.out hs))
     clear hs
     go_wp2_with fail
     refine HA.out.mono ?_
     rintro e w6 ⟨hk,hae⟩
     have he : e = .returned (.int .i64 k):=hae
     subst he
     go_wp2
     go_ret3
     exact ⟨RNewEnd.err HE.out,hb.trans hk.1⟩
    | ok d' =>
     rw [hs] at HA
     have HN':=Lib.hid (newAt_next HN.out Hl.out hs)
     clear hs
     go_wp2_with fail
     refine HA.out.mono ?_
     rintro e w6 ⟨hk,rfl,hd'⟩
     go_wp2
     go_roundw
     case rel=>exact ⟨i + 1,d',by go_num,by omega,hd',(hk.2 hxl).trans hxr,HN',hb.trans hk.1,Nat.lt_of_lt_of_le hxl hk.1.size⟩
     case measure=>simp [intOf];omega
   ·have HE:=Lib.hid (HNP.out.trans (newAt_end HN.out hlt))
    have HC:=Lib.hid (vrest_any p w.heap.size x d wr hd HN.out.2.2.1 HN.out.2.2.2 hszr)
    go_wp2_with (go_at_call 180;refine HC.out.mono ?_;rintro e w5 ⟨rfl,hda,hb5⟩)
    go_ret3
    exact ⟨RNewEnd.fine HE.out hda,hb.trans hb5⟩
end Go.Proofs.YtglmcknlnoknoaaGreatDoor
/- -/
namespace Go.Proofs.YtglmcknlnoknoaaGreatDoor
open Go.RowKit
set_option maxRecDepth 100000 in
set_option maxHeartbeats 4000000 in
theorem glive_any (w : World) (hE : Env w) : Calls Tryz.prog 15 #[] w fun e w'=>e = .returned (.bool true) ∧ Below w.heap.size w w':=by
 have H1:=Lib.hid (gBounds_any ⟨#[101,204,129,120,13,10]⟩ w hE (by decide))
 have H2:=Lib.hid (fun W (h : Env W)=>gCount_any ⟨#[240,159,135,166,240,159,135,167,240,159,135,168]⟩ W h (by decide))
 have H3:=Lib.hid (fun W (h : Env W)=>gTurn_any ⟨#[101,204,129,120]⟩ W h (by decide))
 have H4:=Lib.hid (fun W (h : Env W)=>gNext_any ⟨#[101,204,129,120]⟩ 0 W h (by decide))
 rw [glive_bounds] at H1
 simp only [glive_count] at H2
 simp only [glive_turn] at H3
 simp only [glive_next] at H4
 go_enter Tryz.func15,Tryz.ntmps15
 go_wp2_with fail
 refine H1.out.mono ?_
 rintro e w1 ⟨A,n,c,rfl,ho,hb1⟩
 obtain rfl : 4 = n:=ho.len
 have hb4 : Below w.heap.size w (w1.alloc (.cells #[.int .i64 0,.int .i64 3,.int .i64 4,.int .i64 6] 3)):=hb1.alloc hb1.size _
 have ho:=ho.alloc (.cells #[.int .i64 0,.int .i64 3,.int .i64 4,.int .i64 6] 3)
 have hr:=Rd.manyQ w1 3 1 ([(0 : Nat),3,4,6].map encN) #[.int .i64 0,.int .i64 3,.int .i64 4,.int .i64 6] rfl (by intro x hx;obtain ⟨y,_,rfl⟩:=List.mem_map.1 hx;rfl)
 have HY:=Lib.hid (zPlaces_same A (some ⟨w1.heap.size,0,none⟩) 4 c 4 [0,3,4,6] _ (ho.rd (by decide)) hr rfl (by omega))
 clear H1 hr ho
 go_wp2_with fail
 refine HY.out.mono ?_
 rintro e w3 ⟨rfl,hb5⟩
 have hb6:=below_step hb4 hb5 hb4.size
 go_wp2_with fail
 refine (H2.out _ (hE.below hb6)).mono ?_
 rintro e w4 ⟨rfl,hb7⟩
 have hb8:=below_step hb6 hb7 hb6.size
 go_wp2_with fail
 refine (H3.out _ (hE.below hb8)).mono ?_
 rintro e w5 ⟨rfl,hb9⟩
 have hb10:=below_step hb8 hb9 hb8.size
 go_wp2_with fail
 refine (H4.out _ (hE.below hb10)).mono ?_
 rintro e w6 ⟨rfl,hb11⟩
 have hb12:=below_step hb10 hb11 hb10.size
 go_wp2
 go_ret
 exact ⟨rfl,hb12⟩
end Go.Proofs.YtglmcknlnoknoaaGreatDoor
