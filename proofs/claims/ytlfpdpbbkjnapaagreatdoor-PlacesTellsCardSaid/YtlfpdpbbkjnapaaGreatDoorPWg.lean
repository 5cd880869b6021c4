/- -/
import Derived.RegionTactic
import Derived.BigRegion
import Derived.Deep.RegionHeld3
import Derived.ChangeAlike
import Derived.Shelf.SlSortCmp.NoneTotal
import Derived.Test.YtlfpdpbbkjnapaaGreatDoorPWc
import Derived.Test.YtlfpdpbbkjnapaaGreatDoorP0a
import Derived.Test.YtlfpdpbbkjnapaaGreatDoorP2a
namespace Go.Proofs.YtlfpdpbbkjnapaaGreatDoor
set_option maxRecDepth 100000
set_option maxHeartbeats 40000000
section
open Go.RowKit Go.Maps Go.Shelf Go.Sort
theorem encD_len (x : Int × Int × Nat) : (encD x).length = 3:=rfl
def cfD (x y : Int × Int × Nat) : Int:=cmpV x.1 y.1
theorem ltD (x y : Int × Int × Nat) : ltOf cfD x y = decide (x.1 < y.1):=by
 unfold ltOf cfD cmpV
 rcases (by omega : x.1 < y.1∨y.1 < x.1∨x.1 = y.1) with h | h | h
 ·simp [h]
 ·have h2 : ¬ x.1 < y.1:=by omega
  simp [h,h2]
 ·have h2 : ¬ x.1 < y.1:=by omega
  have h3 : ¬ y.1 < x.1:=by omega
  simp [h2,h3]
theorem swoD : SWO (ltOf cfD) where
 irrefl x:=by rw [ltD];simp
 trans x y z h1 h2:=by rw [ltD] at *;simp at *;omega
 ntrans x y z h1 h2:=by rw [ltD] at *;simp at *;omega
theorem closureD (x y : Int × Int × Nat) (W : World) :
  Calls Tryz.prog 204 #[.agg #[.int .i32 x.1,.int .i32 x.2.1,.int .i64 x.2.2],.agg #[.int .i32 y.1,.int .i32 y.2.1,.int .i64 y.2.2]] W fun e w'=>e = .returned (.int .i64 (cmpV x.1 y.1))∧∃ q os',w' = grow (W.drewN q) os':=by
 go_enter Tryz.func204,Tryz.ntmps204
 go_wp2_with (go_at_call 166;refine (lCompare_any _ _ _).mono ?_;rintro e w' ⟨rfl,rfl⟩)
 go_ret
 exact ⟨rfl,0,_,by rw [alloc_eq_grow,alloc_eq_grow,grow_grow];rfl⟩
theorem cmpLaysD (blk off size : Nat) (w : World) : CmpLays Tryz.prog 204 #[] encD 3 cfD blk off size w :=
 fun _ _ _ _ x y=>closureD x y _
theorem sortD_any (B g n c : Nat) (l : List (Int × Int × Nat)) (w : World) (hown : Own w B 235 3 (some ⟨g,0,none⟩) n c (l.map encD)) (hn : n≤4000000) :
  Calls Tryz.prog 203 #[.slice (some ⟨g,0,none⟩) n c,.func (.func 204) #[] #[]] w fun e w'=>e = .returned (.tuple #[])∧∃ l',Hid (l'.Perm l)∧Hid (RiseC l')∧Own w' B 235 3 (some ⟨g,0,none⟩) n c (l'.map encD)∧w.grownBy w' (some g):=by
 have eg : ∀ args w,(callFunc 204 args).run Tryz.prog w = .ok (.enter 204 args) w:=enters_of Tryz.func204 (by kernel_rfl) rfl
 let d : Array (Int × Int × Nat):=l.toArray
 have hdl : d.toList.map encD = l.map encD:=by simp [d]
 have hdv : d.toList = l:=by simp [d]
 have ho : Own w B 235 3 (some ⟨g,0,none⟩) n c (d.toList.map encD):=by rw [hdl];exact hown
 have hds : d.size = n:=by have:=ho.len;simpa using this
 have hlt : g < w.heap.size:=(ho.lt _ rfl).2
 have hcon:=AnyQ.slices_SortFunc Tryz.sortRd 3 Tryz.isAgg235 Tryz.sizeOf235 encD encD_len (fun x v hv=>by simp [encD] at hv;rcases hv with rfl | rfl | rfl <;> rfl) cfD swoD 204 #[] g 0 c d w eg (cmpLaysD g 0 d.size w) (own_holdsK encD_len (by omega) ho) hlt (by omega)
 change Calls Tryz.prog 203 _ _ _ at hcon
 rw [hds] at hcon
 refine hcon.mono ?_
 rintro e w' ⟨rfl,d',m,os,hp,hs,rfl⟩
 obtain ⟨h1,h2⟩:=own_sorted encD_len (by omega) ho (d':=d') (by rw [hp.1]) m os
 refine ⟨rfl,d'.toList,?_,?_,h1,h2⟩
 ·have hpp:=hp.2.2
  rw [Array.extract_eq_self_of_le (by rw [hp.1];omega),Array.extract_eq_self_of_le (by omega)] at hpp
  exact Lib.hid (by rw [← hdv];exact hpp)
 ·refine Lib.hid ?_
  unfold RiseC
  rw [List.pairwise_iff_getElem]
  intro i j hi hj hij
  have hi' : i < d'.size:=by simpa using hi
  have hj' : j < d'.size:=by simpa using hj
  have:=hs i j (Nat.zero_le _) hij (by rw [hp.1] at hj';omega)
  rw [ltD] at this
  rw [getElem!_pos d' j hj',getElem!_pos d' i hi'] at this
  simp at this
  simpa using this
theorem sortD_all (B n c : Nat) (A : Option Addr) (l : List (Int × Int × Nat)) (w : World) (hown : Own w B 235 3 A n c (l.map encD)) (hn : n≤4000000) :
  Calls Tryz.prog 203 #[.slice A n c,.func (.func 204) #[] #[]] w fun e w'=>e = .returned (.tuple #[])∧∃ l',Hid (l'.Perm l)∧Hid (RiseC l')∧Own w' B 235 3 A n c (l'.map encD)∧w.grownBy w' (A.map (·.block)):=by
 rcases Nat.eq_zero_or_pos n with h0 | h0
 ·subst h0
  have hnil : l = []:=by have:=hown.len;simpa using this
  subst hnil
  have h:=AnyF.slices_SortFunc_none Tryz.sortRd A c (.func (.func 204) #[] #[]) w
  change Calls Tryz.prog 203 _ _ _ at h
  refine h.mono ?_
  rintro e w' ⟨rfl,rfl⟩
  exact ⟨rfl,[],List.Perm.refl _,List.Pairwise.nil,hown,World.grownBy.refl _ _⟩
 ·obtain ⟨g,rfl,_,_⟩:=hown.form h0
  exact sortD_any B g n c l w hown hn
theorem Own.old {w w' : World} {base p : Nat} {e : TypeId} {s : Nat} {A : Option Addr} {n c : Nat} {cs : List (List Value)} (h : Own w base e s A n c cs) (hg : w.grownBy w' (some p)) (hp : ∀ a,A = some a→a.block ≠ p) : Own w' base e s A n c cs :=
 h.grown hg fun a ha e=>hp a ha (by injection e)
theorem grown_far {w a b : World} {row : Option Nat} {p : Nat} (h : w.grownBy a (some p)) (k : a.grownBy b row) (hr : ∀ g,row = some g→w.heap.size≤g∨g = p) : w.grownBy b (some p) :=
 ⟨k.os.trans h.os,k.tape.trans h.tape,k.output.trans h.output,Nat.le_trans h.size k.size,fun i hi hne=>(k.block i (Nat.lt_of_lt_of_le hi h.size) fun e=>by
  rcases hr i e.symm with h1 | h1
  ·omega
  ·exact hne (by rw [h1])).trans (h.block i hi hne)⟩
section
variable {w : World} {base p x : Nat} {An : Option Addr} {nn cn bm nm : Nat} {D : DataW Unit} {As : Option Addr} {ns cs : Nat} {xs : List (Option Addr × Nat × Nat)} {d : DbP}
theorem rd_types : (235 : TypeId) ≠ 229∧(235 : TypeId) ≠ 262:=by decide
theorem DbX.closed {w2 wz : World} {Ar : Option Addr} {nr cr g : Nat} {y : Option Addr × Nat × Nat} (h : DbX w base p x An nn cn bm nm D (some ⟨g,0,none⟩) ns cs xs d.names d.sets) (ho : d.Ok) (hg : w.grownBy w2 (some p)) (hB : base≤w.heap.size)
  (hb : Blk w2 p 229 #[.slice An nn cn,.map (some bm),.slice (some ⟨g,0,none⟩) ns cs,.slice Ar nr cr]) (hr : Own w2 w.heap.size 235 3 Ar nr cr (d.rng.map encD)) (hz : Below w2.heap.size w2 wz) (hy : Own wz w2.heap.size 262 2 y.1 y.2.1 y.2.2 (d.rest.map encR)) :
  DbAt (wz.setCell ⟨g,0,none⟩ (.slice y.1 y.2.1 y.2.2)) p d∧Below base w (wz.setCell ⟨g,0,none⟩ (.slice y.1 y.2.1 y.2.2)):=by
 obtain ⟨t1,t2,t3,t4,t5,t6⟩:=types_ne
 have hgp : g ≠ p:=h.hs.off h.blk t3 _ rfl
 have hgw : g < w.heap.size:=(h.hs.lt _ rfl).2
 have hn0 : 0 < ns:=by
  have h1:=h.lenS.2;have h2:=ho.len;have h3:=ho.head
  cases hd : d.names with
  | nil=>rw [hd] at h3;cases h3
  | cons a b=>rw [hd] at h2;simp at h2;omega
 have n2:=(h.hn.old hg (h.hn.off h.blk t2)).below hz
 have s2:=(h.hs.old hg (h.hs.off h.blk t3)).below hz
 have m2:=map_below (map_kept h.hm hg (fun e=>h.blk.offMap h.hm (by injection e with e;exact e.symm))) hz
 have x2:=(h.hx.grown hg (fun q r e=>by injection e with e;subst e;exact blk_not_R h.blk t6 r)).below hz
 have b2:=hb.below hz
 have r2:=hr.below hz
 have hsn:=fun (a : Addr) (ha : An = some a)=>h.hn.apart h.hs t1 a ⟨g,0,none⟩ ha rfl
 refine ⟨⟨An,nn,cn,bm,nm,D,some ⟨g,0,none⟩,ns,cs,xs.set 0 y,Ar,nr,cr,b2.far (p:=⟨g,0,none⟩) (Ne.symm hgp) _,(n2.setCell (p:=⟨g,0,none⟩) hsn _).more (Nat.zero_le _),map_setCell m2 (q:=⟨g,0,none⟩) (fun e=>h.hs.offMap h.hm ⟨g,0,none⟩ rfl e.symm) _,h.hD,?_,?_,?_⟩,?_⟩
 ·have:=s2.storedSl (k:=0) (by rw [h.lenS.1];exact hn0) y
  exact this.more (Nat.zero_le _)
 ·rw [← full_set ho]
  refine Sets.set_ ((x2.setCell (q:=⟨g,0,none⟩) (fun r=>own_not_R s2 t5 g r rfl) _).more (Nat.zero_le _)) ?_
  exact (hy.setCell (p:=⟨g,0,none⟩) (fun a ha e=>by have:=(hy.lt a ha).1;have:=hg.size;simp only at e;omega) _).more (Nat.zero_le _)
 ·exact (r2.setCell (p:=⟨g,0,none⟩) (fun a ha e=>by have:=(hr.lt a ha).1;simp only at e;omega) _).more (Nat.zero_le _)
 ·have hw2 : Below base w w2:=(Below.refl _ _).grown hg hB (fun k hk=>by injection hk with hk;subst hk;exact h.pb)
  exact (below_step hw2 hz (Nat.le_trans hB hg.size)).setCell (p:=⟨g,0,none⟩) (h.hs.lt _ rfl).1 _
end
theorem wclose_any (p base x : Nat) (d : DbP) (w : World) (hd : DbB w base p x d) (ho : d.Ok) (ha : Apart d.sets) (hB : base≤w.heap.size) :
  Calls Tryz.prog 163 #[.pointer (some ⟨p,0,none⟩)] w fun e w'=>e = .returned (.tuple #[])∧DbAt w' p d∧Below base w w':=by
 obtain ⟨An,nn,cn,bm,nm,D,As,ns,cs,xs,hX⟩:=hd.ex
 obtain ⟨i0,hi0,hz0,hz1,hz2⟩:=info_parts info_cloneD
 obtain ⟨j0,hj0,hy0,hy1,hy2⟩:=info_parts infoR
 have hns1 : 0 < ns:=by
  have h1:=hX.lenS.2;have h2:=ho.len;have h3:=ho.head
  cases hd : d.names with
  | nil=>rw [hd] at h3;cases h3
  | cons a b=>rw [hd] at h2;simp at h2;omega
 obtain ⟨g,HAs,hgB,hgw⟩:=hX.hs.form hns1
 subst HAs
 have hns64 : ns≤64:=by have h1:=hX.lenS.2;have h2:=ho.len;have h3:=ho.few;omega
 obtain ⟨T,HT⟩ : ∃ T,Hid (d.sets.tail = T):=⟨_,rfl⟩
 have hTl : T.length+1 = ns:=by have h1:=hX.lenS.2;have:=HT.out;rw [← this,List.length_tail];omega
 have HTl:=Lib.hid hTl
 have HTS : Hid (lenS T≤1114112):=Lib.hid (by have:=rng_len ho ha;rw [← HT.out];omega)
 have HTN : Hid (∀ (k : Nat) (s : List (Int × Int)),T[k]? = some s→NF s∧d.sets[k+1]? = some s):=Lib.hid (fun k s hk=>by
  have : d.sets[k+1]? = some s:=by rw [← HT.out] at hk;rw [List.getElem?_tail] at hk;exact hk
  exact ⟨ho.nf s (List.mem_of_getElem? this),this⟩)
 have HE:=Lib.hid (And.intro ho ha)
 have hpw:=hX.blk.lt
 have c2:=hX.blk.cell 2
 simp at c2
 clear ho ha hTl hd
 obtain ⟨t1,t2,t3,t4,t5,t6⟩:=types_ne
 have hgp : g ≠ p:=hX.hs.off hX.blk t3 _ rfl
 clear t1 t2 t3 t4 t5 t6
 have hcap:=hX.hs.cap.1
 by_cases hcs : cs = 1
 ·go_enter Tryz.func163,Tryz.ntmps163
  go_wp2_with fail
  go_loopw [2,13] (fun a v wr=>∃ (c : Nat) (Aa : Option Addr) (na ca : Nat) (Ar : Option Addr) (nr cr : Nat),a = .slice Aa na ca∧v = .int .i64 c∧c+1≤ns∧Blk wr p 229 #[.slice An nn cn,.map (some bm),.slice (some ⟨g,0,none⟩) ns cs,.slice Ar nr cr] ∧
    Own wr w.heap.size 235 3 Ar nr cr ((gotR T c 0).map encD)∧Own wr w.heap.size 262 2 Aa na ca (((T.take c).flatten).map encR)∧w.grownBy wr (some p)) (fun _ v _=>ns - (intOf v).toNat)
  case atStart=>exact ⟨0,none,0,0,none,0,0,rfl,rfl,by omega,hX.blk,by rw [gotR_first];exact Own.nil_ _ _ _ _,by simp;exact Own.nil_ _ _ _ _,World.grownBy.refl _ _⟩
  case round =>
   obtain ⟨c,Aa,na,ca,Ar,nr,cr,rfl,rfl,hc,hb,hr,hal,hg⟩:=hrel
   have hszr:=hg.size
   by_cases hlt : c+1 < ns
   ·exact absurd hlt (by omega)
   ·obtain rfl : c+1 = ns:=by omega
    have HGe:=Lib.hid (gotR_end (S:=T) (c:=c) (show ¬ c < T.length by have:=HTl.out;omega))
    have HFe : Hid ((T.take c).flatten = T.flatten):=Lib.hid (by rw [List.take_of_length_le (by have:=HTl.out;omega)])
    rw [HGe.out] at hr
    rw [HFe.out] at hal
    have hnr : nr≤1114112:=by have h1:=hr.len;rw [List.length_map,entG_len] at h1;have:=HTS.out;omega
    have hna : na≤1114112:=by have h1:=hal.len;rw [List.length_map,lenS_flat] at h1;have:=HTS.out;omega
    have k3:=hb.cell 3
    simp only [zG,zH,zI] at k3
    have hrp : ∀ a,Ar = some a→a.block ≠ p:=hr.off hb rd_types.1
    have hra:=hr.apart hal rd_types.2
    have hrb : ∀ a,Ar = some a→w.heap.size≤a.block:=fun a ha=>(hr.lt a ha).1
    go_wp2_with (go_at_call 203;go_must (refine (sortD_all w.heap.size nr cr Ar _ _ hr (by omega)).mono ?_);rintro e w2 ⟨rfl,l',HP,HR,ho2,hg2⟩)
    obtain rfl : l' = d.rng:=rng_unique HE.out.1 HE.out.2 (by have:=HP.out;unfold DbP.ents;rw [HT.out];exact this) HR.out
    have b2:=hb.grown hg2 (fun e=>by cases Ar with | none=>cases e | some a=>simp at e;exact hrp a rfl e.symm)
    have a2:=hal.grown hg2 (fun a ha e=>by cases Ar with | none=>cases e | some b=>simp at e;exact hra b a rfl ha e.symm)
    have g2:=grown_far hg hg2 (fun q hq=>by cases Ar with | none=>cases hq | some b=>simp at hq;subst hq;exact .inl (hrb b rfl))
    have k2:=b2.cell 2
    simp only [zG,zH,zI] at k2
    have HNot:=Lib.hid (rNot_any Aa na ca T.flatten w2.drew ((a2.rd (by omega)).drew) (by have h1:=a2.len;rw [List.length_map] at h1;exact h1) (by omega))
    have s2:=hX.hs.old g2 (hX.hs.off hX.blk types_ne.2.2.1)
    have hs0 : ∃ u,w2.cell? ⟨g,0,none⟩ = some u:=by
     obtain ⟨y,hy⟩ : ∃ y,xs[0]? = some y:=⟨_,List.getElem?_eq_getElem (show 0 < xs.length by have:=hX.lenS.1;omega)⟩
     exact ⟨_,s2.cell' rfl hy⟩
    obtain ⟨u,k0⟩:=hs0
    have f0:=s2.frozen 0
    clear hg2 HP HR
    go_wp2_with fail
    refine wp_region_noPanic ?_
    go_region_law (go_simp;go_at_call 205;refine HNot.out.mono ?_;rintro e wz ⟨A',n',c',rfl,ho',hb'⟩;have kz0:=cell_keep (w:=w2.drew) k0 hb';have kz2:=cell_keep (w:=w2.drew) k2 hb';have kzf:=((s2.drew).below hb').frozen 0)
    all_goals
     refine NoPanic.normal ?_
     have hcl:=hX.closed (y:=(A',n',c')) HE.out.1 g2 hB b2 ho2 (wz:=wz) ⟨hb'.os,hb'.tape,hb'.output,hb'.size,hb'.block⟩ (by unfold DbP.rest;rw [HT.out];exact ho')
     go_wp2
     first | exact ⟨_,results_none rfl _ _ _,rfl,hcl.1,hcl.2⟩ | exact ⟨_,rfl,results_none rfl _ _ _,rfl,hcl.1,hcl.2⟩ | exact ⟨rfl,_,results_none rfl _ _ _,rfl,hcl.1,hcl.2⟩
 ·go_enter Tryz.func163,Tryz.ntmps163
  go_wp2_with fail
  go_loopw [2,13] (fun a v wr=>∃ (c : Nat) (Aa : Option Addr) (na ca : Nat) (Ar : Option Addr) (nr cr : Nat),a = .slice Aa na ca∧v = .int .i64 c∧c+1≤ns∧Blk wr p 229 #[.slice An nn cn,.map (some bm),.slice (some ⟨g,0,none⟩) ns cs,.slice Ar nr cr] ∧
    Own wr w.heap.size 235 3 Ar nr cr ((gotR T c 0).map encD)∧Own wr w.heap.size 262 2 Aa na ca (((T.take c).flatten).map encR)∧w.grownBy wr (some p)) (fun _ v _=>ns - (intOf v).toNat)
  case atStart=>exact ⟨0,none,0,0,none,0,0,rfl,rfl,by omega,hX.blk,by rw [gotR_first];exact Own.nil_ _ _ _ _,by simp;exact Own.nil_ _ _ _ _,World.grownBy.refl _ _⟩
  case round =>
   obtain ⟨c,Aa,na,ca,Ar,nr,cr,rfl,rfl,hc,hb,hr,hal,hg⟩:=hrel
   have hszr:=hg.size
   by_cases hlt : c+1 < ns
   ·have hone : ¬ cs = 1:=by omega
    have hdc : decide (c < ns - 1) = true:=decide_eq_true (by omega)
    obtain ⟨s,Hs⟩ : ∃ s,Hid (T[c]? = some s):=⟨_,Lib.hid (List.getElem?_eq_getElem (show c < T.length by have:=HTl.out;omega))⟩
    obtain ⟨HNF,Hd⟩:=HTN.out c s Hs.out
    obtain ⟨⟨yA,yn,yc⟩,Hy⟩ : ∃ y,Hid (xs[c+1]? = some y):=⟨_,Lib.hid (List.getElem?_eq_getElem (show c+1 < xs.length by have:=hX.lenS.1;omega))⟩
    have hoy : Own w base 262 2 yA yn yc (s.map encR):=hX.hx.own (c+1) (yA,yn,yc) s Hy.out Hd
    have hyp:=hoy.off hX.blk (Ne.symm types_ne.2.2.2.2.2)
    have hly : s.length = yn:=by simpa using hoy.len
    have hny:=own_nf_len hoy HNF
    have hfl:=Lib.hid (flat_le T c)
    have hnal : na≤1114112:=by have h1:=hal.len;rw [List.length_map] at h1;have:=hfl.out;have:=HTS.out;omega
    have hcell : wr.cell? ⟨g,c+1,none⟩ = some (.slice yA yn yc):=(World.cell?_of_block (hg.block g hgw (fun e=>hgp (by injection e)))).trans (hX.hs.cell' rfl Hy.out)
    have hcell' : wr.cell? ⟨g,1+c,none⟩ = some (.slice yA yn yc):=by rw [Nat.add_comm];exact hcell
    have Hly:=Lib.hid hly
    have HFN:=Lib.hid (flat_next Hs.out)
    clear HNF Hd hly
    go_wp2_with fail
    go_loopw [20] (fun v wq=>∃ (k : Nat) (Ar : Option Addr) (nr cr : Nat),v = .int .i64 k∧k≤yn∧Blk wq p 229 #[.slice An nn cn,.map (some bm),.slice (some ⟨g,0,none⟩) ns cs,.slice Ar nr cr] ∧
     Own wq w.heap.size 235 3 Ar nr cr ((gotR T c k).map encD)∧Own wq w.heap.size 262 2 Aa na ca (((T.take c).flatten).map encR)∧w.grownBy wq (some p)) (fun v _=>yn - (intOf v).toNat)
    case atStart=>exact ⟨0,Ar,nr,cr,rfl,by omega,hb,hr,hal,hg⟩
    case round =>
     clear hcell hcell' hb hr hal hg
     obtain ⟨k,Ar,nr,cr,rfl,hk,hb,hr,hal,hg⟩:=hrel
     have hszq:=hg.size
     have hoq:=hoy.old hg hyp
     have hgl:=Lib.hid (gotR_len (S:=T) (c:=c) (k:=k))
     have hnr : nr≤1114112:=by have h1:=hr.len;rw [List.length_map] at h1;have:=hgl.out;have:=HTS.out;omega
     by_cases hkl : k < yn
     ·obtain ⟨b,off,lo,hi,rfl,Hx,hx1,hx2⟩:=(hoq.rd (by omega)).atR (k:=k) (by have:=Hly.out;omega)
      have HG:=Lib.hid (gotR_in Hs.out Hx.out)
      have hbp : p < wr.heap.size:=hb.lt
      have k3:=hb.cell 3
      simp only [zG,zH,zI] at k3
      have hxr : Rd (wr.alloc (.cells #[.int .i32 lo,.int .i32 hi] 262)) 2 (some ⟨wr.heap.size,0,none⟩) [encR (lo,hi)]:=Rd.new wr 262 2 (encR (lo,hi))
      obtain ⟨b5,o5,e5,hc5⟩:=hxr (by simp)
      injection e5 with e5;injection e5 with e51 e52 _
      subst e51;subst e52
      have q0:=hc5 0 0 (encR (lo,hi)) (.int .i32 lo) rfl rfl
      have q1:=hc5 0 1 (encR (lo,hi)) (.int .i32 hi) rfl rfl
      simp only [Nat.zero_mul,Nat.add_zero,Nat.zero_add] at q0 q1
      have hrp : ∀ a,Ar = some a→a.block ≠ p:=hr.off hb rd_types.1
      have hra:=hr.apart hal rd_types.2
      have HW : Hid (IntKind.i64.wrap ((c : Int)+1) = (c : Int)+1):=Lib.hid (IntWalk.i64_in _ (by omega))
      have hsz0:=hg.size
      have hab : ∀ a,Aa = some a→w.heap.size≤a.block:=fun a ha=>(hal.lt a ha).1
      have hrb : ∀ a,Ar = some a→w.heap.size≤a.block:=fun a ha=>(hr.lt a ha).1
      clear hxr hc5
      go_wp2_with fail
      refine wp_region_noPanic ?_
      go_region_law (refine step_app rfl (.tmp 28) (.tmp 36) _ rfl w.heap.size 235 i0 _ 3 16 Tryz.underlying227 hi0 hz0 hz1 hz2 rfl (by omega) Ar nr cr ((gotR T c k).map encD) rfl ((hr.alloc _).drew.alloc _) _ 1 1 [encD (lo,hi,c+1)] rfl rfl (Rd.newAt (by simp) (by simp [encD,HW.out])) (encD_ok [(lo,hi,c+1)]) (by unfold maxLen;omega) (by omega) (by simp;omega) ?_;intro A3 c3 w3 ho3 hg3 hA3;have b3 : Blk w3 p 229 #[.slice An nn cn,.map (some bm),.slice (some ⟨g,0,none⟩) ns cs,.slice Ar nr cr]:=(((hb.alloc _).drew).alloc _).grown hg3 (fun e=>by cases Ar with | none=>cases e | some a=>simp at e;exact hrp a rfl e.symm);have k33:=b3.cell 3;have f33:=b3.frozen 3;simp only [zG,zH,zI] at k33)
      all_goals
       refine NoPanic.normal ?_
       have hg4 : wr.grownBy w3 (Ar.map (·.block)):=grown_alloc (o:=.cells #[.int .i32 lo,.int .i32 hi] 262) (grown_alloc ⟨hg3.os,hg3.tape,hg3.output,hg3.size,hg3.block⟩)
       have Ho3 : Own w3 w.heap.size 235 3 A3 (nr+1) c3 ((gotR T c (k+1)).map encD):=by rw [HG.out,List.map_append];exact ho3
       have ha3:=hal.grown hg4 (fun a ha e=>by cases Ar with | none=>cases e | some b=>simp at e;exact hra b a rfl ha e.symm)
       have hw3:=grown_far hg hg4 (fun q hq=>by cases Ar with | none=>cases hq | some b=>simp at hq;subst hq;exact .inl (hrb b rfl))
       clear ho3 hg3 hg4 HG
       go_wp2
       go_roundw
       case rel =>
        exact ⟨k+1,A3,nr+1,c3,by go_num,by omega,by have:=b3.set_ 3 (.slice A3 (nr+1) c3);simpa using this,Ho3.setCell (p:=⟨p,3,none⟩) (fun a ha=>Ho3.off b3 rd_types.1 a ha) _,ha3.setCell (p:=⟨p,3,none⟩) (fun a ha=>ha3.off b3 (Ne.symm types_ne.2.2.2.2.2) a ha) _,only_setCell (p:=⟨p,3,none⟩) hw3 (.inl rfl) _⟩
       case measure=>simp [intOf];omega
     ·have hky : yn = k:=by omega
      subst hky
      have HGo:=Lib.hid (gotR_out Hs.out (show ¬ yn < s.length by have:=Hly.out;omega))
      have hls : s.length = yn:=Hly.out
      have hap : ∀ a,Aa = some a→a.block ≠ p:=hal.off hb (Ne.symm types_ne.2.2.2.2.2)
      have hra:=hr.apart hal rd_types.2
      have hab : ∀ a,Aa = some a→w.heap.size≤a.block:=fun a ha=>(hal.lt a ha).1
      have hfl2:=Lib.hid (flat_le T (c+1))
      have hbound : na+yn≤1114112:=by
       have h1:=hal.len;rw [List.length_map] at h1
       have h2:=hfl2.out;rw [HFN.out,List.length_append] at h2;have:=HTS.out;omega
      go_wp2_with (at_builtin;go_must (refine wpList_app rfl (.tmp 41) (.tmp 42) _ rfl w.heap.size 262 j0 _ 2 8 Tryz.underlying239 hj0 hy0 hy1 hy2 rfl (by omega) Aa na ca (((T.take c).flatten).map encR) rfl hal yA yn yc (s.map encR) rfl (by rw [List.length_map];exact hls) (hoq.rd (by omega)) (encR_ok s) (by unfold maxLen;omega) (by omega) (by omega) ?_);intro A3 c3 w3 ho3 hg3 hA3)
      have Ho3 : Own w3 w.heap.size 262 2 A3 (na+yn) c3 (((T.take (c+1)).flatten).map encR):=by rw [HFN.out,List.map_append];exact ho3
      have b3:=hb.grown hg3 (fun e=>by cases Aa with | none=>cases e | some a=>simp at e;exact hap a rfl e.symm)
      have r3:=hr.grown hg3 (fun a ha e=>by cases Aa with | none=>cases e | some b=>simp at e;exact hra a b ha rfl e)
      have g3:=grown_far hg hg3 (fun q hq=>by cases Aa with | none=>cases hq | some b=>simp at hq;subst hq;exact .inl (hab b rfl))
      rw [HGo.out] at r3
      clear ho3 hg3
      go_roundw
      case rel=>exact ⟨c+1,A3,na+yn,c3,Ar,nr,cr,rfl,by go_num,by omega,b3,r3,Ho3,g3⟩
      case measure=>simp [intOf];omega
   ·obtain rfl : c+1 = ns:=by omega
    have HGe:=Lib.hid (gotR_end (S:=T) (c:=c) (show ¬ c < T.length by have:=HTl.out;omega))
    have HFe : Hid ((T.take c).flatten = T.flatten):=Lib.hid (by rw [List.take_of_length_le (by have:=HTl.out;omega)])
    rw [HGe.out] at hr
    rw [HFe.out] at hal
    have hnr : nr≤1114112:=by have h1:=hr.len;rw [List.length_map,entG_len] at h1;have:=HTS.out;omega
    have hna : na≤1114112:=by have h1:=hal.len;rw [List.length_map,lenS_flat] at h1;have:=HTS.out;omega
    have k3:=hb.cell 3
    simp only [zG,zH,zI] at k3
    have hrp : ∀ a,Ar = some a→a.block ≠ p:=hr.off hb rd_types.1
    have hra:=hr.apart hal rd_types.2
    have hrb : ∀ a,Ar = some a→w.heap.size≤a.block:=fun a ha=>(hr.lt a ha).1
    go_wp2_with (go_at_call 203;go_must (refine (sortD_all w.heap.size nr cr Ar _ _ hr (by omega)).mono ?_);rintro e w2 ⟨rfl,l',HP,HR,ho2,hg2⟩)
    obtain rfl : l' = d.rng:=rng_unique HE.out.1 HE.out.2 (by have:=HP.out;unfold DbP.ents;rw [HT.out];exact this) HR.out
    have b2:=hb.grown hg2 (fun e=>by cases Ar with | none=>cases e | some a=>simp at e;exact hrp a rfl e.symm)
    have a2:=hal.grown hg2 (fun a ha e=>by cases Ar with | none=>cases e | some b=>simp at e;exact hra b a rfl ha e.symm)
    have g2:=grown_far hg hg2 (fun q hq=>by cases Ar with | none=>cases hq | some b=>simp at hq;subst hq;exact .inl (hrb b rfl))
    have k2:=b2.cell 2
    simp only [zG,zH,zI] at k2
    have HNot:=Lib.hid (rNot_any Aa na ca T.flatten w2.drew ((a2.rd (by omega)).drew) (by have h1:=a2.len;rw [List.length_map] at h1;exact h1) (by omega))
    have s2:=hX.hs.old g2 (hX.hs.off hX.blk types_ne.2.2.1)
    have hs0 : ∃ u,w2.cell? ⟨g,0,none⟩ = some u:=by
     obtain ⟨y,hy⟩ : ∃ y,xs[0]? = some y:=⟨_,List.getElem?_eq_getElem (show 0 < xs.length by have:=hX.lenS.1;omega)⟩
     exact ⟨_,s2.cell' rfl hy⟩
    obtain ⟨u,k0⟩:=hs0
    have f0:=s2.frozen 0
    clear hg2 HP HR
    go_wp2_with fail
    refine wp_region_noPanic ?_
    go_region_law (go_simp;go_at_call 205;refine HNot.out.mono ?_;rintro e wz ⟨A',n',c',rfl,ho',hb'⟩;have kz0:=cell_keep (w:=w2.drew) k0 hb';have kz2:=cell_keep (w:=w2.drew) k2 hb';have kzf:=((s2.drew).below hb').frozen 0)
    all_goals
     refine NoPanic.normal ?_
     have hcl:=hX.closed (y:=(A',n',c')) HE.out.1 g2 hB b2 ho2 (wz:=wz) ⟨hb'.os,hb'.tape,hb'.output,hb'.size,hb'.block⟩ (by unfold DbP.rest;rw [HT.out];exact ho')
     go_wp2
     first | exact ⟨_,results_none rfl _ _ _,rfl,hcl.1,hcl.2⟩ | exact ⟨_,rfl,results_none rfl _ _ _,rfl,hcl.1,hcl.2⟩ | exact ⟨rfl,_,results_none rfl _ _ _,rfl,hcl.1,hcl.2⟩
end
end Go.Proofs.YtlfpdpbbkjnapaaGreatDoor
