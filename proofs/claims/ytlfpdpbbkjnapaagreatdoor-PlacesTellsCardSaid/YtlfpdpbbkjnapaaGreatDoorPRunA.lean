/- -/
import Derived.Deep.DeepMust
import Derived.Lib.MinMax
import Derived.RegionTactic
import Derived.BigRegion
import Derived.ChangeAlike
import Derived.Shelf.SlSortCmp.NoneTotal
import Derived.Test.YtlfpdpbbkjnapaaGreatDoorP1a
import Derived.Test.YtlfpdpbbkjnapaaGreatDoorP0a
import Derived.Test.YtlfpdpbbkjnapaaGreatDoorPShelf
namespace Go.Proofs.YtlfpdpbbkjnapaaGreatDoor
set_option maxRecDepth 100000
set_option maxHeartbeats 40000000
section
open Go.RowKit Go.Shelf Go.Sort
abbrev RgS:={ x : Int × Int // 0≤x.1∧x.1≤1114111 }
instance : Inhabited RgS:=⟨⟨(0,0),by decide,by decide⟩⟩
def encS (x : RgS) : List Value:=encR x.1
theorem encS_len (x : RgS) : (encS x).length = 2:=rfl
def cfS (x y : RgS) : Int:=x.1.1 - y.1.1
theorem ltS (x y : RgS) : ltOf cfS x y = decide (x.1.1 < y.1.1):=by
 unfold ltOf cfS
 by_cases h : x.1.1 < y.1.1 <;> simp [h] <;> omega
theorem swoS : SWO (ltOf cfS) where
 irrefl x:=by rw [ltS];simp
 trans x y z h1 h2:=by rw [ltS] at *;simp at *;omega
 ntrans x y z h1 h2:=by rw [ltS] at *;simp at *;omega
theorem closureNorm (x1 x2 y1 y2 : Int) (W : World) (hx : 0≤x1∧x1≤1114111) (hy : 0≤y1∧y1≤1114111) :
  Calls Tryz.prog 265 #[.agg #[.int .i32 x1,.int .i32 x2],.agg #[.int .i32 y1,.int .i32 y2]] W fun e w'=>e = .returned (.int .i64 (x1 - y1))∧∃ q os',w' = grow (W.drewN q) os':=by
 obtain ⟨a1,a2⟩:=hx
 obtain ⟨b1,b2⟩:=hy
 go_enter Tryz.func265,Tryz.ntmps265
 go_wp2
 go_ret
 exact ⟨rfl,0,_,by rw [alloc_eq_grow,alloc_eq_grow,grow_grow];rfl⟩
theorem cmpLaysNorm (blk off size : Nat) (w : World) : CmpLays Tryz.prog 265 #[] encS 2 cfS blk off size w :=
 fun _ _ _ _ x y=>closureNorm x.1.1 x.1.2 y.1.1 y.1.2 _ x.2 y.2
theorem sortR_any (B g n c : Nat) (l : List (Int × Int)) (w : World) (hown : Own w B 262 2 (some ⟨g,0,none⟩) n c (l.map encR)) (hl : ∀ x ∈ l,0≤x.1∧x.1≤1114111) (hn : n≤4000000) :
  Calls Tryz.prog 264 #[.slice (some ⟨g,0,none⟩) n c,.func (.func 265) #[] #[]] w fun e w'=>e = .returned (.tuple #[])∧∃ l',Hid (l'.Perm l)∧Hid (Rise l')∧Own w' B 262 2 (some ⟨g,0,none⟩) n c (l'.map encR)∧w.grownBy w' (some g):=by
 have eg : ∀ args w,(callFunc 265 args).run Tryz.prog w = .ok (.enter 265 args) w:=enters_of Tryz.func265 (by kernel_rfl) rfl
 let d : Array RgS:=(l.pmap (fun x h=>(⟨x,h⟩ : RgS)) hl).toArray
 have hdl : d.toList.map encS = l.map encR:=by
  simp only [d,List.map_pmap]
  have : ∀ (l : List (Int × Int)) (hl : ∀ x ∈ l,0≤x.1∧x.1≤1114111),l.pmap (fun x h=>encS (⟨x,h⟩ : RgS)) hl = l.map encR:=by
   intro l hl;induction l with
   | nil=>rfl
   | cons a l ih=>simp [List.pmap,encS]
  exact this l hl
 have hdv : d.toList.map (·.1) = l:=by
  simp only [d,List.map_pmap]
  have : ∀ (l : List (Int × Int)) (hl : ∀ x ∈ l,0≤x.1∧x.1≤1114111),l.pmap (fun x h=>(⟨x,h⟩ : RgS).1) hl = l:=by
   intro l hl;induction l with
   | nil=>rfl
   | cons a l ih=>simp [List.pmap,ih]
  exact this l hl
 have ho : Own w B 262 2 (some ⟨g,0,none⟩) n c (d.toList.map encS):=by rw [hdl];exact hown
 have hds : d.size = n:=by have:=ho.len;simpa using this
 have hlt : g < w.heap.size:=(ho.lt _ rfl).2
 have hcon:=AnyQ.slices_SortFunc Tryz.sortR 2 Tryz.isAgg262 Tryz.sizeOf262 encS encS_len (fun x v hv=>by simp [encS,encR] at hv;rcases hv with rfl | rfl <;> rfl) cfS swoS 265 #[] g 0 c d w eg (cmpLaysNorm g 0 d.size w) (own_holdsK encS_len (by omega) ho) hlt (by omega)
 change Calls Tryz.prog 264 _ _ _ at hcon
 rw [hds] at hcon
 refine hcon.mono ?_
 rintro e w' ⟨rfl,d',m,os,hp,hs,rfl⟩
 obtain ⟨h1,h2⟩:=own_sorted encS_len (by omega) ho (d':=d') (by rw [hp.1]) m os
 refine ⟨rfl,d'.toList.map (·.1),?_,?_,?_,h2⟩
 ·have hpp:=hp.2.2
  rw [Array.extract_eq_self_of_le (by rw [hp.1];omega),Array.extract_eq_self_of_le (by omega)] at hpp
  exact Lib.hid (by rw [← hdv];exact hpp.map _)
 ·refine Lib.hid ?_
  unfold Rise
  rw [List.pairwise_map,List.pairwise_iff_getElem]
  intro i j hi hj hij
  have hi' : i < d'.size:=by simpa using hi
  have hj' : j < d'.size:=by simpa using hj
  have:=hs i j (Nat.zero_le _) hij (by rw [hp.1] at hj';omega)
  rw [ltS] at this
  rw [getElem!_pos d' j hj',getElem!_pos d' i hi'] at this
  simp at this
  simpa using this
 ·rw [List.map_map];exact h1
theorem sortR_all (B n c : Nat) (A : Option Addr) (l : List (Int × Int)) (w : World) (hown : Own w B 262 2 A n c (l.map encR)) (hl : ∀ x ∈ l,0≤x.1∧x.1≤1114111) (hn : n≤4000000) :
  Calls Tryz.prog 264 #[.slice A n c,.func (.func 265) #[] #[]] w fun e w'=>e = .returned (.tuple #[])∧∃ l',Hid (l'.Perm l)∧Hid (Rise l')∧Own w' B 262 2 A n c (l'.map encR)∧w.grownBy w' (A.map (·.block)):=by
 rcases Nat.eq_zero_or_pos n with h0 | h0
 ·subst h0
  have hnil : l = []:=by have:=hown.len;simpa using this
  subst hnil
  have h:=AnyF.slices_SortFunc_none Tryz.sortR A c (.func (.func 265) #[] #[]) w
  change Calls Tryz.prog 264 _ _ _ at h
  refine h.mono ?_
  rintro e w' ⟨rfl,rfl⟩
  exact ⟨rfl,[],List.Perm.refl _,List.Pairwise.nil,hown,World.grownBy.refl _ _⟩
 ·obtain ⟨g,rfl,_,_⟩:=hown.form h0
  exact sortR_any B g n c l w hown hl hn
theorem rNorm_any (A : Option Addr) (n c : Nat) (l : List (Int × Int)) (w : World) (hA : Rd w 2 A (l.map encR)) (hl : l.length = n) (hn : n≤4000000) :
  Calls Tryz.prog 234 #[.slice A n c] w fun e w'=>∃ A' n' c',e = .returned (.slice A' n' c')∧Own w' w.heap.size 262 2 A' n' c' ((normR l).map encR)∧Below w.heap.size w w':=by
 obtain ⟨i0,hi0,hz0,hz1,hz2⟩:=info_parts infoR
 have Hl:=Lib.hid hl
 clear hl
 go_enter Tryz.func234,Tryz.ntmps234
 go_wp2
 go_loopw [3,12] (fun v i wr=>∃ (k : Nat) (A1 : Option Addr) (n1 c1 : Nat) (s : List (Int × Int)),k≤n∧n1≤k∧v = .slice A1 n1 c1∧i = .int .i64 k ∧
   Own wr w.heap.size 262 2 A1 n1 c1 (s.map encR)∧Hid (s = keepR (l.take k))∧Below w.heap.size w wr) (fun _ i _=>n - (intOf i).toNat)
 case atStart=>exact ⟨0,none,0,0,[],by omega,by omega,rfl,rfl,Own.nil_ _ _ _ _,by simp [Hid,keepR],Below.refl _ _⟩
 case round =>
  obtain ⟨k,A1,n1,c1,s,hk,hn1,rfl,rfl,ho,HP,hb⟩:=hrel
  by_cases hlt : k < n
  ·obtain ⟨b,off,lo,hi,rfl,Hx,hx1,hx2⟩:=hA.atR (k:=k) (by have:=Hl.out;omega)
   have hx1:=cell_keep hx1 hb
   have hx2:=cell_keep hx2 hb
   have HK:=Lib.hid (keepR_snoc l k (lo,hi) Hx.out)
   have hbs:=hb.size
   have hm1 : 0≤max lo 0:=by omega
   have hm2 : min hi 1114111≤1114111:=by omega
   by_cases h3 : max lo 0≤min hi 1114111
   ·go_wp2_with (at_builtin;go_must (refine wpList_app rfl (.tmp 29) (.tmp 31) _ rfl w.heap.size 262 i0 _ 2 8 Tryz.underlying239 hi0 hz0 hz1 hz2 rfl (by omega) A1 n1 c1 (s.map encR) rfl ((ho.alloc _).alloc _) _ 1 1 [encR (max lo 0,min hi 1114111)] rfl rfl (Rd.newAt (by simp) rfl) (encR_ok [(max lo 0,min hi 1114111)]) (by unfold maxLen;omega) (by omega) (by simp;omega) ?_);intro A3 c3 w3 ho3 hg3 hA3;have hb3:=below_app ((hb.alloc hbs (.cells #[.int .i32 (max lo 0),.int .i32 (min hi 1114111)] 262)).alloc (by simp;omega) (.cells #[.int .i32 (max lo 0),.int .i32 (min hi 1114111)] 262)) hg3 (by simp;omega) (fun a ha=>(ho.lt a ha).1);clear hg3)
    have Ho3 : Own w3 w.heap.size 262 2 A3 (n1+1) c3 ((s++[(max lo 0,min hi 1114111)]).map encR):=by rw [List.map_append];exact ho3
    clear ho3
    go_roundw
    case rel=>exact ⟨k+1,A3,n1+1,c3,s++[(max lo 0,min hi 1114111)],by omega,by omega,rfl,by go_num,Ho3,Lib.hid (by rw [HK.out,if_pos h3,HP.out]),hb3⟩
    case measure=>simp [intOf];omega
   ·have h4 : min hi 1114111 < max lo 0:=by omega
    have HE : Hid (s = keepR (l.take (k+1))):=Lib.hid (by rw [HK.out,if_neg h3,List.append_nil];exact HP.out)
    clear h3
    go_wp2
    go_roundw
    case rel=>exact ⟨k+1,A1,n1,c1,s,by omega,by omega,rfl,by go_num,ho.alloc _,HE,hb.alloc hbs _⟩
    case measure=>simp [intOf];omega
  ·obtain rfl : n = k:=by omega
   have HP' : Hid (s = keepR l):=Lib.hid (by have:=HP.out;rwa [List.take_of_length_le (by have:=Hl.out;omega)] at this)
   have Hbd : Hid (∀ x ∈ s,0≤x.1∧x.1≤1114111):=Lib.hid (fun x hx=>by rw [HP'.out] at hx;have:=keepR_le l x hx;omega)
   clear HP hA hlt hk
   go_wp2_with (go_at_call 264;go_must (refine (sortR_all w.heap.size n1 c1 A1 s _ ho Hbd.out (by omega)).mono ?_);rintro e w2 ⟨rfl,s2,HPm,HR,ho1,hg1⟩)
   have hb1 : RowKit.Below w.heap.size w w2:=below_app hb hg1 hb.size (fun a ha=>(ho.lt a ha).1)
   clear hg1 ho
   have HPm2 : Hid (s2.Perm (keepR l)):=Lib.hid (by rw [← HP'.out];exact HPm.out)
   go_loopw [6,38] (fun v i wr2=>∃ (k2 : Nat) (A2 : Option Addr) (n2 c2 : Nat) (o : List (Int × Int)),k2≤n1∧n2≤k2∧v = .slice A2 n2 c2∧i = .int .i64 k2 ∧
     Own wr2 w.heap.size 262 2 A1 n1 c1 (s2.map encR)∧Own wr2 w.heap.size 262 2 A2 n2 c2 (o.map encR)∧Hid (o = (s2.take k2).foldl mstep []) ∧
     Hid (∀ a a2,A1 = some a→A2 = some a2→a.block ≠ a2.block)∧RowKit.Below w.heap.size w wr2) (fun _ i _=>n1 - (intOf i).toNat)
   case atStart=>exact ⟨0,none,0,0,[],by omega,by omega,rfl,rfl,ho1,Own.nil_ _ _ _ _,by simp [Hid],Lib.hid (fun _ _ _ h=>by cases h),hb1⟩
   case round =>
    clear ho1 hb hb1
    obtain ⟨k2,A2,n2,c2,o,hk2,hn2,rfl,rfl,ho1,ho2,HO,HD,hb⟩:=hrel
    have hbs:=hb.size
    by_cases hlt2 : k2 < n1
    ·obtain ⟨g,rfl,hgB,hgl⟩:=ho1.form (by omega)
     obtain ⟨x1,x2,HX⟩ : ∃ x1 x2,Hid (s2[k2]? = some (x1,x2)):=⟨_,_,Lib.hid (List.getElem?_eq_getElem (by have:=ho1.len;simp at this;omega))⟩
     have HS:=Lib.hid (merge_snoc HX.out)
     have ⟨hx1,hx2⟩:=ho1.cellR HX.out
     simp only at hx1 hx2
     have HBD:=Lib.hid (merge_bd HPm2.out HR.out k2)
     rcases snoc_cases o with rfl | ⟨o,⟨y1,y2⟩,rfl⟩
     ·obtain rfl : n2 = 0:=by have:=ho2.len;simpa using this.symm
      go_wp2_with fail
      go_quiet (fail)
      go_wp2_with (at_builtin;go_must (refine wpList_app rfl (.tmp 72) (.tmp 74) _ rfl w.heap.size 262 i0 _ 2 8 Tryz.underlying239 hi0 hz0 hz1 hz2 rfl (by omega) A2 (0) c2 (([]).map encR) rfl (((ho2.alloc _).drewN _).alloc _) _ 1 1 [encR (x1,x2)] rfl rfl (Rd.newAt (by simp) rfl) (encR_ok [(x1,x2)]) (by unfold maxLen;omega) (by omega) (by simp;omega) ?_);intro A3 c3 w3 ho3 hg3 hA3)
      have hd3 : Hid (∀ a a2,some (⟨g,0,none⟩ : Addr) = some a→A3 = some a2→a.block ≠ a2.block):=Lib.hid (fun a a2 ha ha2=>by
       cases ha
       rcases hA3 with h | h
       ·exact HD.out _ a2 rfl (by rw [← h];exact ha2)
       ·rw [h] at ha2;cases ha2;have:=(ho1.lt _ rfl).2;simp at this ⊢;omega)
      have ho1':=(((ho1.alloc (.cells #[.int .i32 x1,.int .i32 x2] 262)).drewN nq).alloc (.cells #[.int .i32 x1,.int .i32 x2] 262)).grown hg3 (fun a ha=>by
       cases ha;intro e;cases hA2 : A2 with
       | none=>rw [hA2] at e;simp at e
       | some a2=>rw [hA2] at e;simp at e;exact HD.out _ a2 rfl hA2 e)
      have hb3:=below_app (((below_drewN (hb.alloc hbs (.cells #[.int .i32 x1,.int .i32 x2] 262)) nq)).alloc (by simp;omega) (.cells #[.int .i32 x1,.int .i32 x2] 262)) hg3 (by simp;omega) (fun a ha=>(ho2.lt a ha).1)
      clear hg3
      go_roundw
      case rel=>exact ⟨k2+1,A3,1,c3,[(x1,x2)],by omega,by omega,rfl,by go_num,ho1',ho3,Lib.hid (by rw [HS.out,← HO.out];rfl),hd3,hb3⟩
      case measure=>simp [intOf];omega
     ·obtain ⟨j,rfl⟩ : ∃ j,n2 = j+1:=⟨n2 - 1,by have:=ho2.len;simp at this;omega⟩
      obtain ⟨g2,rfl,hgB2,hgl2⟩:=ho2.form (by omega)
      have Hj : Hid (o.length = j):=Lib.hid (by have:=ho2.len;simpa using this)
      have ⟨hy1,hy2⟩:=ho2.cellR (k:=j) (x:=(y1,y2)) (by have:=Hj.out;subst this;simp)
      simp only at hy1 hy2
      have hne : g ≠ g2:=HD.out _ _ rfl rfl
      obtain ⟨hb0,hb1,hb2⟩ : 0≤y1∧y1≤y2∧y2≤1114111:=HBD.out (y1,y2) (by rw [← HO.out];simp)
      have hw1 : IntKind.i64.wrap (j : Int) = j:=IntWalk.i64_in _ (by omega)
      have hw2 : IntKind.i32.wrap (y2+1) = y2+1:=IntWalk.i32_in _ (by omega)
      by_cases hle : x1≤y2+1
      ·have hd1 : decide (x1≤y2+1) = true:=decide_eq_true hle
       have hf:=ho2.frozen (j*2+1)
       go_wp2_with fail
       go_quiet (fail)
       go_wp2_with fail
       have hc1 : ((wr.alloc (.cells #[.int .i32 x1,.int .i32 x2] 262)).drewN nq).cell? ⟨g2,j*2+1,none⟩ = some (.int .i32 y2):=cell_keep hy2 (below_drewN ((RowKit.Below.refl _ _).alloc (Nat.le_refl _) _) _)
       have hc2 : ((wr.alloc (.cells #[.int .i32 x1,.int .i32 x2] 262)).drewN nq).cell? ⟨wr.heap.size,1,none⟩ = some (.int .i32 x2):=by simp
       have hf2 : ((wr.alloc (.cells #[.int .i32 x1,.int .i32 x2] 262)).drewN nq).frozen? ⟨g2,j*2+1,none⟩ = false:=(((ho2.alloc (.cells #[.int .i32 x1,.int .i32 x2] 262)).drewN nq).frozen _)
       have ho1':=(ho1.alloc (.cells #[.int .i32 x1,.int .i32 x2] 262)).drewN nq
       have ho2':=(ho2.alloc (.cells #[.int .i32 x1,.int .i32 x2] 262)).drewN nq
       have hb3:=below_drewN (hb.alloc hbs (.cells #[.int .i32 x1,.int .i32 x2] 262)) nq
       generalize ((wr.alloc (.cells #[.int .i32 x1,.int .i32 x2] 262)).drewN nq) = wq at hc1 hc2 hf2 ho1' ho2' hb3 ⊢
       clear hf hy1 hy2 hx1 hx2
       go_region
       go_wp2
       refine ⟨⟨k2+1,_,_,c2,o++[(y1,max y2 x2)],by omega,by omega,rfl,by go_num,(ho1'.setCell (fun a ha=>by cases ha;exact hne) _).drew,(ho2'.storedHi Hj.out _).drew,
        Lib.hid (by rw [HS.out,← HO.out,mstep_snoc,if_pos hle]),HD,(hb3.setCell hgB2 _).drew⟩,?_⟩
       simp [intOf];omega
      ·have hd1 : decide (x1≤y2+1) = false:=decide_eq_false hle
       have hgt : y2+1 < x1:=by omega
       clear hle
       go_wp2_with fail
       go_quiet (fail)
       go_wp2_with (at_builtin;go_must (refine wpList_app rfl (.tmp 72) (.tmp 74) _ rfl w.heap.size 262 i0 _ 2 8 Tryz.underlying239 hi0 hz0 hz1 hz2 rfl (by omega) (some ⟨g2,0,none⟩) (j+1) c2 ((o++[(y1,y2)]).map encR) rfl (((ho2.alloc _).drewN _).alloc _) _ 1 1 [encR (x1,x2)] rfl rfl (Rd.newAt (by simp) rfl) (encR_ok [(x1,x2)]) (by unfold maxLen;omega) (by omega) (by simp;omega) ?_);intro A3 c3 w3 ho3 hg3 hA3)
       have hd3 : Hid (∀ a a2,some (⟨g,0,none⟩ : Addr) = some a→A3 = some a2→a.block ≠ a2.block):=Lib.hid (fun a a2 ha ha2=>by
        cases ha
        rcases hA3 with h | h
        ·exact HD.out _ a2 rfl (by rw [← h];exact ha2)
        ·rw [h] at ha2;cases ha2;simp;omega)
       have ho1':=(((ho1.alloc (.cells #[.int .i32 x1,.int .i32 x2] 262)).drewN nq).alloc (.cells #[.int .i32 x1,.int .i32 x2] 262)).grown hg3 (fun a ha=>by cases ha;intro e;simp at e;exact hne e)
       have hb3:=below_app (((below_drewN (hb.alloc hbs (.cells #[.int .i32 x1,.int .i32 x2] 262)) nq)).alloc (by simp;omega) (.cells #[.int .i32 x1,.int .i32 x2] 262)) hg3 (by simp;omega) (fun a ha=>(ho2.lt a ha).1)
       clear hg3
       have Ho3 : Own w3 w.heap.size 262 2 A3 (j+1+1) c3 ((o++[(y1,y2)]++[(x1,x2)]).map encR):=by rw [List.map_append];exact ho3
       clear ho3
       go_roundw
       case rel=>exact ⟨k2+1,A3,j+1+1,c3,o++[(y1,y2)]++[(x1,x2)],by omega,by omega,rfl,by go_num,ho1',Ho3,Lib.hid (by rw [HS.out,← HO.out,mstep_snoc,if_neg (by simp only;omega)]),hd3,hb3⟩
       case measure=>simp [intOf];omega
    ·go_wp2
     go_ret
     exact ⟨_,_,_,rfl,by have:=mergeR_eq HPm2.out HR.out;rw [mergeR,← List.take_of_length_le (l:=s2) (i:=k2) (by have:=ho1.len;simp at this;omega),← HO.out] at this;rw [← this];exact ho2,hb⟩
end
end Go.Proofs.YtlfpdpbbkjnapaaGreatDoor
