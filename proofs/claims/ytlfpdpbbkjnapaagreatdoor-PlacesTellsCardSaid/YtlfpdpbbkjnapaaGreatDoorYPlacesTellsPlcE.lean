/- -/
import Derived.Test.YtlfpdpbbkjnapaaGreatDoorYPlacesTellsPlcD
import Derived.Test.YtlfpdpbbkjnapaaGreatDoorYPlacesTells5a
namespace Go.Proofs.YtlfpdpbbkjnapaaGreatDoor
set_option maxRecDepth 100000
set_option maxHeartbeats 40000000
section
open Go.RowKit
theorem apart_app {w w' : World} {A B A' : Option Addr} {e : TypeId} {base s n c : Nat} {cs : List (List Value)} (hB : Own w base e s B n c cs) (hd : ∀ a b,A = some a→B = some b→a.block ≠ b.block) (hg : w.grownBy w' (A.map (·.block))) (hA : A' = A∨A' = some ⟨w.heap.size,0,none⟩) :
  Own w' base e s B n c cs∧∀ a b,A' = some a→B = some b→a.block ≠ b.block:=by
 refine ⟨hB.grown hg (fun b hb he=>?_),fun a b ha hb=>?_⟩
 ·cases A with
  | none=>simp at he
  | some a=>simp at he;exact hd a b rfl hb he.symm
 ·rcases hA with rfl | rfl
  ·exact hd a b ha hb
  ·injection ha with ha
   subst ha
   have:=(hB.lt b hb).2
   simp only
   omega
def unT (X : List (Nat × Nat × Nat)) : List Nat:=X.flatMap fun x=>if 65535 < x.1 then [x.2.1,x.2.1+1] else [x.2.1]
def stT (X : List (Nat × Nat × Nat)) : List Nat:=X.map fun x=>x.2.1
theorem unT_snoc (X : List (Nat × Nat × Nat)) (x : Nat × Nat × Nat) : unT (X++[x]) = unT X++(if 65535 < x.1 then [x.2.1,x.2.1+1] else [x.2.1]):=by unfold unT;rw [List.flatMap_append];simp
def LtR (W : World) (pk : Nat) (s : ByteArray) (i : Nat) (A3 : Option Addr) (c3 : Nat) : Prop :=
 ∃ V : List Value,V.length = i∧Own W (pk+1) 65 1 A3 i c3 (V.map fun v=>[v])∧∀ (j : Nat) (x : Nat × Nat × Nat) (v : Value),(lnP s)[j]? = some x→V[j]? = some v→∃ B d,v = .slice B (letQ s x).length d∧Rd W 1 B ((letQ s x).map encN)∧(letQ s x ≠ []→∀ b,B = some b→pk < b.block∧b.block < W.heap.size∧∀ a,A3 = some a→a.block ≠ b.block)
theorem LtR.first (W : World) (pk : Nat) (s : ByteArray) : LtR W pk s 0 none 0:=⟨[],rfl,Own.nil_ _ _ _ _,fun j x v _ hv=>by simp at hv⟩
theorem LtR.end_ {W : World} {pk : Nat} {s : ByteArray} {i : Nat} {A3 : Option Addr} {c3 : Nat} (h : LtR W pk s i A3 c3) (hi : (lnP s).length = i) : LsM W A3 ((lnP s).map (letQ s)):=by
 obtain ⟨V,h1,h2,h3⟩:=h
 refine ⟨V,by rw [List.length_map,h1,hi],h2.rd (by decide),fun k l v hl hv=>?_⟩
 rw [List.getElem?_map] at hl
 obtain ⟨x,hx,rfl⟩:=Option.map_eq_some_iff.1 hl
 obtain ⟨B,d,e,hB,_⟩:=h3 k x v hx hv
 exact ⟨B,d,e,hB⟩
theorem infoSintE : (Tryz.prog.info? 65).map (fun i=>(i.zero,i.size,i.bytes)) = some (some (.slice none 0 0),1,24):=by kernel_rfl
theorem ltR_next {W wn w7 : World} {pk : Nat} {s : ByteArray} {i : Nat} {A3 A5 B : Option Addr} {c3 c5 d : Nat} {x : Nat × Nat × Nat} {u : Value} {V : List Value} (h1 : V.length = i) (h2 : Own W (pk+1) 65 1 A3 i c3 (V.map fun v=>[v]))
  (h3 : ∀ (j : Nat) (x : Nat × Nat × Nat) (v : Value),(lnP s)[j]? = some x→V[j]? = some v→∃ B d,v = .slice B (letQ s x).length d∧Rd W 1 B ((letQ s x).map encN)∧(letQ s x ≠ []→∀ b,B = some b→pk < b.block∧b.block < W.heap.size∧∀ a,A3 = some a→a.block ≠ b.block))
  (hbn : Below W.heap.size W wn) (hpk : pk < W.heap.size) (hx : (lnP s)[i]? = some x) (rB : Rd wn 1 B ((letQ s x).map encN)) (hBl : ∀ b,B = some b→W.heap.size≤b.block) (hg7 : wn.grownBy w7 (A3.map (·.block))) (hA7 : A5 = A3∨A5 = some ⟨wn.heap.size,0,none⟩)
  (ho7 : Own w7 (pk+1) 65 1 A5 (i+1) c5 ((V.map fun v=>[v])++[[.slice B (letQ s x).length d]])) : LtR (w7.setCell ⟨pk,3,none⟩ u) pk s (i+1) A5 c5:=by
 have hzn:=hbn.size
 have hz7:=hg7.size
 have hk : ∀ b,pk < b→b < wn.heap.size→(∀ a,A3 = some a→a.block ≠ b)→(w7.setCell ⟨pk,3,none⟩ u).heap[b]? = wn.heap[b]?:=fun b k1 k2 k3 =>
  (Below.heap_setCell w7 ⟨pk,3,none⟩ u b (by simp only;omega)).trans (hg7.block b k2 (fun e=>by
   cases A3 with
   | none=>simp at e
   | some a=>simp at e;exact k3 a rfl e.symm))
 have hap : ∀ b : Nat,b < wn.heap.size→(∀ a,A3 = some a→a.block ≠ b)→∀ a,A5 = some a→a.block ≠ b:=fun b k2 k3 a ha=>by
  rcases hA7 with rfl | rfl
  ·exact k3 a ha
  ·injection ha with ha
   subst ha
   simp only
   omega
 have hkeep : ∀ (Q : Option Addr) (l : List Nat),Rd wn 1 Q (l.map encN)→(l ≠ []→∀ b,Q = some b→pk < b.block∧b.block < wn.heap.size∧∀ a,A3 = some a→a.block ≠ b.block)→Rd (w7.setCell ⟨pk,3,none⟩ u) 1 Q (l.map encN):=fun Q l hQ hn=>by
  by_cases h0 : l = []
  ·subst h0;exact Rd.nil_ _ _ _
  ·exact hQ.keep fun b off j v ha hc=>by
    obtain ⟨k1,k2,k3⟩:=hn h0 _ ha
    exact (World.cell?_of_block (a:=⟨b,j,none⟩) (hk b k1 k2 k3)).trans hc
 refine ⟨V++[.slice B (letQ s x).length d],by simp [h1],?_,fun j y v' hj hv=>?_⟩
 ·rw [List.map_append]
  exact ho7.setCell (p:=⟨pk,3,none⟩) (fun a ha=>by have:=(ho7.lt a ha).1;simp only;omega) u
 ·by_cases hji : j < i
  ·rw [List.getElem?_append_left (by omega)] at hv
   obtain ⟨B',d',e,hB',hne⟩:=h3 j y v' hj hv
   have hne2 : letQ s y ≠ []→∀ b,B' = some b→pk < b.block∧b.block < wn.heap.size∧∀ a,A3 = some a→a.block ≠ b.block:=fun h0 b hb=>by
    obtain ⟨k1,k2,k3⟩:=hne h0 b hb
    exact ⟨k1,by omega,k3⟩
   refine ⟨B',d',e,hkeep B' _ (hB'.below hbn) hne2,fun h0 b hb=>?_⟩
   obtain ⟨k1,k2,k3⟩:=hne2 h0 b hb
   exact ⟨k1,by simp [World.setCell];omega,hap _ k2 k3⟩
  ·obtain rfl : j = i:=by
    have:=(List.getElem?_eq_some_iff.1 hv).1
    rw [List.length_append,List.length_singleton] at this
    omega
   rw [List.getElem?_append_right (by omega),h1,Nat.sub_self] at hv
   injection hv with hv
   rw [hx] at hj
   injection hj with hj
   subst hj
   have hne2 : letQ s x ≠ []→∀ b,B = some b→pk < b.block∧b.block < wn.heap.size∧∀ a,A3 = some a→a.block ≠ b.block:=fun h0 b hb=>by
    have k1:=hBl b hb
    obtain ⟨b',off',e,k2⟩:=rB.lt (fun y hy=>by obtain ⟨q,_,rfl⟩:=List.mem_map.1 hy;unfold encN;simp) (by simpa using h0)
    rw [hb] at e
    injection e with e
    subst e
    exact ⟨by omega,k2,fun a ha=>by have:=(h2.lt a ha).2;simp only at k1 ⊢;omega⟩
   refine ⟨B,d,hv.symm,hkeep B _ rB hne2,fun h0 b hb=>?_⟩
   obtain ⟨k1,k2,k3⟩:=hne2 h0 b hb
   exact ⟨k1,by simp [World.setCell];omega,hap _ k2 k3⟩
theorem fOf_any (s : ByteArray) (w : World) (hs : s.size≤50000) :
  Calls Tryz.prog 56 #[.string s] w fun e w'=>∃ p,e = .returned (.pointer (some ⟨p,0,none⟩))∧BookAt w' p s∧Below w.heap.size w w':=by
 obtain ⟨i0,hi0,hz0,hz1,hz2⟩:=info_parts infoInt
 obtain ⟨j0,hj0,jz0,jz1,jz2⟩:=info_parts infoSintE
 have HN:=Lib.hid (bNew_any w)
 have HM:=Lib.hid (fun W=>tMarks_any s W (by omega))
 have HLt:=Lib.hid (fun base pb t W (hB : BrkB W base pb graphsD rulesG true) (h : t.size≤90000)=>fletters_any base pb t W hB h)
 have HLn:=Lib.hid (fun W=>fLines_any s W (by omega))
 obtain ⟨X,HX⟩ : ∃ L,Hid (runesP s = L):=⟨_,Lib.hid rfl⟩
 have hXz : X.length≤s.size:=by rw [← HX.out];exact runesP_len s
 have HBd:=Lib.hid (fun z (h : z ∈ X)=>runesP_bd (s:=s) z (by rw [HX.out];exact h))
 rw [HX.out] at HM
 go_enter Tryz.func56,Tryz.ntmps56
 go_wp2_with fail
 refine HN.out.mono ?_
 rintro e w1 ⟨pb,rfl,hbk,hb1⟩
 go_wp2_with fail
 refine (HM.out w1).mono ?_
 rintro e w2 ⟨A,m,c,rfl,ho,hb2⟩
 have hm : X.length = m:=by have:=ho.len;rwa [List.length_map] at this
 have rd:=ho.rd (by decide)
 have Hm:=Lib.hid hm
 have hmz : m≤50000:=by omega
 have hB2:=below_two hb1 hb2
 have hbk2:=hbk.below hb2
 clear HM ho hm hXz hb1 hb2 hbk
 go_wp2_with fail
 go_loopw [5,6,8] (fun u r v wr=>∃ (i k c5 c6 : Nat) (A5 A6 : Option Addr),u = .slice A5 k c5∧r = .slice A6 i c6∧v = .int .i64 i∧i≤m∧k≤2*i∧Own wr w2.heap.size 3 1 A5 k c5 ((unT (X.take i)).map encN)∧Own wr w2.heap.size 3 1 A6 i c6 ((stT (X.take i)).map encN)∧Hid (∀ a b,A5 = some a→A6 = some b→a.block ≠ b.block)∧Below w2.heap.size w2 wr) (fun _ _ v _=>m - (intOf v).toNat)
 case atStart=>exact ⟨0,0,0,0,none,none,rfl,rfl,rfl,by omega,by omega,Own.nil_ _ _ _ _,Own.nil_ _ _ _ _,Lib.hid (fun a b h=>by cases h),Below.refl _ _⟩
 case round =>
  obtain ⟨i,k,c5,c6,A5,A6,rfl,rfl,rfl,hi,hki,o5,o6,hap,hb⟩:=hrel
  have hsz:=hb.size
  by_cases hlt : i < m
  ·obtain ⟨⟨R,a,z⟩,Hx⟩ : ∃ x,Hid (X[i]? = some x):=⟨_,Lib.hid (List.getElem?_eq_getElem (by have:=Hm.out;omega))⟩
   obtain ⟨g,off,rfl,hc⟩:=rd (by intro e;have:=congrArg List.length e;rw [List.length_map,Hm.out] at this;simp at this;omega)
   obtain ⟨hz1',hz2',_⟩:=HBd.out _ (List.mem_of_getElem? Hx.out)
   simp only at hz1' hz2'
   have g0:=hc i 0 (encMk (R,a,z)) (.int .i64 (a : Nat)) (by rw [List.getElem?_map,Hx.out];rfl) rfl
   have g2:=hc i 2 (encMk (R,a,z)) (.int .i32 (R : Nat)) (by rw [List.getElem?_map,Hx.out];rfl) rfl
   simp only [Nat.add_zero] at g0
   have c0:=cell_keep g0 hb
   have G0:=Lib.hid g0
   have G2:=Lib.hid g2
   have HS5:=Lib.hid (unT_snoc (X.take i) (R,a,z))
   have hT : X.take (i+1) = X.take i++[(R,a,z)]:=by rw [List.take_add_one,Hx.out];rfl
   have HT5 : Hid (unT (X.take (i+1)) = unT (X.take i)++(if 65535 < R then [a,a+1] else [a])):=Lib.hid (by rw [hT];exact HS5.out)
   have HT6 : Hid (stT (X.take (i+1)) = stT (X.take i)++[a]):=Lib.hid (by rw [hT];unfold stT;rw [List.map_append];rfl)
   have hl2 : ¬ (i : Int) ≥ (m : Int):=by omega
   clear hc hT g0 g2
   have hb6:=hb.alloc hsz (.cells #[.int .i64 (a : Int)] 3)
   go_upto_region 8 with (at_builtin;go_must (refine wpList_app rfl (.tmp 21) (.tmp 27) _ rfl w2.heap.size 3 i0 _ 1 8 Tryz.underlying65 hi0 hz0 hz1 hz2 rfl (by omega) A6 i c6 _ rfl (o6.alloc _) _ 1 1 [encN a] rfl rfl (Rd.newAt (by simp) rfl) (encN_ok' [a]) (by unfold maxLen;omega) (by omega) (by simp;omega) ?_);intro A7 c7 w7 o7 hg7 hA7;have ap7:=apart_app (o5.alloc (.cells #[.int .i64 (a : Int)] 3)) (fun x y hx hy e=>hap.out y x hy hx e.symm) hg7 hA7;have hb7:=below_app hb6 hg7 (by simp;omega) (fun x hx=>(o6.lt x hx).1);have c07:=cell_keep G0.out hb7)
   obtain ⟨o57,hap7⟩:=ap7
   have hz7:=hb7.size
   have hb8:=hb7.alloc hz7 (.cells #[.int .i64 (a : Int)] 3)
   clear c0
   go_upto_region 9 with (at_builtin;go_must (refine wpList_app rfl (.tmp 29) (.tmp 35) _ rfl w2.heap.size 3 i0 _ 1 8 Tryz.underlying65 hi0 hz0 hz1 hz2 rfl (by omega) A5 k c5 _ rfl (o57.alloc _) _ 1 1 [encN a] rfl rfl (Rd.newAt (by simp) rfl) (encN_ok' [a]) (by unfold maxLen;omega) (by omega) (by simp;omega) ?_);intro A8 c8 w8 o8 hg8 hA8;have ap8:=apart_app (o7.alloc (.cells #[.int .i64 (a : Int)] 3)) (fun x y hx hy e=>hap7 y x hy hx e.symm) hg8 hA8;have hb9:=below_app hb8 hg8 (by simp;omega) (fun x hx=>(o57.lt x hx).1);have c09:=cell_keep G0.out hb9;have c29:=cell_keep G2.out hb9)
   obtain ⟨o68,hap8⟩:=ap8
   clear hb6 hb7 hb8 hap7 o57 o7 hg7 hA7 hg8 hA8 hz7 c09
   by_cases hR : 65535 < R
   ·have hRI : (65535 : Int) < (R : Int):=by omega
    obtain ⟨j,hj⟩ : ∃ j,j = a+1:=⟨_,rfl⟩
    have ej : (a : Int)+1 = (j : Int):=by omega
    have ej2 : IntKind.i64.wrap ((a : Int)+1) = (j : Int):=by rw [ej];exact IntWalk.i64_in _ (by omega)
    have HJ:=Lib.hid hj
    have hz9:=hb9.size
    have hb10:=hb9.alloc hz9 (.cells #[.int .i64 (j : Int)] 3)
    have c09:=cell_keep G0.out hb9
    clear hj
    go_wp2_with (at_builtin;go_must (refine wpList_app rfl (.tmp 43) (.tmp 50) _ rfl w2.heap.size 3 i0 _ 1 8 Tryz.underlying65 hi0 hz0 hz1 hz2 rfl (by omega) A8 (k+1) c8 _ rfl (o8.alloc _) _ 1 1 [encN j] rfl rfl (Rd.newAt (by simp) rfl) (encN_ok' [j]) (by unfold maxLen;omega) (by omega) (by simp;omega) ?_);intro A9 c9 w9 o9 hg9 hA9;have ap9:=apart_app (o68.alloc (.cells #[.int .i64 (j : Int)] 3)) hap8 hg9 hA9;have hb11:=below_app hb10 hg9 (by simp;omega) (fun x hx=>(o8.lt x hx).1))
    obtain ⟨o69,hap9⟩:=ap9
    rw [List.append_assoc] at o9
    go_roundw
    case rel=>exact ⟨i+1,k+1+1,c9,c7,A9,A7,rfl,rfl,by go_num,by omega,by omega,by rw [HT5.out,if_pos hR,← HJ.out,List.map_append];exact o9,by rw [HT6.out,List.map_append];exact o69,Lib.hid hap9,hb11⟩
    case measure=>simp [intOf];omega
   ·have hRI : ¬ (65535 : Int) < (R : Int):=by omega
    go_wp2
    go_roundw
    case rel=>exact ⟨i+1,k+1,c8,c7,A8,A7,rfl,rfl,by go_num,by omega,by omega,by rw [HT5.out,if_neg hR,List.map_append];exact o8,by rw [HT6.out,List.map_append];exact o68,Lib.hid hap8,hb9⟩
    case measure=>simp [intOf];omega
  ·obtain rfl : i = m:=by omega
   have HT : Hid (X.take i = X):=Lib.hid (List.take_of_length_le (by have:=Hm.out;omega))
   have HU : Hid (unT X = unitsP s):=Lib.hid (by unfold unT unitsP;rw [HX.out])
   have HSt : Hid (stT X = startsP s):=Lib.hid (by unfold stT startsP;rw [HX.out])
   rw [HT.out,HU.out] at o5
   rw [HT.out,HSt.out] at o6
   obtain rfl : (unitsP s).length = k:=by have:=o5.len;rwa [List.length_map] at this
   obtain rfl : (startsP s).length = i:=by have:=o6.len;rwa [List.length_map] at this
   have HB2w:=below_step hB2 hb hB2.size
   have hbk3:=hbk2.below hb
   generalize hU : (unitsP s).length = ku at o5 hki ⊢
   generalize hV : (startsP s).length = kv at o6 hki hmz Hm ⊢
   have HU2:=Lib.hid hU
   have HV2:=Lib.hid hV
   clear hU hV rd hap hB2 hb hbk2 hi hlt hsz
   obtain ⟨wa,rfl⟩ : ∃ wa,wa = wr:=⟨wr,rfl⟩
   go_wp2_with fail
   go_loopw [7,9] (fun u v wq=>∃ (q c7 : Nat) (A7 : Option Addr),u = .slice A7 q c7∧v = .int .i64 q∧q≤s.size∧Own wq wa.heap.size 3 1 A7 q c7 ((List.range q).map encN)∧Below wa.heap.size wa wq) (fun _ v _=>s.size - (intOf v).toNat)
   case atStart=>exact ⟨0,0,none,rfl,rfl,by omega,Own.nil_ _ _ _ _,Below.refl _ _⟩
   case round =>
    obtain ⟨q,c7,A7,rfl,rfl,hq,o7,hbq⟩:=hrel
    have hzq:=hbq.size
    by_cases hlt : q < s.size
    ·have hltI : (q : Int) < (s.size : Int):=by omega
     have hb7:=hbq.alloc hzq (.cells #[.int .i64 (q : Int)] 3)
     go_wp2_with (at_builtin;go_must (refine wpList_app rfl (.tmp 58) (.tmp 60) _ rfl wa.heap.size 3 i0 _ 1 8 Tryz.underlying65 hi0 hz0 hz1 hz2 rfl (by omega) A7 q c7 _ rfl (o7.alloc _) _ 1 1 [encN q] rfl rfl (Rd.newAt (by simp) rfl) (encN_ok' [q]) (by unfold maxLen;omega) (by omega) (by first | (simp;done) | (simp;omega)) ?_);intro A8 c8 w8 o8 hg8 hA8;have hb8:=below_app hb7 hg8 (by first | (simp;done) | (simp;omega)) (fun x hx=>(o7.lt x hx).1))
     go_roundw
     case rel=>exact ⟨q+1,c8,A8,rfl,by go_num,by omega,by rw [List.range_succ,List.map_append];exact o8,hb8⟩
     case measure=>simp [intOf];omega
    ·obtain rfl : q = s.size:=by omega
     have o5q:=o5.below hbq
     have o6q:=o6.below hbq
     have hbkq:=hbk3.below hbq
     have hBq:=below_step HB2w hbq HB2w.size
     clear o5 o6 hbk3 hbq hzq HB2w hlt hq
     go_wp2_with fail
     refine (HLt.out _ pb s wr hbkq (by omega)).mono ?_
     rintro e w11 ⟨A10,c10,rfl,r10,_,hb11⟩
     have hB11:=below_step hBq hb11 hBq.size
     have o51:=o5q.below hb11
     have o61:=o6q.below hb11
     have o71:=o7.below hb11
     have hbk11:=hbkq.below hb11
     clear o5q o6q o7 hbkq hBq hb11
     have hb12 : Below w11.heap.size w11 (w11.alloc (.cells #[.slice A5 ku c5,.slice A6 kv c6,.slice A7 s.size c7,.slice A10 (letS s).length c10] 65)):=(Below.refl _ _).alloc (Nat.le_refl _) _
     have hL4 : LsM (w11.alloc (.cells #[.slice A5 ku c5,.slice A6 kv c6,.slice A7 s.size c7,.slice A10 (letS s).length c10] 65)) (some ⟨w11.heap.size,0,none⟩) [unitsP s,startsP s,List.range s.size,letS s]:=by
      refine ⟨[.slice A5 ku c5,.slice A6 kv c6,.slice A7 s.size c7,.slice A10 (letS s).length c10],rfl,Rd.manyQ w11 65 1 ([Value.slice A5 ku c5,Value.slice A6 kv c6,Value.slice A7 s.size c7,Value.slice A10 (letS s).length c10].map fun v=>[v]) #[.slice A5 ku c5,.slice A6 kv c6,.slice A7 s.size c7,.slice A10 (letS s).length c10] rfl (by intro x hx;obtain ⟨y,_,rfl⟩:=List.mem_map.1 hx;rfl),fun j l v hl hv=>?_⟩
      match j,hl,hv with
      | 0,hl,hv =>
       injection hl with hl;injection hv with hv;subst hl hv
       exact ⟨A5,c5,by rw [HU2.out],(o51.rd (by decide)).below hb12⟩
      | 1,hl,hv =>
       injection hl with hl;injection hv with hv;subst hl hv
       exact ⟨A6,c6,by rw [HV2.out],(o61.rd (by decide)).below hb12⟩
      | 2,hl,hv =>
       injection hl with hl;injection hv with hv;subst hl hv
       exact ⟨A7,c7,by rw [List.length_range],(o71.rd (by decide)).below hb12⟩
      | 3,hl,hv =>
       injection hl with hl;injection hv with hv;subst hl hv
       exact ⟨A10,c10,rfl,r10.below hb12⟩
     have hB12:=below_step hB11 hb12 hB11.size
     have hbk12:=hbk11.below hb12
     go_wp2_with fail
     generalize (w11.alloc (.cells #[.slice A5 ku c5,.slice A6 kv c6,.slice A7 s.size c7,.slice A10 (letS s).length c10] 65)) = w12 at hL4 hB12 hbk12 ⊢
     generalize w11.heap.size = g4 at hL4 ⊢
     clear o51 o61 o71 r10 hbk11 hB11 hb12
     refine (HLn.out w12).mono ?_
     rintro e w13 ⟨AL,cL,rfl,oL,hb13⟩
     have hL413:=hL4.below hb13
     have hB13:=below_step hB12 hb13 hB12.size
     have hbk13:=hbk12.below hb13
     have rdL:=oL.rd (by decide)
     have hlp:=lnP_len s
     obtain ⟨n,hn⟩ : ∃ n,(lnP s).length = n:=⟨_,rfl⟩
     have Hn:=Lib.hid hn
     rw [hn] at hlp
     rw [hn]
     have hBk0:=Blk.new w13 107 #[.string s,.slice (some ⟨g4,0,none⟩) 4 4,.slice AL n cL,.slice none 0 0]
     have hb14 : Below w13.heap.size w13 (w13.alloc (.cells #[.string s,.slice (some ⟨g4,0,none⟩) 4 4,.slice AL n cL,.slice none 0 0] 107)):=(Below.refl _ _).alloc (Nat.le_refl _) _
     clear hn hL4 hB12 hbk12 hb13 oL
     go_wp2_with fail
     generalize (w13.alloc (.cells #[.string s,.slice (some ⟨g4,0,none⟩) 4 4,.slice AL n cL,.slice none 0 0] 107)) = w14 at hBk0 hb14 ⊢
     go_loopw [11] (fun v wq=>∃ (i c3 : Nat) (A3 : Option Addr),v = .int .i64 i∧i≤n∧Blk wq w13.heap.size 107 #[.string s,.slice (some ⟨g4,0,none⟩) 4 4,.slice AL n cL,.slice A3 i c3]∧LtR wq w13.heap.size s i A3 c3∧Below w13.heap.size w13 wq) (fun v _=>n - (intOf v).toNat)
     case atStart=>exact ⟨0,0,none,rfl,Nat.zero_le _,hBk0,LtR.first _ _ _,hb14⟩
     case round =>
      clear hBk0 hb14
      obtain ⟨i,c3,A3,rfl,hi,hBk,hLt,hbr⟩:=hrel
      have k2:=hBk.cell 2
      have k3:=hBk.cell 3
      have fk3:=hBk.frozen 3
      simp only [zG,zH,zI] at k2 k3
      by_cases hlt : i < n
      ·obtain ⟨⟨f,t,z⟩,hx⟩ : ∃ x,(lnP s)[i]? = some x:=⟨_,List.getElem?_eq_getElem (by rw [Hn.out];exact hlt)⟩
       obtain ⟨_,hft,htz,hzs⟩:=line_in hx
       simp only at hft htz hzs
       have Hx:=Lib.hid hx
       obtain ⟨gL,offL,rfl,hc⟩:=rdL (by intro e;rw [List.map_eq_nil_iff] at e;rw [e] at hx;simp at hx)
       have y0:=cell_keep (hc i 0 (encLn3 (f,t,z)) (.int .i64 (f : Nat)) (by rw [List.getElem?_map,hx];rfl) rfl) hbr
       have y1:=cell_keep (hc i 1 (encLn3 (f,t,z)) (.int .i64 (t : Nat)) (by rw [List.getElem?_map,hx];rfl) rfl) hbr
       simp only [Nat.add_zero] at y0
       have hgL : gL < w13.heap.size:=cell_lt (hc i 0 (encLn3 (f,t,z)) (.int .i64 (f : Nat)) (by rw [List.getElem?_map,hx];rfl) rfl)
       have hQ:=Lib.hid (HLt.out _ pb (s.extract f t) wr.drew (hbk13.below hbr.drew) (by rw [ByteArray.size_extract];omega))
       have hpk:=hBk.lt
       obtain ⟨V,hV1,hV2,hV3⟩:=hLt
       have hltI : (i : Int) < (n : Int):=by omega
       have q0 : (0 : Int)≤(f : Int):=by omega
       have q1 : (f : Int)≤(t : Int):=by omega
       have q2 : (t : Int)≤(s.size : Int):=by omega
       have q3 : t≤s.size:=by omega
       clear hc hx
       go_wp2_with fail
       refine wp_region_last (S:=fun U=>U.cell? ⟨w13.heap.size,3,none⟩ = some (.slice A3 i c3)∧U.cell? ⟨w13.heap.size,2,none⟩ = some (.slice (some ⟨gL,offL,none⟩) n cL)∧U.cell? ⟨gL,offL+i*3,none⟩ = some (.int .i64 (f : Nat))∧U.cell? ⟨gL,offL+i*3+1,none⟩ = some (.int .i64 (t : Nat))) 29 rfl (by kernel_rfl) (by kernel_rfl) (by kernel_rfl) ⟨k3,k2,y0,y1⟩ (fun hHeld=>?_)
       simp only [List.dropLast_cons_cons,List.dropLast_singleton]
       refine tkH (i:=0) (v:=?_) rfl ?_ ?_;rotate_left;focus ((intro w hSw;(try dsimp only at hSw);go_simp);try with_reducible rfl)
       (try simp only [Act.put,zA,zC,zD,zE,zF])
       refine tkH (i:=1) (v:=?_) rfl ?_ ?_;rotate_left;focus ((intro w hSw;(try dsimp only at hSw);go_simp);try with_reducible rfl)
       (try simp only [Act.put,zA,zB,zC,zD,zE,zF])
       refine tkH (i:=2) (v:=?_) rfl ?_ ?_;rotate_left;focus ((intro w hSw;(try dsimp only at hSw);go_simp);try with_reducible rfl)
       (try simp only [Act.put,zA,zB,zC,zD,zE,zF])
       refine tkH (i:=3) (v:=?_) rfl ?_ ?_;rotate_left;focus ((intro w hSw;(try dsimp only at hSw);go_simp);try with_reducible rfl)
       (try simp only [Act.put,zA,zB,zC,zD,zE,zF])
       refine tkH (i:=4) (v:=?_) rfl ?_ ?_;rotate_left;focus ((intro w hSw;(try dsimp only at hSw);go_simp);try with_reducible rfl)
       (try simp only [Act.put,zA,zB,zC,zD,zE,zF])
       refine tkH (i:=5) (v:=?_) rfl ?_ ?_;rotate_left;focus ((intro w hSw;(try dsimp only at hSw);go_simp);try with_reducible rfl)
       (try simp only [Act.put,zA,zB,zC,zD,zE,zF])
       refine tkH (i:=6) (v:=?_) rfl ?_ ?_;rotate_left;focus ((intro w hSw;(try dsimp only at hSw);go_simp);try with_reducible rfl)
       (try simp only [Act.put,zA,zB,zC,zD,zE,zF])
       refine tkH (i:=7) (v:=?_) rfl ?_ ?_;rotate_left;focus ((intro w hSw;(try dsimp only at hSw);go_simp);try with_reducible rfl)
       (try simp only [Act.put,zA,zB,zC,zD,zE,zF])
       refine tkH (i:=8) (v:=?_) rfl ?_ ?_;rotate_left;focus ((intro w hSw;(try dsimp only at hSw);go_simp);try with_reducible rfl)
       (try simp only [Act.put,zA,zB,zC,zD,zE,zF])
       refine tkH (i:=9) (v:=?_) rfl ?_ ?_;rotate_left;focus ((intro w hSw;(try dsimp only at hSw);go_simp);try with_reducible rfl)
       (try simp only [Act.put,zA,zB,zC,zD,zE,zF])
       refine tkH (i:=10) (v:=?_) rfl ?_ ?_;rotate_left;focus ((intro w hSw;(try dsimp only at hSw);go_simp);try with_reducible rfl)
       (try simp only [Act.put,zA,zB,zC,zD,zE,zF])
       refine tkH (i:=11) (v:=?_) rfl ?_ ?_;rotate_left;focus ((intro w hSw;(try dsimp only at hSw);go_simp);try with_reducible rfl)
       (try simp only [Act.put,zA,zB,zC,zD,zE,zF])
       refine tkH (i:=12) (v:=?_) rfl ?_ ?_;rotate_left;focus ((intro w hSw;(try dsimp only at hSw);go_simp);try with_reducible rfl)
       (try simp only [Act.put,zA,zB,zC,zD,zE,zF])
       refine tkH (i:=13) (v:=?_) rfl ?_ ?_;rotate_left;focus ((intro w hSw;(try dsimp only at hSw);go_simp);try with_reducible rfl)
       (try simp only [Act.put,zA,zB,zC,zD,zE,zF])
       refine tkH (i:=14) (v:=?_) rfl ?_ ?_;rotate_left;focus ((intro w hSw;(try dsimp only at hSw);go_simp);try with_reducible rfl)
       (try simp only [Act.put,zA,zB,zC,zD,zE,zF])
       refine tkH (i:=15) (v:=?_) rfl ?_ ?_;rotate_left;focus ((intro w hSw;(try dsimp only at hSw);go_simp);try with_reducible rfl)
       (try simp only [Act.put,zA,zB,zC,zD,zE,zF])
       refine tkH (i:=16) (v:=?_) rfl ?_ ?_;rotate_left;focus ((intro w hSw;(try dsimp only at hSw);go_simp);try with_reducible rfl)
       (try simp only [Act.put,zA,zB,zC,zD,zE,zF])
       refine tkH (i:=17) (v:=?_) rfl ?_ ?_;rotate_left;focus ((intro w hSw;(try dsimp only at hSw);go_simp);try with_reducible rfl)
       (try simp only [Act.put,zA,zB,zC,zD,zE,zF])
       refine tkH (i:=18) (v:=?_) rfl ?_ ?_;rotate_left;focus ((intro w hSw;(try dsimp only at hSw);go_simp);try with_reducible rfl)
       (try simp only [Act.put,zA,zB,zC,zD,zE,zF])
       refine tkH (i:=19) (v:=?_) rfl ?_ ?_;rotate_left;focus ((intro w hSw;(try dsimp only at hSw);go_simp);try with_reducible rfl)
       (try simp only [Act.put,zA,zB,zC,zD,zE,zF])
       refine tkH (i:=20) (v:=?_) rfl ?_ ?_;rotate_left;focus ((intro w hSw;(try dsimp only at hSw);go_simp);try with_reducible rfl)
       (try simp only [Act.put,zA,zB,zC,zD,zE,zF])
       refine tkH (i:=21) (v:=?_) rfl ?_ ?_;rotate_left;focus ((intro w hSw;(try dsimp only at hSw);go_simp);try with_reducible rfl)
       (try simp only [Act.put,zA,zB,zC,zD,zE,zF])
       refine tkH (i:=22) (v:=?_) rfl ?_ ?_;rotate_left;focus ((intro w hSw;(try dsimp only at hSw);go_simp);try with_reducible rfl)
       (try simp only [Act.put,zA,zB,zC,zD,zE,zF])
       refine tkH (i:=23) (v:=?_) rfl ?_ ?_;rotate_left;focus ((intro w hSw;(try dsimp only at hSw);go_simp);try with_reducible rfl)
       (try simp only [Act.put,zA,zB,zC,zD,zE,zF])
       refine wpAnyH_ready (rs:=[24]) (by kernel_rfl) (by simp) ?_
       refine AllReadyH.cons rfl (fun K hK=>?_) AllReadyH.nil
       go_simp
       refine hQ.out.mono ?_
       rintro e wa1 ⟨B,d,rfl,rB,hBl,hba⟩
       refine hK.out _ _ ⟨cell_keep (w:=wr.drew) k3 hba,cell_keep (w:=wr.drew) k2 hba,cell_keep (w:=wr.drew) y0 hba,cell_keep (w:=wr.drew) y1 hba⟩ (fun hHeld=>?_)
       clear hK K
       (try simp only [Act.put,zA,zB,zC,zD,zE,zF])
       have hzz : wr.heap.size≤wa1.heap.size:=hba.size
       have hbn:=hba.alloc hba.size (.cells #[.slice B (letS (s.extract f t)).length d] 65)
       refine wpAnyH_ready (rs:=[25]) (by kernel_rfl) (by simp) ?_
       refine AllReadyH.cons rfl (fun K hK=>?_) AllReadyH.nil
       go_simp
       refine hK.out _ _ ⟨cell_keep (w:=wr.drew) k3 hbn,cell_keep (w:=wr.drew) k2 hbn,cell_keep (w:=wr.drew) y0 hbn,cell_keep (w:=wr.drew) y1 hbn⟩ (fun hHeld=>?_)
       clear hK K
       (try simp only [Act.put,zA,zB,zC,zD,zE,zF])
       refine wpAnyH_ready (rs:=[26]) (by kernel_rfl) (by simp) ?_
       refine AllReadyH.cons rfl (fun K hK=>?_) AllReadyH.nil
       refine step_app rfl (.tmp 87) (.tmp 108) _ rfl (w13.heap.size+1) 65 j0 _ 1 24 Tryz.underlying105 hj0 jz0 jz1 jz2 rfl (by omega) A3 i c3 (V.map fun v=>[v]) rfl ((hV2.drew).below hbn) _ 1 1 [[.slice B (letS (s.extract f t)).length d]] rfl rfl (Rd.newAt rfl rfl) (fun y hy=>by rw [List.mem_singleton.1 hy];exact ⟨rfl,fun u hu=>by rw [List.mem_singleton.1 hu];rfl⟩) (by unfold maxLen;omega) (by omega) (by simp;omega) ?_
       intro A9 c9 w7 ho7 hg7 hA7
       have hne3 : ∀ j,j≤w13.heap.size→some j ≠ A3.map (·.block):=fun j hj e=>by
        cases A3 with
        | none=>cases e
        | some q=>have:=(hV2.lt q rfl).1;simp at e;omega
       have h7 : ∀ j,j≤w13.heap.size→w7.heap[j]? = wr.heap[j]?:=fun j hj=>(hg7.block j (by have:=hbn.size;simp only [World.size_drew] at this;omega) (hne3 j hj)).trans (hbn.block j (by simp only [World.size_drew];omega))
       have k37:=(World.cell?_of_block (a:=⟨w13.heap.size,3,none⟩) (h7 w13.heap.size (Nat.le_refl _))).trans k3
       have k27:=(World.cell?_of_block (a:=⟨w13.heap.size,2,none⟩) (h7 w13.heap.size (Nat.le_refl _))).trans k2
       have y07:=(World.cell?_of_block (a:=⟨gL,offL+i*3,none⟩) (h7 gL (Nat.le_of_lt hgL))).trans y0
       have y17:=(World.cell?_of_block (a:=⟨gL,offL+i*3+1,none⟩) (h7 gL (Nat.le_of_lt hgL))).trans y1
       have f37:=(World.frozen?_of_block (a:=⟨w13.heap.size,3,none⟩) (h7 w13.heap.size (Nat.le_refl _))).trans fk3
       have hBk7 : Blk w7 w13.heap.size 107 #[.string s,.slice (some ⟨g4,0,none⟩) 4 4,.slice (some ⟨gL,offL,none⟩) n cL,.slice A3 i c3]:=(h7 w13.heap.size (Nat.le_refl _)).trans hBk
       have hb7 : Below w13.heap.size w13 w7:=⟨hg7.os.trans (hbn.os.trans hbr.os),hg7.tape.trans (hbn.tape.trans hbr.tape),hg7.output.trans (hbn.output.trans hbr.output),Nat.le_trans hbr.size (Nat.le_trans hbn.size hg7.size),fun j hj=>(h7 j (Nat.le_of_lt hj)).trans (hbr.block j hj)⟩
       refine hK.out _ _ ⟨k37,k27,y07,y17⟩ (fun hHeld=>?_)
       clear hK K
       (try simp only [Act.put,zA,zB,zC,zD,zE,zF])
       refine tkH (i:=27) (v:=?_) rfl ?_ ?_;rotate_left;focus ((intro w hSw;(try dsimp only at hSw);go_simp);try with_reducible rfl)
       (try simp only [Act.put,zA,zB,zC,zD,zE,zF])
       refine tkH (i:=28) (v:=?_) rfl ?_ ?_;rotate_left;focus ((intro w hSw;(try dsimp only at hSw);go_simp);try with_reducible rfl)
       (try simp only [Act.put,zA,zB,zC,zD,zE,zF])
       refine wpAnyH_done (by kernel_rfl) ?_ _
       refine tailQ_end (wpOp_step (i:=29) rfl (fun K hK=>?_))
       go_simp
       refine hK _ _ ?_
       clear hK K
       have hN:=ltR_next (u:=.slice A9 (i+1) c9) (x:=(f,t,z)) (d:=d) hV1 hV2 hV3 (((Below.refl wr.heap.size wr).drew).trans hbn) hpk Hx.out (rB.alloc _) hBl hg7 hA7 ho7
       have hB8:=hBk7.set_ 3 (.slice A9 (i+1) c9)
       simp only [zD,zE,zF] at hB8
       have hb8:=hb7.setCell (p:=⟨w13.heap.size,3,none⟩) (Nat.le_refl _) (.slice A9 (i+1) c9)
       go_wp2
       go_roundw
       case rel=>exact ⟨i+1,c9,A9,by go_num,by omega,hB8,hN,hb8⟩
       case measure=>simp [intOf];omega
      ·obtain rfl : i = n:=by omega
       have hltI : ¬ (i : Int) < (i : Int):=by omega
       go_wp2
       go_ret
       exact ⟨w13.heap.size,rfl,⟨some ⟨g4,0,none⟩,AL,A3,4,cL,c3,by rw [Hn.out];exact hBk,hL413.below hbr,rdL.below hbr,hLt.end_ Hn.out⟩,below_step hB13 hbr hB13.size⟩
end
end Go.Proofs.YtlfpdpbbkjnapaaGreatDoor
