/-
 Several texts in one,in their build order: Te,Tk,Tm.
-/
import Derived.Test.YtdngkienloligaaGreatDoorYLineChancesTc
import Derived.Test.YtdngkienloligaaGreatDoorYLineChances0b
import Derived.Test.YtdngkienloligaaGreatDoorV0a
/- -/
namespace Go.Proofs.YtdngkienloligaaGreatDoor
open Go.RowKit
def encC (x : Nat × Bool) : List Value:=[.int .i64 (x.1 : Nat),.bool x.2]
theorem encC_ok (l : List (Nat × Bool)) : ∀ y ∈ l.map encC,y.length = 2∧∀ u ∈ y,u.oneCell' = true:=by
 intro y hy;obtain ⟨r,_,rfl⟩:=List.mem_map.1 hy
 exact ⟨rfl,by simp [encC,Value.oneCell']⟩
theorem infoC : (Tryz.prog.info? 63).map (fun i=>(i.zero,i.size,i.bytes)) = some (some (.agg #[.int .i64 0,.bool false]),2,16):=by kernel_rfl
theorem lpick_next {c : List Int} {P : List Nat} {i a : Nat} (h : P[i]? = some a) : lPick c 0 (P.take (i+1)) = lPick c 0 (P.take i)++(if i ≠ 0∧lCut c i = true then [(a,lMust (c.getD (i - 1) 0))] else []):=by
 obtain ⟨h1,h2⟩:=List.getElem?_eq_some_iff.1 h
 rw [List.take_add_one,h,Option.toList_some,lPick_append,Nat.zero_add,List.length_take,Nat.min_eq_left (by omega),lPick,lPick,List.append_nil]
theorem lpick_one (c : List Int) (P : List Nat) : lPick c 0 (P.take 1) = []:=by
 cases P with
 | nil=>rfl
 | cons a r=>simp [lPick]
set_option maxRecDepth 100000 in
set_option maxHeartbeats 8000000 in
theorem tChances_any (s : ByteArray) (w : World) (hE : Env w) (hs : s.size≤1000000) :
  Calls Tryz.prog 51 #[.string s] w fun e w'=>∃ A n c,e = .returned (.slice A n c)∧Own w' w.heap.size 63 2 A n c ((lChances gL s).map encC)∧Below w.heap.size w w':=by
 obtain ⟨i0,hi0,hz0,hz1,hz2⟩:=info_parts infoC
 have HC:=Lib.hid (tscan_any s w hE hs)
 obtain ⟨P,HP⟩ : ∃ P,Hid ((runesP s).map (·.2.1) = P):=⟨_,Lib.hid rfl⟩
 obtain ⟨C,HCl⟩ : ∃ C,Hid (lCls gL s = C):=⟨_,Lib.hid rfl⟩
 have HW : Hid (lChances gL s = lPick C 0 P++(if s.size = 0 then [] else [(s.size,true)])):=Lib.hid (by rw [← HP.out,← HCl.out];rfl)
 have hPl : P.length = C.length:=by rw [← HP.out,← HCl.out,List.length_map,lCls_len]
 have hPz : P.length≤s.size:=by rw [← HP.out,List.length_map];exact runesP_len s
 clear hE
 go_enter Tryz.func51,Tryz.ntmps51
 go_wp2_with fail
 refine HC.out.mono ?_
 rintro e w1 ⟨A1,n1,c1,A2,n2,c2,rfl,o1,o2,hb1⟩
 clear HC
 rw [HP.out] at o1
 rw [HCl.out] at o2
 have hn1 : P.length = n1:=by have:=o1.len;simpa using this
 have hn2 : C.length = n2:=by have:=o2.len;simpa using this
 obtain rfl : n2 = n1:=by omega
 have Hn2:=Lib.hid hn2
 have Hn1:=Lib.hid hn1
 have hnz : n2≤s.size:=by omega
 clear hn1 hn2 hPl hPz
 have hK:=Blk.new w1 113 #[.slice A1 n2 c1,.slice A2 n2 c2]
 have hb2 : Below w1.heap.size w1 (w1.alloc (.cells #[.slice A1 n2 c1,.slice A2 n2 c2] 113)):=(Below.refl _ _).alloc (Nat.le_refl _) _
 have o1:=o1.below hb2
 have o2:=o2.below hb2
 have hb3:=below_step hb1 hb2 hb1.size
 have k0:=hK.cell 0
 have k1:=hK.cell 1
 simp only [List.getElem?_toArray,List.getElem?_cons_zero,List.getElem?_cons_succ] at k0 k1
 go_wp2_with fail
 generalize (w1.alloc (.cells #[.slice A1 n2 c1,.slice A2 n2 c2] 113)) = w3 at hK o1 o2 hb3 k0 k1 ⊢
 generalize w1.heap.size = bx at hK k0 k1 ⊢
 have rd1:=o1.rd (by decide)
 have rd2:=o2.rd (by decide)
 have hsz3:=hb3.size
 clear o1 o2 hb1 hb2
 go_loopw [4,5] (fun v u wr=>∃ (i : Nat) (A : Option Addr) (n c : Nat) (O : List (Nat × Bool)),v = .slice A n c∧u = .int .i64 i∧1≤i∧i≤n2+1∧Own wr w3.heap.size 63 2 A n c (O.map encC)∧n≤i∧Hid (O = lPick C 0 (P.take i))∧Below w3.heap.size w3 wr) (fun _ u _=>n2 - (intOf u).toNat)
 case atStart=>exact ⟨1,none,0,0,[],rfl,rfl,by omega,by omega,Own.nil_ _ _ _ _,by omega,Lib.hid (lpick_one C P).symm,Below.refl _ _⟩
 case round =>
  obtain ⟨i,A,n,c,O,rfl,rfl,h1i,hi,ho,hni,HO,hb⟩:=hrel
  have hszr:=hb.size
  by_cases hlt : i < n2
  ·obtain ⟨a,Ha⟩ : ∃ a,Hid (P[i]? = some a):=⟨_,Lib.hid (List.getElem?_eq_getElem (by have:=Hn1.out;omega))⟩
   obtain ⟨p,Hp⟩ : ∃ a,Hid (C[i - 1]? = some a):=⟨_,Lib.hid (List.getElem?_eq_getElem (by have:=Hn2.out;omega))⟩
   obtain ⟨b1,off1,rfl,hc1⟩:=rd1.atP Ha.out
   obtain ⟨b2,off2,rfl,hc2⟩:=rd2.atZ Hp.out
   have j0:=cell_keep k0 hb
   have j1:=cell_keep k1 hb
   have HN:=Lib.hid (lpick_next (c:=C) Ha.out)
   rw [← HO.out,getD_of Hp.out] at HN
   obtain ⟨j,hj⟩ : ∃ j,i - 1 = j:=⟨_,rfl⟩
   have e1 : (i : Int) - 1 = (j : Int):=by omega
   rw [hj] at hc2
   clear hj
   have HCu:=Lib.hid (tcut_any (some ⟨b1,off1,none⟩) (some ⟨b2,off2,none⟩) n2 c1 n2 c2 C i wr (rd2.below hb) Hn2.out (by omega) (by omega) (by omega))
   cases hcu : lCut C i with
   | true =>
    have HN' : Hid (O++[(a,lMust p)] = lPick C 0 (P.take (i+1))):=Lib.hid (by rw [HN.out,if_pos ⟨by omega,hcu⟩])
    obtain ⟨m,Hm⟩ : ∃ m,Hid (lMust p = m):=⟨_,Lib.hid rfl⟩
    rw [Hm.out] at HN'
    rw [hcu] at HCu
    clear hcu HN
    go_upto_region 7 with (go_at_call 114;refine HCu.out.mono ?_;rintro e w5 ⟨rfl,hb5⟩;have hbb:=below_step hb hb5 hb.size;have ho5:=ho.below hb5)
    have hs5:=hbb.size
    have q1 : IntKind.i64.wrap ((i : Int) - 1) = (i : Int) - 1:=IntWalk.i64_in _ (by omega)
    have q2 : IntKind.i64.wrap (j : Int) = (j : Int):=IntWalk.i64_in _ (by omega)
    have q3 : (j : Int) < (n2 : Int):=by omega
    have q4 : (i : Int) < (n2 : Int):=by omega
    have q5 : (0 : Int)≤(j : Int):=by omega
    have q6 : j < n2:=by omega
    have HST:=Lib.hid (fun (V : World) (h : Below w3.heap.size w3 V)=>And.intro (cell_keep k0 h) (And.intro (cell_keep k1 h) (And.intro (cell_keep hc1 h) (And.intro (cell_keep hc2 h) h))))
    clear HCu ho hb hszr j0 j1
    go_wp2_with fail
    go_region_held3 (fun V=>V.cell? ⟨bx,0,none⟩ = some (.slice (some ⟨b1,off1,none⟩) n2 c1)∧V.cell? ⟨bx,1,none⟩ = some (.slice (some ⟨b2,off2,none⟩) n2 c2)∧V.cell? ⟨b1,off1+i,none⟩ = some (.int .i64 (a : Nat))∧V.cell? ⟨b2,off2+j,none⟩ = some (.int .i64 p)∧Below w3.heap.size w3 V)
     (first | exact HST.out _ hb4 | exact HST.out _ (hbz.alloc hbz.size _) | exact HST.out _ hbz | exact HST.out _ hbb | exact HST.out _ (below_drewN hbb 1))
     (first
      | (go_at_call 115;go_split_ands;refine (tmust_any _ _).mono ?_;rw [Hm.out];rintro e wz ⟨rfl,hz⟩;have hbz:=below_step (below_drewN hbb 1) hz hbb.size;have ho6:=Own.below (w:=w5.drew) ho5 hz;have hsz:=hbz.size)
      | (refine step_app rfl (.tmp 18) (.tmp 32) _ rfl w3.heap.size 63 i0 _ 2 16 Tryz.underlying59 hi0 hz0 hz1 hz2 rfl (by omega) A n c (O.map encC) rfl (ho6.alloc _) _ 1 1 [encC (a,m)] rfl rfl (Rd.newAt (by simp) rfl) (encC_ok [(a,m)]) (by unfold maxLen;omega) (by omega) (by simp;omega) ?_;intro A3 c3 w4 ho4 hg4 hA4;have hb4:=below_app (hbz.alloc (by omega) _) hg4 (by simp;omega) (fun a ha=>by have:=(ho6.lt a ha).1;omega)))
    go_wp2
    go_roundw
    case rel=>exact ⟨i+1,A3,n+1,c3,O++[(a,m)],rfl,by go_num,by omega,by omega,by rw [List.map_append];exact ho4,by omega,HN',hb4⟩
    case measure=>simp [intOf];omega
   | false =>
    have HN' : Hid (O = lPick C 0 (P.take (i+1))):=Lib.hid (by rw [HN.out,if_neg (by rw [hcu];simp),List.append_nil])
    rw [hcu] at HCu
    clear hcu HN
    go_wp2_with (go_at_call 114;refine HCu.out.mono ?_;rintro e w5 ⟨rfl,hb5⟩;have hbb:=below_step hb hb5 hb.size;have ho5:=ho.below hb5)
    go_roundw
    case rel=>exact ⟨i+1,A,n,c,O,rfl,by go_num,by omega,by omega,ho5,by omega,HN',hbb⟩
    case measure=>simp [intOf];omega
  ·have hO : Hid (O = lPick C 0 P):=Lib.hid (by rw [HO.out,List.take_of_length_le (by have:=Hn1.out;omega)])
   have j0:=cell_keep k0 hb
   by_cases hz : 0 < s.size
   ·have HV : Hid (O++[(s.size,true)] = lChances gL s):=Lib.hid (by rw [HW.out,hO.out,if_neg (by omega)])
    go_wp2_with (at_builtin;go_must (refine wpList_app rfl (.tmp 37) (.tmp 41) _ rfl w3.heap.size 63 i0 _ 2 16 Tryz.underlying59 hi0 hz0 hz1 hz2 rfl (by omega) A n c (O.map encC) rfl (ho.alloc _) _ 1 1 [encC (s.size,true)] rfl rfl (Rd.newAt (by simp) rfl) (encC_ok [(s.size,true)]) (by unfold maxLen;omega) (by omega) (by simp;omega) ?_);intro A3 c3 w4 ho4 hg4 hA4;have hb4:=below_app (hb.alloc (by omega) _) hg4 (by simp;omega) (fun a ha=>by have:=(ho.lt a ha).1;omega);clear hg4 hA4)
    go_ret
    exact ⟨A3,n+1,c3,rfl,by rw [← HV.out,List.map_append];exact ho4.more hsz3,below_step hb3 hb4 hsz3⟩
   ·have HV : Hid (O = lChances gL s):=Lib.hid (by rw [HW.out,hO.out,if_pos (by omega),List.append_nil])
    go_wp2
    go_ret
    exact ⟨A,n,c,rfl,by rw [← HV.out];exact ho.more hsz3,below_step hb3 hb hsz3⟩
end Go.Proofs.YtdngkienloligaaGreatDoor
/- -/
namespace Go.Proofs.YtdngkienloligaaGreatDoor
open Go.RowKit
def kinP : List (Nat × Bool)→Int→Int
 | [],_=>0
 | x :: r,k=>if ((x.1 : Int) == k) then (if x.2 then 2 else 1) else kinP r k
theorem drop_of {α : Type} {l : List α} {i : Nat} {x : α} (h : l[i]? = some x) : l.drop i = x :: l.drop (i+1):=by
 obtain ⟨h1,h2⟩:=List.getElem?_eq_some_iff.1 h
 rw [List.drop_eq_getElem_cons h1,h2]
theorem Rd.atC {w : World} {A : Option Addr} {l : List (Nat × Bool)} {k : Nat} {x : Nat × Bool} (h : Rd w 2 A (l.map encC)) (hk : l[k]? = some x) :
  ∃ b off,A = some ⟨b,off,none⟩∧w.cell? ⟨b,off+k*2,none⟩ = some (.int .i64 (x.1 : Nat))∧w.cell? ⟨b,off+k*2+1,none⟩ = some (.bool x.2):=by
 obtain ⟨b,off,rfl,hc⟩:=h (by intro e;cases l with | nil=>simp at hk | cons _ _=>simp at e)
 have h0:=hc k 0 (encC x) (.int .i64 (x.1 : Nat)) (by simp [hk]) rfl
 have h1:=hc k 1 (encC x) (.bool x.2) (by simp [hk]) rfl
 exact ⟨b,off,rfl,by simpa using h0,h1⟩
theorem Rd.many (W : World) (t : TypeId) (s : Nat) (cs : List (List Value)) (arr : Array Value) (harr : arr = cs.flatten.toArray) (h : ∀ x ∈ cs,x.length = s) : Rd (W.alloc (.cells arr t)) s (some ⟨W.heap.size,0,none⟩) cs:=fun _ =>
 ⟨W.heap.size,0,rfl,fun k j x u hx hu=>by
  subst harr
  rw [(Blk.new W t cs.flatten.toArray).cell (0+k*s+j),List.getElem?_toArray,Nat.zero_add]
  exact flatten_get h hx hu⟩
set_option maxRecDepth 100000 in
set_option maxHeartbeats 4000000 in
theorem tKind_any (s : ByteArray) (k : Int) (w : World) (hE : Env w) (hs : s.size≤1000000) :
  Calls Tryz.prog 58 #[.string s,.int .i64 k] w fun e w'=>e = .returned (.int .i64 (kinP (lChances gL s) k))∧Below w.heap.size w w':=by
 have HC:=Lib.hid (tChances_any s w hE hs)
 obtain ⟨L,HL⟩ : ∃ L,Hid (lChances gL s = L):=⟨_,Lib.hid rfl⟩
 have HW : Hid (kinP (lChances gL s) k = kinP L k):=Lib.hid (by rw [HL.out])
 clear hE
 go_enter Tryz.func58,Tryz.ntmps58
 go_wp2_with fail
 refine HC.out.mono ?_
 rw [HL.out]
 rintro e w1 ⟨A,n,c,rfl,ho,hb1⟩
 clear HC
 have hn : L.length = n:=by have:=ho.len;simpa using this
 have Hn:=Lib.hid hn
 have hcap:=ho.cap
 unfold maxLen at hcap
 have rd:=ho.rd (by decide)
 have hsz1:=hb1.size
 clear hn
 go_wp2_with fail
 go_loopw [10] (fun v wr=>∃ j : Nat,v = .int .i64 j∧j≤n∧Hid (kinP (L.drop j) k = kinP L k)∧Below w1.heap.size w1 wr) (fun v _=>n - (intOf v).toNat)
 case atStart=>exact ⟨0,rfl,by omega,Lib.hid rfl,Below.refl _ _⟩
 case round =>
  obtain ⟨j,rfl,hj,HK,hb⟩:=hrel
  have hbb:=below_step hb1 hb hsz1
  by_cases hlt : j < n
  ·obtain ⟨⟨a,m⟩,Hx⟩ : ∃ x,Hid (L[j]? = some x):=⟨_,Lib.hid (List.getElem?_eq_getElem (by have:=Hn.out;omega))⟩
   obtain ⟨b,off,rfl,c0,c1⟩:=rd.atC Hx.out
   simp only at c0 c1
   have c0:=cell_keep c0 hb
   have c1:=cell_keep c1 hb
   have HD:=Lib.hid (drop_of Hx.out)
   obtain ⟨q,hq⟩ : ∃ q,((a : Int) == k) = q:=⟨_,rfl⟩
   have HS : Hid (kinP L k = if q then (if m then 2 else 1) else kinP (L.drop (j+1)) k):=Lib.hid (by rw [← HK.out,HD.out,kinP,hq])
   have hb2 : Below w1.heap.size w1 (wr.alloc (.cells #[.int .i64 (a : Nat),.bool m] 63)):=hb.alloc hb.size _
   have hB:=Blk.new wr 63 #[.int .i64 (a : Nat),.bool m]
   have d0:=hB.cell 0
   have d1:=hB.cell 1
   simp only [List.getElem?_toArray,List.getElem?_cons_zero,List.getElem?_cons_succ] at d0 d1
   cases q with
   | true =>
    cases m with
    | true =>
     go_wp2
     go_ret
     exact ⟨by rw [HW.out,HS.out];rfl,below_step hb1 hb2 hsz1⟩
    | false =>
     go_wp2
     go_ret
     exact ⟨by rw [HW.out,HS.out];rfl,below_step hb1 hb2 hsz1⟩
   | false =>
    have HK' : Hid (kinP (L.drop (j+1)) k = kinP L k):=Lib.hid (by rw [HS.out];rfl)
    go_wp2
    go_roundw
    case rel=>exact ⟨j+1,by go_num,by omega,HK',hb2⟩
    case measure=>simp [intOf];omega
  ·have HV : Hid (kinP L k = 0):=Lib.hid (by rw [← HK.out,List.drop_eq_nil_of_le (by have:=Hn.out;omega)];rfl)
   go_wp2
   go_ret
   exact ⟨by rw [HW.out,HV.out];rfl,hbb⟩
def prevGo (k : Int) (l : List (Nat × Bool)) (b : (Nat × Bool) × Bool) : (Nat × Bool) × Bool:=l.foldl (fun b x=>if (x.1 : Int) < k then (x,true) else b) b
theorem res_prev (w : World) (b : Nat) (tmps : Array Value) (ht : tmps.getD 4 undef = .pointer (some ⟨b,0,none⟩)) {a : Int} {m : Bool} {v : Value} (h5 : tmps.getD 5 undef = v) (h : Blk w b 63 #[.int .i64 a,.bool m]) :
  (results Tryz.f56 tmps).run Tryz.prog w = .ok (.tuple #[.agg #[.int .i64 a,.bool m],v]) w:=by
 have ht' : tmps[4]?.getD undef = .pointer (some ⟨b,0,none⟩):=by simpa [Array.getD_eq_getD_getElem?] using ht
 have h5' : tmps[5]?.getD undef = v:=by simpa [Array.getD_eq_getD_getElem?] using h5
 have h0:=h.cell 0
 have h1:=h.cell 1
 simp only [List.getElem?_toArray,List.getElem?_cons_zero,List.getElem?_cons_succ] at h0 h1
 simp [results,Tryz.results56,go_sem,ht',h5',h0,h1]
set_option maxRecDepth 100000 in
set_option maxHeartbeats 4000000 in
theorem tPrev_any (s : ByteArray) (k : Int) (w : World) (hE : Env w) (hs : s.size≤1000000) :
  Calls Tryz.prog 56 #[.string s,.int .i64 k] w fun e w'=>e = .returned (.tuple #[.agg #[.int .i64 (prevGo k (lChances gL s) ((0,false),false)).1.1,.bool (prevGo k (lChances gL s) ((0,false),false)).1.2],.bool (prevGo k (lChances gL s) ((0,false),false)).2])∧Below w.heap.size w w':=by
 have hB0 : Below w.heap.size w (w.alloc (.cells #[.int .i64 0,.bool false] 63)):=(Below.refl _ _).alloc (Nat.le_refl _) _
 have hR0:=Blk.new w 63 #[.int .i64 0,.bool false]
 have HC:=Lib.hid (tChances_any s _ (hE.below hB0) hs)
 obtain ⟨L,HL⟩ : ∃ L,Hid (lChances gL s = L):=⟨_,Lib.hid rfl⟩
 rw [HL.out]
 obtain ⟨R,HR⟩ : ∃ R,Hid (prevGo k L ((0,false),false) = R):=⟨_,Lib.hid rfl⟩
 rw [HR.out]
 clear hE
 go_enter Tryz.func56,Tryz.ntmps56
 go_wp2_with fail
 refine HC.out.mono ?_
 rw [HL.out]
 rintro e w1 ⟨A,n,c,rfl,ho,hb1⟩
 clear HC
 have hn : L.length = n:=by have:=ho.len;simpa using this
 have Hn:=Lib.hid hn
 have hcap:=ho.cap
 unfold maxLen at hcap
 have hR1:=hR0.below hb1
 have hB1:=hB0.trans (hb1.mono hB0.size)
 have ho:=ho.more (b':=w.heap.size+1) (by simp)
 have hsz1:=hB1.size
 clear hn hR0 hB0 hb1
 go_wp2_with fail
 go_loopw [5,11] (fun v u wr=>∃ (j : Nat) (a : Nat) (m b : Bool),v = .bool b∧u = .int .i64 j∧j≤n∧Hid (prevGo k (L.drop j) ((a,m),b) = R)∧Blk wr w.heap.size 63 #[.int .i64 (a : Nat),.bool m]∧Own wr (w.heap.size+1) 63 2 A n c (L.map encC)∧Below w.heap.size w wr) (fun _ u _=>n - (intOf u).toNat)
 case atStart=>exact ⟨0,0,false,false,rfl,rfl,by omega,HR,hR1,ho,hB1⟩
 case round =>
  clear hR1 ho hB1
  obtain ⟨j,a0,m0,b0,rfl,rfl,hj,HK,hR,ho,hb⟩:=hrel
  have hszr:=hb.size
  by_cases hlt : j < n
  ·obtain ⟨⟨a,m⟩,Hx⟩ : ∃ x,Hid (L[j]? = some x):=⟨_,Lib.hid (List.getElem?_eq_getElem (by have:=Hn.out;omega))⟩
   obtain ⟨b,off,rfl,c0,c1⟩:=(ho.rd (by decide)).atC Hx.out
   simp only at c0 c1
   have HD:=Lib.hid (drop_of Hx.out)
   have HS : Hid (prevGo k (L.drop (j+1)) (if (a : Int) < k then ((a,m),true) else ((a0,m0),b0)) = R):=Lib.hid (by rw [← HK.out,HD.out];rfl)
   have hb2 : Below w.heap.size w (wr.alloc (.cells #[.int .i64 (a : Nat),.bool m] 63)):=hb.alloc hb.size _
   have hB:=Blk.new wr 63 #[.int .i64 (a : Nat),.bool m]
   have hR2:=hR.alloc (.cells #[.int .i64 (a : Nat),.bool m] 63)
   have ho2:=ho.alloc (.cells #[.int .i64 (a : Nat),.bool m] 63)
   have d0:=hB.cell 0
   have d1:=hB.cell 1
   have r0:=hR2.cell 0
   have r1:=hR2.cell 1
   have f0:=hR2.frozen 0
   have f1:=hR2.frozen 1
   simp only [List.getElem?_toArray,List.getElem?_cons_zero,List.getElem?_cons_succ] at d0 d1 r0 r1
   by_cases hq : (a : Int) < k
   ·have HK' : Hid (prevGo k (L.drop (j+1)) ((a,m),true) = R):=Lib.hid (by rw [← HS.out,if_pos hq])
    have hl1 : ∀ z,(some ⟨b,off,none⟩ : Option Addr) = some z→z.block ≠ w.heap.size:=fun z hz=>by have:=(ho.lt z hz).1;omega
    have hbf:=(hb2.setCell (p:=⟨w.heap.size,0,none⟩) (Nat.le_refl _) (.int .i64 (a : Nat))).setCell (p:=⟨w.heap.size,1,none⟩) (Nat.le_refl _) (.bool m)
    have hof:=(ho2.setCell (p:=⟨w.heap.size,0,none⟩) hl1 (.int .i64 (a : Nat))).setCell (p:=⟨w.heap.size,1,none⟩) hl1 (.bool m)
    have hRf:=(hR2.set_ 0 (.int .i64 (a : Nat))).set_ 1 (.bool m)
    go_wp2
    go_roundw
    case rel=>exact ⟨j+1,a,m,true,rfl,by go_num,by omega,HK',by simpa using hRf,hof,hbf⟩
    case measure=>simp [intOf];omega
   ·have HK' : Hid (prevGo k (L.drop (j+1)) ((a0,m0),b0) = R):=Lib.hid (by rw [← HS.out,if_neg hq])
    go_wp2
    go_roundw
    case rel=>exact ⟨j+1,a0,m0,b0,rfl,by go_num,by omega,HK',hR2,ho2,hb2⟩
    case measure=>simp [intOf];omega
  ·have HV : Hid (R = ((a0,m0),b0)):=Lib.hid (by rw [← HK.out,List.drop_eq_nil_of_le (by have:=Hn.out;omega)];rfl)
   have r0:=hR.cell 0
   have r1:=hR.cell 1
   have f0:=hR.frozen 0
   have f1:=hR.frozen 1
   simp only [List.getElem?_toArray,List.getElem?_cons_zero,List.getElem?_cons_succ] at r0 r1
   have hRf:=(hR.set_ 0 (.int .i64 (a0 : Nat))).set_ 1 (.bool m0)
   have hbf:=(hb.setCell (p:=⟨w.heap.size,0,none⟩) (Nat.le_refl _) (.int .i64 (a0 : Nat))).setCell (p:=⟨w.heap.size,1,none⟩) (Nat.le_refl _) (.bool m0)
   go_wp2
   refine bodyPost_ret (res_prev _ w.heap.size _ rfl rfl (by simpa using hRf)) rfl ?_
   exact ⟨by rw [HV.out];rfl,hbf⟩
end Go.Proofs.YtdngkienloligaaGreatDoor
/- -/
namespace Go.Proofs.YtdngkienloligaaGreatDoor
open Go.RowKit
theorem guardC (op : BinOp) (x y : Operand) (xs ys : Array Value) (w : World) : (eqGuard op 63 x y (.agg xs) (.agg ys)).run Tryz.prog w = .ok () w :=
 run_eqGuard_agg w op _ x y xs ys (by kernel_rfl)
theorem eqlC (a : Int) (m : Bool) (w : World) : (binOp .eql 63 (.agg #[.int .i64 a,.bool m]) (.agg #[.int .i64 a,.bool m])).run Tryz.prog w = .ok (.bool true) w:=by
 have hS : Tryz.prog.underlying 63 = some (.struct (Tryz.prog.fieldsOf 63)):=by kernel_rfl
 have hp : Tryz.prog.stoodInHeld 63 = false:=by kernel_rfl
 have u3:=Tryz.underlying3
 have a3:=Tryz.isAgg3
 have z3:=Tryz.sizeOf3
 have u4:=Tryz.underlying4
 have a4:=Tryz.isAgg4
 have z4:=Tryz.sizeOf4
 rw [run_eql_struct,show (10000 : Nat) = 9999+1 from rfl,run_equalIn_agg w 9999 _ _ _ hS hp]
 simp only [Program.fieldsOf,Tryz.underlying63]
 go_simp
theorem neqC (a : Int) (m : Bool) (w : World) : (binOp .neq 63 (.agg #[.int .i64 a,.bool m]) (.agg #[.int .i64 a,.bool m])).run Tryz.prog w = .ok (.bool false) w:=by
 have h:=eqlC a m w
 rw [run_eql_struct] at h
 rw [run_neq_struct]
 cases hq : (Op.equalIn 10000 63 (.agg #[.int .i64 a,.bool m]) (.agg #[.int .i64 a,.bool m])).run Tryz.prog w with
 | ok b' w'=>rw [hq] at h;simp at h;simp [h]
 | _=>rw [hq] at h;simp at h
set_option maxRecDepth 100000 in
set_option maxHeartbeats 2000000 in
theorem ychances_any (A B : Option Addr) (n c e : Nat) (l : List (Nat × Bool)) (w : World) (hA : Rd w 2 A (l.map encC)) (hB : Rd w 2 B (l.map encC)) (hl : l.length = n) (hn : n≤4000000) :
  Calls Tryz.prog 53 #[.slice A n c,.slice B n e] w fun e w'=>e = .returned (.bool true)∧Below w.heap.size w w':=by
 have Hl:=Lib.hid hl
 have hg:=guardC
 clear hl
 go_enter Tryz.func53,Tryz.ntmps53
 go_wp2
 go_loopw [5] (fun v wr=>∃ i k : Nat,v = .int .i64 i∧i≤n∧wr = w.drewN k) (fun v _=>n - (intOf v).toNat)
 case atStart=>exact ⟨0,0,rfl,by omega,rfl⟩
 case round =>
  obtain ⟨i,k,rfl,hi,rfl⟩:=hrel
  by_cases hlt : i < n
  ·obtain ⟨⟨a,m⟩,Hx⟩ : ∃ x,Hid (l[i]? = some x):=⟨_,Lib.hid (List.getElem?_eq_getElem (show i < l.length by have:=Hl.out;omega))⟩
   obtain ⟨b,off,rfl,h1,h2⟩:=hA.atC Hx.out
   obtain ⟨b',off',rfl,k1,k2⟩:=hB.atC Hx.out
   simp only at h1 h2 k1 k2
   have hq:=fun W=>neqC (a : Nat) m W
   go_wp2_with fail
   go_quiet (fail)
   go_wp2
   go_roundw
   case rel=>exact ⟨i+1,_,by go_num,by omega,by first | rfl | exact World.drewN_drewN _ _ _⟩
   case measure=>simp [intOf];omega
  ·go_wp2
   go_ret
   exact ⟨rfl,below_refl_drewN w k⟩
theorem live_chances : lChances gL ⟨#[97,32,98,10,99]⟩ = [(2,false),(4,true),(5,true)]:=by kernel_rfl
theorem live_prev : prevGo 3 (lChances gL ⟨#[97,32,98]⟩) ((0,false),false) = ((2,false),true):=by kernel_rfl
theorem live_kind : kinP (lChances gL ⟨#[97,32,98]⟩) 2 = 1:=by kernel_rfl
theorem live_trail : trailP gL ⟨#[97,98,32,10]⟩ = 2:=by kernel_rfl
set_option maxRecDepth 100000 in
set_option maxHeartbeats 4000000 in
theorem ylive_any (w : World) (hE : Env w) : Calls Tryz.prog 50 #[] w fun e w'=>e = .returned (.bool true)∧Below w.heap.size w w':=by
 have H1:=Lib.hid (tChances_any ⟨#[97,32,98,10,99]⟩ w hE (by decide))
 have H2:=Lib.hid (fun W (h : Env W)=>tPrev_any ⟨#[97,32,98]⟩ 3 W h (by decide))
 have H3:=Lib.hid (fun W (h : Env W)=>tKind_any ⟨#[97,32,98]⟩ 2 W h (by decide))
 have H4:=Lib.hid (fun W (h : Env W)=>tTrail_any ⟨#[97,98,32,10]⟩ W h (by decide))
 rw [live_chances] at H1
 simp only [live_prev] at H2
 simp only [live_kind] at H3
 simp only [live_trail] at H4
 go_enter Tryz.func50,Tryz.ntmps50
 go_wp2_with fail
 refine H1.out.mono ?_
 rintro e w1 ⟨A,n,c,rfl,ho,hb1⟩
 obtain rfl : 3 = n:=ho.len
 go_wp2_with fail
 refine (H2.out _ (hE.below hb1)).mono ?_
 rintro e w2 ⟨rfl,hb2⟩
 have hbb:=below_two hb1 hb2
 have ho:=ho.below hb2
 have hB:=Blk.new w2 63 #[.int .i64 2,.bool false]
 have hb3 : Below w.heap.size w (w2.alloc (.cells #[.int .i64 2,.bool false] 63)):=hbb.alloc hbb.size _
 have ho:=ho.alloc (.cells #[.int .i64 2,.bool false] 63)
 have d0:=hB.cell 0
 simp only [List.getElem?_toArray,List.getElem?_cons_zero] at d0
 have hb4 : Below w.heap.size w ((w2.alloc (.cells #[.int .i64 2,.bool false] 63)).alloc (.cells #[.int .i64 2,.bool false,.int .i64 4,.bool true,.int .i64 5,.bool true] 63)):=hb3.alloc hb3.size _
 have ho:=ho.alloc (.cells #[.int .i64 2,.bool false,.int .i64 4,.bool true,.int .i64 5,.bool true] 63)
 have hr:=Rd.many (w2.alloc (.cells #[.int .i64 2,.bool false] 63)) 63 2 ([((2 : Nat),false),(4,true),(5,true)].map encC) #[.int .i64 2,.bool false,.int .i64 4,.bool true,.int .i64 5,.bool true] rfl (by intro x hx;obtain ⟨y,_,rfl⟩:=List.mem_map.1 hx;rfl)
 rw [show (w2.alloc (.cells #[.int .i64 2,.bool false] 63)).heap.size = w2.heap.size+1 by simp] at hr
 have HY:=Lib.hid (ychances_any A (some ⟨w2.heap.size+1,0,none⟩) 3 c 3 [((2 : Nat),false),(4,true),(5,true)] _ (ho.rd (by decide)) hr rfl (by omega))
 have d0:=cell_keep d0 ((Below.refl _ _).alloc (Nat.le_refl _) (.cells #[.int .i64 2,.bool false,.int .i64 4,.bool true,.int .i64 5,.bool true] 63))
 clear H1 H2 hr ho hB hb3 hbb
 go_wp2_with fail
 refine HY.out.mono ?_
 rintro e w3 ⟨rfl,hb5⟩
 have d0:=cell_keep d0 hb5
 have hb6:=below_step hb4 hb5 hb4.size
 go_wp2_with fail
 refine (H3.out _ (hE.below hb6)).mono ?_
 rintro e w4 ⟨rfl,hb7⟩
 have d0:=cell_keep d0 hb7
 have hb8:=below_step hb6 hb7 hb6.size
 go_wp2_with fail
 refine (H4.out _ (hE.below hb8)).mono ?_
 rintro e w5 ⟨rfl,hb9⟩
 have d0:=cell_keep d0 hb9
 have hb10:=below_step hb8 hb9 hb8.size
 go_wp2
 go_ret
 exact ⟨rfl,hb10⟩
end Go.Proofs.YtdngkienloligaaGreatDoor
