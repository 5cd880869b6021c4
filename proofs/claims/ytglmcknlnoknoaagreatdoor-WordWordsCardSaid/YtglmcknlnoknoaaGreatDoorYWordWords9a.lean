/-
 Several texts in one,in their build order: ZeB,ZeC,ZeD,ZfB.
-/
import Derived.Test.YtglmcknlnoknoaaGreatDoorYWordWordsZeA
import Derived.Test.YtglmcknlnoknoaaGreatDoorYWordWords5a
import Derived.Test.YtglmcknlnoknoaaGreatDoorYWordWords8a
import Derived.Test.YtglmcknlnoknoaaGreatDoorYWordWords0b
/- -/
namespace Go.Proofs.YtglmcknlnoknoaaGreatDoor
set_option maxRecDepth 100000
set_option maxHeartbeats 40000000
section
open Go.RowKit Go.Shelf
attribute [local go_sem] Oper.semAt_some
def wdsW (s : ByteArray) : List (Nat × Nat × Int):=(pcsW s).filter fun x=>decide (3≤x.2.2)
theorem pcsW_len (s : ByteArray) : (pcsW s).length≤s.size:=by
 unfold pcsW
 rw [List.length_map,piecesF_len]
 have:=wBounds_len gW s
 omega
theorem Rd.atPc {w : World} {A : Option Addr} {l : List (Nat × Nat × Int)} {k : Nat} {x : Nat × Nat × Int} (h : Rd w 3 A (l.map encPc)) (hk : l[k]? = some x) :
  ∃ b off,A = some ⟨b,off,none⟩∧w.cell? ⟨b,off+k*3,none⟩ = some (.int .i64 (x.1 : Nat))∧w.cell? ⟨b,off+k*3+1,none⟩ = some (.int .i64 (x.2.1 : Nat))∧w.cell? ⟨b,off+k*3+2,none⟩ = some (.int .i64 x.2.2):=by
 obtain ⟨b,off,rfl,hc⟩:=h (by intro e;cases l with | nil=>simp at hk | cons _ _=>simp at e)
 have h0:=hc k 0 (encPc x) (.int .i64 (x.1 : Nat)) (by simp [hk]) rfl
 have h1:=hc k 1 (encPc x) (.int .i64 (x.2.1 : Nat)) (by simp [hk]) rfl
 have h2:=hc k 2 (encPc x) (.int .i64 x.2.2) (by simp [hk]) rfl
 exact ⟨b,off,rfl,by simpa using h0,h1,h2⟩
theorem vWords_any (s : ByteArray) (w : World) (hs : s.size≤90000) :
  Calls Tryz.prog 23 #[.string s] w fun e w'=>∃ (A : Option Addr) (k c : Nat),e = .returned (.slice A k c)∧Own w' w.heap.size 35 3 A k c ((wdsW s).map encPc)∧Below w.heap.size w w':=by
 obtain ⟨i0,hi0,hz0,hz1,hz2⟩:=info_parts infoPc
 have HB:=Lib.hid (vPieces_any s w hs)
 have HV : Hid (wdsW s = (pcsW s).filter fun x=>decide (3≤x.2.2)):=Lib.hid rfl
 have hlz:=pcsW_len s
 generalize pcsW s = L at HB HV hlz
 go_enter Tryz.func23,Tryz.ntmps23
 go_wp2_with fail
 refine HB.out.mono ?_
 rintro e w1 ⟨A,n,c,rfl,ho,hb1⟩
 have hn : L.length = n:=by have:=ho.len;simpa using this
 have Hn:=Lib.hid hn
 have hnz : n≤90000:=by omega
 have rd:=ho.rd (by decide)
 have hsz1:=hb1.size
 clear hn ho HB hlz
 go_wp2_with fail
 go_loopw [3,5] (fun v u wr=>∃ (i k d : Nat) (Q : Option Addr) (O : List (Nat × Nat × Int)),v = .slice Q k d∧u = .int .i64 (i : Int)∧i≤n∧k≤i∧Hid (O = (L.take i).filter fun x=>decide (3≤x.2.2))∧Own wr w1.heap.size 35 3 Q k d (O.map encPc)∧Below w1.heap.size w1 wr) (fun _ u _=>n - (intOf u).toNat)
 case atStart=>exact ⟨0,0,0,none,[],rfl,rfl,by omega,by omega,Lib.hid rfl,Own.nil_ _ _ _ _,Below.refl _ _⟩
 case round =>
  obtain ⟨i,k,d,Q,O,rfl,rfl,hi,hki,HO,ho,hb⟩:=hrel
  have hszr:=hb.size
  by_cases hlt : i < n
  ·obtain ⟨⟨x,y,z⟩,Hx⟩ : ∃ y,Hid (L[i]? = some y):=⟨_,Lib.hid (List.getElem?_eq_getElem (by have:=Hn.out;omega))⟩
   obtain ⟨b,off,rfl,c0,c1,c2⟩:=rd.atPc Hx.out
   simp only at c0 c1 c2
   replace c0:=cell_keep c0 hb
   replace c1:=cell_keep c1 hb
   replace c2:=cell_keep c2 hb
   have HS : Hid ((L.take (i+1)).filter (fun x=>decide (3≤x.2.2)) = O++(if 3≤z then [(x,y,z)] else [])):=Lib.hid (by
    rw [List.take_add_one,Hx.out,Option.toList_some,List.filter_append,← HO.out]
    by_cases h : 3≤z
    ·rw [if_pos h];simp [h]
    ·rw [if_neg h];simp [h])
   by_cases hq : 3≤z
   ·have HO' : Hid (O++[(x,y,z)] = (L.take (i+1)).filter fun x=>decide (3≤x.2.2)):=Lib.hid (by rw [HS.out,if_pos hq])
    have hq2 : (z ≥ 3) = True:=eq_true hq
    clear HS HO
    go_wp2_with (at_builtin;go_must (refine wpList_app rfl (.tmp 20) (.tmp 25) _ rfl w1.heap.size 35 i0 _ 3 24 Tryz.underlying29 hi0 hz0 hz1 hz2 rfl (by omega) Q k d (O.map encPc) rfl (ho.alloc _) _ 1 1 [encPc (x,y,z)] rfl rfl (Rd.newAt (by simp) rfl) (encPc_ok [(x,y,z)]) (by unfold maxLen;omega) (by omega) (by simp;omega) ?_);intro A3 c3 w4 ho4 hg4 hA4;have hb4:=below_app (hb.alloc (by omega) _) hg4 (by simp;omega) (fun a ha=>by have:=(ho.lt a ha).1;omega))
    go_roundw
    case rel=>exact ⟨i+1,k+1,c3,A3,O++[(x,y,z)],rfl,by go_num,by omega,by omega,HO',by rw [List.map_append];exact ho4,hb4⟩
    case measure=>simp [intOf];omega
   ·have HO' : Hid (O = (L.take (i+1)).filter fun x=>decide (3≤x.2.2)):=Lib.hid (by rw [HS.out,if_neg hq,List.append_nil])
    have hq2 : ¬ (z ≥ 3):=hq
    clear HS HO
    go_wp2
    go_roundw
    case rel=>exact ⟨i+1,k,d,Q,O,rfl,by go_num,by omega,by omega,HO',ho,hb⟩
    case measure=>simp [intOf];omega
  ·have hO : Hid (O = wdsW s):=Lib.hid (by rw [HO.out,HV.out,List.take_of_length_le (by have:=Hn.out;omega)])
   go_wp2
   go_ret
   exact ⟨Q,k,d,rfl,by rw [← hO.out];exact ho.more hsz1,below_step hb1 hb hsz1⟩
end
section
open Go.RowKit Go.Shelf
attribute [local go_sem] Oper.semAt_some
theorem kind_word (c : List Int) : (decide (kindC c = 4) || decide (kindC c = 3)) = decide (3≤kindC c):=by
 unfold kindC
 split
 ·rfl
 split
 ·rfl
 split
 ·rfl
 split <;> rfl
theorem words_W (s : ByteArray) : (wdsW s).map (fun x=>(x.1,x.2.1)) = wordsP s:=by
 unfold wdsW pcsW wordsP
 rw [List.filter_map,List.map_map]
 rw [show ((fun x : Nat × Nat × Int=>(x.1,x.2.1)) ∘ fun p : Nat × Nat=>(p.1,p.2,kinW s p)) = id from rfl,List.map_id]
 refine List.filter_congr fun x hx=>?_
 have hc : clP s x = x:=clP_in (piecesF_le (wBounds_rise gW s) (wBounds_le gW s) x hx)
 unfold isWX isWP
 rw [hc]
 exact (kind_word _).symm
def trip (o : Option (Nat × Nat)) : Value:=match o with
 | some p=>.tuple #[.int .i64 (p.1 : Nat),.int .i64 (p.2 : Nat),.bool true]
 | none=>.tuple #[.int .i64 0,.int .i64 0,.bool false]
theorem find_map {α β : Type} (f : α→β) (P : β→Bool) (l : List α) : (l.map f).find? P = (l.find? (P ∘ f)).map f:=by
 induction l with
 | nil=>rfl
 | cons a l ih=>rw [List.map_cons,List.find?_cons,List.find?_cons,ih];simp only [Function.comp];cases P (f a) <;> rfl
def aftQ (x : Int) (y : Nat × Nat × Int) : Bool:=decide (x≤(y.1 : Int))
def befQ (x : Int) (y : Nat × Nat × Int) : Bool:=decide ((y.2.1 : Int)≤x)
def two (y : Nat × Nat × Int) : Nat × Nat:=(y.1,y.2.1)
theorem wdsW_len (s : ByteArray) : (wdsW s).length≤s.size:=Nat.le_trans (List.length_filter_le _ _) (pcsW_len s)
theorem vAfter_any (s : ByteArray) (x : Int) (w : World) (hs : s.size≤90000) :
  Calls Tryz.prog 27 #[.string s,.int .i64 x] w fun e w'=>e = .returned (trip (((wdsW s).find? (aftQ x)).map two))∧Below w.heap.size w w':=by
 have HB:=Lib.hid (vWords_any s w hs)
 have hlz:=wdsW_len s
 generalize wdsW s = L at HB hlz ⊢
 obtain ⟨R,HR⟩ : ∃ R,Hid (L.find? (aftQ x) = R):=⟨_,Lib.hid rfl⟩
 rw [HR.out]
 go_enter Tryz.func27,Tryz.ntmps27
 go_wp2_with fail
 refine HB.out.mono ?_
 rintro e w1 ⟨A,n,c,rfl,ho,hb1⟩
 have hn : L.length = n:=by have:=ho.len;simpa using this
 have Hn:=Lib.hid hn
 have hnz : n≤90000:=by omega
 have rd:=ho.rd (by decide)
 clear hn ho HB hlz
 go_wp2_with fail
 go_loopw [8] (fun u wr=>∃ i : Nat,u = .int .i64 (i : Int)∧i≤n∧Hid ((L.drop i).find? (aftQ x) = R)∧wr = w1) (fun u _=>n - (intOf u).toNat)
 case atStart=>exact ⟨0,rfl,by omega,HR,rfl⟩
 case round =>
  obtain ⟨i,rfl,hi,HK,rfl⟩:=hrel
  by_cases hlt : i < n
  ·obtain ⟨⟨a,b,z⟩,Hx⟩ : ∃ y,Hid (L[i]? = some y):=⟨_,Lib.hid (List.getElem?_eq_getElem (by have:=Hn.out;omega))⟩
   obtain ⟨bk,off,rfl,c0,c1,c2⟩:=rd.atPc Hx.out
   simp only at c0 c1
   clear c2
   have HS : Hid ((if aftQ x (a,b,z) then some (a,b,z) else (L.drop (i+1)).find? (aftQ x)) = R):=Lib.hid (by
    rw [← HK.out,List.drop_eq_getElem_cons (i:=i) (l:=L) (by have:=Hn.out;omega),(List.getElem?_eq_some_iff.1 Hx.out).2,List.find?_cons]
    cases aftQ x (a,b,z) <;> rfl)
   by_cases hq : x≤(a : Int)
   ·have HV : Hid (R = some (a,b,z)):=Lib.hid (by rw [← HS.out,if_pos (show aftQ x (a,b,z) = true from decide_eq_true hq)])
    have hq2 : ((a : Int) ≥ x) = True:=eq_true hq
    go_wp2_with fail
    go_region
    go_wp2
    go_ret3
    exact ⟨by rw [HV.out];rfl,hb1.drew⟩
   ·have HK' : Hid ((L.drop (i+1)).find? (aftQ x) = R):=Lib.hid (by rw [← HS.out,if_neg (by unfold aftQ;simpa using hq)])
    have hq2 : ¬ ((a : Int) ≥ x):=hq
    go_wp2
    go_roundw
    case rel=>exact ⟨i+1,by go_num,by omega,HK',by first | rfl | trivial⟩
    case measure=>simp [intOf];omega
  ·have HV : Hid (R = none):=Lib.hid (by rw [← HK.out,List.drop_eq_nil_of_le (by have:=Hn.out;omega)];rfl)
   go_wp2
   go_ret3
   exact ⟨by rw [HV.out];rfl,hb1⟩
theorem vBefore_any (s : ByteArray) (x : Int) (w : World) (hs : s.size≤90000) :
  Calls Tryz.prog 29 #[.string s,.int .i64 x] w fun e w'=>e = .returned (trip (((wdsW s).reverse.find? (befQ x)).map two))∧Below w.heap.size w w':=by
 have HB:=Lib.hid (vWords_any s w hs)
 have hlz:=wdsW_len s
 generalize wdsW s = L at HB hlz ⊢
 obtain ⟨R,HR⟩ : ∃ R,Hid (L.reverse.find? (befQ x) = R):=⟨_,Lib.hid rfl⟩
 rw [HR.out]
 go_enter Tryz.func29,Tryz.ntmps29
 go_wp2_with fail
 refine HB.out.mono ?_
 rintro e w1 ⟨A,n,c,rfl,ho,hb1⟩
 have hn : L.length = n:=by have:=ho.len;simpa using this
 have Hn:=Lib.hid hn
 have hnz : n≤90000:=by omega
 have rd:=ho.rd (by decide)
 clear hn ho HB hlz
 go_wp2_with fail
 go_loopw [8] (fun u wr=>∃ (j : Nat) (i : Int),u = .int .i64 i∧i = (j : Int) - 1∧j≤n∧Hid ((L.take j).reverse.find? (befQ x) = R)∧wr = w1) (fun u _=>(intOf u+1).toNat)
 case atStart=>exact ⟨n,_,rfl,by go_num,by omega,Lib.hid (by rw [List.take_of_length_le (by have:=Hn.out;omega),HR.out]),rfl⟩
 case round =>
  obtain ⟨j,i,rfl,hi,hj,HK,rfl⟩:=hrel
  cases j with
  | zero =>
   have hx1 : i < 0:=by omega
   have hx0 : ¬ 0≤i:=by omega
   have HV : Hid (R = none):=Lib.hid (by rw [← HK.out];rfl)
   clear hi
   go_wp2
   go_ret3
   exact ⟨by rw [HV.out];rfl,hb1⟩
  | succ j =>
   obtain rfl : i = (j : Int):=by omega
   clear hi
   obtain ⟨⟨a,b,z⟩,Hx⟩ : ∃ y,Hid (L[j]? = some y):=⟨_,Lib.hid (List.getElem?_eq_getElem (by have:=Hn.out;omega))⟩
   obtain ⟨bk,off,rfl,c0,c1,c2⟩:=rd.atPc Hx.out
   simp only at c0 c1
   clear c2
   have HS : Hid ((if befQ x (a,b,z) then some (a,b,z) else (L.take j).reverse.find? (befQ x)) = R):=Lib.hid (by
    rw [← HK.out,List.take_add_one,Hx.out,Option.toList_some,List.reverse_append,List.reverse_singleton,List.singleton_append,List.find?_cons]
    cases befQ x (a,b,z) <;> rfl)
   have hj1 : (j : Int) < (n : Int):=by omega
   by_cases hq : (b : Int)≤x
   ·have HV : Hid (R = some (a,b,z)):=Lib.hid (by rw [← HS.out,if_pos (show befQ x (a,b,z) = true from decide_eq_true hq)])
    go_wp2_with fail
    go_region
    go_wp2
    go_ret3
    exact ⟨by rw [HV.out];rfl,hb1.drew⟩
   ·have HK' : Hid ((L.take j).reverse.find? (befQ x) = R):=Lib.hid (by rw [← HS.out,if_neg (by unfold befQ;simpa using hq)])
    go_wp2
    go_roundw
    case rel=>exact ⟨j,_,by first | rfl | trivial,by omega,by omega,HK',by first | rfl | trivial⟩
    case measure=>simp [intOf]
end
section
open Go.RowKit Go.Shelf
attribute [local go_sem] Oper.semAt_some
def befP (x : Int) (p : Nat × Nat) : Bool:=decide ((p.2 : Int)≤x)
def curB (s : ByteArray) (x : Int) (pre : List (Nat × Nat)) : Option (Nat × Nat):=(pre.map (clP s)).reverse.find? (befP x)
theorem curB_snoc (s : ByteArray) (x : Int) (pre : List (Nat × Nat)) (y : Nat × Nat) : curB s x (pre++[y]) = if befP x (clP s y) then some (clP s y) else curB s x pre:=by
 unfold curB
 rw [List.map_append,List.map_singleton,List.reverse_append,List.reverse_singleton,List.singleton_append,List.find?_cons]
 cases befP x (clP s y) <;> rfl
def b1 (o : Option (Nat × Nat)) : Nat:=(o.getD (0,0)).1
def b2 (o : Option (Nat × Nat)) : Nat:=(o.getD (0,0)).2
theorem trip_eq (o : Option (Nat × Nat)) : trip o = .tuple #[.int .i64 (b1 o : Nat),.int .i64 (b2 o : Nat),.bool o.isSome]:=by cases o <;> rfl
theorem res_before (w : World) (b4 b5 b6 : Nat) (tmps : Array Value) (h4 : tmps.getD 4 undef = .pointer (some ⟨b4,0,none⟩)) (h5 : tmps.getD 5 undef = .pointer (some ⟨b5,0,none⟩)) (h6 : tmps.getD 6 undef = .pointer (some ⟨b6,0,none⟩)) {x y : Int} {v : Bool}
  (c4 : w.cell? ⟨b4,0,none⟩ = some (.int .i64 x)) (c5 : w.cell? ⟨b5,0,none⟩ = some (.int .i64 y)) (c6 : w.cell? ⟨b6,0,none⟩ = some (.bool v)) : (results Tryz.f28 tmps).run Tryz.prog w = .ok (.tuple #[.int .i64 x,.int .i64 y,.bool v]) w:=by
 have h4' : tmps[4]?.getD undef = .pointer (some ⟨b4,0,none⟩):=by simpa [Array.getD_eq_getD_getElem?] using h4
 have h5' : tmps[5]?.getD undef = .pointer (some ⟨b5,0,none⟩):=by simpa [Array.getD_eq_getD_getElem?] using h5
 have h6' : tmps[6]?.getD undef = .pointer (some ⟨b6,0,none⟩):=by simpa [Array.getD_eq_getD_getElem?] using h6
 simp [results,Tryz.results28,go_sem,h4',h5',h6',c4,c5,c6]
theorem kBefore_any (s : ByteArray) (x : Int) (w : World) (hE : Env w) (hs : s.size≤1000000) : Calls Tryz.prog 28 #[.string s,.int .i64 x] w fun e w'=>e = .returned (trip (((wordsP s).reverse.find? (befP x))))∧Below w.heap.size w w':=by
 have hA1 : Below w.heap.size w (w.alloc (.cells #[.int .i64 x] 3)):=(Below.refl _ _).alloc (Nat.le_refl _) _
 have hA2:=hA1.alloc hA1.size (.cells #[.int .i64 0] 3)
 have hA3:=hA2.alloc hA2.size (.cells #[.int .i64 0] 3)
 have hA4:=hA3.alloc hA3.size (.cells #[.bool false] 4)
 have B3 : Blk ((((w.alloc (.cells #[.int .i64 x] 3)).alloc (.cells #[.int .i64 0] 3)).alloc (.cells #[.int .i64 0] 3)).alloc (.cells #[.bool false] 4)) w.heap.size 3 #[.int .i64 x]:=((((Blk.new w 3 #[.int .i64 x]).alloc _).alloc _).alloc _)
 have B4 : Blk ((((w.alloc (.cells #[.int .i64 x] 3)).alloc (.cells #[.int .i64 0] 3)).alloc (.cells #[.int .i64 0] 3)).alloc (.cells #[.bool false] 4)) (w.heap.size+1) 3 #[.int .i64 0]:=by
  have:=((Blk.new (w.alloc (.cells #[.int .i64 x] 3)) 3 #[.int .i64 0]).alloc (.cells #[.int .i64 0] 3)).alloc (.cells #[.bool false] 4)
  rw [World.size_alloc] at this
  exact this
 have B5 : Blk ((((w.alloc (.cells #[.int .i64 x] 3)).alloc (.cells #[.int .i64 0] 3)).alloc (.cells #[.int .i64 0] 3)).alloc (.cells #[.bool false] 4)) (w.heap.size+1+1) 3 #[.int .i64 0]:=by
  have:=(Blk.new ((w.alloc (.cells #[.int .i64 x] 3)).alloc (.cells #[.int .i64 0] 3)) 3 #[.int .i64 0]).alloc (.cells #[.bool false] 4)
  rw [World.size_alloc,World.size_alloc] at this
  exact this
 have B6 : Blk ((((w.alloc (.cells #[.int .i64 x] 3)).alloc (.cells #[.int .i64 0] 3)).alloc (.cells #[.int .i64 0] 3)).alloc (.cells #[.bool false] 4)) (w.heap.size+1+1+1) 4 #[.bool false]:=by
  have:=Blk.new (((w.alloc (.cells #[.int .i64 x] 3)).alloc (.cells #[.int .i64 0] 3)).alloc (.cells #[.int .i64 0] 3)) 4 #[.bool false]
  rw [World.size_alloc,World.size_alloc,World.size_alloc] at this
  exact this
 clear hA1 hA2 hA3
 refine (callsIn_wide (n:=8)).1 ?_
 refine callsIn_of_wp_marks Tryz.func28 rfl trivial ?_ rfl
 simp only [Tryz.ntmps28,List.size_toArray,List.length_cons,List.length_nil,Nat.reduceAdd,Nat.reduceSub,Array.replicate_succ,Array.replicate_zero,List.push_toArray,List.append_toArray,List.nil_append,List.cons_append]
 refine wpIn_wide.2 ?_
 go_wp2_with fail
 generalize ((((w.alloc (.cells #[.int .i64 x] 3)).alloc (.cells #[.int .i64 0] 3)).alloc (.cells #[.int .i64 0] 3)).alloc (.cells #[.bool false] 4)) = w0 at hA4 B3 B4 B5 B6 ⊢
 refine (kWords_any s w0).mono ?_
 rintro e w1 ⟨rfl,hS,hb⟩
 have hW1:=below_two hA4 hb
 have C3:=B3.below hb
 have C4:=B4.below hb
 have C5:=B5.below hb
 have C6:=B6.below hb
 have hz6:=C6.lt
 have hz2:=hS.lt
 have hE1:=hE.below hW1
 have hz0:=B6.lt
 clear hA4 hb B3 B4 B5 B6
 go_wp2_with fail
 refine (wpIn_wide (n:=8)).1 ?_
 refine rngC rfl (by decide) (gf:=89) (lb:=#[.pointer (some ⟨w0.heap.size,0,none⟩)]) rfl trivial (enters_of Tryz.func89 (by kernel_rfl) rfl)
  (kWords_seq 7 (by decide) w w1 s w0.heap.size (fun b=>w.heap.size+1≤b∧b≤w.heap.size+1+1+1) hW1 (by rintro b ⟨h1,h2⟩;exact ⟨by omega,by omega⟩) (by omega) hE hs hS) (fun h k=>h.trans k) (KpB.put (by omega)) (Below.refl _ _) (fun _=>rfl)
  (fun (pre : List (Nat × Nat)) W=>(Blk W w.heap.size 3 #[.int .i64 x]∧Blk W (w.heap.size+1) 3 #[.int .i64 ((b1 (curB s x pre)) : Nat)]∧Blk W (w.heap.size+1+1) 3 #[.int .i64 ((b2 (curB s x pre)) : Nat)])∧Blk W (w.heap.size+1+1+1) 4 #[.bool (curB s x pre).isSome]∧Below w.heap.size w W)
  (fun _ _ _=>False)
  (OwnFrom.and (OwnFrom.and (Go.Own.from (fun s A B row hs hg hr=>hs.kept hg hr) _) (OwnFrom.and (Go.Own.from (fun s A B row hs hg hr=>hs.kept hg hr) _) (Go.Own.from (fun s A B row hs hg hr=>hs.kept hg hr) _))) (OwnFrom.and (Go.Own.from (fun s A B row hs hg hr=>hs.kept hg hr) _) (ownFrom_below (Nat.le_refl _) (by omega))))
  (fun _ _ _ _ _ hs _ _=>hs) ⟨⟨C3,C4,C5⟩,C6,hW1⟩
  (fun T (x : Nat × Nat)=>(((T.setIfInBounds 11 (.int .i64 ((clP s x).1 : Nat))).setIfInBounds 12 (.string (s.extract (clP s x).1 (clP s x).2))).setIfInBounds 7 (.int .i64 ((clP s x).1 : Nat))).setIfInBounds 8 (.string (s.extract (clP s x).1 (clP s x).2))) ?assign ?body ?done ?stop
 case assign =>
  intro l2 x V K hK
  simp only [zD,zF,zE] at hK
  simp only [encWd]
  gi_wp2
  exact hK
 case stop =>
  rintro D cc pre W _ hp h _
  exact absurd h id
 case body =>
  rintro l2 pre y W hl2 _ ⟨⟨D3,D4,D5⟩,D6,hbW⟩ hlen
  simp only [zD,zF,zE]
  have hcx:=clP_le s y
  have HS:=Lib.hid (curB_snoc s x pre y)
  obtain ⟨⟨a,b⟩,hab⟩ : ∃ z,clP s y = z:=⟨_,rfl⟩
  rw [hab] at HS
  have hes : (s.extract a b).size = b - a:=by rw [hab] at hcx;rw [ByteArray.size_extract];omega
  rw [hab] at hcx ⊢
  simp only at hcx ⊢
  have c3:=D3.cell 0
  have c4:=D4.cell 0
  have c5:=D5.cell 0
  have c6:=D6.cell 0
  have f4:=D4.frozen 0
  have f5:=D5.frozen 0
  have f6:=D6.frozen 0
  simp only [zG,zH] at c3 c4 c5 c6
  have g1 : (a : Int)+((b - a : Nat) : Int) = (b : Int):=by omega
  by_cases hge : (b : Int)≤x
  ·have HV : Hid (curB s x (pre++[y]) = some (a,b)):=Lib.hid (by rw [HS.out,if_pos (show befP x (a,b) = true from decide_eq_true hge)])
   clear hab HS
   gi_wp2
   have E3:=blk_far (p:=⟨w.heap.size+1,0,none⟩) (u:=.int .i64 (a : Nat)) D3 (by simp)
   have E4:=D4.set_ 0 (.int .i64 (a : Nat))
   have E5:=(blk_far (p:=⟨w.heap.size+1,0,none⟩) (u:=.int .i64 (a : Nat)) D5 (by simp)).set_ 0 (.int .i64 (b : Nat))
   have E6:=(blk_far (p:=⟨w.heap.size+1+1,0,none⟩) (u:=.int .i64 (b : Nat)) (blk_far (p:=⟨w.heap.size+1,0,none⟩) (u:=.int .i64 (a : Nat)) D6 (by simp <;> omega)) (by simp)).set_ 0 (.bool true)
   refine ⟨((KeepsOthers.setCell _ _ _).trans ((KeepsOthers.setCell _ _ _).trans (KeepsOthers.setCell _ _ _))).from _,⟨(((Below.refl _ _).setCell (p:=⟨w.heap.size+1,0,none⟩) (by simp only;omega) _).setCell (p:=⟨w.heap.size+1+1,0,none⟩) (by simp only;omega) _).setCell (p:=⟨w.heap.size+1+1+1,0,none⟩) (by simp only;omega) _,kcQ_setCell (kcQ_setCell (kcQ_setCell (KC.refl _ _ _) (p:=⟨w.heap.size+1,0,none⟩) (.inr ⟨by simp only;omega,by simp only;omega⟩) _) (p:=⟨w.heap.size+1+1,0,none⟩) (.inr ⟨by simp only;omega,by simp only;omega⟩) _) (p:=⟨w.heap.size+1+1+1,0,none⟩) (.inr ⟨by simp only;omega,by simp only;omega⟩) _⟩,⟨?_,?_,?_⟩,?_,?_⟩
   ·exact blk_far (blk_far E3 (by simp <;> omega)) (by simp <;> omega)
   ·rw [HV.out];exact blk_far (blk_far E4 (by simp)) (by simp <;> omega)
   ·rw [HV.out];exact blk_far E5 (by simp)
   ·rw [HV.out];exact E6
   ·exact ((hbW.setCell (p:=⟨w.heap.size+1,0,none⟩) (by simp only;omega) _).setCell (p:=⟨w.heap.size+1+1,0,none⟩) (by simp only;omega) _).setCell (p:=⟨w.heap.size+1+1+1,0,none⟩) (by simp only;omega) _
  ·have HV : Hid (curB s x (pre++[y]) = curB s x pre):=Lib.hid (by rw [HS.out,if_neg (by unfold befP;simpa using hge)])
   clear hab HS
   gi_wp2
   exact ⟨KeepsFrom.refl _ _,KpB.refl _ _ _,⟨D3,by rw [HV.out];exact D4,by rw [HV.out];exact D5⟩,by rw [HV.out];exact D6,hbW⟩
 case done =>
  rintro D ys V hD hys ⟨⟨D3,D4,D5⟩,D6,hbV⟩ hK
  subst hys
  have HV : Hid ((wordsP s).reverse.find? (befP x) = curB s x (wordsP s)):=Lib.hid (by
   unfold curB
   rw [show (wordsP s).map (clP s) = wordsP s from by
    conv=>rhs;rw [← List.map_id (wordsP s)]
    exact List.map_congr_left fun p hp=>words_cl hp])
  obtain ⟨R,HR⟩ : ∃ R,curB s x (wordsP s) = R:=⟨_,rfl⟩
  have HV2 : Hid (trip ((wordsP s).reverse.find? (befP x)) = .tuple #[.int .i64 (b1 R : Nat),.int .i64 (b2 R : Nat),.bool R.isSome]):=Lib.hid (by rw [HV.out,HR,trip_eq])
  rw [HR] at D4 D5 D6
  have c4:=D4.cell 0
  have c5:=D5.cell 0
  have c6:=D6.cell 0
  have f4:=D4.frozen 0
  have f5:=D5.frozen 0
  have f6:=D6.frozen 0
  simp only [zG,zH] at c4 c5 c6
  clear HV HR
  go_wp2_with fail
  go_region
  go_wp2
  have hz4 : w.heap.size+1+1+1 < w1.heap.size:=hz6
  have E4:=D4.set_ 0 (.int .i64 (b1 R : Nat))
  have E5:=(blk_far (p:=⟨w.heap.size+1,0,none⟩) (u:=.int .i64 (b1 R : Nat)) D5 (by simp)).set_ 0 (.int .i64 (b2 R : Nat))
  have E6:=(blk_far (p:=⟨w.heap.size+1+1,0,none⟩) (u:=.int .i64 (b2 R : Nat)) (blk_far (p:=⟨w.heap.size+1,0,none⟩) (u:=.int .i64 (b1 R : Nat)) D6 (by simp <;> omega)) (by simp)).set_ 0 (.bool R.isSome)
  have hK3:=((Below.heap_setCell _ ⟨w.heap.size+1+1+1,0,none⟩ (.bool R.isSome) D (by simp only;omega)).trans ((Below.heap_setCell _ ⟨w.heap.size+1+1,0,none⟩ (.int .i64 (b2 R : Nat)) D (by simp only;omega)).trans ((Below.heap_setCell V ⟨w.heap.size+1,0,none⟩ (.int .i64 (b1 R : Nat)) D (by simp only;omega)).trans hK)))
  have hK4 : (((V.setCell ⟨w.heap.size+1,0,none⟩ (.int .i64 (b1 R : Nat))).setCell ⟨w.heap.size+1+1,0,none⟩ (.int .i64 (b2 R : Nat))).setCell ⟨w.heap.size+1+1+1,0,none⟩ (.bool R.isSome)).drew.heap[D]? = _:=hK3
  refine ⟨by simp,.inl ⟨_,_,rfl,run_takeDeferred hK4,?_⟩⟩
  have F4:=blk_put (D:=D) (o:=.deferred none) (V:=(((V.setCell ⟨w.heap.size+1,0,none⟩ (.int .i64 (b1 R : Nat))).setCell ⟨w.heap.size+1+1,0,none⟩ (.int .i64 (b2 R : Nat))).setCell ⟨w.heap.size+1+1+1,0,none⟩ (.bool R.isSome)).drew) (blk_far (p:=⟨w.heap.size+1+1+1,0,none⟩) (u:=.bool R.isSome) (blk_far (p:=⟨w.heap.size+1+1,0,none⟩) (u:=.int .i64 (b2 R : Nat)) E4 (by simp)) (by simp <;> omega)) (by omega)
  have F5:=blk_put (D:=D) (o:=.deferred none) (V:=(((V.setCell ⟨w.heap.size+1,0,none⟩ (.int .i64 (b1 R : Nat))).setCell ⟨w.heap.size+1+1,0,none⟩ (.int .i64 (b2 R : Nat))).setCell ⟨w.heap.size+1+1+1,0,none⟩ (.bool R.isSome)).drew) (blk_far (p:=⟨w.heap.size+1+1+1,0,none⟩) (u:=.bool R.isSome) E5 (by simp)) (by omega)
  have F6:=blk_put (D:=D) (o:=.deferred none) (V:=(((V.setCell ⟨w.heap.size+1,0,none⟩ (.int .i64 (b1 R : Nat))).setCell ⟨w.heap.size+1+1,0,none⟩ (.int .i64 (b2 R : Nat))).setCell ⟨w.heap.size+1+1+1,0,none⟩ (.bool R.isSome)).drew) E6 (by omega)
  refine ⟨_,res_before _ _ _ _ _ rfl rfl rfl (F4.cell 0) (F5.cell 0) (F6.cell 0),by rw [HV2.out],?_⟩
  exact (((hbV.setCell (p:=⟨w.heap.size+1,0,none⟩) (by simp only;omega) _).setCell (p:=⟨w.heap.size+1+1,0,none⟩) (by simp only;omega) _).setCell (p:=⟨w.heap.size+1+1+1,0,none⟩) (by simp only;omega) _).drew.trans (belowK_b (w:=w) (Nat.le_refl _) _ D _ _ (by omega) hK4 rfl rfl)
end
section
open Go.RowKit Go.Shelf
attribute [local go_sem] Oper.semAt_some
theorem res_wordWords (w : World) (b : Nat) (tmps : Array Value) (ht : tmps.getD 6 undef = .pointer (some ⟨b,0,none⟩)) {v : Bool} (hc : w.cell? ⟨b,0,none⟩ = some (.bool v)) : (results Tryz.f4 tmps).run Tryz.prog w = .ok (.bool v) w:=by
 have ht' : tmps[6]?.getD undef = .pointer (some ⟨b,0,none⟩):=by simpa [Array.getD_eq_getD_getElem?] using ht
 simp [results,Tryz.results4,go_sem,ht',hc]
theorem after_trip (s : ByteArray) (x : Int) : afterV s x = trip (((wdsW s).find? (aftQ x)).map two):=by
 unfold afterV afterP
 rw [← words_W,find_map]
 rw [show ((fun p : Nat × Nat=>decide (x≤(p.1 : Int))) ∘ fun y : Nat × Nat × Int=>(y.1,y.2.1)) = aftQ x from rfl]
 cases (wdsW s).find? (aftQ x) <;> rfl
theorem before_trip (s : ByteArray) (x : Int) : (wordsP s).reverse.find? (befP x) = ((wdsW s).reverse.find? (befQ x)).map two:=by
 rw [← words_W,← List.map_reverse,find_map]
 rfl
structure PcX (w : World) (s : ByteArray) (stop : Int) (A : Option Addr) (n c : Nat) (g7 g8 bs : Nat) (fa : Value) (V : World) : Prop where
 b3 : Blk V w.heap.size 9 #[.string s]
 b5 : Blk V (w.heap.size+1) 3 #[.int .i64 stop]
 b6 : Blk V (w.heap.size+1+1) 4 #[.bool false]
 b7 : Blk V g7 29 #[.slice A n c]
 b8 : Blk V g8 32 #[fa]
 rd : Rd V 3 A ((wdsW s).map encPc)
 cs : Blk V bs 9 #[.string s]
 hb : Below w.heap.size w V
theorem PcX.below {w V V' : World} {s : ByteArray} {stop : Int} {A : Option Addr} {n c : Nat} {g7 g8 bs : Nat} {fa : Value} (h : PcX w s stop A n c g7 g8 bs fa V) (hb : Below V.heap.size V V') : PcX w s stop A n c g7 g8 bs fa V' :=
 ⟨h.b3.below hb,h.b5.below hb,h.b6.below hb,h.b7.below hb,h.b8.below hb,h.rd.below hb,h.cs.below hb,below_two h.hb hb⟩
theorem seqS_nil (fn : Fn) (first captured : Array Value) (W : World) : (binOp .eql 32 (.func fn first captured) .nilFunc).run Tryz.prog W = .ok (.bool false) W:=by kernel_rfl
theorem wds_words (s : ByteArray) : (wdsW s).length = (wordsP s).length:=by rw [← words_W,List.length_map]
theorem words_le {s : ByteArray} {x : Nat × Nat} (h : x ∈ wordsP s) : x.1≤x.2∧x.2≤s.size:=piecesF_le (wBounds_rise gW s) (wBounds_le gW s) x (by unfold wordsP at h;exact (List.mem_filter.1 h).1)
theorem words_in {s : ByteArray} {x : Nat × Nat} (h : x ∈ wordsP s) : clP s x = x:=clP_in (piecesF_le (wBounds_rise gW s) (wBounds_le gW s) x (by unfold wordsP at h;exact (List.mem_filter.1 h).1))
theorem pWordWords_any (s : ByteArray) (x stop : Int) (w : World) (hE : Env w) (hs : s.size≤140737488355328) :
  Calls Tryz.prog 4 #[.string s,.int .i64 x,.int .i64 stop] w fun e w'=>e = .returned (.bool true)∧Below w.heap.size w w':=by
 have HB : Below w.heap.size w (((w.alloc (.cells #[.string s] 9)).alloc (.cells #[.int .i64 stop] 3)).alloc (.cells #[.bool false] 4)):=(((Below.refl _ _).alloc (Nat.le_refl _) _).alloc (by simp) _).alloc (by simp <;> omega) _
 have B3 : Blk (((w.alloc (.cells #[.string s] 9)).alloc (.cells #[.int .i64 stop] 3)).alloc (.cells #[.bool false] 4)) w.heap.size 9 #[.string s]:=((Blk.new w 9 #[.string s]).alloc _).alloc _
 have B5 : Blk (((w.alloc (.cells #[.string s] 9)).alloc (.cells #[.int .i64 stop] 3)).alloc (.cells #[.bool false] 4)) (w.heap.size+1) 3 #[.int .i64 stop]:=by
  have:=(Blk.new (w.alloc (.cells #[.string s] 9)) 3 #[.int .i64 stop]).alloc (.cells #[.bool false] 4)
  rw [World.size_alloc] at this
  exact this
 have B6 : Blk (((w.alloc (.cells #[.string s] 9)).alloc (.cells #[.int .i64 stop] 3)).alloc (.cells #[.bool false] 4)) (w.heap.size+1+1) 4 #[.bool false]:=by
  have:=Blk.new ((w.alloc (.cells #[.string s] 9)).alloc (.cells #[.int .i64 stop] 3)) 4 #[.bool false]
  rw [World.size_alloc,World.size_alloc] at this
  exact this
 have HLv:=Lib.hid (fun W (h : Env W)=>klive_any W h)
 have c30:=B3.cell 0
 simp only [zG,zH] at c30
 refine (callsIn_wide (n:=8)).1 ?_
 refine callsIn_of_wp_marks Tryz.func4 rfl trivial ?_ rfl
 simp only [Tryz.ntmps4,List.size_toArray,List.length_cons,List.length_nil,Nat.reduceAdd,Nat.reduceSub,Array.replicate_succ,Array.replicate_zero,List.push_toArray,List.append_toArray,List.nil_append,List.cons_append]
 refine wpIn_wide.2 ?_
 by_cases h1 : 70 < s.size
 ·have g1 : (70 : Int) < (s.size : Int):=by omega
  clear hs B3 B5
  go_wp2_with fail
  generalize (((w.alloc (.cells #[.string s] 9)).alloc (.cells #[.int .i64 stop] 3)).alloc (.cells #[.bool false] 4)) = w0 at HB B6 c30 ⊢
  refine (HLv.out _ (hE.below HB)).mono ?_
  rintro e wz ⟨rfl,hb⟩
  replace B6:=B6.below hb
  replace HB:=below_two HB hb
  have c4:=B6.cell 0
  have f4:=B6.frozen 0
  simp only [zG,zH] at c4
  clear c30
  go_wp2_with fail
  have c7:=(B6.set_ 0 (.bool true)).cell 0
  simp only [zG,zH,zD,zE] at c7
  exact ⟨_,res_wordWords _ (w.heap.size+1+1) _ rfl c7,rfl,HB.setCell (p:=⟨w.heap.size+1+1,0,none⟩) (by simp only;omega) _⟩
 have g1 : ¬ (70 : Int) < (s.size : Int):=by omega
 have hsz : s.size≤70:=by omega
 have HWd:=Lib.hid (fun W=>vWords_any s W (by omega))
 have HKw:=Lib.hid (fun W=>kWords_any s W)
 have HCn:=Lib.hid (fun W (h : Env W)=>kCount_any s W h (by omega))
 have HLw:=Lib.hid (wds_words s)
 have hlz:=wdsW_len s
 clear h1 hs c30
 go_wp2_with fail
 generalize (((w.alloc (.cells #[.string s] 9)).alloc (.cells #[.int .i64 stop] 3)).alloc (.cells #[.bool false] 4)) = w0 at HB B3 B5 B6 ⊢
 refine (HWd.out w0).mono ?_
 rintro e w1 ⟨A,n,c,rfl,ho,hb1⟩
 have hn : (wdsW s).length = n:=by have:=ho.len;simpa using this
 have Hn:=Lib.hid hn
 have hnz : n≤70:=by omega
 have rd1:=ho.rd (by decide)
 have C3:=B3.below hb1
 have C5:=B5.below hb1
 have C6:=B6.below hb1
 have HC:=below_two HB hb1
 have c31:=C3.cell 0
 simp only [zG,zH] at c31
 clear hn ho B3 B5 B6 HB hb1 hlz
 have B7:=Blk.new w1 29 #[.slice A n c]
 have hbA : Below w1.heap.size w1 (w1.alloc (.cells #[.slice A n c] 29)):=(Below.refl _ _).alloc (Nat.le_refl _) _
 have c32:=(C3.below hbA).cell 0
 simp only [zG,zH] at c32
 go_wp2_with fail
 refine (HKw.out _).mono ?_
 rintro e w2 ⟨rfl,hcs,hb2⟩
 have hbB:=below_two hbA hb2
 have D3:=C3.below hbB
 have D5:=C5.below hbB
 have D6:=C6.below hbB
 have D7:=B7.below hb2
 have rd2:=rd1.below hbB
 have HD:=below_two HC hbB
 have hnil1:=seqS_nil (.func 89) #[] #[.pointer (some ⟨(w1.alloc (.cells #[.slice A n c] 29)).heap.size,0,none⟩)]
 clear C3 C5 C6 B7 rd1 HC hbB hbA hb2 c31 c32
 generalize (w1.alloc (.cells #[.slice A n c] 29)).heap.size = bs at hcs hnil1 ⊢
 generalize w1.heap.size = g7 at D7 ⊢
 have B8:=Blk.new w2 32 #[.func (.func 89) #[] #[.pointer (some ⟨bs,0,none⟩)]]
 have hb8 : Below w2.heap.size w2 (w2.alloc (.cells #[.func (.func 89) #[] #[.pointer (some ⟨bs,0,none⟩)]] 32)):=(Below.refl _ _).alloc (Nat.le_refl _) _
 have hP3 : PcX w s stop A n c g7 w2.heap.size bs (.func (.func 89) #[] #[.pointer (some ⟨bs,0,none⟩)]) (w2.alloc (.cells #[.func (.func 89) #[] #[.pointer (some ⟨bs,0,none⟩)]] 32)):=⟨D3.below hb8,D5.below hb8,D6.below hb8,D7.below hb8,B8,rd2.below hb8,hcs.below hb8,below_two HD hb8⟩
 clear D3 D5 D6 D7 B8 rd2 hcs HD hb8
 go_upto_region 5 with fail
 generalize (w2.alloc (.cells #[.func (.func 89) #[] #[.pointer (some ⟨bs,0,none⟩)]] 32)) = U at hP3 ⊢
 generalize w2.heap.size = g8 at hP3 ⊢
 have HCn' : Hid (∀ W : World,Env W→Calls Tryz.prog 25 #[.string s] W fun e w'=>e = .returned (.int .i64 (n : Nat))∧Below W.heap.size W w'):=Lib.hid (fun W h=>by
  have:=HCn.out W h
  rw [← HLw.out,Hn.out] at this
  exact this)
 have c83:=hP3.b8.cell 0
 have c33:=hP3.b3.cell 0
 have c73:=hP3.b7.cell 0
 simp only [zG,zH] at c83 c33 c73
 have HST:=Lib.hid (fun (V : World) (h : Below U.heap.size U V)=>And.intro (cell_keep c83 h) (And.intro (cell_keep c33 h) (And.intro (cell_keep c73 h) h)))
 have hbz0 : Below U.heap.size U U.drew:=below_drewN (Below.refl _ _) 1
 have hEU:=hE.below (below_two hP3.hb hbz0)
 clear HCn
 go_region_held3 (fun V=>V.cell? ⟨g8,0,none⟩ = some (.func (.func 89) #[] #[.pointer (some ⟨bs,0,none⟩)])∧V.cell? ⟨w.heap.size,0,none⟩ = some (.string s)∧V.cell? ⟨g7,0,none⟩ = some (.slice A n c)∧Below U.heap.size U V)
  (first | exact HST.out _ hbz | exact HST.out _ hbz0)
  (first
   | (go_at_call 25;go_split_ands;refine (HCn'.out _ hEU).mono ?_;rintro e wz ⟨rfl,hz⟩;have hbz:=below_two hbz0 hz))
 have hP4:=hP3.below hbz
 have hEz:=hE.below hP4.hb
 have B9:=Blk.new wz 3 #[.int .i64 0]
 have hb9 : Below wz.heap.size wz (wz.alloc (.cells #[.int .i64 0] 3)):=(Below.refl _ _).alloc (Nat.le_refl _) _
 have c84:=(hP4.below hb9).b8.cell 0
 simp only [zG,zH] at c84
 clear c83 c33 c73 HST hbz0 hEU hbz hP3 HCn'
 go_wp2_with fail
 generalize wz.alloc (.cells #[.int .i64 0] 3) = V at B9 hb9 c84 ⊢
 have hz9:=B9.lt
 have hP5:=hP4.below hb9
 refine (wpIn_wide (n:=8)).1 ?_
 have hbsz : bs < wz.heap.size:=hP4.cs.lt
 refine rngC rfl (by decide) (gf:=89) (lb:=#[.pointer (some ⟨bs,0,none⟩)]) rfl trivial (enters_of Tryz.func89 (by kernel_rfl) rfl)
  (kWords_seq 7 (by decide) wz V s bs (fun b=>b = wz.heap.size) hb9 (by rintro b rfl;exact ⟨Nat.le_refl _,hz9⟩) (by omega) hEz (by omega) hP5.cs) (fun h k=>h.trans k) (KpB.put (by omega)) (Below.refl _ _) (fun _=>rfl)
  (fun (pre : List (Nat × Nat)) W=>Blk W wz.heap.size 3 #[.int .i64 (pre.length : Nat)]∧Below wz.heap.size wz W)
  (fun cc pre W=>cc = .ret∧¬ pre <+: wordsP s)
  (OwnFrom.and (Go.Own.from (fun s A B row hs hg hr=>hs.kept hg hr) _) (ownFrom_below (Nat.le_refl _) (by omega)))
  (fun _ _ _ _ _ hs _ _=>hs) ⟨B9,hb9⟩
  (fun T (x : Nat × Nat)=>(((T.setIfInBounds 43 (.int .i64 ((clP s x).1 : Nat))).setIfInBounds 44 (.string (s.extract (clP s x).1 (clP s x).2))).setIfInBounds 10 (.int .i64 ((clP s x).1 : Nat))).setIfInBounds 11 (.string (s.extract (clP s x).1 (clP s x).2))) ?assign ?body ?done ?stop
 case assign =>
  intro l2 x V K hK
  simp only [zD,zF,zE] at hK
  simp only [encWd]
  gi_wp2
  exact hK
 case stop =>
  rintro D cc pre W _ hp ⟨rfl,hnp⟩ _
  exact absurd hp hnp
 case body =>
  rintro l2 pre y W hl2 ⟨r0,hr0⟩ ⟨B9W,hbW⟩ hlen
  simp only [zD,zF,zE]
  obtain ⟨⟨p,q⟩,hpq⟩ : ∃ z,clP s y = z:=⟨_,rfl⟩
  rw [hpq]
  simp only
  have PW:=hP4.below hbW
  have hz9W:=B9W.lt
  have c9:=B9W.cell 0
  have f9:=B9W.frozen 0
  have c3:=PW.b3.cell 0
  have c5:=PW.b5.cell 0
  have c6:=PW.b6.cell 0
  have f6:=PW.b6.frozen 0
  have c7:=PW.b7.cell 0
  have c8:=PW.b8.cell 0
  simp only [zG,zH] at c9 c3 c5 c6 c7 c8
  obtain ⟨k,hk⟩ : ∃ k,k = pre.length:=⟨_,rfl⟩
  rw [← hk] at c9 B9W hlen
  have Hk:=Lib.hid hk
  clear hk
  by_cases hge : n≤k
  ·have hge' : (k : Int) ≥ (n : Int):=by omega
   have hnp:=Lib.hid (show ¬ pre++[y] <+: wordsP s from fun hp=>by
    have h1:=hp.length_le
    rw [List.length_append,List.length_singleton,← HLw.out,Hn.out] at h1
    have:=Hk.out
    omega)
   gi_wp2_with fail
   refine wpIn_region_quiet_round (by kernel_rfl) (by kernel_rfl) (by kernel_rfl) (fun h=>by obtain ⟨_,_,h⟩:=h;exact h) ?_
   repeat (go_big_quiet_step (fail))
   refine wpQuiet_nil ?_
   rintro _ ⟨nq,rfl⟩
   gi_wp2_with fail
   exact ⟨((others_below (below_drewN (Below.refl _ _) _)).trans (KeepsOthers.setCell _ _ _)).from _,rfl,hnp.out⟩
  have hkn : k < n:=by omega
  have hge' : ¬ (k : Int) ≥ (n : Int):=by omega
  obtain ⟨⟨a,b,kd⟩,Hx⟩ : ∃ x,Hid ((wdsW s)[k]? = some x):=⟨_,Lib.hid (List.getElem?_eq_getElem (by rw [Hn.out];exact hkn))⟩
  have Hwx : Hid ((wordsP s)[k]? = some (a,b)):=Lib.hid (by rw [← words_W,List.getElem?_map,Hx.out];rfl)
  have Hne : Hid ((p,q) ≠ (a,b)→¬ pre++[y] <+: wordsP s):=Lib.hid (fun h hp=>by
   have h2:=prefix_nextP hp
   rw [← Hk.out,Hwx.out] at h2
   injection h2 with h2
   have hin:=words_in (List.mem_of_getElem? Hwx.out)
   rw [h2] at hin
   rw [h2,← hpq,hin] at h
   exact h rfl)
  obtain ⟨bk,off,rfl,x0,x1,x2⟩:=PW.rd.atPc Hx.out
  simp only at x0 x1 x2
  clear hpq
  by_cases hpa : p = a
  ·subst hpa
   have hab:=words_le (List.mem_of_getElem? Hwx.out)
   simp only at hab
   cases htx : ((s.extract p q).toList == (s.extract p b).toList) with
   | false =>
    have hnp:=Lib.hid (Hne.out (fun h=>by
     injection h with _ h
     rw [h] at htx
     simp at htx))
    clear Hne
    gi_wp2_with fail
    refine wpIn_region_quiet_round (by kernel_rfl) (by kernel_rfl) (by kernel_rfl) (fun h=>by obtain ⟨_,_,h⟩:=h;exact h) ?_
    repeat (go_big_quiet_step (fail))
    refine wpQuiet_nil ?_
    rintro _ ⟨nq,rfl⟩
    gi_wp2_with fail
    exact ⟨((others_below (below_drewN (Below.refl _ _) _)).trans (KeepsOthers.setCell _ _ _)).from _,rfl,hnp.out⟩
   | true =>
    have hcast : Hid ((k : Int)+1 = ((pre++[y]).length : Nat)):=Lib.hid (by have:=Hk.out;simp only [List.length_append,List.length_singleton];omega)
    have ew : IntKind.i64.wrap ((k : Int)+1) = (k : Int)+1:=IntWalk.i64_in _ (by omega)
    have hbsz2 : bs ≠ wz.heap.size:=by omega
    clear Hne
    cases hst : ((k : Int) == stop) with
    | false =>
     gi_wp2_with fail
     refine wpIn_region_quiet_round (by kernel_rfl) (by kernel_rfl) (by kernel_rfl) (fun h=>by obtain ⟨_,_,h⟩:=h;exact h) ?_
     repeat (go_big_quiet_step (fail))
     refine wpQuiet_nil ?_
     rintro _ ⟨nq,rfl⟩
     gi_wp2_with fail
     have hbd : Below W.heap.size W (W.drewN nq):=below_drewN (Below.refl _ _) _
     refine ⟨((others_below hbd).trans (KeepsOthers.setCell (W.drewN nq) ⟨wz.heap.size,0,none⟩ (.int .i64 ((k : Int)+1)))).from _,⟨(hbd.mono (Nat.le_of_lt hz9W)).setCell (p:=⟨wz.heap.size,0,none⟩) (Nat.le_refl _) _,kcQ_setCell (X:=fun b=>b = wz.heap.size) (kcQ_below hbd) (p:=⟨wz.heap.size,0,none⟩) (.inr rfl) _⟩,?_,(hbW.trans (hbd.mono (Nat.le_of_lt hz9W))).setCell (p:=⟨wz.heap.size,0,none⟩) (Nat.le_refl _) _⟩
     exact cast (congrArg (fun z=>Blk _ _ _ #[Value.int .i64 z]) hcast.out) ((B9W.below hbd).set_ 0 (.int .i64 ((k : Int)+1)))
    | true =>
     gi_wp2_with fail
     refine wpIn_region_quiet_round (by kernel_rfl) (by kernel_rfl) (by kernel_rfl) (fun h=>by obtain ⟨_,_,h⟩:=h;exact h) ?_
     repeat (go_big_quiet_step (fail))
     refine wpQuiet_nil ?_
     rintro _ ⟨nq,rfl⟩
     gi_wp2_with fail
     have hbd : Below W.heap.size W (W.drewN nq):=below_drewN (Below.refl _ _) _
     have B9d:=B9W.below hbd
     have PWd:=PW.below hbd
     have hrd : (W.drewN nq).heap[l2]? = some (.loop r0):=hr0
     have hEd:=hE.below PWd.hb
     generalize W.drewN nq = Wp at hbd B9d PWd hrd hEd ⊢
     have hVWp : V.heap.size≤Wp.heap.size:=Nat.le_trans (Nat.le_trans hl2 (Nat.le_of_lt (Array.getElem?_eq_some_iff.1 hr0).1)) hbd.size
     have hbWp:=hbW.trans (hbd.mono (Nat.le_of_lt hz9W))
     refine rngCN (l₀:=l2) (r₀:=r0) rfl hrd (by decide) (gf:=89) (lb:=#[.pointer (some ⟨bs,0,none⟩)]) rfl trivial (enters_of Tryz.func89 (by kernel_rfl) rfl)
      ((kWords_seq 5 (by decide) Wp Wp s bs (fun _=>False) (Below.refl _ _) (fun b h=>h.elim) (fun h=>h.elim) hEd (by omega) PWd.cs).inRound l2) (fun h k=>h.trans k) (KpB.put (w:=Wp) (Nat.le_refl _)) (Below.refl _ _) (fun _=>rfl)
      (fun (pre2 : List (Nat × Nat)) W2=>pre2 = []∧Below Wp.heap.size Wp W2)
      (fun cc pre2 W2=>(cc = .exit 2∧Below Wp.heap.size Wp W2)∨(cc = .ret∧¬ pre2 <+: wordsP s))
      (OwnFrom.and (fun _ _ _ _ hs _ _=>hs) (ownFrom_below (Nat.le_refl _) (Nat.le_refl _)))
      (fun cc pre2 A B row hs hg hr=>hs.imp (fun h=>⟨h.1,ownFrom_below (β:=Unit) (Nat.le_refl Wp.heap.size) (Nat.le_refl _) () A B row h.2 hg hr⟩) id)
      ⟨rfl,Below.refl _ _⟩
      (fun T (x : Nat × Nat)=>(((T.setIfInBounds 78 (.int .i64 ((clP s x).1 : Nat))).setIfInBounds 79 (.string (s.extract (clP s x).1 (clP s x).2))).setIfInBounds 12 (.int .i64 ((clP s x).1 : Nat)))) ?assign2 ?body2 ?done2 ?stop2
     case assign2 =>
      intro l3 x W K hK
      simp only [zD,zF,zE] at hK
      simp only [encWd]
      gi_wp2
      exact hK
     case done2 =>
      rintro ys W2 hys ⟨h0,hb2⟩
      exfalso
      have h1:=(List.getElem?_eq_some_iff.1 Hwx.out).1
      rw [← hys,h0] at h1
      simp at h1
     case stop2 =>
      rintro cc pre2 W2 hp (⟨rfl,hb2⟩ | ⟨rfl,hnp⟩)
      ·have BN2:=B9d.below hb2
       have cN2:=BN2.cell 0
       have fN2:=BN2.frozen 0
       simp only [zG,zH] at cN2
       have hbe:=below_two hbd hb2
       clear c9 f9 c3 c5 c6 f6 c7 c8 x0 x1 x2
       gi_wp2
       refine ⟨((others_below hbe).trans (KeepsOthers.setCell W2 ⟨wz.heap.size,0,none⟩ (.int .i64 ((k : Int)+1)))).from _,⟨(hbe.mono (Nat.le_of_lt hz9W)).setCell (p:=⟨wz.heap.size,0,none⟩) (Nat.le_refl _) _,kcQ_setCell (X:=fun b=>b = wz.heap.size) (kcQ_below hbe) (p:=⟨wz.heap.size,0,none⟩) (.inr rfl) _⟩,?_,(hbW.trans (hbe.mono (Nat.le_of_lt hz9W))).setCell (p:=⟨wz.heap.size,0,none⟩) (Nat.le_refl _) _⟩
       exact cast (congrArg (fun z=>Blk _ _ _ #[Value.int .i64 z]) hcast.out) (BN2.set_ 0 (.int .i64 ((k : Int)+1)))
      ·exact absurd hp hnp
     case body2 =>
      rintro l3 pre2 y2 W2 hl3 _ ⟨rfl,hb2⟩ hlen2
      simp only [zD,zF,zE]
      obtain ⟨⟨p2,q2⟩,hpq2⟩ : ∃ z,clP s y2 = z:=⟨_,rfl⟩
      rw [hpq2]
      simp only
      obtain ⟨⟨a2,b2,kd2⟩,Hx2⟩ : ∃ x,Hid ((wdsW s)[0]? = some x):=⟨_,Lib.hid (List.getElem?_eq_getElem (by rw [Hn.out];omega))⟩
      have Hwx2 : Hid ((wordsP s)[0]? = some (a2,b2)):=Lib.hid (by rw [← words_W,List.getElem?_map,Hx2.out];rfl)
      have Hne2 : Hid (p2 ≠ a2→¬ ([] : List (Nat × Nat))++[y2] <+: wordsP s):=Lib.hid (fun h hp=>by
       have h2:=prefix_nextP hp
       rw [List.length_nil,Hwx2.out] at h2
       injection h2 with h2
       have hin:=words_in (List.mem_of_getElem? Hwx2.out)
       rw [h2,hpq2,← h2] at hin
       injection hin with e1 e2
       exact h e1)
      have P2:=PWd.below hb2
      obtain ⟨bk2,off2,e2,z0,z1,z2⟩:=P2.rd.atPc Hx2.out
      injection e2 with e2
      injection e2 with e2 e3
      subst e2 e3
      have c62:=P2.b6.cell 0
      have f62:=P2.b6.frozen 0
      have c72:=P2.b7.cell 0
      simp only [zG,zH] at c62 c72
      simp only [Nat.zero_mul,Nat.add_zero] at z0 z1 z2
      have hn0 : 0 < n:=by omega
      have hn0' : (0 : Int) < (n : Int):=by omega
      clear hpq2 c9 f9 c3 c5 c6 f6 c7 c8 x0 x1 x2
      by_cases h2 : p2 = a2
      ·subst h2
       gi_wp2
       exact ⟨(KeepsOthers.refl W2).from _,.inl ⟨rfl,hb2⟩⟩
      ·have hne : ((p2 : Int) != (a2 : Int)) = true:=by rw [bne_iff_ne];omega
       have hnp:=Lib.hid (Hne2.out h2)
       clear h2 Hne2
       gi_wp2
       exact ⟨(KeepsOthers.setCell _ _ _).from _,.inr ⟨rfl,hnp.out⟩⟩
  ·have hne : ((p : Int) != (a : Int)) = true:=by rw [bne_iff_ne];omega
   have hnp:=Lib.hid (Hne.out (fun h=>hpa (by injection h)))
   gi_wp2_with fail
   refine wpIn_region_quiet_round (by kernel_rfl) (by kernel_rfl) (by kernel_rfl) (fun h=>by obtain ⟨_,_,h⟩:=h;exact h) ?_
   repeat (go_big_quiet_step (fail))
   refine wpQuiet_nil ?_
   rintro _ ⟨nq,rfl⟩
   gi_wp2_with fail
   exact ⟨((others_below (below_drewN (Below.refl _ _) _)).trans (KeepsOthers.setCell _ _ _)).from _,rfl,hnp.out⟩
 case done =>
  rintro D ys W hD hys ⟨B9W,hbW⟩ hK
  subst hys
  rw [show (wordsP s).length = n by rw [← HLw.out,Hn.out]] at B9W
  obtain ⟨o1,Ho1⟩ : ∃ o,Hid (((wdsW s).find? (aftQ x)).map two = o):=⟨_,Lib.hid rfl⟩
  obtain ⟨o2,Ho2⟩ : ∃ o,Hid (((wdsW s).reverse.find? (befQ x)).map two = o):=⟨_,Lib.hid rfl⟩
  have HA1:=Lib.hid (fun W (h : Env W)=>kAfter_any s x W h (by omega))
  have HA2:=Lib.hid (fun W=>vAfter_any s x W (by omega))
  have HA3:=Lib.hid (fun W (h : Env W)=>kBefore_any s x W h (by omega))
  have HA4:=Lib.hid (fun W=>vBefore_any s x W (by omega))
  rw [after_trip,Ho1.out,trip_eq] at HA1
  rw [Ho1.out,trip_eq] at HA2
  rw [before_trip,Ho2.out,trip_eq] at HA3
  rw [Ho2.out,trip_eq] at HA4
  obtain ⟨p1,Hp1⟩ : ∃ p,Hid (b1 o1 = p):=⟨_,Lib.hid rfl⟩
  obtain ⟨p2,Hp2⟩ : ∃ p,Hid (b2 o1 = p):=⟨_,Lib.hid rfl⟩
  obtain ⟨p3,Hp3⟩ : ∃ p,Hid (o1.isSome = p):=⟨_,Lib.hid rfl⟩
  obtain ⟨r1,Hr1⟩ : ∃ p,Hid (b1 o2 = p):=⟨_,Lib.hid rfl⟩
  obtain ⟨r2,Hr2⟩ : ∃ p,Hid (b2 o2 = p):=⟨_,Lib.hid rfl⟩
  obtain ⟨r3,Hr3⟩ : ∃ p,Hid (o2.isSome = p):=⟨_,Lib.hid rfl⟩
  rw [Hp1.out,Hp2.out,Hp3.out] at HA1 HA2
  rw [Hr1.out,Hr2.out,Hr3.out] at HA3 HA4
  have PZ:=hP4.below hbW
  have c3:=PZ.b3.cell 0
  simp only [zG,zH] at c3
  have HK1:=HA1.out W (hE.below PZ.hb)
  have Hsz:=Lib.hid (And.intro hD (And.intro hz9 hP4.b6.lt))
  have HD:=Lib.hid hK
  clear hK B9 hb9 hP5 c84 hnil1 HWd HKw
  go_wp2_with fail
  refine HK1.mono ?_
  rintro e wa ⟨rfl,hba⟩
  have PA:=PZ.below hba
  have c3a:=PA.b3.cell 0
  simp only [zG,zH] at c3a
  have HK2:=HA2.out wa
  clear HK1 c3
  go_wp2_with fail
  refine HK2.mono ?_
  rintro e wb ⟨rfl,hbb⟩
  have PB:=PA.below hbb
  have c3b:=PB.b3.cell 0
  simp only [zG,zH] at c3b
  have HK3:=HA3.out wb (hE.below PB.hb)
  clear HK2 c3a
  go_wp2_with fail
  refine HK3.mono ?_
  rintro e wc ⟨rfl,hbc⟩
  have PC:=PB.below hbc
  have c3c:=PC.b3.cell 0
  simp only [zG,zH] at c3c
  have HK4:=HA4.out wc
  clear HK3 c3b
  go_wp2_with fail
  refine HK4.mono ?_
  rintro e wd ⟨rfl,hbd⟩
  have PD:=PC.below hbd
  have hbWd:=below_two hba (below_two hbb (below_two hbc hbd))
  have c7d:=PD.b7.cell 0
  have c9d:=(B9W.below hbWd).cell 0
  simp only [zG,zH] at c7d c9d
  have HK5:=HLv.out wd (hE.below PD.hb)
  clear HK4 c3c
  go_wp2_with fail
  refine HK5.mono ?_
  rintro e we ⟨rfl,hbe⟩
  have PE:=PD.below hbe
  have hbWe:=below_two hbWd hbe
  have c4:=PE.b6.cell 0
  have f4:=PE.b6.frozen 0
  simp only [zG,zH] at c4
  clear c7d c9d HK5
  go_wp2_with fail
  obtain ⟨s1,s2,s3⟩:=Hsz.out
  have k2 : (we.setCell ⟨w.heap.size+1+1,0,none⟩ (.bool true)).heap[D]? = some (.deferred (some [])):=(Below.heap_setCell we ⟨w.heap.size+1+1,0,none⟩ (.bool true) D (by simp only;omega)).trans ((hbWe.block D (Array.getElem?_eq_some_iff.1 HD.out).1).trans HD.out)
  have B4v:=PE.b6.set_ 0 (.bool true)
  have c7:=B4v.cell 0
  simp only [zG,zH,zD,zE] at c7
  have HBv:=PE.hb.setCell (p:=⟨w.heap.size+1+1,0,none⟩) (by simp only;omega) (.bool true)
  generalize we.setCell ⟨w.heap.size+1+1,0,none⟩ (.bool true) = Wv at k2 c7 HBv ⊢
  refine ⟨by simp,.inl ⟨_,_,rfl,run_takeDeferred k2,?_⟩⟩
  refine ⟨_,res_wordWords _ (w.heap.size+1+1) _ rfl ((World.cell?_of_block (World.putObj_heap_other (by simp only;omega))).trans c7),rfl,?_⟩
  exact HBv.trans (belowK_b (w:=w) (Nat.le_refl _) _ D _ _ (by omega) k2 rfl rfl)
end
end Go.Proofs.YtglmcknlnoknoaaGreatDoor
