/-
 Several texts in one,in their build order: TzC,TzD,TzE.
-/
import Derived.Test.YtglmcknlnoknoaaGreatDoorV10a
/- -/
namespace Go.Proofs.YtglmcknlnoknoaaGreatDoor
set_option maxRecDepth 100000
set_option maxHeartbeats 40000000
section
open Go.RowKit
theorem lc_len (s : ByteArray) (h : s.size≤1000) : (lChances gL s).length≤1001:=by have:=lChances_len s;omega
theorem xKind_any (s : ByteArray) (k : Int) (w : World) (hs : s.size≤1000) :
  Calls Tryz.prog 36 #[.string s,.int .i64 k] w fun e w'=>e = .returned (.int .i64 (kinP (lChances gL s) k))∧Below w.heap.size w w':=by
 have HC:=Lib.hid (xChances_any s w (by omega))
 have hLz:=lc_len s hs
 obtain ⟨L,HL⟩ : ∃ L,Hid (lChances gL s = L):=⟨_,Lib.hid rfl⟩
 have HW : Hid (kinP (lChances gL s) k = kinP L k):=Lib.hid (by rw [HL.out])
 rw [HL.out] at hLz
 go_enter Tryz.func36,Tryz.ntmps36
 go_wp2_with fail
 refine HC.out.mono ?_
 rw [HL.out]
 rintro e w1 ⟨A,n,c,rfl,ho,hb1⟩
 clear HC
 have hn : L.length = n:=by have:=ho.len;simpa using this
 have Hn:=Lib.hid hn
 have hnz : n≤1001:=by omega
 have rd:=ho.rd (by decide)
 clear hn hLz
 go_wp2_with fail
 go_loopw [6] (fun v wr=>∃ j : Nat,v = .int .i64 j∧j≤n∧Hid (kinP (L.drop j) k = kinP L k)∧wr = w1) (fun v _=>n - (intOf v).toNat)
 case atStart=>exact ⟨0,rfl,by omega,Lib.hid rfl,rfl⟩
 case round =>
  obtain ⟨j,rfl,hj,HK,rfl⟩:=hrel
  by_cases hlt : j < n
  ·obtain ⟨⟨a,m⟩,Hx⟩ : ∃ x,Hid (L[j]? = some x):=⟨_,Lib.hid (List.getElem?_eq_getElem (by have:=Hn.out;omega))⟩
   obtain ⟨b,off,rfl,c0,c1⟩:=rd.atC Hx.out
   simp only at c0 c1
   have HD:=Lib.hid (drop_of Hx.out)
   obtain ⟨q,hq⟩ : ∃ q,((a : Int) == k) = q:=⟨_,rfl⟩
   have HS : Hid (kinP L k = if q then (if m then 2 else 1) else kinP (L.drop (j+1)) k):=Lib.hid (by rw [← HK.out,HD.out,kinP,hq])
   cases q with
   | true =>
    cases m with
    | true =>
     go_wp2
     go_ret
     exact ⟨by rw [HW.out,HS.out];rfl,hb1⟩
    | false =>
     go_wp2
     go_ret
     exact ⟨by rw [HW.out,HS.out];rfl,hb1⟩
   | false =>
    have HK' : Hid (kinP (L.drop (j+1)) k = kinP L k):=Lib.hid (by rw [HS.out];rfl)
    go_wp2
    go_roundw
    case rel=>exact ⟨j+1,by go_num,by omega,HK',by first | rfl | trivial⟩
    case measure=>simp [intOf];omega
  ·have HV : Hid (kinP L k = 0):=Lib.hid (by rw [← HK.out,List.drop_eq_nil_of_le (by have:=Hn.out;omega)];rfl)
   go_wp2
   go_ret
   exact ⟨by rw [HW.out,HV.out];rfl,hb1⟩
def nextGo (k : Int) : List (Nat × Bool)→(Nat × Bool) × Bool
 | []=>((0,false),false)
 | x :: r=>if k < (x.1 : Int) then (x,true) else nextGo k r
theorem res_nextX (w : World) (b : Nat) (tmps : Array Value) (ht : tmps.getD 4 undef = .pointer (some ⟨b,0,none⟩)) {a : Int} {m : Bool} {v : Value} (h5 : tmps.getD 5 undef = v) (h : Blk w b 40 #[.int .i64 a,.bool m]) :
  (results Tryz.f32 tmps).run Tryz.prog w = .ok (.tuple #[.agg #[.int .i64 a,.bool m],v]) w:=by
 have ht' : tmps[4]?.getD undef = .pointer (some ⟨b,0,none⟩):=by simpa [Array.getD_eq_getD_getElem?] using ht
 have h5' : tmps[5]?.getD undef = v:=by simpa [Array.getD_eq_getD_getElem?] using h5
 have h0:=h.cell 0
 have h1:=h.cell 1
 simp only [zG,zH,zI] at h0 h1
 simp [results,Tryz.results32,go_sem,ht',h5',h0,h1]
theorem xNext_any (s : ByteArray) (k : Int) (w : World) (hs : s.size≤1000) :
  Calls Tryz.prog 32 #[.string s,.int .i64 k] w fun e w'=>e = .returned (.tuple #[.agg #[.int .i64 (nextGo k (lChances gL s)).1.1,.bool (nextGo k (lChances gL s)).1.2],.bool (nextGo k (lChances gL s)).2])∧Below w.heap.size w w':=by
 have hB0 : Below w.heap.size w (w.alloc (.cells #[.int .i64 0,.bool false] 40)):=(Below.refl _ _).alloc (Nat.le_refl _) _
 have hR0:=Blk.new w 40 #[.int .i64 0,.bool false]
 have HC:=Lib.hid (xChances_any s (w.alloc (.cells #[.int .i64 0,.bool false] 40)) (by omega))
 have hLz:=lc_len s hs
 obtain ⟨L,HL⟩ : ∃ L,Hid (lChances gL s = L):=⟨_,Lib.hid rfl⟩
 rw [HL.out] at hLz ⊢
 obtain ⟨R,HR⟩ : ∃ R,Hid (nextGo k L = R):=⟨_,Lib.hid rfl⟩
 rw [HR.out]
 go_enter Tryz.func32,Tryz.ntmps32
 go_wp2_with fail
 refine HC.out.mono ?_
 rw [HL.out]
 rintro e w1 ⟨A,n,c,rfl,ho,hb1⟩
 clear HC
 have hn : L.length = n:=by have:=ho.len;simpa using this
 have Hn:=Lib.hid hn
 have hnz : n≤1001:=by omega
 have rd:=ho.rd (by decide)
 have hR1:=hR0.below hb1
 have hB1:=hB0.trans (hb1.mono hB0.size)
 have hl1 : ∀ z,A = some z→z.block ≠ w.heap.size:=fun z hz=>by have:=(ho.lt z hz).1;simp at this;omega
 clear hn hR0 hB0 hb1 hLz ho
 go_wp2_with fail
 go_loopw [7] (fun u wr=>∃ (j : Nat),u = .int .i64 j∧j≤n∧Hid (nextGo k (L.drop j) = R)∧wr = w1) (fun u _=>n - (intOf u).toNat)
 case atStart=>exact ⟨0,rfl,by omega,HR,rfl⟩
 case round =>
  obtain ⟨j,rfl,hj,HK,rfl⟩:=hrel
  have r0:=hR1.cell 0
  have r1:=hR1.cell 1
  have f0:=hR1.frozen 0
  have f1:=hR1.frozen 1
  simp only [zG,zH,zI] at r0 r1
  by_cases hlt : j < n
  ·obtain ⟨⟨a,m⟩,Hx⟩ : ∃ x,Hid (L[j]? = some x):=⟨_,Lib.hid (List.getElem?_eq_getElem (by have:=Hn.out;omega))⟩
   obtain ⟨b,off,rfl,c0,c1⟩:=rd.atC Hx.out
   simp only at c0 c1
   have HD:=Lib.hid (drop_of Hx.out)
   have HS : Hid ((if k < (a : Int) then ((a,m),true) else nextGo k (L.drop (j+1))) = R):=Lib.hid (by rw [← HK.out,HD.out];rfl)
   by_cases hq : k < (a : Int)
   ·have HV : Hid (R = ((a,m),true)):=Lib.hid (by rw [← HS.out,if_pos hq])
    have hRf:=(hR1.set_ 0 (.int .i64 (a : Nat))).set_ 1 (.bool m)
    have hbf:=(hB1.setCell (p:=⟨w.heap.size,0,none⟩) (Nat.le_refl _) (.int .i64 (a : Nat))).setCell (p:=⟨w.heap.size,1,none⟩) (Nat.le_refl _) (.bool m)
    have hq2 : ((a : Int) > k) = True:=eq_true hq
    go_wp2
    refine bodyPost_ret (res_nextX _ w.heap.size _ rfl rfl (by simpa using hRf)) rfl ?_
    exact ⟨by rw [HV.out];rfl,hbf⟩
   ·have HK' : Hid (nextGo k (L.drop (j+1)) = R):=Lib.hid (by rw [← HS.out,if_neg hq])
    have hq2 : ¬ ((a : Int) > k):=hq
    go_wp2
    go_roundw
    case rel=>exact ⟨j+1,by go_num,by omega,HK',by first | rfl | trivial⟩
    case measure=>simp [intOf];omega
  ·have HV : Hid (R = ((0,false),false)):=Lib.hid (by rw [← HK.out,List.drop_eq_nil_of_le (by have:=Hn.out;omega)];rfl)
   have hRf:=(hR1.set_ 0 (.int .i64 (0 : Nat))).set_ 1 (.bool false)
   have hbf:=(hB1.setCell (p:=⟨w.heap.size,0,none⟩) (Nat.le_refl _) (.int .i64 (0 : Nat))).setCell (p:=⟨w.heap.size,1,none⟩) (Nat.le_refl _) (.bool false)
   go_wp2
   refine bodyPost_ret (res_nextX _ w.heap.size _ rfl rfl (by simpa using hRf)) rfl ?_
   exact ⟨by rw [HV.out];rfl,hbf⟩
end
section
open Go.RowKit
theorem res_prevX (w : World) (b : Nat) (tmps : Array Value) (ht : tmps.getD 4 undef = .pointer (some ⟨b,0,none⟩)) {a : Int} {m : Bool} {v : Value} (h5 : tmps.getD 5 undef = v) (h : Blk w b 40 #[.int .i64 a,.bool m]) :
  (results Tryz.f34 tmps).run Tryz.prog w = .ok (.tuple #[.agg #[.int .i64 a,.bool m],v]) w:=by
 have ht' : tmps[4]?.getD undef = .pointer (some ⟨b,0,none⟩):=by simpa [Array.getD_eq_getD_getElem?] using ht
 have h5' : tmps[5]?.getD undef = v:=by simpa [Array.getD_eq_getD_getElem?] using h5
 have h0:=h.cell 0
 have h1:=h.cell 1
 simp only [zG,zH,zI] at h0 h1
 simp [results,Tryz.results34,go_sem,ht',h5',h0,h1]
theorem prevGo_snoc (k : Int) (l : List (Nat × Bool)) (x : Nat × Bool) (b : (Nat × Bool) × Bool) : prevGo k (l++[x]) b = if (x.1 : Int) < k then (x,true) else prevGo k l b:=by
 unfold prevGo
 rw [List.foldl_append,List.foldl_cons,List.foldl_nil]
theorem xPrev_any (s : ByteArray) (k : Int) (w : World) (hs : s.size≤1000) :
  Calls Tryz.prog 34 #[.string s,.int .i64 k] w fun e w'=>e = .returned (.tuple #[.agg #[.int .i64 (prevGo k (lChances gL s) ((0,false),false)).1.1,.bool (prevGo k (lChances gL s) ((0,false),false)).1.2],.bool (prevGo k (lChances gL s) ((0,false),false)).2])∧Below w.heap.size w w':=by
 have hB0 : Below w.heap.size w (w.alloc (.cells #[.int .i64 0,.bool false] 40)):=(Below.refl _ _).alloc (Nat.le_refl _) _
 have hR0:=Blk.new w 40 #[.int .i64 0,.bool false]
 have HC:=Lib.hid (xChances_any s (w.alloc (.cells #[.int .i64 0,.bool false] 40)) (by omega))
 have hLz:=lc_len s hs
 obtain ⟨L,HL⟩ : ∃ L,Hid (lChances gL s = L):=⟨_,Lib.hid rfl⟩
 rw [HL.out] at hLz ⊢
 obtain ⟨R,HR⟩ : ∃ R,Hid (prevGo k L ((0,false),false) = R):=⟨_,Lib.hid rfl⟩
 rw [HR.out]
 go_enter Tryz.func34,Tryz.ntmps34
 go_wp2_with fail
 refine HC.out.mono ?_
 rw [HL.out]
 rintro e w1 ⟨A,n,c,rfl,ho,hb1⟩
 clear HC
 have hn : L.length = n:=by have:=ho.len;simpa using this
 have Hn:=Lib.hid hn
 have hnz : n≤1001:=by omega
 have rd:=ho.rd (by decide)
 have hR1:=hR0.below hb1
 have hB1:=hB0.trans (hb1.mono hB0.size)
 have hl1 : ∀ z,A = some z→z.block ≠ w.heap.size:=fun z hz=>by have:=(ho.lt z hz).1;simp at this;omega
 clear hn hR0 hB0 hb1 hLz ho
 go_wp2_with fail
 go_loopw [7] (fun u wr=>∃ (j : Nat) (i : Int),u = .int .i64 i∧i = (j : Int) - 1∧j≤n∧Hid (prevGo k (L.take j) ((0,false),false) = R)∧wr = w1) (fun u _=>(intOf u+1).toNat)
 case atStart=>exact ⟨n,_,rfl,by go_num,by omega,Lib.hid (by rw [List.take_of_length_le (by have:=Hn.out;omega),HR.out]),rfl⟩
 case round =>
  obtain ⟨j,i,rfl,hi,hj,HK,rfl⟩:=hrel
  have r0:=hR1.cell 0
  have r1:=hR1.cell 1
  have f0:=hR1.frozen 0
  have f1:=hR1.frozen 1
  simp only [zG,zH,zI] at r0 r1
  cases j with
  | zero =>
   have hx1 : i < 0:=by omega
   have hx0 : ¬ 0≤i:=by omega
   have HV : Hid (R = ((0,false),false)):=Lib.hid (by rw [← HK.out];rfl)
   have hRf:=(hR1.set_ 0 (.int .i64 (0 : Nat))).set_ 1 (.bool false)
   have hbf:=(hB1.setCell (p:=⟨w.heap.size,0,none⟩) (Nat.le_refl _) (.int .i64 (0 : Nat))).setCell (p:=⟨w.heap.size,1,none⟩) (Nat.le_refl _) (.bool false)
   clear hi
   go_wp2
   refine bodyPost_ret (res_prevX _ w.heap.size _ rfl rfl (by simpa using hRf)) rfl ?_
   exact ⟨by rw [HV.out];rfl,hbf⟩
  | succ j =>
   obtain rfl : i = (j : Int):=by omega
   clear hi
   obtain ⟨⟨a,m⟩,Hx⟩ : ∃ x,Hid (L[j]? = some x):=⟨_,Lib.hid (List.getElem?_eq_getElem (by have:=Hn.out;omega))⟩
   obtain ⟨b,off,rfl,c0,c1⟩:=rd.atC Hx.out
   simp only at c0 c1
   have HS : Hid ((if (a : Int) < k then ((a,m),true) else prevGo k (L.take j) ((0,false),false)) = R):=Lib.hid (by
    rw [← HK.out,List.take_add_one,Hx.out,Option.toList_some,prevGo_snoc])
   by_cases hq : (a : Int) < k
   ·have HV : Hid (R = ((a,m),true)):=Lib.hid (by rw [← HS.out,if_pos hq])
    have hRf:=(hR1.set_ 0 (.int .i64 (a : Nat))).set_ 1 (.bool m)
    have hbf:=(hB1.setCell (p:=⟨w.heap.size,0,none⟩) (Nat.le_refl _) (.int .i64 (a : Nat))).setCell (p:=⟨w.heap.size,1,none⟩) (Nat.le_refl _) (.bool m)
    go_wp2
    refine bodyPost_ret (res_prevX _ w.heap.size _ rfl rfl (by simpa using hRf)) rfl ?_
    exact ⟨by rw [HV.out];rfl,hbf⟩
   ·have HK' : Hid (prevGo k (L.take j) ((0,false),false) = R):=Lib.hid (by rw [← HS.out,if_neg hq])
    go_wp2
    go_roundw
    case rel=>exact ⟨j,_,by first | rfl | trivial,by omega,by omega,HK',by first | rfl | trivial⟩
    case measure=>simp [intOf]
theorem res_nextT (w : World) (b : Nat) (tmps : Array Value) (ht : tmps.getD 4 undef = .pointer (some ⟨b,0,none⟩)) {a : Int} {m : Bool} {v : Value} (h5 : tmps.getD 5 undef = v) (h : Blk w b 40 #[.int .i64 a,.bool m]) :
  (results Tryz.f31 tmps).run Tryz.prog w = .ok (.tuple #[.agg #[.int .i64 a,.bool m],v]) w:=by
 have ht' : tmps[4]?.getD undef = .pointer (some ⟨b,0,none⟩):=by simpa [Array.getD_eq_getD_getElem?] using ht
 have h5' : tmps[5]?.getD undef = v:=by simpa [Array.getD_eq_getD_getElem?] using h5
 have h0:=h.cell 0
 have h1:=h.cell 1
 simp only [zG,zH,zI] at h0 h1
 simp [results,Tryz.results31,go_sem,ht',h5',h0,h1]
theorem tNext_any (s : ByteArray) (k : Int) (w : World) (hE : Env w) (hs : s.size≤1000000) :
  Calls Tryz.prog 31 #[.string s,.int .i64 k] w fun e w'=>e = .returned (.tuple #[.agg #[.int .i64 (nextGo k (lChances gL s)).1.1,.bool (nextGo k (lChances gL s)).1.2],.bool (nextGo k (lChances gL s)).2])∧Below w.heap.size w w':=by
 have hB0 : Below w.heap.size w (w.alloc (.cells #[.int .i64 0,.bool false] 40)):=(Below.refl _ _).alloc (Nat.le_refl _) _
 have hR0:=Blk.new w 40 #[.int .i64 0,.bool false]
 have HC:=Lib.hid (tChances_any s _ (hE.below hB0) hs)
 obtain ⟨L,HL⟩ : ∃ L,Hid (lChances gL s = L):=⟨_,Lib.hid rfl⟩
 rw [HL.out]
 obtain ⟨R,HR⟩ : ∃ R,Hid (nextGo k L = R):=⟨_,Lib.hid rfl⟩
 rw [HR.out]
 clear hE
 go_enter Tryz.func31,Tryz.ntmps31
 go_wp2_with fail
 refine HC.out.mono ?_
 rw [HL.out]
 rintro e w1 ⟨A,n,c,rfl,ho,hb1⟩
 clear HC
 have hn : L.length = n:=by have:=ho.len;simpa using this
 have Hn:=Lib.hid hn
 have hcap:=ho.cap
 unfold maxLen at hcap
 have hR1:=hR0.below hb1
 have hB1:=hB0.trans (hb1.mono hB0.size)
 have ho:=ho.more (b':=w.heap.size+1) (by simp)
 have hsz1:=hB1.size
 clear hn hR0 hB0 hb1
 go_wp2_with fail
 go_loopw [11] (fun u wr=>∃ (j : Nat),u = .int .i64 j∧j≤n∧Hid (nextGo k (L.drop j) = R)∧Blk wr w.heap.size 40 #[.int .i64 0,.bool false]∧Own wr (w.heap.size+1) 40 2 A n c (L.map encC)∧Below w.heap.size w wr) (fun u _=>n - (intOf u).toNat)
 case atStart=>exact ⟨0,rfl,by omega,HR,hR1,ho,hB1⟩
 case round =>
  clear hR1 ho hB1
  obtain ⟨j,rfl,hj,HK,hR,ho,hb⟩:=hrel
  have hszr:=hb.size
  by_cases hlt : j < n
  ·obtain ⟨⟨a,m⟩,Hx⟩ : ∃ x,Hid (L[j]? = some x):=⟨_,Lib.hid (List.getElem?_eq_getElem (by have:=Hn.out;omega))⟩
   obtain ⟨b,off,rfl,c0,c1⟩:=(ho.rd (by decide)).atC Hx.out
   simp only at c0 c1
   have HD:=Lib.hid (drop_of Hx.out)
   have HS : Hid ((if k < (a : Int) then ((a,m),true) else nextGo k (L.drop (j+1))) = R):=Lib.hid (by rw [← HK.out,HD.out];rfl)
   have hb2 : Below w.heap.size w (wr.alloc (.cells #[.int .i64 (a : Nat),.bool m] 40)):=hb.alloc hb.size _
   have hB:=Blk.new wr 40 #[.int .i64 (a : Nat),.bool m]
   have hR2:=hR.alloc (.cells #[.int .i64 (a : Nat),.bool m] 40)
   have ho2:=ho.alloc (.cells #[.int .i64 (a : Nat),.bool m] 40)
   have d0:=hB.cell 0
   have d1:=hB.cell 1
   have r0:=hR2.cell 0
   have r1:=hR2.cell 1
   have f0:=hR2.frozen 0
   have f1:=hR2.frozen 1
   simp only [zG,zH,zI] at d0 d1 r0 r1
   by_cases hq : k < (a : Int)
   ·have HV : Hid (R = ((a,m),true)):=Lib.hid (by rw [← HS.out,if_pos hq])
    have hbf:=(hb2.setCell (p:=⟨w.heap.size,0,none⟩) (Nat.le_refl _) (.int .i64 (a : Nat))).setCell (p:=⟨w.heap.size,1,none⟩) (Nat.le_refl _) (.bool m)
    have hRf:=(hR2.set_ 0 (.int .i64 (a : Nat))).set_ 1 (.bool m)
    have hq2 : ((a : Int) > k) = True:=eq_true hq
    go_wp2
    refine bodyPost_ret (res_nextT _ w.heap.size _ rfl rfl (by simpa using hRf)) rfl ?_
    exact ⟨by rw [HV.out];rfl,hbf⟩
   ·have HK' : Hid (nextGo k (L.drop (j+1)) = R):=Lib.hid (by rw [← HS.out,if_neg hq])
    have hq2 : ¬ ((a : Int) > k):=hq
    go_wp2
    go_roundw
    case rel=>exact ⟨j+1,by go_num,by omega,HK',hR2,ho2,hb2⟩
    case measure=>simp [intOf];omega
  ·have HV : Hid (R = ((0,false),false)):=Lib.hid (by rw [← HK.out,List.drop_eq_nil_of_le (by have:=Hn.out;omega)];rfl)
   have r0:=hR.cell 0
   have r1:=hR.cell 1
   have f0:=hR.frozen 0
   have f1:=hR.frozen 1
   simp only [zG,zH,zI] at r0 r1
   have hRf:=(hR.set_ 0 (.int .i64 (0 : Nat))).set_ 1 (.bool false)
   have hbf:=(hb.setCell (p:=⟨w.heap.size,0,none⟩) (Nat.le_refl _) (.int .i64 (0 : Nat))).setCell (p:=⟨w.heap.size,1,none⟩) (Nat.le_refl _) (.bool false)
   go_wp2
   refine bodyPost_ret (res_nextT _ w.heap.size _ rfl rfl (by simpa using hRf)) rfl ?_
   exact ⟨by rw [HV.out];rfl,hbf⟩
end
section
open Go.RowKit
theorem yLineMoves_any (s : ByteArray) (x : Int) (w : World) (hE : Env w) (hs : s.size≤140737488355328) :
  Calls Tryz.prog 5 #[.string s,.int .i64 x] w fun e w'=>e = .returned (.bool true)∧Below w.heap.size w w':=by
 have HLv:=Lib.hid (fun W (h : Env W)=>ylive_any W h)
 by_cases h1 : 60 < s.size
 ·have g1 : (60 : Int) < (s.size : Int):=by omega
  go_enter Tryz.func5,Tryz.ntmps5
  go_wp2_with fail
  refine (HLv.out _ hE).mono ?_
  rintro e w1 ⟨rfl,hb⟩
  go_wp2
  go_ret
  exact ⟨rfl,hb⟩
 have g1 : ¬ (60 : Int) < (s.size : Int):=by omega
 have hsz : s.size≤60:=by omega
 have H1:=Lib.hid (fun W (h : Env W)=>tNext_any s x W h (by omega))
 have H2:=Lib.hid (fun W=>xNext_any s x W (by omega))
 have H3:=Lib.hid (fun W (h : Env W)=>tPrev_any s x W h (by omega))
 have H4:=Lib.hid (fun W=>xPrev_any s x W (by omega))
 have H5:=Lib.hid (fun W (h : Env W)=>tKind_any s x W h (by omega))
 have H6:=Lib.hid (fun W=>xKind_any s x W (by omega))
 obtain ⟨⟨⟨na,nm⟩,nb⟩,Hn⟩ : ∃ z,Hid (nextGo x (lChances gL s) = z):=⟨_,Lib.hid rfl⟩
 obtain ⟨⟨⟨pa,pm⟩,pb⟩,Hp⟩ : ∃ z,Hid (prevGo x (lChances gL s) ((0,false),false) = z):=⟨_,Lib.hid rfl⟩
 obtain ⟨kk,Hk⟩ : ∃ z,Hid (kinP (lChances gL s) x = z):=⟨_,Lib.hid rfl⟩
 simp only [Hn.out] at H1 H2
 simp only [Hp.out] at H3 H4
 rw [Hk.out] at H5 H6
 have hg:=guardC
 have hq1:=fun W=>eqlC (na : Nat) nm W
 have hq2:=fun W=>eqlC (pa : Nat) pm W
 clear h1 hs Hn Hp Hk
 go_enter Tryz.func5,Tryz.ntmps5
 go_wp2_with fail
 refine (H1.out w hE).mono ?_
 rintro e w1 ⟨rfl,hb1⟩
 go_wp2_with fail
 have hbc1:=hb1
 clear hb1
 have BN1:=Blk.new w1 40 #[.int .i64 (na : Nat),.bool nm]
 have hal1 : Below w1.heap.size w1 (w1.alloc (.cells #[.int .i64 (na : Nat),.bool nm] 40)):=(Below.refl _ _).alloc (Nat.le_refl _) _
 have hc1:=below_two hbc1 hal1
 generalize w1.alloc (.cells #[.int .i64 (na : Nat),.bool nm] 40) = v1 at BN1 hal1 hc1 ⊢
 refine (H2.out v1).mono ?_
 rintro e w2 ⟨rfl,hb2⟩
 have hbc2:=below_two hc1 hb2
 have B1:=BN1.below hb2
 clear hb2 hal1 hbc1 hc1 BN1
 go_wp2_with fail
 have BN2:=Blk.new w2 40 #[.int .i64 (na : Nat),.bool nm]
 have hal2 : Below w2.heap.size w2 (w2.alloc (.cells #[.int .i64 (na : Nat),.bool nm] 40)):=(Below.refl _ _).alloc (Nat.le_refl _) _
 have hc2:=below_two hbc2 hal2
 have B1n:=B1.alloc (.cells #[.int .i64 (na : Nat),.bool nm] 40)
 generalize w2.alloc (.cells #[.int .i64 (na : Nat),.bool nm] 40) = v2 at BN2 hal2 hc2 B1n ⊢
 refine (H3.out v2 (hE.below hc2)).mono ?_
 rintro e w3 ⟨rfl,hb3⟩
 have hbc3:=below_two hc2 hb3
 have B1:=B1n.below hb3
 have B2:=BN2.below hb3
 clear hb3 hal2 hbc2 hc2 BN2 B1n
 go_wp2_with fail
 have BN3:=Blk.new w3 40 #[.int .i64 (pa : Nat),.bool pm]
 have hal3 : Below w3.heap.size w3 (w3.alloc (.cells #[.int .i64 (pa : Nat),.bool pm] 40)):=(Below.refl _ _).alloc (Nat.le_refl _) _
 have hc3:=below_two hbc3 hal3
 have B1n:=B1.alloc (.cells #[.int .i64 (pa : Nat),.bool pm] 40)
 have B2n:=B2.alloc (.cells #[.int .i64 (pa : Nat),.bool pm] 40)
 generalize w3.alloc (.cells #[.int .i64 (pa : Nat),.bool pm] 40) = v3 at BN3 hal3 hc3 B1n B2n ⊢
 refine (H4.out v3).mono ?_
 rintro e w4 ⟨rfl,hb4⟩
 have hbc4:=below_two hc3 hb4
 have B1:=B1n.below hb4
 have B2:=B2n.below hb4
 have B3:=BN3.below hb4
 clear hb4 hal3 hbc3 hc3 BN3 B1n B2n
 go_wp2_with fail
 have BN4:=Blk.new w4 40 #[.int .i64 (pa : Nat),.bool pm]
 have hal4 : Below w4.heap.size w4 (w4.alloc (.cells #[.int .i64 (pa : Nat),.bool pm] 40)):=(Below.refl _ _).alloc (Nat.le_refl _) _
 have hc4:=below_two hbc4 hal4
 have B1n:=B1.alloc (.cells #[.int .i64 (pa : Nat),.bool pm] 40)
 have B2n:=B2.alloc (.cells #[.int .i64 (pa : Nat),.bool pm] 40)
 have B3n:=B3.alloc (.cells #[.int .i64 (pa : Nat),.bool pm] 40)
 generalize w4.alloc (.cells #[.int .i64 (pa : Nat),.bool pm] 40) = v4 at BN4 hal4 hc4 B1n B2n B3n ⊢
 refine (H5.out v4 (hE.below hc4)).mono ?_
 rintro e w5 ⟨rfl,hb5⟩
 have hc5:=below_two hc4 hb5
 go_wp2_with fail
 refine (H6.out w5).mono ?_
 rintro e w6 ⟨rfl,hb6⟩
 have hc6:=below_two hc5 hb6
 have D1:=(B1n.below hb5).below hb6
 have D2:=(B2n.below hb5).below hb6
 have D3:=(B3n.below hb5).below hb6
 have D4:=(BN4.below hb5).below hb6
 have d10:=D1.cell 0
 have d11:=D1.cell 1
 have d20:=D2.cell 0
 have d21:=D2.cell 1
 have d30:=D3.cell 0
 have d31:=D3.cell 1
 have d40:=D4.cell 0
 have d41:=D4.cell 1
 simp only [zG,zH,zI] at d10 d11 d20 d21 d30 d31 d40 d41
 clear hb5 hb6 B1n B2n B3n BN4 D1 D2 D3 D4 hc4 hal4 hbc4
 have H7:=Lib.hid (HLv.out w6 (hE.below hc6))
 go_wp2_with fail
 refine H7.out.mono ?_
 rintro e w7 ⟨rfl,hb7⟩
 go_wp2
 go_ret
 exact ⟨rfl,below_two hc6 hb7⟩
end
end Go.Proofs.YtglmcknlnoknoaaGreatDoor
