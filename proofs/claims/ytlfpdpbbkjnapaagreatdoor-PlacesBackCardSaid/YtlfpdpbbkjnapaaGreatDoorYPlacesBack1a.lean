/-
 Several texts in one,in their build order: Gd,PlcA,PlcA2,PlcA3,Gh.
-/
import Derived.Deep.CutRange
import Derived.Deep.RegionHeld3
import Derived.Deep.LoopGhost
import Derived.Test.YtlfpdpbbkjnapaaGreatDoorYPlacesBackGb
import Derived.Test.YtlfpdpbbkjnapaaGreatDoorYPlacesBack0a
import Derived.Test.YtlfpdpbbkjnapaaGreatDoorPShelf
import Derived.Test.YtlfpdpbbkjnapaaGreatDoorPRdr
import Derived.Test.YtlfpdpbbkjnapaaGreatDoorP0a
/- -/
namespace Go.Proofs.YtlfpdpbbkjnapaaGreatDoor
set_option maxRecDepth 100000
set_option maxHeartbeats 40000000
section
open Go.RowKit
end
section
open Go.RowKit
theorem below_own {w : World} {A : Option Addr} {n c : Nat} {L : List Nat} (x : Int) (rd : Rd w 1 A (L.map encN)) (hn : L.length = n) (hr : L.Pairwise (· < ·)) (hz : n≤4000000) :
  Calls Tryz.prog 85 #[.slice A n c,.int .i64 x] w fun e w'=>(∃ q : Bool,e = .returned (.tuple #[.int .i64 (belowP L x : Nat),.bool q]))∧Below w.heap.size w w':=by
 cases L with
 | nil =>
  obtain rfl : 0 = n:=hn
  refine (Tryz.slices_BinarySearch_int_empty A c x w).mono ?_
  rintro e w' ⟨rfl,rfl⟩
  exact ⟨⟨false,rfl⟩,Below.refl _ _⟩
 | cons a r =>
  obtain ⟨b,off,rfl,hc⟩:=rd (by simp)
  refine (Tryz.slices_BinarySearch_int b off n c ((a :: r).map fun (a : Nat)=>(a : Int)) x w (by simp at hn ⊢;omega) (by omega) (fun j hj=>?_) ?_).mono ?_
  ·rw [List.length_map] at hj
   have hx:=List.getElem?_eq_getElem hj
   have:=hc j 0 (encN (a :: r)[j]) (.int .i64 ((a :: r)[j] : Nat)) (by rw [List.getElem?_map,hx];rfl) rfl
   rw [List.getD_eq_getElem?_getD,List.getElem?_map,hx]
   simpa using this
  ·refine List.Pairwise.sublist (List.take_sublist _ _) ?_
   rw [List.pairwise_map]
   exact hr.imp fun h=>by omega
  ·rintro e w' ⟨rfl,q,rfl⟩
   rw [List.take_of_length_le (by rw [List.length_map];omega)]
   refine ⟨⟨_,congrArg (fun v=>Ending.returned (.tuple #[.int .i64 v,.bool _])) ?_⟩,below_refl_drewN w q⟩
   unfold belowP
   rw [List.countP_map,List.countP_eq_length_filter]
   rfl
theorem qbelow_any (A : Option Addr) (n c : Nat) (L : List Nat) (x : Int) (w : World) (rd : Rd w 1 A (L.map encN)) (hn : L.length = n) (hr : L.Pairwise (· < ·)) (hz : n≤4000000) :
  Calls Tryz.prog 55 #[.slice A n c,.int .i64 x] w fun e w'=>e = .returned (.int .i64 (belowP L x : Nat))∧Below w.heap.size w w':=by
 have H:=Lib.hid (below_own (c:=c) x rd hn hr hz)
 generalize belowP L x = v at H ⊢
 clear rd hn hr
 go_enter Tryz.func55,Tryz.ntmps55
 go_wp2_with fail
 refine H.out.mono ?_
 rintro e w1 ⟨⟨q,rfl⟩,hb1⟩
 go_wp2
 go_ret
 exact ⟨rfl,hb1⟩
theorem qText_any (p : Nat) (s : ByteArray) (w : World) (h : IdxAt w p s) : Calls Tryz.prog 27 #[.pointer (some ⟨p,0,none⟩)] w fun e w'=>e = .returned (.string s)∧w = w':=by
 obtain ⟨base,bm,n,A,c,h1,_⟩:=h
 have c0:=h1.cell 0
 simp only [zG,zH] at c0
 clear h1
 go_enter Tryz.func27,Tryz.ntmps27
 go_wp2
 go_ret
 exact ⟨rfl,rfl⟩
theorem qthings_any (p : Nat) (s : ByteArray) (b : Int) (w : World) (h : IdxAt w p s) (hk : (Lit.int .i64 b).wf = true) :
  Calls Tryz.prog 54 #[.pointer (some ⟨p,0,none⟩),.int .i64 b] w fun e w'=>∃ B c,e = .returned (.slice B (begP s b).length c)∧Rd w 1 B ((begP s b).map encN)∧w = w':=by
 obtain ⟨bm,B,c,c1,hrun,hrd⟩:=h.things Tryz.underlying89 (Tryz.zeroValue65 w) hk
 have HR:=Lib.hid hrd
 generalize (begP s b).length = m at hrun ⊢
 clear hrd h
 go_enter Tryz.func54,Tryz.ntmps54
 go_wp2
 go_ret
 exact ⟨B,c,rfl,HR.out,rfl⟩
theorem beg_len (s : ByteArray) (b : Int) : (begP s b).length≤2*s.size+1:=by
 unfold begP
 split
 ·unfold unitsP
  have h : ∀ R : List (Nat × Nat × Nat),(R.flatMap fun x=>if 65535 < x.1 then [x.2.1,x.2.1+1] else [x.2.1]).length≤2*R.length:=fun R=>by
   induction R with
   | nil=>simp
   | cons x R ih =>
    rw [List.flatMap_cons,List.length_append,List.length_cons]
    have : (if 65535 < x.1 then [x.2.1,x.2.1+1] else [x.2.1] : List Nat).length≤2:=by split <;> simp
    omega
  have h1:=h (runesP s)
  have:=runesP_len s
  omega
 split
 ·unfold startsP;rw [List.length_map];have:=runesP_len s;omega
 split
 ·rw [List.length_range];omega
 split
 ·unfold letS;rw [List.length_dropLast];have:=bounds_len s;omega
 ·simp
theorem qLen_any (p : Nat) (s : ByteArray) (b : Int) (w : World) (h : IdxAt w p s) (hk : (Lit.int .i64 b).wf = true) :
  Calls Tryz.prog 15 #[.pointer (some ⟨p,0,none⟩),.int .i64 b] w fun e w'=>e = .returned (.int .i64 ((begP s b).length : Nat))∧w = w':=by
 have H:=Lib.hid (qthings_any p s b w h hk)
 generalize begP s b = L at H ⊢
 generalize L.length = m at H ⊢
 clear h hk
 go_enter Tryz.func15,Tryz.ntmps15
 go_wp2_with fail
 refine H.out.mono ?_
 rintro e w1 ⟨B,c,rfl,_,rfl⟩
 go_wp2
 go_ret
 exact ⟨rfl,rfl⟩
theorem qTo_any (p : Nat) (s : ByteArray) (b x : Int) (w : World) (h : IdxAt w p s) (hk : (Lit.int .i64 b).wf = true) (hs : s.size≤1000000) :
  Calls Tryz.prog 16 #[.pointer (some ⟨p,0,none⟩),.int .i64 b,.int .i64 x] w fun e w'=>e = .returned (.int .i64 (toP s b x : Nat))∧Below w.heap.size w w':=by
 have H:=Lib.hid (qthings_any p s b w h hk)
 have hl:=beg_len s b
 have HR:=Lib.hid (beg_rise s b)
 unfold toP
 generalize begP s b = L at H HR hl ⊢
 clear h hk
 go_enter Tryz.func16,Tryz.ntmps16
 go_wp2_with fail
 refine H.out.mono ?_
 rintro e w1 ⟨B,c,rfl,rd,rfl⟩
 have H2:=Lib.hid (qbelow_any B L.length c L x w rd rfl HR.out (by omega))
 obtain ⟨v,Hv⟩ : ∃ v,Hid (belowP L x = v):=⟨_,Lib.hid rfl⟩
 rw [Hv.out] at H2
 clear rd
 go_wp2_with fail
 refine H2.out.mono ?_
 rintro e w2 ⟨rfl,hb⟩
 go_wp2
 go_ret
 exact ⟨by rw [Hv.out];rfl,hb⟩
theorem qFrom_any (p : Nat) (s : ByteArray) (b x : Int) (w : World) (h : IdxAt w p s) (hk : (Lit.int .i64 b).wf = true) :
  Calls Tryz.prog 17 #[.pointer (some ⟨p,0,none⟩),.int .i64 b,.int .i64 x] w fun e w'=>e = .returned (.int .i64 (fromQ s b x : Nat))∧w = w':=by
 by_cases h0 : x < 0
 ·have HV : Hid (fromQ s b x = 0):=Lib.hid (if_pos h0)
  go_enter Tryz.func17,Tryz.ntmps17
  go_wp2
  go_ret
  exact ⟨by rw [HV.out];rfl,rfl⟩
 have H:=Lib.hid (qthings_any p s b w h hk)
 have HT:=Lib.hid (qText_any p s w h)
 have HV : Hid (fromQ s b x = if ((begP s b).length : Int)≤x then s.size else (begP s b).getD x.toNat 0):=Lib.hid (if_neg h0)
 generalize begP s b = L at H HV
 clear h hk
 by_cases h1 : x < (L.length : Int)
 ·obtain ⟨k,rfl⟩ : ∃ k : Nat,x = k:=⟨x.toNat,by omega⟩
  have hkl : k < L.length:=by omega
  obtain ⟨y,Hy⟩ : ∃ y,Hid (L[k]? = some y):=⟨_,Lib.hid (List.getElem?_eq_getElem hkl)⟩
  rw [if_neg (by omega),Int.toNat_natCast,List.getD_eq_getElem?_getD,Hy.out] at HV
  generalize hm : L.length = m at H h1 hkl
  clear hm
  go_enter Tryz.func17,Tryz.ntmps17
  go_wp2_with fail
  refine H.out.mono ?_
  rintro e w1 ⟨B,c,rfl,rd,rfl⟩
  obtain ⟨bk,off,rfl,cy⟩:=rd.atP' Hy.out
  clear rd
  go_wp2
  go_ret
  exact ⟨by rw [HV.out];rfl,rfl⟩
 ·rw [if_pos (by omega)] at HV
  generalize L.length = m at H h1
  go_enter Tryz.func17,Tryz.ntmps17
  go_wp2_with fail
  refine H.out.mono ?_
  rintro e w1 ⟨B,c,rfl,rd,rfl⟩
  clear rd
  go_wp2_with fail
  refine HT.out.mono ?_
  rintro e w1 ⟨rfl,rfl⟩
  go_wp2
  go_ret
  exact ⟨by rw [HV.out];rfl,rfl⟩
theorem qLinesN_any (p : Nat) (s : ByteArray) (w : World) (h : IdxAt w p s) : Calls Tryz.prog 18 #[.pointer (some ⟨p,0,none⟩)] w fun e w'=>e = .returned (.int .i64 ((lnP s).length : Nat))∧w = w':=by
 obtain ⟨base,bm,n,A,c,h1,_⟩:=h
 have c2:=h1.cell 2
 simp only [zG,zH,zI] at c2
 generalize (lnP s).length = m at c2 ⊢
 clear h1
 go_enter Tryz.func18,Tryz.ntmps18
 go_wp2
 go_ret
 exact ⟨rfl,rfl⟩
def lnAt (s : ByteArray) (k : Int) : Nat × Nat × Nat:=if k < 0∨((lnP s).length : Int)≤k then (0,0,0) else lineQ s k.toNat
theorem qLine_any (p : Nat) (s : ByteArray) (k : Int) (w : World) (h : IdxAt w p s) :
  Calls Tryz.prog 19 #[.pointer (some ⟨p,0,none⟩),.int .i64 k] w fun e w'=>e = .returned (.tuple #[.int .i64 ((lnAt s k).1 : Nat),.int .i64 ((lnAt s k).2.1 : Nat),.int .i64 ((lnAt s k).2.2 : Nat)])∧Below w.heap.size w w':=by
 have HN:=Lib.hid (qLinesN_any p s w h)
 by_cases h0 : k < 0
 ·have HV : Hid (lnAt s k = (0,0,0)):=Lib.hid (if_pos (.inl h0))
  clear h
  go_enter Tryz.func19,Tryz.ntmps19
  go_wp2
  go_ret3
  exact ⟨by rw [HV.out];rfl,Below.refl _ _⟩
 by_cases h1 : ((lnP s).length : Int)≤k
 ·have HV : Hid (lnAt s k = (0,0,0)):=Lib.hid (if_pos (.inr h1))
  have h2 : k ≥ ((lnP s).length : Int):=h1
  generalize (lnP s).length = m at HN h1 h2
  clear h
  go_enter Tryz.func19,Tryz.ntmps19
  go_wp2_with fail
  refine HN.out.mono ?_
  rintro e w1 ⟨rfl,rfl⟩
  go_wp2
  go_ret3
  exact ⟨by rw [HV.out];rfl,Below.refl _ _⟩
 have HV : Hid (lnAt s k = lineQ s k.toNat):=Lib.hid (if_neg (by omega))
 obtain ⟨j,rfl⟩ : ∃ j : Nat,k = j:=⟨k.toNat,by omega⟩
 rw [Int.toNat_natCast] at HV
 obtain ⟨base,bm,n,A,c,hb1,_,_,hl⟩:=h
 have hjl : j < (lnP s).length:=by omega
 obtain ⟨⟨a,b,z⟩,hx⟩ : ∃ x,(lnP s)[j]? = some x:=⟨_,List.getElem?_eq_getElem hjl⟩
 obtain ⟨g,off,B,d,rfl,x0,x1,x2,x3,_⟩:=hl.at_ hx
 have HX : Hid (lineQ s j = (a,b,z)):=Lib.hid (by unfold lineQ;rw [List.getD_eq_getElem?_getD,hx];rfl)
 have c2:=hb1.cell 2
 simp only [zG,zH,zI] at c2
 simp only at x0 x1 x2
 generalize (lnP s).length = m at HN h1 c2 hjl
 generalize (letAbs s (a,b,z)).length = lz at x3
 clear hb1 hl hx
 have h3 : ¬ ((j : Int) ≥ (m : Int)):=by omega
 have h4 : (j : Int) < (m : Int):=by omega
 have h5 : (0 : Int)≤(j : Int):=by omega
 go_enter Tryz.func19,Tryz.ntmps19
 go_wp2_with fail
 refine HN.out.mono ?_
 rintro e w1 ⟨rfl,rfl⟩
 go_wp2_with fail
 go_quiet (fail)
 go_wp2
 go_ret3
 exact ⟨by rw [HV.out,HX.out];rfl,below_drewN ((Below.refl _ _).alloc (Nat.le_refl _) _) _⟩
end
section
open Go.RowKit
theorem res_point (w : World) (b : Nat) (tmps : Array Value) (ht : tmps.getD 4 undef = .pointer (some ⟨b,0,none⟩)) {x y : Int} (hc : Blk w b 32 #[.int .i64 x,.int .i64 y]) : (results Tryz.f21 tmps).run Tryz.prog w = .ok (.agg #[.int .i64 x,.int .i64 y]) w:=by
 have ht' : tmps[4]?.getD undef = .pointer (some ⟨b,0,none⟩):=by simpa [Array.getD_eq_getD_getElem?] using ht
 have h0:=hc.cell 0
 have h1:=hc.cell 1
 simp only [zG,zH,zI] at h0 h1
 simp [results,Tryz.results21,go_sem,ht',h0,h1]
theorem letAbs_rise (s : ByteArray) (x : Nat × Nat × Nat) : (letAbs s x).Pairwise (· < ·):=by
 unfold letAbs letQ letS
 rw [List.pairwise_map]
 exact ((bounds_rise gG _).sublist (List.dropLast_sublist _)).imp (fun h=>by omega)
theorem letAbs_len (s : ByteArray) (x : Nat × Nat × Nat) : (letAbs s x).length≤s.size+1:=by
 unfold letAbs letQ letS
 rw [List.length_map,List.length_dropLast]
 have:=bounds_len (s.extract x.1 x.2.1)
 rw [ByteArray.size_extract] at this
 omega
def RowAt (s : ByteArray) (x : Int) (i row : Nat) : Prop:=rowGo x i row ((lnP s).drop i) = rowP (lnP s) x∧row < (lnP s).length
theorem lnP_pos (s : ByteArray) : 0 < (lnP s).length:=by
 obtain ⟨x,t,e,_⟩:=tiles_first (lnP_tiles s)
 rw [e];simp
theorem rowAt_step {s : ByteArray} {x : Int} {i row : Nat} (h : RowAt s x i row) {y : Nat × Nat × Nat} (hy : (lnP s)[i]? = some y) (hle : (y.1 : Int)≤x) : RowAt s x (i+1) i:=by
 obtain ⟨h1,h2⟩:=h
 have hi:=(List.getElem?_eq_some_iff.1 hy).1
 rw [List.drop_eq_getElem_cons hi,(List.getElem?_eq_some_iff.1 hy).2,rowGo,if_pos hle] at h1
 exact ⟨h1,hi⟩
theorem rowAt_past {s : ByteArray} {x : Int} {i row : Nat} (h : RowAt s x i row) {y : Nat × Nat × Nat} (hy : (lnP s)[i]? = some y) (hle : x < (y.1 : Int)) : row = rowP (lnP s) x:=by
 obtain ⟨h1,h2⟩:=h
 have hi:=(List.getElem?_eq_some_iff.1 hy).1
 rw [rowGo_past] at h1
 ·exact h1
 ·intro u hu
  have hr:=(tiles_rise (lnP_tiles s)).sublist (List.drop_sublist i _)
  rw [List.drop_eq_getElem_cons hi,(List.getElem?_eq_some_iff.1 hy).2] at hu hr
  rcases List.mem_cons.1 hu with rfl | hu
  ·exact hle
  ·have:=(List.pairwise_cons.1 hr).1 u hu
   omega
theorem rowAt_end {s : ByteArray} {x : Int} {i row : Nat} (h : RowAt s x i row) (hi : (lnP s).length≤i) : row = rowP (lnP s) x:=by
 have h1:=h.1
 rw [List.drop_eq_nil_of_le hi] at h1
 exact h1
theorem qPoint_any (p : Nat) (s : ByteArray) (x : Int) (w : World) (h : IdxAt w p s) (hs : s.size≤1000000) :
  Calls Tryz.prog 21 #[.pointer (some ⟨p,0,none⟩),.int .i64 x] w fun e w'=>e = .returned (.agg #[.int .i64 ((pointP s x).1 : Nat),.int .i64 ((pointP s x).2 : Nat)])∧Below w.heap.size w w':=by
 have hI:=h
 obtain ⟨base,bm,n,A,c,hb1,_,_,hl⟩:=h
 have hm:=lnP_len s
 have hpos:=lnP_pos s
 have c2:=hb1.cell 2
 simp only [zG,zH,zI] at c2
 obtain ⟨m,Hm⟩ : ∃ m,Hid ((lnP s).length = m):=⟨_,Lib.hid rfl⟩
 rw [Hm.out] at c2 hm hpos
 have HL:=Lib.hid hl
 have hR0 : RowAt s x 0 0:=⟨rfl,by rw [Hm.out];exact hpos⟩
 have HR0:=Lib.hid hR0
 have hBp : Below w.heap.size w (w.alloc (.cells #[.int .i64 0,.int .i64 0] 32)):=(Below.refl _ _).alloc (Nat.le_refl _) _
 have hBk:=Blk.new w 32 #[.int .i64 0,.int .i64 0]
 have c2p:=cell_keep c2 hBp
 clear hI hb1 hl hR0
 go_enter Tryz.func21,Tryz.ntmps21
 go_wp2_with fail
 go_step3
 go_wp2_with fail
 go_step3
 go_wp2_with fail
 go_loopw [5,16] (fun u v wr=>∃ (i row : Nat),u = .int .i64 row∧v = .int .i64 i∧i≤m∧row < m∧Hid (RowAt s x i row)∧Blk wr w.heap.size 32 #[.int .i64 0,.int .i64 0]∧Below w.heap.size w wr) (fun _ v _=>m - (intOf v).toNat)
 case atStart=>exact ⟨0,0,rfl,rfl,by omega,hpos,HR0,hBk,hBp⟩
 case round =>
  obtain ⟨i,row,rfl,rfl,hi,hrow,HR,hBr,hbw⟩:=hrel
  by_cases hlt : i < m
  ·obtain ⟨⟨a,b,z⟩,Hy⟩ : ∃ y,Hid ((lnP s)[i]? = some y):=⟨_,Lib.hid (List.getElem?_eq_getElem (by rw [Hm.out];exact hlt))⟩
   have HLw:=HL.out.below hbw
   obtain ⟨g,off,B,d,eA,x0,x1,x2,x3,_⟩:=HLw.at_ Hy.out
   have HEA:=Lib.hid eA
   subst eA
   simp only at x0 x1 x2
   have hBr2:=hBr.alloc (.cells #[.int .i64 (a : Nat),.int .i64 (b : Nat),.int .i64 (z : Nat),.slice B (letAbs s (a,b,z)).length d] 101)
   have hbw2:=hbw.alloc hbw.size (.cells #[.int .i64 (a : Nat),.int .i64 (b : Nat),.int .i64 (z : Nat),.slice B (letAbs s (a,b,z)).length d] 101)
   generalize (letAbs s (a,b,z)).length = lz at x3 hBr2 hbw2
   clear HLw
   by_cases hax : (a : Int) > x
   ·have HRw : Hid (row = rowP (lnP s) x):=Lib.hid (rowAt_past HR.out Hy.out hax)
    have HV : Hid (pointP s x = (row,colP s row x)):=Lib.hid (by unfold pointP;rw [← HRw.out])
    obtain ⟨ya,Hya⟩ : ∃ y,Hid ((lnP s)[row]? = some y):=⟨_,Lib.hid (List.getElem?_eq_getElem (by rw [Hm.out];exact hrow))⟩
    have cp2:=cell_keep c2 hbw2
    have HLw:=HL.out.below hbw2
    obtain ⟨g2,off2,B2,d2,eA2,_,_,_,z3,rdB⟩:=HLw.at_ Hya.out
    injection eA2 with eA2
    injection eA2 with eA2 eA3
    subst eA2 eA3
    have HC:=Lib.hid (qbelow_any B2 (letAbs s ya).length d2 (letAbs s ya) x _ rdB rfl (letAbs_rise s ya) (by have:=letAbs_len s ya;omega))
    have HCv : Hid (belowP (letAbs s ya) x = colP s row x):=Lib.hid (by unfold colP letAbs;rw [below_abs,(line_in Hya.out).1])
    obtain ⟨col,Hcol⟩ : ∃ z,Hid (colP s row x = z):=⟨_,Lib.hid rfl⟩
    rw [HCv.out,Hcol.out] at HC
    rw [Hcol.out] at HV
    generalize (letAbs s ya).length = lz2 at z3 HC
    have hr0 : (0 : Int)≤(row : Int):=by omega
    have hrm : (row : Int) < (m : Int):=by omega
    clear rdB HLw
    go_wp2_with fail
    refine HC.out.mono ?_
    rintro e wz ⟨rfl,hbz⟩
    have hBz:=(hBr2).below hbz
    have hbz2:=below_two hbw2 hbz
    have f0:=hBz.frozen 0
    have f1:=hBz.frozen 1
    have k0:=hBz.cell 0
    have k1:=hBz.cell 1
    simp only [zG,zH,zI] at k0 k1
    go_wp2_with fail
    have hB3:=(hBz.set_ 0 (.int .i64 (row : Nat))).set_ 1 (.int .i64 (col : Nat))
    simp only [Exit.noGoto_ret];refine bodyPost_ret (res_point _ w.heap.size _ rfl hB3) rfl ?_
    exact ⟨by rw [HV.out],(hbz2.setCell (p:=⟨w.heap.size,0,none⟩) (Nat.le_refl _) _).setCell (p:=⟨w.heap.size,1,none⟩) (Nat.le_refl _) _⟩
   ·have HN : Hid (RowAt s x (i+1) i):=Lib.hid (rowAt_step HR.out Hy.out (by simp only;omega))
    go_wp2
    go_roundw
    case rel=>exact ⟨i+1,i,rfl,by go_num,by omega,hlt,HN,hBr2,hbw2⟩
    case measure=>simp [intOf];omega
  ·have HRw : Hid (row = rowP (lnP s) x):=Lib.hid (rowAt_end HR.out (by rw [Hm.out];omega))
   have HV : Hid (pointP s x = (row,colP s row x)):=Lib.hid (by unfold pointP;rw [← HRw.out])
   obtain ⟨ya,Hya⟩ : ∃ y,Hid ((lnP s)[row]? = some y):=⟨_,Lib.hid (List.getElem?_eq_getElem (by rw [Hm.out];exact hrow))⟩
   have cp2:=cell_keep c2 hbw
   have HLw:=HL.out.below hbw
   obtain ⟨g2,off2,B2,d2,eA2,_,_,_,z3,rdB⟩:=HLw.at_ Hya.out
   subst eA2
   have HC:=Lib.hid (qbelow_any B2 (letAbs s ya).length d2 (letAbs s ya) x _ rdB rfl (letAbs_rise s ya) (by have:=letAbs_len s ya;omega))
   have HCv : Hid (belowP (letAbs s ya) x = colP s row x):=Lib.hid (by unfold colP letAbs;rw [below_abs,(line_in Hya.out).1])
   obtain ⟨col,Hcol⟩ : ∃ z,Hid (colP s row x = z):=⟨_,Lib.hid rfl⟩
   rw [HCv.out,Hcol.out] at HC
   rw [Hcol.out] at HV
   generalize (letAbs s ya).length = lz2 at z3 HC
   have hr0 : (0 : Int)≤(row : Int):=by omega
   have hrm : (row : Int) < (m : Int):=by omega
   clear rdB HLw
   go_wp2_with fail
   refine HC.out.mono ?_
   rintro e wz ⟨rfl,hbz⟩
   have hBz:=(hBr).below hbz
   have hbz2:=below_two hbw hbz
   have f0:=hBz.frozen 0
   have f1:=hBz.frozen 1
   have k0:=hBz.cell 0
   have k1:=hBz.cell 1
   simp only [zG,zH,zI] at k0 k1
   go_wp2_with fail
   have hB3:=(hBz.set_ 0 (.int .i64 (row : Nat))).set_ 1 (.int .i64 (col : Nat))
   simp only [Exit.noGoto_ret];refine bodyPost_ret (res_point _ w.heap.size _ rfl hB3) rfl ?_
   exact ⟨by rw [HV.out],(hbz2.setCell (p:=⟨w.heap.size,0,none⟩) (Nat.le_refl _) _).setCell (p:=⟨w.heap.size,1,none⟩) (Nat.le_refl _) _⟩
end
section
open Go.RowKit
theorem cell_allocQ {w : World} {p : Addr} {u : Value} (h : w.cell? p = some u) (o : Obj) : (w.alloc o).cell? p = some u:=cell_keep h ((Below.refl _ _).alloc (Nat.le_refl _) o)
theorem qAt_any (p : Nat) (s : ByteArray) (r c : Int) (w : World) (h : IdxAt w p s) :
  Calls Tryz.prog 20 #[.pointer (some ⟨p,0,none⟩),.agg #[.int .i64 r,.int .i64 c]] w fun e w'=>e = .returned (.int .i64 (atP s r c : Nat))∧Below w.heap.size w w':=by
 have hBx:=Blk.new w 32 #[.int .i64 r,.int .i64 c]
 have hb0 : Below w.heap.size w (w.alloc (.cells #[.int .i64 r,.int .i64 c] 32)):=(Below.refl _ _).alloc (Nat.le_refl _) _
 have hI:=h.below hb0
 have k0:=hBx.cell 0
 have k1:=hBx.cell 1
 simp only [zG,zH,zI] at k0 k1
 have HN:=Lib.hid (fun U (hU : IdxAt U p s)=>qLinesN_any p s U hU)
 have HT:=Lib.hid (fun U (hU : IdxAt U p s)=>qText_any p s U hU)
 have HI:=Lib.hid hI
 by_cases h0 : r < 0
 ·have HV : Hid (atP s r c = 0):=Lib.hid (if_pos h0)
  clear h hI
  go_enter Tryz.func20,Tryz.ntmps20
  go_wp2
  go_ret
  exact ⟨by rw [HV.out];rfl,hb0⟩
 by_cases h1 : ((lnP s).length : Int)≤r
 ·have HV : Hid (atP s r c = s.size):=Lib.hid ((if_neg h0).trans (if_pos h1))
  have h2 : r ≥ ((lnP s).length : Int):=h1
  replace HN:=Lib.hid (HN.out _ (HI.out.below (Below.refl _ _).drew))
  replace HT:=Lib.hid (HT.out _ (HI.out.below (below_refl_drewN _ 1)))
  have hb1:=below_drewN hb0 1
  generalize (lnP s).length = m at HN h1 h2
  clear h hI HI
  go_enter Tryz.func20,Tryz.ntmps20
  go_wp2_with fail
  go_region_held3 (fun V=>V.cell? ⟨w.heap.size,0,none⟩ = some (.int .i64 r)) (exact k0) (first | (go_at_call 18;refine HN.out.mono ?_;rintro e wz ⟨rfl,rfl⟩))
  go_wp2_with fail
  refine HT.out.mono ?_
  rintro e wz ⟨rfl,rfl⟩
  go_wp2
  go_ret
  exact ⟨by rw [HV.out];rfl,hb1⟩
 have HV0 : Hid (atP s r c = (lineQ s r.toNat).1+pickP (letQ s (lineQ s r.toNat)) c ((lineQ s r.toNat).2.1 - (lineQ s r.toNat).1)):=Lib.hid ((if_neg h0).trans (if_neg h1))
 obtain ⟨j,rfl⟩ : ∃ j : Nat,r = j:=⟨r.toNat,by omega⟩
 rw [Int.toNat_natCast] at HV0
 have hjl : j < (lnP s).length:=by omega
 obtain ⟨⟨a,b,z⟩,hx⟩ : ∃ x,(lnP s)[j]? = some x:=⟨_,List.getElem?_eq_getElem hjl⟩
 obtain ⟨hlq,hab,_⟩:=line_in hx
 rw [hlq] at HV0
 simp only at hab HV0
 have hI2:=HI.out.below (Below.refl _ _).drew
 obtain ⟨base,bm,n,A,cc,hb1,_,_,hl⟩:=hI2
 obtain ⟨g,off,B,d,rfl,x0,x1,x2,x3,rdB⟩:=hl.at_ hx
 have c2:=hb1.cell 2
 simp only [zG,zH,zI] at c2
 simp only at x0 x1 x2 x3
 replace HN:=Lib.hid (HN.out _ (HI.out.below (Below.refl _ _).drew))
 generalize (lnP s).length = m at HN h1 c2 hjl
 obtain ⟨lz,Hlz⟩ : ∃ z',Hid ((letAbs s (a,b,z)).length = z'):=⟨_,Lib.hid rfl⟩
 rw [Hlz.out] at x3
 have HRd:=Lib.hid rdB
 have h3 : ¬ ((j : Int) ≥ (m : Int)):=by omega
 have h4 : (j : Int) < (m : Int):=by omega
 have h5 : (0 : Int)≤(j : Int):=by omega
 clear h hI HI HT hl hb1 rdB hx hlq
 go_enter Tryz.func20,Tryz.ntmps20
 go_wp2_with fail
 go_region_held3 (fun V=>V.cell? ⟨w.heap.size,0,none⟩ = some (.int .i64 (j : Nat))) (exact k0) (first | (go_at_call 18;refine HN.out.mono ?_;rintro e wz ⟨rfl,rfl⟩))
 go_wp2_with fail
 refine wp_region_last (S:=fun U=>U.cell? ⟨p,2,none⟩ = some (.slice (some ⟨g,off,none⟩) m cc)∧U.cell? ⟨w.heap.size,0,none⟩ = some (.int .i64 (j : Nat))∧U.cell? ⟨g,off+j*4,none⟩ = some (.int .i64 (a : Nat))∧U.cell? ⟨g,off+j*4+1,none⟩ = some (.int .i64 (b : Nat))∧U.cell? ⟨g,off+j*4+2,none⟩ = some (.int .i64 (z : Nat))∧U.cell? ⟨g,off+j*4+3,none⟩ = some (.slice B lz d)) 9 rfl (by kernel_rfl) (by kernel_rfl) (by kernel_rfl) ⟨c2,k0,x0,x1,x2,x3⟩ (fun hHeld=>?_)
 simp only [List.dropLast_cons_cons,List.dropLast_singleton]
 refine tkH (i:=0) (v:=?_) rfl ?_ ?_;rotate_left;focus ((intro w hSw;(try dsimp only at hSw);go_simp);try with_reducible rfl)
 (try simp only [Act.put,zA,zC,zD,zE,zF])
 refine tkH (i:=1) (v:=?_) rfl ?_ ?_;rotate_left;focus ((intro w hSw;(try dsimp only at hSw);go_simp);try with_reducible rfl)
 (try simp only [Act.put,zA,zB,zC,zD,zE,zF])
 refine tkH (i:=2) (v:=?_) rfl ?_ ?_;rotate_left;focus ((intro w hSw;(try dsimp only at hSw);go_simp);try with_reducible rfl)
 (try simp only [Act.put,zA,zB,zC,zD,zE,zF])
 refine tkH (i:=3) (v:=?_) rfl ?_ ?_;rotate_left;focus ((intro w hSw;(try dsimp only at hSw);go_simp);try with_reducible rfl)
 (try simp only [Act.put,zA,zB,zC,zD,zE,zF])
 refine tkH (i:=4) (v:=?_) rfl ?_ ?_;rotate_left;focus ((intro w hSw;(try dsimp only at hSw);go_simp);try with_reducible rfl)
 (try simp only [Act.put,zA,zB,zC,zD,zE,zF])
 refine tkH (i:=5) (v:=?_) rfl ?_ ?_;rotate_left;focus ((intro w hSw;(try dsimp only at hSw);go_simp);try with_reducible rfl)
 (try simp only [Act.put,zA,zB,zC,zD,zE,zF])
 refine tkH (i:=6) (v:=?_) rfl ?_ ?_;rotate_left;focus ((intro w hSw;(try dsimp only at hSw);go_simp);try with_reducible rfl)
 (try simp only [Act.put,zA,zB,zC,zD,zE,zF])
 refine tkH (i:=7) (v:=?_) rfl ?_ ?_;rotate_left;focus ((intro w hSw;(try dsimp only at hSw);go_simp);try with_reducible rfl)
 (try simp only [Act.put,zA,zB,zC,zD,zE,zF])
 refine wpAnyH_ready (rs:=[8]) (by kernel_rfl) (by simp) ?_
 refine AllReadyH.cons rfl (fun K hK=>?_) AllReadyH.nil
 go_simp
 refine hK.out _ _ ⟨cell_allocQ c2 _,cell_allocQ k0 _,cell_allocQ x0 _,cell_allocQ x1 _,cell_allocQ x2 _,cell_allocQ x3 _⟩ (fun hHeld=>?_)
 clear hK K
 (try simp only [Act.put,zA,zB,zC,zD,zE,zF])
 refine wpAnyH_done (by kernel_rfl) ?_ _
 refine tailQ_end (wpOp_step (i:=9) rfl (fun K hK=>?_))
 go_simp
 refine hK _ _ ?_
 clear hK K
 have hz0 : (w.alloc (.cells #[.int .i64 (j : Nat),.int .i64 c] 32)).heap.size = w.heap.size+1:=World.size_alloc _ _
 have hB5:=Blk.new (w.alloc (.cells #[.int .i64 (j : Nat),.int .i64 c] 32)) 101 #[.int .i64 (a : Nat),.int .i64 (b : Nat),.int .i64 (z : Nat),.slice B lz d]
 rw [hz0] at hB5
 have hb5 : Below w.heap.size w (((w.alloc (.cells #[.int .i64 (j : Nat),.int .i64 c] 32)).alloc (.cells #[.int .i64 (a : Nat),.int .i64 (b : Nat),.int .i64 (z : Nat),.slice B lz d] 101)).drew.drew):=((hb0.alloc (by omega) _).drew).drew
 have e0:=hB5.cell 0
 have e1:=hB5.cell 1
 have e3:=hB5.cell 3
 have f1:=cell_allocQ k1 (.cells #[.int .i64 (a : Nat),.int .i64 (b : Nat),.int .i64 (z : Nat),.slice B lz d] 101)
 have HRd5 : Hid (Rd ((w.alloc (.cells #[.int .i64 (j : Nat),.int .i64 c] 32)).alloc (.cells #[.int .i64 (a : Nat),.int .i64 (b : Nat),.int .i64 (z : Nat),.slice B lz d] 101)) 1 B ((letAbs s (a,b,z)).map encN)):=Lib.hid (Rd.below (w:=(w.alloc (.cells #[.int .i64 (j : Nat),.int .i64 c] 32))) HRd.out ((Below.refl _ _).alloc (Nat.le_refl _) _))
 simp only [zG,zH,zI] at e0 e1 e3
 replace e0 : (((w.alloc (.cells #[.int .i64 (j : Nat),.int .i64 c] 32)).alloc (.cells #[.int .i64 (a : Nat),.int .i64 (b : Nat),.int .i64 (z : Nat),.slice B lz d] 101)).drew.drew).cell? _ = _:=e0
 replace e1 : (((w.alloc (.cells #[.int .i64 (j : Nat),.int .i64 c] 32)).alloc (.cells #[.int .i64 (a : Nat),.int .i64 (b : Nat),.int .i64 (z : Nat),.slice B lz d] 101)).drew.drew).cell? _ = _:=e1
 replace e3 : (((w.alloc (.cells #[.int .i64 (j : Nat),.int .i64 c] 32)).alloc (.cells #[.int .i64 (a : Nat),.int .i64 (b : Nat),.int .i64 (z : Nat),.slice B lz d] 101)).drew.drew).cell? _ = _:=e3
 replace f1 : (((w.alloc (.cells #[.int .i64 (j : Nat),.int .i64 c] 32)).alloc (.cells #[.int .i64 (a : Nat),.int .i64 (b : Nat),.int .i64 (z : Nat),.slice B lz d] 101)).drew.drew).cell? _ = _:=f1
 replace HRd5 : Hid (Rd (((w.alloc (.cells #[.int .i64 (j : Nat),.int .i64 c] 32)).alloc (.cells #[.int .i64 (a : Nat),.int .i64 (b : Nat),.int .i64 (z : Nat),.slice B lz d] 101)).drew.drew) 1 B ((letAbs s (a,b,z)).map encN)):=Lib.hid HRd5.out
 generalize (((w.alloc (.cells #[.int .i64 (j : Nat),.int .i64 c] 32)).alloc (.cells #[.int .i64 (a : Nat),.int .i64 (b : Nat),.int .i64 (z : Nat),.slice B lz d] 101)).drew.drew) = W5 at hb5 e0 e1 e3 f1 HRd5 ⊢
 clear k0 k1 x0 x1 x2 x3 c2 hB5 hBx hb0 HRd HN hHeld
 have Hle:=Lib.hid hab
 by_cases hc0 : c < 0
 ·have HV : Hid (atP s (j : Nat) c = a):=Lib.hid (by rw [HV0.out];unfold pickP;rw [if_pos hc0];rfl)
  go_wp2
  go_ret
  exact ⟨by rw [HV.out];rfl,hb5⟩
 have hlq : (letQ s (a,b,z)).length = lz:=by have:=Hlz.out;unfold letAbs at this;rwa [List.length_map] at this
 by_cases hc1 : c ≥ (lz : Int)
 ·have HV : Hid (atP s (j : Nat) c = b):=Lib.hid (by rw [HV0.out];unfold pickP;rw [if_neg hc0,if_pos (by rw [hlq];omega)];omega)
  clear hlq hab
  go_wp2
  go_ret
  exact ⟨by rw [HV.out];rfl,hb5⟩
 obtain ⟨k,rfl⟩ : ∃ k : Nat,c = k:=⟨c.toNat,by omega⟩
 have hkl : k < lz:=by omega
 obtain ⟨y,hy⟩ : ∃ y,(letQ s (a,b,z))[k]? = some y:=⟨_,List.getElem?_eq_getElem (by omega)⟩
 have hyA : (letAbs s (a,b,z))[k]? = some (a+y):=by unfold letAbs;rw [List.getElem?_map,hy];rfl
 have HV : Hid (atP s (j : Nat) (k : Nat) = a+y):=Lib.hid (by rw [HV0.out];unfold pickP;rw [if_neg hc0,if_neg (by rw [hlq];omega),Int.toNat_natCast,List.getD_eq_getElem?_getD,hy];rfl)
 obtain ⟨bk,o2,rfl,cy⟩:=HRd5.out.atP' hyA
 have hk1 : (k : Int) < (lz : Int):=by omega
 clear hlq hab hy hyA
 go_wp2
 go_ret
 exact ⟨by rw [HV.out];rfl,hb5⟩
end
section
open Go.RowKit
theorem uIsRune_any (r : Int) (w : World) : Calls Tryz.prog 104 #[.int .i32 r] w fun e w'=>e = .returned (.bool (runeB r))∧w' = w:=by
 obtain ⟨v,HV⟩ : ∃ v,Hid (runeB r = v):=⟨_,Lib.hid rfl⟩
 have key : ∀ q : Bool,(0≤r∧r≤1114111∧(r < 55296∨57343 < r)) = (q = true)→q = v:=fun q hq=>by
  have h:=HV.out
  unfold runeB at h
  rw [← h]
  cases q with
  | true =>
   obtain ⟨h1,h2,h3⟩:=of_eq_true (hq.trans (eq_self true))
   simp [h1,h2,h3]
  | false =>
   have h1 : ¬ (0≤r∧r≤1114111∧(r < 55296∨57343 < r)):=fun h=>by have:=hq ▸ h;cases this
   symm
   rw [Bool.eq_false_iff]
   intro h2
   apply h1
   simpa [and_assoc] using h2
 have HK:=Lib.hid key
 clear key
 rw [HV.out]
 clear HV
 by_cases h0 : 0≤r
 ·by_cases h1 : r≤1114111
  ·by_cases h2 : r < 55296
   ·have hv:=HK.out true (by simp [h0,h1,h2])
    subst hv
    go_enter Tryz.func104,Tryz.ntmps104
    go_wp2
    go_ret
    exact ⟨rfl,rfl⟩
   ·by_cases h3 : 57343 < r
    ·have hv:=HK.out true (by simp [h0,h1,h3])
     subst hv
     go_enter Tryz.func104,Tryz.ntmps104
     go_wp2
     go_ret
     exact ⟨rfl,rfl⟩
    ·have hv:=HK.out false (by simp;omega)
     subst hv
     go_enter Tryz.func104,Tryz.ntmps104
     go_wp2
     go_ret
     exact ⟨rfl,rfl⟩
  ·have hv:=HK.out false (by simp;omega)
   subst hv
   go_enter Tryz.func104,Tryz.ntmps104
   go_wp2
   go_ret
   exact ⟨rfl,rfl⟩
 ·have hv:=HK.out false (by simp;omega)
  subst hv
  go_enter Tryz.func104,Tryz.ntmps104
  go_wp2
  go_ret
  exact ⟨rfl,rfl⟩
end
end Go.Proofs.YtlfpdpbbkjnapaaGreatDoor
