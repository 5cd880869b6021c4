/-
 Several texts in one,in their build order: Gd,PlcA,PlcA2,PlcA3,Gh,PtI,PtJ,PtK,PtL,PtM,PtN,PtO,TrE,PtP,Vh.
-/
import Derived.Deep.CutRange
import Derived.Deep.RegionHeld3
import Derived.Deep.LoopGhost
import Derived.Test.YtlfpdpbbkjnapaaGreatDoorYPlacesTellsGb
import Derived.Test.YtlfpdpbbkjnapaaGreatDoorYPlacesTells0a
import Derived.Test.YtlfpdpbbkjnapaaGreatDoorPShelf
import Derived.Test.YtlfpdpbbkjnapaaGreatDoorYPlacesTells0b
import Derived.Test.YtlfpdpbbkjnapaaGreatDoorPRdr
import Derived.Test.YtlfpdpbbkjnapaaGreatDoorP0a
import Derived.Test.YtlfpdpbbkjnapaaGreatDoorYPlacesTellsPtH
import Derived.Test.YtlfpdpbbkjnapaaGreatDoorYPlacesTellsTrD
import Derived.Test.YtlfpdpbbkjnapaaGreatDoorYPlacesTells0c
import Derived.Test.YtlfpdpbbkjnapaaGreatDoorYPlacesTellsVg
/- -/
namespace Go.Proofs.YtlfpdpbbkjnapaaGreatDoor
set_option maxRecDepth 100000
set_option maxHeartbeats 40000000
section
open Go.RowKit
end
section
open Go.RowKit
theorem below_own {w : World} {A : Option Addr} {n c : Nat} {L : List Nat} (x : Int) (rd : Rd w 1 A (L.map encN)) (hn : L.length = n) (hr : L.Pairwise (· < ·)) (hz : n≤4000000) :
  Calls Tryz.prog 85 #[.slice A n c,.int .i64 x] w fun e w'=>(∃ q : Bool,e = .returned (.tuple #[.int .i64 (belowP L x : Nat),.bool q]))∧Below w.heap.size w w':=by
 cases L with
 | nil =>
  obtain rfl : 0 = n:=hn
  refine (Tryz.slices_BinarySearch_int_empty A c x w).mono ?_
  rintro e w' ⟨rfl,rfl⟩
  exact ⟨⟨false,rfl⟩,Below.refl _ _⟩
 | cons a r =>
  obtain ⟨b,off,rfl,hc⟩:=rd (by simp)
  refine (Tryz.slices_BinarySearch_int b off n c ((a :: r).map fun (a : Nat)=>(a : Int)) x w (by simp at hn ⊢;omega) (by omega) (fun j hj=>?_) ?_).mono ?_
  ·rw [List.length_map] at hj
   have hx:=List.getElem?_eq_getElem hj
   have:=hc j 0 (encN (a :: r)[j]) (.int .i64 ((a :: r)[j] : Nat)) (by rw [List.getElem?_map,hx];rfl) rfl
   rw [List.getD_eq_getElem?_getD,List.getElem?_map,hx]
   simpa using this
  ·refine List.Pairwise.sublist (List.take_sublist _ _) ?_
   rw [List.pairwise_map]
   exact hr.imp fun h=>by omega
  ·rintro e w' ⟨rfl,q,rfl⟩
   rw [List.take_of_length_le (by rw [List.length_map];omega)]
   refine ⟨⟨_,congrArg (fun v=>Ending.returned (.tuple #[.int .i64 v,.bool _])) ?_⟩,below_refl_drewN w q⟩
   unfold belowP
   rw [List.countP_map,List.countP_eq_length_filter]
   rfl
theorem qbelow_any (A : Option Addr) (n c : Nat) (L : List Nat) (x : Int) (w : World) (rd : Rd w 1 A (L.map encN)) (hn : L.length = n) (hr : L.Pairwise (· < ·)) (hz : n≤4000000) :
  Calls Tryz.prog 55 #[.slice A n c,.int .i64 x] w fun e w'=>e = .returned (.int .i64 (belowP L x : Nat))∧Below w.heap.size w w':=by
 have H:=Lib.hid (below_own (c:=c) x rd hn hr hz)
 generalize belowP L x = v at H ⊢
 clear rd hn hr
 go_enter Tryz.func55,Tryz.ntmps55
 go_wp2_with fail
 refine H.out.mono ?_
 rintro e w1 ⟨⟨q,rfl⟩,hb1⟩
 go_wp2
 go_ret
 exact ⟨rfl,hb1⟩
theorem qText_any (p : Nat) (s : ByteArray) (w : World) (h : IdxAt w p s) : Calls Tryz.prog 27 #[.pointer (some ⟨p,0,none⟩)] w fun e w'=>e = .returned (.string s)∧w = w':=by
 obtain ⟨base,bm,n,A,c,h1,_⟩:=h
 have c0:=h1.cell 0
 simp only [zG,zH] at c0
 clear h1
 go_enter Tryz.func27,Tryz.ntmps27
 go_wp2
 go_ret
 exact ⟨rfl,rfl⟩
theorem qthings_any (p : Nat) (s : ByteArray) (b : Int) (w : World) (h : IdxAt w p s) (hk : (Lit.int .i64 b).wf = true) :
  Calls Tryz.prog 54 #[.pointer (some ⟨p,0,none⟩),.int .i64 b] w fun e w'=>∃ B c,e = .returned (.slice B (begP s b).length c)∧Rd w 1 B ((begP s b).map encN)∧w = w':=by
 obtain ⟨bm,B,c,c1,hrun,hrd⟩:=h.things Tryz.underlying89 (Tryz.zeroValue65 w) hk
 have HR:=Lib.hid hrd
 generalize (begP s b).length = m at hrun ⊢
 clear hrd h
 go_enter Tryz.func54,Tryz.ntmps54
 go_wp2
 go_ret
 exact ⟨B,c,rfl,HR.out,rfl⟩
theorem beg_len (s : ByteArray) (b : Int) : (begP s b).length≤2*s.size+1:=by
 unfold begP
 split
 ·unfold unitsP
  have h : ∀ R : List (Nat × Nat × Nat),(R.flatMap fun x=>if 65535 < x.1 then [x.2.1,x.2.1+1] else [x.2.1]).length≤2*R.length:=fun R=>by
   induction R with
   | nil=>simp
   | cons x R ih =>
    rw [List.flatMap_cons,List.length_append,List.length_cons]
    have : (if 65535 < x.1 then [x.2.1,x.2.1+1] else [x.2.1] : List Nat).length≤2:=by split <;> simp
    omega
  have h1:=h (runesP s)
  have:=runesP_len s
  omega
 split
 ·unfold startsP;rw [List.length_map];have:=runesP_len s;omega
 split
 ·rw [List.length_range];omega
 split
 ·unfold letS;rw [List.length_dropLast];have:=bounds_len s;omega
 ·simp
theorem qLen_any (p : Nat) (s : ByteArray) (b : Int) (w : World) (h : IdxAt w p s) (hk : (Lit.int .i64 b).wf = true) :
  Calls Tryz.prog 15 #[.pointer (some ⟨p,0,none⟩),.int .i64 b] w fun e w'=>e = .returned (.int .i64 ((begP s b).length : Nat))∧w = w':=by
 have H:=Lib.hid (qthings_any p s b w h hk)
 generalize begP s b = L at H ⊢
 generalize L.length = m at H ⊢
 clear h hk
 go_enter Tryz.func15,Tryz.ntmps15
 go_wp2_with fail
 refine H.out.mono ?_
 rintro e w1 ⟨B,c,rfl,_,rfl⟩
 go_wp2
 go_ret
 exact ⟨rfl,rfl⟩
theorem qTo_any (p : Nat) (s : ByteArray) (b x : Int) (w : World) (h : IdxAt w p s) (hk : (Lit.int .i64 b).wf = true) (hs : s.size≤1000000) :
  Calls Tryz.prog 16 #[.pointer (some ⟨p,0,none⟩),.int .i64 b,.int .i64 x] w fun e w'=>e = .returned (.int .i64 (toP s b x : Nat))∧Below w.heap.size w w':=by
 have H:=Lib.hid (qthings_any p s b w h hk)
 have hl:=beg_len s b
 have HR:=Lib.hid (beg_rise s b)
 unfold toP
 generalize begP s b = L at H HR hl ⊢
 clear h hk
 go_enter Tryz.func16,Tryz.ntmps16
 go_wp2_with fail
 refine H.out.mono ?_
 rintro e w1 ⟨B,c,rfl,rd,rfl⟩
 have H2:=Lib.hid (qbelow_any B L.length c L x w rd rfl HR.out (by omega))
 obtain ⟨v,Hv⟩ : ∃ v,Hid (belowP L x = v):=⟨_,Lib.hid rfl⟩
 rw [Hv.out] at H2
 clear rd
 go_wp2_with fail
 refine H2.out.mono ?_
 rintro e w2 ⟨rfl,hb⟩
 go_wp2
 go_ret
 exact ⟨by rw [Hv.out];rfl,hb⟩
theorem qFrom_any (p : Nat) (s : ByteArray) (b x : Int) (w : World) (h : IdxAt w p s) (hk : (Lit.int .i64 b).wf = true) :
  Calls Tryz.prog 17 #[.pointer (some ⟨p,0,none⟩),.int .i64 b,.int .i64 x] w fun e w'=>e = .returned (.int .i64 (fromQ s b x : Nat))∧w = w':=by
 by_cases h0 : x < 0
 ·have HV : Hid (fromQ s b x = 0):=Lib.hid (if_pos h0)
  go_enter Tryz.func17,Tryz.ntmps17
  go_wp2
  go_ret
  exact ⟨by rw [HV.out];rfl,rfl⟩
 have H:=Lib.hid (qthings_any p s b w h hk)
 have HT:=Lib.hid (qText_any p s w h)
 have HV : Hid (fromQ s b x = if ((begP s b).length : Int)≤x then s.size else (begP s b).getD x.toNat 0):=Lib.hid (if_neg h0)
 generalize begP s b = L at H HV
 clear h hk
 by_cases h1 : x < (L.length : Int)
 ·obtain ⟨k,rfl⟩ : ∃ k : Nat,x = k:=⟨x.toNat,by omega⟩
  have hkl : k < L.length:=by omega
  obtain ⟨y,Hy⟩ : ∃ y,Hid (L[k]? = some y):=⟨_,Lib.hid (List.getElem?_eq_getElem hkl)⟩
  rw [if_neg (by omega),Int.toNat_natCast,List.getD_eq_getElem?_getD,Hy.out] at HV
  generalize hm : L.length = m at H h1 hkl
  clear hm
  go_enter Tryz.func17,Tryz.ntmps17
  go_wp2_with fail
  refine H.out.mono ?_
  rintro e w1 ⟨B,c,rfl,rd,rfl⟩
  obtain ⟨bk,off,rfl,cy⟩:=rd.atP' Hy.out
  clear rd
  go_wp2
  go_ret
  exact ⟨by rw [HV.out];rfl,rfl⟩
 ·rw [if_pos (by omega)] at HV
  generalize L.length = m at H h1
  go_enter Tryz.func17,Tryz.ntmps17
  go_wp2_with fail
  refine H.out.mono ?_
  rintro e w1 ⟨B,c,rfl,rd,rfl⟩
  clear rd
  go_wp2_with fail
  refine HT.out.mono ?_
  rintro e w1 ⟨rfl,rfl⟩
  go_wp2
  go_ret
  exact ⟨by rw [HV.out];rfl,rfl⟩
theorem qConvert_any (p : Nat) (s : ByteArray) (b x t : Int) (w : World) (h : IdxAt w p s) (hk : (Lit.int .i64 b).wf = true) (ht : (Lit.int .i64 t).wf = true) (hs : s.size≤1000000) :
  Calls Tryz.prog 60 #[.pointer (some ⟨p,0,none⟩),.int .i64 b,.int .i64 x,.int .i64 t] w fun e w'=>e = .returned (.int .i64 (toP s t (fromQ s b x : Nat) : Nat))∧Below w.heap.size w w':=by
 have H:=Lib.hid (qFrom_any p s b x w h hk)
 have H2:=Lib.hid (fun y=>qTo_any p s t y w h ht hs)
 generalize fromQ s b x = f at H ⊢
 have H3:=Lib.hid (H2.out (f : Nat))
 generalize toP s t (f : Nat) = v at H3 ⊢
 clear h hk ht H2
 go_enter Tryz.func60,Tryz.ntmps60
 go_wp2_with fail
 refine H.out.mono ?_
 rintro e w1 ⟨rfl,rfl⟩
 go_wp2_with fail
 refine H3.out.mono ?_
 rintro e w2 ⟨rfl,hb⟩
 go_wp2
 go_ret
 exact ⟨rfl,hb⟩
theorem qLinesN_any (p : Nat) (s : ByteArray) (w : World) (h : IdxAt w p s) : Calls Tryz.prog 18 #[.pointer (some ⟨p,0,none⟩)] w fun e w'=>e = .returned (.int .i64 ((lnP s).length : Nat))∧w = w':=by
 obtain ⟨base,bm,n,A,c,h1,_⟩:=h
 have c2:=h1.cell 2
 simp only [zG,zH,zI] at c2
 generalize (lnP s).length = m at c2 ⊢
 clear h1
 go_enter Tryz.func18,Tryz.ntmps18
 go_wp2
 go_ret
 exact ⟨rfl,rfl⟩
def lnAt (s : ByteArray) (k : Int) : Nat × Nat × Nat:=if k < 0∨((lnP s).length : Int)≤k then (0,0,0) else lineQ s k.toNat
theorem qLine_any (p : Nat) (s : ByteArray) (k : Int) (w : World) (h : IdxAt w p s) :
  Calls Tryz.prog 19 #[.pointer (some ⟨p,0,none⟩),.int .i64 k] w fun e w'=>e = .returned (.tuple #[.int .i64 ((lnAt s k).1 : Nat),.int .i64 ((lnAt s k).2.1 : Nat),.int .i64 ((lnAt s k).2.2 : Nat)])∧Below w.heap.size w w':=by
 have HN:=Lib.hid (qLinesN_any p s w h)
 by_cases h0 : k < 0
 ·have HV : Hid (lnAt s k = (0,0,0)):=Lib.hid (if_pos (.inl h0))
  clear h
  go_enter Tryz.func19,Tryz.ntmps19
  go_wp2
  go_ret3
  exact ⟨by rw [HV.out];rfl,Below.refl _ _⟩
 by_cases h1 : ((lnP s).length : Int)≤k
 ·have HV : Hid (lnAt s k = (0,0,0)):=Lib.hid (if_pos (.inr h1))
  have h2 : k ≥ ((lnP s).length : Int):=h1
  generalize (lnP s).length = m at HN h1 h2
  clear h
  go_enter Tryz.func19,Tryz.ntmps19
  go_wp2_with fail
  refine HN.out.mono ?_
  rintro e w1 ⟨rfl,rfl⟩
  go_wp2
  go_ret3
  exact ⟨by rw [HV.out];rfl,Below.refl _ _⟩
 have HV : Hid (lnAt s k = lineQ s k.toNat):=Lib.hid (if_neg (by omega))
 obtain ⟨j,rfl⟩ : ∃ j : Nat,k = j:=⟨k.toNat,by omega⟩
 rw [Int.toNat_natCast] at HV
 obtain ⟨base,bm,n,A,c,hb1,_,_,hl⟩:=h
 have hjl : j < (lnP s).length:=by omega
 obtain ⟨⟨a,b,z⟩,hx⟩ : ∃ x,(lnP s)[j]? = some x:=⟨_,List.getElem?_eq_getElem hjl⟩
 obtain ⟨g,off,B,d,rfl,x0,x1,x2,x3,_⟩:=hl.at_ hx
 have HX : Hid (lineQ s j = (a,b,z)):=Lib.hid (by unfold lineQ;rw [List.getD_eq_getElem?_getD,hx];rfl)
 have c2:=hb1.cell 2
 simp only [zG,zH,zI] at c2
 simp only at x0 x1 x2
 generalize (lnP s).length = m at HN h1 c2 hjl
 generalize (letAbs s (a,b,z)).length = lz at x3
 clear hb1 hl hx
 have h3 : ¬ ((j : Int) ≥ (m : Int)):=by omega
 have h4 : (j : Int) < (m : Int):=by omega
 have h5 : (0 : Int)≤(j : Int):=by omega
 go_enter Tryz.func19,Tryz.ntmps19
 go_wp2_with fail
 refine HN.out.mono ?_
 rintro e w1 ⟨rfl,rfl⟩
 go_wp2_with fail
 go_quiet (fail)
 go_wp2
 go_ret3
 exact ⟨by rw [HV.out,HX.out];rfl,below_drewN ((Below.refl _ _).alloc (Nat.le_refl _) _) _⟩
end
section
open Go.RowKit
theorem res_point (w : World) (b : Nat) (tmps : Array Value) (ht : tmps.getD 4 undef = .pointer (some ⟨b,0,none⟩)) {x y : Int} (hc : Blk w b 32 #[.int .i64 x,.int .i64 y]) : (results Tryz.f21 tmps).run Tryz.prog w = .ok (.agg #[.int .i64 x,.int .i64 y]) w:=by
 have ht' : tmps[4]?.getD undef = .pointer (some ⟨b,0,none⟩):=by simpa [Array.getD_eq_getD_getElem?] using ht
 have h0:=hc.cell 0
 have h1:=hc.cell 1
 simp only [zG,zH,zI] at h0 h1
 simp [results,Tryz.results21,go_sem,ht',h0,h1]
theorem letAbs_rise (s : ByteArray) (x : Nat × Nat × Nat) : (letAbs s x).Pairwise (· < ·):=by
 unfold letAbs letQ letS
 rw [List.pairwise_map]
 exact ((bounds_rise gG _).sublist (List.dropLast_sublist _)).imp (fun h=>by omega)
theorem letAbs_len (s : ByteArray) (x : Nat × Nat × Nat) : (letAbs s x).length≤s.size+1:=by
 unfold letAbs letQ letS
 rw [List.length_map,List.length_dropLast]
 have:=bounds_len (s.extract x.1 x.2.1)
 rw [ByteArray.size_extract] at this
 omega
def RowAt (s : ByteArray) (x : Int) (i row : Nat) : Prop:=rowGo x i row ((lnP s).drop i) = rowP (lnP s) x∧row < (lnP s).length
theorem lnP_pos (s : ByteArray) : 0 < (lnP s).length:=by
 obtain ⟨x,t,e,_⟩:=tiles_first (lnP_tiles s)
 rw [e];simp
theorem rowAt_step {s : ByteArray} {x : Int} {i row : Nat} (h : RowAt s x i row) {y : Nat × Nat × Nat} (hy : (lnP s)[i]? = some y) (hle : (y.1 : Int)≤x) : RowAt s x (i+1) i:=by
 obtain ⟨h1,h2⟩:=h
 have hi:=(List.getElem?_eq_some_iff.1 hy).1
 rw [List.drop_eq_getElem_cons hi,(List.getElem?_eq_some_iff.1 hy).2,rowGo,if_pos hle] at h1
 exact ⟨h1,hi⟩
theorem rowAt_past {s : ByteArray} {x : Int} {i row : Nat} (h : RowAt s x i row) {y : Nat × Nat × Nat} (hy : (lnP s)[i]? = some y) (hle : x < (y.1 : Int)) : row = rowP (lnP s) x:=by
 obtain ⟨h1,h2⟩:=h
 have hi:=(List.getElem?_eq_some_iff.1 hy).1
 rw [rowGo_past] at h1
 ·exact h1
 ·intro u hu
  have hr:=(tiles_rise (lnP_tiles s)).sublist (List.drop_sublist i _)
  rw [List.drop_eq_getElem_cons hi,(List.getElem?_eq_some_iff.1 hy).2] at hu hr
  rcases List.mem_cons.1 hu with rfl | hu
  ·exact hle
  ·have:=(List.pairwise_cons.1 hr).1 u hu
   omega
theorem rowAt_end {s : ByteArray} {x : Int} {i row : Nat} (h : RowAt s x i row) (hi : (lnP s).length≤i) : row = rowP (lnP s) x:=by
 have h1:=h.1
 rw [List.drop_eq_nil_of_le hi] at h1
 exact h1
theorem qPoint_any (p : Nat) (s : ByteArray) (x : Int) (w : World) (h : IdxAt w p s) (hs : s.size≤1000000) :
  Calls Tryz.prog 21 #[.pointer (some ⟨p,0,none⟩),.int .i64 x] w fun e w'=>e = .returned (.agg #[.int .i64 ((pointP s x).1 : Nat),.int .i64 ((pointP s x).2 : Nat)])∧Below w.heap.size w w':=by
 have hI:=h
 obtain ⟨base,bm,n,A,c,hb1,_,_,hl⟩:=h
 have hm:=lnP_len s
 have hpos:=lnP_pos s
 have c2:=hb1.cell 2
 simp only [zG,zH,zI] at c2
 obtain ⟨m,Hm⟩ : ∃ m,Hid ((lnP s).length = m):=⟨_,Lib.hid rfl⟩
 rw [Hm.out] at c2 hm hpos
 have HL:=Lib.hid hl
 have hR0 : RowAt s x 0 0:=⟨rfl,by rw [Hm.out];exact hpos⟩
 have HR0:=Lib.hid hR0
 have hBp : Below w.heap.size w (w.alloc (.cells #[.int .i64 0,.int .i64 0] 32)):=(Below.refl _ _).alloc (Nat.le_refl _) _
 have hBk:=Blk.new w 32 #[.int .i64 0,.int .i64 0]
 have c2p:=cell_keep c2 hBp
 clear hI hb1 hl hR0
 go_enter Tryz.func21,Tryz.ntmps21
 go_wp2_with fail
 go_step3
 go_wp2_with fail
 go_step3
 go_wp2_with fail
 go_loopw [5,16] (fun u v wr=>∃ (i row : Nat),u = .int .i64 row∧v = .int .i64 i∧i≤m∧row < m∧Hid (RowAt s x i row)∧Blk wr w.heap.size 32 #[.int .i64 0,.int .i64 0]∧Below w.heap.size w wr) (fun _ v _=>m - (intOf v).toNat)
 case atStart=>exact ⟨0,0,rfl,rfl,by omega,hpos,HR0,hBk,hBp⟩
 case round =>
  obtain ⟨i,row,rfl,rfl,hi,hrow,HR,hBr,hbw⟩:=hrel
  by_cases hlt : i < m
  ·obtain ⟨⟨a,b,z⟩,Hy⟩ : ∃ y,Hid ((lnP s)[i]? = some y):=⟨_,Lib.hid (List.getElem?_eq_getElem (by rw [Hm.out];exact hlt))⟩
   have HLw:=HL.out.below hbw
   obtain ⟨g,off,B,d,eA,x0,x1,x2,x3,_⟩:=HLw.at_ Hy.out
   have HEA:=Lib.hid eA
   subst eA
   simp only at x0 x1 x2
   have hBr2:=hBr.alloc (.cells #[.int .i64 (a : Nat),.int .i64 (b : Nat),.int .i64 (z : Nat),.slice B (letAbs s (a,b,z)).length d] 101)
   have hbw2:=hbw.alloc hbw.size (.cells #[.int .i64 (a : Nat),.int .i64 (b : Nat),.int .i64 (z : Nat),.slice B (letAbs s (a,b,z)).length d] 101)
   generalize (letAbs s (a,b,z)).length = lz at x3 hBr2 hbw2
   clear HLw
   by_cases hax : (a : Int) > x
   ·have HRw : Hid (row = rowP (lnP s) x):=Lib.hid (rowAt_past HR.out Hy.out hax)
    have HV : Hid (pointP s x = (row,colP s row x)):=Lib.hid (by unfold pointP;rw [← HRw.out])
    obtain ⟨ya,Hya⟩ : ∃ y,Hid ((lnP s)[row]? = some y):=⟨_,Lib.hid (List.getElem?_eq_getElem (by rw [Hm.out];exact hrow))⟩
    have cp2:=cell_keep c2 hbw2
    have HLw:=HL.out.below hbw2
    obtain ⟨g2,off2,B2,d2,eA2,_,_,_,z3,rdB⟩:=HLw.at_ Hya.out
    injection eA2 with eA2
    injection eA2 with eA2 eA3
    subst eA2 eA3
    have HC:=Lib.hid (qbelow_any B2 (letAbs s ya).length d2 (letAbs s ya) x _ rdB rfl (letAbs_rise s ya) (by have:=letAbs_len s ya;omega))
    have HCv : Hid (belowP (letAbs s ya) x = colP s row x):=Lib.hid (by unfold colP letAbs;rw [below_abs,(line_in Hya.out).1])
    obtain ⟨col,Hcol⟩ : ∃ z,Hid (colP s row x = z):=⟨_,Lib.hid rfl⟩
    rw [HCv.out,Hcol.out] at HC
    rw [Hcol.out] at HV
    generalize (letAbs s ya).length = lz2 at z3 HC
    have hr0 : (0 : Int)≤(row : Int):=by omega
    have hrm : (row : Int) < (m : Int):=by omega
    clear rdB HLw
    go_wp2_with fail
    refine HC.out.mono ?_
    rintro e wz ⟨rfl,hbz⟩
    have hBz:=(hBr2).below hbz
    have hbz2:=below_two hbw2 hbz
    have f0:=hBz.frozen 0
    have f1:=hBz.frozen 1
    have k0:=hBz.cell 0
    have k1:=hBz.cell 1
    simp only [zG,zH,zI] at k0 k1
    go_wp2_with fail
    have hB3:=(hBz.set_ 0 (.int .i64 (row : Nat))).set_ 1 (.int .i64 (col : Nat))
    simp only [Exit.noGoto_ret];refine bodyPost_ret (res_point _ w.heap.size _ rfl hB3) rfl ?_
    exact ⟨by rw [HV.out],(hbz2.setCell (p:=⟨w.heap.size,0,none⟩) (Nat.le_refl _) _).setCell (p:=⟨w.heap.size,1,none⟩) (Nat.le_refl _) _⟩
   ·have HN : Hid (RowAt s x (i+1) i):=Lib.hid (rowAt_step HR.out Hy.out (by simp only;omega))
    go_wp2
    go_roundw
    case rel=>exact ⟨i+1,i,rfl,by go_num,by omega,hlt,HN,hBr2,hbw2⟩
    case measure=>simp [intOf];omega
  ·have HRw : Hid (row = rowP (lnP s) x):=Lib.hid (rowAt_end HR.out (by rw [Hm.out];omega))
   have HV : Hid (pointP s x = (row,colP s row x)):=Lib.hid (by unfold pointP;rw [← HRw.out])
   obtain ⟨ya,Hya⟩ : ∃ y,Hid ((lnP s)[row]? = some y):=⟨_,Lib.hid (List.getElem?_eq_getElem (by rw [Hm.out];exact hrow))⟩
   have cp2:=cell_keep c2 hbw
   have HLw:=HL.out.below hbw
   obtain ⟨g2,off2,B2,d2,eA2,_,_,_,z3,rdB⟩:=HLw.at_ Hya.out
   subst eA2
   have HC:=Lib.hid (qbelow_any B2 (letAbs s ya).length d2 (letAbs s ya) x _ rdB rfl (letAbs_rise s ya) (by have:=letAbs_len s ya;omega))
   have HCv : Hid (belowP (letAbs s ya) x = colP s row x):=Lib.hid (by unfold colP letAbs;rw [below_abs,(line_in Hya.out).1])
   obtain ⟨col,Hcol⟩ : ∃ z,Hid (colP s row x = z):=⟨_,Lib.hid rfl⟩
   rw [HCv.out,Hcol.out] at HC
   rw [Hcol.out] at HV
   generalize (letAbs s ya).length = lz2 at z3 HC
   have hr0 : (0 : Int)≤(row : Int):=by omega
   have hrm : (row : Int) < (m : Int):=by omega
   clear rdB HLw
   go_wp2_with fail
   refine HC.out.mono ?_
   rintro e wz ⟨rfl,hbz⟩
   have hBz:=(hBr).below hbz
   have hbz2:=below_two hbw hbz
   have f0:=hBz.frozen 0
   have f1:=hBz.frozen 1
   have k0:=hBz.cell 0
   have k1:=hBz.cell 1
   simp only [zG,zH,zI] at k0 k1
   go_wp2_with fail
   have hB3:=(hBz.set_ 0 (.int .i64 (row : Nat))).set_ 1 (.int .i64 (col : Nat))
   simp only [Exit.noGoto_ret];refine bodyPost_ret (res_point _ w.heap.size _ rfl hB3) rfl ?_
   exact ⟨by rw [HV.out],(hbz2.setCell (p:=⟨w.heap.size,0,none⟩) (Nat.le_refl _) _).setCell (p:=⟨w.heap.size,1,none⟩) (Nat.le_refl _) _⟩
end
section
open Go.RowKit
theorem cell_allocQ {w : World} {p : Addr} {u : Value} (h : w.cell? p = some u) (o : Obj) : (w.alloc o).cell? p = some u:=cell_keep h ((Below.refl _ _).alloc (Nat.le_refl _) o)
theorem qAt_any (p : Nat) (s : ByteArray) (r c : Int) (w : World) (h : IdxAt w p s) :
  Calls Tryz.prog 20 #[.pointer (some ⟨p,0,none⟩),.agg #[.int .i64 r,.int .i64 c]] w fun e w'=>e = .returned (.int .i64 (atP s r c : Nat))∧Below w.heap.size w w':=by
 have hBx:=Blk.new w 32 #[.int .i64 r,.int .i64 c]
 have hb0 : Below w.heap.size w (w.alloc (.cells #[.int .i64 r,.int .i64 c] 32)):=(Below.refl _ _).alloc (Nat.le_refl _) _
 have hI:=h.below hb0
 have k0:=hBx.cell 0
 have k1:=hBx.cell 1
 simp only [zG,zH,zI] at k0 k1
 have HN:=Lib.hid (fun U (hU : IdxAt U p s)=>qLinesN_any p s U hU)
 have HT:=Lib.hid (fun U (hU : IdxAt U p s)=>qText_any p s U hU)
 have HI:=Lib.hid hI
 by_cases h0 : r < 0
 ·have HV : Hid (atP s r c = 0):=Lib.hid (if_pos h0)
  clear h hI
  go_enter Tryz.func20,Tryz.ntmps20
  go_wp2
  go_ret
  exact ⟨by rw [HV.out];rfl,hb0⟩
 by_cases h1 : ((lnP s).length : Int)≤r
 ·have HV : Hid (atP s r c = s.size):=Lib.hid ((if_neg h0).trans (if_pos h1))
  have h2 : r ≥ ((lnP s).length : Int):=h1
  replace HN:=Lib.hid (HN.out _ (HI.out.below (Below.refl _ _).drew))
  replace HT:=Lib.hid (HT.out _ (HI.out.below (below_refl_drewN _ 1)))
  have hb1:=below_drewN hb0 1
  generalize (lnP s).length = m at HN h1 h2
  clear h hI HI
  go_enter Tryz.func20,Tryz.ntmps20
  go_wp2_with fail
  go_region_held3 (fun V=>V.cell? ⟨w.heap.size,0,none⟩ = some (.int .i64 r)) (exact k0) (first | (go_at_call 18;refine HN.out.mono ?_;rintro e wz ⟨rfl,rfl⟩))
  go_wp2_with fail
  refine HT.out.mono ?_
  rintro e wz ⟨rfl,rfl⟩
  go_wp2
  go_ret
  exact ⟨by rw [HV.out];rfl,hb1⟩
 have HV0 : Hid (atP s r c = (lineQ s r.toNat).1+pickP (letQ s (lineQ s r.toNat)) c ((lineQ s r.toNat).2.1 - (lineQ s r.toNat).1)):=Lib.hid ((if_neg h0).trans (if_neg h1))
 obtain ⟨j,rfl⟩ : ∃ j : Nat,r = j:=⟨r.toNat,by omega⟩
 rw [Int.toNat_natCast] at HV0
 have hjl : j < (lnP s).length:=by omega
 obtain ⟨⟨a,b,z⟩,hx⟩ : ∃ x,(lnP s)[j]? = some x:=⟨_,List.getElem?_eq_getElem hjl⟩
 obtain ⟨hlq,hab,_⟩:=line_in hx
 rw [hlq] at HV0
 simp only at hab HV0
 have hI2:=HI.out.below (Below.refl _ _).drew
 obtain ⟨base,bm,n,A,cc,hb1,_,_,hl⟩:=hI2
 obtain ⟨g,off,B,d,rfl,x0,x1,x2,x3,rdB⟩:=hl.at_ hx
 have c2:=hb1.cell 2
 simp only [zG,zH,zI] at c2
 simp only at x0 x1 x2 x3
 replace HN:=Lib.hid (HN.out _ (HI.out.below (Below.refl _ _).drew))
 generalize (lnP s).length = m at HN h1 c2 hjl
 obtain ⟨lz,Hlz⟩ : ∃ z',Hid ((letAbs s (a,b,z)).length = z'):=⟨_,Lib.hid rfl⟩
 rw [Hlz.out] at x3
 have HRd:=Lib.hid rdB
 have h3 : ¬ ((j : Int) ≥ (m : Int)):=by omega
 have h4 : (j : Int) < (m : Int):=by omega
 have h5 : (0 : Int)≤(j : Int):=by omega
 clear h hI HI HT hl hb1 rdB hx hlq
 go_enter Tryz.func20,Tryz.ntmps20
 go_wp2_with fail
 go_region_held3 (fun V=>V.cell? ⟨w.heap.size,0,none⟩ = some (.int .i64 (j : Nat))) (exact k0) (first | (go_at_call 18;refine HN.out.mono ?_;rintro e wz ⟨rfl,rfl⟩))
 go_wp2_with fail
 refine wp_region_last (S:=fun U=>U.cell? ⟨p,2,none⟩ = some (.slice (some ⟨g,off,none⟩) m cc)∧U.cell? ⟨w.heap.size,0,none⟩ = some (.int .i64 (j : Nat))∧U.cell? ⟨g,off+j*4,none⟩ = some (.int .i64 (a : Nat))∧U.cell? ⟨g,off+j*4+1,none⟩ = some (.int .i64 (b : Nat))∧U.cell? ⟨g,off+j*4+2,none⟩ = some (.int .i64 (z : Nat))∧U.cell? ⟨g,off+j*4+3,none⟩ = some (.slice B lz d)) 9 rfl (by kernel_rfl) (by kernel_rfl) (by kernel_rfl) ⟨c2,k0,x0,x1,x2,x3⟩ (fun hHeld=>?_)
 simp only [List.dropLast_cons_cons,List.dropLast_singleton]
 refine tkH (i:=0) (v:=?_) rfl ?_ ?_;rotate_left;focus ((intro w hSw;(try dsimp only at hSw);go_simp);try with_reducible rfl)
 (try simp only [Act.put,zA,zC,zD,zE,zF])
 refine tkH (i:=1) (v:=?_) rfl ?_ ?_;rotate_left;focus ((intro w hSw;(try dsimp only at hSw);go_simp);try with_reducible rfl)
 (try simp only [Act.put,zA,zB,zC,zD,zE,zF])
 refine tkH (i:=2) (v:=?_) rfl ?_ ?_;rotate_left;focus ((intro w hSw;(try dsimp only at hSw);go_simp);try with_reducible rfl)
 (try simp only [Act.put,zA,zB,zC,zD,zE,zF])
 refine tkH (i:=3) (v:=?_) rfl ?_ ?_;rotate_left;focus ((intro w hSw;(try dsimp only at hSw);go_simp);try with_reducible rfl)
 (try simp only [Act.put,zA,zB,zC,zD,zE,zF])
 refine tkH (i:=4) (v:=?_) rfl ?_ ?_;rotate_left;focus ((intro w hSw;(try dsimp only at hSw);go_simp);try with_reducible rfl)
 (try simp only [Act.put,zA,zB,zC,zD,zE,zF])
 refine tkH (i:=5) (v:=?_) rfl ?_ ?_;rotate_left;focus ((intro w hSw;(try dsimp only at hSw);go_simp);try with_reducible rfl)
 (try simp only [Act.put,zA,zB,zC,zD,zE,zF])
 refine tkH (i:=6) (v:=?_) rfl ?_ ?_;rotate_left;focus ((intro w hSw;(try dsimp only at hSw);go_simp);try with_reducible rfl)
 (try simp only [Act.put,zA,zB,zC,zD,zE,zF])
 refine tkH (i:=7) (v:=?_) rfl ?_ ?_;rotate_left;focus ((intro w hSw;(try dsimp only at hSw);go_simp);try with_reducible rfl)
 (try simp only [Act.put,zA,zB,zC,zD,zE,zF])
 refine wpAnyH_ready (rs:=[8]) (by kernel_rfl) (by simp) ?_
 refine AllReadyH.cons rfl (fun K hK=>?_) AllReadyH.nil
 go_simp
 refine hK.out _ _ ⟨cell_allocQ c2 _,cell_allocQ k0 _,cell_allocQ x0 _,cell_allocQ x1 _,cell_allocQ x2 _,cell_allocQ x3 _⟩ (fun hHeld=>?_)
 clear hK K
 (try simp only [Act.put,zA,zB,zC,zD,zE,zF])
 refine wpAnyH_done (by kernel_rfl) ?_ _
 refine tailQ_end (wpOp_step (i:=9) rfl (fun K hK=>?_))
 go_simp
 refine hK _ _ ?_
 clear hK K
 have hz0 : (w.alloc (.cells #[.int .i64 (j : Nat),.int .i64 c] 32)).heap.size = w.heap.size+1:=World.size_alloc _ _
 have hB5:=Blk.new (w.alloc (.cells #[.int .i64 (j : Nat),.int .i64 c] 32)) 101 #[.int .i64 (a : Nat),.int .i64 (b : Nat),.int .i64 (z : Nat),.slice B lz d]
 rw [hz0] at hB5
 have hb5 : Below w.heap.size w (((w.alloc (.cells #[.int .i64 (j : Nat),.int .i64 c] 32)).alloc (.cells #[.int .i64 (a : Nat),.int .i64 (b : Nat),.int .i64 (z : Nat),.slice B lz d] 101)).drew.drew):=((hb0.alloc (by omega) _).drew).drew
 have e0:=hB5.cell 0
 have e1:=hB5.cell 1
 have e3:=hB5.cell 3
 have f1:=cell_allocQ k1 (.cells #[.int .i64 (a : Nat),.int .i64 (b : Nat),.int .i64 (z : Nat),.slice B lz d] 101)
 have HRd5 : Hid (Rd ((w.alloc (.cells #[.int .i64 (j : Nat),.int .i64 c] 32)).alloc (.cells #[.int .i64 (a : Nat),.int .i64 (b : Nat),.int .i64 (z : Nat),.slice B lz d] 101)) 1 B ((letAbs s (a,b,z)).map encN)):=Lib.hid (Rd.below (w:=(w.alloc (.cells #[.int .i64 (j : Nat),.int .i64 c] 32))) HRd.out ((Below.refl _ _).alloc (Nat.le_refl _) _))
 simp only [zG,zH,zI] at e0 e1 e3
 replace e0 : (((w.alloc (.cells #[.int .i64 (j : Nat),.int .i64 c] 32)).alloc (.cells #[.int .i64 (a : Nat),.int .i64 (b : Nat),.int .i64 (z : Nat),.slice B lz d] 101)).drew.drew).cell? _ = _:=e0
 replace e1 : (((w.alloc (.cells #[.int .i64 (j : Nat),.int .i64 c] 32)).alloc (.cells #[.int .i64 (a : Nat),.int .i64 (b : Nat),.int .i64 (z : Nat),.slice B lz d] 101)).drew.drew).cell? _ = _:=e1
 replace e3 : (((w.alloc (.cells #[.int .i64 (j : Nat),.int .i64 c] 32)).alloc (.cells #[.int .i64 (a : Nat),.int .i64 (b : Nat),.int .i64 (z : Nat),.slice B lz d] 101)).drew.drew).cell? _ = _:=e3
 replace f1 : (((w.alloc (.cells #[.int .i64 (j : Nat),.int .i64 c] 32)).alloc (.cells #[.int .i64 (a : Nat),.int .i64 (b : Nat),.int .i64 (z : Nat),.slice B lz d] 101)).drew.drew).cell? _ = _:=f1
 replace HRd5 : Hid (Rd (((w.alloc (.cells #[.int .i64 (j : Nat),.int .i64 c] 32)).alloc (.cells #[.int .i64 (a : Nat),.int .i64 (b : Nat),.int .i64 (z : Nat),.slice B lz d] 101)).drew.drew) 1 B ((letAbs s (a,b,z)).map encN)):=Lib.hid HRd5.out
 generalize (((w.alloc (.cells #[.int .i64 (j : Nat),.int .i64 c] 32)).alloc (.cells #[.int .i64 (a : Nat),.int .i64 (b : Nat),.int .i64 (z : Nat),.slice B lz d] 101)).drew.drew) = W5 at hb5 e0 e1 e3 f1 HRd5 ⊢
 clear k0 k1 x0 x1 x2 x3 c2 hB5 hBx hb0 HRd HN hHeld
 have Hle:=Lib.hid hab
 by_cases hc0 : c < 0
 ·have HV : Hid (atP s (j : Nat) c = a):=Lib.hid (by rw [HV0.out];unfold pickP;rw [if_pos hc0];rfl)
  go_wp2
  go_ret
  exact ⟨by rw [HV.out];rfl,hb5⟩
 have hlq : (letQ s (a,b,z)).length = lz:=by have:=Hlz.out;unfold letAbs at this;rwa [List.length_map] at this
 by_cases hc1 : c ≥ (lz : Int)
 ·have HV : Hid (atP s (j : Nat) c = b):=Lib.hid (by rw [HV0.out];unfold pickP;rw [if_neg hc0,if_pos (by rw [hlq];omega)];omega)
  clear hlq hab
  go_wp2
  go_ret
  exact ⟨by rw [HV.out];rfl,hb5⟩
 obtain ⟨k,rfl⟩ : ∃ k : Nat,c = k:=⟨c.toNat,by omega⟩
 have hkl : k < lz:=by omega
 obtain ⟨y,hy⟩ : ∃ y,(letQ s (a,b,z))[k]? = some y:=⟨_,List.getElem?_eq_getElem (by omega)⟩
 have hyA : (letAbs s (a,b,z))[k]? = some (a+y):=by unfold letAbs;rw [List.getElem?_map,hy];rfl
 have HV : Hid (atP s (j : Nat) (k : Nat) = a+y):=Lib.hid (by rw [HV0.out];unfold pickP;rw [if_neg hc0,if_neg (by rw [hlq];omega),Int.toNat_natCast,List.getD_eq_getElem?_getD,hy];rfl)
 obtain ⟨bk,o2,rfl,cy⟩:=HRd5.out.atP' hyA
 have hk1 : (k : Int) < (lz : Int):=by omega
 clear hlq hab hy hyA
 go_wp2
 go_ret
 exact ⟨by rw [HV.out];rfl,hb5⟩
end
section
open Go.RowKit
theorem uIsRune_any (r : Int) (w : World) : Calls Tryz.prog 104 #[.int .i32 r] w fun e w'=>e = .returned (.bool (runeB r))∧w' = w:=by
 obtain ⟨v,HV⟩ : ∃ v,Hid (runeB r = v):=⟨_,Lib.hid rfl⟩
 have key : ∀ q : Bool,(0≤r∧r≤1114111∧(r < 55296∨57343 < r)) = (q = true)→q = v:=fun q hq=>by
  have h:=HV.out
  unfold runeB at h
  rw [← h]
  cases q with
  | true =>
   obtain ⟨h1,h2,h3⟩:=of_eq_true (hq.trans (eq_self true))
   simp [h1,h2,h3]
  | false =>
   have h1 : ¬ (0≤r∧r≤1114111∧(r < 55296∨57343 < r)):=fun h=>by have:=hq ▸ h;cases this
   symm
   rw [Bool.eq_false_iff]
   intro h2
   apply h1
   simpa [and_assoc] using h2
 have HK:=Lib.hid key
 clear key
 rw [HV.out]
 clear HV
 by_cases h0 : 0≤r
 ·by_cases h1 : r≤1114111
  ·by_cases h2 : r < 55296
   ·have hv:=HK.out true (by simp [h0,h1,h2])
    subst hv
    go_enter Tryz.func104,Tryz.ntmps104
    go_wp2
    go_ret
    exact ⟨rfl,rfl⟩
   ·by_cases h3 : 57343 < r
    ·have hv:=HK.out true (by simp [h0,h1,h3])
     subst hv
     go_enter Tryz.func104,Tryz.ntmps104
     go_wp2
     go_ret
     exact ⟨rfl,rfl⟩
    ·have hv:=HK.out false (by simp;omega)
     subst hv
     go_enter Tryz.func104,Tryz.ntmps104
     go_wp2
     go_ret
     exact ⟨rfl,rfl⟩
  ·have hv:=HK.out false (by simp;omega)
   subst hv
   go_enter Tryz.func104,Tryz.ntmps104
   go_wp2
   go_ret
   exact ⟨rfl,rfl⟩
 ·have hv:=HK.out false (by simp;omega)
  subst hv
  go_enter Tryz.func104,Tryz.ntmps104
  go_wp2
  go_ret
  exact ⟨rfl,rfl⟩
end
section
open Go.RowKit
theorem thenP_snoc (c : List Nat) (p : Pat) : ∀ (l : List Pat) (m : Mtx),thenP c (l++[p]) m = behindM (c.length+1) (thenP c l m) (leadsP c p)
 | [],m=>by simp [thenP]
 | q :: r,m=>by rw [List.cons_append,thenP,thenP_snoc c p r,thenP]
theorem orP_snoc (c : List Nat) (p : Pat) : ∀ (l : List Pat) (m : Mtx),orP c (l++[p]) m = bothM (orP c l m) (leadsP c p)
 | [],m=>by simp [orP]
 | q :: r,m=>by rw [List.cons_append,orP,orP_snoc c p r,orP]
theorem take_snoc {α : Type} {l : List α} {i : Nat} {x : α} (h : l[i]? = some x) : l.take (i+1) = l.take i++[x]:=by rw [List.take_add_one,h];rfl
def setTo (c cs : List Nat) (z : Nat) : Mtx:=fun i k=>decide (i < z) && setM c cs i k
theorem setM_at {c cs : List Nat} {i x : Nat} (h : c[i]? = some x) (k : Nat) : setM c cs i k = (decide (k = i+1) && cs.contains x):=by unfold setM;rw [h];rfl
theorem setM_end {c cs : List Nat} {i : Nat} (h : c.length≤i) (k : Nat) : setM c cs i k = false:=by unfold setM;rw [List.getElem?_eq_none h];simp
def KidLeads (cl : List Nat) (C : Option Addr) (n c : Nat) (p : Pat) : Prop:=∀ (X : Nat→Prop) (v : Pv) (w : World),PatX w X p v→goodP 64 p = true→Rd w 1 C (cl.map encN) →
 Calls Tryz.prog 215 #[valPt v,.slice C n c] w (MtEnd w (cl.length+1) (leadsP cl p))
theorem MtEnd.rd {w : World} {n : Nat} {m : Mtx} {e : Ending} {w' : World} (h : MtEnd w n m e w') : ∃ A c C,e = .returned (.slice A n c)∧MtR w' (A,n,c) n (n / 64+1) C∧BitsM n C m∧Below w.heap.size w w':=by
 obtain ⟨A,c,rows,C,he,ho,hB,hbw⟩:=h
 exact ⟨A,c,C,he,ho.rd,hB,hbw⟩
section
variable {cl : List Nat} {C0 : Option Addr} {n c0 : Nat}
theorem jleads_set (hl : cl.length = n) (hn : n≤100000) (X : Nat→Prop) (cs : List Nat) (ks : List Pat) (v : Pv) (w : World) (hp : PatX w X (.node 1 cs ks) v) (hC : Rd w 1 C0 (cl.map encN)) (hz : cs.length≤4000000) :
  Calls Tryz.prog 215 #[valPt v,.slice C0 n c0] w (MtEnd w (n+1) (setM cl cs)):=by
 obtain ⟨o,⟨A,nc,c⟩,⟨B,m,d⟩⟩:=v
 simp only [PatX] at hp
 obtain ⟨rfl,hA,vs,hB,hK⟩:=hp
 have hcn : cs.length = nc:=by have:=hA.len;rwa [List.length_map] at this
 have hcs:=hA.rd
 unfold valPt
 simp only at hcs ⊢
 have hb0 : Blk (w.alloc (.cells #[.int .i64 ((1 : Nat) : Int),.slice A nc c,.slice B m d] 221)) w.heap.size 221 _:=Blk.new _ _ _
 have Hz : Below w.heap.size w (w.alloc (.cells #[.int .i64 ((1 : Nat) : Int),.slice A nc c,.slice B m d] 221)):=(Below.refl _ _).alloc (Nat.le_refl _) _
 have Hl:=Lib.hid hl
 have HN:=Lib.hid (fun W=>jnone_any (n+1) W (by omega))
 obtain ⟨n1,Hn1⟩ : ∃ n1,Hid (n+1 = n1):=⟨_,Lib.hid rfl⟩
 obtain ⟨k,Hk⟩ : ∃ k,Hid (n1 / 64+1 = k):=⟨_,Lib.hid rfl⟩
 have hk0 : 0 < k:=by have:=Hk.out;omega
 have e1 : (n : Int)+1 = (n1 : Int):=by have:=Hn1.out;omega
 have hnz : n1≤100001:=by have:=Hn1.out;omega
 unfold MtEnd
 simp only [Hn1.out,Hk.out] at HN ⊢
 clear hA hB hK hl
 go_enter Tryz.func215,Tryz.ntmps215
 go_wp2_with fail
 generalize (w.alloc (.cells #[.int .i64 ((1 : Nat) : Int),.slice A nc c,.slice B m d] 221)) = w1 at Hz hb0 ⊢
 refine (HN.out w1).mono ?_
 rintro e w2 ⟨A2,c2,rows,rfl,ho2,hb2⟩
 have k10:=hb0.cell 1
 simp only [zG,zI,zH] at k10
 have HZ:=Lib.hid (zero_bits n1 k)
 generalize zeroC n1 k = CC at ho2 HZ
 have k1:=cell_keep k10 hb2
 clear hb0 HN
 go_wp2_with fail
 go_loopw [7] (fun v wr=>∃ (i : Nat) (C : List (List Nat)),v = .int .i64 i∧i≤n∧MtO wr w1.heap.size A2 n1 c2 k rows C∧Hid (BitsM n1 C (setTo cl cs i))∧Below w1.heap.size w1 wr) (fun v _=>n - (intOf v).toNat)
 case atStart=>exact ⟨0,CC,rfl,by omega,ho2,Lib.hid (HZ.out.congr fun i j _ _=>by simp [setTo,noneM]),hb2⟩
 case round =>
  clear HZ ho2
  obtain ⟨i,C,rfl,hi,ho,HB,hbr⟩:=hrel
  have hbwr:=below_two Hz hbr
  replace k1:=cell_keep k10 hbr
  by_cases hlt : i < n
  ·obtain ⟨x,hx⟩ : ∃ x,cl[i]? = some x:=⟨_,List.getElem?_eq_getElem (by have:=Hl.out;omega)⟩
   obtain ⟨bk,off,rfl,hc⟩:=hC.atNa hx
   replace hc:=cell_keep hc hbwr
   have hcsr:=hcs.below hbwr
   obtain ⟨q,Hq⟩ : ∃ q,Hid (cs.contains x = q):=⟨_,Lib.hid rfl⟩
   have HI:=Lib.hid (fun p=>jin_any A nc c cs x (wr.drewN p) (hcsr.drewN p) hcn (by omega))
   rw [Hq.out] at HI
   have HS:=Lib.hid (fun kk=>setM_at (cs:=cs) hx kk)
   rw [Hq.out] at HS
   clear hx hcs
   cases q with
   | false =>
    go_wp2_with fail
    go_quiet ((go_at_call 245;exact quiet_left (HI.out _)))
    go_wp2
    go_roundw
    case rel=>exact ⟨i+1,C,by go_num,by omega,ho.below (below_refl_drewN _ _),Lib.hid (HB.out.congr fun y j _ _=>by
     unfold setTo
     by_cases e : y = i
     ·subst e;rw [HS.out];simp
     ·congr 1;exact decide_eq_decide.2 (by omega)),below_drewN hbr _⟩
    case measure=>simp [intOf];omega
   | true =>
    obtain ⟨bb,g,dd,y,rfl,hr,hcg,hy,hy2,hoy,hwy⟩:=ho.at_ (i:=i) (by have:=Hn1.out;omega) hk0
    have hgl:=(hoy.lt _ rfl).1
    have HC:=Lib.hid (show i < C.length by rw [ho.len];have:=Hn1.out;omega)
    have HBx:=Lib.hid (HB.out.row hy2 (by have:=Hn1.out;omega))
    have HSt:=Lib.hid (fun p=>jset_any w1.heap.size g k dd (i+1) y (wr.drewN p) (hoy.drewN p) hwy (by have:=Hk.out;have:=Hn1.out;omega) (by omega))
    obtain ⟨i1,Hi1⟩ : ∃ i1,Hid (i+1 = i1):=⟨_,Lib.hid rfl⟩
    have e2 : (i : Int)+1 = (i1 : Int):=by have:=Hi1.out;omega
    have e3 : i1≤n:=by have:=Hi1.out;omega
    have hin1 : i < n1:=by have:=Hn1.out;omega
    simp only [Hi1.out] at HSt
    clear hy hy2
    go_wp2_with fail
    go_quiet ((go_at_call 245;exact quiet_left (HI.out _)))
    go_wp2_with fail
    refine (HSt.out _).mono ?_
    rintro e w4 ⟨rfl,ho4,hg4⟩
    have hg4' : wr.grownBy w4 (some g):=⟨hg4.os,hg4.tape,hg4.output,hg4.size,hg4.block⟩
    have hm:=ho.wrote hr hg4' ho4 (hwy.set_ i1)
    have hb4 : Below w1.heap.size w1 w4:=hbr.trans (below_only hg4' hbr.size hgl)
    go_wp2
    go_roundw
    case rel =>
     refine ⟨i1,_,rfl,e3,hm,Lib.hid (HB.out.step HC.out (fun j hj=>?_) (fun z j _ _ hz=>?_)),hb4⟩
     ·rw [hasW_set (by rw [hwy.len];have:=Hk.out;have:=Hn1.out;omega),HBx.out j hj]
      unfold setTo
      rw [HS.out,Hi1.out,decide_eq_true (by have:=Hi1.out;omega : i < i1),decide_eq_false (by omega : ¬ i < i)]
      simp
     ·unfold setTo
      congr 1
      exact decide_eq_decide.2 (by have:=Hi1.out;omega)
    case measure=>simp [intOf];have:=Hi1.out;omega
  ·obtain rfl : i = n:=by omega
   go_wp2
   go_ret
   exact ⟨A2,c2,rows,C,rfl,ho.more Hz.size,HB.out.congr fun x j hx _=>by
    unfold setTo
    by_cases e : x < i
    ·rw [decide_eq_true e,Bool.true_and]
    ·rw [setM_end (by have:=Hl.out;omega)];simp,hbwr⟩
theorem jleads_then (hl : cl.length = n) (hn : n≤100000) (X : Nat→Prop) (cs : List Nat) (ks : List Pat) (v : Pv) (w : World) (hp : PatX w X (.node 2 cs ks) v) (hC : Rd w 1 C0 (cl.map encN))
  (HK : ∀ p ∈ ks,KidLeads cl C0 n c0 p) (hg : goodL 64 ks = true) (hz : ks.length≤2048) :
  Calls Tryz.prog 215 #[valPt v,.slice C0 n c0] w (MtEnd w (n+1) (thenP cl ks ownM)):=by
 obtain ⟨o,⟨A,nc,c⟩,⟨B,m,d⟩⟩:=v
 simp only [PatX] at hp
 obtain ⟨rfl,hA,vs,hB,hKs⟩:=hp
 have hm : vs.length = m:=by have:=hB.len;rwa [List.length_map] at this
 have hk:=hKs.len
 unfold valPt
 simp only
 have hb0 : Blk (w.alloc (.cells #[.int .i64 ((2 : Nat) : Int),.slice A nc c,.slice B m d] 221)) w.heap.size 221 _:=Blk.new _ _ _
 have Hz : Below w.heap.size w (w.alloc (.cells #[.int .i64 ((2 : Nat) : Int),.slice A nc c,.slice B m d] 221)):=(Below.refl _ _).alloc (Nat.le_refl _) _
 have Hl:=Lib.hid hl
 have HKs:=Lib.hid hKs
 have HB:=Lib.hid hB
 have HKk:=Lib.hid HK
 have Hg:=Lib.hid hg
 have hmz : m≤2048:=by omega
 have Hkm:=Lib.hid (show ks.length = m by omega)
 have hN1 : cl.length+1 = n+1:=by omega
 have HN:=Lib.hid (fun W=>jown_any (n+1) W (by omega))
 have HBe:=Lib.hid (fun A1 A2 c1 c2 CA CB a b W h1 h2 h3 h4=>jbehind_any A1 A2 (n+1) c1 c2 CA CB a b W h1 h2 h3 h4 (by omega))
 obtain ⟨n1,Hn1⟩ : ∃ n1,Hid (n+1 = n1):=⟨_,Lib.hid rfl⟩
 have Hst:=Lib.hid (fun (i : Nat) (p : Pat) (h : ks[i]? = some p)=>show thenP cl (ks.take (i+1)) ownM = behindM (n+1) (thenP cl (ks.take i) ownM) (leadsP cl p) by rw [take_snoc h,thenP_snoc,hN1] )
 have e1 : (n : Int)+1 = (n1 : Int):=by have:=Hn1.out;omega
 have hnz : n1≤100001:=by have:=Hn1.out;omega
 unfold KidLeads at HKk
 rw [hN1] at HKk
 simp only [Hn1.out] at HN HKk HBe Hst ⊢
 clear hA hB hKs hl hk hm HK hg hN1
 go_enter Tryz.func215,Tryz.ntmps215
 go_wp2_with fail
 generalize (w.alloc (.cells #[.int .i64 ((2 : Nat) : Int),.slice A nc c,.slice B m d] 221)) = w1 at Hz hb0 ⊢
 refine (HN.out w1).mono ?_
 have k20:=hb0.cell 2
 simp only [zG,zI,zH] at k20
 clear hb0 HN
 rintro e w2 ⟨A2,c2,rows2,C2,rfl,ho2,hBt2,hb2⟩
 replace hBt2 : Hid (BitsM n1 C2 (thenP cl (ks.take 0) ownM)):=Lib.hid hBt2
 have k2:=cell_keep k20 hb2
 go_wp2_with fail
 go_loopw [8,9] (fun u v wr=>∃ (i : Nat) (A1 : Option Addr) (c1 : Nat) (rows : List Sv) (C : List (List Nat)),u = .slice A1 n1 c1∧v = .int .i64 i∧i≤m∧MtO wr w1.heap.size A1 n1 c1 (n1 / 64+1) rows C∧Hid (BitsM n1 C (thenP cl (ks.take i) ownM))∧Below w1.heap.size w1 wr) (fun _ v _=>m - (intOf v).toNat)
 case atStart=>exact ⟨0,A2,c2,rows2,C2,rfl,rfl,by omega,ho2,hBt2,hb2⟩
 case round =>
  clear ho2 hBt2
  obtain ⟨i,A1,c1,rows,C,rfl,rfl,hi,ho,HBt,hbr⟩:=hrel
  have hbwr:=below_two Hz hbr
  replace k2:=cell_keep k20 hbr
  by_cases hlt : i < m
  ·obtain ⟨q,hq⟩ : ∃ q,ks[i]? = some q:=⟨_,List.getElem?_eq_getElem (by have:=Hkm.out;omega)⟩
   obtain ⟨u,hu,hp⟩:=HKs.out.at_ hq
   obtain ⟨b,off,e,x0,x1,x2⟩:=HB.out.atPt hu
   simp only at e
   subst e
   replace x0:=cell_keep x0 hbwr
   replace x1:=cell_keep x1 hbwr
   replace x2:=cell_keep x2 hbwr
   have HC:=Lib.hid (HKk.out q (List.mem_of_getElem? hq) X u wr (hp.below hbwr) (goodL_at Hg.out hq) (hC.below hbwr))
   have HS:=Lib.hid (Hst.out i q hq)
   unfold valPt at HC
   clear hq hp hu
   go_wp2_with fail
   refine HC.out.mono ?_
   rintro e w3 he3
   obtain ⟨A3,c3,C3,rfl,hr3,hBt3,hb3⟩:=he3.rd
   have HBe2:=Lib.hid (HBe.out A1 A3 c1 c3 C C3 _ _ w3 (ho.below hb3).rd HBt.out hr3 hBt3)
   clear he3 hr3 hBt3 HC
   go_wp2_with fail
   refine HBe2.out.mono ?_
   rintro e w4 ⟨A4,c4,rows4,C4,rfl,ho4,hBt4,hb4⟩
   rw [← HS.out] at hBt4
   have hb5:=below_step hbr (below_two hb3 hb4) hbr.size
   have ho5:=ho4.more (b':=w1.heap.size) (below_two hbr hb3 |>.size)
   have HBt5:=Lib.hid hBt4
   clear hBt4 ho4
   go_wp2
   go_roundw
   case rel=>exact ⟨i+1,A4,c4,rows4,C4,rfl,by go_num,by omega,ho5,HBt5,hb5⟩
   case measure=>simp [intOf];omega
  ·obtain rfl : i = m:=by omega
   have HE:=Lib.hid (show ks.take i = ks from List.take_of_length_le (by have:=Hkm.out;omega))
   rw [HE.out] at HBt
   go_wp2
   go_ret
   exact ⟨A1,c1,rows,C,rfl,ho.more Hz.size,HBt.out,hbwr⟩
theorem jleads_or (hl : cl.length = n) (hn : n≤100000) (X : Nat→Prop) (cs : List Nat) (ks : List Pat) (v : Pv) (w : World) (hp : PatX w X (.node 3 cs ks) v) (hC : Rd w 1 C0 (cl.map encN))
  (HK : ∀ p ∈ ks,KidLeads cl C0 n c0 p) (hg : goodL 64 ks = true) (hz : ks.length≤2048) :
  Calls Tryz.prog 215 #[valPt v,.slice C0 n c0] w (MtEnd w (n+1) (orP cl ks noneM)):=by
 obtain ⟨o,⟨A,nc,c⟩,⟨B,m,d⟩⟩:=v
 simp only [PatX] at hp
 obtain ⟨rfl,hA,vs,hB,hKs⟩:=hp
 have hm : vs.length = m:=by have:=hB.len;rwa [List.length_map] at this
 have hk:=hKs.len
 unfold valPt
 simp only
 have hb0 : Blk (w.alloc (.cells #[.int .i64 ((3 : Nat) : Int),.slice A nc c,.slice B m d] 221)) w.heap.size 221 _:=Blk.new _ _ _
 have Hz : Below w.heap.size w (w.alloc (.cells #[.int .i64 ((3 : Nat) : Int),.slice A nc c,.slice B m d] 221)):=(Below.refl _ _).alloc (Nat.le_refl _) _
 have Hl:=Lib.hid hl
 have HKs:=Lib.hid hKs
 have HB:=Lib.hid hB
 have HKk:=Lib.hid HK
 have Hg:=Lib.hid hg
 have hmz : m≤2048:=by omega
 have Hkm:=Lib.hid (show ks.length = m by omega)
 have hN1 : cl.length+1 = n+1:=by omega
 have HN:=Lib.hid (fun W=>jnone_any (n+1) W (by omega))
 have HBe:=Lib.hid (fun A1 A2 c1 c2 CA CB a b W h1 h2 h3 h4=>jboth_any A1 A2 (n+1) c1 c2 CA CB a b W h1 h2 h3 h4 (by omega))
 obtain ⟨n1,Hn1⟩ : ∃ n1,Hid (n+1 = n1):=⟨_,Lib.hid rfl⟩
 have Hst:=Lib.hid (fun (i : Nat) (p : Pat) (h : ks[i]? = some p)=>show orP cl (ks.take (i+1)) noneM = bothM (orP cl (ks.take i) noneM) (leadsP cl p) by rw [take_snoc h,orP_snoc])
 have e1 : (n : Int)+1 = (n1 : Int):=by have:=Hn1.out;omega
 have hnz : n1≤100001:=by have:=Hn1.out;omega
 unfold KidLeads at HKk
 rw [hN1] at HKk
 simp only [Hn1.out] at HN HKk HBe Hst ⊢
 clear hA hB hKs hl hk hm HK hg hN1
 go_enter Tryz.func215,Tryz.ntmps215
 go_wp2_with fail
 generalize (w.alloc (.cells #[.int .i64 ((3 : Nat) : Int),.slice A nc c,.slice B m d] 221)) = w1 at Hz hb0 ⊢
 refine (HN.out w1).mono ?_
 have k20:=hb0.cell 2
 simp only [zG,zI,zH] at k20
 clear hb0 HN
 rintro e w2 ⟨A2,c2,rows2,rfl,ho2,hb2⟩
 have hBt2:=Lib.hid (zero_bits n1 (n1 / 64+1))
 generalize zeroC n1 (n1 / 64+1) = C2 at ho2 hBt2
 replace hBt2 : Hid (BitsM n1 C2 (orP cl (ks.take 0) noneM)):=hBt2
 have k2:=cell_keep k20 hb2
 go_wp2_with fail
 go_loopw [10,11] (fun u v wr=>∃ (i : Nat) (A1 : Option Addr) (c1 : Nat) (rows : List Sv) (C : List (List Nat)),u = .slice A1 n1 c1∧v = .int .i64 i∧i≤m∧MtO wr w1.heap.size A1 n1 c1 (n1 / 64+1) rows C∧Hid (BitsM n1 C (orP cl (ks.take i) noneM))∧Below w1.heap.size w1 wr) (fun _ v _=>m - (intOf v).toNat)
 case atStart=>exact ⟨0,A2,c2,rows2,C2,rfl,rfl,by omega,ho2,hBt2,hb2⟩
 case round =>
  clear ho2 hBt2
  obtain ⟨i,A1,c1,rows,C,rfl,rfl,hi,ho,HBt,hbr⟩:=hrel
  have hbwr:=below_two Hz hbr
  replace k2:=cell_keep k20 hbr
  by_cases hlt : i < m
  ·obtain ⟨q,hq⟩ : ∃ q,ks[i]? = some q:=⟨_,List.getElem?_eq_getElem (by have:=Hkm.out;omega)⟩
   obtain ⟨u,hu,hp⟩:=HKs.out.at_ hq
   obtain ⟨b,off,e,x0,x1,x2⟩:=HB.out.atPt hu
   simp only at e
   subst e
   replace x0:=cell_keep x0 hbwr
   replace x1:=cell_keep x1 hbwr
   replace x2:=cell_keep x2 hbwr
   have HC:=Lib.hid (HKk.out q (List.mem_of_getElem? hq) X u wr (hp.below hbwr) (goodL_at Hg.out hq) (hC.below hbwr))
   have HS:=Lib.hid (Hst.out i q hq)
   unfold valPt at HC
   clear hq hp hu
   go_wp2_with fail
   refine HC.out.mono ?_
   rintro e w3 he3
   obtain ⟨A3,c3,C3,rfl,hr3,hBt3,hb3⟩:=he3.rd
   have HBe2:=Lib.hid (HBe.out A1 A3 c1 c3 C C3 _ _ w3 (ho.below hb3).rd HBt.out hr3 hBt3)
   clear he3 hr3 hBt3 HC
   go_wp2_with fail
   refine HBe2.out.mono ?_
   rintro e w4 ⟨A4,c4,rows4,C4,rfl,ho4,hBt4,hb4⟩
   rw [← HS.out] at hBt4
   have hb5:=below_step hbr (below_two hb3 hb4) hbr.size
   have ho5:=ho4.more (b':=w1.heap.size) (below_two hbr hb3 |>.size)
   have HBt5:=Lib.hid hBt4
   clear hBt4 ho4
   go_wp2
   go_roundw
   case rel=>exact ⟨i+1,A4,c4,rows4,C4,rfl,by go_num,by omega,ho5,HBt5,hb5⟩
   case measure=>simp [intOf];omega
  ·obtain rfl : i = m:=by omega
   have HE:=Lib.hid (show ks.take i = ks from List.take_of_length_le (by have:=Hkm.out;omega))
   rw [HE.out] at HBt
   go_wp2
   go_ret
   exact ⟨A1,c1,rows,C,rfl,ho.more Hz.size,HBt.out,hbwr⟩
end
end
section
open Go.RowKit
section
variable {cl : List Nat} {C0 : Option Addr} {n c0 : Nat}
theorem jleads_empty (hn : n≤100000) (X : Nat→Prop) (cs : List Nat) (ks : List Pat) (v : Pv) (w : World) (hp : PatX w X (.node 0 cs ks) v) :
  Calls Tryz.prog 215 #[valPt v,.slice C0 n c0] w (MtEnd w (n+1) ownM):=by
 obtain ⟨o,⟨A,nc,c⟩,⟨B,m,d⟩⟩:=v
 simp only [PatX] at hp
 obtain ⟨rfl,hA,vs,hB,hK⟩:=hp
 unfold valPt
 simp only
 have Hz : Below w.heap.size w (w.alloc (.cells #[.int .i64 ((0 : Nat) : Int),.slice A nc c,.slice B m d] 221)):=(Below.refl _ _).alloc (Nat.le_refl _) _
 have HN:=Lib.hid (fun W=>jown_any (n+1) W (by omega))
 obtain ⟨n1,Hn1⟩ : ∃ n1,Hid (n+1 = n1):=⟨_,Lib.hid rfl⟩
 have e1 : (n : Int)+1 = (n1 : Int):=by have:=Hn1.out;omega
 simp only [Hn1.out] at HN ⊢
 clear hA hB hK
 go_enter Tryz.func215,Tryz.ntmps215
 go_wp2_with fail
 refine (HN.out _).mono ?_
 rintro e w2 ⟨A2,c2,rows2,C2,rfl,ho2,hBt2,hb2⟩
 go_wp2
 go_ret
 exact ⟨A2,c2,rows2,C2,rfl,ho2.more Hz.size,hBt2,below_two Hz hb2⟩
theorem jleads_many (hl : cl.length = n) (hn : n≤100000) (X : Nat→Prop) (cs : List Nat) (p : Pat) (v : Pv) (w : World) (hp : PatX w X (.node 4 cs [p]) v) (hC : Rd w 1 C0 (cl.map encN)) (HK : KidLeads cl C0 n c0 p) (hg : goodP 64 p = true) :
  Calls Tryz.prog 215 #[valPt v,.slice C0 n c0] w (MtEnd w (n+1) (moreM (n+1) (leadsP cl p))):=by
 obtain ⟨o,⟨A,nc,c⟩,⟨B,m,d⟩⟩:=v
 simp only [PatX,PatsX] at hp
 obtain ⟨rfl,hA,vs,hB,u,r,rfl,hpu,rfl⟩:=hp
 have hm : 1 = m:=by have:=hB.len;simpa using this
 subst hm
 unfold valPt
 show Calls Tryz.prog 215 #[.agg #[.int .i64 4,.slice A nc c,.slice B 1 d],.slice C0 n c0] w _
 have hb0 : Blk (w.alloc (.cells #[.int .i64 4,.slice A nc c,.slice B 1 d] 221)) w.heap.size 221 _:=Blk.new _ _ _
 have Hz : Below w.heap.size w (w.alloc (.cells #[.int .i64 4,.slice A nc c,.slice B 1 d] 221)):=(Below.refl _ _).alloc (Nat.le_refl _) _
 obtain ⟨b,off,e,x0,x1,x2⟩:=hB.atPt (k:=0) (x:=u) rfl
 simp only at e
 subst e
 replace x0:=cell_keep x0 Hz
 replace x1:=cell_keep x1 Hz
 replace x2:=cell_keep x2 Hz
 simp only [Nat.zero_mul,Nat.add_zero] at x0 x1 x2
 unfold KidLeads at HK
 have hN1 : cl.length+1 = n+1:=by omega
 rw [hN1] at HK
 have HKk:=Lib.hid (HK X u _ (hpu.below Hz) hg (hC.below Hz))
 have HM:=Lib.hid (fun A1 c1 CA a W h1 h2=>jmore_any A1 (n+1) c1 CA a W h1 h2 (by omega))
 obtain ⟨n1,Hn1⟩ : ∃ n1,Hid (n+1 = n1):=⟨_,Lib.hid rfl⟩
 simp only [Hn1.out] at HKk HM ⊢
 unfold valPt at HKk
 clear hA hB hpu HK hl hN1
 go_enter Tryz.func215,Tryz.ntmps215
 go_wp2_with fail
 generalize (w.alloc (.cells #[.int .i64 4,.slice A nc c,.slice (some ⟨b,off,none⟩) 1 d] 221)) = w1 at *
 refine HKk.out.mono ?_
 rintro e w2 he
 obtain ⟨A2,c2,C2,rfl,hr2,hBt2,hb2⟩:=he.rd
 have HM2:=Lib.hid (HM.out A2 c2 C2 _ w2 hr2 hBt2)
 clear he hr2 hBt2 HKk HM
 go_wp2_with fail
 refine HM2.out.mono ?_
 rintro e w3 ⟨A3,c3,rows3,C3,rfl,ho3,hBt3,hb3⟩
 go_wp2
 go_ret
 exact ⟨A3,c3,rows3,C3,rfl,ho3.more (below_two Hz hb2).size,hBt3,below_two (below_two Hz hb2) hb3⟩
theorem jleads_some (hl : cl.length = n) (hn : n≤100000) (X : Nat→Prop) (cs : List Nat) (p : Pat) (v : Pv) (w : World) (hp : PatX w X (.node 5 cs [p]) v) (hC : Rd w 1 C0 (cl.map encN)) (HK : KidLeads cl C0 n c0 p) (hg : goodP 64 p = true) :
  Calls Tryz.prog 215 #[valPt v,.slice C0 n c0] w (MtEnd w (n+1) (behindM (n+1) (leadsP cl p) (moreM (n+1) (leadsP cl p)))):=by
 obtain ⟨o,⟨A,nc,c⟩,⟨B,m,d⟩⟩:=v
 simp only [PatX,PatsX] at hp
 obtain ⟨rfl,hA,vs,hB,u,r,rfl,hpu,rfl⟩:=hp
 have hm : 1 = m:=by have:=hB.len;simpa using this
 subst hm
 unfold valPt
 show Calls Tryz.prog 215 #[.agg #[.int .i64 5,.slice A nc c,.slice B 1 d],.slice C0 n c0] w _
 have hb0 : Blk (w.alloc (.cells #[.int .i64 5,.slice A nc c,.slice B 1 d] 221)) w.heap.size 221 _:=Blk.new _ _ _
 have Hz : Below w.heap.size w (w.alloc (.cells #[.int .i64 5,.slice A nc c,.slice B 1 d] 221)):=(Below.refl _ _).alloc (Nat.le_refl _) _
 obtain ⟨b,off,e,x0,x1,x2⟩:=hB.atPt (k:=0) (x:=u) rfl
 simp only at e
 subst e
 replace x0:=cell_keep x0 Hz
 replace x1:=cell_keep x1 Hz
 replace x2:=cell_keep x2 Hz
 simp only [Nat.zero_mul,Nat.add_zero] at x0 x1 x2
 unfold KidLeads at HK
 have hN1 : cl.length+1 = n+1:=by omega
 rw [hN1] at HK
 have HKk:=Lib.hid (HK X u _ (hpu.below Hz) hg (hC.below Hz))
 have HM:=Lib.hid (fun A1 c1 CA a W h1 h2=>jmore_any A1 (n+1) c1 CA a W h1 h2 (by omega))
 have HBe:=Lib.hid (fun A1 A2 c1 c2 CA CB a b W h1 h2 h3 h4=>jbehind_any A1 A2 (n+1) c1 c2 CA CB a b W h1 h2 h3 h4 (by omega))
 obtain ⟨n1,Hn1⟩ : ∃ n1,Hid (n+1 = n1):=⟨_,Lib.hid rfl⟩
 simp only [Hn1.out] at HKk HM HBe ⊢
 unfold valPt at HKk
 clear hA hB hpu HK hl hN1
 go_enter Tryz.func215,Tryz.ntmps215
 go_wp2_with fail
 generalize (w.alloc (.cells #[.int .i64 5,.slice A nc c,.slice (some ⟨b,off,none⟩) 1 d] 221)) = w1 at *
 refine HKk.out.mono ?_
 rintro e w2 he
 obtain ⟨A2,c2,C2,rfl,hr2,hBt2,hb2⟩:=he.rd
 have HM2:=Lib.hid (HM.out A2 c2 C2 _ w2 hr2 hBt2)
 have Hr2:=Lib.hid hr2
 have HB2:=Lib.hid hBt2
 clear he hr2 hBt2 HKk HM
 go_wp2_with fail
 refine HM2.out.mono ?_
 rintro e w3 he3
 obtain ⟨A3,c3,C3,rfl,hr3,hBt3,hb3⟩:=he3.rd
 have HE:=Lib.hid (HBe.out A2 A3 c2 c3 C2 C3 _ _ w3 (Hr2.out.below hb3) HB2.out hr3 hBt3)
 clear he3 hr3 hBt3 HM2 HBe
 go_wp2_with fail
 refine HE.out.mono ?_
 rintro e w4 ⟨A4,c4,rows4,C4,rfl,ho4,hBt4,hb4⟩
 go_wp2
 go_ret
 exact ⟨A4,c4,rows4,C4,rfl,ho4.more (below_two (below_two Hz hb2) hb3).size,hBt4,below_two (below_two (below_two Hz hb2) hb3) hb4⟩
theorem jleads_may (hl : cl.length = n) (hn : n≤100000) (X : Nat→Prop) (cs : List Nat) (p : Pat) (v : Pv) (w : World) (hp : PatX w X (.node 6 cs [p]) v) (hC : Rd w 1 C0 (cl.map encN)) (HK : KidLeads cl C0 n c0 p) (hg : goodP 64 p = true) :
  Calls Tryz.prog 215 #[valPt v,.slice C0 n c0] w (MtEnd w (n+1) (bothM ownM (leadsP cl p))):=by
 obtain ⟨o,⟨A,nc,c⟩,⟨B,m,d⟩⟩:=v
 simp only [PatX,PatsX] at hp
 obtain ⟨rfl,hA,vs,hB,u,r,rfl,hpu,rfl⟩:=hp
 have hm : 1 = m:=by have:=hB.len;simpa using this
 subst hm
 unfold valPt
 show Calls Tryz.prog 215 #[.agg #[.int .i64 6,.slice A nc c,.slice B 1 d],.slice C0 n c0] w _
 have hb0 : Blk (w.alloc (.cells #[.int .i64 6,.slice A nc c,.slice B 1 d] 221)) w.heap.size 221 _:=Blk.new _ _ _
 have Hz : Below w.heap.size w (w.alloc (.cells #[.int .i64 6,.slice A nc c,.slice B 1 d] 221)):=(Below.refl _ _).alloc (Nat.le_refl _) _
 obtain ⟨b,off,e,x0,x1,x2⟩:=hB.atPt (k:=0) (x:=u) rfl
 simp only at e
 subst e
 replace x0:=cell_keep x0 Hz
 replace x1:=cell_keep x1 Hz
 replace x2:=cell_keep x2 Hz
 simp only [Nat.zero_mul,Nat.add_zero] at x0 x1 x2
 unfold KidLeads at HK
 have hN1 : cl.length+1 = n+1:=by omega
 rw [hN1] at HK
 have HPu:=Lib.hid (And.intro (hpu.below Hz) (And.intro hg (hC.below Hz)))
 have HKk:=Lib.hid (fun W h1 h2 h3=>HK X u W h1 h2 h3)
 have HO:=Lib.hid (fun W=>jown_any (n+1) W (by omega))
 have HBe:=Lib.hid (fun A1 A2 c1 c2 CA CB a b W h1 h2 h3 h4=>jboth_any A1 A2 (n+1) c1 c2 CA CB a b W h1 h2 h3 h4 (by omega))
 obtain ⟨n1,Hn1⟩ : ∃ n1,Hid (n+1 = n1):=⟨_,Lib.hid rfl⟩
 have e1 : (n : Int)+1 = (n1 : Int):=by have:=Hn1.out;omega
 simp only [Hn1.out] at HKk HO HBe ⊢
 unfold valPt at HKk
 have k2:=hb0.cell 2
 simp only [zG,zI,zH] at k2
 clear hA hB hpu HK hl hN1 hb0
 go_enter Tryz.func215,Tryz.ntmps215
 go_wp2_with fail
 generalize (w.alloc (.cells #[.int .i64 6,.slice A nc c,.slice (some ⟨b,off,none⟩) 1 d] 221)) = w1 at *
 have HKk2:=Lib.hid (fun W (h : Below w1.heap.size w1 W)=>HKk.out W (HPu.out.1.below h) HPu.out.2.1 (HPu.out.2.2.below h))
 have hbW : Below w1.heap.size w1 w1.drew:=(Below.refl _ _).drew
 have d2 : w1.drew.cell? ⟨w.heap.size,2,none⟩ = some (.slice (some ⟨b,off,none⟩) 1 d):=k2
 have d4 : w1.drew.cell? ⟨b,off,none⟩ = some (.int .i64 (u.1 : Int)):=x0
 have d5 : w1.drew.cell? ⟨b,off+1,none⟩ = some (.slice u.2.1.1 u.2.1.2.1 u.2.1.2.2):=x1
 have d6 : w1.drew.cell? ⟨b,off+2,none⟩ = some (.slice u.2.2.1 u.2.2.2.1 u.2.2.2.2):=x2
 clear HKk HPu
 refine wp_region_noPanic ?_
 go_region_law (first
  | (go_simp;go_at_call 249;refine (HO.out _).mono ?_;rintro e wz ⟨A9,c9,rows9,C9,rfl,ho9,hB9,hb9⟩;have hM1:=ho9.rd;have hbW:=below_step hbW hb9 hbW.size;have d2:=cell_keep d2 hb9;have d4:=cell_keep d4 hb9;have d5:=cell_keep d5 hb9;have d6:=cell_keep d6 hb9;try have hM2:=hM2.below hb9)
  | (go_simp;go_at_call 215;refine (HKk2.out _ hbW).mono ?_;rintro e wz hz;obtain ⟨A8,c8,C8,rfl,hM2,hB8,hb8⟩:=hz.rd;have hbW:=below_step hbW hb8 hbW.size;have d2:=cell_keep d2 hb8;have d4:=cell_keep d4 hb8;have d5:=cell_keep d5 hb8;have d6:=cell_keep d6 hb8;try have hM1:=hM1.below hb8)
  | (go_simp;go_at_call 251;refine (HBe.out _ _ _ _ _ _ _ _ _ hM1 hB9 hM2 hB8).mono ?_;rintro e wz ⟨A7,c7,rows7,C7,rfl,ho7,hB7,hb7⟩;have hbX:=hbW;have hbW:=below_step hbW hb7 hbW.size))
 all_goals
  refine NoPanic.normal ?_
  go_wp2
  go_ret
  exact ⟨A7,c7,rows7,C7,rfl,ho7.more (below_two Hz hbX).size,hB7,below_two Hz hbW⟩
end
end
section
open Go.RowKit
theorem form_one {op : Nat} {ks : List Pat} (h : formOk op ks.length = true) (h4 : 4≤op) : ∃ p,ks = [p]:=by
 have h1 : ks.length = 1:=by
  unfold formOk at h
  rw [if_neg (by omega),if_neg (by omega)] at h
  simpa using h
 match ks,h1 with
 | [p],_=>exact ⟨p,rfl⟩
theorem jleads_all (cl : List Nat) (C0 : Option Addr) (n c0 : Nat) (hl : cl.length = n) (hn : n≤100000) : ∀ (z : Nat) (p : Pat),sizeP p≤z→sizeP p≤2048→KidLeads cl C0 n c0 p:=by
 intro z
 induction z with
 | zero=>intro p hz;have:=sizeP_pos p;omega
 | succ z ih =>
  intro p hz hs X v w hp hg hC
  obtain ⟨op,cs,ks⟩:=p
  have hg':=hg
  unfold goodP at hg
  rw [Bool.and_eq_true] at hg
  obtain ⟨h1,h2,h3,h4,h5⟩:=node_parts hg.1
  have hzl : sizeL ks≤z:=by unfold sizeP at hz;omega
  have hsl : sizeL ks≤2047:=by unfold sizeP at hs;omega
  have hk : ∀ p ∈ ks,KidLeads cl C0 n c0 p:=fun p hp=>by
   obtain ⟨i,hi,e⟩:=List.getElem_of_mem hp
   have h6:=sizeL_at (ks:=ks) (i:=i) (p:=p) (by rw [List.getElem?_eq_getElem hi,e])
   exact ih p (by omega) (by omega)
  have hkl:=sizeL_len ks
  have hN : cl.length+1 = n+1:=by omega
  have hcz : cs.length≤64:=rises_len h5 h4
  rw [hN]
  rcases (by omega : op = 0∨op = 1∨op = 2∨op = 3∨op = 4∨op = 5∨op = 6) with rfl | rfl | rfl | rfl | rfl | rfl | rfl
  ·have e : leadsP cl (.node 0 cs ks) = ownM:=by unfold leadsP;rfl
   rw [e]
   exact jleads_empty hn X cs ks v w hp
  ·have e : leadsP cl (.node 1 cs ks) = setM cl cs:=by unfold leadsP;rfl
   rw [e]
   exact jleads_set hl hn X cs ks v w hp hC (by omega)
  ·have e : leadsP cl (.node 2 cs ks) = thenP cl ks ownM:=by unfold leadsP;rfl
   rw [e]
   exact jleads_then hl hn X cs ks v w hp hC hk hg.2 (by omega)
  ·have e : leadsP cl (.node 3 cs ks) = orP cl ks noneM:=by unfold leadsP;rfl
   rw [e]
   exact jleads_or hl hn X cs ks v w hp hC hk hg.2 (by omega)
  ·obtain ⟨q,rfl⟩:=form_one h3 (by omega)
   have e : leadsP cl (.node 4 cs [q]) = moreM (n+1) (leadsP cl q):=by (conv=>lhs;unfold leadsP);simp [headP,hN]
   rw [e]
   exact jleads_many hl hn X cs q v w hp hC (hk q (by simp)) (goodL_at hg.2 (i:=0) rfl)
  ·obtain ⟨q,rfl⟩:=form_one h3 (by omega)
   have e : leadsP cl (.node 5 cs [q]) = behindM (n+1) (leadsP cl q) (moreM (n+1) (leadsP cl q)):=by (conv=>lhs;unfold leadsP);simp [headP,hN]
   rw [e]
   exact jleads_some hl hn X cs q v w hp hC (hk q (by simp)) (goodL_at hg.2 (i:=0) rfl)
  ·obtain ⟨q,rfl⟩:=form_one h3 (by omega)
   have e : leadsP cl (.node 6 cs [q]) = bothM ownM (leadsP cl q):=by (conv=>lhs;unfold leadsP);simp [headP]
   rw [e]
   exact jleads_may hl hn X cs q v w hp hC (hk q (by simp)) (goodL_at hg.2 (i:=0) rfl)
theorem jleads_any (cl : List Nat) (C0 : Option Addr) (n c0 : Nat) (hl : cl.length = n) (hn : n≤100000) (X : Nat→Prop) (p : Pat) (v : Pv) (w : World) (hp : PatX w X p v) (hg : goodP 64 p = true) (hs : sizeP p≤2048) (hC : Rd w 1 C0 (cl.map encN)) :
  Calls Tryz.prog 215 #[valPt v,.slice C0 n c0] w (MtEnd w (cl.length+1) (leadsP cl p)):=jleads_all cl C0 n c0 hl hn (sizeP p) p (Nat.le_refl _) hs X v w hp hg hC
theorem filter_next {m : Nat→Bool} {i : Nat} : (List.range (i+1)).filter m = (List.range i).filter m++(if m i then [i] else []):=by
 rw [List.range_succ,List.filter_append]
 cases h : m i <;> simp [h]
theorem encN_ok' (l : List Nat) : ∀ y ∈ l.map encN,y.length = 1∧∀ u ∈ y,u.oneCell' = true:=by
 intro y hy
 obtain ⟨x,_,rfl⟩:=List.mem_map.1 hy
 exact ⟨rfl,fun u hu=>by simp [encN] at hu;rcases hu with rfl;rfl⟩
theorem jEnds_any (cl : List Nat) (C0 : Option Addr) (n c0 : Nat) (hl : cl.length = n) (hn : n≤100000) (X : Nat→Prop) (p : Pat) (v : Pv) (w : World) (hp : PatX w X p v) (hg : goodP 64 p = true) (hs : sizeP p≤2048) (hC : Rd w 1 C0 (cl.map encN)) :
  Calls Tryz.prog 183 #[valPt v,.slice C0 n c0] w fun e w'=>∃ A k c,e = .returned (.slice A k c)∧Own w' w.heap.size 3 1 A k c ((endsB p cl).map encN)∧Below w.heap.size w w':=by
 obtain ⟨i0,hi0,hz0,hz1,hz2⟩:=info_parts infoInt
 have HP:=Lib.hid hp
 have HG:=Lib.hid (fun W (h : PatX W X p v)=>jGood_any X p v W h (goodP_mono (by omega) hg) hs)
 have HL:=Lib.hid (fun W (h : PatX W X p v) (hc : Rd W 1 C0 (cl.map encN))=>jleads_any cl C0 n c0 hl hn X p v W h hg hs hc)
 have HE:=Lib.hid (show endsB p cl = (List.range (n+1)).filter fun i=>leadsP cl p 0 i by unfold endsB;rw [hl])
 rw [hl] at HL
 clear hp hg hl
 obtain ⟨n1,Hn1⟩ : ∃ n1,Hid (n+1 = n1):=⟨_,Lib.hid rfl⟩
 obtain ⟨k1,Hk1⟩ : ∃ k1,Hid (n1 / 64+1 = k1):=⟨_,Lib.hid rfl⟩
 simp only [Hn1.out] at HL
 unfold valPt at HG HL ⊢
 have Hz : Below w.heap.size w (w.alloc (.cells #[.int .i64 (v.1 : Int),.slice v.2.1.1 v.2.1.2.1 v.2.1.2.2,.slice v.2.2.1 v.2.2.2.1 v.2.2.2.2] 221)):=(Below.refl _ _).alloc (Nat.le_refl _) _
 have hb0 : Blk (w.alloc (.cells #[.int .i64 (v.1 : Int),.slice v.2.1.1 v.2.1.2.1 v.2.1.2.2,.slice v.2.2.1 v.2.2.2.1 v.2.2.2.2] 221)) w.heap.size 221 _:=Blk.new _ _ _
 go_enter Tryz.func183,Tryz.ntmps183
 go_wp2_with fail
 generalize (w.alloc (.cells #[.int .i64 (v.1 : Int),.slice v.2.1.1 v.2.1.2.1 v.2.1.2.2,.slice v.2.2.1 v.2.2.2.1 v.2.2.2.2] 221)) = w1 at Hz hb0 ⊢
 refine (HG.out w1 (HP.out.below Hz)).mono ?_
 rintro e w2 ⟨rfl,hb2⟩
 have hbw:=below_two Hz hb2
 have hb0':=hb0.below hb2
 have d0:=hb0'.cell 0
 have d1:=hb0'.cell 1
 have d2:=hb0'.cell 2
 simp only [zG,zI,zH] at d0 d1 d2
 have HL2:=Lib.hid (HL.out w2 (HP.out.below hbw) (hC.below hbw))
 clear HG HL hb0 hb0'
 go_wp2_with fail
 refine HL2.out.mono ?_
 rintro e w3 he
 obtain ⟨A2,c2,C2,rfl,hr2,hB2,hb3⟩:=he.rd
 obtain ⟨bm,om,Bm,dm,xm,em,km,-,hxm,hrm,hwm⟩:=hr2.at_ (i:=0) (by have:=Hn1.out;omega)
 simp only at em
 subst em
 simp only [Nat.add_zero] at km
 have HR:=Lib.hid (hB2.row hxm (by have:=Hn1.out;omega))
 rw [Hk1.out] at km hwm
 have hbw3:=below_two hbw hb3
 have hn1z : 0 < n1:=by have:=Hn1.out;omega
 have hn1z' : (0 : Int) < (n1 : Int):=by omega
 clear he hr2 hB2 hxm HL2 d0 d1 d2
 go_wp2_with fail
 go_loopw [6,7] (fun u z wr=>∃ (i : Nat) (A : Option Addr) (k c : Nat),u = .slice A k c∧z = .int .i64 i∧i≤n+1∧k≤i∧Own wr w3.heap.size 3 1 A k c (((List.range i).filter fun i=>leadsP cl p 0 i).map encN)∧Below w3.heap.size w3 wr) (fun _ z _=>n+1 - (intOf z).toNat)
 case atStart=>exact ⟨0,none,0,0,rfl,rfl,by omega,by omega,Own.nil_ _ _ _ _,Below.refl _ _⟩
 case round =>
  obtain ⟨i,A,k,c,rfl,rfl,hi,hki,ho,hb⟩:=hrel
  have hsz:=hb.size
  by_cases hlt : i≤n
  ·obtain ⟨q,Hq⟩ : ∃ q,Hid (leadsP cl p 0 i = q):=⟨_,Lib.hid rfl⟩
   have HH:=Lib.hid (jhas_any Bm k1 dm i xm wr (hrm.below hb) hwm (by have:=Hn1.out;have:=Hk1.out;omega) (by omega))
   rw [HR.out i (by have:=Hn1.out;omega),Hq.out] at HH
   have HF:=Lib.hid (filter_next (m:=fun i=>leadsP cl p 0 i) (i:=i))
   rw [Hq.out] at HF
   cases q with
   | false =>
    go_wp2_with fail
    refine HH.out.mono ?_
    rintro e w5 ⟨rfl,rfl⟩
    go_wp2
    go_roundw
    case rel=>exact ⟨i+1,A,k,c,rfl,by go_num,by omega,by omega,by rw [HF.out];simpa using ho,hb⟩
    case measure=>simp [intOf];omega
   | true =>
    go_wp2_with fail
    refine HH.out.mono ?_
    rintro e w5 ⟨rfl,rfl⟩
    go_wp2_with (at_builtin;go_must (refine wpList_app rfl (.tmp 25) (.tmp 27) _ rfl w3.heap.size 3 i0 _ 1 8 Tryz.underlying65 hi0 hz0 hz1 hz2 rfl (by omega) A k c _ rfl (ho.alloc _) _ 1 1 [encN i] rfl rfl (Rd.newAt (by simp) rfl) (encN_ok' [i]) (by unfold maxLen;omega) (by omega) (by simp;omega) ?_);intro A3 c3 w7 ho3 hg3 hA3)
    have hb7:=below_app (hb.alloc hsz (.cells #[.int .i64 (i : Int)] 3)) hg3 (by simp;omega) (fun a ha=>(ho.lt a ha).1)
    go_roundw
    case rel=>exact ⟨i+1,A3,k+1,c3,rfl,by go_num,by omega,by omega,by rw [HF.out,List.map_append];exact ho3,hb7⟩
    case measure=>simp [intOf];omega
  ·obtain rfl : i = n+1:=by omega
   rw [← HE.out] at ho
   obtain ⟨z,hz⟩ : ∃ z,n+1 = z:=⟨_,rfl⟩
   have ez : ((n : Int)+1) = (z : Int):=by omega
   go_wp2
   go_ret
   exact ⟨A,k,c,rfl,ho.more hbw3.size,below_two hbw3 hb⟩
end
section
open Go.RowKit
theorem jStarts_any (cl : List Nat) (C0 : Option Addr) (n c0 : Nat) (hl : cl.length = n) (hn : n≤100000) (X : Nat→Prop) (p : Pat) (v : Pv) (w : World) (hp : PatX w X p v) (hg : goodP 64 p = true) (hs : sizeP p≤2048) (hC : Rd w 1 C0 (cl.map encN)) :
  Calls Tryz.prog 182 #[valPt v,.slice C0 n c0] w fun e w'=>∃ A k c,e = .returned (.slice A k c)∧Own w' w.heap.size 3 1 A k c ((startsB p cl).map encN)∧Below w.heap.size w w':=by
 obtain ⟨i0,hi0,hz0,hz1,hz2⟩:=info_parts infoInt
 have HP:=Lib.hid hp
 have HG:=Lib.hid (fun W (h : PatX W X p v)=>jGood_any X p v W h (goodP_mono (by omega) hg) hs)
 have HL:=Lib.hid (fun W (h : PatX W X p v) (hc : Rd W 1 C0 (cl.map encN))=>jleads_any cl C0 n c0 hl hn X p v W h hg hs hc)
 have HE:=Lib.hid (show startsB p cl = (List.range (n+1)).filter fun i=>leadsP cl p i n by unfold startsB;rw [hl])
 rw [hl] at HL
 clear hp hg hl
 obtain ⟨n1,Hn1⟩ : ∃ n1,Hid (n+1 = n1):=⟨_,Lib.hid rfl⟩
 obtain ⟨k1,Hk1⟩ : ∃ k1,Hid (n1 / 64+1 = k1):=⟨_,Lib.hid rfl⟩
 simp only [Hn1.out] at HL
 unfold valPt at HG HL ⊢
 have Hz : Below w.heap.size w (w.alloc (.cells #[.int .i64 (v.1 : Int),.slice v.2.1.1 v.2.1.2.1 v.2.1.2.2,.slice v.2.2.1 v.2.2.2.1 v.2.2.2.2] 221)):=(Below.refl _ _).alloc (Nat.le_refl _) _
 have hb0 : Blk (w.alloc (.cells #[.int .i64 (v.1 : Int),.slice v.2.1.1 v.2.1.2.1 v.2.1.2.2,.slice v.2.2.1 v.2.2.2.1 v.2.2.2.2] 221)) w.heap.size 221 _:=Blk.new _ _ _
 go_enter Tryz.func182,Tryz.ntmps182
 go_wp2_with fail
 generalize (w.alloc (.cells #[.int .i64 (v.1 : Int),.slice v.2.1.1 v.2.1.2.1 v.2.1.2.2,.slice v.2.2.1 v.2.2.2.1 v.2.2.2.2] 221)) = w1 at Hz hb0 ⊢
 refine (HG.out w1 (HP.out.below Hz)).mono ?_
 rintro e w2 ⟨rfl,hb2⟩
 have hbw:=below_two Hz hb2
 have hb0':=hb0.below hb2
 have d0:=hb0'.cell 0
 have d1:=hb0'.cell 1
 have d2:=hb0'.cell 2
 simp only [zG,zI,zH] at d0 d1 d2
 have HL2:=Lib.hid (HL.out w2 (HP.out.below hbw) (hC.below hbw))
 clear HG HL hb0 hb0'
 go_wp2_with fail
 refine HL2.out.mono ?_
 rintro e w3 he
 obtain ⟨A2,c2,C2,rfl,hr2,hB2,hb3⟩:=he.rd
 have hbw3:=below_two hbw hb3
 have HB2:=Lib.hid hB2
 clear he HL2 d0 d1 d2 hB2
 go_wp2_with fail
 go_loopw [6,7] (fun u z wr=>∃ (i : Nat) (A : Option Addr) (k c : Nat),u = .slice A k c∧z = .int .i64 i∧i≤n+1∧k≤i∧Own wr w3.heap.size 3 1 A k c (((List.range i).filter fun i=>leadsP cl p i n).map encN)∧Below w3.heap.size w3 wr) (fun _ z _=>n+1 - (intOf z).toNat)
 case atStart=>exact ⟨0,none,0,0,rfl,rfl,by omega,by omega,Own.nil_ _ _ _ _,Below.refl _ _⟩
 case round =>
  obtain ⟨i,A,k,c,rfl,rfl,hi,hki,ho,hb⟩:=hrel
  have hsz:=hb.size
  by_cases hlt : i≤n
  ·obtain ⟨bm,om,Bm,dm,xm,em,km,-,hxm,hrm,hwm⟩:=hr2.at_ (i:=i) (by have:=Hn1.out;omega)
   simp only at em
   subst em
   have HR:=Lib.hid (HB2.out.row hxm (by have:=Hn1.out;omega))
   rw [Hk1.out] at km hwm
   replace km:=cell_keep km hb
   have hin1 : i < n1:=by have:=Hn1.out;omega
   obtain ⟨q,Hq⟩ : ∃ q,Hid (leadsP cl p i n = q):=⟨_,Lib.hid rfl⟩
   have HH:=Lib.hid (jhas_any Bm k1 dm n xm wr (hrm.below hb) hwm (by have:=Hn1.out;have:=Hk1.out;omega) (by omega))
   rw [HR.out n (by have:=Hn1.out;omega),Hq.out] at HH
   have HF:=Lib.hid (filter_next (m:=fun i=>leadsP cl p i n) (i:=i))
   rw [Hq.out] at HF
   clear hxm
   cases q with
   | false =>
    go_wp2_with fail
    refine HH.out.mono ?_
    rintro e w5 ⟨rfl,rfl⟩
    go_wp2
    go_roundw
    case rel=>exact ⟨i+1,A,k,c,rfl,by go_num,by omega,by omega,by rw [HF.out];simpa using ho,hb⟩
    case measure=>simp [intOf];omega
   | true =>
    go_wp2_with fail
    refine HH.out.mono ?_
    rintro e w5 ⟨rfl,rfl⟩
    go_wp2_with (at_builtin;go_must (refine wpList_app rfl (.tmp 27) (.tmp 29) _ rfl w3.heap.size 3 i0 _ 1 8 Tryz.underlying65 hi0 hz0 hz1 hz2 rfl (by omega) A k c _ rfl (ho.alloc _) _ 1 1 [encN i] rfl rfl (Rd.newAt (by simp) rfl) (encN_ok' [i]) (by unfold maxLen;omega) (by omega) (by simp;omega) ?_);intro A3 c3 w7 ho3 hg3 hA3)
    have hb7:=below_app (hb.alloc hsz (.cells #[.int .i64 (i : Int)] 3)) hg3 (by simp;omega) (fun a ha=>(ho.lt a ha).1)
    go_roundw
    case rel=>exact ⟨i+1,A3,k+1,c3,rfl,by go_num,by omega,by omega,by rw [HF.out,List.map_append];exact ho3,hb7⟩
    case measure=>simp [intOf];omega
  ·obtain rfl : i = n+1:=by omega
   rw [← HE.out] at ho
   obtain ⟨z,hz⟩ : ∃ z,n+1 = z:=⟨_,rfl⟩
   have ez : ((n : Int)+1) = (z : Int):=by omega
   go_wp2
   go_ret
   exact ⟨A,k,c,rfl,ho.more hbw3.size,below_two hbw3 hb⟩
theorem oin_any (A : Option Addr) (n c : Nat) (l : List Nat) (x : Nat) (w : World) (hA : Rd w 1 A (l.map encN)) (hl : l.length = n) (hn : n≤4000000) :
  Calls Tryz.prog 184 #[.slice A n c,.int .i64 (x : Nat)] w fun e w'=>e = .returned (.bool (l.contains x))∧w = w':=by
 have Hl:=Lib.hid hl
 clear hl
 go_enter Tryz.func184,Tryz.ntmps184
 go_wp2
 go_loopw [5] (fun v wr=>∃ i : Nat,v = .int .i64 i∧i≤n∧x ∉ l.take i∧wr = w) (fun v _=>n - (intOf v).toNat)
 case atStart=>exact ⟨0,rfl,by omega,by simp,rfl⟩
 case round =>
  obtain ⟨i,rfl,hi,hm,rfl⟩:=hrel
  by_cases hlt : i < n
  ·obtain ⟨y,hy⟩ : ∃ y,l[i]? = some y:=⟨_,List.getElem?_eq_getElem (by have:=Hl.out;omega)⟩
   obtain ⟨b,off,rfl,hc⟩:=hA.atNa hy
   by_cases e : y = x
   ·subst e
    have HV:=Lib.hid (show l.contains y = true from List.contains_iff_mem.2 (List.mem_of_getElem? hy))
    clear hm hy
    go_wp2
    go_ret
    exact ⟨by rw [HV.out];rfl,rfl⟩
   ·have e2 : ((y : Int) == (x : Int)) = false:=beq_eq_false_iff_ne.2 (by omega)
    have HM:=Lib.hid (mem_step hm hy e)
    clear hm hy e
    go_wp2
    go_roundw
    case rel=>exact ⟨i+1,by go_num,by omega,HM.out,by first | rfl | trivial⟩
    case measure=>simp [intOf];omega
  ·obtain rfl : i = n:=by omega
   have HV:=Lib.hid (show l.contains x = false from by
    rw [List.take_of_length_le (by have:=Hl.out;omega)] at hm
    exact Bool.eq_false_iff.2 fun h=>hm (List.contains_iff_mem.1 h))
   go_wp2
   go_ret
   exact ⟨by rw [HV.out];rfl,rfl⟩
end
section
open Go.RowKit
abbrev Ruv:=Bool × Bool × Bool × Pv × Pv
def valRu (v : Ruv) : Value:=.agg #[.bool v.1,.bool v.2.1,.bool v.2.2.1,.int .i64 (v.2.2.2.1.1 : Int),.slice v.2.2.2.1.2.1.1 v.2.2.2.1.2.1.2.1 v.2.2.2.1.2.1.2.2,.slice v.2.2.2.1.2.2.1 v.2.2.2.1.2.2.2.1 v.2.2.2.1.2.2.2.2,.int .i64 (v.2.2.2.2.1 : Int),.slice v.2.2.2.2.2.1.1 v.2.2.2.2.2.1.2.1 v.2.2.2.2.2.1.2.2,.slice v.2.2.2.2.2.2.1 v.2.2.2.2.2.2.2.1 v.2.2.2.2.2.2.2.2]
def encRul (v : Ruv) : List Value:=[.bool v.1,.bool v.2.1,.bool v.2.2.1]++encPt v.2.2.2.1++encPt v.2.2.2.2
structure RuX (w : World) (X : Nat→Prop) (r : RuleP) (v : Ruv) : Prop where
 cut : v.1 = r.cut
 start : v.2.1 = r.start
 stop : v.2.2.1 = r.stop
 left : PatX w X r.left v.2.2.2.1
 right : PatX w X r.right v.2.2.2.2
theorem RuX.keep {X X' : Nat→Prop} {w w' : World} {r : RuleP} {v : Ruv} (h : RuX w X r v) (k : KeepX X X' w w') : RuX w' X' r v:=⟨h.cut,h.start,h.stop,h.left.keep k,h.right.keep k⟩
theorem RuX.below {X : Nat→Prop} {w w' : World} {r : RuleP} {v : Ruv} (h : RuX w X r v) (hb : Below w.heap.size w w') : RuX w' X r v:=h.keep (KeepX.below hb)
structure RuleOk (r : RuleP) : Prop where
 left : goodP 64 r.left = true
 right : goodP 64 r.right = true
 sl : sizeP r.left≤2048
 sr : sizeP r.right≤2048
theorem Rd.pre' {w : World} {s : Nat} {A : Option Addr} {cs ds : List (List Value)} (h : Rd w s A (cs++ds)) : Rd w s A cs:=fun hn=>by
 obtain ⟨b,off,e,hc⟩:=h (by intro e;rw [List.append_eq_nil_iff] at e;exact hn e.1)
 exact ⟨b,off,e,fun k j x u hk hj=>hc k j x u (by rw [List.getElem?_append_left (List.getElem?_eq_some_iff.1 hk).1];exact hk) hj⟩
theorem Rd.takeN {w : World} {A : Option Addr} {l : List Nat} (h : Rd w 1 A (l.map encN)) (k : Nat) : Rd w 1 A ((l.take k).map encN):=by
 have e : l.map encN = (l.take k).map encN++(l.drop k).map encN:=by rw [← List.map_append,List.take_append_drop]
 rw [e] at h
 exact Rd.pre' h
theorem Rd.dropN {w : World} {b off : Nat} {l : List Nat} (h : Rd w 1 (some ⟨b,off,none⟩) (l.map encN)) (k : Nat) : Rd w 1 (some ⟨b,off+k,none⟩) ((l.drop k).map encN):=fun hn=>by
 obtain ⟨b',off',e,hc⟩:=h (by intro e;rw [List.map_eq_nil_iff] at e;subst e;simp at hn)
 injection e with e
 injection e with e1 e2 _
 subst e1
 subst e2
 refine ⟨b,off+k,rfl,fun i j x u hi hj=>?_⟩
 have:=hc (k+i) j x u (by rw [List.getElem?_map,List.getElem?_drop] at hi;rw [List.getElem?_map];exact hi) hj
 rw [show off+k+i*1+j = off+(k+i)*1+j by omega]
 exact this
theorem own_empty {w : World} {base : Nat} {A : Option Addr} {k c : Nat} {l : List Nat} (h : Own w base 3 1 A k c (l.map encN)) : l.length = k:=by have:=h.len;rwa [List.length_map] at this
theorem empty_iff {l : List Nat} {k : Nat} (h : l.length = k) : ((k : Int) == 0) = l.isEmpty:=by
 cases l with
 | nil=>simp at h;subst h;rfl
 | cons a r=>simp at h;rw [← h];rw [Bool.eq_iff_iff];simp;omega
theorem oApplies_any (cl : List Nat) (b0 off0 n c0 a : Nat) (hl : cl.length = n) (hn : n≤100000) (hc0 : n≤c0) (h0 : 0 < a) (ha : a < n) (X : Nat→Prop) (r : RuleP) (v : Ruv) (w : World) (hr : RuX w X r v) (hok : RuleOk r) (hC : Rd w 1 (some ⟨b0,off0,none⟩) (cl.map encN)) :
  Calls Tryz.prog 156 #[valRu v,.slice (some ⟨b0,off0,none⟩) n c0,.int .i64 (a : Nat)] w fun e w'=>e = .returned (.bool (appliesB r cl a))∧Below w.heap.size w w':=by
 obtain ⟨v1,v2,v3,vl,vr⟩:=v
 have HR:=Lib.hid hr
 have HGl:=Lib.hid (fun W (h : PatX W X r.left vl)=>jGood_any X r.left vl W h (goodP_mono (by omega) hok.left) hok.sl)
 have HGr:=Lib.hid (fun W (h : PatX W X r.right vr)=>jGood_any X r.right vr W h (goodP_mono (by omega) hok.right) hok.sr)
 have HS:=Lib.hid (fun W c (h : PatX W X r.left vl) (hc : Rd W 1 (some ⟨b0,off0,none⟩) ((cl.take a).map encN))=>jStarts_any (cl.take a) (some ⟨b0,off0,none⟩) a c (by rw [List.length_take];omega) (by omega) X r.left vl W h hok.left hok.sl hc)
 have HE:=Lib.hid (fun W m c (hm : m = n - a) (h : PatX W X r.right vr) (hc : Rd W 1 (some ⟨b0,off0+a,none⟩) ((cl.drop a).map encN))=>jEnds_any (cl.drop a) (some ⟨b0,off0+a,none⟩) m c (by rw [List.length_drop];omega) (by omega) X r.right vr W h hok.right hok.sr hc)
 have HV : Hid (appliesB r cl a = (!(startsB r.left (cl.take a)).isEmpty && !(endsB r.right (cl.drop a)).isEmpty && (!v2 || (startsB r.left (cl.take a)).contains 0) && (!v3 || (endsB r.right (cl.drop a)).contains (n - a)))):=Lib.hid (by
  have h2:=hr.start
  have h3:=hr.stop
  simp only at h2 h3
  unfold appliesB;rw [hl,h2,h3])
 have HSz : Hid ((startsB r.left (cl.take a)).length≤n+1):=Lib.hid (by
  unfold startsB
  refine Nat.le_trans (List.length_filter_le _ _) ?_
  rw [List.length_range,List.length_take];omega)
 have HEz : Hid ((endsB r.right (cl.drop a)).length≤n+1):=Lib.hid (by
  unfold endsB
  refine Nat.le_trans (List.length_filter_le _ _) ?_
  rw [List.length_range,List.length_drop];omega)
 generalize startsB r.left (cl.take a) = SL at HS HV HSz
 generalize endsB r.right (cl.drop a) = EL at HE HV HEz
 clear hr hok
 unfold valRu
 unfold valPt at HGl HGr HS HE
 simp only
 have hac : (a : Int)≤(c0 : Int):=by omega
 have hac' : a≤c0:=by omega
 have haz : (0 : Int)≤(a : Int):=by omega
 have han : a≤n:=by omega
 have hca : ¬ c0 = a:=by omega
 have t1 : decide (n < a) = false:=decide_eq_false (by omega)
 have t2 : decide ((a : Int) < 0) = false:=decide_eq_false (by omega)
 go_enter Tryz.func156,Tryz.ntmps156
 go_wp2_with fail
 have Hz : Below w.heap.size w (w.alloc (.cells #[.bool v1,.bool v2,.bool v3,.int .i64 (vl.1 : Int),.slice vl.2.1.1 vl.2.1.2.1 vl.2.1.2.2,.slice vl.2.2.1 vl.2.2.2.1 vl.2.2.2.2,.int .i64 (vr.1 : Int),.slice vr.2.1.1 vr.2.1.2.1 vr.2.1.2.2,.slice vr.2.2.1 vr.2.2.2.1 vr.2.2.2.2] 223)):=(Below.refl _ _).alloc (Nat.le_refl _) _
 have hb0 : Blk (w.alloc (.cells #[.bool v1,.bool v2,.bool v3,.int .i64 (vl.1 : Int),.slice vl.2.1.1 vl.2.1.2.1 vl.2.1.2.2,.slice vl.2.2.1 vl.2.2.2.1 vl.2.2.2.2,.int .i64 (vr.1 : Int),.slice vr.2.1.1 vr.2.1.2.1 vr.2.1.2.2,.slice vr.2.2.1 vr.2.2.2.1 vr.2.2.2.2] 223)) w.heap.size 223 _:=Blk.new _ _ _
 generalize (w.alloc (.cells #[.bool v1,.bool v2,.bool v3,.int .i64 (vl.1 : Int),.slice vl.2.1.1 vl.2.1.2.1 vl.2.1.2.2,.slice vl.2.2.1 vl.2.2.2.1 vl.2.2.2.2,.int .i64 (vr.1 : Int),.slice vr.2.1.1 vr.2.1.2.1 vr.2.1.2.2,.slice vr.2.2.1 vr.2.2.2.1 vr.2.2.2.2] 223)) = w1 at Hz hb0 ⊢
 have d3:=hb0.cell 3
 have d4:=hb0.cell 4
 have d5:=hb0.cell 5
 have d6:=hb0.cell 6
 have d7:=hb0.cell 7
 have d8:=hb0.cell 8
 have d1:=hb0.cell 1
 have d2:=hb0.cell 2
 simp only [zG,zI,zH] at d1 d2 d3 d4 d5 d6 d7 d8
 have HD:=Lib.hid (fun W (h : Below w1.heap.size w1 W)=>And.intro (cell_keep d1 h) (And.intro (cell_keep d2 h) (And.intro (cell_keep d3 h) (And.intro (cell_keep d4 h) (And.intro (cell_keep d5 h) (And.intro (cell_keep d6 h) (And.intro (cell_keep d7 h) (cell_keep d8 h))))))))
 have HX:=Lib.hid (fun W (h : Below w1.heap.size w1 W)=>(HR.out.below Hz).below h)
 have HCc:=Lib.hid (fun W (h : Below w1.heap.size w1 W)=>(hC.below Hz).below h)
 clear hb0 HR hC
 refine (HGl.out w1 (HX.out w1 (Below.refl _ _)).left).mono ?_
 rintro e w2 ⟨rfl,hb2⟩
 obtain ⟨d1,d2,d3,d4,d5,d6,d7,d8⟩:=HD.out w2 hb2
 go_wp2_with fail
 refine (HGr.out w2 (HX.out w2 hb2).right).mono ?_
 rintro e w3 ⟨rfl,hb3⟩
 replace hb3:=below_two hb2 hb3
 clear HGl HGr d1 d2 d3 d4 d5 d6 d7 d8
 obtain ⟨d1,d2,d3,d4,d5,d6,d7,d8⟩:=HD.out w3 hb3
 have hb3d:=hb3.drew
 have Hbz:=Lib.hid (below_two Hz hb3)
 go_upto_region 3 with fail
 go_cut [7] from 29 to 34 (fun v wx=>∃ (A : Option Addr) (k c : Nat),v = .slice A k c∧SL.length = k∧Rd wx 1 A (SL.map encN)∧Below w1.heap.size w1 wx)
 case first =>
  refine wp_region_noPanic ?_
  go_region_law (go_simp;go_at_call 182;refine (HS.out w3.drew _ (HX.out w3.drew hb3d).left ((HCc.out w3.drew hb3d).takeN a)).mono ?_;rintro e w4 ⟨A4,k4,c4,rfl,ho4,hb4⟩)
  all_goals
   refine NoPanic.normal ?_
   have hb4':=below_step hb3d hb4 hb3d.size
   have hk4:=own_empty ho4
   go_wp2_with fail
   go_meet
   exact ⟨A4,k4,c4,rfl,hk4,ho4.rd (by omega),hb4'⟩
 case rest =>
  clear d1 d2 d3 d4 d5 d6 d7 d8 hb3d HS
  obtain ⟨A4,k4,c4,rfl,hk4,hr4,hb4⟩:=hcut
  obtain ⟨d1,d2,d3,d4,d5,d6,d7,d8⟩:=HD.out wc hb4
  have hb4d:=hb4.drew
  have hnac : (n : Int) - (a : Int) = ((n - a : Nat) : Int):=by omega
  go_upto_region 4 with fail
  go_cut [8] from 35 to 40 (fun v wx=>∃ (A : Option Addr) (k c : Nat),v = .slice A k c∧EL.length = k∧Rd wx 1 A (EL.map encN)∧Rd wx 1 A4 (SL.map encN)∧Below w1.heap.size w1 wx)
  case first =>
   refine wp_region_noPanic ?_
   go_region_law (go_simp;go_at_call 183;refine (HE.out wc.drew _ _ rfl (HX.out wc.drew hb4d).right ((HCc.out wc.drew hb4d).dropN a)).mono ?_;rintro e w5 ⟨A5,k5,c5,rfl,ho5,hb5⟩)
   all_goals
    refine NoPanic.normal ?_
    have hb5':=below_step hb4d hb5 hb4d.size
    have hk5:=own_empty ho5
    have hr4':=(hr4.drew).below hb5
    go_wp2_with fail
    go_meet
    exact ⟨A5,k5,c5,rfl,hk5,ho5.rd (by omega),hr4',hb5'⟩
  case rest =>
   clear d1 d2 d3 d4 d5 d6 d7 d8 hb4d HE hr4 hb4
   obtain ⟨A5,k5,c5,rfl,hk5,hr5,hr4,hb5⟩:=hcut
   obtain ⟨d1,d2,d3,d4,d5,d6,d7,d8⟩:=HD.out wc hb5
   have hbw:=below_two Hz hb5
   have hk4z : k4≤4000000:=by have:=HSz.out;omega
   have hk5z : k5≤4000000:=by have:=HEz.out;omega
   have u1:=empty_iff hk4
   have u2:=empty_iff hk5
   have HI1:=Lib.hid (oin_any A4 k4 c4 SL 0 wc hr4 hk4 hk4z)
   have HI2:=Lib.hid (oin_any A5 k5 c5 EL (n - a) wc hr5 hk5 hk5z)
   generalize SL.isEmpty = s1 at u1 HV
   generalize EL.isEmpty = s2 at u2 HV
   generalize SL.contains 0 = s3 at HI1 HV
   generalize EL.contains (n - a) = s4 at HI2 HV
   rw [← hnac] at HI2
   clear hr4 hr5 hk4 hk5 hk4z hk5z HSz HEz d3 d4 d5 d6 d7 d8 HD HX HCc hb5 hnac
   cases s1 with
   | true =>
    go_wp2
    go_ret
    exact ⟨by rw [HV.out];rfl,hbw⟩
   | false =>
    cases s2 with
    | true =>
     go_wp2
     go_ret
     exact ⟨by rw [HV.out];rfl,hbw⟩
    | false =>
     cases v2 with
     | true =>
      cases s3 with
      | false =>
       go_wp2_with fail
       refine HI1.out.mono ?_
       rintro e w7 ⟨rfl,rfl⟩
       go_wp2
       go_ret
       exact ⟨by rw [HV.out];rfl,hbw⟩
      | true =>
       cases v3 with
       | false =>
        go_wp2_with fail
        refine HI1.out.mono ?_
        rintro e w7 ⟨rfl,rfl⟩
        go_wp2
        go_ret
        exact ⟨by rw [HV.out];rfl,hbw⟩
       | true =>
        go_wp2_with fail
        refine HI1.out.mono ?_
        rintro e w7 ⟨rfl,rfl⟩
        go_wp2_with fail
        refine HI2.out.mono ?_
        rintro e w7 ⟨rfl,rfl⟩
        go_wp2
        go_ret
        exact ⟨by rw [HV.out];cases s4 <;> rfl,hbw⟩
     | false =>
      cases v3 with
      | false =>
       go_wp2
       go_ret
       exact ⟨by rw [HV.out];cases s3 <;> rfl,hbw⟩
      | true =>
       go_wp2_with fail
       refine HI2.out.mono ?_
       rintro e w7 ⟨rfl,rfl⟩
       go_wp2
       go_ret
       exact ⟨by rw [HV.out];cases s3 <;> cases s4 <;> rfl,hbw⟩
end
section
open Go.RowKit
structure RsX (w : World) (X : Nat→Prop) (rules : List RuleP) (v : Sv) : Prop where
 ex : ∃ vs : List Ruv,SlX w X 9 v (vs.map encRul)∧vs.length = rules.length∧∀ (i : Nat) (r : RuleP) (u : Ruv),rules[i]? = some r→vs[i]? = some u→RuX w X r u
theorem RsX.keep {X X' : Nat→Prop} {w w' : World} {rules : List RuleP} {v : Sv} (h : RsX w X rules v) (k : KeepX X X' w w') : RsX w' X' rules v:=by
 obtain ⟨vs,h1,h2,h3⟩:=h.ex
 exact ⟨vs,h1.keep k,h2,fun i r u hr hu=>(h3 i r u hr hu).keep k⟩
theorem RsX.below {X : Nat→Prop} {w w' : World} {rules : List RuleP} {v : Sv} (h : RsX w X rules v) (hb : Below w.heap.size w w') : RsX w' X rules v:=h.keep (KeepX.below hb)
theorem RsX.len {X : Nat→Prop} {w : World} {rules : List RuleP} {v : Sv} (h : RsX w X rules v) : v.2.1 = rules.length:=by
 obtain ⟨vs,h1,h2,h3⟩:=h.ex
 have:=h1.len
 rw [List.length_map] at this
 omega
theorem RsX.at_ {X : Nat→Prop} {w : World} {rules : List RuleP} {v : Sv} {i : Nat} {r : RuleP} (h : RsX w X rules v) (hr : rules[i]? = some r) :
  ∃ (b off : Nat) (u : Ruv),v.1 = some ⟨b,off,none⟩∧RuX w X r u∧w.cell? ⟨b,off+i*9,none⟩ = some (.bool u.1)∧w.cell? ⟨b,off+i*9+1,none⟩ = some (.bool u.2.1)∧w.cell? ⟨b,off+i*9+2,none⟩ = some (.bool u.2.2.1) ∧
   w.cell? ⟨b,off+i*9+3,none⟩ = some (.int .i64 (u.2.2.2.1.1 : Int))∧w.cell? ⟨b,off+i*9+4,none⟩ = some (.slice u.2.2.2.1.2.1.1 u.2.2.2.1.2.1.2.1 u.2.2.2.1.2.1.2.2)∧w.cell? ⟨b,off+i*9+5,none⟩ = some (.slice u.2.2.2.1.2.2.1 u.2.2.2.1.2.2.2.1 u.2.2.2.1.2.2.2.2) ∧
   w.cell? ⟨b,off+i*9+6,none⟩ = some (.int .i64 (u.2.2.2.2.1 : Int))∧w.cell? ⟨b,off+i*9+7,none⟩ = some (.slice u.2.2.2.2.2.1.1 u.2.2.2.2.2.1.2.1 u.2.2.2.2.2.1.2.2)∧w.cell? ⟨b,off+i*9+8,none⟩ = some (.slice u.2.2.2.2.2.2.1 u.2.2.2.2.2.2.2.1 u.2.2.2.2.2.2.2.2):=by
 obtain ⟨vs,h1,h2,h3⟩:=h.ex
 obtain ⟨u,hu⟩ : ∃ u,vs[i]? = some u:=⟨_,List.getElem?_eq_getElem (by have:=(List.getElem?_eq_some_iff.1 hr).1;omega)⟩
 obtain ⟨b,off,e,hc⟩:=h1.rd (by intro e;cases vs with | nil=>simp at hu | cons _ _=>simp at e)
 have hg:=fun j (x : Value) (hx : (encRul u)[j]? = some x)=>hc i j (encRul u) x (by simp [hu]) hx
 exact ⟨b,off,u,e,h3 i r u hr hu,hg 0 _ rfl,hg 1 _ rfl,hg 2 _ rfl,hg 3 _ rfl,hg 4 _ rfl,hg 5 _ rfl,hg 6 _ rfl,hg 7 _ rfl,hg 8 _ rfl⟩
def valRs (v : Sv) (rest : Bool) : Value:=.agg #[.slice v.1 v.2.1 v.2.2,.bool rest]
theorem decideB_drop {rest : Bool} {c : List Nat} {a i : Nat} {rules : List RuleP} {r : RuleP} (h : rules[i]? = some r) : decideB rest c a (rules.drop i) = if appliesB r c a then r.cut else decideB rest c a (rules.drop (i+1)):=by
 obtain ⟨hi,e⟩:=List.getElem?_eq_some_iff.1 h
 rw [List.drop_eq_getElem_cons hi,e]
 rfl
theorem oDecide_any (cl : List Nat) (b0 off0 n c0 a : Nat) (hl : cl.length = n) (hn : n≤100000) (hc0 : n≤c0) (hn0 : 0 < n) (ha : a≤n) (X : Nat→Prop) (rules : List RuleP) (rest : Bool) (v : Sv) (w : World) (hr : RsX w X rules v) (hok : ∀ r ∈ rules,RuleOk r) (hz : rules.length≤64) (hC : Rd w 1 (some ⟨b0,off0,none⟩) (cl.map encN)) :
  Calls Tryz.prog 147 #[valRs v rest,.slice (some ⟨b0,off0,none⟩) n c0,.int .i64 (a : Nat)] w fun e w'=>(∃ x : Int,e = .returned (.tuple #[.bool (placeB rules rest cl a),.int .i64 x]))∧Below w.heap.size w w':=by
 obtain ⟨A,m,d⟩:=v
 have hm:=hr.len
 simp only at hm
 unfold valRs
 simp only
 have HV : Hid (placeB rules rest cl a = (decide (a = 0) || decide (a = n) || decideB rest cl a rules)):=Lib.hid (by unfold placeB;rw [hl])
 have hn0' : ((n : Int) == 0) = false:=beq_eq_false_iff_ne.2 (by omega)
 have t1 : decide ((a : Int) < 0) = false:=decide_eq_false (by omega)
 have t2 : decide (n < a) = false:=decide_eq_false (by omega)
 by_cases ha0 : a = 0
 ·subst ha0
  have t3 : (((0 : Nat) : Int) == 0) = true:=rfl
  go_enter Tryz.func147,Tryz.ntmps147
  go_wp2
  go_ret2
  exact ⟨⟨-1,by rw [HV.out];rfl⟩,(Below.refl _ _).alloc (Nat.le_refl _) _⟩
 by_cases han : a = n
 ·subst han
  go_enter Tryz.func147,Tryz.ntmps147
  go_wp2
  go_ret2
  exact ⟨⟨-1,by rw [HV.out];simp⟩,(Below.refl _ _).alloc (Nat.le_refl _) _⟩
 have t3 : ((a : Int) == 0) = false:=beq_eq_false_iff_ne.2 (by omega)
 have t4 : ((a : Int) == (n : Int)) = false:=beq_eq_false_iff_ne.2 (by omega)
 have HV2 : Hid (placeB rules rest cl a = decideB rest cl a rules):=Lib.hid (by rw [HV.out,decide_eq_false ha0,decide_eq_false han];rfl)
 have HAp:=Lib.hid (fun r u W (h : RuX W X r u) (hrm : r ∈ rules) (hc : Rd W 1 (some ⟨b0,off0,none⟩) (cl.map encN))=>oApplies_any cl b0 off0 n c0 a hl hn hc0 (by omega) (by omega) X r u W h (hok r hrm) hc)
 have HR:=Lib.hid hr
 have Hm:=Lib.hid hm
 have hmz : m≤64:=by omega
 clear HV ha0 han hr hok hl hm
 go_enter Tryz.func147,Tryz.ntmps147
 go_wp2_with fail
 have Hz : Below w.heap.size w (w.alloc (.cells #[.slice A m d,.bool rest] 178)):=(Below.refl _ _).alloc (Nat.le_refl _) _
 have hb0 : Blk (w.alloc (.cells #[.slice A m d,.bool rest] 178)) w.heap.size 178 _:=Blk.new _ _ _
 generalize (w.alloc (.cells #[.slice A m d,.bool rest] 178)) = w1 at Hz hb0 ⊢
 have k00:=hb0.cell 0
 have k10:=hb0.cell 1
 simp only [zG,zI,zH] at k00 k10
 clear hb0
 go_loopw [8] (fun z wr=>∃ i : Nat,z = .int .i64 i∧i≤m∧Hid (decideB rest cl a rules = decideB rest cl a (rules.drop i))∧Below w1.heap.size w1 wr) (fun z _=>m - (intOf z).toNat)
 case atStart=>exact ⟨0,rfl,by omega,Lib.hid rfl,Below.refl _ _⟩
 case round =>
  obtain ⟨i,rfl,hi,HD,hb⟩:=hrel
  have hbw:=below_two Hz hb
  have k0:=cell_keep k00 hb
  have k1:=cell_keep k10 hb
  by_cases hlt : i < m
  ·obtain ⟨r,hri⟩ : ∃ r,rules[i]? = some r:=⟨_,List.getElem?_eq_getElem (by have:=Hm.out;omega)⟩
   obtain ⟨b,off,u,e,hu,x0,x1,x2,x3,x4,x5,x6,x7,x8⟩:=HR.out.at_ hri
   simp only at e
   subst e
   have y0:=x0
   replace x0:=cell_keep x0 hbw
   replace x1:=cell_keep x1 hbw
   replace x2:=cell_keep x2 hbw
   replace x3:=cell_keep x3 hbw
   replace x4:=cell_keep x4 hbw
   replace x5:=cell_keep x5 hbw
   replace x6:=cell_keep x6 hbw
   replace x7:=cell_keep x7 hbw
   replace x8:=cell_keep x8 hbw
   have HC:=Lib.hid (HAp.out r u wr (hu.below hbw) (List.mem_of_getElem? hri) (hC.below hbw))
   have HDn:=Lib.hid (decideB_drop (rest:=rest) (c:=cl) (a:=a) hri)
   have Hcut:=Lib.hid hu.cut
   unfold valRu at HC
   generalize appliesB r cl a = q at HC HDn
   clear hu hri
   cases q with
   | true =>
    go_wp2_with fail
    refine HC.out.mono ?_
    rintro e w3 ⟨rfl,hb3⟩
    have z0:=cell_keep k0 hb3
    have z1:=cell_keep y0 (below_two hbw hb3)
    go_wp2
    go_ret2
    exact ⟨⟨i,by rw [HV2.out,HD.out,HDn.out,Hcut.out];rfl⟩,below_two hbw hb3⟩
   | false =>
    go_wp2_with fail
    refine HC.out.mono ?_
    rintro e w3 ⟨rfl,hb3⟩
    go_wp2
    go_roundw
    case rel=>exact ⟨i+1,by go_num,by omega,Lib.hid (by rw [HD.out,HDn.out];rfl),below_two hb hb3⟩
    case measure=>simp [intOf];omega
  ·obtain rfl : i = m:=by omega
   have HE:=Lib.hid (show rules.drop i = [] from List.drop_of_length_le (by have:=Hm.out;omega))
   go_wp2
   go_ret2
   exact ⟨⟨-1,by rw [HV2.out,HD.out,HE.out];rfl⟩,hbw⟩
end
section
open Go.RowKit
theorem oBounds_any (cl : List Nat) (b0 off0 n c0 : Nat) (hl : cl.length = n) (hn : n≤100000) (hc0 : n≤c0) (hn0 : 0 < n) (X : Nat→Prop) (rules : List RuleP) (rest : Bool) (v : Sv) (w : World) (hr : RsX w X rules v) (hok : ∀ r ∈ rules,RuleOk r) (hz : rules.length≤64) (hC : Rd w 1 (some ⟨b0,off0,none⟩) (cl.map encN)) :
  Calls Tryz.prog 123 #[valRs v rest,.slice (some ⟨b0,off0,none⟩) n c0] w fun e w'=>∃ A k c,e = .returned (.slice A k c)∧Own w' w.heap.size 3 1 A k c ((boundsB rules rest cl).map encN)∧Below w.heap.size w w':=by
 obtain ⟨i0,hi0,hz0,hz1,hz2⟩:=info_parts infoInt
 have HD:=Lib.hid (fun a W (ha : a≤n) (h : RsX W X rules v) (hc : Rd W 1 (some ⟨b0,off0,none⟩) (cl.map encN))=>oDecide_any cl b0 off0 n c0 a hl hn hc0 hn0 ha X rules rest v W h hok hz hc)
 have HV : Hid (boundsB rules rest cl = (List.range (n+1)).filter fun i=>placeB rules rest cl i):=Lib.hid (by
  unfold boundsB
  rw [if_neg (by intro e;rw [e] at hl;simp at hl;omega),hl])
 have HR:=Lib.hid hr
 have HC:=Lib.hid hC
 unfold valRs at HD ⊢
 clear hr hok hl hC
 go_enter Tryz.func123,Tryz.ntmps123
 go_wp2_with fail
 have Hz : Below w.heap.size w (w.alloc (.cells #[.slice v.1 v.2.1 v.2.2,.bool rest] 178)):=(Below.refl _ _).alloc (Nat.le_refl _) _
 have hb0 : Blk (w.alloc (.cells #[.slice v.1 v.2.1 v.2.2,.bool rest] 178)) w.heap.size 178 _:=Blk.new _ _ _
 generalize (w.alloc (.cells #[.slice v.1 v.2.1 v.2.2,.bool rest] 178)) = w1 at Hz hb0 ⊢
 have k00:=hb0.cell 0
 have k10:=hb0.cell 1
 simp only [zG,zI,zH] at k00 k10
 clear hb0
 go_loopw [5,6,7,8] (fun u z _ _ wr=>∃ (i : Nat) (A : Option Addr) (k c : Nat),u = .slice A k c∧z = .int .i64 i∧i≤n+1∧k≤i∧Own wr w1.heap.size 3 1 A k c (((List.range i).filter fun i=>placeB rules rest cl i).map encN)∧Below w1.heap.size w1 wr) (fun _ z _ _ _=>n+1 - (intOf z).toNat)
 case atStart=>exact ⟨0,none,0,0,rfl,rfl,by omega,by omega,Own.nil_ _ _ _ _,Below.refl _ _⟩
 case round =>
  obtain ⟨i,A,k,c,rfl,rfl,hi,hki,ho,hb⟩:=hrel
  have hsz:=hb.size
  have hbw:=below_two Hz hb
  have k0:=cell_keep k00 hb
  have k1:=cell_keep k10 hb
  by_cases hlt : i≤n
  ·have HDi:=Lib.hid (HD.out i wr hlt (HR.out.below hbw) (HC.out.below hbw))
   have HF:=Lib.hid (filter_next (m:=fun i=>placeB rules rest cl i) (i:=i))
   generalize placeB rules rest cl i = q at HDi HF
   cases q with
   | false =>
    go_wp2_with fail
    refine HDi.out.mono ?_
    rintro e w5 ⟨⟨x,rfl⟩,hb5⟩
    have ho5:=ho.below hb5
    go_wp2
    go_roundw
    case rel=>exact ⟨i+1,A,k,c,rfl,by go_num,by omega,by omega,by rw [HF.out];simpa using ho5,below_two hb hb5⟩
    case measure=>simp [intOf];omega
   | true =>
    go_wp2_with fail
    refine HDi.out.mono ?_
    rintro e w5 ⟨⟨x,rfl⟩,hb5⟩
    have ho5:=ho.below hb5
    have hb15:=below_two hb hb5
    have hsz5:=hb15.size
    go_wp2_with (at_builtin;go_must (refine wpList_app rfl (.tmp 23) (.tmp 25) _ rfl w1.heap.size 3 i0 _ 1 8 Tryz.underlying65 hi0 hz0 hz1 hz2 rfl (by omega) A k c _ rfl (ho5.alloc _) _ 1 1 [encN i] rfl rfl (Rd.newAt (by simp) rfl) (encN_ok' [i]) (by unfold maxLen;omega) (by omega) (by simp;omega) ?_);intro A3 c3 w7 ho3 hg3 hA3)
    have hb7:=below_app (hb15.alloc hsz5 (.cells #[.int .i64 (i : Int)] 3)) hg3 (by simp;omega) (fun a ha=>(ho5.lt a ha).1)
    go_roundw
    case rel=>exact ⟨i+1,A3,k+1,c3,rfl,by go_num,by omega,by omega,by rw [HF.out,List.map_append];exact ho3,hb7⟩
    case measure=>simp [intOf];omega
  ·obtain rfl : i = n+1:=by omega
   rw [← HV.out] at ho
   obtain ⟨z,hz⟩ : ∃ z,n+1 = z:=⟨_,rfl⟩
   have ez : ((n : Int)+1) = (z : Int):=by omega
   go_wp2
   go_ret
   exact ⟨A,k,c,rfl,ho.more Hz.size,hbw⟩
end
section
open Go.RowKit
def encMk (x : Nat × Nat × Nat) : List Value:=[.int .i64 (x.2.1 : Nat),.int .i64 ((x.2.2 : Int) - (x.2.1 : Int)),.int .i32 (x.1 : Nat),.bool (decide (x.2.2 - x.2.1 = 1) && decide (x.1 = 65533))]
theorem infoMark : (Tryz.prog.info? 112).map (fun i=>(i.zero,i.size,i.bytes)) = some (some (.agg #[.int .i64 0,.int .i64 0,.int .i32 0,.bool false]),4,24):=by kernel_rfl
theorem encMk_ok (l : List (Nat × Nat × Nat)) : ∀ y ∈ l.map encMk,y.length = 4∧∀ u ∈ y,u.oneCell' = true:=by
 intro y hy
 obtain ⟨x,_,rfl⟩:=List.mem_map.1 hy
 exact ⟨rfl,fun u hu=>by simp [encMk] at hu;rcases hu with rfl | rfl | rfl | rfl <;> rfl⟩
theorem decode_part (s : ByteArray) {a : Nat} (_ha : a < s.size) : Utf8.decode (s.extract a s.size) 0 = Utf8.decode s a:=by
 have hg : ∀ k,(s.extract a s.size).get! k = s.get! (a+k):=fun k=>by
  rw [← get_sub s (Nat.le_refl _) k]
  congr 1
  simp
 rw [Lib.decode_at,Lib.decode_at,hg,hg,hg,hg,Nat.add_zero,Nat.zero_add,Nat.zero_add,Nat.zero_add,ByteArray.size_extract]
 rw [Nat.min_self,Nat.sub_zero]
def MkAt (s : ByteArray) (q : Nat) (o : List (Nat × Nat × Nat)) : Prop:=∃ f,s.size≤q+f∧runesP s = o++runesGo s f q
theorem mkAt_first (s : ByteArray) : MkAt s 0 []:=⟨s.size,by omega,rfl⟩
theorem mkAt_add {s : ByteArray} {q R W : Nat} {o : List (Nat × Nat × Nat)} (h : MkAt s q o) (hq : q < s.size) (hd : Utf8.decode s q = (R,W)) : MkAt s (q+W) (o++[(R,q,q+W)]):=by
 obtain ⟨f,hf,e⟩:=h
 obtain ⟨k,rfl,hk⟩:=runesGo_step hq hf
 rw [hk,hd] at e
 have hb:=dec_bd s q hq
 rw [hd] at hb
 exact ⟨k,by simp only at hb;omega,by rw [e,List.append_assoc];rfl⟩
theorem mkAt_end {s : ByteArray} {q : Nat} {o : List (Nat × Nat × Nat)} (h : MkAt s q o) (hq : ¬ q < s.size) : o = runesP s:=by
 obtain ⟨f,hf,e⟩:=h
 rw [e,runesGo_end (by omega),List.append_nil]
theorem tMarks_any (s : ByteArray) (w : World) (hz : s.size≤1000000) :
  Calls Tryz.prog 64 #[.string s] w fun e w'=>∃ A n c,e = .returned (.slice A n c)∧Own w' w.heap.size 112 4 A n c ((runesP s).map encMk)∧Below w.heap.size w w':=by
 obtain ⟨i0,hi0,hz0,hz1,hz2⟩:=info_parts infoMark
 go_enter Tryz.func64,Tryz.ntmps64
 go_wp2
 go_loopw [3,4,5,6] (fun u v _ _ wr=>∃ (q n c : Nat) (A : Option Addr) (o : List (Nat × Nat × Nat)),u = .slice A n c∧v = .int .i64 (q : Nat)∧q≤s.size∧n≤q∧Hid (MkAt s q o)∧Own wr w.heap.size 112 4 A n c (o.map encMk)∧Below w.heap.size w wr) (fun _ v _ _ _=>s.size - (intOf v).toNat)
 case atStart=>exact ⟨0,0,0,none,[],rfl,rfl,by omega,by omega,Lib.hid (mkAt_first s),Own.nil_ _ _ _ _,Below.refl _ _⟩
 case round =>
  obtain ⟨q,n,c,A,o,rfl,rfl,hq,hn,HM,ho,hb⟩:=hrel
  have hsz:=hb.size
  by_cases hlt : q < s.size
  ·have hd:=dec_bd s q hlt
   obtain ⟨⟨R,W⟩,HDc⟩ : ∃ d,Hid (Utf8.decode s q = d):=⟨_,Lib.hid rfl⟩
   have HT:=Lib.hid (tDecode_any (s.extract q s.size) wr (by rw [ByteArray.size_extract];omega) (by rw [ByteArray.size_extract];omega))
   rw [decode_part s hlt,HDc.out] at HT
   rw [HDc.out] at hd
   simp only at hd HT
   have HM2:=Lib.hid (mkAt_add HM.out hlt HDc.out)
   have hq1 : (q : Int)≤(s.size : Int):=by omega
   obtain ⟨t1,ht1⟩ : ∃ t,((W : Int) == 1) = t:=⟨_,rfl⟩
   obtain ⟨t2,ht2⟩ : ∃ t,((R : Int) == 65533) = t:=⟨_,rfl⟩
   have HB : Hid (encMk (R,q,q+W) = [.int .i64 (q : Nat),.int .i64 (W : Nat),.int .i32 (R : Nat),.bool (t1 && t2)]):=Lib.hid (by
    unfold encMk
    have e1 : decide (q+W - q = 1) = t1:=by rw [← ht1,Bool.eq_iff_iff,decide_eq_true_iff,beq_iff_eq];omega
    have e2 : decide (R = 65533) = t2:=by rw [← ht2,Bool.eq_iff_iff,decide_eq_true_iff,beq_iff_eq];omega
    have e3 : (((q+W : Nat) : Int) - (q : Int)) = (W : Int):=by omega
    simp only
    rw [e1,e2,e3])
   clear HDc
   go_wp2_with fail
   refine HT.out.mono ?_
   rintro e w2 ⟨rfl,rfl⟩
   cases t1 with
   | false =>
    go_wp2_with (at_builtin;go_must (refine wpList_app rfl (.tmp 18) (.tmp 29) _ rfl w.heap.size 112 i0 _ 4 24 Tryz.underlying109 hi0 hz0 hz1 hz2 rfl (by omega) A n c _ rfl (ho.alloc _) _ 1 1 [encMk (R,q,q+W)] rfl rfl (Rd.newAt (by simp) (by rw [HB.out];rfl)) (encMk_ok [(R,q,q+W)]) (by unfold maxLen;omega) (by omega) (by simp;omega) ?_);intro A3 c3 w7 ho3 hg3 hA3)
    have hb7:=below_app (hb.alloc hsz _) hg3 (by simp;omega) (fun a ha=>(ho.lt a ha).1)
    go_roundw
    case rel=>exact ⟨q+W,n+1,c3,A3,o++[(R,q,q+W)],rfl,by go_num,by omega,by omega,HM2,by rw [List.map_append];exact ho3,hb7⟩
    case measure=>simp [intOf];omega
   | true =>
    go_wp2_with (at_builtin;go_must (refine wpList_app rfl (.tmp 18) (.tmp 29) _ rfl w.heap.size 112 i0 _ 4 24 Tryz.underlying109 hi0 hz0 hz1 hz2 rfl (by omega) A n c _ rfl (ho.alloc _) _ 1 1 [encMk (R,q,q+W)] rfl rfl (Rd.newAt (by simp) (by rw [HB.out];rfl)) (encMk_ok [(R,q,q+W)]) (by unfold maxLen;omega) (by omega) (by simp;omega) ?_);intro A3 c3 w7 ho3 hg3 hA3)
    have hb7:=below_app (hb.alloc hsz _) hg3 (by simp;omega) (fun a ha=>(ho.lt a ha).1)
    go_roundw
    case rel=>exact ⟨q+W,n+1,c3,A3,o++[(R,q,q+W)],rfl,by go_num,by omega,by omega,HM2,by rw [List.map_append];exact ho3,hb7⟩
    case measure=>simp [intOf];omega
  ·have HE:=Lib.hid (mkAt_end HM.out hlt)
   go_wp2
   go_ret
   exact ⟨A,n,c,rfl,by rw [← HE.out];exact ho,hb⟩
theorem tEdges_any (s : ByteArray) (w : World) (hz : s.size≤1000000) :
  Calls Tryz.prog 122 #[.string s] w fun e w'=>∃ A n c,e = .returned (.slice A n c)∧Own w' w.heap.size 3 1 A n c ((edgesP s).map encN)∧Below w.heap.size w w':=by
 obtain ⟨i0,hi0,hz0,hz1,hz2⟩:=info_parts infoInt
 have HM:=Lib.hid (tMarks_any s w hz)
 obtain ⟨X,HX⟩ : ∃ L,Hid (runesP s = L):=⟨_,Lib.hid rfl⟩
 have hXz : X.length≤s.size:=by rw [← HX.out];exact runesP_len s
 have HV : Hid (edgesP s = X.map (fun x=>x.2.1)++[s.size]):=Lib.hid (by unfold edgesP;rw [HX.out])
 rw [HX.out] at HM
 go_enter Tryz.func122,Tryz.ntmps122
 go_wp2_with fail
 refine HM.out.mono ?_
 rintro e w2 ⟨A,m,c,rfl,ho,hb2⟩
 have hm : X.length = m:=by have:=ho.len;rwa [List.length_map] at this
 have rd:=ho.rd (by decide)
 have Hm:=Lib.hid hm
 have hmz : m≤1000000:=by omega
 clear HM ho hm
 go_wp2_with fail
 go_loopw [4,5] (fun u v wr=>∃ (i k : Nat) (A1 : Option Addr),u = .slice A1 i k∧v = .int .i64 i∧i≤m∧Own wr w2.heap.size 3 1 A1 i k (((X.take i).map fun x=>x.2.1).map encN)∧Below w2.heap.size w2 wr) (fun _ v _=>m - (intOf v).toNat)
 case atStart=>exact ⟨0,0,none,rfl,rfl,by omega,Own.nil_ _ _ _ _,Below.refl _ _⟩
 case round =>
  obtain ⟨i,k,A1,rfl,rfl,hi,ho,hb⟩:=hrel
  have hsz:=hb.size
  by_cases hlt : i < m
  ·obtain ⟨⟨R,a,z⟩,Hx⟩ : ∃ x,Hid (X[i]? = some x):=⟨_,Lib.hid (List.getElem?_eq_getElem (by have:=Hm.out;omega))⟩
   obtain ⟨b,off,rfl,hc⟩:=rd (by intro e;have:=congrArg List.length e;rw [List.length_map,Hm.out] at this;simp at this;omega)
   have c0:=hc i 0 (encMk (R,a,z)) (.int .i64 (a : Nat)) (by rw [List.getElem?_map,Hx.out];rfl) rfl
   simp only [Nat.add_zero] at c0
   replace c0:=cell_keep c0 hb
   have HT:=Lib.hid (show ((X.take (i+1)).map fun x=>x.2.1) = ((X.take i).map fun x=>x.2.1)++[a] by rw [List.take_add_one,Hx.out,Option.toList_some,List.map_append];rfl)
   clear hc Hx
   go_wp2_with (at_builtin;go_must (refine wpList_app rfl (.tmp 14) (.tmp 20) _ rfl w2.heap.size 3 i0 _ 1 8 Tryz.underlying65 hi0 hz0 hz1 hz2 rfl (by omega) A1 i k _ rfl (ho.alloc _) _ 1 1 [encN a] rfl rfl (Rd.newAt (by simp) rfl) (encN_ok' [a]) (by unfold maxLen;omega) (by omega) (by simp;omega) ?_);intro A3 c3 w7 ho3 hg3 hA3)
   have hb7:=below_app (hb.alloc hsz (.cells #[.int .i64 (a : Int)] 3)) hg3 (by simp;omega) (fun a ha=>(ho.lt a ha).1)
   go_roundw
   case rel=>exact ⟨i+1,c3,A3,rfl,by go_num,by omega,by rw [HT.out,List.map_append];exact ho3,hb7⟩
   case measure=>simp [intOf];omega
  ·obtain rfl : i = m:=by omega
   have HT:=Lib.hid (show X.take i = X from List.take_of_length_le (by have:=Hm.out;omega))
   rw [HT.out] at ho
   have hsz1:=hb2.size
   go_wp2_with (at_builtin;go_must (refine wpList_app rfl (.tmp 22) (.tmp 25) _ rfl w2.heap.size 3 i0 _ 1 8 Tryz.underlying65 hi0 hz0 hz1 hz2 rfl (by omega) A1 i k _ rfl (ho.alloc _) _ 1 1 [encN s.size] rfl rfl (Rd.newAt (by simp) rfl) (encN_ok' [s.size]) (by unfold maxLen;omega) (by omega) (by simp;omega) ?_);intro A3 c3 w7 ho3 hg3 hA3)
   have hb7:=below_app (hb.alloc hsz (.cells #[.int .i64 (s.size : Int)] 3)) hg3 (by simp;omega) (fun a ha=>(ho.lt a ha).1)
   go_ret
   exact ⟨A3,i+1,c3,rfl,by rw [HV.out,List.map_append];exact ho3.more hsz1,below_two hb2 hb7⟩
end
section
open Go.RowKit
structure BrkB (w : World) (base pb : Nat) (d : DbP) (rules : List RuleP) (rest : Bool) : Prop where
 ex : ∃ (p x n c : Nat) (A : Option Addr) (X : Nat→Prop),Blk w pb 180 #[.pointer (some ⟨p,0,none⟩),.slice A n c,.bool rest]∧RfB w base p x d.names d.full∧RsX w X rules (A,n,c)
theorem BrkB.below {w w' : World} {base pb : Nat} {d : DbP} {rules : List RuleP} {rest : Bool} (h : BrkB w base pb d rules rest) (hb : Below w.heap.size w w') : BrkB w' base pb d rules rest:=by
 obtain ⟨p,x,n,c,A,X,h1,h2,h3⟩:=h.ex
 exact ⟨p,x,n,c,A,X,h1.below hb,h2.below hb,h3.below hb⟩
theorem boundsB_len (rules : List RuleP) (rest : Bool) (c : List Nat) : (boundsB rules rest c).length≤c.length+1:=by
 unfold boundsB
 split
 ·simp
 ·refine Nat.le_trans (List.length_filter_le _ _) ?_
  rw [List.length_range];omega
theorem boundsB_lt {rules : List RuleP} {rest : Bool} {c : List Nat} {i x : Nat} (h : (boundsB rules rest c)[i]? = some x) : x≤c.length:=by
 unfold boundsB at h
 split at h
 ·simp at h
 ·have:=(List.mem_filter.1 (List.mem_of_getElem? h)).1
  rw [List.mem_range] at this
  omega
theorem bBounds_any (base pb : Nat) (d : DbP) (rules : List RuleP) (rest : Bool) (s : ByteArray) (w : World) (hB : BrkB w base pb d rules rest) (ho : d.Ok) (ha : Apart d.sets) (hok : ∀ r ∈ rules,RuleOk r) (hz : rules.length≤64) (hs : s.size≤90000) :
  Calls Tryz.prog 99 #[.pointer (some ⟨pb,0,none⟩),.string s] w fun e w'=>∃ A k c,e = .returned (.slice A k c)∧Own w' w.heap.size 3 1 A k c ((boundsR rules rest d.get s).map encN)∧Below w.heap.size w w':=by
 obtain ⟨i0,hi0,hz0,hz1,hz2⟩:=info_parts infoInt
 by_cases h0 : s.size = 0
 ·have HV:=Lib.hid (show boundsR rules rest d.get s = [] from if_pos h0)
  have t0 : ((s.size : Int) == 0) = true:=by rw [h0];rfl
  rw [HV.out]
  clear h0
  go_enter Tryz.func99,Tryz.ntmps99
  go_wp2
  go_ret
  exact ⟨none,0,0,rfl,Own.nil_ _ _ _ _,Below.refl _ _⟩
 have t0 : ((s.size : Int) == 0) = false:=beq_eq_false_iff_ne.2 (by omega)
 obtain ⟨p,x,n,c,A,X,hb,hd,hr⟩:=hB.ex
 have HE:=Lib.hid (tEdges_any s w (by omega))
 obtain ⟨cl,HCl⟩ : ∃ cl,Hid (ofC d s = cl):=⟨_,Lib.hid rfl⟩
 have hcz : cl.length≤90000:=by rw [← HCl.out];unfold ofC;rw [List.length_map];exact Nat.le_trans (runesP_len s) hs
 have hc0 : 0 < cl.length:=by
  rw [← HCl.out];unfold ofC;rw [List.length_map]
  obtain ⟨k,hk1,hk2⟩:=runesGo_step (s:=s) (f:=s.size) (a:=0) (by omega) (by omega)
  unfold runesP
  rw [hk2];simp
 have HV : Hid (boundsR rules rest d.get s = (boundsB rules rest cl).map fun i=>(edgesP s).getD i 0):=Lib.hid (by rw [← HCl.out];exact if_neg h0)
 have hel : (edgesP s).length = cl.length+1:=by rw [← HCl.out];unfold edgesP ofC;simp
 have HO:=Lib.hid (fun W (h : Below w.heap.size w W)=>vOf_any base p x d s W (hd.below h) ho ha (by omega))
 rw [HCl.out] at HO
 have HBo:=Lib.hid (fun W b0 off0 c0 (h : Below w.heap.size w W) (hcc : cl.length≤c0) (hc : Rd W 1 (some ⟨b0,off0,none⟩) (cl.map encN))=>oBounds_any cl b0 off0 cl.length c0 rfl (by omega) hcc hc0 X rules rest (A,n,c) W (hr.below h) hok hz hc)
 unfold valRs at HBo
 have d0:=hb.cell 0
 have d1:=hb.cell 1
 have d2:=hb.cell 2
 simp only [zG,zI,zH] at d0 d1 d2
 have HD:=Lib.hid (fun W (h : Below w.heap.size w W)=>And.intro (cell_keep d0 h) (And.intro (cell_keep d1 h) (cell_keep d2 h)))
 obtain ⟨m,Hm⟩ : ∃ m,Hid (cl.length = m):=⟨_,Lib.hid rfl⟩
 rw [Hm.out] at hcz hc0 HBo hel
 have Hel:=Lib.hid hel
 clear h0 hB hb hd hr hel d0 d1 d2
 go_enter Tryz.func99,Tryz.ntmps99
 go_wp2_with fail
 refine HE.out.mono ?_
 rintro e w2 ⟨A2,k2,c2,rfl,ho2,hb2⟩
 obtain ⟨d0,d1,d2⟩:=HD.out w2 hb2
 have hb2d:=hb2.drew
 have hk2 : (edgesP s).length = k2:=own_empty ho2
 have HEo:=Lib.hid ho2
 have Hk2:=Lib.hid (show k2 = m+1 by have:=Hel.out;omega)
 clear HE ho2 hk2
 go_upto_region 4 with fail
 go_cut [6] from 14 to 24 (fun v wx=>∃ (A : Option Addr) (k c : Nat),v = .slice A k c∧Own wx w2.heap.size 3 1 A k c ((boundsB rules rest cl).map encN)∧Below w2.heap.size w2 wx)
 case first =>
  refine wp_region_noPanic ?_
  have hbW : Below w2.heap.size w2 w2.drew:=(Below.refl _ _).drew
  go_region_law (first
   | (go_simp;go_at_call 124;refine (HO.out w2.drew hb2d).mono ?_;rintro e w4 ⟨A4,k4,c4,rfl,ho4,hb4⟩;have hbW:=below_step hbW hb4 hbW.size;have d0:=cell_keep d0 hbW;have d1:=cell_keep d1 hbW;have d2:=cell_keep d2 hbW;obtain ⟨g4,rfl,hg4,hg5⟩:=ho4.form (by have:=own_empty ho4;have:=Hm.out;omega);obtain rfl : m = k4:=by (have:=own_empty ho4;have:=Hm.out;omega))
   | (go_simp;go_at_call 123;refine (HBo.out w4 g4 0 c4 (below_step hb2 hbW hb2.size) ho4.cap.1 (ho4.rd (by omega))).mono ?_;rintro e w5 ⟨A5,k5,c5,rfl,ho5,hb5⟩))
  all_goals
   refine NoPanic.normal ?_
   have hb25:=below_step hbW hb5 hbW.size
   have ho6:=ho5.more hbW.size
   go_wp2_with fail
   go_meet
   exact ⟨A5,k5,c5,rfl,ho6,hb25⟩
 case rest =>
  clear d0 d1 d2 hb2d HO HBo HD
  obtain ⟨A5,k5,c5,rfl,ho5,hb5⟩:=hcut
  have hbw5:=below_two hb2 hb5
  have hk5 : (boundsB rules rest cl).length = k5:=own_empty ho5
  have hrb:=ho5.rd (by decide)
  have hre:=(HEo.out.below hb5).rd (by decide)
  have HL:=Lib.hid (fun i x (h : (boundsB rules rest cl)[i]? = some x)=>boundsB_lt h)
  have hk5z : k5≤90001:=by have h1:=boundsB_len rules rest cl;have:=Hm.out;omega
  rw [Hm.out] at HL
  generalize boundsB rules rest cl = BL at HL HV hrb hk5
  have Hk5:=Lib.hid hk5
  clear ho5 hk5
  go_wp2_with fail
  go_loopw [7,8] (fun u v wr=>∃ (i k : Nat) (A1 : Option Addr),u = .slice A1 i k∧v = .int .i64 i∧i≤k5∧Own wr wc.heap.size 3 1 A1 i k (((BL.take i).map fun i=>(edgesP s).getD i 0).map encN)∧Below wc.heap.size wc wr) (fun _ v _=>k5 - (intOf v).toNat)
  case atStart=>exact ⟨0,0,none,rfl,rfl,by omega,Own.nil_ _ _ _ _,Below.refl _ _⟩
  case round =>
   obtain ⟨i,k,A1,rfl,rfl,hi,ho,hb⟩:=hrel
   have hsz:=hb.size
   by_cases hlt : i < k5
   ·obtain ⟨y,Hy⟩ : ∃ y,Hid (BL[i]? = some y):=⟨_,Lib.hid (List.getElem?_eq_getElem (by have:=Hk5.out;omega))⟩
    have hym:=HL.out i y Hy.out
    obtain ⟨z,Hz⟩ : ∃ z,Hid ((edgesP s)[y]? = some z):=⟨_,Lib.hid (List.getElem?_eq_getElem (by have:=Hel.out;omega))⟩
    obtain ⟨b1,o1,rfl,x1⟩:=hrb.atNa Hy.out
    obtain ⟨b2,o2,rfl,x2⟩:=hre.atNa Hz.out
    replace x1:=cell_keep x1 hb
    replace x2:=cell_keep x2 hb
    have hyk : y < k2:=by have:=Hk2.out;omega
    have HT:=Lib.hid (show ((BL.take (i+1)).map fun i=>(edgesP s).getD i 0) = ((BL.take i).map fun i=>(edgesP s).getD i 0)++[z] by
     rw [List.take_add_one,Hy.out,Option.toList_some,List.map_append]
     simp [List.getD_eq_getElem?_getD,Hz.out])
    go_wp2_with (at_builtin;go_must (refine wpList_app rfl (.tmp 31) (.tmp 39) _ rfl wc.heap.size 3 i0 _ 1 8 Tryz.underlying65 hi0 hz0 hz1 hz2 rfl (by omega) A1 i k _ rfl (ho.alloc _) _ 1 1 [encN z] rfl rfl (Rd.newAt (by simp) rfl) (encN_ok' [z]) (by unfold maxLen;omega) (by omega) (by simp;omega) ?_);intro A3 c3 w7 ho3 hg3 hA3)
    have hb7:=below_app (hb.alloc hsz (.cells #[.int .i64 (z : Int)] 3)) hg3 (by simp;omega) (fun a ha=>(ho.lt a ha).1)
    go_roundw
    case rel=>exact ⟨i+1,c3,A3,rfl,by go_num,by omega,by rw [HT.out,List.map_append];exact ho3,hb7⟩
    case measure=>simp [intOf];omega
   ·obtain rfl : i = k5:=by omega
    have HT:=Lib.hid (show BL.take i = BL from List.take_of_length_le (by have:=Hk5.out;omega))
    rw [HT.out] at ho
    go_wp2
    go_ret
    exact ⟨A1,i,k,rfl,by rw [HV.out];exact ho.more hbw5.size,below_two hbw5 hb⟩
end
section
open Go.RowKit Go.Maps
theorem vrest_any (p base x : Nat) (d : DbP) (w : World) (hd : RfB w base p x d.names d.sets) (ho : d.Ok) (ha : Apart d.sets) (hB : base≤w.heap.size) :
  Calls Tryz.prog 159 #[.pointer (some ⟨p,0,none⟩)] w fun e w'=>e = .returned (.tuple #[])∧RfB w' base p x d.names d.full∧Below base w w':=by
 obtain ⟨An,nn,cn,As,ns,cs,xs,hX⟩:=hd.ex
 obtain ⟨j0,hj0,hy0,hy1,hy2⟩:=info_parts infoR
 have hns1 : 0 < ns:=by
  have h1:=hX.lenS.2;have h2:=ho.len;have h3:=ho.head
  cases hd : d.names with
  | nil=>rw [hd] at h3;cases h3
  | cons a b=>rw [hd] at h2;simp at h2;omega
 obtain ⟨g,HAs,hgB,hgw⟩:=hX.hs.form hns1
 subst HAs
 have hns64 : ns≤64:=by have h1:=hX.lenS.2;have h2:=ho.len;have h3:=ho.few;omega
 obtain ⟨T,HT⟩ : ∃ T,Hid (d.sets.tail = T):=⟨_,rfl⟩
 have hTl : T.length+1 = ns:=by have h1:=hX.lenS.2;have:=HT.out;rw [← this,List.length_tail];omega
 have HTl:=Lib.hid hTl
 have HTS : Hid (lenS T≤1114112):=Lib.hid (by have:=rng_len ho ha;rw [← HT.out];omega)
 have HTN : Hid (∀ (k : Nat) (s : List (Int × Int)),T[k]? = some s→NF s∧d.sets[k+1]? = some s):=Lib.hid (fun k s hk=>by
  have : d.sets[k+1]? = some s:=by rw [← HT.out] at hk;rw [List.getElem?_tail] at hk;exact hk
  exact ⟨ho.nf s (List.mem_of_getElem? this),this⟩)
 have HFS:=Lib.hid (full_set ho)
 have HRest : Hid (d.rest = notR (T.flatten)):=Lib.hid (by unfold DbP.rest;rw [HT.out])
 have c1:=hX.blk.cell 1
 simp at c1
 clear ho ha hTl hd
 go_enter Tryz.func159,Tryz.ntmps159
 go_wp2_with fail
 go_loopw [2,3] (fun a v wr=>∃ (c : Nat) (Aa : Option Addr) (na ca : Nat),a = .slice Aa na ca∧v = .int .i64 (c+1 : Nat)∧c+1≤ns∧Own wr w.heap.size 262 2 Aa na ca (((T.take c).flatten).map encR)∧Below w.heap.size w wr) (fun _ v _=>ns - (intOf v).toNat)
 case atStart=>exact ⟨0,none,0,0,rfl,rfl,by omega,by simp;exact Own.nil_ _ _ _ _,Below.refl _ _⟩
 case round =>
  obtain ⟨c,Aa,na,ca,rfl,rfl,hc,hal,hb⟩:=hrel
  have hszr:=hb.size
  have e1:=cell_keep c1 hb
  have hfl:=Lib.hid (flat_le T c)
  have hnal : na≤1114112:=by have h1:=hal.len;rw [List.length_map] at h1;have:=hfl.out;have:=HTS.out;omega
  by_cases hlt : c+1 < ns
  ·obtain ⟨s,Hs⟩ : ∃ s,Hid (T[c]? = some s):=⟨_,Lib.hid (List.getElem?_eq_getElem (show c < T.length by have:=HTl.out;omega))⟩
   obtain ⟨HNF,Hd⟩:=HTN.out c s Hs.out
   obtain ⟨⟨yA,yn,yc⟩,Hy⟩ : ∃ y,Hid (xs[c+1]? = some y):=⟨_,Lib.hid (List.getElem?_eq_getElem (show c+1 < xs.length by have:=hX.lenS.1;omega))⟩
   have hoy : Own w base 262 2 yA yn yc (s.map encR):=hX.hx.own (c+1) (yA,yn,yc) s Hy.out Hd
   have hly : s.length = yn:=by simpa using hoy.len
   have Hly:=Lib.hid hly
   have hny:=own_nf_len hoy HNF
   have hcell:=cell_keep (hX.hs.cell' rfl Hy.out) hb
   have hoq:=hoy.below hb
   have HFN:=Lib.hid (flat_next Hs.out)
   have hfl2:=Lib.hid (flat_le T (c+1))
   have hbound : na+yn≤1114112:=by
    have h1:=hal.len;rw [List.length_map] at h1
    have h2:=hfl2.out;rw [HFN.out,List.length_append] at h2;have:=HTS.out;omega
   have hI : (c : Int)+1 < ns:=by omega
   clear HNF Hd hly
   go_wp2_with (at_builtin;go_must (refine wpList_app rfl (.tmp 13) (.tmp 20) _ rfl w.heap.size 262 j0 _ 2 8 Tryz.underlying239 hj0 hy0 hy1 hy2 rfl (by omega) Aa na ca (((T.take c).flatten).map encR) rfl hal yA yn yc (s.map encR) rfl (by rw [List.length_map];exact Hly.out) (hoq.rd (by omega)) (encR_ok s) (by unfold maxLen;omega) (by omega) (by omega) ?_);intro A3 c3 w3 ho3 hg3 hA3)
   have Ho3 : Own w3 w.heap.size 262 2 A3 (na+yn) c3 (((T.take (c+1)).flatten).map encR):=by rw [HFN.out,List.map_append];exact ho3
   have hb3:=below_app hb hg3 hszr (fun a ha=>(hal.lt a ha).1)
   clear ho3 hg3
   go_roundw
   case rel=>exact ⟨c+1,A3,na+yn,c3,rfl,by go_num,by omega,Ho3,hb3⟩
   case measure=>simp [intOf];omega
  ·obtain rfl : c+1 = ns:=by omega
   have HFe : Hid ((T.take c).flatten = T.flatten):=Lib.hid (by rw [List.take_of_length_le (by have:=HTl.out;omega)])
   rw [HFe.out] at hal
   have hXr:=hX.below hb
   have HNot:=Lib.hid (sNot_any Aa na ca T.flatten wr.drew ((hal.rd (by omega)).drew) (by have h1:=hal.len;rw [List.length_map] at h1;exact h1) (by omega))
   obtain ⟨y0,hy0'⟩ : ∃ y,xs[0]? = some y:=⟨_,List.getElem?_eq_getElem (show 0 < xs.length by have:=hX.lenS.1;omega)⟩
   have k0:=hXr.hs.cell' rfl hy0'
   have hXd:=hXr.below (w':=wr.drew) ((Below.refl _ _).drew)
   have hBr : base≤wr.heap.size:=by omega
   go_wp2_with fail
   refine wp_region_noPanic ?_
   go_region_law (go_simp;go_at_call 193;refine HNot.out.mono ?_;rintro e wz ⟨A',n',c',rfl,ho',hb'⟩;have kz0:=cell_keep (w:=wr.drew) k0 hb';have kz1:=cell_keep (w:=wr.drew) e1 hb';have kzf:=(hXd.hs.below hb').frozen 0)
   all_goals
    refine NoPanic.normal ?_
    have hDz:=(hXd.below hb').storeSet (k:=0) (y:=(A',n',c')) (l:=d.rest) (by omega) (by rw [HRest.out];exact ho') hBr
    have hbz:=(((hb.mono hB).trans ((Below.refl wr.heap.size wr).drew.mono hBr)).trans (hb'.mono hBr)).trans hDz.2.1
    rw [HFS.out] at hDz
    go_wp2
    first | exact ⟨_,results_none rfl _ _ _,rfl,⟨_,_,_,_,_,_,_,hDz.1⟩,hbz⟩ | exact ⟨_,rfl,results_none rfl _ _ _,rfl,⟨_,_,_,_,_,_,_,hDz.1⟩,hbz⟩ | exact ⟨rfl,_,results_none rfl _ _ _,rfl,⟨_,_,_,_,_,_,_,hDz.1⟩,hbz⟩
def RNewEnd (r : Except (Int × Nat) DbP) (e : Ending) (w' : World) (base : Nat) : Prop :=
 match r with
 | .error x=>e = .returned (.tuple #[.pointer none,.int .i64 x.1,.int .i64 (x.2 : Int)])
 | .ok d=>∃ p x,e = .returned (.tuple #[.pointer (some ⟨p,0,none⟩),.int .i64 0,.int .i64 0])∧RfB w' base p x d.names d.full
theorem RNewEnd.err {r : Except (Int × Nat) DbP} {k : Int} {i : Nat} {w' : World} {base : Nat} (h : r = .error (k,i)) : RNewEnd r (.returned (.tuple #[.pointer none,.int .i64 k,.int .i64 (i : Int)])) w' base:=by rw [h];exact rfl
theorem RNewEnd.fine {r : Except (Int × Nat) DbP} {d : DbP} {p x : Nat} {w' : World} {base : Nat} (h : r = .ok d) (hd : RfB w' base p x d.names d.full) : RNewEnd r (.returned (.tuple #[.pointer (some ⟨p,0,none⟩),.int .i64 0,.int .i64 0])) w' base:=by rw [h];exact ⟨p,x,rfl,hd⟩
theorem step_err {d : DbP} {L : List UInt8} {k : Int} (h : stepL d L = .error k) : 6≤k:=by
 unfold stepL at h
 split at h
 ·cases h
 ·injection h with h;omega
 ·exact addL_err h
theorem rfX_first (w : World) :
  RfX (((w.alloc (.cells #[.string (bytesOf otherL)] 9)).alloc (.cells #[.slice none 0 0] 239)).alloc (.cells #[.slice (some ⟨w.heap.size,0,none⟩) 1 1,.slice (some ⟨w.heap.size+1,0,none⟩) 1 1] 206)) w.heap.size (w.heap.size+2) (w.heap.size+3)
   (some ⟨w.heap.size,0,none⟩) 1 1 (some ⟨w.heap.size+1,0,none⟩) 1 1 [(none,0,0)] [otherL] [[]] ∧
  Below w.heap.size w (((w.alloc (.cells #[.string (bytesOf otherL)] 9)).alloc (.cells #[.slice none 0 0] 239)).alloc (.cells #[.slice (some ⟨w.heap.size,0,none⟩) 1 1,.slice (some ⟨w.heap.size+1,0,none⟩) 1 1] 206)):=by
 have n1 : Own (w.alloc (.cells #[.string (bytesOf otherL)] 9)) w.heap.size 9 1 (some ⟨w.heap.size,0,none⟩) 1 1 ([otherL].map encNm):=own_one (Nat.le_refl _)
 have s2 : Own ((w.alloc (.cells #[.string (bytesOf otherL)] 9)).alloc (.cells #[.slice none 0 0] 239)) w.heap.size 239 1 (some ⟨w.heap.size+1,0,none⟩) 1 1 ([((none : Option Addr),0,0)].map encSl):=by
  have:=own_one (w:=w.alloc (.cells #[.string (bytesOf otherL)] 9)) (t:=239) (u:=.slice none 0 0) (base:=w.heap.size) (by simp)
  rw [show (w.alloc (.cells #[.string (bytesOf otherL)] 9)).heap.size = w.heap.size+1 by simp] at this
  exact this
 refine ⟨⟨?_,by omega,(n1.alloc _).alloc _,s2.alloc _,⟨rfl,?_⟩,by omega,fun a ha=>by injection ha with ha;subst ha;show w.heap.size ≠ w.heap.size+3;omega,fun a ha=>by injection ha with ha;subst ha;show w.heap.size+1 ≠ w.heap.size+3;omega⟩,?_⟩
 ·have:=Blk.new ((w.alloc (.cells #[.string (bytesOf otherL)] 9)).alloc (.cells #[.slice none 0 0] 239)) 206 #[.slice (some ⟨w.heap.size,0,none⟩) 1 1,.slice (some ⟨w.heap.size+1,0,none⟩) 1 1]
  simpa using this
 ·intro k x l hx hl
  match k,hx,hl with
  | 0,hx,hl=>simp at hx hl;subst hx;subst hl;exact Own.nil_ _ _ _ _
  | k+1,hx,hl=>simp at hx
 ·exact (((Below.refl _ _).alloc (Nat.le_refl _) _).alloc (by simp) _).alloc (by simp;omega) _
theorem vNew_any (t : List UInt8) (w : World) (ht : t.length≤maxLen) :
  Calls Tryz.prog 131 #[.string (bytesOf t)] w fun e w'=>RNewEnd (newP t) e w' w.heap.size∧Below w.heap.size w w':=by
 have hsz : (bytesOf t).size = t.length:=bytesOf_size t
 unfold maxLen at ht
 by_cases hl : 65536 < t.length
 ·have HE:=Lib.hid (newP_long hl)
  go_enter Tryz.func131,Tryz.ntmps131
  go_wp2
  go_ret3
  exact ⟨RNewEnd.err HE.out,Below.refl _ _⟩
 ·have HG:=Lib.hid (newP_go hl)
  obtain ⟨hX,hB0⟩:=rfX_first w
  have hw3 : w.heap.size+3 = (((w.alloc (.cells #[.string (bytesOf otherL)] 9)).alloc (.cells #[.slice none 0 0] 239)).alloc (.cells #[.slice (some ⟨w.heap.size,0,none⟩) 1 1,.slice (some ⟨w.heap.size+1,0,none⟩) 1 1] 206)).heap.size:=by simp
  obtain ⟨L,HL⟩ : ∃ L,Hid (splitL t = L):=⟨_,rfl⟩
  have HLl:=Lib.hid (fun i l (h : L[i]? = some l)=>line_len (t:=t) (i:=i) (l:=l) (by rw [HL.out];exact h))
  have HLn : Hid (L.length≤65537):=Lib.hid (by rw [← HL.out,splitL_count];have:=List.count_le_length (a:=(10 : UInt8)) (l:=t);omega)
  have HNP : Hid (newP t = linesGo DbP.first L 0):=Lib.hid (by rw [HG.out,HL.out])
  have HV:=Lib.hid (fun W=>vLines_any t W (by omega))
  rw [HL.out] at HV
  go_enter Tryz.func131,Tryz.ntmps131
  go_wp2_with fail
  rw [show (⟨#[79,116,104,101,114]⟩ : ByteArray) = bytesOf otherL from rfl]
  generalize ((w.alloc (.cells #[.string (bytesOf otherL)] 9)).alloc (.cells #[.slice none 0 0] 239)).alloc (.cells #[.slice (some ⟨w.heap.size,0,none⟩) 1 1,.slice (some ⟨w.heap.size+1,0,none⟩) 1 1] 206) = w3 at hX hB0 hw3 ⊢
  refine (HV.out w3).mono ?_
  rintro e w4 ⟨AL,nL,cL,rfl,hoL,hb4⟩
  have hnL : L.length = nL:=by simpa using hoL.len
  have hX4:=hX.below hb4
  have hB4:=below_step hB0 hb4 (by have:=hB0.size;omega)
  have HnL:=Lib.hid hnL
  have HLne : Hid (L ≠ []):=Lib.hid (by rw [← HL.out];exact splitL_ne t)
  clear hnL HG HL
  obtain ⟨x,hxw,hXx,hcells⟩ : ∃ x,x < w4.heap.size∧RfX w4 w.heap.size (w.heap.size+2) x (some ⟨w.heap.size,0,none⟩) 1 1 (some ⟨w.heap.size+1,0,none⟩) 1 1 [(none,0,0)] [otherL] [[]] ∧
    (∀ W : World,W.heap[x]? = w4.heap[x]?→∀ i l,L[i]? = some l→∃ off,AL = some ⟨x,off,none⟩∧W.cell? ⟨x,off+i,none⟩ = some (.string (bytesOf l))):=by
   have h0 : 0 < nL:=by
    cases hq : L with
    | nil=>exact absurd hq HLne.out
    | cons a b=>rw [← HnL.out,hq];simp
   obtain ⟨gx,hgx,hg1,hg2⟩:=hoL.form h0
   subst hgx
   refine ⟨gx,hg2,{ hX4 with xp:=by omega,xn:=fun a ha=>by injection ha with ha;subst ha;show w.heap.size ≠ gx;omega,xs_:=fun a ha=>by injection ha with ha;subst ha;show w.heap.size+1 ≠ gx;omega },fun W hW i l hl=>?_⟩
   have h1:=hoL.cell (k:=i) (j:=0) (x:=encNm l) (u:=.string (bytesOf l)) (by rw [List.getElem?_map,hl];rfl) rfl
   simp only [Nat.mul_one,Nat.add_zero] at h1
   exact ⟨0,rfl,by rw [Nat.zero_add];exact (World.cell?_of_block hW).trans h1⟩
  have HCells:=Lib.hid hcells
  have hsw:=hB4.size
  clear hcells hX hX4 hB0 hw3 hb4 hoL
  generalize w.heap.size+2 = p at hXx ⊢
  go_wp2_with fail
  go_loopw [7] (fun v wr=>∃ (i : Nat) (d : DbP),v = .int .i64 i∧i≤L.length∧RfB wr w.heap.size p x d.names d.sets∧wr.heap[x]? = w4.heap[x]?∧Hid (NewAt L i d)∧Below w.heap.size w wr∧x < wr.heap.size) (fun v _=>L.length - (intOf v).toNat)
  case atStart=>exact ⟨0,DbP.first,rfl,by omega,⟨_,_,_,_,_,_,_,hXx⟩,rfl,newAt_first L,hB4,hxw⟩
  case round =>
   clear hXx
   obtain ⟨i,d,rfl,hi,hd,hxr,HN,hb,hxl⟩:=hrel
   have hszr:=hb.size
   have hnl:=HnL.out
   by_cases hlt : i < L.length
   ·obtain ⟨l,Hl⟩ : ∃ l,Hid (L[i]? = some l):=⟨_,Lib.hid (List.getElem?_eq_getElem hlt)⟩
    obtain ⟨off,rfl,hcell⟩:=HCells.out wr hxr i l Hl.out
    have hll:=HLl.out i l Hl.out
    have HN2:=HLn.out
    have HA:=Lib.hid (vline_any p w.heap.size x d l wr hd HN.out.2.2.1 hxl hszr (by omega))
    have hltn : i < nL:=by omega
    clear hnl
    cases hs : stepL d l with
    | error k =>
     rw [hs] at HA
     have hk0 : ((k : Int) != 0) = true:=by rw [bne_iff_ne];have:=step_err hs;omega
     have HE:=Lib.hid (HNP.out.trans (newAt_err HN.out Hl.out hs))
     clear hs
     go_wp2_with fail
     refine HA.out.mono ?_
     rintro e w6 ⟨hk,hae⟩
     have he : e = .returned (.int .i64 k):=hae
     subst he
     go_wp2
     go_ret3
     exact ⟨RNewEnd.err HE.out,hb.trans hk.1⟩
    | ok d' =>
     rw [hs] at HA
     have HN':=Lib.hid (newAt_next HN.out Hl.out hs)
     clear hs
     go_wp2_with fail
     refine HA.out.mono ?_
     rintro e w6 ⟨hk,rfl,hd'⟩
     go_wp2
     go_roundw
     case rel=>exact ⟨i+1,d',by go_num,by omega,hd',(hk.2 hxl).trans hxr,HN',hb.trans hk.1,Nat.lt_of_lt_of_le hxl hk.1.size⟩
     case measure=>simp [intOf];omega
   ·have HE:=Lib.hid (HNP.out.trans (newAt_end HN.out hlt))
    have HC:=Lib.hid (vrest_any p w.heap.size x d wr hd HN.out.2.2.1 HN.out.2.2.2 hszr)
    go_wp2_with (go_at_call 159;refine HC.out.mono ?_;rintro e w5 ⟨rfl,hda,hb5⟩)
    go_ret3
    exact ⟨RNewEnd.fine HE.out hda,hb.trans hb5⟩
end
end Go.Proofs.YtlfpdpbbkjnapaaGreatDoor
