/-
 Several texts in one,in their build order: PlcQ,PlcU,PlcV,PlcW,PrO,PrQ,PlcX,PlcY,PlcZ.
-/
import Derived.Test.YtlfpdpbbkjnapaaGreatDoorYPlacesTells1a
import Derived.Test.YtlfpdpbbkjnapaaGreatDoorYPlacesTellsPlcK
import Derived.Test.YtlfpdpbbkjnapaaGreatDoorYPlacesTellsPrN
import Derived.Test.YtlfpdpbbkjnapaaGreatDoorYPlacesTells0a
import Derived.Test.YtlfpdpbbkjnapaaGreatDoorYPlacesTells0c
import Derived.Test.YtlfpdpbbkjnapaaGreatDoorP0a
/- -/
namespace Go.Proofs.YtlfpdpbbkjnapaaGreatDoor
set_option maxRecDepth 100000
set_option maxHeartbeats 40000000
section
open Go.RowKit
def liveT : ByteArray:=⟨#[97,195,169,240,159,152,128,13,10,120]⟩
theorem liveT_unit : (begP liveT 0).length = 7:=by kernel_rfl
theorem liveT_letter : (begP liveT 3).length = 5:=by kernel_rfl
theorem liveT_to : toP liveT 0 5 = 4:=by kernel_rfl
theorem liveT_from : fromQ liveT 0 3 = 4:=by kernel_rfl
theorem liveT_line : lnAt liveT 0 = (0,7,9):=by kernel_rfl
theorem liveT_point : pointP liveT 8 = (0,3):=by kernel_rfl
theorem liveT_at : atP liveT 1 0 = 9:=by kernel_rfl
theorem qlive17_any (w : World) (hE : Env w) : Calls Tryz.prog 13 #[] w fun e w'=>e = .returned (.bool true)∧Below w.heap.size w w':=by
 have hs : liveT.size≤100000:=by decide
 have hs2 : liveT.size≤1000000:=by decide
 have H1:=Lib.hid (qNew_any liveT w hE hs)
 have H2:=Lib.hid (fun p W (h : IdxAt W p liveT)=>qLine_any p liveT 0 W h)
 have H3:=Lib.hid (fun p W (h : IdxAt W p liveT)=>qLen_any p liveT 0 W h (by decide))
 have H4:=Lib.hid (fun p W (h : IdxAt W p liveT)=>qLen_any p liveT 3 W h (by decide))
 have H5:=Lib.hid (fun p W (h : IdxAt W p liveT)=>qTo_any p liveT 0 5 W h (by decide) hs2)
 have H6:=Lib.hid (fun p W (h : IdxAt W p liveT)=>qFrom_any p liveT 0 3 W h (by decide))
 have H7:=Lib.hid (fun p W (h : IdxAt W p liveT)=>qPoint_any p liveT 8 W h hs2)
 have H8:=Lib.hid (fun p W (h : IdxAt W p liveT)=>qAt_any p liveT 1 0 W h)
 simp only [liveT_line] at H2
 simp only [liveT_unit] at H3
 simp only [liveT_letter] at H4
 simp only [liveT_to] at H5
 simp only [liveT_from] at H6
 simp only [liveT_point] at H7
 simp only [liveT_at] at H8
 unfold liveT at H1
 go_enter Tryz.func13,Tryz.ntmps13
 go_wp2_with fail
 refine H1.out.mono ?_
 rintro e w1 ⟨p,rfl,hI1,hb1⟩
 go_wp2_with fail
 refine (H2.out p w1 hI1).mono ?_
 rintro e w2 ⟨rfl,hb2⟩
 have hB2:=below_two hb1 hb2
 have hI2 : IdxAt w2 p liveT:=hI1.below hb2
 go_wp2_with fail
 refine (H3.out p w2 hI2).mono ?_
 rintro e w3 ⟨rfl,rfl⟩
 go_wp2_with fail
 refine (H4.out p w2 hI2).mono ?_
 rintro e w3 ⟨rfl,rfl⟩
 go_wp2_with fail
 refine (H5.out p w2 hI2).mono ?_
 rintro e w3 ⟨rfl,hb3⟩
 have hB3:=below_two hB2 hb3
 have hI3:=hI2.below hb3
 go_wp2_with fail
 refine (H6.out p w3 hI3).mono ?_
 rintro e w4 ⟨rfl,rfl⟩
 go_wp2_with fail
 refine (H7.out p w3 hI3).mono ?_
 rintro e w5 ⟨rfl,hb5⟩
 have hB5:=below_two hB3 hb5
 have hI5:=hI3.below hb5
 go_wp2_with fail
 refine (H8.out p w5 hI5).mono ?_
 rintro e w6 ⟨rfl,hb6⟩
 have hB6:=below_two hB5 hb6
 go_wp2
 go_ret
 exact ⟨rfl,hB6⟩
end
section
open Go.RowKit
end
section
open Go.RowKit
theorem below_take {l : List Nat} {i y : Nat} (h : l[i]? = some y) (x : Int) : belowP (l.take (i+1)) x = belowP (l.take i) x+if (y : Int) < x then 1 else 0:=by
 unfold belowP
 rw [List.take_add_one,h,List.filter_append,List.length_append]
 congr 1
 by_cases hx : (y : Int) < x <;> simp [hx]
theorem fbelow_any (B : Option Addr) (m c : Nat) (l : List Nat) (x : Int) (w : World) (hr : Rd w 1 B (l.map encN)) (hl : l.length = m) (hm : m≤4000000) :
  Calls Tryz.prog 88 #[.slice B m c,.int .i64 x] w fun e w'=>e = .returned (.int .i64 (belowP l x : Nat))∧w = w':=by
 obtain ⟨V,HV⟩ : ∃ V,Hid (belowP l x = V):=⟨_,Lib.hid rfl⟩
 rw [HV.out]
 have HR:=Lib.hid hr
 have HL:=Lib.hid hl
 clear hr hl
 go_enter Tryz.func88,Tryz.ntmps88
 go_wp2_with fail
 go_loopw [5,6] (fun u v wr=>∃ n i : Nat,u = .int .i64 n∧v = .int .i64 i∧i≤m∧n≤i∧Hid (n = belowP (l.take i) x)∧wr = w) (fun _ v _=>m - (intOf v).toNat)
 case atStart=>exact ⟨0,0,rfl,rfl,by omega,by omega,Lib.hid rfl,rfl⟩
 case round =>
  obtain ⟨n,i,rfl,rfl,hi,hn,HN,rfl⟩:=hrel
  by_cases hlt : i < m
  ·have hlt2 : (i : Int) < (m : Int):=by omega
   obtain ⟨y,hy⟩ : ∃ y,l[i]? = some y:=⟨_,List.getElem?_eq_getElem (by rw [HL.out];exact hlt)⟩
   obtain ⟨bk,off,rfl,cy⟩:=HR.out.atP' hy
   have hb:=below_take hy x
   clear hy
   by_cases hyx : (y : Int) < x
   ·have HN2 : Hid (n+1 = belowP (l.take (i+1)) x):=Lib.hid (by rw [hb,if_pos hyx,← HN.out])
    clear hb
    go_wp2
    go_roundw
    case rel=>exact ⟨n+1,i+1,by go_num,by go_num,by omega,by omega,HN2,trivial⟩
    case measure=>simp [intOf];omega
   ·have HN2 : Hid (n = belowP (l.take (i+1)) x):=Lib.hid (by rw [hb,if_neg hyx,← HN.out];rfl)
    clear hb
    go_wp2
    go_roundw
    case rel=>exact ⟨n,i+1,rfl,by go_num,by omega,by omega,HN2,trivial⟩
    case measure=>simp [intOf];omega
  ·have hlt2 : ¬ (i : Int) < (m : Int):=by omega
   have HN2 : Hid (n = V):=Lib.hid (by rw [← HV.out,HN.out,List.take_of_length_le (by rw [HL.out];omega)])
   go_wp2
   go_ret
   exact ⟨by rw [← HN2.out];rfl,rfl⟩
theorem fpick_any (B : Option Addr) (m c : Nat) (l : List Nat) (n : Int) (z : Nat) (w : World) (hr : Rd w 1 B (l.map encN)) (hl : l.length = m) :
  Calls Tryz.prog 89 #[.slice B m c,.int .i64 n,.int .i64 (z : Nat)] w fun e w'=>e = .returned (.int .i64 (pickP l n z : Nat))∧w = w':=by
 by_cases h0 : n < 0
 ·have HV : Hid (pickP l n z = 0):=Lib.hid (if_pos h0)
  clear hr
  go_enter Tryz.func89,Tryz.ntmps89
  go_wp2
  go_ret
  exact ⟨by rw [HV.out];rfl,rfl⟩
 have HV0 : Hid (pickP l n z = if (l.length : Int)≤n then z else l.getD n.toNat 0):=Lib.hid (if_neg h0)
 rw [hl] at HV0
 by_cases h1 : n ≥ (m : Int)
 ·have HV : Hid (pickP l n z = z):=Lib.hid (HV0.out.trans (if_pos h1))
  clear hr hl
  go_enter Tryz.func89,Tryz.ntmps89
  go_wp2
  go_ret
  exact ⟨by rw [HV.out];rfl,rfl⟩
 obtain ⟨k,rfl⟩ : ∃ k : Nat,n = k:=⟨n.toNat,by omega⟩
 obtain ⟨y,hy⟩ : ∃ y,l[k]? = some y:=⟨_,List.getElem?_eq_getElem (by omega)⟩
 have HV : Hid (pickP l (k : Nat) z = y):=Lib.hid (by rw [HV0.out,if_neg (by omega),Int.toNat_natCast,List.getD_eq_getElem?_getD,hy];rfl)
 obtain ⟨bk,off,rfl,cy⟩:=hr.atP' hy
 have h2 : (k : Int) < (m : Int):=by omega
 clear hr hl hy
 go_enter Tryz.func89,Tryz.ntmps89
 go_wp2
 go_ret
 exact ⟨by rw [HV.out];rfl,rfl⟩
end
section
open Go.RowKit
def encLn3 (x : Nat × Nat × Nat) : List Value:=[.int .i64 (x.1 : Nat),.int .i64 (x.2.1 : Nat),.int .i64 (x.2.2 : Nat)]
def LsM (w : World) (A : Option Addr) (L : List (List Nat)) : Prop :=
 ∃ V : List Value,V.length = L.length∧Rd w 1 A (V.map fun v=>[v])∧∀ (k : Nat) (l : List Nat) (v : Value),L[k]? = some l→V[k]? = some v→∃ B c,v = .slice B l.length c∧Rd w 1 B (l.map encN)
theorem LsM.below {w w' : World} {A : Option Addr} {L : List (List Nat)} (h : LsM w A L) (hb : Below w.heap.size w w') : LsM w' A L:=by
 obtain ⟨V,h1,h2,h3⟩:=h
 exact ⟨V,h1,h2.below hb,fun k l v hl hv=>let ⟨B,c,e,hB⟩:=h3 k l v hl hv;⟨B,c,e,hB.below hb⟩⟩
theorem LsM.at_ {w : World} {A : Option Addr} {L : List (List Nat)} (h : LsM w A L) {k : Nat} {l : List Nat} (hl : L[k]? = some l) :
  ∃ b off B c,A = some ⟨b,off,none⟩∧w.cell? ⟨b,off+k,none⟩ = some (.slice B l.length c)∧Rd w 1 B (l.map encN):=by
 obtain ⟨V,h1,h2,h3⟩:=h
 have hk:=(List.getElem?_eq_some_iff.1 hl).1
 obtain ⟨v,hv⟩ : ∃ v,V[k]? = some v:=⟨_,List.getElem?_eq_getElem (by omega)⟩
 obtain ⟨B,c,rfl,hB⟩:=h3 k l v hl hv
 obtain ⟨b,off,rfl,hc⟩:=h2 (by intro e;cases V with | nil=>simp at hv | cons _ _=>simp at e)
 exact ⟨b,off,B,c,rfl,by simpa using hc k 0 _ _ (by rw [List.getElem?_map,hv];rfl) rfl,hB⟩
def BookAt (w : World) (p : Nat) (s : ByteArray) : Prop :=
 ∃ (A R G : Option Addr) (c c2 c3 : Nat),Blk w p 107 #[.string s,.slice A 4 c,.slice R (lnP s).length c2,.slice G (lnP s).length c3]∧LsM w A [unitsP s,startsP s,List.range s.size,letS s]∧Rd w 3 R ((lnP s).map encLn3)∧LsM w G ((lnP s).map (letQ s))
theorem BookAt.below {w w' : World} {p : Nat} {s : ByteArray} (h : BookAt w p s) (hb : Below w.heap.size w w') : BookAt w' p s:=by
 obtain ⟨A,R,G,c,c2,c3,h1,h2,h3,h4⟩:=h
 exact ⟨A,R,G,c,c2,c3,h1.below hb,h2.below hb,h3.below hb,h4.below hb⟩
theorem begP_at (s : ByteArray) {k : Nat} (h : k < 4) : [unitsP s,startsP s,List.range s.size,letS s][k]? = some (begP s (k : Nat)):=by
 match k,h with
 | 0,_=>rfl
 | 1,_=>rfl
 | 2,_=>rfl
 | 3,_=>rfl
theorem begP_out (s : ByteArray) {b : Int} (h : b < 0∨3 < b) : begP s b = []:=by
 unfold begP
 rw [if_neg (by omega),if_neg (by omega),if_neg (by omega),if_neg (by omega)]
theorem fBegins_any (p : Nat) (s : ByteArray) (b : Int) (w : World) (h : BookAt w p s) :
  Calls Tryz.prog 57 #[.pointer (some ⟨p,0,none⟩),.int .i64 b] w fun e w'=>∃ B c,e = .returned (.slice B (begP s b).length c)∧Rd w 1 B ((begP s b).map encN)∧w = w':=by
 by_cases h0 : b < 0
 ·have HV:=Lib.hid (begP_out s (.inl h0))
  clear h
  go_enter Tryz.func57,Tryz.ntmps57
  go_wp2
  go_ret
  exact ⟨none,0,by rw [HV.out];rfl,by rw [HV.out];exact Rd.nil_ _ _ _,rfl⟩
 by_cases h1 : b > 3
 ·have HV:=Lib.hid (begP_out s (.inr h1))
  clear h
  go_enter Tryz.func57,Tryz.ntmps57
  go_wp2
  go_ret
  exact ⟨none,⟨0,by rw [HV.out];rfl⟩,by rw [HV.out];exact Rd.nil_ _ _ _,rfl⟩
 obtain ⟨k,rfl⟩ : ∃ k : Nat,b = k:=⟨b.toNat,by omega⟩
 obtain ⟨A,R,G,c,c2,c3,h2,h3,_,_⟩:=h
 obtain ⟨g,off,B,d,rfl,x0,hr⟩:=h3.at_ (begP_at s (k:=k) (by omega))
 have e1:=h2.cell 1
 simp only [zG,zH,zI] at e1
 have HR:=Lib.hid hr
 generalize begP s (k : Nat) = L at x0 HR ⊢
 generalize L.length = m at x0 ⊢
 have hk : (k : Int) < 4:=by omega
 have hk0 : (0 : Int)≤(k : Int):=by omega
 clear h2 h3 hr
 go_enter Tryz.func57,Tryz.ntmps57
 go_wp2
 go_ret
 exact ⟨B,⟨d,rfl⟩,HR.out,rfl⟩
end
section
open Go.RowKit
theorem linesB_split : ∀ (l acc : List UInt8),∃ x t,splitL l = x :: t∧linesB l acc = (acc.reverse++x) :: t
 | [],acc=>⟨[],[],rfl,by simp [linesB]⟩
 | c :: r,acc=>by
  have hc : c = 10 ↔ c.toNat = 10:=u8_eq (n:=10) (by omega)
  by_cases h : c.toNat = 10
  ·obtain ⟨x,t,h1,h2⟩:=linesB_split r []
   refine ⟨[],splitL r,by rw [splitL,if_pos (hc.2 h)],?_⟩
   rw [linesB,if_pos h,h2,h1];simp
  ·obtain ⟨x,t,h1,h2⟩:=linesB_split r (c :: acc)
   refine ⟨c :: x,t,by rw [splitL,if_neg (fun e=>h (hc.1 e)),h1],?_⟩
   rw [linesB,if_neg h,h2];simp
theorem linesB_eq (l : List UInt8) : linesB l [] = splitL l:=by
 obtain ⟨x,t,h1,h2⟩:=linesB_split l []
 rw [h1,h2];rfl
theorem split_each : ∀ (l : List UInt8),(splitL l).length≤l.length+1∧∀ x ∈ splitL l,x.length≤l.length
 | []=>by simp [splitL]
 | c :: r=>by
  obtain ⟨h1,h2⟩:=split_each r
  rw [splitL]
  split
  ·refine ⟨by simp;omega,fun x hx=>?_⟩
   rcases List.mem_cons.1 hx with rfl | hx
   ·simp
   ·have:=h2 x hx;simp;omega
  ·split
   ·exact ⟨by simp,by simp⟩
   ·rename_i x t hs
    rw [hs] at h1 h2
    refine ⟨by simp at h1 ⊢;omega,fun y hy=>?_⟩
    rcases List.mem_cons.1 hy with rfl | hy
    ·have:=h2 x (by simp);simp;omega
    ·have:=h2 y (List.mem_cons_of_mem _ hy);simp;omega
theorem rules_step {ns : List (List UInt8)} {ls : List (List UInt8)} {i : Nat} {l : List UInt8} {x y : RsP} (h : rulesGo ns (ls.drop i) x = some y) (hl : ls[i]? = some l) : ∃ z,ruleLine ns x l = some z∧rulesGo ns (ls.drop (i+1)) z = some y:=by
 obtain ⟨hi,e⟩:=List.getElem?_eq_some_iff.1 hl
 rw [List.drop_eq_getElem_cons hi,e,rulesGo] at h
 split at h
 ·cases h
 ·rename_i z hz
  exact ⟨z,hz,h⟩
theorem rules_end {ns : List (List UInt8)} {ls : List (List UInt8)} {i : Nat} {x y : RsP} (h : rulesGo ns (ls.drop i) x = some y) (hi : ls.length≤i) : x = y:=by
 rw [List.drop_eq_nil_of_le hi,rulesGo] at h
 injection h
theorem rulesP_some {ns : List (List UInt8)} {l : List UInt8} {y : RsP} (h : rulesP ns l = some y) : l.length≤16384∧rulesGo ns (splitL l) ⟨[],true,false⟩ = some y:=by
 unfold rulesP at h
 split at h
 ·cases h
 ·rw [linesB_eq] at h
  exact ⟨by omega,h⟩
def RRx (w : World) (p B : Nat) (A : Option Addr) (nn cn : Nat) (names : List (List UInt8)) (x : RsP) : Prop:=∃ v,RR w p B A nn cn names x.rules v x.rest x.rested
def RuCell (w : World) (b : Nat) (v : Sv) (rest : Bool) : Prop:=w.cell? ⟨b,0,none⟩ = some (.slice v.1 v.2.1 v.2.2)∧w.cell? ⟨b,1,none⟩ = some (.bool rest)
theorem res_parse8 (w : World) (b : Nat) (v : Sv) (rest : Bool) (tmps : Array Value) (h4 : tmps.getD 4 undef = .pointer (some ⟨b,0,none⟩)) (h5 : tmps.getD 5 undef = .int .i64 0) (h6 : tmps.getD 6 undef = .int .i64 0) (hc : RuCell w b v rest) : (results Tryz.f126 tmps).run Tryz.prog w = .ok (.tuple #[valRs v rest,.int .i64 0,.int .i64 0]) w:=by
 have h4' : tmps[4]?.getD undef = .pointer (some ⟨b,0,none⟩):=by simpa [Array.getD_eq_getD_getElem?] using h4
 have h5' : tmps[5]?.getD undef = .int .i64 0:=by simpa [Array.getD_eq_getD_getElem?] using h5
 have h6' : tmps[6]?.getD undef = .int .i64 0:=by simpa [Array.getD_eq_getD_getElem?] using h6
 obtain ⟨h0,h1⟩:=hc
 simp [results,Tryz.results126,go_sem,h4',h5',h6',h0,h1,valRs]
theorem oParse_any (t : List UInt8) (A : Option Addr) (nn cn : Nat) (names : List (List UInt8)) (y : RsP) (w : World) (hA : Rd w 1 A (names.map encNm)) (hAl : ∀ x,A = some x→x.block < w.heap.size) (hl : names.length = nn) (hn : nmsOk names = true) (hP : rulesP names t = some y) :
  Calls Tryz.prog 126 #[.string (bytesOf t),.slice A nn cn] w fun e w'=>∃ v,e = .returned (.tuple #[valRs v y.rest,.int .i64 0,.int .i64 0])∧RsX w' (fun b=>w.heap.size≤b) y.rules v∧Below w.heap.size w w':=by
 obtain ⟨hsz,hg⟩:=rulesP_some hP
 have hbs : (bytesOf t).size = t.length:=bytesOf_size t
 have HN:=Lib.hid (jNames_ok A nn cn names (w.alloc (.cells #[.slice none 0 0,.bool false] 178)) (hA.alloc _) hl hn)
 have HL:=Lib.hid (fun W=>oLines_any t W (by omega))
 have HE:=Lib.hid (split_each t)
 have HO:=Lib.hid (fun L p B x z W (h : RRx W p B A nn cn names x) (hL : L.length≤16384) (hP : ruleLine names x L = some z)=>(by
  obtain ⟨v,hv⟩:=h
  exact (oline_any L p B A nn cn names x z v W hv hn hL hP).mono fun e w' he=>⟨he.1,by obtain ⟨v',h1,h2,h3⟩:=he.2;exact ⟨⟨v',h1⟩,h2,h3⟩⟩ : Calls Tryz.prog 151 #[.pointer (some ⟨p,0,none⟩),.string (bytesOf L)] W fun e w'=>e = .returned (.int .i64 0)∧RRx w' p B A nn cn names z∧Below p W w'∧∀ i,i < B→i ≠ p→w'.heap[i]? = W.heap[i]?))
 have HG:=Lib.hid hg
 have HA:=Lib.hid hA
 have HAl:=Lib.hid hAl
 have Hl:=Lib.hid hl
 have h16 : ¬ 16384 < t.length:=by omega
 clear hA hAl hl hn hP hg
 go_enter Tryz.func126,Tryz.ntmps126
 go_wp2_with fail
 refine HN.out.mono ?_
 rintro e w1 ⟨rfl,q,rfl⟩
 have hB1 : Blk ((w.alloc (.cells #[.slice none 0 0,.bool false] 178)).drewN q) w.heap.size 178 #[.slice none 0 0,.bool false]:=(Blk.new w _ _).drewN q
 have hb1 : Below w.heap.size w ((w.alloc (.cells #[.slice none 0 0,.bool false] 178)).drewN q):=below_drewN ((Below.refl w.heap.size w).alloc (Nat.le_refl _) _) q
 have hz1 : ((w.alloc (.cells #[.slice none 0 0,.bool false] 178)).drewN q).heap.size = w.heap.size+1:=by simp
 generalize (w.alloc (.cells #[.slice none 0 0,.bool false] 178)).drewN q = V at hB1 hb1 hz1 ⊢
 have hP2 : Blk (V.alloc (.cells #[.slice A nn cn,.slice none 0 0,.bool true,.bool false] 201)) V.heap.size 201 #[.slice A nn cn,.slice none 0 0,.bool true,.bool false]:=Blk.new _ _ _
 rw [hz1] at hP2
 have hB2:=hB1.alloc (.cells #[.slice A nn cn,.slice none 0 0,.bool true,.bool false] 201)
 have hb2:=hb1.alloc (by omega) (.cells #[.slice A nn cn,.slice none 0 0,.bool true,.bool false] 201)
 have hz2 : (V.alloc (.cells #[.slice A nn cn,.slice none 0 0,.bool true,.bool false] 201)).heap.size = w.heap.size+2:=by simp;omega
 have HL2:=Lib.hid (HL.out (V.alloc (.cells #[.slice A nn cn,.slice none 0 0,.bool true,.bool false] 201)))
 clear HN HL hB1 hb1
 go_wp2_with fail
 refine HL2.out.mono ?_
 rintro e w3 ⟨AL,n,c,rfl,hol,hb3⟩
 have hP3:=hP2.below hb3
 have hB3:=hB2.below hb3
 have hbw3:=below_step hb2 hb3 (by omega)
 have hz3:=hb3.size
 have hnl : (splitL t).length = n:=by have:=hol.len;simpa using this
 have Hnl:=Lib.hid hnl
 have hnz : n≤16385:=by have:=HE.out.1;omega
 have hRL:=hol.rd (by decide)
 have hAL : ∀ a,AL = some a→w.heap.size+2≤a.block∧a.block < w3.heap.size:=fun a ha=>by have:=hol.lt a ha;omega
 have hR3 : RRx w3 (w.heap.size+1) w3.heap.size A nn cn names ⟨[],true,false⟩:=⟨(none,0,0),hP3,HA.out.below hbw3,Hl.out,fun x hx=>by have:=HAl.out x hx;omega,by omega,Nat.le_refl _,[],Own.nil_ _ _ _ _,rfl,fun i r u hr _=>by simp at hr⟩
 clear HL2 hP2 hB2 hb2 hb3 hP3 hnl hol hz1
 go_wp2_with fail
 go_loopw [9,10] (fun v9 _ wr=>∃ (i : Nat) (x : RsP),v9 = .int .i64 i∧i≤n∧RRx wr (w.heap.size+1) w3.heap.size A nn cn names x∧Hid (rulesGo names ((splitL t).drop i) x = some y)∧Below (w.heap.size+1) w3 wr∧∀ k,k < w3.heap.size→k ≠ w.heap.size+1→wr.heap[k]? = w3.heap[k]?) (fun v9 _ _=>n - (intOf v9).toNat)
 case atStart=>exact ⟨0,⟨[],true,false⟩,rfl,by omega,hR3,HG,Below.refl _ _,fun _ _ _=>rfl⟩
 case round =>
  clear hR3
  obtain ⟨i,x,rfl,hi,hR,HGi,hbr,hkr⟩:=hrel
  have hRLr : Rd wr 1 AL ((splitL t).map encNm):=hRL.keep fun b off k u ha hc=>by
   have:=hAL _ ha
   rw [← hc]
   simp [World.cell?,hkr b this.2 (by simp only at this;omega)]
  by_cases hlt : i < n
  ·obtain ⟨l,Hl2⟩ : ∃ l,Hid ((splitL t)[i]? = some l):=⟨_,Lib.hid (List.getElem?_eq_getElem (by have:=Hnl.out;omega))⟩
   obtain ⟨z,hz,hgz⟩:=rules_step HGi.out Hl2.out
   obtain ⟨b,off,rfl,hc⟩:=hRLr.atS Hl2.out
   have HO2:=Lib.hid (HO.out l _ _ x z wr hR (by have:=HE.out.2 l (List.mem_of_getElem? Hl2.out);omega) hz)
   have HGz:=Lib.hid hgz
   clear hz hgz hRLr
   go_wp2_with fail
   refine HO2.out.mono ?_
   rintro e w5 ⟨rfl,hR5,hb5,hk5⟩
   have hbr5:=hbr.trans hb5
   have hkr5 : ∀ k,k < w3.heap.size→k ≠ w.heap.size+1→w5.heap[k]? = w3.heap[k]?:=fun k h1 h2=>(hk5 k h1 h2).trans (hkr k h1 h2)
   clear HO2 hR hb5 hk5 hbr hkr
   go_wp2
   go_roundw
   case rel=>exact ⟨i+1,z,by go_num,by omega,hR5,HGz,hbr5,hkr5⟩
   case measure=>simp [intOf];omega
  ·obtain rfl : i = n:=by omega
   obtain rfl:=rules_end HGi.out (by have:=Hnl.out;omega)
   obtain ⟨v,hv⟩:=hR
   obtain ⟨A1,n1,c1'⟩:=v
   have c1:=hv.blk.cell 1
   have c2:=hv.blk.cell 2
   simp only [zG,zI,zH] at c1 c2
   have hB4 : Blk wr w.heap.size 178 #[.slice none 0 0,.bool false]:=(hbr.block _ (by omega)).trans hB3
   have z0:=hB4.cell 0
   have z1:=hB4.cell 1
   simp only [zG,zI,zH] at z0 z1
   have g0:=hB4.frozen 0
   have g1:=hB4.frozen 1
   have hk8 : wr.grownBy ((wr.setCell ⟨w.heap.size,0,none⟩ (.slice A1 n1 c1')).setCell ⟨w.heap.size,1,none⟩ (.bool x.rest)) (some w.heap.size):=only_setCell (only_setCell (only_refl _ _) (p:=⟨w.heap.size,0,none⟩) (.inl rfl) _) (p:=⟨w.heap.size,1,none⟩) (.inl rfl) _
   have hB8:=(hB4.set_ 0 (.slice A1 n1 c1')).set_ 1 (.bool x.rest)
   simp only [zD,zE,zF] at hB8
   have HX : Hid (RsX ((wr.setCell ⟨w.heap.size,0,none⟩ (.slice A1 n1 c1')).setCell ⟨w.heap.size,1,none⟩ (.bool x.rest)) (fun b=>w.heap.size≤b) x.rules (A1,n1,c1')):=Lib.hid (by
    obtain ⟨vs,ho,hvs,hru⟩:=hv.ex
    have hx1 : RsX wr (fun b=>w.heap.size+1≤b) x.rules (A1,n1,c1'):=⟨vs,SlX.own ho (by decide) (fun a ha=>by have:=(ho.lt a ha).1;omega),hvs,fun i r u hr hu=>(hru i r u hr hu).keep (KeepX.same (fun b h _=>by have:=h.1;omega))⟩
    exact hx1.keep ((KeepX.grown hk8 (fun r hr h=>by injection hr with hr;subst hr;omega)).trans (KeepX.same (fun b h _=>by omega))))
   have HB:=Lib.hid ((hbw3.trans (hbr.mono (by omega))).trans (below_only hk8 (by have:=hbr.size;omega) (Nat.le_refl _)))
   have HC : Hid (RuCell ((wr.setCell ⟨w.heap.size,0,none⟩ (.slice A1 n1 c1')).setCell ⟨w.heap.size,1,none⟩ (.bool x.rest)) w.heap.size (A1,n1,c1') x.rest):=Lib.hid ⟨hB8.cell 0,hB8.cell 1⟩
   clear hk8 hB8 hB4 hbr hkr hRLr hv
   go_wp2
   refine bodyPost_ret (res_parse8 _ w.heap.size (A1,n1,c1') x.rest _ rfl rfl rfl HC.out) rfl ?_
   exact ⟨_,rfl,HX.out,HB.out⟩
theorem vNames_any (base p x : Nat) (N : List (List UInt8)) (S : List (List (Int × Int))) (w : World) (h : RfB w base p x N S) (hz : N.length≤64) :
  Calls Tryz.prog 127 #[.pointer (some ⟨p,0,none⟩)] w fun e w'=>∃ A n c,e = .returned (.slice A n c)∧Own w' w.heap.size 9 1 A n c (N.map encNm)∧Below w.heap.size w w':=by
 obtain ⟨i0,hi0,hz0,hz1,hz2⟩:=info_parts info_cloneS
 obtain ⟨An,nn,cn,As,ns,cs,xs,hX⟩:=h.ex
 have hl:=hX.lenN
 have Hl:=Lib.hid hl
 have c0:=hX.blk.cell 0
 simp only [zG,zH] at c0
 have c0':=cell_alloc9 c0 (.cells #[] 9)
 have hA:=hX.hn.rd (by decide)
 have hnz : nn≤64:=by omega
 clear h hX hl hz
 go_enter Tryz.func127,Tryz.ntmps127
 go_wp2_with (at_builtin;go_must (refine wpList_app rfl (.tmp 3) (.tmp 7) _ rfl w.heap.size 9 i0 _ 1 16 Tryz.underlying184 hi0 hz0 hz1 hz2 rfl (by omega) (some ⟨w.heap.size,0,none⟩) 0 0 [] rfl (Own.lit w w.heap.size 9 1 (Nat.le_refl _)) An nn cn (N.map encNm) rfl (by rw [List.length_map];exact Hl.out) (hA.alloc _) (encNm_ok N) (by unfold maxLen;omega) (by omega) (by simp) ?_);intro A3 c3 w3 ho3 hg3 hA3)
 go_ret
 rw [Nat.zero_add] at ho3
 exact ⟨A3,nn,c3,rfl,by simpa using ho3,below_app ((Below.refl _ _).alloc (Nat.le_refl _) _) hg3 (by simp) (fun a ha=>by injection ha with ha;subst ha;exact Nat.le_refl _)⟩
theorem bOf_any (t r : List UInt8) (d : DbP) (y : RsP) (w : World) (ht : t.length≤maxLen) (hd : newP t = .ok d) (hn : nmsOk d.names = true) (hr : rulesP d.names r = some y) :
  Calls Tryz.prog 109 #[.string (bytesOf t),.string (bytesOf r)] w fun e w'=>∃ pb,e = .returned (.pointer (some ⟨pb,0,none⟩))∧BrkB w' w.heap.size pb d y.rules y.rest∧Below w.heap.size w w':=by
 have HNw:=vNew_any t w ht
 rw [hd] at HNw
 have HN:=Lib.hid HNw
 have HV:=Lib.hid (fun p x W (h : RfB W w.heap.size p x d.names d.full)=>vNames_any w.heap.size p x d.names d.full W h (nms_len hn))
 have HO:=Lib.hid (fun A nn cn W (hA : Rd W 1 A (d.names.map encNm)) (hAl : ∀ x,A = some x→x.block < W.heap.size) (hl : d.names.length = nn)=>oParse_any r A nn cn d.names y W hA hAl hl hn hr)
 clear HNw hd hn hr ht
 go_enter Tryz.func109,Tryz.ntmps109
 go_wp2_with fail
 refine HN.out.mono ?_
 rintro e w1 ⟨⟨p,x,rfl,hf⟩,hb1⟩
 have HV1:=Lib.hid (HV.out p x w1 hf)
 go_wp2_with fail
 refine HV1.out.mono ?_
 rintro e w2 ⟨A,nn,cn,rfl,ho2,hb2⟩
 have HO2:=Lib.hid (HO.out A nn cn w2 (ho2.rd (by decide)) (fun x hx=>(ho2.lt x hx).2) (by have:=ho2.len;simpa using this))
 have hf2:=hf.below hb2
 have hb12:=below_two hb1 hb2
 clear HV1 HV HO HN hf ho2
 go_wp2_with fail
 refine HO2.out.mono ?_
 rintro e w3 ⟨v,rfl,hx3,hb3⟩
 have hf3:=hf2.below hb3
 have hb13:=below_two hb12 hb3
 obtain ⟨A1,n1,c1⟩:=v
 simp only [valRs]
 clear HO2 hf2 hb12 hb1 hb2 hb3
 go_wp2
 go_ret
 have hal : Below w3.heap.size w3 (w3.alloc (.cells #[.slice A1 n1 c1,.bool y.rest] 178)):=(Below.refl _ _).alloc (Nat.le_refl _) _
 have hal2 : Below w3.heap.size w3 ((w3.alloc (.cells #[.slice A1 n1 c1,.bool y.rest] 178)).alloc (.cells #[.pointer (some ⟨p,0,none⟩),.slice A1 n1 c1,.bool y.rest] 180)):=hal.alloc (by simp) _
 refine ⟨_,rfl,⟨p,x,n1,c1,A1,_,?_,hf3.below hal2,hx3.below hal2⟩,below_two hb13 hal2⟩
 have:=Blk.new (w3.alloc (.cells #[.slice A1 n1 c1,.bool y.rest] 178)) 180 #[.pointer (some ⟨p,0,none⟩),.slice A1 n1 c1,.bool y.rest]
 simpa using this
end
section
open Go.RowKit
theorem graphs_nms : nmsOk graphsD.names = true:=by kernel_rfl
def okR (l : List RuleP) : Bool:=l.all fun r=>goodP 64 r.left && goodP 64 r.right && decide (sizeP r.left≤2048) && decide (sizeP r.right≤2048)
theorem okR_spec {l : List RuleP} (h : okR l = true) : ∀ r ∈ l,RuleOk r:=fun r hr=>by
 unfold okR at h
 rw [List.all_eq_true] at h
 have:=h r hr
 simp only [Bool.and_eq_true,decide_eq_true_iff] at this
 exact ⟨this.1.1.1,this.1.1.2,this.1.2,this.2⟩
theorem rulesG_ok : ∀ r ∈ rulesG,RuleOk r:=okR_spec (by kernel_rfl)
theorem bNew_any (w : World) : Calls Tryz.prog 86 #[] w fun e w'=>∃ pb,e = .returned (.pointer (some ⟨pb,0,none⟩))∧BrkB w' w.heap.size pb graphsD rulesG true∧Below w.heap.size w w':=by
 go_enter Tryz.func86,Tryz.ntmps86
 generalize hT : ByteArray.mk _ = T
 generalize hR : ByteArray.mk _ = R
 have HN : newP T.data.toList = .ok graphsD:=by rw [← hT];exact new_K (by kernel_rfl) (by kernel_rfl)
 have hTl : T.data.toList.length≤maxLen:=by rw [← hT];exact of_decide_eq_true (by kernel_rfl)
 have HR : rulesP graphsD.names R.data.toList = some ⟨rulesG,true,false⟩:=by rw [← hR];kernel_rfl
 clear hT hR
 have HC:=bOf_any T.data.toList R.data.toList graphsD ⟨rulesG,true,false⟩ w hTl HN graphs_nms HR
 rw [show bytesOf T.data.toList = T from bytesOf_data T,show bytesOf R.data.toList = R from bytesOf_data R] at HC
 replace HC:=Lib.hid HC
 clear HN hTl HR
 go_wp2_with fail
 refine HC.out.mono ?_
 rintro e w1 ⟨pb,rfl,hb,hb1⟩
 go_wp2
 go_ret
 exact ⟨pb,rfl,hb,hb1⟩
theorem bBoundsG_any (base pb : Nat) (s : ByteArray) (w : World) (hB : BrkB w base pb graphsD rulesG true) (hs : s.size≤90000) :
  Calls Tryz.prog 99 #[.pointer (some ⟨pb,0,none⟩),.string s] w fun e w'=>∃ A k c,e = .returned (.slice A k c)∧Own w' w.heap.size 3 1 A k c ((boundsG gG s).map encN)∧Below w.heap.size w w':=by
 have:=bBounds_any base pb graphsD rulesG true s w hB graphsOk.1 graphsOk.2.1 rulesG_ok (by decide) hs
 rw [show boundsR rulesG true graphsD.get s = boundsG gG s from bounds_rules gG_lt s] at this
 exact this
end
section
open Go.RowKit
theorem begP_len (s : ByteArray) (b : Int) (hs : s.size≤1000000) : (begP s b).length≤4000000:=by
 have:=beg_len s b
 omega
theorem fTo_any (p : Nat) (s : ByteArray) (b x : Int) (w : World) (h : BookAt w p s) (hs : s.size≤1000000) :
  Calls Tryz.prog 58 #[.pointer (some ⟨p,0,none⟩),.int .i64 b,.int .i64 x] w fun e w'=>e = .returned (.int .i64 (toP s b x : Nat))∧w = w':=by
 have HB:=Lib.hid (fBegins_any p s b w h)
 have HL:=Lib.hid (begP_len s b hs)
 unfold toP
 generalize begP s b = L at HB HL ⊢
 have HBl:=Lib.hid (fun B c (hr : Rd w 1 B (L.map encN))=>fbelow_any B L.length c L x w hr rfl HL.out)
 generalize L.length = m at HB HBl
 clear h
 go_enter Tryz.func58,Tryz.ntmps58
 go_wp2_with fail
 refine HB.out.mono ?_
 rintro e w1 ⟨B,c,rfl,hr,rfl⟩
 go_wp2_with fail
 refine (HBl.out B c hr).mono ?_
 rintro e w1 ⟨rfl,rfl⟩
 go_wp2
 go_ret
 exact ⟨rfl,rfl⟩
theorem fFrom_any (p : Nat) (s : ByteArray) (b x : Int) (w : World) (h : BookAt w p s) :
  Calls Tryz.prog 59 #[.pointer (some ⟨p,0,none⟩),.int .i64 b,.int .i64 x] w fun e w'=>e = .returned (.int .i64 (fromQ s b x : Nat))∧Below w.heap.size w w':=by
 have HB:=Lib.hid (fBegins_any p s b w.drew (h.below ((Below.refl _ _).drew)))
 obtain ⟨A,R,G,c,c2,c3,h2,_⟩:=h
 have e0:=h2.cell 0
 simp only [zG,zH] at e0
 unfold fromQ
 generalize begP s b = L at HB ⊢
 have HP:=Lib.hid (fun B c (hr : Rd w.drew 1 B (L.map encN))=>fpick_any B L.length c L x s.size w.drew hr rfl)
 generalize L.length = m at HB HP
 clear h2
 go_enter Tryz.func59,Tryz.ntmps59
 go_wp2_with fail
 go_region_held3 (fun V=>V.cell? ⟨p,0,none⟩ = some (.string s)) (exact e0)
  (first
   | (go_at_call 57;refine HB.out.mono ?_;rintro e wz ⟨B,c,rfl,hr,rfl⟩;have HR:=Lib.hid hr)
   | (go_at_call 89;refine (HP.out _ _ HR.out).mono ?_;rintro e wz ⟨rfl,rfl⟩))
 go_wp2
 go_ret
 exact ⟨rfl,(Below.refl _ _).drew⟩
end
section
open Go.RowKit
theorem pick_le {l : List Nat} {M e : Nat} (h : ∀ x ∈ l,x≤M) (he : e≤M) (n : Int) : pickP l n e≤M:=by
 unfold pickP
 split
 ·omega
 ·split
  ·exact he
  ·rw [List.getD_eq_getElem?_getD]
   cases hx : l[n.toNat]? with
   | none=>exact Nat.zero_le _
   | some x=>exact h x (List.mem_of_getElem? hx)
theorem letQ_le (s : ByteArray) (x : Nat × Nat × Nat) : ∀ a ∈ letQ s x,a≤s.size:=fun a ha=>by
 have:=let_lt _ a ha
 rw [ByteArray.size_extract] at this
 omega
theorem fAt_any (p : Nat) (s : ByteArray) (r c : Int) (w : World) (h : BookAt w p s) (hs : s.size≤1000000) :
  Calls Tryz.prog 62 #[.pointer (some ⟨p,0,none⟩),.agg #[.int .i64 r,.int .i64 c]] w fun e w'=>e = .returned (.int .i64 (atP s r c : Nat))∧Below w.heap.size w w':=by
 have hBx:=Blk.new w 32 #[.int .i64 r,.int .i64 c]
 have hb0 : Below w.heap.size w (w.alloc (.cells #[.int .i64 r,.int .i64 c] 32)):=(Below.refl _ _).alloc (Nat.le_refl _) _
 have hI:=h.below hb0
 have k0:=hBx.cell 0
 have k1:=hBx.cell 1
 simp only [zG,zH,zI] at k0 k1
 by_cases h0 : r < 0
 ·have HV : Hid (atP s r c = 0):=Lib.hid (if_pos h0)
  clear h hI
  go_enter Tryz.func62,Tryz.ntmps62
  go_wp2
  go_ret
  exact ⟨by rw [HV.out];rfl,hb0⟩
 obtain ⟨A,R,G,c1,c2,c3,h2,_,hR,hG⟩:=hI
 have e0:=h2.cell 0
 have e2:=h2.cell 2
 have e3:=h2.cell 3
 simp only [zG,zH,zI] at e0 e2 e3
 by_cases h1 : ((lnP s).length : Int)≤r
 ·have HV : Hid (atP s r c = s.size):=Lib.hid ((if_neg h0).trans (if_pos h1))
  have h2' : r ≥ ((lnP s).length : Int):=h1
  generalize (lnP s).length = m at h1 h2' e2
  clear h h2 hR hG e3
  go_enter Tryz.func62,Tryz.ntmps62
  go_wp2_with fail
  go_quiet (fail)
  go_wp2
  go_ret
  exact ⟨by rw [HV.out];rfl,below_drewN hb0 _⟩
 have HV0 : Hid (atP s r c = (lineQ s r.toNat).1+pickP (letQ s (lineQ s r.toNat)) c ((lineQ s r.toNat).2.1 - (lineQ s r.toNat).1)):=Lib.hid ((if_neg h0).trans (if_neg h1))
 obtain ⟨j,rfl⟩ : ∃ j : Nat,r = j:=⟨r.toNat,by omega⟩
 rw [Int.toNat_natCast] at HV0
 have hjl : j < (lnP s).length:=by omega
 obtain ⟨⟨a,b,z⟩,hx⟩ : ∃ x,(lnP s)[j]? = some x:=⟨_,List.getElem?_eq_getElem hjl⟩
 obtain ⟨hlq,hab,hbz,hzs⟩:=line_in hx
 rw [hlq] at HV0
 simp only at hab HV0 hbz hzs
 obtain ⟨g,off,rfl,hc⟩:=hR (by intro e;rw [List.map_eq_nil_iff] at e;rw [e] at hx;simp at hx)
 have hx3 : ((lnP s).map encLn3)[j]? = some (encLn3 (a,b,z)):=by rw [List.getElem?_map,hx];rfl
 have x0:=hc j 0 _ _ hx3 rfl
 have x1:=hc j 1 _ _ hx3 rfl
 have x2:=hc j 2 _ _ hx3 rfl
 simp only [Nat.add_zero] at x0
 obtain ⟨g2,off2,B,d,rfl,y0,hrB⟩:=hG.at_ (k:=j) (l:=letQ s (a,b,z)) (by rw [List.getElem?_map,hx];rfl)
 generalize (lnP s).length = m at hjl h1 e2 e3
 have HR:=Lib.hid hrB
 have HP:=Lib.hid (fun V (hr : Rd V 1 B ((letQ s (a,b,z)).map encN))=>fpick_any B (letQ s (a,b,z)).length d (letQ s (a,b,z)) c (b - a) V hr rfl)
 have hV0 : pickP (letQ s (a,b,z)) c (b - a)≤1000000:=by have:=pick_le (letQ_le s (a,b,z)) (e:=b - a) (by omega) c;omega
 have hsub : IntKind.i64.wrap ((b : Int) - (a : Int)) = ((b - a : Nat) : Int):=by rw [show (b : Int) - (a : Int) = ((b - a : Nat) : Int) by omega];exact IntWalk.i64_in _ (by omega)
 generalize pickP (letQ s (a,b,z)) c (b - a) = V0 at HV0 HP hV0
 generalize (letQ s (a,b,z)).length = lz at y0 HP
 have h3 : ¬ ((j : Int) ≥ (m : Int)):=by omega
 have h4 : (j : Int) < (m : Int):=by omega
 have h5 : (0 : Int)≤(j : Int):=by omega
 clear h hR hG hx hx3 hc hlq e0 h2 hrB
 go_enter Tryz.func62,Tryz.ntmps62
 go_wp2_with fail
 go_quiet (fail)
 go_wp2_with fail
 refine wp_region_last (S:=fun U=>U.cell? ⟨p,2,none⟩ = some (.slice (some ⟨g,off,none⟩) m c2)∧U.cell? ⟨w.heap.size,0,none⟩ = some (.int .i64 (j : Nat))∧U.cell? ⟨g,off+j*3,none⟩ = some (.int .i64 (a : Nat))∧U.cell? ⟨g,off+j*3+1,none⟩ = some (.int .i64 (b : Nat))∧U.cell? ⟨g,off+j*3+2,none⟩ = some (.int .i64 (z : Nat))) 9 rfl (by kernel_rfl) (by kernel_rfl) (by kernel_rfl) ⟨e2,k0,x0,x1,x2⟩ (fun hHeld=>?_)
 simp only [List.dropLast_cons_cons,List.dropLast_singleton]
 refine tkH (i:=0) (v:=?_) rfl ?_ ?_;rotate_left;focus ((intro w hSw;(try dsimp only at hSw);go_simp);try with_reducible rfl)
 (try simp only [Act.put,zA,zC,zD,zE,zF])
 refine tkH (i:=1) (v:=?_) rfl ?_ ?_;rotate_left;focus ((intro w hSw;(try dsimp only at hSw);go_simp);try with_reducible rfl)
 (try simp only [Act.put,zA,zB,zC,zD,zE,zF])
 refine tkH (i:=2) (v:=?_) rfl ?_ ?_;rotate_left;focus ((intro w hSw;(try dsimp only at hSw);go_simp);try with_reducible rfl)
 (try simp only [Act.put,zA,zB,zC,zD,zE,zF])
 refine tkH (i:=3) (v:=?_) rfl ?_ ?_;rotate_left;focus ((intro w hSw;(try dsimp only at hSw);go_simp);try with_reducible rfl)
 (try simp only [Act.put,zA,zB,zC,zD,zE,zF])
 refine tkH (i:=4) (v:=?_) rfl ?_ ?_;rotate_left;focus ((intro w hSw;(try dsimp only at hSw);go_simp);try with_reducible rfl)
 (try simp only [Act.put,zA,zB,zC,zD,zE,zF])
 refine tkH (i:=5) (v:=?_) rfl ?_ ?_;rotate_left;focus ((intro w hSw;(try dsimp only at hSw);go_simp);try with_reducible rfl)
 (try simp only [Act.put,zA,zB,zC,zD,zE,zF])
 refine tkH (i:=6) (v:=?_) rfl ?_ ?_;rotate_left;focus ((intro w hSw;(try dsimp only at hSw);go_simp);try with_reducible rfl)
 (try simp only [Act.put,zA,zB,zC,zD,zE,zF])
 refine tkH (i:=7) (v:=?_) rfl ?_ ?_;rotate_left;focus ((intro w hSw;(try dsimp only at hSw);go_simp);try with_reducible rfl)
 (try simp only [Act.put,zA,zB,zC,zD,zE,zF])
 refine wpAnyH_ready (rs:=[8]) (by kernel_rfl) (by simp) ?_
 refine AllReadyH.cons rfl (fun K hK=>?_) AllReadyH.nil
 go_simp
 refine hK.out _ _ ⟨cell_allocQ e2 _,cell_allocQ k0 _,cell_allocQ x0 _,cell_allocQ x1 _,cell_allocQ x2 _⟩ (fun hHeld=>?_)
 clear hK K
 (try simp only [Act.put,zA,zB,zC,zD,zE,zF])
 refine wpAnyH_done (by kernel_rfl) ?_ _
 refine tailQ_end (wpOp_step (i:=9) rfl (fun K hK=>?_))
 go_simp
 refine hK _ _ ?_
 clear hK K
 have hW : Below (w.alloc (.cells #[.int .i64 (j : Nat),.int .i64 c] 32)).heap.size (w.alloc (.cells #[.int .i64 (j : Nat),.int .i64 c] 32)) (((w.alloc (.cells #[.int .i64 (j : Nat),.int .i64 c] 32)).drewN (nq+1)).alloc (.cells #[.int .i64 (a : Nat),.int .i64 (b : Nat),.int .i64 (z : Nat)] 52)):=Below.alloc (below_refl_drewN (w.alloc (.cells #[.int .i64 (j : Nat),.int .i64 c] 32)) (nq+1)) (by exact Nat.le_refl _) _
 have hB5:=Blk.new ((w.alloc (.cells #[.int .i64 (j : Nat),.int .i64 c] 32)).drewN (nq+1)) 52 #[.int .i64 (a : Nat),.int .i64 (b : Nat),.int .i64 (z : Nat)]
 rw [show ((w.alloc (.cells #[.int .i64 (j : Nat),.int .i64 c] 32)).drewN (nq+1)).heap.size = w.heap.size+1 from World.size_alloc _ _] at hB5
 have hb5 : Below w.heap.size w (((w.alloc (.cells #[.int .i64 (j : Nat),.int .i64 c] 32)).drewN (nq+1)).alloc (.cells #[.int .i64 (a : Nat),.int .i64 (b : Nat),.int .i64 (z : Nat)] 52)):=below_two hb0 hW
 have HR5:=Lib.hid (HR.out.below hW)
 have e35:=cell_keep e3 hW
 have k05:=cell_keep k0 hW
 have k15:=cell_keep k1 hW
 have y05:=cell_keep y0 hW
 generalize (((w.alloc (.cells #[.int .i64 (j : Nat),.int .i64 c] 32)).drewN (nq+1)).alloc (.cells #[.int .i64 (a : Nat),.int .i64 (b : Nat),.int .i64 (z : Nat)] 52)) = W5 at hB5 hb5 HR5 e35 k05 k15 y05 ⊢
 have f0:=hB5.cell 0
 have f1:=hB5.cell 1
 simp only [zG,zH,zI] at f0 f1
 clear e2 e3 k0 k1 y0 x0 x1 x2 hW HR hB5 hBx hb0
 have hadd : IntKind.i64.wrap ((a : Int)+(V0 : Int)) = ((a+V0 : Nat) : Int):=by rw [show (a : Int)+(V0 : Int) = ((a+V0 : Nat) : Int) by omega];exact IntWalk.i64_in _ (by omega)
 have HP5:=Lib.hid (HP.out W5.drew HR5.out)
 clear HP HR5
 go_wp2_with fail
 go_region_held3 (fun V=>V.cell? ⟨p,3,none⟩ = some (.slice (some ⟨g2,off2,none⟩) m c3)∧V.cell? ⟨w.heap.size,0,none⟩ = some (.int .i64 (j : Nat))∧V.cell? ⟨w.heap.size,1,none⟩ = some (.int .i64 c)∧V.cell? ⟨w.heap.size+1,0,none⟩ = some (.int .i64 (a : Nat))∧V.cell? ⟨w.heap.size+1,1,none⟩ = some (.int .i64 (b : Nat))∧V.cell? ⟨g2,off2+j,none⟩ = some (.slice B lz d))
  (exact ⟨e35,k05,k15,f0,f1,y05⟩)
  (first | (go_at_call 89;refine HP5.out.mono ?_;rintro e wz ⟨rfl,rfl⟩))
 go_wp2
 go_ret
 exact ⟨by rw [HV0.out];rfl,hb5.drew⟩
end
section
open Go.RowKit
theorem res_pointF (w : World) (b : Nat) (tmps : Array Value) (ht : tmps.getD 4 undef = .pointer (some ⟨b,0,none⟩)) {x y : Int} (hc : Blk w b 32 #[.int .i64 x,.int .i64 y]) : (results Tryz.f61 tmps).run Tryz.prog w = .ok (.agg #[.int .i64 x,.int .i64 y]) w:=by
 have ht' : tmps[4]?.getD undef = .pointer (some ⟨b,0,none⟩):=by simpa [Array.getD_eq_getD_getElem?] using ht
 have h0:=hc.cell 0
 have h1:=hc.cell 1
 simp only [zG,zH,zI] at h0 h1
 simp [results,Tryz.results61,go_sem,ht',h0,h1]
theorem rowAt_skip {s : ByteArray} {x : Int} {i row : Nat} (h : RowAt s x i row) {y : Nat × Nat × Nat} (hy : (lnP s)[i]? = some y) (hle : ¬ (y.1 : Int)≤x) : RowAt s x (i+1) row:=by
 obtain ⟨h1,h2⟩:=h
 have hi:=(List.getElem?_eq_some_iff.1 hy).1
 rw [List.drop_eq_getElem_cons hi,(List.getElem?_eq_some_iff.1 hy).2,rowGo,if_neg hle] at h1
 exact ⟨h1,h2⟩
theorem fPoint_any (p : Nat) (s : ByteArray) (x : Int) (w : World) (h : BookAt w p s) (hs : s.size≤1000000) (hx : x≤9223372036854775807) :
  Calls Tryz.prog 61 #[.pointer (some ⟨p,0,none⟩),.int .i64 x] w fun e w'=>e = .returned (.agg #[.int .i64 ((pointP s x).1 : Nat),.int .i64 ((pointP s x).2 : Nat)])∧Below w.heap.size w w':=by
 have hBk:=Blk.new w 32 #[.int .i64 0,.int .i64 0]
 have hb0 : Below w.heap.size w (w.alloc (.cells #[.int .i64 0,.int .i64 0] 32)):=(Below.refl _ _).alloc (Nat.le_refl _) _
 obtain ⟨A,R,G,c1,c2,c3,h2,_,hR,hG⟩:=h.below hb0
 have e2:=h2.cell 2
 have e3:=h2.cell 3
 simp only [zG,zH,zI] at e2 e3
 have hpos:=lnP_pos s
 have hml:=lnP_len s
 obtain ⟨m,Hm⟩ : ∃ m,Hid ((lnP s).length = m):=⟨_,Lib.hid rfl⟩
 rw [Hm.out] at e2 e3 hpos hml
 have HR0 : Hid (RowAt s x 0 0):=Lib.hid ⟨rfl,by rw [Hm.out];exact hpos⟩
 have HRr:=Lib.hid hR
 have HGr:=Lib.hid hG
 have f0:=hBk.frozen 0
 have f1:=hBk.frozen 1
 have k0:=hBk.cell 0
 have k1:=hBk.cell 1
 simp only [zG,zH,zI] at k0 k1
 clear h h2 hR hG
 go_enter Tryz.func61,Tryz.ntmps61
 go_wp2_with fail
 generalize (w.alloc (.cells #[.int .i64 0,.int .i64 0] 32)) = W0 at hBk hb0 e2 e3 HRr HGr f0 f1 k0 k1 ⊢
 go_loopw [5,6] (fun u v wr=>∃ (row i : Nat),u = .int .i64 row∧v = .int .i64 i∧i≤m∧row < m∧Hid (RowAt s x i row)∧wr = W0) (fun _ v _=>m - (intOf v).toNat)
 case atStart=>exact ⟨0,0,rfl,rfl,by omega,hpos,HR0,rfl⟩
 case round =>
  obtain ⟨row,i,rfl,rfl,hi,hrow,HR,rfl⟩:=hrel
  by_cases hlt : i < m
  ·have hlt2 : (i : Int) < (m : Int):=by omega
   obtain ⟨⟨a,b,z⟩,hy⟩ : ∃ y,(lnP s)[i]? = some y:=⟨_,List.getElem?_eq_getElem (by rw [Hm.out];exact hlt)⟩
   obtain ⟨g,off,rfl,hc⟩:=HRr.out (by intro e;rw [List.map_eq_nil_iff] at e;rw [e] at hy;simp at hy)
   have x0:=hc i 0 (encLn3 (a,b,z)) _ (by rw [List.getElem?_map,hy];rfl) rfl
   simp only [Nat.add_zero] at x0
   by_cases hax : (a : Int)≤x
   ·have HN:=Lib.hid (rowAt_step HR.out hy hax)
    clear hc hy
    go_wp2
    go_roundw
    case rel=>exact ⟨i,i+1,rfl,by go_num,by omega,hlt,HN,trivial⟩
    case measure=>simp [intOf];omega
   ·have HN:=Lib.hid (rowAt_skip HR.out hy hax)
    clear hc hy
    go_wp2
    go_roundw
    case rel=>exact ⟨row,i+1,rfl,by go_num,by omega,hrow,HN,trivial⟩
    case measure=>simp [intOf];omega
  ·have hlt2 : ¬ (i : Int) < (m : Int):=by omega
   have HRw : Hid (row = rowP (lnP s) x):=Lib.hid (rowAt_end HR.out (by rw [Hm.out];omega))
   obtain ⟨⟨a,b,z⟩,hy⟩ : ∃ y,(lnP s)[row]? = some y:=⟨_,List.getElem?_eq_getElem (by rw [Hm.out];exact hrow)⟩
   obtain ⟨hlq,hab,hbz,hzs⟩:=line_in hy
   simp only at hab hbz hzs
   obtain ⟨g,off,rfl,hc⟩:=HRr.out (by intro e;rw [List.map_eq_nil_iff] at e;rw [e] at hy;simp at hy)
   have x0:=hc row 0 (encLn3 (a,b,z)) _ (by rw [List.getElem?_map,hy];rfl) rfl
   simp only [Nat.add_zero] at x0
   obtain ⟨g2,off2,B,d,rfl,y0,hrB⟩:=HGr.out.at_ (k:=row) (l:=letQ s (a,b,z)) (by rw [List.getElem?_map,hy];rfl)
   have hll : (letQ s (a,b,z)).length≤4000000:=by have:=letS_len (s.extract a b);rw [ByteArray.size_extract] at this;exact Nat.le_trans this (by omega)
   have HB:=Lib.hid (fbelow_any B (letQ s (a,b,z)).length d (letQ s (a,b,z)) (max x 0 - (a : Int)) wr.drew hrB rfl hll)
   obtain ⟨V,HVe⟩ : ∃ V,Hid (belowP (letQ s (a,b,z)) (max x 0 - (a : Int)) = V):=⟨_,Lib.hid rfl⟩
   have HV : Hid (pointP s x = (row,V)):=Lib.hid (by unfold pointP colP;rw [← HRw.out,hlq];simp only;rw [HVe.out])
   rw [HVe.out] at HB
   have hsub : IntKind.i64.wrap (max x 0 - (a : Int)) = max x 0 - (a : Int):=IntWalk.i64_in _ (by omega)
   generalize (letQ s (a,b,z)).length = lz at y0 HB
   have hr0 : (0 : Int)≤(row : Int):=by omega
   have hrm : (row : Int) < (m : Int):=by omega
   clear hc hy hlq hll hrB HRr HGr HR HRw
   go_wp2_with fail
   refine wp_region_last (S:=fun U=>U.cell? ⟨p,3,none⟩ = some (.slice (some ⟨g2,off2,none⟩) m c3)∧U.cell? ⟨p,2,none⟩ = some (.slice (some ⟨g,off,none⟩) m c2)∧U.cell? ⟨g,off+row*3,none⟩ = some (.int .i64 (a : Nat))∧U.cell? ⟨g2,off2+row,none⟩ = some (.slice B lz d)) 21 rfl (by kernel_rfl) (by kernel_rfl) (by kernel_rfl) ⟨e3,e2,x0,y0⟩ (fun hHeld=>?_)
   simp only [List.dropLast_cons_cons,List.dropLast_singleton]
   refine tkH (i:=0) (v:=?_) rfl ?_ ?_;rotate_left;focus ((intro w hSw;(try dsimp only at hSw);go_simp);try with_reducible rfl)
   (try simp only [Act.put,zA,zC,zD,zE,zF])
   refine tkH (i:=1) (v:=?_) rfl ?_ ?_;rotate_left;focus ((intro w hSw;(try dsimp only at hSw);go_simp);try with_reducible rfl)
   (try simp only [Act.put,zA,zB,zC,zD,zE,zF])
   refine tkH (i:=2) (v:=?_) rfl ?_ ?_;rotate_left;focus ((intro w hSw;(try dsimp only at hSw);go_simp);try with_reducible rfl)
   (try simp only [Act.put,zA,zB,zC,zD,zE,zF])
   refine tkH (i:=3) (v:=?_) rfl ?_ ?_;rotate_left;focus ((intro w hSw;(try dsimp only at hSw);go_simp);try with_reducible rfl)
   (try simp only [Act.put,zA,zB,zC,zD,zE,zF])
   refine tkH (i:=4) (v:=?_) rfl ?_ ?_;rotate_left;focus ((intro w hSw;(try dsimp only at hSw);go_simp);try with_reducible rfl)
   (try simp only [Act.put,zA,zB,zC,zD,zE,zF])
   refine tkH (i:=5) (v:=?_) rfl ?_ ?_;rotate_left;focus ((intro w hSw;(try dsimp only at hSw);go_simp);try with_reducible rfl)
   (try simp only [Act.put,zA,zB,zC,zD,zE,zF])
   refine tkH (i:=6) (v:=?_) rfl ?_ ?_;rotate_left;focus ((intro w hSw;(try dsimp only at hSw);go_simp);try with_reducible rfl)
   (try simp only [Act.put,zA,zB,zC,zD,zE,zF])
   refine tkH (i:=7) (v:=?_) rfl ?_ ?_;rotate_left;focus ((intro w hSw;(try dsimp only at hSw);go_simp);try with_reducible rfl)
   (try simp only [Act.put,zA,zB,zC,zD,zE,zF])
   refine tkH (i:=8) (v:=?_) rfl ?_ ?_;rotate_left;focus ((intro w hSw;(try dsimp only at hSw);go_simp);try with_reducible rfl)
   (try simp only [Act.put,zA,zB,zC,zD,zE,zF])
   refine tkH (i:=9) (v:=?_) rfl ?_ ?_;rotate_left;focus ((intro w hSw;(try dsimp only at hSw);go_simp);try with_reducible rfl)
   (try simp only [Act.put,zA,zB,zC,zD,zE,zF])
   refine tkH (i:=10) (v:=?_) rfl ?_ ?_;rotate_left;focus ((intro w hSw;(try dsimp only at hSw);go_simp);try with_reducible rfl)
   (try simp only [Act.put,zA,zB,zC,zD,zE,zF])
   refine tkH (i:=11) (v:=?_) rfl ?_ ?_;rotate_left;focus ((intro w hSw;(try dsimp only at hSw);go_simp);try with_reducible rfl)
   (try simp only [Act.put,zA,zB,zC,zD,zE,zF])
   refine tkH (i:=12) (v:=?_) rfl ?_ ?_;rotate_left;focus ((intro w hSw;(try dsimp only at hSw);go_simp);try with_reducible rfl)
   (try simp only [Act.put,zA,zB,zC,zD,zE,zF])
   refine tkH (i:=13) (v:=?_) rfl ?_ ?_;rotate_left;focus ((intro w hSw;(try dsimp only at hSw);go_simp);try with_reducible rfl)
   (try simp only [Act.put,zA,zB,zC,zD,zE,zF])
   refine tkH (i:=14) (v:=?_) rfl ?_ ?_;rotate_left;focus ((intro w hSw;(try dsimp only at hSw);go_simp);try with_reducible rfl)
   (try simp only [Act.put,zA,zB,zC,zD,zE,zF])
   refine tkH (i:=15) (v:=?_) rfl ?_ ?_;rotate_left;focus ((intro w hSw;(try dsimp only at hSw);go_simp);try with_reducible rfl)
   (try simp only [Act.put,zA,zB,zC,zD,zE,zF])
   refine tkH (i:=16) (v:=?_) rfl ?_ ?_;rotate_left;focus ((intro w hSw;(try dsimp only at hSw);go_simp);try with_reducible rfl)
   (try simp only [Act.put,zA,zB,zC,zD,zE,zF])
   refine tkH (i:=17) (v:=?_) rfl ?_ ?_;rotate_left;focus ((intro w hSw;(try dsimp only at hSw);go_simp);try with_reducible rfl)
   (try simp only [Act.put,zA,zB,zC,zD,zE,zF])
   refine tkH (i:=18) (v:=?_) rfl ?_ ?_;rotate_left;focus ((intro w hSw;(try dsimp only at hSw);go_simp);try with_reducible rfl)
   (try simp only [Act.put,zA,zB,zC,zD,zE,zF])
   refine wpAnyH_ready (rs:=[19]) (by kernel_rfl) (by simp) ?_
   refine AllReadyH.cons rfl (fun K hK=>?_) AllReadyH.nil
   go_simp
   refine HB.out.mono ?_
   rintro e wz ⟨rfl,rfl⟩
   refine hK.out _ _ ⟨e3,e2,x0,y0⟩ (fun hHeld=>?_)
   clear hK K
   (try simp only [Act.put,zA,zB,zC,zD,zE,zF])
   refine tkH (i:=20) (v:=?_) rfl ?_ ?_;rotate_left;focus ((intro w hSw;(try dsimp only at hSw);go_simp);try with_reducible rfl)
   (try simp only [Act.put,zA,zB,zC,zD,zE,zF])
   refine wpAnyH_done (by kernel_rfl) ?_ _
   refine tailQ_end (wpOp_step (i:=21) rfl (fun K hK=>?_))
   have hBz : Blk wr.drew w.heap.size 32 #[.int .i64 0,.int .i64 0]:=hBk
   have f00:=hBz.frozen 0
   have f01:=hBz.frozen 1
   have k00:=hBz.cell 0
   have k01:=hBz.cell 1
   simp only [zG,zH,zI] at k00 k01
   go_simp
   refine hK _ _ ?_
   clear hK K
   go_wp2_with fail
   have hB3:=(hBz.set_ 0 (.int .i64 (row : Nat))).set_ 1 (.int .i64 (V : Nat))
   (try simp only [Exit.noGoto_ret]);refine bodyPost_ret (res_pointF _ w.heap.size _ rfl hB3) rfl ?_
   exact ⟨by rw [HV.out],(hb0.drew.setCell (p:=⟨w.heap.size,0,none⟩) (Nat.le_refl _) _).setCell (p:=⟨w.heap.size,1,none⟩) (Nat.le_refl _) _⟩
end
end Go.Proofs.YtlfpdpbbkjnapaaGreatDoor
