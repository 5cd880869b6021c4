/- -/
import Derived.Test.YtlfpdpbbkjnapaaGreatDoorYPlacesTells0b
namespace Go.Proofs.YtlfpdpbbkjnapaaGreatDoor
set_option maxRecDepth 100000
set_option maxHeartbeats 40000000
section
open Go.RowKit
theorem Rd.atNa {w : World} {A : Option Addr} {l : List Nat} {k : Nat} {x : Nat} (h : Rd w 1 A (l.map encN)) (hk : l[k]? = some x) : ∃ b off,A = some ⟨b,off,none⟩∧w.cell? ⟨b,off+k,none⟩ = some (.int .i64 (x : Nat)):=by
 obtain ⟨b,off,rfl,hc⟩:=h (by intro e;cases l with | nil=>simp at hk | cons _ _=>simp at e)
 have h0:=hc k 0 (encN x) (.int .i64 (x : Nat)) (by simp [hk]) rfl
 exact ⟨b,off,rfl,by simpa using h0⟩
theorem mem_step {l : List Nat} {i c x : Nat} (h : c ∉ l.take i) (hx : l[i]? = some x) (hne : x ≠ c) : c ∉ l.take (i+1):=by
 rw [List.take_add_one,hx]
 simp only [Option.toList_some,List.mem_append,List.mem_singleton]
 rintro (h1 | h1)
 ·exact h h1
 ·exact hne h1.symm
theorem jin_any (A : Option Addr) (n c : Nat) (l : List Nat) (x : Nat) (w : World) (hA : Rd w 1 A (l.map encN)) (hl : l.length = n) (hn : n≤4000000) :
  Calls Tryz.prog 245 #[.slice A n c,.int .i64 (x : Nat)] w fun e w'=>e = .returned (.bool (l.contains x))∧w = w':=by
 have Hl:=Lib.hid hl
 clear hl
 go_enter Tryz.func245,Tryz.ntmps245
 go_wp2
 go_loopw [5] (fun v wr=>∃ i : Nat,v = .int .i64 i∧i≤n∧x ∉ l.take i∧wr = w) (fun v _=>n - (intOf v).toNat)
 case atStart=>exact ⟨0,rfl,by omega,by simp,rfl⟩
 case round =>
  obtain ⟨i,rfl,hi,hm,rfl⟩:=hrel
  by_cases hlt : i < n
  ·obtain ⟨y,hy⟩ : ∃ y,l[i]? = some y:=⟨_,List.getElem?_eq_getElem (by have:=Hl.out;omega)⟩
   obtain ⟨b,off,rfl,hc⟩:=hA.atNa hy
   by_cases e : y = x
   ·subst e
    have HV:=Lib.hid (show l.contains y = true from List.contains_iff_mem.2 (List.mem_of_getElem? hy))
    clear hm hy
    go_wp2
    go_ret
    exact ⟨by rw [HV.out];rfl,rfl⟩
   ·have e2 : ((y : Int) == (x : Int)) = false:=beq_eq_false_iff_ne.2 (by omega)
    have HM:=Lib.hid (mem_step hm hy e)
    clear hm hy e
    go_wp2
    go_roundw
    case rel=>exact ⟨i+1,by go_num,by omega,HM.out,by first | rfl | trivial⟩
    case measure=>simp [intOf];omega
  ·obtain rfl : i = n:=by omega
   have HV:=Lib.hid (show l.contains x = false from by
    rw [List.take_of_length_le (by have:=Hl.out;omega)] at hm
    exact Bool.eq_false_iff.2 fun h=>hm (List.contains_iff_mem.1 h))
   go_wp2
   go_ret
   exact ⟨by rw [HV.out];rfl,rfl⟩
theorem rises_len : ∀ {l : List Nat} {N : Nat},risesB l = true→(∀ (i c : Nat),l[i]? = some c→c < N)→l.length≤N:=fun {l N} h hN=>by
 have : ∀ (i x : Nat),l[i]? = some x→i≤x:=by
  intro i
  induction i with
  | zero=>intro x _;omega
  | succ i ih =>
   intro y hy
   have hi : i < l.length:=by have:=(List.getElem?_eq_some_iff.1 hy).1;omega
   have h1:=risesB_at h (List.getElem?_eq_getElem hi) hy
   have h2:=ih _ (List.getElem?_eq_getElem hi)
   omega
 rcases Nat.eq_zero_or_pos l.length with h0 | h0
 ·omega
 ·have hl : l.length - 1 < l.length:=by omega
  have h1:=this _ _ (List.getElem?_eq_getElem hl)
  have h2:=hN _ _ (List.getElem?_eq_getElem hl)
  omega
def valPt (v : Pv) : Value:=.agg #[.int .i64 (v.1 : Int),.slice v.2.1.1 v.2.1.2.1 v.2.1.2.2,.slice v.2.2.1 v.2.2.2.1 v.2.2.2.2]
theorem jnode_any (N : Nat) (p : Pat) (v : Pv) (X : Nat→Prop) (w : World) (hp : PatX w X p v) (hg : goodP N p = true) (hN : N≤2147483647) :
  Calls Tryz.prog 284 #[valPt v,.int .i64 (N : Nat)] w fun e w'=>e = .returned (.int .i64 0)∧Below w.heap.size w w':=by
 obtain ⟨op,cs,ks⟩:=p
 obtain ⟨o,⟨A,n,c⟩,⟨B,m,d⟩⟩:=v
 simp only [PatX] at hp
 obtain ⟨rfl,hA,vs,hB,hK⟩:=hp
 unfold goodP at hg
 rw [Bool.and_eq_true] at hg
 obtain ⟨h1,h2,h3,h4,h5⟩:=node_parts hg.1
 have hn : cs.length = n:=by have:=hA.len;rwa [List.length_map] at this
 have hm : vs.length = m:=by have:=hB.len;rwa [List.length_map] at this
 have hk:=hK.len
 rw [hm] at hk
 rw [← hk] at h3
 have hrd:=hA.rd
 have hz : n≤2147483647:=by
  rw [← hn]
  exact Nat.le_trans (rises_len h5 (fun i c h=>h4 i c h)) hN
 unfold valPt
 simp only
 clear hA hB hK hg hk hm vs ks
 have Hz : Below w.heap.size w (w.alloc (.cells #[.int .i64 (o : Int),.slice A n c,.slice B m d] 221)):=(Below.refl _ _).alloc (Nat.le_refl _) _
 have hb0 : Blk (w.alloc (.cells #[.int .i64 (o : Int),.slice A n c,.slice B m d] 221)) w.heap.size 221 _:=Blk.new _ _ _
 by_cases ho1 : o = 1
 ·subst ho1
  have hm0 : m = 0:=by simpa [formOk] using h3
  subst hm0
  have Hcs:=Lib.hid h4
  have Hr:=Lib.hid h5
  have Hn:=Lib.hid hn
  have hrd2:=hrd.alloc (.cells #[.int .i64 ((1 : Nat) : Int),.slice A n c,.slice B 0 d] 221)
  clear h1 h2 h3 h4 h5 hn hrd
  go_enter Tryz.func284,Tryz.ntmps284
  go_wp2
  generalize (w.alloc (.cells #[.int .i64 ((1 : Nat) : Int),.slice A n c,.slice B 0 d] 221)) = w1 at Hz hb0 hrd2 ⊢
  have c1:=hb0.cell 1
  simp only [zG,zI,zH] at c1
  clear hb0
  go_loopw [7] (fun v wr=>∃ i k : Nat,v = .int .i64 i∧i≤n∧wr = w1.drewN k) (fun v _=>n - (intOf v).toNat)
  case atStart=>exact ⟨0,0,rfl,by omega,rfl⟩
  case round =>
   obtain ⟨i,k,rfl,hi,rfl⟩:=hrel
   by_cases hlt : i < n
   ·obtain ⟨y,hy⟩ : ∃ y,cs[i]? = some y:=⟨_,List.getElem?_eq_getElem (by have:=Hn.out;omega)⟩
    obtain ⟨bk,off,rfl,hc⟩:=hrd2.atNa hy
    have hyN:=Hcs.out i y hy
    have t1 : decide ((y : Int) < 0) = false:=decide_eq_false (by omega)
    have t2 : decide (N≤y) = false:=decide_eq_false (by omega)
    by_cases h0 : i = 0
    ·have t4 : decide (0 < i) = false:=decide_eq_false (by omega)
     clear hy hyN h0
     go_wp2_with fail
     go_quiet (fail)
     go_wp2
     go_roundw
     case rel=>exact ⟨i+1,_,by go_num,by omega,by first | rfl | exact World.drewN_drewN⟩
     case measure=>simp [intOf];omega
    ·obtain ⟨j,Hi⟩ : ∃ j,Hid (i = j+1):=⟨i - 1,Lib.hid (by omega)⟩
     obtain ⟨z,hz'⟩ : ∃ z,cs[j]? = some z:=⟨_,List.getElem?_eq_getElem (by have:=Hn.out;have:=Hi.out;omega)⟩
     obtain ⟨bk',off',e',hc'⟩:=hrd2.atNa hz'
     injection e' with e'
     injection e' with e1 e2 _
     subst e1
     subst e2
     have hzy:=risesB_at Hr.out hz' (by rw [← Hi.out];exact hy)
     have t3 : decide (y≤z) = false:=decide_eq_false (by omega)
     have e3 : (i : Int) - 1 = (j : Int):=by have:=Hi.out;omega
     have t4 : decide (0 < i) = true:=decide_eq_true (by have:=Hi.out;omega)
     have hj : j < n:=by have:=Hi.out;omega
     clear hy hyN hz' hzy h0
     go_wp2_with fail
     go_quiet (fail)
     go_wp2
     go_roundw
     case rel=>exact ⟨i+1,_,by go_num,by omega,by first | rfl | exact World.drewN_drewN⟩
     case measure=>simp [intOf];omega
   ·obtain rfl : i = n:=by omega
    go_wp2
    go_ret
    exact ⟨rfl,below_drewN Hz _⟩
 ·have hn0 : n = 0:=by rcases h2 with h | h;exact absurd h ho1;rw [h] at hn;exact hn.symm
  subst hn0
  have hb1 : Hid ((o : Int) = 1→False):=Lib.hid fun e=>ho1 (by omega)
  clear h2 h4 h5 hrd hn
  rcases (by omega : o = 0∨o = 2∨o = 3∨o = 4∨o = 5∨o = 6) with rfl | rfl | rfl | rfl | rfl | rfl
  all_goals
   simp [formOk] at h3
   clear ho1 hb1 h1
  all_goals
   first
   | subst h3
   | (have h4 : (2 : Int)≤(m : Int):=by omega)
   go_enter Tryz.func284,Tryz.ntmps284
   go_wp2
   go_loopw [7] (fun v wr=>v = .int .i64 ((0 : Nat) : Int)∧Below w.heap.size w wr∧∃ x0 x2,wr.cell? ⟨w.heap.size,1,none⟩ = some (.slice A 0 c)∧wr.cell? ⟨w.heap.size,0,none⟩ = x0∧wr.cell? ⟨w.heap.size,2,none⟩ = x2) (fun _ _=>0)
   case atStart=>exact ⟨rfl,Hz,_,_,hb0.cell 1,rfl,rfl⟩
   case round =>
    obtain ⟨rfl,hbb,_,_,c1,-,-⟩:=hrel
    go_wp2
    go_ret
    exact ⟨rfl,hbb⟩
theorem sizeL_len : ∀ ks : List Pat,ks.length≤sizeL ks
 | []=>by simp [sizeL]
 | p :: r=>by have:=sizeL_len r;have:=sizeP_pos p;rw [List.length_cons,sizeL];omega
theorem jcheck_all (N : Nat) (hN : N≤2147483647) (X : Nat→Prop) : ∀ (z : Nat) (p : Pat),sizeP p≤z→∀ (v : Pv) (a : Nat) (w : World),PatX w X p v→goodP N p = true→a+sizeP p≤2048 →
  Calls Tryz.prog 246 #[valPt v,.int .i64 (N : Nat),.int .i64 (a : Nat)] w fun e w'=>e = .returned (.tuple #[.int .i64 0,.int .i64 ((a+sizeP p : Nat) : Int)])∧Below w.heap.size w w':=by
 intro z
 induction z with
 | zero=>intro p hz;have:=sizeP_pos p;omega
 | succ z ih =>
  intro p hz v a w hp hg ha
  have HN:=Lib.hid (fun W (h : PatX W X p v)=>jnode_any N p v X W h hg hN)
  have HP:=Lib.hid hp
  obtain ⟨op,cs,ks⟩:=p
  obtain ⟨o,⟨A,n,c⟩,⟨B,m,d⟩⟩:=v
  simp only [PatX] at hp
  obtain ⟨rfl,hA,vs,hB,hK⟩:=hp
  have hm : vs.length = m:=by have:=hB.len;rwa [List.length_map] at this
  have hk:=hK.len
  unfold goodP at hg
  rw [Bool.and_eq_true] at hg
  unfold sizeP at hz ha ⊢
  have HI:=Lib.hid (fun (i : Nat) (q : Pat) (hq : ks[i]? = some q)=>ih q (by have:=sizeL_at hq;omega))
  unfold valPt at HN ⊢
  simp only at HN ⊢
  have hb0 : Blk (w.alloc (.cells #[.int .i64 (o : Int),.slice A n c,.slice B m d] 221)) w.heap.size 221 _:=Blk.new _ _ _
  go_enter Tryz.func246,Tryz.ntmps246
  go_wp2_with fail
  have Hz : Below w.heap.size w (w.alloc (.cells #[.int .i64 (o : Int),.slice A n c,.slice B m d] 221)):=(Below.refl _ _).alloc (Nat.le_refl _) _
  have HN2:=Lib.hid (HN.out _ (HP.out.below Hz))
  generalize (w.alloc (.cells #[.int .i64 (o : Int),.slice A n c,.slice B m d] 221)) = w1 at Hz hb0 HN2 ⊢
  refine HN2.out.mono ?_
  rintro e w2 ⟨rfl,hb2⟩
  have hbw:=below_two Hz hb2
  have c2:=(hb0.below hb2).cell 2
  simp only [zG,zI,zH] at c2
  have Hk:=Lib.hid hk
  have Hm:=Lib.hid hm
  have HB:=Lib.hid hB
  have HK:=Lib.hid hK
  have Hg:=Lib.hid hg.2
  have hmz : m≤2048:=by
   have : ks.length≤sizeL ks:=sizeL_len ks
   omega
  clear HN HN2 hb0 hA hB hK hk hm hg HP
  go_wp2_with fail
  go_loopw [8,9,10] (fun u x v wr=>∃ i : Nat,u = .int .i64 0∧x = .int .i64 ((a+1+sizeL (ks.take i) : Nat) : Int)∧v = .int .i64 i∧i≤m∧Below w2.heap.size w2 wr) (fun _ _ v _=>m - (intOf v).toNat)
  case atStart=>exact ⟨0,rfl,by rw [List.take_zero];show _ = Value.int IntKind.i64 ((a+1+0 : Nat) : Int);go_num,rfl,by omega,Below.refl _ _⟩
  case round =>
   obtain ⟨i,rfl,rfl,rfl,hi,hbr⟩:=hrel
   replace c2:=cell_keep c2 hbr
   have hbr2:=below_step hbw hbr hbw.size
   by_cases hlt : i < m
   ·obtain ⟨q,hq⟩ : ∃ q,ks[i]? = some q:=⟨_,List.getElem?_eq_getElem (by have:=Hk.out;have:=Hm.out;omega)⟩
    obtain ⟨u,hu,hp⟩:=HK.out.at_ hq
    obtain ⟨b,off,e,k0,k1,k2⟩:=HB.out.atPt hu
    simp only at e
    subst e
    have hsz:=sizeL_at hq
    have hst:=sizeL_take hq
    have HC:=Lib.hid (HI.out i q hq u (a+1+sizeL (ks.take i)) wr (hp.below hbr2) (goodL_at Hg.out hq) (by omega))
    replace k0:=cell_keep k0 hbr2
    replace k1:=cell_keep k1 hbr2
    replace k2:=cell_keep k2 hbr2
    unfold valPt at HC
    have HS:=Lib.hid (show a+1+sizeL (ks.take i)+sizeP q = a+1+sizeL (ks.take (i+1)) by omega)
    rw [HS.out] at HC
    clear hq hp hu hst HS
    go_wp2_with fail
    refine HC.out.mono ?_
    rintro e w3 ⟨rfl,hb3⟩
    go_wp2
    go_roundw
    case rel=>exact ⟨i+1,rfl,rfl,by go_num,by omega,below_step hbr hb3 hbr.size⟩
    case measure=>simp [intOf];omega
   ·obtain rfl : i = m:=by omega
    have HS:=Lib.hid (show a+1+sizeL (ks.take i) = a+(1+sizeL ks) by rw [List.take_of_length_le (by have:=Hk.out;have:=Hm.out;omega)];omega)
    rw [HS.out]
    go_wp2
    go_ret2
    exact ⟨rfl,hbr2⟩
theorem jcheck_any (N : Nat) (hN : N≤2147483647) (X : Nat→Prop) (p : Pat) (v : Pv) (w : World) (hp : PatX w X p v) (hg : goodP N p = true) (hz : sizeP p≤2048) :
  Calls Tryz.prog 246 #[valPt v,.int .i64 (N : Nat),.int .i64 0] w fun e w'=>e = .returned (.tuple #[.int .i64 0,.int .i64 ((sizeP p : Nat) : Int)])∧Below w.heap.size w w':=by
 have h:=jcheck_all N hN X (sizeP p) p (Nat.le_refl _) v 0 w hp hg (by omega)
 rw [Nat.zero_add] at h
 exact h
theorem jGood_any (X : Nat→Prop) (p : Pat) (v : Pv) (w : World) (hp : PatX w X p v) (hg : goodP 2147483647 p = true) (hz : sizeP p≤2048) :
  Calls Tryz.prog 181 #[valPt v] w fun e w'=>e = .returned (.bool true)∧Below w.heap.size w w':=by
 have HC : Hid (∀ W,PatX W X p v→Calls Tryz.prog 214 #[valPt v,.int .i64 2147483647] W fun e w'=>e = .returned (.int .i64 0)∧Below W.heap.size W w'):=Lib.hid fun W hp=>by
  have H:=Lib.hid (fun W (h : PatX W X p v)=>jcheck_any 2147483647 (Nat.le_refl _) X p v W h hg hz)
  have HP:=Lib.hid hp
  clear hp hg
  unfold valPt at H ⊢
  have Hz : Below W.heap.size W (W.alloc (.cells #[.int .i64 (v.1 : Int),.slice v.2.1.1 v.2.1.2.1 v.2.1.2.2,.slice v.2.2.1 v.2.2.2.1 v.2.2.2.2] 221)):=(Below.refl _ _).alloc (Nat.le_refl _) _
  go_enter Tryz.func214,Tryz.ntmps214
  go_wp2_with fail
  refine (H.out _ (HP.out.below Hz)).mono ?_
  rintro e w2 ⟨rfl,hb2⟩
  go_wp2
  go_ret
  exact ⟨rfl,below_two Hz hb2⟩
 have HP:=Lib.hid hp
 clear hp hg
 unfold valPt at HC ⊢
 have Hz : Below w.heap.size w (w.alloc (.cells #[.int .i64 (v.1 : Int),.slice v.2.1.1 v.2.1.2.1 v.2.1.2.2,.slice v.2.2.1 v.2.2.2.1 v.2.2.2.2] 221)):=(Below.refl _ _).alloc (Nat.le_refl _) _
 go_enter Tryz.func181,Tryz.ntmps181
 go_wp2_with fail
 refine (HC.out _ (HP.out.below Hz)).mono ?_
 rintro e w2 ⟨rfl,hb2⟩
 go_wp2
 go_ret
 exact ⟨rfl,below_two Hz hb2⟩
end
end Go.Proofs.YtlfpdpbbkjnapaaGreatDoor
