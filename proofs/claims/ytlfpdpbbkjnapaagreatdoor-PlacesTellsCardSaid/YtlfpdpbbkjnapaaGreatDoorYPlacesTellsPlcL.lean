/- -/
import Derived.Deep.DeepCutAuto
import Derived.Test.YtlfpdpbbkjnapaaGreatDoorYPlacesTells3a
import Derived.Test.YtlfpdpbbkjnapaaGreatDoorYPlacesTells0b
import Derived.Test.YtlfpdpbbkjnapaaGreatDoorYPlacesTells1a
import Derived.Test.YtlfpdpbbkjnapaaGreatDoorYPlacesTellsTrD
namespace Go.Proofs.YtlfpdpbbkjnapaaGreatDoor
set_option maxRecDepth 100000
set_option maxHeartbeats 40000000
section
open Go.RowKit
theorem qends_any (r : Nat) (w : World) : Calls Tryz.prog 81 #[.int .i32 (r : Nat)] w fun e w'=>e = .returned (.bool (endsQ r))∧w = w':=by
 by_cases h1 : (r : Int) ≥ 10
 ·by_cases h2 : (r : Int)≤13
  ·have HV : Hid (endsQ r = true):=Lib.hid (by unfold endsQ;rw [decide_eq_true (by omega),decide_eq_true (by omega)];rfl)
   go_enter Tryz.func81,Tryz.ntmps81
   go_wp2
   go_ret
   exact ⟨by rw [HV.out];rfl,rfl⟩
  ·obtain ⟨q1,Q1⟩ : ∃ q,((r : Int) == 133) = q:=⟨_,rfl⟩
   obtain ⟨q2,Q2⟩ : ∃ q,((r : Int) == 8232) = q:=⟨_,rfl⟩
   obtain ⟨q3,Q3⟩ : ∃ q,((r : Int) == 8233) = q:=⟨_,rfl⟩
   have HV : Hid (endsQ r = (q1 || q2 || q3)):=Lib.hid (by
    unfold endsQ
    rw [decide_eq_false (show ¬ r≤13 by omega),Bool.and_false,Bool.false_or,← Q1,← Q2,← Q3]
    rw [show ((r : Int) == 133) = (r == 133) by rw [Bool.eq_iff_iff];simp;omega,show ((r : Int) == 8232) = (r == 8232) by rw [Bool.eq_iff_iff];simp;omega,show ((r : Int) == 8233) = (r == 8233) by rw [Bool.eq_iff_iff];simp;omega])
   cases q1 with
   | true =>
    go_enter Tryz.func81,Tryz.ntmps81
    go_wp2
    go_ret
    exact ⟨by rw [HV.out];rfl,rfl⟩
   | false =>
    cases q2 with
    | true =>
     go_enter Tryz.func81,Tryz.ntmps81
     go_wp2
     go_ret
     exact ⟨by rw [HV.out];rfl,rfl⟩
    | false =>
     cases q3 with
     | true =>
      go_enter Tryz.func81,Tryz.ntmps81
      go_wp2
      go_ret
      exact ⟨by rw [HV.out];rfl,rfl⟩
     | false =>
      go_enter Tryz.func81,Tryz.ntmps81
      go_wp2
      go_ret
      exact ⟨by rw [HV.out];rfl,rfl⟩
 ·have HV : Hid (endsQ r = false):=Lib.hid (by unfold endsQ;rw [decide_eq_false (show ¬ 10≤r by omega)];simp;omega)
  have q1 : ((r : Int) == 133) = false:=beq_eq_false_iff_ne.2 (by omega)
  have q2 : ((r : Int) == 8232) = false:=beq_eq_false_iff_ne.2 (by omega)
  have q3 : ((r : Int) == 8233) = false:=beq_eq_false_iff_ne.2 (by omega)
  go_enter Tryz.func81,Tryz.ntmps81
  go_wp2
  go_ret
  exact ⟨by rw [HV.out];rfl,rfl⟩
theorem decN_two {n b0 b1 b2 b3 R W : Nat} (h : Lib.decodeN n b0 b1 b2 b3 = (R,W)) (h1 : 128≤R) (h2 : R < 2048) : W = 2:=by
 unfold Lib.decodeN at h
 repeat' split at h
 all_goals (injection h with h1 h2;omega)
theorem decN_three {n b0 b1 b2 b3 R W : Nat} (h : Lib.decodeN n b0 b1 b2 b3 = (R,W)) (h1 : 2048≤R) (h2 : R < 65533) : W = 3:=by
 unfold Lib.decodeN at h
 repeat' split at h
 all_goals (injection h with h1 h2;omega)
theorem ends_width {s : ByteArray} {q R W : Nat} (h : Utf8.decode s q = (R,W)) (he : endsQ R = true) : Lib.runeLen (R : Int) = (W : Int)∧runeB (R : Int) = true:=by
 rw [Lib.decode_at] at h
 unfold endsQ at he
 simp only [Bool.or_eq_true,Bool.and_eq_true,decide_eq_true_eq,beq_iff_eq] at he
 rcases (by omega : R = 10∨R = 11∨R = 12∨R = 13∨R = 133∨R = 8232∨R = 8233) with rfl | rfl | rfl | rfl | rfl | rfl | rfl
 iterate 4 (rw [(decN_low h (by omega)).1];exact ⟨by decide,by decide⟩)
 ·rw [decN_two h (by omega) (by omega)];exact ⟨by decide,by decide⟩
 iterate 2 (rw [decN_three h (by omega) (by omega)];exact ⟨by decide,by decide⟩)
theorem uWidth_ends {s : ByteArray} {q R W : Nat} (h : Utf8.decode s q = (R,W)) (he : endsQ R = true) (w : World) : Calls Tryz.prog 82 #[.int .i32 (R : Nat)] w fun e w'=>e = .returned (.int .i64 (W : Nat))∧w' = w:=by
 obtain ⟨h1,h2⟩:=ends_width h he
 have HI:=Lib.hid (uIsRune_any (R : Int) w)
 rw [h2] at HI
 have HL:=Lib.hid (Tryz.utf8_RuneLen (R : Int) w)
 rw [h1] at HL
 clear h he h1 h2
 go_enter Tryz.func82,Tryz.ntmps82
 go_wp2_with fail
 refine HI.out.mono ?_
 rintro e w1 ⟨rfl,rfl⟩
 go_wp2_with fail
 refine HL.out.mono ?_
 rintro e w1 ⟨rfl,rfl⟩
 go_wp2
 go_ret
 exact ⟨rfl,rfl⟩
theorem infoPln : (Tryz.prog.info? 101).map (fun i=>(i.zero,i.size,i.bytes)) = some (some (.agg #[.int .i64 0,.int .i64 0,.int .i64 0,.slice none 0 0]),4,48):=by kernel_rfl
def row0 (x : Nat × Nat × Nat) : List Value:=encLnR x (.slice none 0 0)
theorem row0_ok (l : List (Nat × Nat × Nat)) : ∀ y ∈ l.map row0,y.length = 4∧∀ u ∈ y,u.oneCell' = true:=by
 intro y hy
 obtain ⟨x,_,rfl⟩:=List.mem_map.1 hy
 refine ⟨rfl,fun u hu=>?_⟩
 simp only [row0,encLnR,List.mem_cons,List.not_mem_nil,or_false] at hu
 rcases hu with rfl | rfl | rfl | rfl <;> rfl
structure LnG (w : World) (s : ByteArray) (base g n c i : Nat) (V : List Value) : Prop where
 len : V.length = (lnP s).length
 own : Own w base 101 4 (some ⟨g,0,none⟩) n c (List.zipWith encLnR (lnP s) V)
 todo : ∀ (k : Nat) (v : Value),i≤k→V[k]? = some v→v = .slice none 0 0
 done : ∀ (k : Nat) (x : Nat × Nat × Nat) (v : Value),k < i→(lnP s)[k]? = some x→V[k]? = some v→∃ B d,v = .slice B (letAbs s x).length d∧Rd w 1 B ((letAbs s x).map encN)∧∀ a,B = some a→a.block ≠ g
theorem set_same {V : List Value} {i : Nat} {v : Value} (h : V[i]? = some v) : V.set i v = V:=by
 refine List.ext_getElem? fun j=>?_
 rw [List.getElem?_set]
 split
 ·rename_i e;subst e
  have:=(List.getElem?_eq_some_iff.1 h).1
  rw [if_pos this,h]
 ·rfl
theorem zip_set {L : List (Nat × Nat × Nat)} {V : List Value} {i : Nat} {x : Nat × Nat × Nat} {u v : Value} (hx : L[i]? = some x) (hi : i < V.length) :
  (List.zipWith encLnR L (V.set i u)).set i ((encLnR x u).set 3 v) = List.zipWith encLnR L (V.set i v):=by
 refine List.ext_getElem? fun j=>?_
 have hl : (List.zipWith encLnR L (V.set i u)).length = min L.length V.length:=by rw [List.length_zipWith,List.length_set]
 have hiL:=(List.getElem?_eq_some_iff.1 hx).1
 by_cases e : i = j
 ·subst e
  rw [List.getElem?_set_self (by rw [hl];omega),List.getElem?_zipWith,hx,List.getElem?_set_self hi]
  rfl
 ·rw [List.getElem?_set_ne e,List.getElem?_zipWith,List.getElem?_zipWith,List.getElem?_set_ne e,List.getElem?_set_ne e]
theorem zip_row0 (l : List (Nat × Nat × Nat)) : List.zipWith encLnR l (l.map fun _=>.slice none 0 0) = l.map row0:=by
 induction l with
 | nil=>rfl
 | cons x l ih=>rw [List.map_cons,List.zipWith_cons_cons,ih];rfl
theorem rd_grown {w w' : World} {s : Nat} {A : Option Addr} {cs : List (List Value)} {g : Nat} (h : Rd w s A cs) (hg : w.grownBy w' (some g)) (hA : ∀ a,A = some a→a.block ≠ g) : Rd w' s A cs :=
 h.keep fun b off i u ha hc=>(World.cell?_of_block (hg.block b (cell_lt (p:=⟨b,i,none⟩) hc) (fun e=>hA _ ha (by injection e)))).trans hc
theorem LnG.at_ {w : World} {s : ByteArray} {base g n c i k : Nat} {V : List Value} {x : Nat × Nat × Nat} {v : Value} (h : LnG w s base g n c i V) (hx : (lnP s)[k]? = some x) (hv : V[k]? = some v) :
  w.cell? ⟨g,k*4,none⟩ = some (.int .i64 (x.1 : Nat))∧w.cell? ⟨g,k*4+1,none⟩ = some (.int .i64 (x.2.1 : Nat))∧w.cell? ⟨g,k*4+2,none⟩ = some (.int .i64 (x.2.2 : Nat))∧w.cell? ⟨g,k*4+3,none⟩ = some v:=by
 have hz : (List.zipWith encLnR (lnP s) V)[k]? = some (encLnR x v):=by rw [List.getElem?_zipWith,hx,hv]
 exact ⟨by simpa using h.own.cell (j:=0) hz rfl,by simpa using h.own.cell (j:=1) hz rfl,by simpa using h.own.cell (j:=2) hz rfl,by simpa using h.own.cell (j:=3) hz rfl⟩
theorem LnG.next {w w' : World} {s : ByteArray} {base g n c i : Nat} {V : List Value} {x : Nat × Nat × Nat} {B : Option Addr} {d : Nat} (h : LnG w s base g n c i V) (hg : w.grownBy w' (some g)) (hx : (lnP s)[i]? = some x)
  (ho : Own w' base 101 4 (some ⟨g,0,none⟩) n c (List.zipWith encLnR (lnP s) (V.set i (.slice B (letAbs s x).length d)))) (hB : Rd w' 1 B ((letAbs s x).map encN)) (hb : ∀ a,B = some a→a.block ≠ g) : LnG w' s base g n c (i+1) (V.set i (.slice B (letAbs s x).length d)):=by
 refine ⟨by rw [List.length_set];exact h.len,ho,fun k v hk hv=>?_,fun k y v hk hy hv=>?_⟩
 ·rw [List.getElem?_set_ne (by omega)] at hv
  exact h.todo k v (by omega) hv
 ·rcases Nat.lt_or_ge k i with h1 | h1
  ·rw [List.getElem?_set_ne (by omega)] at hv
   obtain ⟨B',d',h2,h3,h4⟩:=h.done k y v h1 hy hv
   exact ⟨B',d',h2,rd_grown h3 hg h4,h4⟩
  ·obtain rfl : k = i:=by omega
   rw [hx] at hy
   injection hy with hy
   subst hy
   have hk:=(List.getElem?_eq_some_iff.1 hv).1
   rw [List.length_set] at hk
   rw [List.getElem?_set_self hk] at hv
   injection hv with hv
   exact ⟨B,d,hv.symm,hB,hb⟩
theorem LnG.end_ {w : World} {s : ByteArray} {base g n c i : Nat} {V : List Value} (h : LnG w s base g n c i V) (hi : (lnP s).length≤i) : LnM w (some ⟨g,0,none⟩) (lnP s) (letAbs s):=by
 refine ⟨V,h.len,h.own.rd (by decide),fun k x v hx hv=>?_⟩
 obtain ⟨B,d,h1,h2,_⟩:=h.done k x v (by have:=(List.getElem?_eq_some_iff.1 hx).1;omega) hx hv
 exact ⟨B,d,h1,h2⟩
theorem LnG.below {w w' : World} {s : ByteArray} {base g n c i : Nat} {V : List Value} (h : LnG w s base g n c i V) (hb : Below w.heap.size w w') : LnG w' s base g n c i V :=
 ⟨h.len,h.own.below hb,h.todo,fun k x v hk hx hv=>let ⟨B,d,h1,h2,h3⟩:=h.done k x v hk hx hv;⟨B,d,h1,h2.below hb,h3⟩⟩
theorem qlines_any (s : ByteArray) (w : World) (hE : Env w) (hs : s.size≤100000) :
  Calls Tryz.prog 51 #[.string s] w fun e w'=>∃ A c,e = .returned (.slice A (lnP s).length c)∧LnM w' A (lnP s) (letAbs s)∧Below w.heap.size w w':=by
 obtain ⟨i0,hi0,hz0,hz1,hz2⟩:=info_parts infoPln
 obtain ⟨j0,hj0,jz0,jz1,jz2⟩:=info_parts infoInt
 have HEv:=Lib.hid hE
 clear hE
 go_enter Tryz.func51,Tryz.ntmps51
 go_wp2
 go_loopw [3,4] (fun u v wr=>∃ (q g : Nat) (p : Nat × Nat) (f : Nat) (A : Option Addr) (n c : Nat) (o : List (Nat × Nat × Nat)),u = .slice A n c∧v = .int .i64 f∧wr.heap[w.heap.size]? = some (.stringIter s q)∧Own wr (w.heap.size+1) 101 4 A n c (o.map row0)∧n≤q∧f≤q∧q≤s.size∧Hid (LnSt s g q p f o)∧Below w.heap.size w wr) (fun _ _ wr=>s.size - wr.iterPos w.heap.size)
 case atStart=>exact ⟨0,s.size,(0,0),0,none,0,0,[],rfl,rfl,iter_new _ _ _,Own.nil_ _ _ _ _,by omega,by omega,by omega,Lib.hid (lnSt_first s),below_iter (Below.refl _ _) (Nat.le_refl _) _ _⟩
 case round =>
  obtain ⟨q,g,p,f,A,n,c,o,rfl,rfl,hit,ho,hn1,hfq,hqs,HL,hb⟩:=hrel
  have hsz : w.heap.size < wr.heap.size:=(Array.getElem?_eq_some_iff.1 hit).1
  have Hpos:=Lib.hid (iterPos_of hit)
  by_cases hp : q < s.size
  ·obtain ⟨⟨R,W⟩,HDc⟩ : ∃ d,Utf8.decode s q = d:=⟨_,rfl⟩
   have hd:=dec_bd s q hp
   have hnx : ∀ ty,(Instr.next (.pointer (some ⟨w.heap.size,0,none⟩)) true ty).run Tryz.prog wr = _:=fun ty=>Lib.run_next_any_at wr w.heap.size s q ty hit hp
   have hit2:=Lib.iterAt_heap wr w.heap.size s q (q+(Utf8.decode s q).2) hit
   have hb2:=Lib.below_iterAt hb (k:=w.heap.size) (Nat.le_refl _) s (q+(Utf8.decode s q).2)
   have ho2:=ho.keep (w':=wr.iterAt w.heap.size s (q+(Utf8.decode s q).2)) fun a ha=>Lib.iterAt_other wr w.heap.size a.block s _ (by have:=(ho.lt a ha).1;omega)
   have hsz2 : w.heap.size < (wr.iterAt w.heap.size s (q+(Utf8.decode s q).2)).heap.size:=(Array.getElem?_eq_some_iff.1 hit2).1
   rw [HDc] at hd hnx hit2 hb2 ho2 hsz2
   simp only at hd hnx hit2 hb2 ho2 hsz2
   obtain ⟨g',hst⟩:=lnSt_step HL.out hp HDc
   have HS:=Lib.hid hst
   have HQ:=Lib.hid (fun W=>qends_any R W)
   have HWd:=Lib.hid (fun (h : endsQ R = true) W=>uWidth_ends HDc h W)
   obtain ⟨z,hz⟩ : ∃ z,z = q+W:=⟨_,rfl⟩
   rw [← hz] at hnx hit2 hb2 ho2 hsz2 HS
   have ez : IntKind.i64.wrap ((q : Int)+(W : Int)) = (z : Int):=by rw [show (q : Int)+(W : Int) = (z : Int) by omega];exact IntWalk.i64_in _ (by omega)
   have ez2 : (q : Int)+(W : Int) = (z : Int):=by omega
   have hqz : q < z:=by omega
   have hzs : z≤s.size:=by omega
   obtain ⟨j,hj⟩ : ∃ j,j = q+1:=⟨_,rfl⟩
   have HJ:=Lib.hid hj
   have ej : (q : Int)+1 = (j : Int):=by omega
   have ej2 : IntKind.i64.wrap ((q : Int)+1) = (j : Int):=by rw [ej];exact IntWalk.i64_in _ (by omega)
   have hw64 : (W : Int)≤4:=by omega
   clear hst HL HDc hit ho hb hsz hz hd hj
   generalize wr.iterAt w.heap.size s z = w2 at hnx hit2 hb2 ho2 hsz2
   cases b0 : endsQ R with
   | false =>
    have HS2 : Hid (LnSt s g' z (R,q) f o):=Lib.hid (by
     have h:=HS.out
     rwa [show lnEnds s q R = false by unfold lnEnds;rw [b0];rfl,if_neg (by decide)] at h)
    rw [b0] at HQ
    clear HWd HS
    go_wp2_with (first | (go_at_call 81;refine (HQ.out _).mono ?_;rintro e w4 ⟨rfl,rfl⟩))
    go_roundw
    case rel=>exact ⟨z,g',(R,q),f,A,n,c,o,rfl,rfl,hit2,ho2,by omega,by omega,hzs,HS2,hb2⟩
    case measure=>rw [iterPos_of hit2,Hpos.out];omega
   | true =>
   rw [b0] at HQ
   replace HWd:=Lib.hid (HWd.out b0)
   cases t13 : ((R : Int) == 13) with
   | true =>
    have t10 : ((R : Int) == 10) = false:=by
     have h:=eq_of_beq t13
     exact beq_eq_false_iff_ne.2 (by omega)
    have HR13 : Hid (R = 13):=Lib.hid (by have:=eq_of_beq t13;omega)
    have HR10 : Hid (R ≠ 10):=Lib.hid (by have:=HR13.out;omega)
    by_cases hlt : j < s.size
    ·have hlt' : (j : Int) < (s.size : Int):=by omega
     have hj0 : (0 : Int)≤(j : Int):=by omega
     have HG : Hid (s.get! (q+1) = s[j]'hlt):=Lib.hid (by rw [← HJ.out];exact get_at s hlt)
     have HD : Hid (decide (q+1 < s.size) = true):=Lib.hid (decide_eq_true (by rw [← HJ.out];exact hlt))
     cases tb : (((s[j]'hlt).toNat : Int) == 10) with
     | true =>
      have HS2 : Hid (LnSt s g' z (R,q) f o):=Lib.hid (by
       have h:=HS.out
       rwa [show lnEnds s q R = false by unfold lnEnds;rw [b0,HR13.out,HD.out,HG.out,show ((s[j]'hlt).toNat == 10) = true by (have:=eq_of_beq tb;rw [beq_iff_eq];omega)];rfl,if_neg (by decide)] at h)
      clear HWd HS
      go_wp2_with (first | (go_at_call 81;refine (HQ.out _).mono ?_;rintro e w4 ⟨rfl,rfl⟩))
      go_roundw
      case rel=>exact ⟨z,g',(R,q),f,A,n,c,o,rfl,rfl,hit2,ho2,by omega,by omega,hzs,HS2,hb2⟩
      case measure=>rw [iterPos_of hit2,Hpos.out];omega
     | false =>
      have HS2 : Hid (LnSt s g' z (R,q) z (o++[(f,q,z)])):=Lib.hid (by
       have h:=HS.out
       rwa [show lnEnds s q R = true by unfold lnEnds;rw [b0];rw [HR13.out,HD.out,HG.out,show ((s[j]'hlt).toNat == 10) = false by (have:=ne_of_beq_false tb;exact beq_eq_false_iff_ne.2 (by omega))];rfl,if_pos rfl,show lnTo s f q R = q by unfold lnTo;rw [show (R == 10) = false from beq_eq_false_iff_ne.2 HR10.out];rfl] at h)
      clear HS
      go_wp2_with (first
       | (go_at_call 81;refine (HQ.out _).mono ?_;rintro e w4 ⟨rfl,rfl⟩)
       | (go_at_call 82;refine (HWd.out _).mono ?_;rintro e w5 ⟨rfl,rfl⟩)
       | (at_builtin;go_must (refine wpList_app rfl (.tmp 61) (.tmp 66) _ rfl (w.heap.size+1) 101 i0 _ 4 48 Tryz.underlying90 hi0 hz0 hz1 hz2 rfl (by omega) A n c (o.map row0) rfl (ho2.alloc _) _ 1 1 [row0 (f,q,z)] rfl rfl (Rd.newAt (by simp) rfl) (row0_ok [_]) (by unfold maxLen;omega) (by omega) (by simp;omega) ?_);intro A3 c3 w3 ho3 hg3 hA3;have hit3:=hg3.block w.heap.size (by simp;omega) (fun e=>by cases A with | none=>simp at e | some a=>have:=(ho2.lt a rfl).1;simp at e;omega);have hb3:=below_app (hb2.alloc (by omega) _) hg3 (by simp;omega) (fun a ha=>by have:=(ho2.lt a ha).1;omega);clear hg3))
      have hit5 : w3.heap[w.heap.size]? = some (.stringIter s z):=hit3.trans ((Below.heap_alloc _ _ _ hsz2).trans hit2)
      have Ho3 : Own w3 (w.heap.size+1) 101 4 A3 (n+1) c3 ((o++[(f,q,z)]).map row0):=by rw [List.map_append];exact ho3
      clear hit3 ho3
      go_roundw
      case rel=>exact ⟨z,g',(R,q),z,A3,n+1,c3,o++[(f,q,z)],rfl,rfl,hit5,Ho3,by omega,by omega,hzs,HS2,hb3⟩
      case measure=>rw [iterPos_of hit5,Hpos.out];omega
    ·have hlt' : ¬ (j : Int) < (s.size : Int):=by omega
     have HD : Hid (decide (q+1 < s.size) = false):=Lib.hid (decide_eq_false (by rw [← HJ.out];exact hlt))
     have HS2 : Hid (LnSt s g' z (R,q) z (o++[(f,q,z)])):=Lib.hid (by
      have h:=HS.out
      rwa [show lnEnds s q R = true by unfold lnEnds;rw [b0];rw [HR13.out,HD.out];rfl,if_pos rfl,show lnTo s f q R = q by unfold lnTo;rw [show (R == 10) = false from beq_eq_false_iff_ne.2 HR10.out];rfl] at h)
     clear HS
     go_wp2_with (first
      | (go_at_call 81;refine (HQ.out _).mono ?_;rintro e w4 ⟨rfl,rfl⟩)
      | (go_at_call 82;refine (HWd.out _).mono ?_;rintro e w5 ⟨rfl,rfl⟩)
      | (at_builtin;go_must (refine wpList_app rfl (.tmp 61) (.tmp 66) _ rfl (w.heap.size+1) 101 i0 _ 4 48 Tryz.underlying90 hi0 hz0 hz1 hz2 rfl (by omega) A n c (o.map row0) rfl (ho2.alloc _) _ 1 1 [row0 (f,q,z)] rfl rfl (Rd.newAt (by simp) rfl) (row0_ok [_]) (by unfold maxLen;omega) (by omega) (by simp;omega) ?_);intro A3 c3 w3 ho3 hg3 hA3;have hit3:=hg3.block w.heap.size (by simp;omega) (fun e=>by cases A with | none=>simp at e | some a=>have:=(ho2.lt a rfl).1;simp at e;omega);have hb3:=below_app (hb2.alloc (by omega) _) hg3 (by simp;omega) (fun a ha=>by have:=(ho2.lt a ha).1;omega);clear hg3))
     have hit5 : w3.heap[w.heap.size]? = some (.stringIter s z):=hit3.trans ((Below.heap_alloc _ _ _ hsz2).trans hit2)
     have Ho3 : Own w3 (w.heap.size+1) 101 4 A3 (n+1) c3 ((o++[(f,q,z)]).map row0):=by rw [List.map_append];exact ho3
     clear hit3 ho3
     go_roundw
     case rel=>exact ⟨z,g',(R,q),z,A3,n+1,c3,o++[(f,q,z)],rfl,rfl,hit5,Ho3,by omega,by omega,hzs,HS2,hb3⟩
     case measure=>rw [iterPos_of hit5,Hpos.out];omega
   | false =>
    have HR13 : Hid ((R == 13) = false):=Lib.hid (beq_eq_false_iff_ne.2 (by have:=ne_of_beq_false t13;omega))
    cases t10 : ((R : Int) == 10) with
    | true =>
     have HR10 : Hid (R = 10):=Lib.hid (by have:=eq_of_beq t10;omega)
     by_cases hfl : f < q
     ·have hfl' : (q : Int) > (f : Int):=by omega
      obtain ⟨m,hm⟩ : ∃ m,q = m+1:=⟨q - 1,by omega⟩
      have HM : Hid (q - 1 = m):=Lib.hid (by omega)
      have em : (q : Int) - 1 = (m : Int):=by omega
      have em2 : IntKind.i64.wrap ((q : Int) - 1) = (m : Int):=by rw [em];exact IntWalk.i64_in _ (by omega)
      have hms : m < s.size:=by omega
      have hms' : (m : Int) < (s.size : Int):=by omega
      have hm0 : (0 : Int)≤(m : Int):=by omega
      have hmz : m≤z:=by omega
      have HG : Hid (s.get! (q - 1) = s[m]'hms):=Lib.hid (by rw [HM.out];exact get_at s hms)
      clear hm
      cases tb : (((s[m]'hms).toNat : Int) == 13) with
      | true =>
       have HS2 : Hid (LnSt s g' z (R,q) z (o++[(f,m,z)])):=Lib.hid (by
        have h:=HS.out
        rwa [show lnEnds s q R = true by unfold lnEnds;rw [b0];rw [HR13.out];rfl,if_pos rfl,show lnTo s f q R = m by unfold lnTo;rw [HR10.out,decide_eq_true hfl,HG.out,show ((s[m]'hms).toNat == 13) = true by (have:=eq_of_beq tb;rw [beq_iff_eq];omega),HM.out];rfl] at h)
       clear HS
       go_wp2_with (first
        | (go_at_call 81;refine (HQ.out _).mono ?_;rintro e w4 ⟨rfl,rfl⟩)
        | (go_at_call 82;refine (HWd.out _).mono ?_;rintro e w5 ⟨rfl,rfl⟩)
        | (at_builtin;go_must (refine wpList_app rfl (.tmp 61) (.tmp 66) _ rfl (w.heap.size+1) 101 i0 _ 4 48 Tryz.underlying90 hi0 hz0 hz1 hz2 rfl (by omega) A n c (o.map row0) rfl (ho2.alloc _) _ 1 1 [row0 (f,m,z)] rfl rfl (Rd.newAt (by simp) rfl) (row0_ok [_]) (by unfold maxLen;omega) (by omega) (by simp;omega) ?_);intro A3 c3 w3 ho3 hg3 hA3;have hit3:=hg3.block w.heap.size (by simp;omega) (fun e=>by cases A with | none=>simp at e | some a=>have:=(ho2.lt a rfl).1;simp at e;omega);have hb3:=below_app (hb2.alloc (by omega) _) hg3 (by simp;omega) (fun a ha=>by have:=(ho2.lt a ha).1;omega);clear hg3))
       have hit5 : w3.heap[w.heap.size]? = some (.stringIter s z):=hit3.trans ((Below.heap_alloc _ _ _ hsz2).trans hit2)
       have Ho3 : Own w3 (w.heap.size+1) 101 4 A3 (n+1) c3 ((o++[(f,m,z)]).map row0):=by rw [List.map_append];exact ho3
       clear hit3 ho3
       go_roundw
       case rel=>exact ⟨z,g',(R,q),z,A3,n+1,c3,o++[(f,m,z)],rfl,rfl,hit5,Ho3,by omega,by omega,hzs,HS2,hb3⟩
       case measure=>rw [iterPos_of hit5,Hpos.out];omega
      | false =>
       have HS2 : Hid (LnSt s g' z (R,q) z (o++[(f,q,z)])):=Lib.hid (by
        have h:=HS.out
        rwa [show lnEnds s q R = true by unfold lnEnds;rw [b0];rw [HR13.out];rfl,if_pos rfl,show lnTo s f q R = q by unfold lnTo;rw [HR10.out,decide_eq_true hfl,HG.out,show ((s[m]'hms).toNat == 13) = false by (have:=ne_of_beq_false tb;exact beq_eq_false_iff_ne.2 (by omega))];rfl] at h)
       clear HS
       go_wp2_with (first
        | (go_at_call 81;refine (HQ.out _).mono ?_;rintro e w4 ⟨rfl,rfl⟩)
        | (go_at_call 82;refine (HWd.out _).mono ?_;rintro e w5 ⟨rfl,rfl⟩)
        | (at_builtin;go_must (refine wpList_app rfl (.tmp 61) (.tmp 66) _ rfl (w.heap.size+1) 101 i0 _ 4 48 Tryz.underlying90 hi0 hz0 hz1 hz2 rfl (by omega) A n c (o.map row0) rfl (ho2.alloc _) _ 1 1 [row0 (f,q,z)] rfl rfl (Rd.newAt (by simp) rfl) (row0_ok [_]) (by unfold maxLen;omega) (by omega) (by simp;omega) ?_);intro A3 c3 w3 ho3 hg3 hA3;have hit3:=hg3.block w.heap.size (by simp;omega) (fun e=>by cases A with | none=>simp at e | some a=>have:=(ho2.lt a rfl).1;simp at e;omega);have hb3:=below_app (hb2.alloc (by omega) _) hg3 (by simp;omega) (fun a ha=>by have:=(ho2.lt a ha).1;omega);clear hg3))
       have hit5 : w3.heap[w.heap.size]? = some (.stringIter s z):=hit3.trans ((Below.heap_alloc _ _ _ hsz2).trans hit2)
       have Ho3 : Own w3 (w.heap.size+1) 101 4 A3 (n+1) c3 ((o++[(f,q,z)]).map row0):=by rw [List.map_append];exact ho3
       clear hit3 ho3
       go_roundw
       case rel=>exact ⟨z,g',(R,q),z,A3,n+1,c3,o++[(f,q,z)],rfl,rfl,hit5,Ho3,by omega,by omega,hzs,HS2,hb3⟩
       case measure=>rw [iterPos_of hit5,Hpos.out];omega
     ·have hfl' : ¬ (q : Int) > (f : Int):=by omega
      have HS2 : Hid (LnSt s g' z (R,q) z (o++[(f,q,z)])):=Lib.hid (by
       have h:=HS.out
       rwa [show lnEnds s q R = true by unfold lnEnds;rw [b0];rw [HR13.out];rfl,if_pos rfl,show lnTo s f q R = q by unfold lnTo;rw [decide_eq_false hfl,Bool.false_and,Bool.and_false];rfl] at h)
      clear HS
      go_wp2_with (first
       | (go_at_call 81;refine (HQ.out _).mono ?_;rintro e w4 ⟨rfl,rfl⟩)
       | (go_at_call 82;refine (HWd.out _).mono ?_;rintro e w5 ⟨rfl,rfl⟩)
       | (at_builtin;go_must (refine wpList_app rfl (.tmp 61) (.tmp 66) _ rfl (w.heap.size+1) 101 i0 _ 4 48 Tryz.underlying90 hi0 hz0 hz1 hz2 rfl (by omega) A n c (o.map row0) rfl (ho2.alloc _) _ 1 1 [row0 (f,q,z)] rfl rfl (Rd.newAt (by simp) rfl) (row0_ok [_]) (by unfold maxLen;omega) (by omega) (by simp;omega) ?_);intro A3 c3 w3 ho3 hg3 hA3;have hit3:=hg3.block w.heap.size (by simp;omega) (fun e=>by cases A with | none=>simp at e | some a=>have:=(ho2.lt a rfl).1;simp at e;omega);have hb3:=below_app (hb2.alloc (by omega) _) hg3 (by simp;omega) (fun a ha=>by have:=(ho2.lt a ha).1;omega);clear hg3))
      have hit5 : w3.heap[w.heap.size]? = some (.stringIter s z):=hit3.trans ((Below.heap_alloc _ _ _ hsz2).trans hit2)
      have Ho3 : Own w3 (w.heap.size+1) 101 4 A3 (n+1) c3 ((o++[(f,q,z)]).map row0):=by rw [List.map_append];exact ho3
      clear hit3 ho3
      go_roundw
      case rel=>exact ⟨z,g',(R,q),z,A3,n+1,c3,o++[(f,q,z)],rfl,rfl,hit5,Ho3,by omega,by omega,hzs,HS2,hb3⟩
      case measure=>rw [iterPos_of hit5,Hpos.out];omega
    | false =>
     have HR10 : Hid (R ≠ 10):=Lib.hid (by have:=ne_of_beq_false t10;omega)
     have HS2 : Hid (LnSt s g' z (R,q) z (o++[(f,q,z)])):=Lib.hid (by
      have h:=HS.out
      rwa [show lnEnds s q R = true by unfold lnEnds;rw [b0];rw [HR13.out];rfl,if_pos rfl,show lnTo s f q R = q by unfold lnTo;rw [show (R == 10) = false from beq_eq_false_iff_ne.2 HR10.out];rfl] at h)
     clear HS
     go_wp2_with (first
      | (go_at_call 81;refine (HQ.out _).mono ?_;rintro e w4 ⟨rfl,rfl⟩)
      | (go_at_call 82;refine (HWd.out _).mono ?_;rintro e w5 ⟨rfl,rfl⟩)
      | (at_builtin;go_must (refine wpList_app rfl (.tmp 61) (.tmp 66) _ rfl (w.heap.size+1) 101 i0 _ 4 48 Tryz.underlying90 hi0 hz0 hz1 hz2 rfl (by omega) A n c (o.map row0) rfl (ho2.alloc _) _ 1 1 [row0 (f,q,z)] rfl rfl (Rd.newAt (by simp) rfl) (row0_ok [_]) (by unfold maxLen;omega) (by omega) (by simp;omega) ?_);intro A3 c3 w3 ho3 hg3 hA3;have hit3:=hg3.block w.heap.size (by simp;omega) (fun e=>by cases A with | none=>simp at e | some a=>have:=(ho2.lt a rfl).1;simp at e;omega);have hb3:=below_app (hb2.alloc (by omega) _) hg3 (by simp;omega) (fun a ha=>by have:=(ho2.lt a ha).1;omega);clear hg3))
     have hit5 : w3.heap[w.heap.size]? = some (.stringIter s z):=hit3.trans ((Below.heap_alloc _ _ _ hsz2).trans hit2)
     have Ho3 : Own w3 (w.heap.size+1) 101 4 A3 (n+1) c3 ((o++[(f,q,z)]).map row0):=by rw [List.map_append];exact ho3
     clear hit3 ho3
     go_roundw
     case rel=>exact ⟨z,g',(R,q),z,A3,n+1,c3,o++[(f,q,z)],rfl,rfl,hit5,Ho3,by omega,by omega,hzs,HS2,hb3⟩
     case measure=>rw [iterPos_of hit5,Hpos.out];omega
  ·have hnx : ∀ ty,(Instr.next (.pointer (some ⟨w.heap.size,0,none⟩)) true ty).run Tryz.prog wr = _:=fun ty=>Lib.run_next_end_at wr w.heap.size s q ty hit hp
   have HE:=Lib.hid (lnSt_end HL.out hp)
   clear HL Hpos
   go_wp2_with (at_builtin;go_must (refine wpList_app rfl (.tmp 69) (.tmp 76) _ rfl (w.heap.size+1) 101 i0 _ 4 48 Tryz.underlying90 hi0 hz0 hz1 hz2 rfl (by omega) A n c (o.map row0) rfl (ho.alloc _) _ 1 1 [row0 (f,s.size,s.size)] rfl rfl (Rd.newAt (by simp) rfl) (row0_ok [_]) (by unfold maxLen;omega) (by omega) (by simp;omega) ?_);intro A3 c3 w3 ho3 hg3 hA3;have hb3:=below_app (hb.alloc (by omega) _) hg3 (by simp;omega) (fun a ha=>by have:=(ho.lt a ha).1;omega);clear hg3)
   have Ho3 : Own w3 (w.heap.size+1) 101 4 A3 (n+1) c3 ((lnP s).map row0):=by rw [← HE.out,List.map_append];exact ho3
   have hln : (lnP s).length = n+1:=by have:=Ho3.len;rw [List.length_map] at this;exact this
   obtain ⟨gl,rfl,hgl1,hgl2⟩:=Ho3.form (by omega)
   have HG0 : LnG w3 s (w.heap.size+1) gl (n+1) c3 0 ((lnP s).map fun _=>.slice none 0 0):=⟨by simp,by rw [zip_row0];exact Ho3,fun k v _ hv=>by
    rw [List.getElem?_map] at hv
    cases hh : (lnP s)[k]? with
    | none=>rw [hh] at hv;cases hv
    | some u=>rw [hh] at hv;injection hv with hv;exact hv.symm,fun k x v hk=>absurd hk (Nat.not_lt_zero _)⟩
   have Hln:=Lib.hid hln
   have hn0 : n+1≤100002:=by omega
   obtain ⟨N,hN⟩ : ∃ N,N = n+1:=⟨_,rfl⟩
   rw [← hN] at HG0 Hln hn0 ⊢
   have HeN : Hid ((n : Int)+1 = (N : Int)):=Lib.hid (by omega)
   clear ho3 Ho3 hA3 hb ho hit hnx hln hN HE
   go_loopw [80] (fun v wr=>∃ (i : Nat) (V : List Value),v = .int .i64 i∧i≤N∧LnG wr s (w.heap.size+1) gl N c3 i V∧Below w.heap.size w wr) (fun v _=>N - (intOf v).toNat)
   case atStart=>exact ⟨0,_,rfl,by omega,HG0,hb3⟩
   case round =>
    obtain ⟨i,V,rfl,hi,hG,hbw⟩:=hrel
    by_cases hlt : i < N
    ·obtain ⟨⟨a,b,z⟩,Hx⟩ : ∃ x,Hid ((lnP s)[i]? = some x):=⟨_,Lib.hid (List.getElem?_eq_getElem (by rw [Hln.out];exact hlt))⟩
     obtain ⟨v,hv⟩ : ∃ v,V[i]? = some v:=⟨_,List.getElem?_eq_getElem (by rw [hG.len,Hln.out];exact hlt)⟩
     obtain rfl:=hG.todo i v (Nat.le_refl _) hv
     obtain ⟨x0,x1,x2,x3⟩:=hG.at_ Hx.out hv
     simp only at x0 x1 x2
     obtain ⟨_,hab,hbz,hzs⟩:=line_in Hx.out
     simp only at hab hbz hzs
     have Hv:=Lib.hid hv
     have hin1 : (i : Int) < (n : Int)+1:=by have:=HeN.out;omega
     have hinN : (i : Int) < (N : Int):=by omega
     have hi00 : (0 : Int)≤(i : Int):=by omega
     have hab' : (a : Int)≤(b : Int):=by omega
     have hbs' : (b : Int)≤(s.size : Int):=by omega
     have ha0 : (0 : Int)≤(a : Int):=by omega
     have hbA : Below wr.heap.size wr (wr.alloc (.cells #[.int .i64 (a : Nat),.int .i64 (b : Nat),.int .i64 (z : Nat),.slice none 0 0] 101)):=(Below.refl _ _).alloc (Nat.le_refl _) _
     have BX:=Blk.new wr 101 #[.int .i64 (a : Nat),.int .i64 (b : Nat),.int .i64 (z : Nat),.slice none 0 0]
     have HQ:=Lib.hid (qbegins_any (s.extract a b) _ (HEv.out.below (below_two hbw hbA)) (by rw [ByteArray.size_extract];omega))
     have hbwA:=below_two hbw hbA
     have hGA:=hG.below hbA
     have hglr:=(hG.own.lt _ rfl).2
     clear hv hbA
     go_wp2_with fail
     refine HQ.out.mono ?_
     rintro e w4 ⟨Bq,m,cq,rfl,hoq,hb4⟩
     obtain ⟨T,HT⟩ : ∃ T,Hid (letS (s.extract a b) = T):=⟨_,Lib.hid rfl⟩
     rw [HT.out] at hoq
     have hTm : T.length = m:=by have:=hoq.len;rw [List.length_map] at this;exact this
     have HTm:=Lib.hid hTm
     have HTlt : Hid (∀ (k y : Nat),T[k]? = some y→y < s.size):=Lib.hid (fun k y h=>by
      have h1:=let_lt (s.extract a b) y (by rw [HT.out];exact List.mem_of_getElem? h)
      rw [ByteArray.size_extract] at h1
      omega)
     have hmz : m≤100001:=by
      have h1:=bounds_len (s.extract a b)
      rw [ByteArray.size_extract] at h1
      have h2 : (letS (s.extract a b)).length≤(boundsG gG (s.extract a b)).length:=by unfold letS;rw [List.length_dropLast];omega
      rw [HT.out,hTm] at h2
      omega
     have HLA : Hid (letAbs s (a,b,z) = T.map (a+·)):=Lib.hid (by unfold letAbs letQ;rw [← HT.out])
     have hG4:=hGA.below hb4
     have BX4:=BX.below hb4
     have rdq:=hoq.rd (by decide)
     have hbw4:=below_two hbwA hb4
     have hqgl : ∀ a,Bq = some a→a.block ≠ gl:=fun q hq=>by have:=(hoq.lt q hq).1;simp at this;omega
     have hbxlt:=BX4.lt
     have hglw4 : gl < w4.heap.size:=by have:=hb4.size;simp at this;omega
     have hbxgl : wr.heap.size ≠ gl:=by omega
     generalize wr.heap.size = bx at BX4 hbxlt hbxgl ⊢
     clear HQ hoq hTm hG x0 x1 x2 x3 hbw hbwA hGA BX hb4
     go_wp2_with fail
     go_loopw [93] (fun v wr=>∃ (k : Nat) (Ak : Option Addr) (ck : Nat),v = .int .i64 k∧k≤m∧Own wr (w.heap.size+1) 101 4 (some ⟨gl,0,none⟩) N c3 (List.zipWith encLnR (lnP s) (V.set i (.slice Ak k ck)))∧Own wr w4.heap.size 3 1 Ak k ck (((T.take k).map (a+·)).map encN)∧w4.grownBy wr (some gl)) (fun v _=>m - (intOf v).toNat)
     case atStart=>exact ⟨0,none,0,rfl,by omega,by rw [set_same Hv.out];exact hG4.own,Own.nil_ _ _ _ _,only_refl _ _⟩
     case round =>
      obtain ⟨k,Ak,ck,rfl,hk,hoL,hoA,hgs⟩:=hrel
      by_cases hkm : k < m
      ·obtain ⟨t,Ht⟩ : ∃ t,Hid (T[k]? = some t):=⟨_,Lib.hid (List.getElem?_eq_getElem (by rw [HTm.out];exact hkm))⟩
       have hts:=HTlt.out k t Ht.out
       obtain ⟨bq,oq,rfl,cq1⟩:=(rd_grown rdq hgs hqgl).atP' Ht.out
       have hzx : (List.zipWith encLnR (lnP s) (V.set i (.slice Ak k ck)))[i]? = some (encLnR (a,b,z) (.slice Ak k ck)):=by
        rw [List.getElem?_zipWith,Hx.out,List.getElem?_set_self (by rw [hG4.len,Hln.out];exact hlt)]
       have cl3 : wr.cell? ⟨gl,i*4+3,none⟩ = some (.slice Ak k ck):=hoL.cell (j:=3) hzx rfl
       have hsz4:=hgs.size
       have BXs : Blk wr bx 101 #[.int .i64 (a : Nat),.int .i64 (b : Nat),.int .i64 (z : Nat),.slice none 0 0]:=(hgs.block bx hbxlt (fun e=>hbxgl (by injection e))).trans BX4
       have cb0:=BXs.cell 0
       simp only [zG,zH] at cb0
       have fl3:=hoL.frozen (i*4+3)
       have hAlt:=hoA.lt
       obtain ⟨y,hy⟩ : ∃ y,y = a+t:=⟨_,rfl⟩
       have ey : (a : Int)+(t : Int) = (y : Int):=by omega
       have ey2 : IntKind.i64.wrap ((a : Int)+(t : Int)) = (y : Int):=by rw [ey];exact IntWalk.i64_in _ (by omega)
       have ey3 : IntKind.i64.wrap (y : Int) = (y : Int):=IntWalk.i64_in _ (by omega)
       have HTk : Hid ((T.take (k+1)).map (a+·) = (T.take k).map (a+·)++[y]):=Lib.hid (by rw [List.take_add_one,Ht.out,Option.toList_some,List.map_append,hy];rfl)
       have hiN : (i : Int) < (N : Int):=by omega
       have hi0' : (0 : Int)≤(i : Int):=by omega
       have hkm' : (k : Int) < (m : Int):=by omega
       have hk0' : (0 : Int)≤(k : Int):=by omega
       clear hy
       go_upto_region 20 with fail
       refine wp_region_last (S:=fun U=>U.cell? ⟨gl,i*4+3,none⟩ = some (.slice Ak k ck)∧U.cell? ⟨bx,0,none⟩ = some (.int .i64 (a : Nat))) 15 rfl (by kernel_rfl) (by kernel_rfl) (by kernel_rfl) ⟨cl3,cb0⟩ (fun hHeld=>?_)
       simp only [List.dropLast_cons_cons,List.dropLast_singleton]
       refine tkH (i:=0) (v:=?_) rfl ?_ ?_;rotate_left;focus ((intro w hSw;(try dsimp only at hSw);go_simp);try with_reducible rfl)
       (try simp only [Act.put,zA,zC,zD,zE,zF])
       refine tkH (i:=1) (v:=?_) rfl ?_ ?_;rotate_left;focus ((intro w hSw;(try dsimp only at hSw);go_simp);try with_reducible rfl)
       (try simp only [Act.put,zA,zB,zC,zD,zE,zF])
       refine tkH (i:=2) (v:=?_) rfl ?_ ?_;rotate_left;focus ((intro w hSw;(try dsimp only at hSw);go_simp);try with_reducible rfl)
       (try simp only [Act.put,zA,zB,zC,zD,zE,zF])
       refine tkH (i:=3) (v:=?_) rfl ?_ ?_;rotate_left;focus ((intro w hSw;(try dsimp only at hSw);go_simp);try with_reducible rfl)
       (try simp only [Act.put,zA,zB,zC,zD,zE,zF])
       refine tkH (i:=4) (v:=?_) rfl ?_ ?_;rotate_left;focus ((intro w hSw;(try dsimp only at hSw);go_simp);try with_reducible rfl)
       (try simp only [Act.put,zA,zB,zC,zD,zE,zF])
       refine tkH (i:=5) (v:=?_) rfl ?_ ?_;rotate_left;focus ((intro w hSw;(try dsimp only at hSw);go_simp);try with_reducible rfl)
       (try simp only [Act.put,zA,zB,zC,zD,zE,zF])
       refine tkH (i:=6) (v:=?_) rfl ?_ ?_;rotate_left;focus ((intro w hSw;(try dsimp only at hSw);go_simp);try with_reducible rfl)
       (try simp only [Act.put,zA,zB,zC,zD,zE,zF])
       refine tkH (i:=7) (v:=?_) rfl ?_ ?_;rotate_left;focus ((intro w hSw;(try dsimp only at hSw);go_simp);try with_reducible rfl)
       (try simp only [Act.put,zA,zB,zC,zD,zE,zF])
       refine tkH (i:=8) (v:=?_) rfl ?_ ?_;rotate_left;focus ((intro w hSw;(try dsimp only at hSw);go_simp);try with_reducible rfl)
       (try simp only [Act.put,zA,zB,zC,zD,zE,zF])
       refine tkH (i:=9) (v:=?_) rfl ?_ ?_;rotate_left;focus ((intro w hSw;(try dsimp only at hSw);go_simp);try with_reducible rfl)
       (try simp only [Act.put,zA,zB,zC,zD,zE,zF])
       refine tkH (i:=10) (v:=?_) rfl ?_ ?_;rotate_left;focus ((intro w hSw;(try dsimp only at hSw);go_simp);try with_reducible rfl)
       (try simp only [Act.put,zA,zB,zC,zD,zE,zF])
       refine wpAnyH_ready (rs:=[11]) (by kernel_rfl) (by simp) ?_
       refine AllReadyH.cons rfl (fun K hK=>?_) AllReadyH.nil
       go_simp
       have hbn : Below wr.heap.size wr (wr.alloc (.cells #[.int .i64 (y : Nat)] 3)).drew:=((Below.refl _ _).alloc (Nat.le_refl _) _).drew
       refine hK.out _ _ ⟨cell_keep cl3 hbn,cell_keep cb0 hbn⟩ (fun hHeld=>?_)
       clear hK K
       refine wpAnyH_ready (rs:=[12]) (by kernel_rfl) (by simp) ?_
       refine AllReadyH.cons rfl (fun K hK=>?_) AllReadyH.nil
       refine step_app rfl (.tmp 103) (.tmp 108) _ rfl w4.heap.size 3 j0 _ 1 8 Tryz.underlying65 hj0 jz0 jz1 jz2 rfl (by omega) Ak k ck (((T.take k).map (a+·)).map encN) rfl (hoA.alloc _).drew _ 1 1 [encN y] rfl rfl (Rd.newAt (by simp) rfl) (encN_ok [y]) (by unfold maxLen;omega) (by omega) (by simp;omega) ?_
       intro A5 c5 w7 ho7 hg7 hA7
       have hgA : ∀ j,j < w4.heap.size→some j ≠ Ak.map (·.block):=fun j hj e=>by
        cases Ak with
        | none=>cases e
        | some q=>have:=(hAlt q rfl).1;simp at e;omega
       have h7 : ∀ j,j < w4.heap.size→w7.heap[j]? = wr.heap[j]?:=fun j hj=>(hg7.block j (by simp;omega) (hgA j hj)).trans (Below.heap_alloc wr _ j (by omega))
       have cl7 : w7.cell? ⟨gl,i*4+3,none⟩ = some (.slice Ak k ck):=(World.cell?_of_block (h7 gl hglw4)).trans cl3
       have cb7 : w7.cell? ⟨bx,0,none⟩ = some (.int .i64 (a : Nat)):=(World.cell?_of_block (h7 bx hbxlt)).trans cb0
       have fl7 : w7.frozen? ⟨gl,i*4+3,none⟩ = false:=(World.frozen?_of_block (h7 gl hglw4)).trans fl3
       refine hK.out _ _ ⟨cl7,cb7⟩ (fun hHeld=>?_)
       clear hK K
       refine tkH (i:=13) (v:=?_) rfl ?_ ?_;rotate_left;focus ((intro w hSw;(try dsimp only at hSw);go_simp);try with_reducible rfl)
       (try simp only [Act.put,zA,zB,zC,zD,zE,zF])
       refine tkH (i:=14) (v:=?_) rfl ?_ ?_;rotate_left;focus ((intro w hSw;(try dsimp only at hSw);go_simp);try with_reducible rfl)
       (try simp only [Act.put,zA,zB,zC,zD,zE,zF])
       refine wpAnyH_done (by kernel_rfl) ?_ _
       refine tailQ_end (wpOp_step (i:=15) rfl (fun K hK=>?_))
       go_simp
       refine hK _ _ ?_
       clear hK K
       have hzi : i < V.length:=by rw [hG4.len,Hln.out];exact hlt
       have hoL7 : Own w7 (w.heap.size+1) 101 4 (some ⟨gl,0,none⟩) N c3 (List.zipWith encLnR (lnP s) (V.set i (.slice Ak k ck))):=hoL.keep (fun q hq=>by injection hq with hq;subst hq;exact h7 gl hglw4)
       have hoL8:=hoL7.stored (k:=i) (j:=3) hzx (by omega) (.slice A5 (k+1) c5)
       rw [zip_set Hx.out hzi] at hoL8
       have hoA8:=ho7.keep (w':=w7.setCell ⟨gl,i*4+3,none⟩ (.slice A5 (k+1) c5)) (fun q hq=>Below.heap_setCell w7 ⟨gl,i*4+3,none⟩ _ _ (by have:=(ho7.lt q hq).1;simp only;omega))
       have hw7 : w4.grownBy w7 (some gl):=⟨hg7.os.trans hgs.os,hg7.tape.trans hgs.tape,hg7.output.trans hgs.output,by have:=hg7.size;simp at this;omega,fun j hj hne=>(h7 j hj).trans (hgs.block j hj hne)⟩
       have hw8:=only_setCell hw7 (p:=⟨gl,i*4+3,none⟩) (.inl rfl) (.slice A5 (k+1) c5)
       go_wp2
       go_roundw
       case rel=>exact ⟨k+1,A5,c5,by go_num,by omega,hoL8,by rw [HTk.out,List.map_append];exact hoA8,hw8⟩
       case measure=>simp [intOf];omega
      ·obtain rfl : k = m:=by omega
       have hlen : (letAbs s (a,b,z)).length = k:=by rw [HLA.out,List.length_map,HTm.out]
       have hN:=LnG.next (B:=Ak) (d:=ck) hG4 hgs Hx.out (by rw [hlen];exact hoL) (by
        have h1:=hoA.rd (by decide)
        rw [List.take_of_length_le (by rw [HTm.out];exact Nat.le_refl _)] at h1
        rw [HLA.out];exact h1) (fun q hq=>by have:=(hoA.lt q hq).1;omega)
       rw [hlen] at hN
       have hbwr:=hbw4.grown hgs hbw4.size (fun j hj=>by injection hj with hj;omega)
       clear hoL hoA hlen
       go_wp2
       go_roundw
       case rel=>exact ⟨i+1,_,by go_num,by omega,hN,hbwr⟩
       case measure=>simp [intOf];omega
    ·obtain rfl : i = N:=by omega
     have hin1 : ¬ (i : Int) < (n : Int)+1:=by have:=HeN.out;omega
     have hM:=hG.end_ (by rw [Hln.out];exact Nat.le_refl _)
     go_wp2
     go_ret
     exact ⟨some ⟨gl,0,none⟩,⟨c3,by rw [Hln.out];rfl⟩,hM,hbw⟩
end
end Go.Proofs.YtlfpdpbbkjnapaaGreatDoor
