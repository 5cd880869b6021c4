/- -/
import Derived.OwnWalk
import Derived.Deep.CutRange
import Derived.Test.YtglmcknlnoknoaaGreatDoorYWordWords5a
import Derived.Test.YtglmcknlnoknoaaGreatDoorYWordWords2a
import Derived.Test.YtglmcknlnoknoaaGreatDoorYWordWords0a
namespace Go.Proofs.YtglmcknlnoknoaaGreatDoor
set_option maxRecDepth 100000
set_option maxHeartbeats 40000000
section
open Go.RowKit
def encB (x : Bool) : List Value:=[.bool x]
theorem infoBool : (Tryz.prog.info? 4).map (fun i=>(i.zero,i.size,i.bytes)) = some (some (.bool false),1,1):=by kernel_rfl
theorem made_no (n : Nat) : (madeCells (Value.bool false).cells (n*1)).toList = ((List.replicate n false).map encB).flatten:=by
 rw [Nat.mul_one]
 unfold madeCells
 rw [Array.toList_map,Array.toList_range]
 induction n with
 | zero=>rfl
 | succ n ih =>
  rw [List.range_succ,List.map_append,ih,List.replicate_succ',List.map_append,List.flatten_append]
  congr 1
  simp [encB,Value.cells,Nat.mod_one]
theorem Rd.atB {w : World} {A : Option Addr} {l : List Bool} {k : Nat} {x : Bool} (h : Rd w 1 A (l.map encB)) (hk : l[k]? = some x) : ∃ b off,A = some ⟨b,off,none⟩∧w.cell? ⟨b,off+k,none⟩ = some (.bool x):=by
 obtain ⟨b,off,rfl,hc⟩:=h (by intro e;cases l with | nil=>simp at hk | cons _ _=>simp at e)
 have h0:=hc k 0 (encB x) (.bool x) (by simp [hk]) rfl
 exact ⟨b,off,rfl,by simpa using h0⟩
theorem Rd.atRn3 {w : World} {A : Option Addr} {l : List (Nat × Nat × Nat)} {k : Nat} {x : Nat × Nat × Nat} (h : Rd w 3 A (l.map encRn)) (hk : l[k]? = some x) :
  ∃ b off,A = some ⟨b,off,none⟩∧w.cell? ⟨b,off+k*3,none⟩ = some (.int .i32 (x.1 : Nat))∧w.cell? ⟨b,off+k*3+1,none⟩ = some (.int .i64 (x.2.1 : Nat))∧w.cell? ⟨b,off+k*3+2,none⟩ = some (.int .i64 (x.2.2 : Nat)):=by
 obtain ⟨b,off,rfl,hc⟩:=h (by intro e;cases l with | nil=>simp at hk | cons _ _=>simp at e)
 have h0:=hc k 0 (encRn x) (.int .i32 (x.1 : Nat)) (by simp [hk]) rfl
 have h1:=hc k 1 (encRn x) (.int .i64 (x.2.1 : Nat)) (by simp [hk]) rfl
 have h2:=hc k 2 (encRn x) (.int .i64 (x.2.2 : Nat)) (by simp [hk]) rfl
 exact ⟨b,off,rfl,by simpa using h0,h1,h2⟩
theorem wlen20 : wordD.names.length≤1000000:=by decide
theorem kinR_any (base p x : Nat) (A : Option Addr) (c : Nat) (H : List Bool) (n : List UInt8) (k : Nat) (q : Bool) (w : World) (h : RfB w base p x wordD.names wordD.full) (hA : Rd w 1 A (H.map encB)) (hn : wordD.names.idxOf? n = some k) (hk : k < 20) (hq : H[k]? = some q) :
  Calls Tryz.prog 189 #[.pointer (some ⟨p,0,none⟩),.slice A 20 c,.string (bytesOf n)] w fun e w'=>e = .returned (.bool q)∧w = w':=by
 have HC:=Lib.hid (vClass_any base p x wordD.names wordD.full n w h wlen20)
 rw [hn] at HC
 obtain ⟨b,off,rfl,hc⟩:=hA.atB hq
 clear hn h hA hq
 go_enter Tryz.func189,Tryz.ntmps189
 go_wp2_with fail
 refine HC.out.mono ?_
 rintro e w2 ⟨rfl,rfl⟩
 go_wp2
 go_ret
 exact ⟨rfl,rfl⟩
def hasK (X : List (Nat × Nat × Nat)) (i : Nat) : List Bool:=(List.range 20).map fun k=>(X.take i).any fun x=>decide (gW (x.1 : Nat) = k)
theorem hasK_len (X : List (Nat × Nat × Nat)) (i : Nat) : (hasK X i).length = 20:=by simp [hasK]
theorem hasK_zero (X : List (Nat × Nat × Nat)) : hasK X 0 = List.replicate 20 false:=by
 unfold hasK
 rw [List.take_zero]
 rfl
theorem hasK_at (X : List (Nat × Nat × Nat)) (i : Nat) {k : Nat} (hk : k < 20) : (hasK X i)[k]? = some ((X.take i).any fun x=>decide (gW (x.1 : Nat) = k)):=by
 unfold hasK
 rw [List.getElem?_map,List.getElem?_range hk];rfl
theorem hasK_next {X : List (Nat × Nat × Nat)} {i : Nat} {x : Nat × Nat × Nat} (hx : X[i]? = some x) : (hasK X i).set (gW (x.1 : Nat)) true = hasK X (i+1):=by
 refine List.ext_getElem? fun k=>?_
 rw [List.getElem?_set,hasK_len]
 by_cases hk : k < 20
 ·rw [hasK_at X (i+1) hk,List.take_add_one,hx,Option.toList_some,List.any_append,hasK_at X i hk]
  by_cases e : gW (x.1 : Nat) = k
  ·rw [if_pos e,if_pos (by omega)];simp [e]
  ·rw [if_neg e];simp [e]
 ·rw [List.getElem?_eq_none (by rw [hasK_len];omega),List.getElem?_eq_none (by rw [hasK_len];omega)]
  have:=gW_lt (x.1 : Nat)
  rw [if_neg (by omega)]
def plainK (X : List (Nat × Nat × Nat)) (i : Nat) : Bool:=(X.take i).all fun x=>!kindS (gW (x.1 : Nat) : Nat)
theorem plainK_next {X : List (Nat × Nat × Nat)} {i : Nat} {x : Nat × Nat × Nat} (hx : X[i]? = some x) : plainK X (i+1) = (plainK X i && !kindS (gW (x.1 : Nat) : Nat)):=by
 unfold plainK
 rw [List.take_add_one,hx,Option.toList_some,List.all_append];simp
def kindR (h10 h9 h8 h16 h3 h1 h2 h18 pl : Bool) : Int:=if h10 || h9 || h8 then 4 else if h16 then 3 else if h3 || h1 || h2 then 2 else if h18 && pl then 1 else 0
theorem any_cls (s : ByteArray) (p : Int→Bool) : (wCls gW s).any p = (runesP s).any fun x=>p (gW (x.1 : Nat) : Nat):=by
 unfold wCls
 rw [List.any_map];rfl
theorem any_or3 {α : Type} (l : List α) (f g h : α→Bool) : l.any (fun x=>f x || g x || h x) = (l.any f || l.any g || l.any h):=by
 induction l with
 | nil=>rfl
 | cons a r ih=>simp only [List.any_cons,ih];cases f a <;> cases g a <;> cases h a <;> simp
theorem kind_same (s : ByteArray) (m : Nat) (hm : (runesP s).length≤m) :
  kindC (wCls gW s) = kindR (((runesP s).take m).any fun x=>decide (gW (x.1 : Nat) = 10)) (((runesP s).take m).any fun x=>decide (gW (x.1 : Nat) = 9)) (((runesP s).take m).any fun x=>decide (gW (x.1 : Nat) = 8)) (((runesP s).take m).any fun x=>decide (gW (x.1 : Nat) = 16))
   (((runesP s).take m).any fun x=>decide (gW (x.1 : Nat) = 3)) (((runesP s).take m).any fun x=>decide (gW (x.1 : Nat) = 1)) (((runesP s).take m).any fun x=>decide (gW (x.1 : Nat) = 2)) (((runesP s).take m).any fun x=>decide (gW (x.1 : Nat) = 18)) (plainK (runesP s) m):=by
 unfold plainK
 rw [List.take_of_length_le hm]
 unfold kindC kindR
 rw [any_cls,any_cls,any_cls,any_cls,any_cls,← any_or3,← any_or3]
 have e1 : (fun x : Nat × Nat × Nat=>kindL (gW (x.1 : Nat) : Nat)) = fun x=>decide (gW (x.1 : Nat) = 10) || decide (gW (x.1 : Nat) = 9) || decide (gW (x.1 : Nat) = 8):=funext fun x=>by
  generalize gW (x.1 : Nat) = g
  rw [Bool.eq_iff_iff]
  simp [kindL,wLet,or_assoc]
  omega
 have e2 : (fun x : Nat × Nat × Nat=>(16 : Int) == ((gW (x.1 : Nat) : Nat) : Int)) = fun x=>decide (gW (x.1 : Nat) = 16):=funext fun x=>by
  generalize gW (x.1 : Nat) = g
  rw [Bool.eq_iff_iff]
  simp
  omega
 have e3 : (fun x : Nat × Nat × Nat=>wEnd (gW (x.1 : Nat) : Nat)) = fun x=>decide (gW (x.1 : Nat) = 3) || decide (gW (x.1 : Nat) = 1) || decide (gW (x.1 : Nat) = 2):=funext fun x=>by
  generalize gW (x.1 : Nat) = g
  rw [Bool.eq_iff_iff]
  simp [wEnd,or_assoc]
  omega
 have e4 : (fun x : Nat × Nat × Nat=>(18 : Int) == ((gW (x.1 : Nat) : Nat) : Int)) = fun x=>decide (gW (x.1 : Nat) = 18):=funext fun x=>by
  generalize gW (x.1 : Nat) = g
  rw [Bool.eq_iff_iff]
  simp
  omega
 rw [e1,e2,e3,e4]
 have e5 : (!(runesP s).any fun x=>kindS (gW (x.1 : Nat) : Nat)) = (runesP s).all fun x=>!kindS (gW (x.1 : Nat) : Nat):=by
  rw [List.not_any_eq_all_not]
 rw [e5]
theorem plain_is (r : Int) : ((bytesOf (nmW r)).toList == [83,112,97,99,101]) = decide (gW r = 18)∧((bytesOf (nmW r)).toList == [69,120,116,101,110,100]) = decide (gW r = 4)∧((bytesOf (nmW r)).toList == [70,111,114,109,97,116]) = decide (gW r = 6)∧((bytesOf (nmW r)).toList == [90,119,106]) = decide (gW r = 5):=by
 have hlt : gW r < wordD.names.length:=by rw [wnames_len];exact gW_lt _
 rw [ByteArray.toList_eq,bytesOf_list]
 have : ∀ k : Nat,k < 20→∀ nm ∈ wordD.names[k]?,(nm == [83,112,97,99,101]) = decide (k = 18)∧(nm == [69,120,116,101,110,100]) = decide (k = 4)∧(nm == [70,111,114,109,97,116]) = decide (k = 6)∧(nm == [90,119,106]) = decide (k = 5):=by decide
 refine this (gW r) (gW_lt r) _ ?_
 unfold nmW
 rw [List.getElem?_eq_getElem hlt];rfl
theorem plain_kind (g : Nat) : (!kindS (g : Nat)) = (decide (g = 18) || decide (g = 4) || decide (g = 6) || decide (g = 5)):=by
 rw [Bool.eq_iff_iff]
 simp [kindS,wHang,or_assoc]
 omega
theorem kKindR_any (s : ByteArray) (w : World) (hs : s.size≤1000000) : Calls Tryz.prog 147 #[.string s] w fun e w'=>e = .returned (.int .i64 (kindC (wCls gW s)))∧Below w.heap.size w w':=by
 obtain ⟨j0,hj0,hy0,hy1,hy2⟩:=info_parts infoBool
 have H1:=Lib.hid (kDbR_any w)
 have H2:=Lib.hid (fun W=>sRunes_any s W hs)
 obtain ⟨X,HX⟩ : ∃ L,Hid (runesP s = L):=⟨_,Lib.hid rfl⟩
 have hXz : X.length≤1000000:=by rw [← HX.out];exact Nat.le_trans (runesP_len s) hs
 have HV:=Lib.hid (fun m h=>kind_same s m h)
 rw [HX.out] at HV
 go_enter Tryz.func147,Tryz.ntmps147
 go_wp2_with fail
 refine H1.out.mono ?_
 rintro e w1 ⟨p,x,rfl,hd,hb1⟩
 have HD1:=Lib.hid hd
 obtain ⟨An,nn,cn,As,ns,cs,xs,hX⟩:=hd.ex
 have hnn : wordD.names.length = nn:=hX.lenN
 rw [wnames_len] at hnn
 subst hnn
 obtain ⟨gn,rfl,_,_⟩:=hX.hn.form (by omega)
 have c0:=hX.blk.cell 0
 simp only [zG,zH] at c0
 have HXn:=Lib.hid hX.hn
 clear H1 hd hX
 go_wp2_with (at_make;go_must (refine wpList_make_full _ rfl (.tmp 15) (.tmp 15) 225 rfl w1.heap.size 4 j0 (.bool false) 1 Tryz.underlying225 hj0 hy0 hy1 .i64 .i64 _ _ 20 rfl rfl (by omega) (by omega) (by rw [hy2];omega) (by unfold maxLen;omega) (Nat.le_refl _) ?_);intro w2 ho2 hg2)
 have HO2 : Own w2 w1.heap.size 4 1 (some ⟨w1.heap.size,0,none⟩) 20 20 ((hasK X 0).map encB):=⟨by simp [hasK_len],fun y hy=>by obtain ⟨z,_,rfl⟩:=List.mem_map.1 hy;rfl,by rw [hasK_zero,← made_no];exact ho2⟩
 have hb2:=below_new hg2
 clear ho2 hg2
 refine (H2.out w2).mono ?_
 rw [HX.out]
 rintro e w3 ⟨A,m,c,rfl,ho,hb3⟩
 have hm : X.length = m:=by have:=ho.len;simpa using this
 have Hm:=Lib.hid hm
 have hmz : m≤1000000:=by omega
 have rd:=ho.rd (by decide)
 have HO3:=HO2.below hb3
 have hb13:=below_two hb2 hb3
 have hbw3:=below_two hb1 hb13
 have hAg : ∀ a,A = some a→a.block ≠ w1.heap.size:=fun a ha e=>by
  have h1:=(ho.lt a ha).1
  have h2:=(HO2.lt _ rfl).2
  simp only at h2
  omega
 clear H2 HO2 hb2 hb3 ho hm
 go_wp2_with fail
 go_loopw [6,7,8,9] (fun u v _ _ wr=>∃ i : Nat,u = .bool (plainK X i)∧v = .int .i64 i∧i≤m∧Own wr w1.heap.size 4 1 (some ⟨w1.heap.size,0,none⟩) 20 20 ((hasK X i).map encB)∧Rd wr 3 A (X.map encRn)∧Below w1.heap.size w1 wr) (fun _ v _ _ _=>m - (intOf v).toNat)
 case atStart=>exact ⟨0,rfl,rfl,by omega,HO3,rd,hb13⟩
 case round =>
  obtain ⟨i,rfl,rfl,hi,ho,hrd,hb⟩:=hrel
  have hbw:=below_two hb1 hb
  have c0r:=cell_keep c0 hb
  by_cases hlt : i < m
  ·obtain ⟨⟨R,a,b⟩,Hx⟩ : ∃ x,Hid (X[i]? = some x):=⟨_,Lib.hid (List.getElem?_eq_getElem (by have:=Hm.out;omega))⟩
   obtain ⟨bk,off,rfl,x0,x1,x2⟩:=hrd.atRn3 Hx.out
   simp only at x0
   have HG:=Lib.hid (vGet_any w.heap.size p x wordD (R : Int) wr (HD1.out.below hb) wordOk.1 wordOk.2.1)
   have HN1:=Lib.hid (hasK_next Hx.out)
   have HP1:=Lib.hid (plainK_next Hx.out)
   simp only at HN1 HP1
   have hlt20:=gW_lt (R : Int)
   have HT:=Lib.hid (plain_is (R : Int))
   obtain ⟨nm,Hn⟩ : ∃ nm,Hid (nmW (R : Int) = nm):=⟨_,Lib.hid rfl⟩
   rw [Hn.out] at HT
   have HNc:=Lib.hid (show wordD.names[gW (R : Int)]? = some nm by
    have hl : gW (R : Int) < wordD.names.length:=by rw [wnames_len];exact gW_lt _
    rw [← Hn.out]
    unfold nmW
    rw [List.getElem?_eq_getElem hl];rfl)
   have hgk : wordD.get (R : Int) = gW (R : Int):=rfl
   rw [hgk] at HG
   generalize gW (R : Int) = k at HG HN1 HP1 hlt20 HT HNc
   have hcn:=cell_keep (HXn.out.cell (k:=k) (j:=0) (x:=encNm nm) (u:=.string (bytesOf nm)) (by simp [HNc.out]) rfl) hb
   simp only [Nat.mul_one,Nat.add_zero] at hcn
   have hst:=fun v=>ho.stored (k:=k) (j:=0) (x:=encB ((X.take i).any fun x=>decide (gW (x.1 : Nat) = k))) (by rw [List.getElem?_map,hasK_at X i hlt20];rfl) (by omega) v
   have hca:=ho.cell (k:=k) (j:=0) (x:=encB ((X.take i).any fun x=>decide (gW (x.1 : Nat) = k))) (u:=.bool ((X.take i).any fun x=>decide (gW (x.1 : Nat) = k))) (by rw [List.getElem?_map,hasK_at X i hlt20];rfl) rfl
   have hfz:=ho.frozen k
   simp only [Nat.mul_one,Nat.add_zero] at hst hca
   have HO4 : Hid (Own (wr.setCell ⟨w1.heap.size,k,none⟩ (.bool true)) w1.heap.size 4 1 (some ⟨w1.heap.size,0,none⟩) 20 20 ((hasK X (i+1)).map encB)):=Lib.hid (by
    rw [← HN1.out,List.map_set]
    exact hst _)
   have hb4 : Below w1.heap.size w1 (wr.setCell ⟨w1.heap.size,k,none⟩ (.bool true)):=hb.setCell (p:=⟨w1.heap.size,k,none⟩) (Nat.le_refl _) _
   have hrd4 : Rd (wr.setCell ⟨w1.heap.size,k,none⟩ (.bool true)) 3 (some ⟨bk,off,none⟩) (X.map encRn):=hrd.setCell (p:=⟨w1.heap.size,k,none⟩) (fun a ha=>hAg a ha) _
   have c04:=cell_keep c0 hb4
   have hcn4 : (wr.setCell ⟨w1.heap.size,k,none⟩ (.bool true)).cell? ⟨gn,k,none⟩ = some (.string (bytesOf nm)):=by
    have h0:=HXn.out.cell (k:=k) (j:=0) (x:=encNm nm) (u:=.string (bytesOf nm)) (by simp [HNc.out]) rfl
    simp only [Nat.mul_one,Nat.add_zero] at h0
    exact cell_keep h0 hb4
   have hk20 : (k : Int) < 20:=by omega
   have hkz : (0 : Int)≤(k : Int):=by omega
   obtain ⟨t1,t2,t3,t4⟩:=HT.out
   have HPk:=Lib.hid (plain_kind k)
   obtain ⟨b1,Hb1⟩ : ∃ q,Hid (decide (k = 18) = q):=⟨_,Lib.hid rfl⟩
   obtain ⟨b2,Hb2⟩ : ∃ q,Hid (decide (k = 4) = q):=⟨_,Lib.hid rfl⟩
   obtain ⟨b3,Hb3⟩ : ∃ q,Hid (decide (k = 6) = q):=⟨_,Lib.hid rfl⟩
   obtain ⟨b4,Hb4⟩ : ∃ q,Hid (decide (k = 5) = q):=⟨_,Lib.hid rfl⟩
   rw [Hb1.out,Hb2.out,Hb3.out,Hb4.out] at HPk
   rw [Hb1.out] at t1
   rw [Hb2.out] at t2
   rw [Hb3.out] at t3
   rw [Hb4.out] at t4
   rw [HPk.out] at HP1
   clear hst Hx x1 x2 HN1 hgk hcn HPk Hb1 Hb2 Hb3 Hb4 HT HNc Hn
   generalize plainK X i = pl at HP1 ⊢
   cases pl with
   | false =>
    go_wp2_with fail
    refine HG.out.mono ?_
    rintro e w9 ⟨rfl,rfl⟩
    go_wp2
    go_roundw
    case rel=>exact ⟨i+1,by rw [HP1.out];rfl,by go_num,by omega,HO4.out,hrd4,hb4⟩
    case measure=>simp [intOf];omega
   | true =>
    cases b1 with
    | true =>
     go_wp2_with fail
     refine HG.out.mono ?_
     rintro e w9 ⟨rfl,rfl⟩
     go_wp2
     go_roundw
     case rel=>exact ⟨i+1,by rw [HP1.out];rfl,by go_num,by omega,HO4.out,hrd4,hb4⟩
     case measure=>simp [intOf];omega
    | false =>
     cases b2 with
     | true =>
      go_wp2_with fail
      refine HG.out.mono ?_
      rintro e w9 ⟨rfl,rfl⟩
      go_wp2
      go_roundw
      case rel=>exact ⟨i+1,by rw [HP1.out];rfl,by go_num,by omega,HO4.out,hrd4,hb4⟩
      case measure=>simp [intOf];omega
     | false =>
      cases b3 with
      | true =>
       go_wp2_with fail
       refine HG.out.mono ?_
       rintro e w9 ⟨rfl,rfl⟩
       go_wp2
       go_roundw
       case rel=>exact ⟨i+1,by rw [HP1.out];rfl,by go_num,by omega,HO4.out,hrd4,hb4⟩
       case measure=>simp [intOf];omega
      | false =>
       cases b4 with
       | true =>
        go_wp2_with fail
        refine HG.out.mono ?_
        rintro e w9 ⟨rfl,rfl⟩
        go_wp2
        go_roundw
        case rel=>exact ⟨i+1,by rw [HP1.out];rfl,by go_num,by omega,HO4.out,hrd4,hb4⟩
        case measure=>simp [intOf];omega
       | false =>
        go_wp2_with fail
        refine HG.out.mono ?_
        rintro e w9 ⟨rfl,rfl⟩
        go_wp2
        go_roundw
        case rel=>exact ⟨i+1,by rw [HP1.out];rfl,by go_num,by omega,HO4.out,hrd4,hb4⟩
        case measure=>simp [intOf];omega
  ·obtain rfl : i = m:=by omega
   have HVal:=Lib.hid (HV.out i (by have:=Hm.out;omega))
   have HDr:=Lib.hid (HD1.out.below hb)
   have hrb:=ho.rd (by decide)
   have I10 : Hid (Calls Tryz.prog 189 #[.pointer (some ⟨p,0,none⟩),.slice (some ⟨w1.heap.size,0,none⟩) 20 20,.string ⟨#[76,101,116,116,101,114]⟩] wr fun e w'=>e = .returned (.bool ((X.take i).any fun x=>decide (gW (x.1 : Nat) = 10)))∧wr = w'):=Lib.hid (kinR_any w.heap.size p x (some ⟨w1.heap.size,0,none⟩) 20 (hasK X i) [76,101,116,116,101,114] 10 _ wr HDr.out hrb (by decide) (by omega) (hasK_at X i (by omega)))
   have I9 : Hid (Calls Tryz.prog 189 #[.pointer (some ⟨p,0,none⟩),.slice (some ⟨w1.heap.size,0,none⟩) 20 20,.string ⟨#[72,101,98,114,101,119]⟩] wr fun e w'=>e = .returned (.bool ((X.take i).any fun x=>decide (gW (x.1 : Nat) = 9)))∧wr = w'):=Lib.hid (kinR_any w.heap.size p x (some ⟨w1.heap.size,0,none⟩) 20 (hasK X i) [72,101,98,114,101,119] 9 _ wr HDr.out hrb (by decide) (by omega) (hasK_at X i (by omega)))
   have I8 : Hid (Calls Tryz.prog 189 #[.pointer (some ⟨p,0,none⟩),.slice (some ⟨w1.heap.size,0,none⟩) 20 20,.string ⟨#[75,97,116,97,107,97,110,97]⟩] wr fun e w'=>e = .returned (.bool ((X.take i).any fun x=>decide (gW (x.1 : Nat) = 8)))∧wr = w'):=Lib.hid (kinR_any w.heap.size p x (some ⟨w1.heap.size,0,none⟩) 20 (hasK X i) [75,97,116,97,107,97,110,97] 8 _ wr HDr.out hrb (by decide) (by omega) (hasK_at X i (by omega)))
   have I16 : Hid (Calls Tryz.prog 189 #[.pointer (some ⟨p,0,none⟩),.slice (some ⟨w1.heap.size,0,none⟩) 20 20,.string ⟨#[68,105,103,105,116]⟩] wr fun e w'=>e = .returned (.bool ((X.take i).any fun x=>decide (gW (x.1 : Nat) = 16)))∧wr = w'):=Lib.hid (kinR_any w.heap.size p x (some ⟨w1.heap.size,0,none⟩) 20 (hasK X i) [68,105,103,105,116] 16 _ wr HDr.out hrb (by decide) (by omega) (hasK_at X i (by omega)))
   have I3 : Hid (Calls Tryz.prog 189 #[.pointer (some ⟨p,0,none⟩),.slice (some ⟨w1.heap.size,0,none⟩) 20 20,.string ⟨#[78,101,119,108,105,110,101]⟩] wr fun e w'=>e = .returned (.bool ((X.take i).any fun x=>decide (gW (x.1 : Nat) = 3)))∧wr = w'):=Lib.hid (kinR_any w.heap.size p x (some ⟨w1.heap.size,0,none⟩) 20 (hasK X i) [78,101,119,108,105,110,101] 3 _ wr HDr.out hrb (by decide) (by omega) (hasK_at X i (by omega)))
   have I1 : Hid (Calls Tryz.prog 189 #[.pointer (some ⟨p,0,none⟩),.slice (some ⟨w1.heap.size,0,none⟩) 20 20,.string ⟨#[67,114]⟩] wr fun e w'=>e = .returned (.bool ((X.take i).any fun x=>decide (gW (x.1 : Nat) = 1)))∧wr = w'):=Lib.hid (kinR_any w.heap.size p x (some ⟨w1.heap.size,0,none⟩) 20 (hasK X i) [67,114] 1 _ wr HDr.out hrb (by decide) (by omega) (hasK_at X i (by omega)))
   have I2 : Hid (Calls Tryz.prog 189 #[.pointer (some ⟨p,0,none⟩),.slice (some ⟨w1.heap.size,0,none⟩) 20 20,.string ⟨#[76,102]⟩] wr fun e w'=>e = .returned (.bool ((X.take i).any fun x=>decide (gW (x.1 : Nat) = 2)))∧wr = w'):=Lib.hid (kinR_any w.heap.size p x (some ⟨w1.heap.size,0,none⟩) 20 (hasK X i) [76,102] 2 _ wr HDr.out hrb (by decide) (by omega) (hasK_at X i (by omega)))
   have I18 : Hid (Calls Tryz.prog 189 #[.pointer (some ⟨p,0,none⟩),.slice (some ⟨w1.heap.size,0,none⟩) 20 20,.string ⟨#[83,112,97,99,101]⟩] wr fun e w'=>e = .returned (.bool ((X.take i).any fun x=>decide (gW (x.1 : Nat) = 18)))∧wr = w'):=Lib.hid (kinR_any w.heap.size p x (some ⟨w1.heap.size,0,none⟩) 20 (hasK X i) [83,112,97,99,101] 18 _ wr HDr.out hrb (by decide) (by omega) (hasK_at X i (by omega)))
   generalize (X.take i).any (fun x=>decide (gW (x.1 : Nat) = 10)) = h10 at HVal I10
   generalize (X.take i).any (fun x=>decide (gW (x.1 : Nat) = 9)) = h9 at HVal I9
   generalize (X.take i).any (fun x=>decide (gW (x.1 : Nat) = 8)) = h8 at HVal I8
   generalize (X.take i).any (fun x=>decide (gW (x.1 : Nat) = 16)) = h16 at HVal I16
   generalize (X.take i).any (fun x=>decide (gW (x.1 : Nat) = 3)) = h3 at HVal I3
   generalize (X.take i).any (fun x=>decide (gW (x.1 : Nat) = 1)) = h1 at HVal I1
   generalize (X.take i).any (fun x=>decide (gW (x.1 : Nat) = 2)) = h2 at HVal I2
   generalize (X.take i).any (fun x=>decide (gW (x.1 : Nat) = 18)) = h18 at HVal I18
   generalize plainK X i = pl at HVal ⊢
   clear hrb HDr ho hrd c0r
   go_upto_region 12 with fail
   go_cut [59] from 60 to 72 (fun v wx=>v = .bool (h10 || h9 || h8)∧wr = wx)
   case first =>
    go_wp2_with fail
    refine I10.out.mono ?_
    rintro e w9 ⟨rfl,rfl⟩
    cases h10 with
    | true =>
     go_wp2_with fail
     go_meet
     exact ⟨rfl,rfl⟩
    | false =>
     go_wp2_with fail
     refine I9.out.mono ?_
     rintro e w9 ⟨rfl,rfl⟩
     cases h9 with
     | true =>
      go_wp2_with fail
      go_meet
      exact ⟨rfl,rfl⟩
     | false =>
      go_wp2_with fail
      refine I8.out.mono ?_
      rintro e w9 ⟨rfl,rfl⟩
      go_wp2_with fail
      go_meet
      exact ⟨by first | rfl | simp,rfl⟩
   case rest =>
    obtain ⟨rfl,rfl⟩:=hcut
    obtain ⟨q12,Hq12⟩ : ∃ q,Hid ((h10 || h9 || h8) = q):=⟨_,Lib.hid rfl⟩
    rw [Hq12.out]
    cases q12 with
    | true =>
     go_wp2
     go_ret
     exact ⟨by rw [HVal.out];unfold kindR;rw [Hq12.out];rfl,hbw⟩
    | false =>
     go_upto_region 14 with fail
     go_cut [73] from 74 to 76 (fun v wx=>v = .bool (h16)∧wr = wx)
     case first =>
      go_wp2_with fail
      refine I16.out.mono ?_
      rintro e w9 ⟨rfl,rfl⟩
      go_wp2_with fail
      go_meet
      exact ⟨by first | rfl | simp,rfl⟩
     case rest =>
      obtain ⟨rfl,rfl⟩:=hcut
      obtain ⟨q14,Hq14⟩ : ∃ q,Hid ((h16) = q):=⟨_,Lib.hid rfl⟩
      rw [Hq14.out]
      cases q14 with
      | true =>
       go_wp2
       go_ret
       exact ⟨by rw [HVal.out];unfold kindR;rw [Hq12.out,Hq14.out];rfl,hbw⟩
      | false =>
       go_upto_region 16 with fail
       go_cut [77] from 78 to 90 (fun v wx=>v = .bool (h3 || h1 || h2)∧wr = wx)
       case first =>
        go_wp2_with fail
        refine I3.out.mono ?_
        rintro e w9 ⟨rfl,rfl⟩
        cases h3 with
        | true =>
         go_wp2_with fail
         go_meet
         exact ⟨rfl,rfl⟩
        | false =>
         go_wp2_with fail
         refine I1.out.mono ?_
         rintro e w9 ⟨rfl,rfl⟩
         cases h1 with
         | true =>
          go_wp2_with fail
          go_meet
          exact ⟨rfl,rfl⟩
         | false =>
          go_wp2_with fail
          refine I2.out.mono ?_
          rintro e w9 ⟨rfl,rfl⟩
          go_wp2_with fail
          go_meet
          exact ⟨by first | rfl | simp,rfl⟩
       case rest =>
        obtain ⟨rfl,rfl⟩:=hcut
        obtain ⟨q16,Hq16⟩ : ∃ q,Hid ((h3 || h1 || h2) = q):=⟨_,Lib.hid rfl⟩
        rw [Hq16.out]
        cases q16 with
        | true =>
         go_wp2
         go_ret
         exact ⟨by rw [HVal.out];unfold kindR;rw [Hq12.out,Hq14.out,Hq16.out];rfl,hbw⟩
        | false =>
         go_wp2_with fail
         refine I18.out.mono ?_
         rintro e w9 ⟨rfl,rfl⟩
         cases h18 with
         | true =>
          cases pl with
          | true =>
           go_wp2
           go_ret
           exact ⟨by rw [HVal.out];unfold kindR;rw [Hq12.out,Hq14.out,Hq16.out];rfl,hbw⟩
          | false =>
           go_wp2
           go_ret
           exact ⟨by rw [HVal.out];unfold kindR;rw [Hq12.out,Hq14.out,Hq16.out];rfl,hbw⟩
         | false =>
          go_wp2
          go_ret
          exact ⟨by rw [HVal.out];unfold kindR;rw [Hq12.out,Hq14.out,Hq16.out];rfl,hbw⟩
end
end Go.Proofs.YtglmcknlnoknoaaGreatDoor
