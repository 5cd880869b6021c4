/- -/
import Derived.Test.YtlfpdpbbkjnapaaGreatDoorYPlacesTells1a
import Derived.Test.YtlfpdpbbkjnapaaGreatDoorYPlacesTells0a
import Derived.Test.YtlfpdpbbkjnapaaGreatDoorPRdr
namespace Go.Proofs.YtlfpdpbbkjnapaaGreatDoor
set_option maxRecDepth 100000
set_option maxHeartbeats 40000000
section
open Go.RowKit
theorem jletter_any (c : Nat) (w : World) : Calls Tryz.prog 208 #[.int .u8 (c : Nat)] w fun e w'=>e = .returned (.bool ((decide (65≤c) && decide (c≤90)) || (decide (97≤c) && decide (c≤122))))∧w = w':=by
 have e1 : decide ((65 : Int)≤(c : Int)) = decide (65≤c):=decide_eq_decide.2 (by omega)
 have e2 : decide ((c : Int)≤90) = decide (c≤90):=decide_eq_decide.2 (by omega)
 have e3 : decide ((97 : Int)≤(c : Int)) = decide (97≤c):=decide_eq_decide.2 (by omega)
 have e4 : decide ((c : Int)≤122) = decide (c≤122):=decide_eq_decide.2 (by omega)
 generalize decide (65≤c) = b1 at e1 ⊢
 generalize decide (c≤90) = b2 at e2 ⊢
 generalize decide (97≤c) = b3 at e3 ⊢
 generalize decide (c≤122) = b4 at e4 ⊢
 cases b1
 ·cases b3
  ·go_enter Tryz.func208,Tryz.ntmps208
   go_wp2
   go_ret
   exact ⟨rfl,rfl⟩
  ·go_enter Tryz.func208,Tryz.ntmps208
   go_wp2
   go_ret
   exact ⟨rfl,rfl⟩
 ·cases b2
  ·cases b3
   ·go_enter Tryz.func208,Tryz.ntmps208
    go_wp2
    go_ret
    exact ⟨rfl,rfl⟩
   ·go_enter Tryz.func208,Tryz.ntmps208
    go_wp2
    go_ret
    exact ⟨rfl,rfl⟩
  ·go_enter Tryz.func208,Tryz.ntmps208
   go_wp2
   go_ret
   exact ⟨rfl,rfl⟩
theorem jletter_b (c : UInt8) (w : World) : Calls Tryz.prog 208 #[.int .u8 (c.toNat : Nat)] w fun e w'=>e = .returned (.bool (pLetter c))∧w = w':=jletter_any c.toNat w
theorem jpart_b (c : UInt8) (w : World) : Calls Tryz.prog 207 #[.int .u8 (c.toNat : Nat)] w fun e w'=>e = .returned (.bool (pPart c))∧w = w':=by
 have HL:=Lib.hid (jletter_b c w)
 have HV : Hid (pPart c = (pLetter c || (decide (48≤c.toNat) && decide (c.toNat≤57)) || decide (c.toNat = 95))):=Lib.hid rfl
 have e1 : decide ((48 : Int)≤(c.toNat : Int)) = decide (48≤c.toNat):=decide_eq_decide.2 (by omega)
 have e2 : decide ((c.toNat : Int)≤57) = decide (c.toNat≤57):=decide_eq_decide.2 (by omega)
 have e3 : ((c.toNat : Int) == 95) = decide (c.toNat = 95):=by rw [Bool.eq_iff_iff,beq_iff_eq,decide_eq_true_iff];omega
 generalize pLetter c = b0 at HL HV
 generalize decide (48≤c.toNat) = b1 at e1 HV
 generalize decide (c.toNat≤57) = b2 at e2 HV
 generalize decide (c.toNat = 95) = b3 at e3 HV
 cases b0
 ·cases b1
  ·go_enter Tryz.func207,Tryz.ntmps207
   go_wp2_with (go_at_call 208;refine HL.out.mono ?_;rintro e w2 ⟨rfl,rfl⟩)
   go_ret
   exact ⟨by rw [HV.out];rfl,rfl⟩
  ·cases b2
   ·go_enter Tryz.func207,Tryz.ntmps207
    go_wp2_with (go_at_call 208;refine HL.out.mono ?_;rintro e w2 ⟨rfl,rfl⟩)
    go_ret
    exact ⟨by rw [HV.out];rfl,rfl⟩
   ·go_enter Tryz.func207,Tryz.ntmps207
    go_wp2_with (go_at_call 208;refine HL.out.mono ?_;rintro e w2 ⟨rfl,rfl⟩)
    go_ret
    exact ⟨by rw [HV.out];rfl,rfl⟩
 ·go_enter Tryz.func207,Tryz.ntmps207
  go_wp2_with (go_at_call 208;refine HL.out.mono ?_;rintro e w2 ⟨rfl,rfl⟩)
  go_ret
  exact ⟨by rw [HV.out];rfl,rfl⟩
theorem jbegins_b (c : UInt8) (w : World) : Calls Tryz.prog 280 #[.int .u8 (c.toNat : Nat)] w fun e w'=>e = .returned (.bool (pBegins c))∧w = w':=by
 have HL:=Lib.hid (jletter_b c w)
 have HV : Hid (pBegins c = (decide (c.toNat = 40) || decide (c.toNat = 91) || decide (c.toNat = 46) || pLetter c)):=Lib.hid rfl
 have e1 : ((c.toNat : Int) == 40) = decide (c.toNat = 40):=by rw [Bool.eq_iff_iff,beq_iff_eq,decide_eq_true_iff];omega
 have e2 : ((c.toNat : Int) == 91) = decide (c.toNat = 91):=by rw [Bool.eq_iff_iff,beq_iff_eq,decide_eq_true_iff];omega
 have e3 : ((c.toNat : Int) == 46) = decide (c.toNat = 46):=by rw [Bool.eq_iff_iff,beq_iff_eq,decide_eq_true_iff];omega
 generalize pLetter c = b0 at HL HV
 generalize decide (c.toNat = 40) = b1 at e1 HV
 generalize decide (c.toNat = 91) = b2 at e2 HV
 generalize decide (c.toNat = 46) = b3 at e3 HV
 cases b1
 ·cases b2
  ·cases b3
   ·go_enter Tryz.func280,Tryz.ntmps280
    go_wp2_with (go_at_call 208;refine HL.out.mono ?_;rintro e w2 ⟨rfl,rfl⟩)
    go_ret
    exact ⟨by rw [HV.out];rfl,rfl⟩
   ·go_enter Tryz.func280,Tryz.ntmps280
    go_wp2
    go_ret
    exact ⟨by rw [HV.out];rfl,rfl⟩
  ·go_enter Tryz.func280,Tryz.ntmps280
   go_wp2
   go_ret
   exact ⟨by rw [HV.out];rfl,rfl⟩
 ·go_enter Tryz.func280,Tryz.ntmps280
  go_wp2
  go_ret
  exact ⟨by rw [HV.out];rfl,rfl⟩
theorem joper_b (c : UInt8) (w : World) : Calls Tryz.prog 282 #[.int .u8 (c.toNat : Nat)] w fun e w'=>e = .returned (.int .i64 (pOper c : Nat))∧w = w':=by
 by_cases h1 : c.toNat = 42
 ·have e1 : ((c.toNat : Int) == 42) = true:=by rw [h1];rfl
  have HV:=Lib.hid (show pOper c = 4 from if_pos h1)
  clear h1
  go_enter Tryz.func282,Tryz.ntmps282
  go_wp2
  go_ret
  exact ⟨by rw [HV.out];rfl,rfl⟩
 have e1 : ((c.toNat : Int) == 42) = false:=beq_eq_false_iff_ne.2 (by omega)
 by_cases h2 : c.toNat = 43
 ·have e2 : ((c.toNat : Int) == 43) = true:=by rw [h2];rfl
  have HV:=Lib.hid (show pOper c = 5 by unfold pOper;rw [if_neg h1,if_pos h2])
  clear h1 h2
  go_enter Tryz.func282,Tryz.ntmps282
  go_wp2
  go_ret
  exact ⟨by rw [HV.out];rfl,rfl⟩
 have e2 : ((c.toNat : Int) == 43) = false:=beq_eq_false_iff_ne.2 (by omega)
 by_cases h3 : c.toNat = 63
 ·have e3 : ((c.toNat : Int) == 63) = true:=by rw [h3];rfl
  have HV:=Lib.hid (show pOper c = 6 by unfold pOper;rw [if_neg h1,if_neg h2,if_pos h3])
  clear h1 h2 h3
  go_enter Tryz.func282,Tryz.ntmps282
  go_wp2
  go_ret
  exact ⟨by rw [HV.out];rfl,rfl⟩
 have e3 : ((c.toNat : Int) == 63) = false:=beq_eq_false_iff_ne.2 (by omega)
 have HV:=Lib.hid (show pOper c = 0 by unfold pOper;rw [if_neg h1,if_neg h2,if_neg h3])
 clear h1 h2 h3
 go_enter Tryz.func282,Tryz.ntmps282
 go_wp2
 go_ret
 exact ⟨by rw [HV.out];rfl,rfl⟩
structure RS (w : World) (p : Nat) (s : ByteArray) (A : Option Addr) (nn cn : Nat) (names : List (List UInt8)) (a d k : Nat) : Prop where
 blk : Blk w p 268 #[.string s,.int .i64 (a : Int),.slice A nn cn,.int .i64 (d : Int),.int .i64 (k : Int),.int .i64 0,.int .i64 0]
 nm : Rd w 1 A (names.map encNm)
 len : names.length = nn
 off : ∀ x,A = some x→x.block ≠ p∧x.block < w.heap.size
section
variable {w w' : World} {p : Nat} {s : ByteArray} {A : Option Addr} {nn cn : Nat} {names : List (List UInt8)} {a d k : Nat}
theorem RS.c0 (h : RS w p s A nn cn names a d k) : w.cell? ⟨p,0,none⟩ = some (.string s):=h.blk.cell 0
theorem RS.c1 (h : RS w p s A nn cn names a d k) : w.cell? ⟨p,1,none⟩ = some (.int .i64 (a : Int)):=h.blk.cell 1
theorem RS.c2 (h : RS w p s A nn cn names a d k) : w.cell? ⟨p,2,none⟩ = some (.slice A nn cn):=h.blk.cell 2
theorem RS.c3 (h : RS w p s A nn cn names a d k) : w.cell? ⟨p,3,none⟩ = some (.int .i64 (d : Int)):=h.blk.cell 3
theorem RS.c4 (h : RS w p s A nn cn names a d k) : w.cell? ⟨p,4,none⟩ = some (.int .i64 (k : Int)):=h.blk.cell 4
theorem RS.c5 (h : RS w p s A nn cn names a d k) : w.cell? ⟨p,5,none⟩ = some (.int .i64 0):=h.blk.cell 5
theorem RS.f (h : RS w p s A nn cn names a d k) (i : Nat) : w.frozen? ⟨p,i,none⟩ = false:=h.blk.frozen i
theorem RS.lt (h : RS w p s A nn cn names a d k) : p < w.heap.size:=h.blk.lt
theorem RS.setCell_ (h : RS w p s A nn cn names a d k) (i : Nat) (u : Value) : Rd (w.setCell ⟨p,i,none⟩ u) 1 A (names.map encNm)∧∀ x,A = some x→x.block ≠ p∧x.block < (w.setCell ⟨p,i,none⟩ u).heap.size :=
 ⟨h.nm.setCell (p:=⟨p,i,none⟩) (fun x hx=>(h.off x hx).1) u,fun x hx=>⟨(h.off x hx).1,by simp [World.setCell];exact (h.off x hx).2⟩⟩
theorem RS.setAt (h : RS w p s A nn cn names a d k) (a' : Nat) : RS (w.setCell ⟨p,1,none⟩ (.int .i64 (a' : Int))) p s A nn cn names a' d k:=⟨by have:=h.blk.set_ 1 (.int .i64 (a' : Int));simpa using this,(h.setCell_ 1 _).1,h.len,(h.setCell_ 1 _).2⟩
theorem RS.setDepth (h : RS w p s A nn cn names a d k) (d' : Nat) : RS (w.setCell ⟨p,3,none⟩ (.int .i64 (d' : Int))) p s A nn cn names a d' k:=⟨by have:=h.blk.set_ 3 (.int .i64 (d' : Int));simpa using this,(h.setCell_ 3 _).1,h.len,(h.setCell_ 3 _).2⟩
theorem RS.setParts (h : RS w p s A nn cn names a d k) (k' : Nat) : RS (w.setCell ⟨p,4,none⟩ (.int .i64 (k' : Int))) p s A nn cn names a d k':=⟨by have:=h.blk.set_ 4 (.int .i64 (k' : Int));simpa using this,(h.setCell_ 4 _).1,h.len,(h.setCell_ 4 _).2⟩
theorem RS.drewN (h : RS w p s A nn cn names a d k) (q : Nat) : RS (w.drewN q) p s A nn cn names a d k:=⟨h.blk.drewN q,h.nm.drewN q,h.len,h.off⟩
theorem RS.drew (h : RS w p s A nn cn names a d k) : RS w.drew p s A nn cn names a d k:=⟨h.blk.drew,h.nm.drew,h.len,h.off⟩
theorem RS.below (h : RS w p s A nn cn names a d k) (hb : Below w.heap.size w w') : RS w' p s A nn cn names a d k:=⟨h.blk.below hb,h.nm.below hb,h.len,fun x hx=>⟨(h.off x hx).1,Nat.lt_of_lt_of_le (h.off x hx).2 hb.size⟩⟩
theorem RS.atOf (h : RS w p s A nn cn names a d k) : atOf w p = a:=by unfold YtlfpdpbbkjnapaaGreatDoor.atOf;rw [h.c1];simp [intOf]
end
theorem byte_at (s : ByteArray) {x : Nat} (hx : x < s.size) : ∃ b : UInt8,s.data.toList.drop x = b :: s.data.toList.drop (x+1)∧∀ W,(Instr.index 9 (.string s) (.int .i64 (x : Nat))).run Tryz.prog W = .ok (.int .u8 (b.toNat : Int)) W:=by
 refine ⟨s[x]'hx,?_,fun W=>index_at s x x rfl hx W⟩
 rw [List.drop_eq_getElem_cons (by rw [size_data];exact hx)];rfl
theorem drop_end (s : ByteArray) {x : Nat} (hx : ¬ x < s.size) : s.data.toList.drop x = []:=List.drop_of_length_le (by rw [size_data];omega)
theorem skip_blank {b : UInt8} {l : List UInt8} (h : pBlank b = true) : skipB (b :: l) = skipB l:=by unfold skipB;rw [List.dropWhile_cons,if_pos h]
theorem skip_stop {b : UInt8} {l : List UInt8} (h : pBlank b = false) : skipB (b :: l) = b :: l:=by unfold skipB;rw [List.dropWhile_cons,if_neg (by rw [h];simp)]
theorem jblanks_any (p : Nat) (s : ByteArray) (A : Option Addr) (nn cn : Nat) (names : List (List UInt8)) (a d k : Nat) (w : World) (h : RS w p s A nn cn names a d k) (ha : a≤s.size) (hs : s.size≤1000000) :
  Calls Tryz.prog 283 #[.pointer (some ⟨p,0,none⟩)] w fun e w'=>e = .returned (.tuple #[])∧∃ x,RS w' p s A nn cn names x d k∧s.data.toList.drop x = skipB (s.data.toList.drop a)∧x≤s.size∧w.grownBy w' (some p):=by
 go_enter Tryz.func283,Tryz.ntmps283
 go_wp2
 go_loopw [2] (fun _ wr=>∃ x : Nat,RS wr p s A nn cn names x d k∧Hid (skipB (s.data.toList.drop x) = skipB (s.data.toList.drop a))∧x≤s.size∧w.grownBy wr (some p)) (fun _ wr=>s.size - atOf wr p)
 case atStart=>exact ⟨a,h,Lib.hid rfl,ha,only_refl _ _⟩
 case round =>
  clear h
  obtain ⟨x,hr,HS,hx,hg⟩:=hrel
  have c0:=hr.c0
  have c1:=hr.c1
  have f1:=hr.f 1
  have Hat:=Lib.hid hr.atOf
  by_cases hlt : x < s.size
  ·obtain ⟨b,hd,hidx⟩:=byte_at s hlt
   have e1 : ((b.toNat : Int) == 32) = decide (b.toNat = 32):=by rw [Bool.eq_iff_iff,beq_iff_eq,decide_eq_true_iff];omega
   have e2 : ((b.toNat : Int) == 9) = decide (b.toNat = 9):=by rw [Bool.eq_iff_iff,beq_iff_eq,decide_eq_true_iff];omega
   have HB : Hid (pBlank b = (decide (b.toNat = 32) || decide (b.toNat = 9))):=Lib.hid rfl
   have HD:=Lib.hid hd
   clear hd
   generalize decide (b.toNat = 32) = t1 at e1 HB
   generalize decide (b.toNat = 9) = t2 at e2 HB
   cases t1
   ·cases t2
    ·have HE:=Lib.hid (show s.data.toList.drop x = skipB (s.data.toList.drop a) by rw [← HS.out,HD.out,skip_stop (by rw [HB.out];rfl)])
     go_wp2_with fail
     go_quiet (fail)
     go_wp2
     go_end0
     exact ⟨rfl,x,hr.drewN _,HE.out,hx,only_drewN hg _⟩
    ·have HS2:=Lib.hid (show skipB (s.data.toList.drop (x+1)) = skipB (s.data.toList.drop a) by rw [← HS.out,HD.out,skip_blank (by rw [HB.out];rfl)])
     go_wp2_with fail
     go_quiet (fail)
     go_wp2
     have hr2:=(hr.drewN nq).setAt (x+1)
     have ez : ((x+1 : Nat) : Int) = (x : Int)+1:=by omega
     rw [ez] at hr2
     refine ⟨⟨x+1,hr2,HS2,by omega,only_setCell (only_drewN hg _) (.inl rfl) _⟩,?_⟩
     rw [hr2.atOf,Hat.out];omega
   ·have HS2:=Lib.hid (show skipB (s.data.toList.drop (x+1)) = skipB (s.data.toList.drop a) by rw [← HS.out,HD.out,skip_blank (by rw [HB.out];rfl)])
    go_wp2_with fail
    go_quiet (fail)
    go_wp2
    have hr2:=(hr.drewN nq).setAt (x+1)
    have ez : ((x+1 : Nat) : Int) = (x : Int)+1:=by omega
    rw [ez] at hr2
    refine ⟨⟨x+1,hr2,HS2,by omega,only_setCell (only_drewN hg _) (.inl rfl) _⟩,?_⟩
    rw [hr2.atOf,Hat.out];omega
  ·have HE:=Lib.hid (show s.data.toList.drop x = skipB (s.data.toList.drop a) by rw [← HS.out,drop_end s hlt];rfl)
   go_wp2_with fail
   go_quiet (fail)
   go_wp2
   go_end0
   exact ⟨rfl,x,hr.drewN _,HE.out,hx,only_drewN hg _⟩
def headN (l : List UInt8) : Nat:=match l with | []=>0 | b :: _=>b.toNat
theorem jblanks_h {w : World} {p : Nat} {s : ByteArray} {A : Option Addr} {nn cn : Nat} {names : List (List UInt8)} {a d k : Nat} (h : RS w p s A nn cn names a d k) (ha : a≤s.size) (hs : s.size≤1000000) :
  Hid (Calls Tryz.prog 283 #[.pointer (some ⟨p,0,none⟩)] w fun e w'=>e = .returned (.tuple #[])∧∃ x,RS w' p s A nn cn names x d k∧s.data.toList.drop x = skipB (s.data.toList.drop a)∧x≤s.size∧w.grownBy w' (some p)):=Lib.hid (jblanks_any p s A nn cn names a d k w h ha hs)
theorem jsees_any (p : Nat) (s : ByteArray) (A : Option Addr) (nn cn : Nat) (names : List (List UInt8)) (a d k : Nat) (w : World) (h : RS w p s A nn cn names a d k) (ha : a≤s.size) (hs : s.size≤1000000) :
  Calls Tryz.prog 240 #[.pointer (some ⟨p,0,none⟩)] w fun e w'=>e = .returned (.int .u8 (headN (skipB (s.data.toList.drop a)) : Nat))∧∃ x,RS w' p s A nn cn names x d k∧s.data.toList.drop x = skipB (s.data.toList.drop a)∧x≤s.size∧w.grownBy w' (some p):=by
 have HB:=jblanks_h h ha hs
 clear h
 go_enter Tryz.func240,Tryz.ntmps240
 go_wp2_with fail
 refine HB.out.mono ?_
 rintro e w2 ⟨rfl,x,hr,hd,hx,hg⟩
 have HD:=Lib.hid hd
 have c0:=hr.c0
 have c1:=hr.c1
 clear HB hd
 by_cases hlt : x < s.size
 ·obtain ⟨b,hdx,hidx⟩:=byte_at s hlt
  have HV:=Lib.hid (show headN (skipB (s.data.toList.drop a)) = b.toNat by rw [← HD.out,hdx];rfl)
  clear hdx
  have t1 : decide (s.size≤x) = false:=decide_eq_false (by omega)
  go_wp2_with fail
  go_quiet (fail)
  go_wp2_with fail
  go_quiet (fail)
  go_wp2
  go_ret
  exact ⟨by rw [HV.out];rfl,x,(hr.drewN _).drewN _,HD.out,hx,only_drewN (only_drewN hg _) _⟩
 ·have HV:=Lib.hid (show headN (skipB (s.data.toList.drop a)) = 0 by rw [← HD.out,drop_end s hlt];rfl)
  have t1 : decide (s.size≤x) = true:=decide_eq_true (by omega)
  go_wp2_with fail
  go_quiet (fail)
  go_wp2
  go_ret
  exact ⟨by rw [HV.out];rfl,x,hr.drewN _,HD.out,hx,only_drewN hg _⟩
theorem jcounts_any (p : Nat) (s : ByteArray) (A : Option Addr) (nn cn : Nat) (names : List (List UInt8)) (a d k : Nat) (z : Int) (w : World) (h : RS w p s A nn cn names a d k) (hk : k < 512) :
  Calls Tryz.prog 241 #[.pointer (some ⟨p,0,none⟩),.int .i64 z] w fun e w'=>e = .returned (.tuple #[])∧RS w' p s A nn cn names a d (k+1)∧w.grownBy w' (some p):=by
 have c4:=h.c4
 have f4:=h.f 4
 have hr2:=h.setParts (k+1)
 have ez : ((k+1 : Nat) : Int) = (k : Int)+1:=by omega
 rw [ez] at hr2
 have HR2:=Lib.hid hr2
 clear hr2 ez h
 go_enter Tryz.func241,Tryz.ntmps241
 go_wp2
 go_end0
 exact ⟨rfl,HR2.out,only_setCell (only_refl _ _) (.inl rfl) _⟩
end
end Go.Proofs.YtlfpdpbbkjnapaaGreatDoor
