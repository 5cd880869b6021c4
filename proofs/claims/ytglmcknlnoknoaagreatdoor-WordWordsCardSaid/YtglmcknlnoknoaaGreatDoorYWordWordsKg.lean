/- -/
import Derived.Test.YtglmcknlnoknoaaGreatDoorYWordWords2a
import Derived.Test.YtglmcknlnoknoaaGreatDoorYWordWords0b
namespace Go.Proofs.YtglmcknlnoknoaaGreatDoor
set_option maxRecDepth 100000
set_option maxHeartbeats 40000000
section
open Go.RowKit
def kindL (c : Int) : Bool:=wLet c || c == 8
def kindS (c : Int) : Bool:=c != 18 && !wHang c
def kindC (c : List Int) : Int :=
 if c.any kindL then 4 else if c.any (16 == ·) then 3 else if c.any wEnd then 2 else if c.any (18 == ·) && !c.any kindS then 1 else 0
theorem kKind2_any (c : Int) (w : World) : Calls Tryz.prog 141 #[.int .i64 c] w fun e w'=>e = .returned (.bool (kindL c))∧w = w':=by
 obtain ⟨a,Ha⟩ : ∃ a,Hid (wLet c = a):=⟨_,Lib.hid rfl⟩
 obtain ⟨b,hb⟩ : ∃ b,(c == 8) = b:=⟨_,rfl⟩
 have HV : Hid (kindL c = (a || b)):=Lib.hid (by unfold kindL;rw [Ha.out,hb])
 cases a <;> cases b
 all_goals
  go_enter Tryz.func141,Tryz.ntmps141
  go_wp2_with (go_at_call 142;refine (klettered_any _ _).mono ?_;rw [Ha.out];rintro e w' ⟨rfl,rfl⟩)
  go_ret
  exact ⟨by rw [HV.out];rfl,rfl⟩
theorem kKind3_any (c : Int) (w : World) : Calls Tryz.prog 144 #[.int .i64 c] w fun e w'=>e = .returned (.bool (kindS c))∧w = w':=by
 obtain ⟨a,Ha⟩ : ∃ a,Hid (wHang c = a):=⟨_,Lib.hid rfl⟩
 obtain ⟨b,hb⟩ : ∃ b,(c != 18) = b:=⟨_,rfl⟩
 have HV : Hid (kindS c = (b && !a)):=Lib.hid (by unfold kindS;rw [Ha.out,hb])
 cases a <;> cases b
 all_goals
  go_enter Tryz.func144,Tryz.ntmps144
  go_wp2_with (go_at_call 145;refine (khangs_any _ _).mono ?_;rw [Ha.out];rintro e w' ⟨rfl,rfl⟩)
  go_ret
  exact ⟨by rw [HV.out];rfl,rfl⟩
theorem lIdx0_any (A : Option Addr) (n c : Nat) (l : List Int) (w : World) (hA : Rd w 1 A (l.map encZ)) (hl : l.length = n) (hn : n≤4000000) :
  Calls Tryz.prog 187 #[.slice A n c,.func (.func 141) #[] #[]] w fun e w'=>∃ v : Int,e = .returned (.int .i64 v)∧decide (0≤v) = l.any kindL∧w = w':=by
 have Hl:=Lib.hid hl
 clear hl
 go_enter Tryz.func187,Tryz.ntmps187
 go_wp2
 go_loopw [8] (fun v wr=>∃ j : Nat,v = .int .i64 j∧j≤n∧Hid (NoneTo kindL l j)∧wr = w) (fun v _=>n - (intOf v).toNat)
 case atStart=>exact ⟨0,rfl,by omega,Lib.hid (noneTo_first _ l),rfl⟩
 case round =>
  obtain ⟨j,rfl,hj,HN,rfl⟩:=hrel
  by_cases hlt : j < n
  ·obtain ⟨y,Hy⟩ : ∃ y,Hid (l[j]? = some y):=⟨_,Lib.hid (List.getElem?_eq_getElem (by have:=Hl.out;omega))⟩
   obtain ⟨b,off,rfl,hc⟩:=hA.atZ Hy.out
   obtain ⟨q,Hq⟩ : ∃ q,Hid (kindL y = q):=⟨_,Lib.hid rfl⟩
   cases q with
   | true =>
    have HV:=Lib.hid (any_here Hy.out Hq.out)
    skip
    go_wp2_with (go_at_call 141;refine (kKind2_any _ _).mono ?_;rw [Hq.out];rintro e w' ⟨rfl,rfl⟩)
    go_ret
    exact ⟨j,rfl,by rw [HV.out];exact ge_nat j,rfl⟩
   | false =>
    have HN':=Lib.hid (noneTo_next HN.out Hy.out Hq.out)
    skip
    go_wp2_with (go_at_call 141;refine (kKind2_any _ _).mono ?_;rw [Hq.out];rintro e w' ⟨rfl,rfl⟩)
    go_roundw
    case rel=>exact ⟨j+1,by go_num,by omega,HN',trivial⟩
    case measure=>simp [intOf];omega
  ·have HV:=Lib.hid (noneTo_end HN.out (by rw [Hl.out];exact hlt))
   go_wp2
   go_ret
   exact ⟨-1,rfl,by rw [HV.out];rfl,rfl⟩
theorem lCont0_any (A : Option Addr) (n c : Nat) (l : List Int) (w : World) (hA : Rd w 1 A (l.map encZ)) (hl : l.length = n) (hn : n≤4000000) :
  Calls Tryz.prog 140 #[.slice A n c,.func (.func 141) #[] #[]] w fun e w'=>e = .returned (.bool (l.any kindL))∧w = w':=by
 have HI:=Lib.hid (lIdx0_any A n c l w hA hl hn)
 clear hA hl
 go_enter Tryz.func140,Tryz.ntmps140
 go_wp2_with fail
 refine HI.out.mono ?_
 rintro e w1 ⟨v,rfl,hv,rfl⟩
 have HV:=Lib.hid hv
 clear hv HI
 go_wp2
 go_ret
 exact ⟨by rw [← HV.out];rfl,rfl⟩
theorem kHas0_any (b : Nat) (A : Option Addr) (n c : Nat) (l : List Int) (w : World) (hA : Rd w 1 A (l.map encZ)) (hl : l.length = n) (hn : n≤4000000) (hc : w.cell? ⟨b,0,none⟩ = some (.slice A n c)) :
  Calls Tryz.prog 139 #[.func (.func 141) #[] #[],.pointer (some ⟨b,0,none⟩)] w fun e w'=>e = .returned (.bool (l.any kindL))∧w = w':=by
 have HI:=Lib.hid (lCont0_any A n c l w hA hl hn)
 clear hA hl
 go_enter Tryz.func139,Tryz.ntmps139
 go_wp2_with (go_at_call 140;refine HI.out.mono ?_;rintro e w1 ⟨rfl,rfl⟩)
 go_ret
 exact ⟨rfl,rfl⟩
theorem lIdx1_any (A : Option Addr) (n c : Nat) (l : List Int) (w : World) (hA : Rd w 1 A (l.map encZ)) (hl : l.length = n) (hn : n≤4000000) :
  Calls Tryz.prog 187 #[.slice A n c,.func (.func 143) #[] #[]] w fun e w'=>∃ v : Int,e = .returned (.int .i64 v)∧decide (0≤v) = l.any wEnd∧w = w':=by
 have Hl:=Lib.hid hl
 clear hl
 go_enter Tryz.func187,Tryz.ntmps187
 go_wp2
 go_loopw [8] (fun v wr=>∃ j : Nat,v = .int .i64 j∧j≤n∧Hid (NoneTo wEnd l j)∧wr = w) (fun v _=>n - (intOf v).toNat)
 case atStart=>exact ⟨0,rfl,by omega,Lib.hid (noneTo_first _ l),rfl⟩
 case round =>
  obtain ⟨j,rfl,hj,HN,rfl⟩:=hrel
  by_cases hlt : j < n
  ·obtain ⟨y,Hy⟩ : ∃ y,Hid (l[j]? = some y):=⟨_,Lib.hid (List.getElem?_eq_getElem (by have:=Hl.out;omega))⟩
   obtain ⟨b,off,rfl,hc⟩:=hA.atZ Hy.out
   obtain ⟨q,Hq⟩ : ∃ q,Hid (wEnd y = q):=⟨_,Lib.hid rfl⟩
   cases q with
   | true =>
    have HV:=Lib.hid (any_here Hy.out Hq.out)
    skip
    go_wp2_with (go_at_call 143;refine (kends_any _ _).mono ?_;rw [Hq.out];rintro e w' ⟨rfl,rfl⟩)
    go_ret
    exact ⟨j,rfl,by rw [HV.out];exact ge_nat j,rfl⟩
   | false =>
    have HN':=Lib.hid (noneTo_next HN.out Hy.out Hq.out)
    skip
    go_wp2_with (go_at_call 143;refine (kends_any _ _).mono ?_;rw [Hq.out];rintro e w' ⟨rfl,rfl⟩)
    go_roundw
    case rel=>exact ⟨j+1,by go_num,by omega,HN',trivial⟩
    case measure=>simp [intOf];omega
  ·have HV:=Lib.hid (noneTo_end HN.out (by rw [Hl.out];exact hlt))
   go_wp2
   go_ret
   exact ⟨-1,rfl,by rw [HV.out];rfl,rfl⟩
theorem lCont1_any (A : Option Addr) (n c : Nat) (l : List Int) (w : World) (hA : Rd w 1 A (l.map encZ)) (hl : l.length = n) (hn : n≤4000000) :
  Calls Tryz.prog 140 #[.slice A n c,.func (.func 143) #[] #[]] w fun e w'=>e = .returned (.bool (l.any wEnd))∧w = w':=by
 have HI:=Lib.hid (lIdx1_any A n c l w hA hl hn)
 clear hA hl
 go_enter Tryz.func140,Tryz.ntmps140
 go_wp2_with fail
 refine HI.out.mono ?_
 rintro e w1 ⟨v,rfl,hv,rfl⟩
 have HV:=Lib.hid hv
 clear hv HI
 go_wp2
 go_ret
 exact ⟨by rw [← HV.out];rfl,rfl⟩
theorem kHas1_any (b : Nat) (A : Option Addr) (n c : Nat) (l : List Int) (w : World) (hA : Rd w 1 A (l.map encZ)) (hl : l.length = n) (hn : n≤4000000) (hc : w.cell? ⟨b,0,none⟩ = some (.slice A n c)) :
  Calls Tryz.prog 139 #[.func (.func 143) #[] #[],.pointer (some ⟨b,0,none⟩)] w fun e w'=>e = .returned (.bool (l.any wEnd))∧w = w':=by
 have HI:=Lib.hid (lCont1_any A n c l w hA hl hn)
 clear hA hl
 go_enter Tryz.func139,Tryz.ntmps139
 go_wp2_with (go_at_call 140;refine HI.out.mono ?_;rintro e w1 ⟨rfl,rfl⟩)
 go_ret
 exact ⟨rfl,rfl⟩
theorem lIdx2_any (A : Option Addr) (n c : Nat) (l : List Int) (w : World) (hA : Rd w 1 A (l.map encZ)) (hl : l.length = n) (hn : n≤4000000) :
  Calls Tryz.prog 187 #[.slice A n c,.func (.func 144) #[] #[]] w fun e w'=>∃ v : Int,e = .returned (.int .i64 v)∧decide (0≤v) = l.any kindS∧w = w':=by
 have Hl:=Lib.hid hl
 clear hl
 go_enter Tryz.func187,Tryz.ntmps187
 go_wp2
 go_loopw [8] (fun v wr=>∃ j : Nat,v = .int .i64 j∧j≤n∧Hid (NoneTo kindS l j)∧wr = w) (fun v _=>n - (intOf v).toNat)
 case atStart=>exact ⟨0,rfl,by omega,Lib.hid (noneTo_first _ l),rfl⟩
 case round =>
  obtain ⟨j,rfl,hj,HN,rfl⟩:=hrel
  by_cases hlt : j < n
  ·obtain ⟨y,Hy⟩ : ∃ y,Hid (l[j]? = some y):=⟨_,Lib.hid (List.getElem?_eq_getElem (by have:=Hl.out;omega))⟩
   obtain ⟨b,off,rfl,hc⟩:=hA.atZ Hy.out
   obtain ⟨q,Hq⟩ : ∃ q,Hid (kindS y = q):=⟨_,Lib.hid rfl⟩
   cases q with
   | true =>
    have HV:=Lib.hid (any_here Hy.out Hq.out)
    skip
    go_wp2_with (go_at_call 144;refine (kKind3_any _ _).mono ?_;rw [Hq.out];rintro e w' ⟨rfl,rfl⟩)
    go_ret
    exact ⟨j,rfl,by rw [HV.out];exact ge_nat j,rfl⟩
   | false =>
    have HN':=Lib.hid (noneTo_next HN.out Hy.out Hq.out)
    skip
    go_wp2_with (go_at_call 144;refine (kKind3_any _ _).mono ?_;rw [Hq.out];rintro e w' ⟨rfl,rfl⟩)
    go_roundw
    case rel=>exact ⟨j+1,by go_num,by omega,HN',trivial⟩
    case measure=>simp [intOf];omega
  ·have HV:=Lib.hid (noneTo_end HN.out (by rw [Hl.out];exact hlt))
   go_wp2
   go_ret
   exact ⟨-1,rfl,by rw [HV.out];rfl,rfl⟩
theorem lCont2_any (A : Option Addr) (n c : Nat) (l : List Int) (w : World) (hA : Rd w 1 A (l.map encZ)) (hl : l.length = n) (hn : n≤4000000) :
  Calls Tryz.prog 140 #[.slice A n c,.func (.func 144) #[] #[]] w fun e w'=>e = .returned (.bool (l.any kindS))∧w = w':=by
 have HI:=Lib.hid (lIdx2_any A n c l w hA hl hn)
 clear hA hl
 go_enter Tryz.func140,Tryz.ntmps140
 go_wp2_with fail
 refine HI.out.mono ?_
 rintro e w1 ⟨v,rfl,hv,rfl⟩
 have HV:=Lib.hid hv
 clear hv HI
 go_wp2
 go_ret
 exact ⟨by rw [← HV.out];rfl,rfl⟩
theorem kHas2_any (b : Nat) (A : Option Addr) (n c : Nat) (l : List Int) (w : World) (hA : Rd w 1 A (l.map encZ)) (hl : l.length = n) (hn : n≤4000000) (hc : w.cell? ⟨b,0,none⟩ = some (.slice A n c)) :
  Calls Tryz.prog 139 #[.func (.func 144) #[] #[],.pointer (some ⟨b,0,none⟩)] w fun e w'=>e = .returned (.bool (l.any kindS))∧w = w':=by
 have HI:=Lib.hid (lCont2_any A n c l w hA hl hn)
 clear hA hl
 go_enter Tryz.func139,Tryz.ntmps139
 go_wp2_with (go_at_call 140;refine HI.out.mono ?_;rintro e w1 ⟨rfl,rfl⟩)
 go_ret
 exact ⟨rfl,rfl⟩
theorem field_class (A1 : Option Addr) (n1 c1 : Nat) (A2 : Option Addr) (n2 c2 : Nat) (z : Int) (W : World) : (Instr.field 181 (.agg #[.slice A1 n1 c1,.slice A2 n2 c2,.int .i64 z]) 1).run Tryz.prog W = .ok (.slice A2 n2 c2) W:=by kernel_rfl
theorem kKind_any (s : ByteArray) (w : World) (hE : Env w) (hs : s.size≤1000000) :
  Calls Tryz.prog 86 #[.string s] w fun e w'=>e = .returned (.int .i64 (kindC (wCls gW s)))∧Below w.heap.size w w':=by
 have HC:=Lib.hid (kscan_any s w hE hs)
 have hCz : (wCls gW s).length≤s.size:=by rw [wCls_len];exact runesP_len s
 obtain ⟨C,HCl⟩ : ∃ C,Hid (wCls gW s = C):=⟨_,Lib.hid rfl⟩
 rw [HCl.out] at hCz
 have HW : Hid (kindC (wCls gW s) = kindC C):=Lib.hid (by rw [HCl.out])
 obtain ⟨x1,H1⟩ : ∃ x,Hid (C.any kindL = x):=⟨_,Lib.hid rfl⟩
 obtain ⟨x2,H2⟩ : ∃ x,Hid (C.any (16 == ·) = x):=⟨_,Lib.hid rfl⟩
 obtain ⟨x3,H3⟩ : ∃ x,Hid (C.any wEnd = x):=⟨_,Lib.hid rfl⟩
 obtain ⟨x4,H4⟩ : ∃ x,Hid (C.any (18 == ·) = x):=⟨_,Lib.hid rfl⟩
 obtain ⟨x5,H5⟩ : ∃ x,Hid (C.any kindS = x):=⟨_,Lib.hid rfl⟩
 have HK : Hid (kindC (wCls gW s) = if x1 then 4 else if x2 then 3 else if x3 then 2 else if x4 && !x5 then 1 else 0):=Lib.hid (by
  rw [HW.out,← H1.out,← H2.out,← H3.out,← H4.out,← H5.out];rfl)
 clear hE HW
 go_enter Tryz.func86,Tryz.ntmps86
 go_wp2_with fail
 refine HC.out.mono ?_
 rintro e w1 ⟨A1,n1,c1,A2,n2,c2,rfl,o1,o2,hb1⟩
 clear HC o1
 have hf:=field_class A1 n1 c1 A2 n2 c2 s.size w1
 rw [HCl.out] at o2
 have hn2 : C.length = n2:=by have:=o2.len;simpa using this
 have hn : n2≤4000000:=by omega
 have hc:=(Blk.new w1 52 #[.slice A2 n2 c2]).cell 0
 simp only [zG,zH] at hc
 have hb2 : Below w1.heap.size w1 (w1.alloc (.cells #[.slice A2 n2 c2] 52)):=(Below.refl _ _).alloc (Nat.le_refl _) _
 have hr:=(o2.below hb2).rd (by decide)
 have hb3:=below_step hb1 hb2 hb1.size
 have K1:=Lib.hid (kHas0_any w1.heap.size A2 n2 c2 C _ hr hn2 hn hc)
 have K2:=Lib.hid (lContains_any A2 n2 c2 C 16 _ hr hn2 hn)
 have K3:=Lib.hid (kHas1_any w1.heap.size A2 n2 c2 C _ hr hn2 hn hc)
 have K4:=Lib.hid (lContains_any A2 n2 c2 C 18 _ hr hn2 hn)
 have K5:=Lib.hid (kHas2_any w1.heap.size A2 n2 c2 C _ hr hn2 hn hc)
 rw [H1.out] at K1
 rw [H2.out] at K2
 rw [H3.out] at K3
 rw [H4.out] at K4
 rw [H5.out] at K5
 clear o2 hr hn2 hb1 hb2 HCl hCz
 go_wp2_with fail
 refine K1.out.mono ?_
 rintro e w' ⟨rfl,rfl⟩
 cases x1 with
 | true =>
  go_wp2
  go_ret
  exact ⟨by rw [HK.out];rfl,hb3⟩
 | false =>
  go_wp2_with fail
  refine K2.out.mono ?_
  rintro e w' ⟨rfl,rfl⟩
  cases x2 with
  | true =>
   go_wp2
   go_ret
   exact ⟨by rw [HK.out];rfl,hb3⟩
  | false =>
   go_wp2_with fail
   refine K3.out.mono ?_
   rintro e w' ⟨rfl,rfl⟩
   cases x3 with
   | true =>
    go_wp2
    go_ret
    exact ⟨by rw [HK.out];rfl,hb3⟩
   | false =>
    go_wp2_with fail
    refine K4.out.mono ?_
    rintro e w' ⟨rfl,rfl⟩
    cases x4 with
    | false =>
     go_wp2
     go_ret
     exact ⟨by rw [HK.out];rfl,hb3⟩
    | true =>
     go_wp2_with fail
     refine K5.out.mono ?_
     rintro e w' ⟨rfl,rfl⟩
     cases x5 with
     | true =>
      go_wp2
      go_ret
      exact ⟨by rw [HK.out];rfl,hb3⟩
     | false =>
      go_wp2
      go_ret
      exact ⟨by rw [HK.out];rfl,hb3⟩
end
end Go.Proofs.YtglmcknlnoknoaaGreatDoor
