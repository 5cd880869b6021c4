/- -/
import Derived.Laws.BitsAllLaws
import Derived.Laws.Bits
import Derived.Test.YtlfpdpbbkjnapaaGreatDoorYPlacesTells0a
import Derived.Test.YtlfpdpbbkjnapaaGreatDoorP0a
namespace Go.Proofs.YtlfpdpbbkjnapaaGreatDoor
set_option maxRecDepth 100000
set_option maxHeartbeats 40000000
section
open Go.RowKit
def leadN (c : Nat) : Nat × Nat:=if c < 128 then (1,c) else if 192≤c∧c < 224 then (2,c % 32) else if 224≤c∧c < 240 then (3,c % 16) else if 240≤c∧c < 248 then (4,c % 8) else (0,0)
def widN (r : Nat) : Nat:=if 1114111 < r∨(55296≤r∧r≤57343) then 0 else if r < 128 then 1 else if r < 2048 then 2 else if r < 65536 then 3 else 4
def foldN (g : Nat→Nat) (m : Nat) : Nat→Nat
 | 0=>m
 | j+1=>foldN g m j*64+g (j+1) % 64
theorem lead_cases (c : Nat) (hc : c < 256) : (c < 128∧leadN c = (1,c))∨((128≤c∧c / 32 = 6)∧leadN c = (2,c % 32))∨((128≤c∧c / 32 ≠ 6∧c / 16 = 14)∧leadN c = (3,c % 16))∨((128≤c∧c / 32 ≠ 6∧c / 16 ≠ 14∧c / 8 = 30)∧leadN c = (4,c % 8))∨((128≤c∧c / 32 ≠ 6∧c / 16 ≠ 14∧c / 8 ≠ 30)∧leadN c = (0,0)):=by
 unfold leadN
 by_cases h1 : c < 128
 ·exact .inl ⟨h1,if_pos h1⟩
 by_cases h2 : 192≤c∧c < 224
 ·exact .inr (.inl ⟨by omega,by rw [if_neg h1,if_pos h2]⟩)
 by_cases h3 : 224≤c∧c < 240
 ·exact .inr (.inr (.inl ⟨by omega,by rw [if_neg h1,if_neg h2,if_pos h3]⟩))
 by_cases h4 : 240≤c∧c < 248
 ·exact .inr (.inr (.inr (.inl ⟨by omega,by rw [if_neg h1,if_neg h2,if_neg h3,if_pos h4]⟩)))
 ·exact .inr (.inr (.inr (.inr ⟨by omega,by rw [if_neg h1,if_neg h2,if_neg h3,if_neg h4]⟩)))
theorem lead_le (c : Nat) (hc : c < 256) : (leadN c).1≤4:=by rcases lead_cases c hc with ⟨_,e⟩ | ⟨_,e⟩ | ⟨_,e⟩ | ⟨_,e⟩ | ⟨_,e⟩ <;> rw [e] <;> simp
section
variable {g : Nat→Nat} {n : Nat}
theorem ref_none (h : (leadN (g 0)).1 = 0) (h0 : g 0 < 256) : Lib.decodeN n (g 0) (g 1) (g 2) (g 3) = (65533,1):=by
 unfold Lib.decodeN
 rcases lead_cases (g 0) h0 with ⟨hb,e⟩ | ⟨hb,e⟩ | ⟨hb,e⟩ | ⟨hb,e⟩ | ⟨hb,e⟩ <;> rw [e] at h <;> simp only at h
 all_goals try omega
 rw [if_neg (by omega),if_neg (by omega),if_neg (by omega),if_neg (by omega)]
theorem ref_short (h : n < (leadN (g 0)).1) (hn : 0 < n) (h0 : g 0 < 256) : Lib.decodeN n (g 0) (g 1) (g 2) (g 3) = (65533,1):=by
 unfold Lib.decodeN
 rcases lead_cases (g 0) h0 with ⟨hb,e⟩ | ⟨hb,e⟩ | ⟨hb,e⟩ | ⟨hb,e⟩ | ⟨hb,e⟩ <;> rw [e] at h <;> simp only at h
 all_goals try omega
 all_goals rw [if_neg (by omega),if_neg (by omega),if_neg (by omega),if_neg (by omega)]
theorem ref_cont {j : Nat} (h1 : 1≤j) (hj : j < (leadN (g 0)).1) (hg : g j / 64 ≠ 2) (h0 : g 0 < 256) : Lib.decodeN n (g 0) (g 1) (g 2) (g 3) = (65533,1):=by
 have h4 : j = 1∨j = 2∨j = 3:=by have:=lead_le (g 0) h0;omega
 unfold Lib.decodeN
 rcases lead_cases (g 0) h0 with ⟨hb,e⟩ | ⟨hb,e⟩ | ⟨hb,e⟩ | ⟨hb,e⟩ | ⟨hb,e⟩ <;> rw [e] at hj <;> simp only at hj
 all_goals try omega
 all_goals
  rcases h4 with rfl | rfl | rfl
  all_goals try omega
  all_goals rw [if_neg (by omega),if_neg (by omega),if_neg (by omega),if_neg (by omega)]
theorem wid_one {r : Nat} (h : r < 128) : widN r = 1:=by unfold widN;rw [if_neg (by omega),if_pos h]
theorem wid_two {r : Nat} (h : 128≤r) (h2 : r < 2048) : widN r = 2:=by unfold widN;rw [if_neg (by omega),if_neg (by omega),if_pos h2]
theorem wid_bad {r : Nat} (h : 1114111 < r∨(55296≤r∧r≤57343)) : widN r = 0:=by unfold widN;rw [if_pos h]
theorem wid_three {r : Nat} (h : 2048≤r) (h2 : r < 65536) (h3 : ¬ (55296≤r∧r≤57343)) : widN r = 3:=by unfold widN;rw [if_neg (by omega),if_neg (by omega),if_neg (by omega),if_pos h2]
theorem wid_four {r : Nat} (h : 65536≤r) (h2 : r≤1114111) : widN r = 4:=by unfold widN;rw [if_neg (by omega),if_neg (by omega),if_neg (by omega),if_neg (by omega)]
theorem ref_end {k m r : Nat} (hL : leadN (g 0) = (k,m)) (hk : k ≠ 0) (hn : k≤n) (hc : ∀ j,1≤j→j < k→g j / 64 = 2) (h0 : g 0 < 256) (hr : foldN g m (k - 1) = r) :
  (widN r = k→Lib.decodeN n (g 0) (g 1) (g 2) (g 3) = (r,k))∧(widN r ≠ k→Lib.decodeN n (g 0) (g 1) (g 2) (g 3) = (65533,1)):=by
 have c1:=hc 1
 have c2:=hc 2
 have c3:=hc 3
 clear hc
 unfold Lib.decodeN
 rcases lead_cases (g 0) h0 with ⟨hb,e⟩ | ⟨hb,e⟩ | ⟨hb,e⟩ | ⟨hb,e⟩ | ⟨hb,e⟩ <;> rw [e] at hL <;> injection hL with e1 e2 <;> subst e1 <;> subst e2 <;> simp only [foldN,Nat.reduceAdd,Nat.reduceSub] at hr
 ·subst hr
  rw [if_pos hb,wid_one hb]
  exact ⟨fun _=>rfl,fun h=>absurd rfl h⟩
 ·have hr2 : r < 2048:=by omega
  rw [if_neg (by omega),if_pos (by omega),hr]
  by_cases h : r ≥ 128
  ·rw [if_pos h,wid_two h hr2]
   exact ⟨fun _=>rfl,fun h=>absurd rfl h⟩
  ·rw [if_neg h,wid_one (by omega)]
   exact ⟨fun h=>by omega,fun _=>rfl⟩
 ·rw [show (g 0 % 16*64+g 1 % 64)*64+g 2 % 64 = g 0 % 16*4096+g 1 % 64*64+g 2 % 64 by omega] at hr
  have hr2 : r < 65536:=by omega
  rw [if_neg (by omega),if_neg (by omega),if_pos (by omega),hr]
  by_cases h : r ≥ 2048∧(r < 55296∨57344≤r∧r≤1114111)
  ·rw [if_pos h,wid_three h.1 hr2 (by omega)]
   exact ⟨fun _=>rfl,fun h=>absurd rfl h⟩
  ·rw [if_neg h]
   refine ⟨fun hw=>?_,fun _=>rfl⟩
   exfalso
   by_cases h2 : 55296≤r∧r≤57343
   ·rw [wid_bad (.inr h2)] at hw;omega
   ·by_cases h3 : r < 128
    ·rw [wid_one h3] at hw;omega
    ·rw [wid_two (by omega) (by omega)] at hw;omega
 ·rw [show ((g 0 % 8*64+g 1 % 64)*64+g 2 % 64)*64+g 3 % 64 = g 0 % 8*262144+g 1 % 64*4096+g 2 % 64*64+g 3 % 64 by omega] at hr
  rw [if_neg (by omega),if_neg (by omega),if_neg (by omega),if_pos (by omega),hr]
  by_cases h : r ≥ 65536∧(r < 55296∨57344≤r∧r≤1114111)
  ·rw [if_pos h,wid_four h.1 (by omega)]
   exact ⟨fun _=>rfl,fun h=>absurd rfl h⟩
  ·rw [if_neg h]
   refine ⟨fun hw=>?_,fun _=>rfl⟩
   exfalso
   by_cases h2 : 1114111 < r∨(55296≤r∧r≤57343)
   ·rw [wid_bad h2] at hw;omega
   ·by_cases h3 : r < 128
    ·rw [wid_one h3] at hw;omega
    ·by_cases h4 : r < 2048
     ·rw [wid_two (by omega) h4] at hw;omega
     ·rw [wid_three (by omega) (by omega) (by omega)] at hw;omega
 ·exact absurd rfl hk
theorem fold_bd (h0 : g 0 < 256) : ∀ j,j < (leadN (g 0)).1→foldN g (leadN (g 0)).2 j < 2097152:=by
 intro j hj
 have hl:=lead_le (g 0) h0
 rcases (by omega : j = 0∨j = 1∨j = 2∨j = 3) with rfl | rfl | rfl | rfl
 all_goals
  rcases lead_cases (g 0) h0 with ⟨hb,e⟩ | ⟨hb,e⟩ | ⟨hb,e⟩ | ⟨hb,e⟩ | ⟨hb,e⟩ <;> rw [e] at hj ⊢ <;> simp only [foldN] at hj ⊢ <;> omega
end
theorem cont_test (b : Nat) (hb : b < 256) : ((bits BinOp.and IntKind.u8 (b : Int) 192) != (128 : Int)) = !(decide (b / 64 = 2)):=by
 have h1:=u8_and_nat b 192 hb (by omega)
 have h2 : ∀ x : Nat,x < 256→((x &&& 192) = 128 ↔ x / 64 = 2):=by decide
 rw [show ((192 : Nat) : Int) = 192 from rfl] at h1
 rw [h1,bne]
 congr 1
 rw [Bool.eq_iff_iff,beq_iff_eq,decide_eq_true_iff,← h2 b hb]
 omega
theorem tRune_any (r : Nat) (w : World) : Calls Tryz.prog 132 #[.int .i32 (r : Nat)] w fun e w'=>e = .returned (.bool (!decide (widN r = 0)))∧w = w':=by
 have hv : (!decide (widN r = 0)) = (decide (r≤1114111) && (decide (r < 55296) || decide (57343 < r))):=by
  rw [Bool.eq_iff_iff]
  simp only [Bool.not_eq_true',decide_eq_false_iff_not,Bool.and_eq_true,Bool.or_eq_true,decide_eq_true_eq]
  unfold widN
  repeat' split
  all_goals omega
 rw [hv]
 have q0 : decide ((0 : Int)≤(r : Int)) = true:=decide_eq_true (by omega)
 by_cases h1 : r≤1114111
 ·have q1 : decide ((r : Int)≤1114111) = true:=decide_eq_true (by omega)
  by_cases h2 : r < 55296
  ·have q2 : decide ((r : Int) < 55296) = true:=decide_eq_true (by omega)
   rw [decide_eq_true h1,decide_eq_true h2]
   clear h1 h2
   go_enter Tryz.func132,Tryz.ntmps132
   go_wp2
   go_ret
   exact ⟨rfl,rfl⟩
  ·have q2 : decide ((r : Int) < 55296) = false:=decide_eq_false (by omega)
   obtain ⟨q,hq⟩ : ∃ q,decide ((57343 : Int) < (r : Int)) = q:=⟨_,rfl⟩
   have hq2 : decide (57343 < r) = q:=by rw [← hq];exact decide_eq_decide.2 (by omega)
   rw [decide_eq_true h1,decide_eq_false h2,hq2]
   clear h1 h2 hq2
   go_enter Tryz.func132,Tryz.ntmps132
   go_wp2
   go_ret
   exact ⟨rfl,rfl⟩
 ·have q1 : decide ((r : Int)≤1114111) = false:=decide_eq_false (by omega)
  rw [decide_eq_false h1]
  clear h1
  go_enter Tryz.func132,Tryz.ntmps132
  go_wp2
  go_ret
  exact ⟨rfl,rfl⟩
theorem tWidth_any (r : Nat) (w : World) : Calls Tryz.prog 111 #[.int .i32 (r : Nat)] w fun e w'=>e = .returned (.int .i64 (widN r : Nat))∧w = w':=by
 have HR:=Lib.hid (tRune_any r w)
 by_cases h0 : widN r = 0
 ·rw [decide_eq_true h0] at HR
  rw [h0]
  go_enter Tryz.func111,Tryz.ntmps111
  go_wp2_with fail
  refine HR.out.mono ?_
  rintro e w1 ⟨rfl,rfl⟩
  go_wp2
  go_ret
  exact ⟨rfl,rfl⟩
 rw [decide_eq_false h0] at HR
 have hg : ¬ (1114111 < r∨(55296≤r∧r≤57343)):=fun h=>h0 (by unfold widN;rw [if_pos h])
 have hw : widN r = if r < 128 then 1 else if r < 2048 then 2 else if r < 65536 then 3 else 4:=by unfold widN;rw [if_neg hg]
 rw [hw]
 clear hw hg h0
 by_cases h1 : r < 128
 ·have q1 : decide ((r : Int) < 128) = true:=decide_eq_true (by omega)
  rw [if_pos h1]
  clear h1
  go_enter Tryz.func111,Tryz.ntmps111
  go_wp2_with fail
  refine HR.out.mono ?_
  rintro e w1 ⟨rfl,rfl⟩
  go_wp2
  go_ret
  exact ⟨rfl,rfl⟩
 have q1 : decide ((r : Int) < 128) = false:=decide_eq_false (by omega)
 rw [if_neg h1]
 by_cases h2 : r < 2048
 ·have q2 : decide ((r : Int) < 2048) = true:=decide_eq_true (by omega)
  rw [if_pos h2]
  clear h1 h2
  go_enter Tryz.func111,Tryz.ntmps111
  go_wp2_with fail
  refine HR.out.mono ?_
  rintro e w1 ⟨rfl,rfl⟩
  go_wp2
  go_ret
  exact ⟨rfl,rfl⟩
 have q2 : decide ((r : Int) < 2048) = false:=decide_eq_false (by omega)
 rw [if_neg h2]
 by_cases h3 : r < 65536
 ·have q3 : decide ((r : Int) < 65536) = true:=decide_eq_true (by omega)
  rw [if_pos h3]
  clear h1 h2 h3
  go_enter Tryz.func111,Tryz.ntmps111
  go_wp2_with fail
  refine HR.out.mono ?_
  rintro e w1 ⟨rfl,rfl⟩
  go_wp2
  go_ret
  exact ⟨rfl,rfl⟩
 have q3 : decide ((r : Int) < 65536) = false:=decide_eq_false (by omega)
 rw [if_neg h3]
 clear h1 h2 h3
 go_enter Tryz.func111,Tryz.ntmps111
 go_wp2_with fail
 refine HR.out.mono ?_
 rintro e w1 ⟨rfl,rfl⟩
 go_wp2
 go_ret
 exact ⟨rfl,rfl⟩
theorem tlead_any (c : Nat) (hc : c < 256) (w : World) : Calls Tryz.prog 110 #[.int .u8 (c : Nat)] w fun e w'=>e = .returned (.tuple #[.int .i64 ((leadN c).1 : Nat),.int .i32 ((leadN c).2 : Nat)])∧w = w':=by
 have m31 : bits BinOp.and IntKind.u8 (c : Int) 31 = ((c % 32 : Nat) : Int):=by
  have h:=u8_and_nat c 31 hc (by omega)
  rw [nat_mask5,show ((31 : Nat) : Int) = 31 from rfl] at h
  exact h
 have m15 : bits BinOp.and IntKind.u8 (c : Int) 15 = ((c % 16 : Nat) : Int):=by
  have h:=u8_and_nat c 15 hc (by omega)
  rw [nat_mask4,show ((15 : Nat) : Int) = 15 from rfl] at h
  exact h
 have m7 : bits BinOp.and IntKind.u8 (c : Int) 7 = ((c % 8 : Nat) : Int):=by
  have h:=u8_and_nat c 7 hc (by omega)
  rw [nat_mask3,show ((7 : Nat) : Int) = 7 from rfl] at h
  exact h
 obtain ⟨a,ha⟩ : ∃ a,c % 32 = a:=⟨_,rfl⟩
 obtain ⟨b,hb⟩ : ∃ b,c % 16 = b:=⟨_,rfl⟩
 obtain ⟨d,hd⟩ : ∃ d,c % 8 = d:=⟨_,rfl⟩
 have ha' : a < 32:=by omega
 have hb' : b < 16:=by omega
 have hd' : d < 8:=by omega
 by_cases h1 : c < 128
 ·have q1 : decide ((c : Int) < 128) = true:=decide_eq_true (by omega)
  have hv : leadN c = (1,c):=if_pos h1
  rw [hv]
  clear h1 m31 m15 m7 ha hb hd
  go_enter Tryz.func110,Tryz.ntmps110
  go_wp2
  go_ret2
  exact ⟨rfl,rfl⟩
 have q1 : decide ((c : Int) < 128) = false:=decide_eq_false (by omega)
 by_cases h2 : 192≤c∧c < 224
 ·have q2 : decide ((192 : Int)≤(c : Int)) = true:=decide_eq_true (by omega)
  have q3 : decide ((c : Int) < 224) = true:=decide_eq_true (by omega)
  have hv : leadN c = (2,a):=by unfold leadN;rw [if_neg h1,if_pos h2,ha]
  rw [hv]
  rw [ha] at m31
  clear h1 h2 m15 m7 ha hb hd
  go_enter Tryz.func110,Tryz.ntmps110
  go_wp2
  go_ret2
  exact ⟨rfl,rfl⟩
 by_cases h3 : 224≤c∧c < 240
 ·have q2 : decide ((192 : Int)≤(c : Int)) = true:=decide_eq_true (by omega)
  have q3 : decide ((c : Int) < 224) = false:=decide_eq_false (by omega)
  have q4 : decide ((224 : Int)≤(c : Int)) = true:=decide_eq_true (by omega)
  have q5 : decide ((c : Int) < 240) = true:=decide_eq_true (by omega)
  have hv : leadN c = (3,b):=by unfold leadN;rw [if_neg h1,if_neg h2,if_pos h3,hb]
  rw [hv]
  rw [hb] at m15
  clear h1 h2 h3 m31 m7 ha hb hd
  go_enter Tryz.func110,Tryz.ntmps110
  go_wp2
  go_ret2
  exact ⟨rfl,rfl⟩
 by_cases h4 : 240≤c∧c < 248
 ·have q2 : decide ((192 : Int)≤(c : Int)) = true:=decide_eq_true (by omega)
  have q3 : decide ((c : Int) < 224) = false:=decide_eq_false (by omega)
  have q4 : decide ((224 : Int)≤(c : Int)) = true:=decide_eq_true (by omega)
  have q5 : decide ((c : Int) < 240) = false:=decide_eq_false (by omega)
  have q6 : decide ((240 : Int)≤(c : Int)) = true:=decide_eq_true (by omega)
  have q7 : decide ((c : Int) < 248) = true:=decide_eq_true (by omega)
  have hv : leadN c = (4,d):=by unfold leadN;rw [if_neg h1,if_neg h2,if_neg h3,if_pos h4,hd]
  rw [hv]
  rw [hd] at m7
  clear h1 h2 h3 h4 m31 m15 ha hb hd
  go_enter Tryz.func110,Tryz.ntmps110
  go_wp2
  go_ret2
  exact ⟨rfl,rfl⟩
 have hv : leadN c = (0,0):=by unfold leadN;rw [if_neg h1,if_neg h2,if_neg h3,if_neg h4]
 rw [hv]
 clear m31 m15 m7 ha hb hd hv
 by_cases h5 : c < 192
 ·have q2 : decide ((192 : Int)≤(c : Int)) = false:=decide_eq_false (by omega)
  have q4 : decide ((224 : Int)≤(c : Int)) = false:=decide_eq_false (by omega)
  have q6 : decide ((240 : Int)≤(c : Int)) = false:=decide_eq_false (by omega)
  clear h1 h2 h3 h4 h5
  go_enter Tryz.func110,Tryz.ntmps110
  go_wp2
  go_ret2
  exact ⟨rfl,rfl⟩
 ·have q2 : decide ((192 : Int)≤(c : Int)) = true:=decide_eq_true (by omega)
  have q3 : decide ((c : Int) < 224) = false:=decide_eq_false (by omega)
  have q4 : decide ((224 : Int)≤(c : Int)) = true:=decide_eq_true (by omega)
  have q5 : decide ((c : Int) < 240) = false:=decide_eq_false (by omega)
  have q6 : decide ((240 : Int)≤(c : Int)) = true:=decide_eq_true (by omega)
  have q7 : decide ((c : Int) < 248) = false:=decide_eq_false (by omega)
  clear h1 h2 h3 h4 h5
  go_enter Tryz.func110,Tryz.ntmps110
  go_wp2
  go_ret2
  exact ⟨rfl,rfl⟩
theorem get_at (s : ByteArray) {p : Nat} (hp : p < s.size) : s.get! p = s[p]'hp:=by
 rw [← Lib.getD_get!',List.getD_eq_getElem?_getD,List.getElem?_eq_getElem (by rw [size_data];exact hp)];rfl
theorem tDecode_any (s : ByteArray) (w : World) (hs : 0 < s.size) (hz : s.size≤1000000) :
  Calls Tryz.prog 90 #[.string s] w fun e w'=>e = .returned (.tuple #[.int .i32 ((Utf8.decode s 0).1 : Nat),.int .i64 ((Utf8.decode s 0).2 : Nat)])∧w = w':=by
 obtain ⟨g,hg⟩ : ∃ g : Nat→Nat,g = fun j=>(s.get! j).toNat:=⟨_,rfl⟩
 have hg0 : ∀ j,g j < 256:=fun j=>by rw [hg];exact (s.get! j).toNat_lt
 have HI:=Lib.hid (fun (p : Nat) (hp : p < s.size)=>show ((s[p]'hp).toNat : Int) = (g p : Int) by rw [hg];simp only;rw [get_at s hp])
 have HD : Hid (Utf8.decode s 0 = Lib.decodeN s.size (g 0) (g 1) (g 2) (g 3)):=Lib.hid (by rw [hg];exact Lib.decode_at s 0)
 clear hg
 obtain ⟨⟨k,m⟩,HL⟩ : ∃ x,Hid (leadN (g 0) = x):=⟨_,Lib.hid rfl⟩
 have hk4 : k≤4:=by have:=lead_le (g 0) (hg0 0);rw [HL.out] at this;exact this
 have HLd:=Lib.hid (fun W=>tlead_any (g 0) (hg0 0) W)
 rw [HL.out] at HLd
 simp only at HLd
 have hx0 : ∀ W ty,(Instr.index ty (.string s) (.int .i64 0)).run Tryz.prog W = (Instr.index ty (.string s) (.int .i64 0)).run Tryz.prog W:=fun _ _=>rfl
 clear hx0
 have hi0 : ∀ W,(Instr.index 9 (.string s) (.int .i64 0)).run Tryz.prog W = .ok (.int .u8 (g 0 : Int)) W:=fun W=>by rw [index_at s 0 0 rfl hs W,HI.out 0 hs]
 have hsz : ((s.size : Int) == 0) = false:=beq_eq_false_iff_ne.2 (by omega)
 by_cases hk0 : k = 0
 ·subst hk0
  have HV : Hid (Utf8.decode s 0 = (65533,1)):=Lib.hid (by rw [HD.out];exact ref_none (by rw [HL.out]) (hg0 0))
  rw [HV.out]
  go_enter Tryz.func90,Tryz.ntmps90
  go_wp2_with fail
  refine (HLd.out _).mono ?_
  rintro e w1 ⟨rfl,rfl⟩
  go_wp2
  go_ret2
  exact ⟨rfl,rfl⟩
 have hk0' : ((k : Int) == 0) = false:=beq_eq_false_iff_ne.2 (by omega)
 by_cases hkn : s.size < k
 ·have HV : Hid (Utf8.decode s 0 = (65533,1)):=Lib.hid (by rw [HD.out];exact ref_short (by rw [HL.out];exact hkn) hs (hg0 0))
  rw [HV.out]
  have q1 : decide (s.size < k) = true:=decide_eq_true hkn
  clear hkn hk0
  go_enter Tryz.func90,Tryz.ntmps90
  go_wp2_with fail
  refine (HLd.out _).mono ?_
  rintro e w1 ⟨rfl,rfl⟩
  go_wp2
  go_ret2
  exact ⟨rfl,rfl⟩
 have q1 : decide (s.size < k) = false:=decide_eq_false hkn
 have hkn' : k≤s.size:=by omega
 have hk1 : 1≤k:=by omega
 have HB:=Lib.hid (fun j (hj : j < k)=>show foldN g m j < 2097152 from by have:=fold_bd (g:=g) (hg0 0) j (by rw [HL.out];exact hj);rw [HL.out] at this;exact this)
 have HC:=Lib.hid (fun j (h1 : 1≤j) (hj : j < k) (h : g j / 64 ≠ 2)=>show Utf8.decode s 0 = (65533,1) by rw [HD.out];exact ref_cont h1 (by rw [HL.out];exact hj) h (hg0 0))
 have HE:=Lib.hid (fun (hc : ∀ j,1≤j→j < k→g j / 64 = 2)=>ref_end (n:=s.size) HL.out hk0 hkn' hc (hg0 0) rfl)
 rw [← HD.out] at HE
 have HW:=Lib.hid (fun r W=>tWidth_any r W)
 clear hkn hk0
 go_enter Tryz.func90,Tryz.ntmps90
 go_wp2_with fail
 refine (HLd.out _).mono ?_
 rintro e w1 ⟨rfl,rfl⟩
 go_wp2_with fail
 go_loopw [5,6] (fun u v wr=>∃ j : Nat,u = .int .i32 ((foldN g m j : Nat) : Int)∧v = .int .i64 ((j+1 : Nat) : Int)∧j+1≤k∧Hid (∀ i,1≤i→i < j+1→g i / 64 = 2)∧wr = w) (fun _ v _=>k - (intOf v).toNat)
 case atStart=>exact ⟨0,rfl,rfl,by omega,Lib.hid (fun i h1 h2=>by omega),rfl⟩
 case round =>
  obtain ⟨j,rfl,rfl,hj,HO,rfl⟩:=hrel
  obtain ⟨i,Hi⟩ : ∃ i,Hid (j+1 = i):=⟨_,Lib.hid rfl⟩
  rw [Hi.out] at HO hj ⊢
  by_cases hlt : i < k
  ·have hb:=HB.out j (by have:=Hi.out;omega)
   have hib : i < s.size:=by omega
   have hidx : ∀ W,(Instr.index 9 (.string s) (.int .i64 (i : Nat))).run Tryz.prog W = .ok (.int .u8 (g i : Int)) W:=fun W=>by rw [index_at s i i rfl hib W,HI.out i hib]
   have ht:=cont_test (g i) (hg0 i)
   by_cases hc : g i / 64 = 2
   ·have m63 : bits BinOp.and IntKind.u8 (g i : Int) 63 = ((g i % 64 : Nat) : Int):=by
     have h:=u8_and_nat (g i) 63 (hg0 i) (by omega)
     rw [nat_mask6,show ((63 : Nat) : Int) = 63 from rfl] at h
     exact h
    have Hf:=Lib.hid (show foldN g m i = foldN g m j*64+g i % 64 by rw [← Hi.out];rfl)
    have HO2:=Lib.hid (fun x h1 h2=>show g x / 64 = 2 by
     rcases (by omega : x < i∨x = i) with h3 | h3
     ·exact HO.out x h1 h3
     ·rw [h3];exact hc)
    rw [decide_eq_true hc] at ht
    obtain ⟨c6,hc6⟩ : ∃ c6,g i % 64 = c6:=⟨_,rfl⟩
    have hc64 : c6 < 64:=by omega
    rw [hc6] at m63 Hf
    generalize foldN g m j = f at hb Hf ⊢
    have hor : bits BinOp.or IntKind.i32 ((f : Int)*64) (c6 : Int) = ((f*64+c6 : Nat) : Int):=by
     have:=i32_or6 (x:=(f : Int)*64) (y:=(c6 : Int)) (by omega) (by omega) (by omega) (by omega) (by omega)
     rw [this];omega
    clear hc hc6
    go_wp2
    go_roundw
    case rel=>exact ⟨i,by rw [Hf.out];congr 1,by congr 1,by omega,Lib.hid (fun x h1 h2=>HO2.out x h1 (by omega)),by first | rfl | trivial⟩
    case measure=>simp [intOf];omega
   ·have HV:=Lib.hid (HC.out i (by have:=Hi.out;omega) hlt hc)
    rw [decide_eq_false hc] at ht
    clear hc
    go_wp2
    go_ret2
    exact ⟨by rw [HV.out];rfl,rfl⟩
  ·obtain rfl : i = k:=by omega
   have HE2:=Lib.hid (HE.out HO.out)
   have e3 : i - 1 = j:=by have:=Hi.out;omega
   rw [e3] at HE2
   have HWf:=Lib.hid (fun W=>HW.out (foldN g m j) W)
   generalize foldN g m j = f at HE2 HWf ⊢
   obtain ⟨wd,Hwd⟩ : ∃ x,Hid (widN f = x):=⟨_,Lib.hid rfl⟩
   rw [Hwd.out] at HWf HE2
   by_cases hw : wd = i
   ·have HV:=Lib.hid (HE2.out.1 hw)
    have t5 : ((wd : Int) != (i : Int)) = false:=by rw [hw];simp
    clear hw e3
    go_wp2_with fail
    refine (HWf.out _).mono ?_
    rintro e w3 ⟨rfl,rfl⟩
    go_wp2
    go_ret2
    exact ⟨by rw [HV.out];rfl,rfl⟩
   ·have HV:=Lib.hid (HE2.out.2 hw)
    have t5 : ((wd : Int) != (i : Int)) = true:=by rw [bne_iff_ne];omega
    clear hw e3
    go_wp2_with fail
    refine (HWf.out _).mono ?_
    rintro e w3 ⟨rfl,rfl⟩
    go_wp2
    go_ret2
    exact ⟨by rw [HV.out];rfl,rfl⟩
end
end Go.Proofs.YtlfpdpbbkjnapaaGreatDoor
