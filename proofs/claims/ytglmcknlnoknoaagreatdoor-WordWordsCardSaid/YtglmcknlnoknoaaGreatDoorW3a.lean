/- -/
import Derived.Test.YtglmcknlnoknoaaGreatDoorWRefV
namespace Go.Proofs.YtglmcknlnoknoaaGreatDoor
set_option maxRecDepth 100000
set_option maxHeartbeats 40000000
section
open Go.RowKit
theorem notPrefix_cases {s : ByteArray} {a : Nat} (h : [85,43].isPrefixOf (rest s a) = false) :
  s.size≤a+1∨(∃ h1 : a+1 < s.size,(((s[a]'(by omega)).toNat : Int) == 85) = false)∨(∃ h1 : a+1 < s.size,(((s[a]'(by omega)).toNat : Int) == 85) = true∧(((s[a+1]'h1).toNat : Int) == 43) = false):=by
 by_cases h1 : a+1 < s.size
 ·rw [isPrefix_rest h1] at h
  by_cases h0 : s[a]'(by omega) = 85
  ·refine .inr (.inr ⟨h1,by rw [h0];rfl,?_⟩)
   have : ¬ s[a+1]'h1 = 43:=fun e=>by rw [h0,e] at h;exact absurd h (by decide)
   have:=byte_ne' (n:=43) this
   simpa using this
  ·refine .inr (.inl ⟨h1,?_⟩)
   have:=byte_ne' (n:=85) h0
   simpa using this
 ·exact .inl (by omega)
theorem sspelling_any (s : ByteArray) (a : Nat) (w : World) (ha : a≤s.size) (hs : s.size≤1000000) :
  Calls Tryz.prog 281 #[.string s,.int .i64 a] w fun e w'=>e = .returned (spellV (runeP s a))∧Below w.heap.size w w':=by
 cases hp : [85,43].isPrefixOf (rest s a) with
 | true =>
  have hl : a+1 < s.size:=by
   have:=(List.isPrefixOf_iff_prefix.1 hp).length_le
   unfold rest at this;rw [List.length_drop,size_data] at this;simp at this;omega
  rw [isPrefix_rest hl] at hp
  simp only [Bool.and_eq_true,beq_iff_eq] at hp
  exact spell_num s a w hl hp.1.symm hp.2.symm hs
 | false =>
  have HN:=Lib.hid (notPrefix_rest hp)
  rcases notPrefix_cases hp with h1 | ⟨h1,hq0⟩ | ⟨h1,hq0,hq1⟩
  all_goals
   clear hp
   go_enter Tryz.func281,Tryz.ntmps281
   go_wp2_with fail
   refine (sQuoted_any s a _ ha hs).mono ?_
   rintro e w1 ⟨rfl,hb1⟩
   obtain ⟨⟨r,wd,ok⟩,HQ⟩ : ∃ d,quotedP s a = d:=⟨_,rfl⟩
   rw [HQ]
   simp only
   cases ok with
   | false =>
    have HF : Hid (runeP s a = .error (21,a)):=Lib.hid (HN.out.trans (quoted_no HQ))
    clear HQ
    go_wp2
    refine bodyPost_ret (results_tmp4 rfl _ _ _) rfl ?_
    exact ⟨spell_err HF.out rfl,hb1⟩
   | true =>
    obtain ⟨hend,hw4,hr,hE⟩:=quoted_yes HQ
    have HE:=Lib.hid (HN.out.trans hE)
    clear HQ hE
    by_cases hr9 : r = 65533
    ·subst hr9
     by_cases hw1 : wd = 1
     ·subst hw1
      have HF : Hid (runeP s a = .error (23,a+1)):=Lib.hid (HE.out.trans (if_pos ⟨rfl,rfl⟩))
      go_wp2
      refine bodyPost_ret (results_tmp4 rfl _ _ _) rfl ?_
      exact ⟨spell_err HF.out rfl,hb1⟩
     ·have HF : Hid (runeP s a = .ok (((65533 : Nat) : Int),a+wd+2)):=Lib.hid (HE.out.trans (if_neg (fun h=>hw1 h.2)))
      have hq : ((wd : Int) == 1) = false:=by rw [beq_eq_false_iff_ne];omega
      clear hw1
      go_wp2
      refine bodyPost_ret (results_tmp4 rfl _ _ _) rfl ?_
      exact ⟨spell_ok HF.out rfl,hb1⟩
    ·have HF : Hid (runeP s a = .ok ((r : Int),a+wd+2)):=Lib.hid (HE.out.trans (if_neg (fun h=>hr9 h.1)))
     have hq : ((r : Int) == 65533) = false:=by rw [beq_eq_false_iff_ne];omega
     clear hr9
     go_wp2
     refine bodyPost_ret (results_tmp4 rfl _ _ _) rfl ?_
     exact ⟨spell_ok HF.out rfl,hb1⟩
end
end Go.Proofs.YtglmcknlnoknoaaGreatDoor
