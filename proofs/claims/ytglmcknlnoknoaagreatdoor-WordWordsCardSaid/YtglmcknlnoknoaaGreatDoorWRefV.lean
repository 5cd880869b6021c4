/- -/
import Derived.Test.YtglmcknlnoknoaaGreatDoorWRefU
namespace Go.Proofs.YtglmcknlnoknoaaGreatDoor
set_option maxRecDepth 100000
set_option maxHeartbeats 40000000
section
open Go.RowKit
theorem results_tmp4 {fn : Func} {t u v x : Tmp} (h : fn.results = #[.tmp t,.tmp u,.tmp v,.tmp x]) (tmps : Array Value) (P : Program) (w : World) :
  (results fn tmps).run P w = .ok (.tuple #[tmps.getD t undef,tmps.getD u undef,tmps.getD v undef,tmps.getD x undef]) w:=by
 simp [results,h]
def spellV : Except (Int × Nat) (Int × Nat)→Value
 | .error x=>.tuple #[.int .i32 0,.int .i64 0,.int .i64 x.1,.int .i64 x.2]
 | .ok (r,q)=>.tuple #[.int .i32 r,.int .i64 q,.int .i64 0,.int .i64 0]
theorem spell_err {x : Except (Int × Nat) (Int × Nat)} {e : Int} {p : Nat} {v : Value} (h : x = .error (e,p)) (hv : v = .tuple #[.int .i32 0,.int .i64 0,.int .i64 e,.int .i64 p]) : Ending.returned v = .returned (spellV x):=by rw [h,hv];rfl
theorem spell_ok {x : Except (Int × Nat) (Int × Nat)} {r : Int} {q : Nat} {v : Value} (h : x = .ok (r,q)) (hv : v = .tuple #[.int .i32 r,.int .i64 q,.int .i64 0,.int .i64 0]) : Ending.returned v = .returned (spellV x):=by rw [h,hv];rfl
theorem hexRun_drop (s : ByteArray) (p : Nat) : ∀ k,k≤(hexRun s p).length→hexRun s (p+k) = (hexRun s p).drop k
 | 0,_=>rfl
 | k+1,hk=>by
  have ih:=hexRun_drop s p k (by omega)
  have hne : hexRun s (p+k) ≠ []:=by
   intro e;rw [e] at ih
   have:=congrArg List.length ih
   simp at this;omega
  by_cases hlt : p+k < s.size
  ·rw [hexRun_cons hlt] at ih hne
   split at ih
   ·rw [← Nat.add_assoc,← List.drop_drop,← ih];rfl
   ·rename_i hx;rw [if_neg hx] at hne;exact absurd rfl hne
  ·rw [hexRun_none (by omega)] at hne;exact absurd rfl hne
theorem hexRun_in {s : ByteArray} {p k : Nat} (hk : k≤(hexRun s p).length) (hlt : p+k < s.size) (hx : isHexN ((s[p+k]'hlt).toNat : Int) = true) :
  k < (hexRun s p).length∧(hexRun s p)[k]? = some (s[p+k]'hlt):=by
 have h:=hexRun_drop s p k hk
 rw [hexRun_cons hlt,if_pos hx] at h
 have h1:=congrArg List.length h
 simp at h1
 refine ⟨by omega,?_⟩
 have h2:=congrArg List.head? h
 rw [List.head?_drop] at h2
 exact h2.symm
theorem hexRun_out {s : ByteArray} {p k : Nat} (hk : k≤(hexRun s p).length) (ho : s.size≤p+k∨∃ h : p+k < s.size,isHexN ((s[p+k]'h).toNat : Int) = false) : k = (hexRun s p).length:=by
 have h:=hexRun_drop s p k hk
 have h0 : hexRun s (p+k) = []:=by
  rcases ho with h | ⟨h,hx⟩
  ·exact hexRun_none h
  ·rw [hexRun_cons h,if_neg (by rw [hx];exact Bool.false_ne_true)]
 rw [h0] at h
 have:=congrArg List.length h
 simp at this;omega
def SpellAt (s : ByteArray) (a k : Nat) (n : Int) : Prop:=k≤(hexRun s (a+2)).length∧n = hexVal ((hexRun s (a+2)).take (min k 6))
theorem spellAt_bd {s : ByteArray} {a k : Nat} {n : Int} (h : SpellAt s a k n) : 0≤n∧n≤16777216:=by
 have hb:=hexVal_bd _ _ rfl (fun c hc=>hexRun_all s (a+2) c (List.mem_of_mem_take hc) : allHex ((hexRun s (a+2)).take (min k 6)))
 rw [← h.2] at hb
 have hl : ((hexRun s (a+2)).take (min k 6)).length≤6:=by rw [List.length_take];omega
 have : (16 : Int) ^ ((hexRun s (a+2)).take (min k 6)).length≤16 ^ 6:=by
  rcases (by omega : ((hexRun s (a+2)).take (min k 6)).length = 0∨((hexRun s (a+2)).take (min k 6)).length = 1∨((hexRun s (a+2)).take (min k 6)).length = 2∨((hexRun s (a+2)).take (min k 6)).length = 3∨((hexRun s (a+2)).take (min k 6)).length = 4∨((hexRun s (a+2)).take (min k 6)).length = 5∨((hexRun s (a+2)).take (min k 6)).length = 6) with e | e | e | e | e | e | e <;> rw [e] <;> decide
 omega
theorem spellAt_few {s : ByteArray} {a k : Nat} {n : Int} (h : SpellAt s a k n) (hlt : a+2+k < s.size) (hx : isHexN ((s[a+2+k]'hlt).toNat : Int) = true) (h6 : k < 6) : SpellAt s a (k+1) (16*n+hexDig ((s[a+2+k]'hlt).toNat : Int)):=by
 obtain ⟨h1,h2⟩:=hexRun_in h.1 hlt hx
 refine ⟨h1,?_⟩
 rw [show min (k+1) 6 = min k 6+1 by omega,take_snoc_u8 (by rw [show min k 6 = k by omega];exact h2),hexVal_snoc,← h.2];omega
theorem spellAt_many {s : ByteArray} {a k : Nat} {n : Int} (h : SpellAt s a k n) (hlt : a+2+k < s.size) (hx : isHexN ((s[a+2+k]'hlt).toNat : Int) = true) (h6 : 6≤k) : SpellAt s a (k+1) n:=by
 obtain ⟨h1,h2⟩:=hexRun_in h.1 hlt hx
 exact ⟨h1,by rw [show min (k+1) 6 = min k 6 by omega];exact h.2⟩
theorem spellAt_end {s : ByteArray} {a k : Nat} {n : Int} (h : SpellAt s a k n) (ho : s.size≤a+2+k∨∃ h : a+2+k < s.size,isHexN ((s[a+2+k]'h).toNat : Int) = false) :
  numP s a = if k < 4∨6 < k then .error (21,a) else if 1114111 < n then .error (22,a) else .ok (n,a+2+k):=by
 have hk:=hexRun_out h.1 ho
 unfold numP
 rw [← hk]
 split
 ·rfl
 ·rename_i hc
  have : n = hexVal (hexRun s (a+2)):=by rw [h.2,List.take_of_length_le (by omega)]
  rw [← this]
theorem isPrefix_rest {s : ByteArray} {a : Nat} (h1 : a+1 < s.size) : [85,43].isPrefixOf (rest s a) = (85 == s[a]'(by omega) && (43 == s[a+1]'h1)):=by
 rw [rest_cons (by omega : a < s.size),rest_cons h1];simp [List.isPrefixOf]
theorem notPrefix_rest {s : ByteArray} {a : Nat} (h : [85,43].isPrefixOf (rest s a) = false) : runeP s a = if [39].isPrefixOf (rest s a) then quoP s a else .error (21,a):=by
 unfold runeP;rw [h];rfl
theorem pre39 (s : ByteArray) (a : Nat) : [39].isPrefixOf (rest s a) = true ↔ (rest s a).head? = some 39:=by
 cases h : rest s a with
 | nil=>simp
 | cons x r=>simp [List.isPrefixOf];exact eq_comm
theorem head_lt {s : ByteArray} {a : Nat} {c : UInt8} (h : (rest s a).head? = some c) : a < s.size:=by
 rcases Nat.lt_or_ge a s.size with h1 | h1
 ·exact h1
 ·rw [rest_none h1] at h;simp at h
theorem quoted_no {s : ByteArray} {a r w : Nat} (h : quotedP s a = (r,w,false)) : (if [39].isPrefixOf (rest s a) then quoP s a else .error (21,a)) = .error (21,a):=by
 unfold quotedP at h
 split at h
 ·injection h with _ h;injection h with _ h;cases h
 ·rename_i hn
  by_cases h39 : (rest s a).head? = some 39
  ·rw [if_pos ((pre39 s a).2 h39)]
   unfold quoP
   split
   ·rfl
   ·rename_i hw
    split
    ·rfl
    ·rename_i h3
     exact absurd ⟨h39,hw,Classical.not_not.1 h3⟩ hn
  ·rw [if_neg (fun h=>h39 ((pre39 s a).1 h))]
theorem quoted_yes {s : ByteArray} {a r w : Nat} (h : quotedP s a = (r,w,true)) :
  a+1+w < s.size∧w≤4∧r≤1114111∧(if [39].isPrefixOf (rest s a) then quoP s a else .error (21,a)) = (if r = 65533∧w = 1 then .error (23,a+1) else .ok ((r : Int),a+w+2)):=by
 unfold quotedP at h
 split at h
 ·rename_i hy
  obtain ⟨h1,h2,h3⟩:=hy
  injection h with e1 h;injection h with e2 _
  subst e1;subst e2
  have:=head_lt h1
  have hb:=runeAt_bd s (a+1) (by omega)
  refine ⟨head_lt h3,hb.1,hb.2.2,?_⟩
  rw [if_pos ((pre39 s a).2 h1)]
  unfold quoP
  rw [if_neg h2,if_neg (fun h=>h h3)]
  split
  ·rfl
  ·congr 2;omega
 ·injection h with _ h;injection h with _ h;cases h
theorem spell_num (s : ByteArray) (a : Nat) (w : World) (ha : a+1 < s.size) (h0 : s[a]'(by omega) = 85) (h1 : s[a+1]'ha = 43) (hs : s.size≤1000000) :
  Calls Tryz.prog 281 #[.string s,.int .i64 a] w fun e w'=>e = .returned (spellV (runeP s a))∧Below w.heap.size w w':=by
 have HN : Hid (runeP s a = numP s a):=Lib.hid (by unfold runeP;rw [isPrefix_rest ha,h0,h1];rfl)
 have hq0 : (((s[a]'(by omega)).toNat : Int) == 85) = true:=by rw [h0];rfl
 have hq1 : (((s[a+1]'ha).toNat : Int) == 43) = true:=by rw [h1];rfl
 clear h0 h1
 go_enter Tryz.func281,Tryz.ntmps281
 go_wp2_with fail
 go_loop [8,9] (fun n k=>∃ (k' : Nat) (n' : Int),n = .int .i64 n'∧k = .int .i64 k'∧a+2+k'≤s.size∧Hid (SpellAt s a k' n')) (fun _ k=>s.size - (intOf k).toNat)
 case atStart=>exact ⟨0,0,rfl,rfl,by omega,Lib.hid ⟨by omega,rfl⟩⟩
 case round =>
  obtain ⟨k,n,rfl,rfl,hks,HS⟩:=hrel
  obtain ⟨hn0,hn1⟩:=spellAt_bd HS.out
  by_cases hlt : a+2+k < s.size
  ·have hcb : ((s[a+2+k]'hlt).toNat : Int)≤255:=by have:=(s[a+2+k]'hlt).toNat_lt;omega
   have hcz : 0≤((s[a+2+k]'hlt).toNat : Int):=by omega
   cases hx : isHexN ((s[a+2+k]'hlt).toNat : Int) with
   | true =>
    have HD:=Lib.hid (digP_t hx)
    have hdb:=hexDig_bd hx
    by_cases h6 : k < 6
    ·have HA:=Lib.hid (spellAt_few HS.out hlt hx h6)
     clear hx
     go_wp2_with fail
     refine (sdigit_any _ _ hcz hcb).mono ?_
     rintro e w' ⟨rfl,rfl⟩
     rw [HD.out]
     simp only
     generalize hexDig ((s[a+2+k]'hlt).toNat : Int) = D at hdb HA ⊢
     go_wp2_with fail
     go_round
     case rel=>exact ⟨k+1,16*n+D,rfl,by go_num,by omega,HA⟩
     case measure=>simp [intOf];omega
    ·have HA:=Lib.hid (spellAt_many HS.out hlt hx (by omega))
     have h6' : 6≤k:=by omega
     clear hx h6
     go_wp2_with fail
     refine (sdigit_any _ _ hcz hcb).mono ?_
     rintro e w' ⟨rfl,rfl⟩
     rw [HD.out]
     simp only
     generalize hexDig ((s[a+2+k]'hlt).toNat : Int) = D at hdb ⊢
     go_wp2_with fail
     go_round
     case rel=>exact ⟨k+1,n,rfl,by go_num,by omega,HA⟩
     case measure=>simp [intOf];omega
   | false =>
    have HD:=Lib.hid (digP_f hx)
    have HE:=Lib.hid (spellAt_end HS.out (.inr ⟨hlt,hx⟩))
    clear hx
    rcases (by omega : k < 4∨6 < k∨4≤k∧k≤6∧1114111 < n∨4≤k∧k≤6∧n≤1114111) with h | h | ⟨h,h',h''⟩ | ⟨h,h',h''⟩
    ·have HF : Hid (runeP s a = .error (21,a)):=Lib.hid (by rw [HN.out,HE.out,if_pos (by omega)])
     go_wp2_with fail
     refine (sdigit_any _ _ hcz hcb).mono ?_
     rintro e w' ⟨rfl,rfl⟩
     rw [HD.out]
     simp only
     go_wp2
     refine bodyPost_ret (results_tmp4 rfl _ _ _) rfl ?_
     exact ⟨spell_err HF.out rfl,Below.refl _ _⟩
    ·have HF : Hid (runeP s a = .error (21,a)):=Lib.hid (by rw [HN.out,HE.out,if_pos (by omega)])
     go_wp2_with fail
     refine (sdigit_any _ _ hcz hcb).mono ?_
     rintro e w' ⟨rfl,rfl⟩
     rw [HD.out]
     simp only
     go_wp2
     refine bodyPost_ret (results_tmp4 rfl _ _ _) rfl ?_
     exact ⟨spell_err HF.out rfl,Below.refl _ _⟩
    ·have HF : Hid (runeP s a = .error (22,a)):=Lib.hid (by rw [HN.out,HE.out,if_neg (by omega),if_pos h''])
     go_wp2_with fail
     refine (sdigit_any _ _ hcz hcb).mono ?_
     rintro e w' ⟨rfl,rfl⟩
     rw [HD.out]
     simp only
     go_wp2
     refine bodyPost_ret (results_tmp4 rfl _ _ _) rfl ?_
     exact ⟨spell_err HF.out rfl,Below.refl _ _⟩
    ·have HF : Hid (runeP s a = .ok (n,a+2+k)):=Lib.hid (by rw [HN.out,HE.out,if_neg (by omega),if_neg (by omega)])
     have hw1 : IntKind.i32.wrap n = n:=IntWalk.i32_in _ (by omega)
     go_wp2_with fail
     refine (sdigit_any _ _ hcz hcb).mono ?_
     rintro e w' ⟨rfl,rfl⟩
     rw [HD.out]
     simp only
     go_wp2
     refine bodyPost_ret (results_tmp4 rfl _ _ _) rfl ?_
     exact ⟨spell_ok HF.out rfl,Below.refl _ _⟩
  ·have HE:=Lib.hid (spellAt_end HS.out (.inl (by omega)))
   rcases (by omega : k < 4∨6 < k∨4≤k∧k≤6∧1114111 < n∨4≤k∧k≤6∧n≤1114111) with h | h | ⟨h,h',h''⟩ | ⟨h,h',h''⟩
   ·have HF : Hid (runeP s a = .error (21,a)):=Lib.hid (by rw [HN.out,HE.out,if_pos (by omega)])
    go_wp2
    refine bodyPost_ret (results_tmp4 rfl _ _ _) rfl ?_
    exact ⟨spell_err HF.out rfl,Below.refl _ _⟩
   ·have HF : Hid (runeP s a = .error (21,a)):=Lib.hid (by rw [HN.out,HE.out,if_pos (by omega)])
    go_wp2
    refine bodyPost_ret (results_tmp4 rfl _ _ _) rfl ?_
    exact ⟨spell_err HF.out rfl,Below.refl _ _⟩
   ·have HF : Hid (runeP s a = .error (22,a)):=Lib.hid (by rw [HN.out,HE.out,if_neg (by omega),if_pos h''])
    go_wp2
    refine bodyPost_ret (results_tmp4 rfl _ _ _) rfl ?_
    exact ⟨spell_err HF.out rfl,Below.refl _ _⟩
   ·have HF : Hid (runeP s a = .ok (n,a+2+k)):=Lib.hid (by rw [HN.out,HE.out,if_neg (by omega),if_neg (by omega)])
    have hw1 : IntKind.i32.wrap n = n:=IntWalk.i32_in _ (by omega)
    go_wp2
    refine bodyPost_ret (results_tmp4 rfl _ _ _) rfl ?_
    exact ⟨spell_ok HF.out rfl,Below.refl _ _⟩
end
end Go.Proofs.YtglmcknlnoknoaaGreatDoor
