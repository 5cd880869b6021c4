/- -/
import Derived.Lib.DecodeN
import Derived.Test.YtglmcknlnoknoaaGreatDoorV1a
namespace Go.Proofs.YtglmcknlnoknoaaGreatDoor
set_option maxRecDepth 100000
set_option maxHeartbeats 40000000
section
open Go.RowKit
theorem ret_eq {v v' : Value} (h : v = v') : Ending.returned v = .returned v':=by rw [h]
theorem sFirst_any (s : ByteArray) (w : World) (hs : s.size≤1000000) :
  Calls Tryz.prog 318 #[.string s] w fun e w'=>e = .returned (.tuple #[.int .i32 (firstP s).1,.int .i64 (firstP s).2])∧Below w.heap.size w w':=by
 cases hr : runesP s with
 | nil =>
  have HF : Hid (firstP s = (0,0)):=Lib.hid (by unfold firstP;rw [hr])
  have Hr:=Lib.hid hr
  clear hr
  go_enter Tryz.func318,Tryz.ntmps318
  go_wp2_with (go_at_call 101;go_must (refine (sRunes_any s _ hs).mono ?_);rintro e w1 ⟨A1,n1,c1,rfl,ho1,hb1⟩;obtain rfl : n1 = 0:=by have:=ho1.len;rw [Hr.out] at this;simpa using this.symm)
  go_ret2
  exact ⟨ret_eq (by rw [HF.out];rfl),hb1⟩
 | cons x r =>
  obtain ⟨R,a,b⟩:=x
  have HF : Hid (firstP s = (R,b)):=Lib.hid (by unfold firstP;rw [hr])
  have Hr:=Lib.hid hr
  clear hr
  go_enter Tryz.func318,Tryz.ntmps318
  go_wp2_with fail
  refine (sRunes_any s _ hs).mono ?_
  rintro e w1 ⟨A1,n1,c1,rfl,ho1,hb1⟩
  rw [Hr.out] at ho1
  have hn : 0 < n1:=by have:=ho1.len;simp at this;omega
  obtain ⟨g,rfl,_,_⟩:=ho1.form hn
  have k0:=ho1.cell (k:=0) (j:=0) (u:=.int .i32 R) rfl rfl
  have k2:=ho1.cell (k:=0) (j:=2) (u:=.int .i64 b) rfl rfl
  simp only [Nat.zero_mul,Nat.zero_add] at k0 k2
  have hne : ((n1 : Int) == 0) = false:=by rw [beq_eq_false_iff_ne];omega
  clear ho1
  go_wp2_with fail
  go_quiet (fail)
  go_wp2
  go_ret2
  exact ⟨ret_eq (by rw [HF.out];rfl),below_drewN hb1 _⟩
def digP (c : Int) : Int × Bool:=if isHexN c then (hexDig c,true) else (0,false)
theorem digP_t {c : Int} (h : isHexN c = true) : digP c = (hexDig c,true):=if_pos h
theorem digP_f {c : Int} (h : isHexN c = false) : digP c = (0,false):=if_neg (by rw [h];exact Bool.false_ne_true)
theorem sdigit_any (c : Int) (w : World) (h0 : 0≤c) (h1 : c≤255) : Calls Tryz.prog 320 #[.int .u8 c] w fun e w'=>e = .returned (.tuple #[.int .i64 (digP c).1,.bool (digP c).2])∧w = w':=by
 rcases (by omega : c < 48∨(48≤c∧c≤57)∨(57 < c∧c < 65)∨(65≤c∧c≤70)∨70 < c) with h | ⟨h,h'⟩ | ⟨h,h'⟩ | ⟨h,h'⟩ | h
 ·have HE : Hid (digP c = (0,false)):=digP_f (isHexN_f (by omega)).symm
  go_enter Tryz.func320,Tryz.ntmps320
  go_wp2
  go_ret2
  exact ⟨ret_eq (by rw [HE.out];rfl),rfl⟩
 ·have HE : Hid (digP c = (c - 48,true)):=by
   have:=digP_t (c:=c) (isHexN_t (by omega)).symm;unfold hexDig at this;rw [if_pos (by omega)] at this;exact this
  go_enter Tryz.func320,Tryz.ntmps320
  go_wp2
  go_ret2
  exact ⟨ret_eq (by rw [HE.out];rfl),rfl⟩
 ·have HE : Hid (digP c = (0,false)):=digP_f (isHexN_f (by omega)).symm
  go_enter Tryz.func320,Tryz.ntmps320
  go_wp2
  go_ret2
  exact ⟨ret_eq (by rw [HE.out];rfl),rfl⟩
 ·have HE : Hid (digP c = (c - 65+10,true)):=by
   have:=digP_t (c:=c) (isHexN_t (by omega)).symm;unfold hexDig at this;rw [if_neg (by omega)] at this;exact this.trans (by congr 1;omega)
  go_enter Tryz.func320,Tryz.ntmps320
  go_wp2
  go_ret2
  exact ⟨ret_eq (by rw [HE.out];rfl),rfl⟩
 ·have HE : Hid (digP c = (0,false)):=digP_f (isHexN_f (by omega)).symm
  go_enter Tryz.func320,Tryz.ntmps320
  go_wp2
  go_ret2
  exact ⟨ret_eq (by rw [HE.out];rfl),rfl⟩
theorem get_bang (s : ByteArray) (i : Nat) : s.get! i = s.data.toList.getD i 0:=by
 cases s with
 | mk d =>
  show d[i]! = d.toList.getD i 0
  by_cases h : i < d.size
  ·rw [getElem!_pos d i h];simp [List.getD,h]
  ·rw [getElem!_neg d i h];simp [List.getD,h];rfl
theorem decodeN_more {n m : Nat} (b0 b1 b2 b3 : Nat) (hn : 4≤n) (hm : 4≤m) : Lib.decodeN n b0 b1 b2 b3 = Lib.decodeN m b0 b1 b2 b3:=by
 unfold Lib.decodeN
 simp only [show 1 < n by omega,show 2 < n by omega,show 3 < n by omega,show 1 < m by omega,show 2 < m by omega,show 3 < m by omega]
theorem window_get (s : ByteArray) (p e j : Nat) (he : e = min (p+5) s.size) (hj : j < 4) : (s.extract p e).get! j = s.get! (p+j):=by
 rw [get_bang,get_bang,Lib.extract_data]
 by_cases h : p+j < s.size
 ·simp [List.getD,List.getElem?_drop,show j < e - p by omega]
 ·have h1 : s.data.toList.length≤p+j:=by rw [size_data];omega
  simp only [List.getD,List.getElem?_take,List.getElem?_drop]
  rw [List.getElem?_eq_none h1]
  split <;> rfl
theorem decode_window (s : ByteArray) (p e : Nat) (hp : p < s.size) (he : e = min (p+5) s.size) : Utf8.decode (s.extract p e) 0 = Utf8.decode s p:=by
 have hsz : (s.extract p e).size = e - p:=by rw [← size_data,Lib.extract_data,List.length_take,List.length_drop,size_data];omega
 have g0:=window_get s p e 0 he (by omega)
 have g1:=window_get s p e 1 he (by omega)
 have g2:=window_get s p e 2 he (by omega)
 have g3:=window_get s p e 3 he (by omega)
 rw [Lib.decode_at,Lib.decode_at,hsz]
 simp only [Nat.zero_add,Nat.add_zero,Nat.sub_zero] at g0 g1 g2 g3 ⊢
 rw [g0,g1,g2,g3]
 by_cases h5 : s.size - p < 5
 ·rw [show e - p = s.size - p by omega]
 ·exact decodeN_more _ _ _ _ (by omega) (by omega)
theorem first_window (s : ByteArray) (a e : Nat) (ha : a≤s.size) (he : e = min (a+5) s.size) : ((firstP (s.extract a e)).2 = (runeAt s a).2)∧((runeAt s a).2 ≠ 0→(firstP (s.extract a e)).1 = (runeAt s a).1):=by
 have hsz : (s.extract a e).size = e - a:=by rw [← size_data,Lib.extract_data,List.length_take,List.length_drop,size_data];omega
 rw [firstP_eq,hsz]
 unfold runeAt
 by_cases h : a < s.size
 ·rw [if_pos (by omega),if_pos h,decode_window s a e h he]
  exact ⟨rfl,fun _=>rfl⟩
 ·rw [if_neg (by omega),if_neg h]
  exact ⟨rfl,fun h=>absurd rfl h⟩
def quotedP (s : ByteArray) (a : Nat) : Nat × Nat × Bool :=
 if (rest s a).head? = some 39∧(runeAt s (a+1)).2 ≠ 0∧(rest s (a+1+(runeAt s (a+1)).2)).head? = some 39 then ((runeAt s (a+1)).1,(runeAt s (a+1)).2,true) else (0,0,false)
theorem byte_ne' {x : UInt8} {n : Nat} (h : ¬ x = UInt8.ofNat n) (hn : n < 256:=by decide) : ((x.toNat : Int) != (n : Int)) = true:=by
 rw [bne_iff_ne];intro e
 exact h (UInt8.toNat_inj.1 (by rw [show x.toNat = n by omega];exact (UInt8.toNat_ofNat_of_lt' hn).symm))
theorem sQuoted_any (s : ByteArray) (a : Nat) (w : World) (ha : a≤s.size) (hs : s.size≤1000000) :
  Calls Tryz.prog 278 #[.string s,.int .i64 a] w fun e w'=>e = .returned (.tuple #[.int .i32 (quotedP s a).1,.int .i64 (quotedP s a).2.1,.bool (quotedP s a).2.2])∧Below w.heap.size w w':=by
 by_cases hlt : a < s.size
 ·by_cases h39 : s[a]'hlt = 39
  ·have hq : (((s[a]'hlt).toNat : Int) != 39) = false:=by rw [h39];rfl
   have h39' : Hid ((rest s a).head? = some 39):=Lib.hid (by rw [rest_head hlt,h39])
   clear h39
   obtain ⟨e,he,he2⟩ : ∃ e,Hid (e = min (a+1+5) s.size)∧(e = a+6∧a+6≤s.size∨e = s.size∧s.size < a+6):=⟨_,rfl,by omega⟩
   have hfw:=first_window s (a+1) e (by omega) he.out
   have hbd:=runeAt_bd s (a+1) (by omega)
   obtain ⟨⟨R,W⟩,hR0⟩ : ∃ d,runeAt s (a+1) = d:=⟨_,rfl⟩
   rw [hR0] at hfw hbd
   simp only at hfw hbd
   have HR:=Lib.hid hR0
   clear hR0
   have hsz : (s.extract (a+1) e).size≤1000000:=by rw [ByteArray.size_extract];omega
   rcases he2 with ⟨rfl,h6⟩ | ⟨rfl,h6⟩
   ·go_enter Tryz.func278,Tryz.ntmps278
    go_wp2_with fail
    refine (sFirst_any _ _ hsz).mono ?_
    rintro e w1 ⟨rfl,hb1⟩
    obtain ⟨⟨R',W'⟩,HF⟩ : ∃ d,firstP (s.extract (a+1) (a+6)) = d:=⟨_,rfl⟩
    rw [HF] at hfw ⊢
    simp only at hfw ⊢
    obtain ⟨rfl,hfw⟩:=hfw
    have Hfw:=Lib.hid hfw
    clear hfw HF
    by_cases hW : W' = 0
    ·subst hW
     have HE : Hid (quotedP s a = (0,0,false)):=Lib.hid (by unfold quotedP;rw [HR.out];exact if_neg (fun h=>h.2.1 rfl))
     go_wp2
     go_ret3
     exact ⟨ret_eq (by rw [HE.out];rfl),hb1⟩
    ·obtain rfl : R' = R:=Hfw.out hW
     have hW0 : ((W' : Int) == 0) = false:=by rw [beq_eq_false_iff_ne];omega
     have HW:=Lib.hid hW
     clear hW
     by_cases hend : a+1+W' < s.size
     ·have HH:=Lib.hid (rest_head hend)
      by_cases h39 : s[a+1+W']'hend = 39
      ·have hq : (((s[a+1+W']'hend).toNat : Int) != 39) = false:=by rw [h39];rfl
       have HE : Hid (quotedP s a = (R',W',true)):=Lib.hid (by unfold quotedP;rw [HR.out];exact if_pos ⟨h39'.out,HW.out,by rw [HH.out,h39]⟩)
       clear h39
       go_wp2
       go_ret3
       exact ⟨ret_eq (by rw [HE.out];rfl),hb1⟩
      ·have hq : (((s[a+1+W']'hend).toNat : Int) != 39) = true:=byte_ne' (n:=39) h39
       have HE : Hid (quotedP s a = (0,0,false)):=Lib.hid (by unfold quotedP;rw [HR.out];exact if_neg (fun h=>h39 (by have:=h.2.2;simp only at this;rw [HH.out] at this;exact Option.some.inj this)))
       clear h39
       go_wp2
       go_ret3
       exact ⟨ret_eq (by rw [HE.out];rfl),hb1⟩
     ·exfalso;omega
   ·go_enter Tryz.func278,Tryz.ntmps278
    go_wp2_with fail
    refine (sFirst_any _ _ hsz).mono ?_
    rintro e w1 ⟨rfl,hb1⟩
    obtain ⟨⟨R',W'⟩,HF⟩ : ∃ d,firstP (s.extract (a+1) s.size) = d:=⟨_,rfl⟩
    rw [HF] at hfw ⊢
    simp only at hfw ⊢
    obtain ⟨rfl,hfw⟩:=hfw
    have Hfw:=Lib.hid hfw
    clear hfw HF
    by_cases hW : W' = 0
    ·subst hW
     have HE : Hid (quotedP s a = (0,0,false)):=Lib.hid (by unfold quotedP;rw [HR.out];exact if_neg (fun h=>h.2.1 rfl))
     go_wp2
     go_ret3
     exact ⟨ret_eq (by rw [HE.out];rfl),hb1⟩
    ·obtain rfl : R' = R:=Hfw.out hW
     have hW0 : ((W' : Int) == 0) = false:=by rw [beq_eq_false_iff_ne];omega
     have HW:=Lib.hid hW
     clear hW
     by_cases hend : a+1+W' < s.size
     ·have HH:=Lib.hid (rest_head hend)
      by_cases h39 : s[a+1+W']'hend = 39
      ·have hq : (((s[a+1+W']'hend).toNat : Int) != 39) = false:=by rw [h39];rfl
       have HE : Hid (quotedP s a = (R',W',true)):=Lib.hid (by unfold quotedP;rw [HR.out];exact if_pos ⟨h39'.out,HW.out,by rw [HH.out,h39]⟩)
       clear h39
       go_wp2
       go_ret3
       exact ⟨ret_eq (by rw [HE.out];rfl),hb1⟩
      ·have hq : (((s[a+1+W']'hend).toNat : Int) != 39) = true:=byte_ne' (n:=39) h39
       have HE : Hid (quotedP s a = (0,0,false)):=Lib.hid (by unfold quotedP;rw [HR.out];exact if_neg (fun h=>h39 (by have:=h.2.2;simp only at this;rw [HH.out] at this;exact Option.some.inj this)))
       clear h39
       go_wp2
       go_ret3
       exact ⟨ret_eq (by rw [HE.out];rfl),hb1⟩
     ·have HE : Hid (quotedP s a = (0,0,false)):=Lib.hid (by unfold quotedP;rw [HR.out];exact if_neg (fun h=>by have:=h.2.2;simp only at this;rw [rest_none (by omega)] at this;simp at this))
      go_wp2
      go_ret3
      exact ⟨ret_eq (by rw [HE.out];rfl),hb1⟩
  ·have hq : (((s[a]'hlt).toNat : Int) != 39) = true:=byte_ne' (n:=39) h39
   have HE : Hid (quotedP s a = (0,0,false)):=Lib.hid (if_neg (fun h=>h39 (by have:=h.1;rw [rest_head hlt] at this;exact Option.some.inj this)))
   clear h39
   go_enter Tryz.func278,Tryz.ntmps278
   go_wp2
   go_ret3
   exact ⟨ret_eq (by rw [HE.out];rfl),Below.refl _ _⟩
 ·have HE : Hid (quotedP s a = (0,0,false)):=Lib.hid (if_neg (fun h=>by have:=h.1;rw [rest_none (by omega)] at this;simp at this))
  go_enter Tryz.func278,Tryz.ntmps278
  go_wp2
  go_ret3
  exact ⟨ret_eq (by rw [HE.out];rfl),Below.refl _ _⟩
end
end Go.Proofs.YtglmcknlnoknoaaGreatDoor
