/-
 Several texts in one,in their build order: Wd,RefV,RefW,RunB,RunC,We,PtA,PtB,PtC,PtD,PtE,PtF,PtG,VP,Print,Va.
-/
import Derived.Shelf.Strings.SlTrimAscii
import Derived.Deep.DeepMust
import Derived.Laws.Bits64b
import Derived.Laws.ShiftsVarLaws
import Derived.WalkSmall
import Derived.RegionTactic
import Derived.BigRegion
import Derived.OwnWalk
import Derived.Deep.RegionHeld3
import Derived.Deep.RegionLaw
import Derived.Test.YtglmcknlnoknoaaGreatDoorV0a
import Derived.Test.YtglmcknlnoknoaaGreatDoorVRdr
import Derived.Test.YtglmcknlnoknoaaGreatDoorVRefU
import Derived.Test.YtglmcknlnoknoaaGreatDoorVRunA
import Derived.Test.YtglmcknlnoknoaaGreatDoorVWc
import Derived.Test.YtglmcknlnoknoaaGreatDoorV0b
import Derived.Test.YtglmcknlnoknoaaGreatDoorV1a
import Derived.Test.YtglmcknlnoknoaaGreatDoorVWa
/- -/
namespace Go.Proofs.YtglmcknlnoknoaaGreatDoor
set_option maxRecDepth 100000
set_option maxHeartbeats 40000000
section
open Go.RowKit
theorem rest_drop (s : ByteArray) (a : Nat) : (s.extract a s.size).data.toList = s.data.toList.drop a:=rest_extract s a
theorem take_extract (s : ByteArray) (a : Nat) : (s.extract 0 a).data.toList = s.data.toList.take a:=by rw [Lib.extract_data];simp
theorem empty_of {s : ByteArray} (h : s.size = 0) : s = ⟨#[]⟩:=by
 apply ByteArray.ext
 exact Array.eq_empty_of_size_eq_zero h
theorem get_list {s : ByteArray} {p : Nat} (h : p < s.size) : s.data.toList[p]? = some (s[p]'h):=List.getElem?_eq_getElem (by simpa using h)
theorem wquoted_any (s : ByteArray) (w : World) (hT : Tabs w) (hs : s.size ≤ 1000000) :
    Calls Tryz.prog 263 #[.string s] w fun e w' => e = .returned (.int .i64 ((qtL s.data.toList).getD 0 : Nat)) ∧ Below w.heap.size w w' := by
  rcases Nat.eq_zero_or_pos s.size with h0 | h0
  · obtain rfl := empty_of h0
    go_enter Tryz.func263, Tryz.ntmps263
    go_wp2
    go_ret
    exact ⟨rfl, Below.refl _ _⟩
  · have e0 := notEmpty h0
    have hix := index_at s 0 0 rfl h0
    by_cases hq : s[0]'h0 = 39
    · have HD := Lib.hid (lDecode_any s 1 w hT (by omega))
      obtain ⟨hb1, hb2, hb3⟩ := runeAt_bd s 1 (by omega)
      have HN := Lib.hid (@qt_zero s)
      have HO := Lib.hid (@qt_open s)
      have HG := Lib.hid (@qt_ok s h0 hq)
      generalize (runeAt s 1).2 = n at HD HN HO HG hb1 hb2
      generalize (runeAt s 1).1 = r at HD hb3
      have hq0 : (((s[0]'h0).toNat : Int) != 39) = false := by rw [hq]; rfl
      rcases Nat.eq_zero_or_pos n with hn | hn
      · have HE := Lib.hid (HN.out hn)
        subst hn
        go_enter Tryz.func263, Tryz.ntmps263
        go_wp2_with (go_at_call 81; refine HD.out.mono ?_; rintro e w2 ⟨rfl, hbw⟩)
        go_ret
        exact ⟨by rw [HE.out]; rfl, hbw⟩
      · have hn0 : ((n : Int) == 0) = false := beq_eq_false_iff_ne.2 (by omega)
        by_cases hp : n + 1 < s.size
        · have hix2 := index_at s ((n : Int) + 1) (n + 1) (by omega) hp
          have hd : decide ((s.size : Int) < (n : Int) + 2) = false := decide_eq_false (by omega)
          by_cases hq2 : s[n + 1]'hp = 39
          · have HE := Lib.hid (HG.out (by omega) (by rw [get_list hp, hq2]))
            have hq3 : (((s[n + 1]'hp).toNat : Int) != 39) = false := by rw [hq2]; rfl
            go_enter Tryz.func263, Tryz.ntmps263
            go_wp2_with (go_at_call 81; refine HD.out.mono ?_; rintro e w2 ⟨rfl, hbw⟩)
            go_ret
            exact ⟨by rw [HE.out]; rfl, hbw⟩
          · have HE := Lib.hid (HO.out (by rw [get_list hp]; simpa using hq2))
            have hq3 : (((s[n + 1]'hp).toNat : Int) != 39) = true := by
              rw [bne_iff_ne]; intro e
              exact hq2 (UInt8.toNat_inj.1 (by have : (s[n + 1]'hp).toNat = 39 := by omega
                                               rw [this]; rfl))
            go_enter Tryz.func263, Tryz.ntmps263
            go_wp2_with (go_at_call 81; refine HD.out.mono ?_; rintro e w2 ⟨rfl, hbw⟩)
            go_ret
            exact ⟨by rw [HE.out]; rfl, hbw⟩
        · have hd : decide ((s.size : Int) < (n : Int) + 2) = true := decide_eq_true (by omega)
          have HE := Lib.hid (HO.out (by rw [List.getElem?_eq_none (by rw [size_data]; omega)]; simp))
          go_enter Tryz.func263, Tryz.ntmps263
          go_wp2_with (go_at_call 81; refine HD.out.mono ?_; rintro e w2 ⟨rfl, hbw⟩)
          go_ret
          exact ⟨by rw [HE.out]; rfl, hbw⟩
    · have HE := Lib.hid (qt_no (s := s) (fun _ => hq))
      have hq3 : (((s[0]'h0).toNat : Int) != 39) = true := by
        rw [bne_iff_ne]; intro e
        exact hq (UInt8.toNat_inj.1 (by have : (s[0]'h0).toNat = 39 := by omega
                                        rw [this]; rfl))
      go_enter Tryz.func263, Tryz.ntmps263
      go_wp2
      go_ret
      exact ⟨by rw [HE.out]; rfl, Below.refl _ _⟩
theorem wfind_any (s : ByteArray) (c : UInt8) (z : Int) (hz : z = (c.toNat : Int)) (w : World) (hT : Tabs w) (hs : s.size≤1000000) :
  Calls Tryz.prog 218 #[.string s,.int .u8 z] w fun e w'=>e = .returned (.int .i64 (fv (findP c s.data.toList)))∧Below w.heap.size w w':=by
 have hsz : s.data.toList.length = s.size:=size_data s
 have Hsz:=Lib.hid hsz
 have Hz:=Lib.hid hz
 clear hz
 go_enter Tryz.func218,Tryz.ntmps218
 go_wp2
 go_loopw [5] (fun v wr=>∃ i : Nat,v = .int .i64 i∧i≤s.size∧Hid (FindAt c s.data.toList i)∧Below w.heap.size w wr) (fun v _=>s.size - (intOf v).toNat)
 case atStart=>exact ⟨0,rfl,by omega,findAt_first _ _,Below.refl _ _⟩
 case round =>
  obtain ⟨i,rfl,hi,HF,hb⟩:=hrel
  by_cases hlt : i < s.size
  ·have HQ:=Lib.hid (wquoted_any (s.extract i s.size) wr (hT.below hb) (by rw [ByteArray.size_extract];omega))
   rw [rest_drop] at HQ
   have hix:=index_at s i i rfl hlt
   cases hq : qtL (s.data.toList.drop i) with
   | some k =>
    rw [hq] at HQ
    have hk:=qtL_some hq
    have hk3:=hk.1
    have hkl : i+k≤s.size:=by have:=hk.2.2.1;rw [List.length_drop,Hsz.out] at this;omega
    have HF':=Lib.hid (findAt_qt HF.out hq)
    have Hq:=Lib.hid hq
    clear hk hq
    go_wp2_with (go_at_call 263;refine HQ.out.mono ?_;rw [Option.getD_some];rintro e w2 ⟨rfl,hb2⟩)
    go_roundw
    case rel =>
     exact ⟨i+k,by go_num,hkl,HF',below_step hb hb2 hb.size⟩
    case measure=>simp [intOf];omega
   | none =>
    rw [hq] at HQ
    by_cases hc : s[i]'hlt = c
    ·have HE:=Lib.hid (findAt_hit HF.out (by rw [get_list hlt,hc]) hq)
     have hzz : (((s[i]'hlt).toNat : Int) == z) = true:=by rw [hc,Hz.out];simp
     clear hq hc
     go_wp2_with (go_at_call 263;refine HQ.out.mono ?_;rw [Option.getD_none];rintro e w2 ⟨rfl,hb2⟩)
     go_ret
     exact ⟨by rw [HE.out];rfl,below_step hb hb2 hb.size⟩
    ·have HF':=Lib.hid (findAt_byte HF.out (get_list hlt) hq hc)
     have hzz : (((s[i]'hlt).toNat : Int) == z) = false:=beq_eq_false_iff_ne.2 (fun e=>hc (UInt8.toNat_inj.1 (by have:=Hz.out;omega)))
     clear hq
     go_wp2_with (go_at_call 263;refine HQ.out.mono ?_;rw [Option.getD_none];rintro e w2 ⟨rfl,hb2⟩)
     go_roundw
     case rel =>
      exact ⟨i+1,by go_num,by omega,HF',below_step hb hb2 hb.size⟩
     case measure=>simp [intOf];omega
  ·have HE:=Lib.hid (findAt_end HF.out (by rw [Hsz.out];exact hlt))
   go_wp2
   go_ret
   exact ⟨by rw [HE.out];rfl,hb⟩
theorem zero256 : ∀ w,(zeroValue 274).run Tryz.prog w = .ok (.agg (Array.replicate 256 (.bool false))) w:=by intro w;kernel_rfl
theorem size256 : (Tryz.prog.info? 274).map (·.size) = some 256:=by kernel_rfl
theorem lTrim_any (s : ByteArray) (w : World) (hs : s.size≤1000000) :
  Calls Tryz.prog 219 #[.string s,.string ⟨#[32,9]⟩] w fun e w'=>e = .returned (.string (bytesOf (trimL s.data.toList)))∧Below w.heap.size w w':=by
 rcases Nat.eq_zero_or_pos s.size with h0 | h0
 ·have h:=Any.strings_Trim_empty Tryz.lays160 s ⟨#[32,9]⟩ w (.inl h0)
  obtain rfl:=empty_of h0
  refine h.mono ?_
  rintro e w' ⟨rfl,rfl⟩
  exact ⟨rfl,Below.refl _ _⟩
 ·have h:=Any.strings_Trim_set Tryz.lays160 zero256 size256 s ⟨#[32,9]⟩ w (show 2≤2 by omega) h0 (by omega) (show 2 < 4294967281 by omega) (fun j b hj=>by
   match j,hj with
   | 0,hj=>simp at hj;subst hj;decide
   | 1,hj=>simp at hj;subst hj;decide
   | j+2,hj=>simp at hj)
  refine h.mono ?_
  rintro e w' ⟨rfl,q,rfl⟩
  refine ⟨?_,below_drewN (((Below.refl _ _).alloc (Nat.le_refl _) _).alloc (by simp) _) _⟩
  rw [show (ByteArray.mk #[32,9]).data.toList = [32,9] from rfl,trimS_eq];rfl
theorem wline_any (s : ByteArray) (w : World) (hT : Tabs w) (hs : s.size≤1000000) :
  Calls Tryz.prog 172 #[.string s] w fun e w'=>e = .returned (.string (bytesOf (lineU s.data.toList)))∧Below w.heap.size w w':=by
 have HF:=Lib.hid (wfind_any s 35 35 rfl w hT hs)
 have hlt:=fun i h=>(List.getElem?_eq_some_iff.1 (findP_lt (c:=35) _ s.data.toList (Nat.le_refl _) i h)).1
 rw [size_data] at hlt
 have HU : Hid (lineU s.data.toList = trimL (s.data.toList.take ((findP 35 s.data.toList).getD s.data.toList.length))):=rfl
 cases hq : findP 35 s.data.toList with
 | none =>
  rw [hq] at HF HU
  rw [Option.getD_none,List.take_length] at HU
  clear hq hlt
  go_enter Tryz.func172,Tryz.ntmps172
  go_wp2_with (first | (go_at_call 218;refine HF.out.mono ?_;rw [show fv none = -1 from rfl];rintro e w2 ⟨rfl,hb2⟩) | (go_at_call 219;refine (lTrim_any s _ hs).mono ?_;rintro e w3 ⟨rfl,hb3⟩))
  go_ret
  exact ⟨by rw [HU.out];rfl,below_two hb2 hb3⟩
 | some i =>
  have hi:=hlt i hq
  rw [hq] at HF HU
  rw [Option.getD_some,← take_extract] at HU
  clear hq hlt
  go_enter Tryz.func172,Tryz.ntmps172
  go_wp2_with (first | (go_at_call 218;refine HF.out.mono ?_;rw [show fv (some i) = (i : Int) from rfl];rintro e w2 ⟨rfl,hb2⟩) | (go_at_call 219;refine (lTrim_any (s.extract 0 i) _ (by rw [ByteArray.size_extract];omega)).mono ?_;rintro e w3 ⟨rfl,hb3⟩))
  go_ret
  exact ⟨by rw [HU.out,take_extract];rfl,below_two hb2 hb3⟩
end
section
open Go.RowKit
theorem results_tmp4 {fn : Func} {t u v x : Tmp} (h : fn.results = #[.tmp t,.tmp u,.tmp v,.tmp x]) (tmps : Array Value) (P : Program) (w : World) :
  (results fn tmps).run P w = .ok (.tuple #[tmps.getD t undef,tmps.getD u undef,tmps.getD v undef,tmps.getD x undef]) w:=by
 simp [results,h]
def spellV : Except (Int × Nat) (Int × Nat)→Value
 | .error x=>.tuple #[.int .i32 0,.int .i64 0,.int .i64 x.1,.int .i64 x.2]
 | .ok (r,q)=>.tuple #[.int .i32 r,.int .i64 q,.int .i64 0,.int .i64 0]
theorem spell_err {x : Except (Int × Nat) (Int × Nat)} {e : Int} {p : Nat} {v : Value} (h : x = .error (e,p)) (hv : v = .tuple #[.int .i32 0,.int .i64 0,.int .i64 e,.int .i64 p]) : Ending.returned v = .returned (spellV x):=by rw [h,hv];rfl
theorem spell_ok {x : Except (Int × Nat) (Int × Nat)} {r : Int} {q : Nat} {v : Value} (h : x = .ok (r,q)) (hv : v = .tuple #[.int .i32 r,.int .i64 q,.int .i64 0,.int .i64 0]) : Ending.returned v = .returned (spellV x):=by rw [h,hv];rfl
theorem hexRun_drop (s : ByteArray) (p : Nat) : ∀ k,k≤(hexRun s p).length→hexRun s (p+k) = (hexRun s p).drop k
 | 0,_=>rfl
 | k+1,hk=>by
  have ih:=hexRun_drop s p k (by omega)
  have hne : hexRun s (p+k) ≠ []:=by
   intro e;rw [e] at ih
   have:=congrArg List.length ih
   simp at this;omega
  by_cases hlt : p+k < s.size
  ·rw [hexRun_cons hlt] at ih hne
   split at ih
   ·rw [← Nat.add_assoc,← List.drop_drop,← ih];rfl
   ·rename_i hx;rw [if_neg hx] at hne;exact absurd rfl hne
  ·rw [hexRun_none (by omega)] at hne;exact absurd rfl hne
theorem hexRun_in {s : ByteArray} {p k : Nat} (hk : k≤(hexRun s p).length) (hlt : p+k < s.size) (hx : isHexN ((s[p+k]'hlt).toNat : Int) = true) :
  k < (hexRun s p).length∧(hexRun s p)[k]? = some (s[p+k]'hlt):=by
 have h:=hexRun_drop s p k hk
 rw [hexRun_cons hlt,if_pos hx] at h
 have h1:=congrArg List.length h
 simp at h1
 refine ⟨by omega,?_⟩
 have h2:=congrArg List.head? h
 rw [List.head?_drop] at h2
 exact h2.symm
theorem hexRun_out {s : ByteArray} {p k : Nat} (hk : k≤(hexRun s p).length) (ho : s.size≤p+k∨∃ h : p+k < s.size,isHexN ((s[p+k]'h).toNat : Int) = false) : k = (hexRun s p).length:=by
 have h:=hexRun_drop s p k hk
 have h0 : hexRun s (p+k) = []:=by
  rcases ho with h | ⟨h,hx⟩
  ·exact hexRun_none h
  ·rw [hexRun_cons h,if_neg (by rw [hx];exact Bool.false_ne_true)]
 rw [h0] at h
 have:=congrArg List.length h
 simp at this;omega
def SpellAt (s : ByteArray) (a k : Nat) (n : Int) : Prop:=k≤(hexRun s (a+2)).length∧n = hexVal ((hexRun s (a+2)).take (min k 6))
theorem spellAt_bd {s : ByteArray} {a k : Nat} {n : Int} (h : SpellAt s a k n) : 0≤n∧n≤16777216:=by
 have hb:=hexVal_bd _ _ rfl (fun c hc=>hexRun_all s (a+2) c (List.mem_of_mem_take hc) : allHex ((hexRun s (a+2)).take (min k 6)))
 rw [← h.2] at hb
 have hl : ((hexRun s (a+2)).take (min k 6)).length≤6:=by rw [List.length_take];omega
 have : (16 : Int) ^ ((hexRun s (a+2)).take (min k 6)).length≤16 ^ 6:=by
  rcases (by omega : ((hexRun s (a+2)).take (min k 6)).length = 0∨((hexRun s (a+2)).take (min k 6)).length = 1∨((hexRun s (a+2)).take (min k 6)).length = 2∨((hexRun s (a+2)).take (min k 6)).length = 3∨((hexRun s (a+2)).take (min k 6)).length = 4∨((hexRun s (a+2)).take (min k 6)).length = 5∨((hexRun s (a+2)).take (min k 6)).length = 6) with e | e | e | e | e | e | e <;> rw [e] <;> decide
 omega
theorem spellAt_few {s : ByteArray} {a k : Nat} {n : Int} (h : SpellAt s a k n) (hlt : a+2+k < s.size) (hx : isHexN ((s[a+2+k]'hlt).toNat : Int) = true) (h6 : k < 6) : SpellAt s a (k+1) (16*n+hexDig ((s[a+2+k]'hlt).toNat : Int)):=by
 obtain ⟨h1,h2⟩:=hexRun_in h.1 hlt hx
 refine ⟨h1,?_⟩
 rw [show min (k+1) 6 = min k 6+1 by omega,take_snoc_u8 (by rw [show min k 6 = k by omega];exact h2),hexVal_snoc,← h.2];omega
theorem spellAt_many {s : ByteArray} {a k : Nat} {n : Int} (h : SpellAt s a k n) (hlt : a+2+k < s.size) (hx : isHexN ((s[a+2+k]'hlt).toNat : Int) = true) (h6 : 6≤k) : SpellAt s a (k+1) n:=by
 obtain ⟨h1,h2⟩:=hexRun_in h.1 hlt hx
 exact ⟨h1,by rw [show min (k+1) 6 = min k 6 by omega];exact h.2⟩
theorem spellAt_end {s : ByteArray} {a k : Nat} {n : Int} (h : SpellAt s a k n) (ho : s.size≤a+2+k∨∃ h : a+2+k < s.size,isHexN ((s[a+2+k]'h).toNat : Int) = false) :
  numP s a = if k < 4∨6 < k then .error (21,a) else if 1114111 < n then .error (22,a) else .ok (n,a+2+k):=by
 have hk:=hexRun_out h.1 ho
 unfold numP
 rw [← hk]
 split
 ·rfl
 ·rename_i hc
  have : n = hexVal (hexRun s (a+2)):=by rw [h.2,List.take_of_length_le (by omega)]
  rw [← this]
theorem isPrefix_rest {s : ByteArray} {a : Nat} (h1 : a+1 < s.size) : [85,43].isPrefixOf (rest s a) = (85 == s[a]'(by omega) && (43 == s[a+1]'h1)):=by
 rw [rest_cons (by omega : a < s.size),rest_cons h1];simp [List.isPrefixOf]
theorem notPrefix_rest {s : ByteArray} {a : Nat} (h : [85,43].isPrefixOf (rest s a) = false) : runeP s a = if [39].isPrefixOf (rest s a) then quoP s a else .error (21,a):=by
 unfold runeP;rw [h];rfl
theorem pre39 (s : ByteArray) (a : Nat) : [39].isPrefixOf (rest s a) = true ↔ (rest s a).head? = some 39:=by
 cases h : rest s a with
 | nil=>simp
 | cons x r=>simp [List.isPrefixOf];exact eq_comm
theorem head_lt {s : ByteArray} {a : Nat} {c : UInt8} (h : (rest s a).head? = some c) : a < s.size:=by
 rcases Nat.lt_or_ge a s.size with h1 | h1
 ·exact h1
 ·rw [rest_none h1] at h;simp at h
theorem quoted_no {s : ByteArray} {a r w : Nat} (h : quotedP s a = (r,w,false)) : (if [39].isPrefixOf (rest s a) then quoP s a else .error (21,a)) = .error (21,a):=by
 unfold quotedP at h
 split at h
 ·injection h with _ h;injection h with _ h;cases h
 ·rename_i hn
  by_cases h39 : (rest s a).head? = some 39
  ·rw [if_pos ((pre39 s a).2 h39)]
   unfold quoP
   split
   ·rfl
   ·rename_i hw
    split
    ·rfl
    ·rename_i h3
     exact absurd ⟨h39,hw,Classical.not_not.1 h3⟩ hn
  ·rw [if_neg (fun h=>h39 ((pre39 s a).1 h))]
theorem quoted_yes {s : ByteArray} {a r w : Nat} (h : quotedP s a = (r,w,true)) :
  a+1+w < s.size∧w≤4∧r≤1114111∧(if [39].isPrefixOf (rest s a) then quoP s a else .error (21,a)) = (if r = 65533∧w = 1 then .error (23,a+1) else .ok ((r : Int),a+w+2)):=by
 unfold quotedP at h
 split at h
 ·rename_i hy
  obtain ⟨h1,h2,h3⟩:=hy
  injection h with e1 h;injection h with e2 _
  subst e1;subst e2
  have:=head_lt h1
  have hb:=runeAt_bd s (a+1) (by omega)
  refine ⟨head_lt h3,hb.1,hb.2.2,?_⟩
  rw [if_pos ((pre39 s a).2 h1)]
  unfold quoP
  rw [if_neg h2,if_neg (fun h=>h h3)]
  split
  ·rfl
  ·congr 2;omega
 ·injection h with _ h;injection h with _ h;cases h
theorem spell_num (s : ByteArray) (a : Nat) (w : World) (ha : a+1 < s.size) (h0 : s[a]'(by omega) = 85) (h1 : s[a+1]'ha = 43) (hs : s.size≤1000000) :
  Calls Tryz.prog 281 #[.string s,.int .i64 a] w fun e w'=>e = .returned (spellV (runeP s a))∧Below w.heap.size w w':=by
 have HN : Hid (runeP s a = numP s a):=Lib.hid (by unfold runeP;rw [isPrefix_rest ha,h0,h1];rfl)
 have hq0 : (((s[a]'(by omega)).toNat : Int) == 85) = true:=by rw [h0];rfl
 have hq1 : (((s[a+1]'ha).toNat : Int) == 43) = true:=by rw [h1];rfl
 clear h0 h1
 go_enter Tryz.func281,Tryz.ntmps281
 go_wp2_with fail
 go_loop [8,9] (fun n k=>∃ (k' : Nat) (n' : Int),n = .int .i64 n'∧k = .int .i64 k'∧a+2+k'≤s.size∧Hid (SpellAt s a k' n')) (fun _ k=>s.size - (intOf k).toNat)
 case atStart=>exact ⟨0,0,rfl,rfl,by omega,Lib.hid ⟨by omega,rfl⟩⟩
 case round =>
  obtain ⟨k,n,rfl,rfl,hks,HS⟩:=hrel
  obtain ⟨hn0,hn1⟩:=spellAt_bd HS.out
  by_cases hlt : a+2+k < s.size
  ·have hcb : ((s[a+2+k]'hlt).toNat : Int)≤255:=by have:=(s[a+2+k]'hlt).toNat_lt;omega
   have hcz : 0≤((s[a+2+k]'hlt).toNat : Int):=by omega
   cases hx : isHexN ((s[a+2+k]'hlt).toNat : Int) with
   | true =>
    have HD:=Lib.hid (digP_t hx)
    have hdb:=hexDig_bd hx
    by_cases h6 : k < 6
    ·have HA:=Lib.hid (spellAt_few HS.out hlt hx h6)
     clear hx
     go_wp2_with fail
     refine (sdigit_any _ _ hcz hcb).mono ?_
     rintro e w' ⟨rfl,rfl⟩
     rw [HD.out]
     simp only
     generalize hexDig ((s[a+2+k]'hlt).toNat : Int) = D at hdb HA ⊢
     go_wp2_with fail
     go_round
     case rel=>exact ⟨k+1,16*n+D,rfl,by go_num,by omega,HA⟩
     case measure=>simp [intOf];omega
    ·have HA:=Lib.hid (spellAt_many HS.out hlt hx (by omega))
     have h6' : 6≤k:=by omega
     clear hx h6
     go_wp2_with fail
     refine (sdigit_any _ _ hcz hcb).mono ?_
     rintro e w' ⟨rfl,rfl⟩
     rw [HD.out]
     simp only
     generalize hexDig ((s[a+2+k]'hlt).toNat : Int) = D at hdb ⊢
     go_wp2_with fail
     go_round
     case rel=>exact ⟨k+1,n,rfl,by go_num,by omega,HA⟩
     case measure=>simp [intOf];omega
   | false =>
    have HD:=Lib.hid (digP_f hx)
    have HE:=Lib.hid (spellAt_end HS.out (.inr ⟨hlt,hx⟩))
    clear hx
    rcases (by omega : k < 4∨6 < k∨4≤k∧k≤6∧1114111 < n∨4≤k∧k≤6∧n≤1114111) with h | h | ⟨h,h',h''⟩ | ⟨h,h',h''⟩
    ·have HF : Hid (runeP s a = .error (21,a)):=Lib.hid (by rw [HN.out,HE.out,if_pos (by omega)])
     go_wp2_with fail
     refine (sdigit_any _ _ hcz hcb).mono ?_
     rintro e w' ⟨rfl,rfl⟩
     rw [HD.out]
     simp only
     go_wp2
     refine bodyPost_ret (results_tmp4 rfl _ _ _) rfl ?_
     exact ⟨spell_err HF.out rfl,Below.refl _ _⟩
    ·have HF : Hid (runeP s a = .error (21,a)):=Lib.hid (by rw [HN.out,HE.out,if_pos (by omega)])
     go_wp2_with fail
     refine (sdigit_any _ _ hcz hcb).mono ?_
     rintro e w' ⟨rfl,rfl⟩
     rw [HD.out]
     simp only
     go_wp2
     refine bodyPost_ret (results_tmp4 rfl _ _ _) rfl ?_
     exact ⟨spell_err HF.out rfl,Below.refl _ _⟩
    ·have HF : Hid (runeP s a = .error (22,a)):=Lib.hid (by rw [HN.out,HE.out,if_neg (by omega),if_pos h''])
     go_wp2_with fail
     refine (sdigit_any _ _ hcz hcb).mono ?_
     rintro e w' ⟨rfl,rfl⟩
     rw [HD.out]
     simp only
     go_wp2
     refine bodyPost_ret (results_tmp4 rfl _ _ _) rfl ?_
     exact ⟨spell_err HF.out rfl,Below.refl _ _⟩
    ·have HF : Hid (runeP s a = .ok (n,a+2+k)):=Lib.hid (by rw [HN.out,HE.out,if_neg (by omega),if_neg (by omega)])
     have hw1 : IntKind.i32.wrap n = n:=IntWalk.i32_in _ (by omega)
     go_wp2_with fail
     refine (sdigit_any _ _ hcz hcb).mono ?_
     rintro e w' ⟨rfl,rfl⟩
     rw [HD.out]
     simp only
     go_wp2
     refine bodyPost_ret (results_tmp4 rfl _ _ _) rfl ?_
     exact ⟨spell_ok HF.out rfl,Below.refl _ _⟩
  ·have HE:=Lib.hid (spellAt_end HS.out (.inl (by omega)))
   rcases (by omega : k < 4∨6 < k∨4≤k∧k≤6∧1114111 < n∨4≤k∧k≤6∧n≤1114111) with h | h | ⟨h,h',h''⟩ | ⟨h,h',h''⟩
   ·have HF : Hid (runeP s a = .error (21,a)):=Lib.hid (by rw [HN.out,HE.out,if_pos (by omega)])
    go_wp2
    refine bodyPost_ret (results_tmp4 rfl _ _ _) rfl ?_
    exact ⟨spell_err HF.out rfl,Below.refl _ _⟩
   ·have HF : Hid (runeP s a = .error (21,a)):=Lib.hid (by rw [HN.out,HE.out,if_pos (by omega)])
    go_wp2
    refine bodyPost_ret (results_tmp4 rfl _ _ _) rfl ?_
    exact ⟨spell_err HF.out rfl,Below.refl _ _⟩
   ·have HF : Hid (runeP s a = .error (22,a)):=Lib.hid (by rw [HN.out,HE.out,if_neg (by omega),if_pos h''])
    go_wp2
    refine bodyPost_ret (results_tmp4 rfl _ _ _) rfl ?_
    exact ⟨spell_err HF.out rfl,Below.refl _ _⟩
   ·have HF : Hid (runeP s a = .ok (n,a+2+k)):=Lib.hid (by rw [HN.out,HE.out,if_neg (by omega),if_neg (by omega)])
    have hw1 : IntKind.i32.wrap n = n:=IntWalk.i32_in _ (by omega)
    go_wp2
    refine bodyPost_ret (results_tmp4 rfl _ _ _) rfl ?_
    exact ⟨spell_ok HF.out rfl,Below.refl _ _⟩
end
section
open Go.RowKit
theorem notPrefix_cases {s : ByteArray} {a : Nat} (h : [85,43].isPrefixOf (rest s a) = false) :
  s.size≤a+1∨(∃ h1 : a+1 < s.size,(((s[a]'(by omega)).toNat : Int) == 85) = false)∨(∃ h1 : a+1 < s.size,(((s[a]'(by omega)).toNat : Int) == 85) = true∧(((s[a+1]'h1).toNat : Int) == 43) = false):=by
 by_cases h1 : a+1 < s.size
 ·rw [isPrefix_rest h1] at h
  by_cases h0 : s[a]'(by omega) = 85
  ·refine .inr (.inr ⟨h1,by rw [h0];rfl,?_⟩)
   have : ¬ s[a+1]'h1 = 43:=fun e=>by rw [h0,e] at h;exact absurd h (by decide)
   have:=byte_ne' (n:=43) this
   simpa using this
  ·refine .inr (.inl ⟨h1,?_⟩)
   have:=byte_ne' (n:=85) h0
   simpa using this
 ·exact .inl (by omega)
theorem sspelling_any (s : ByteArray) (a : Nat) (w : World) (ha : a≤s.size) (hs : s.size≤1000000) :
  Calls Tryz.prog 281 #[.string s,.int .i64 a] w fun e w'=>e = .returned (spellV (runeP s a))∧Below w.heap.size w w':=by
 cases hp : [85,43].isPrefixOf (rest s a) with
 | true =>
  have hl : a+1 < s.size:=by
   have:=(List.isPrefixOf_iff_prefix.1 hp).length_le
   unfold rest at this;rw [List.length_drop,size_data] at this;simp at this;omega
  rw [isPrefix_rest hl] at hp
  simp only [Bool.and_eq_true,beq_iff_eq] at hp
  exact spell_num s a w hl hp.1.symm hp.2.symm hs
 | false =>
  have HN:=Lib.hid (notPrefix_rest hp)
  rcases notPrefix_cases hp with h1 | ⟨h1,hq0⟩ | ⟨h1,hq0,hq1⟩
  all_goals
   clear hp
   go_enter Tryz.func281,Tryz.ntmps281
   go_wp2_with fail
   refine (sQuoted_any s a _ ha hs).mono ?_
   rintro e w1 ⟨rfl,hb1⟩
   obtain ⟨⟨r,wd,ok⟩,HQ⟩ : ∃ d,quotedP s a = d:=⟨_,rfl⟩
   rw [HQ]
   simp only
   cases ok with
   | false =>
    have HF : Hid (runeP s a = .error (21,a)):=Lib.hid (HN.out.trans (quoted_no HQ))
    clear HQ
    go_wp2
    refine bodyPost_ret (results_tmp4 rfl _ _ _) rfl ?_
    exact ⟨spell_err HF.out rfl,hb1⟩
   | true =>
    obtain ⟨hend,hw4,hr,hE⟩:=quoted_yes HQ
    have HE:=Lib.hid (HN.out.trans hE)
    clear HQ hE
    by_cases hr9 : r = 65533
    ·subst hr9
     by_cases hw1 : wd = 1
     ·subst hw1
      have HF : Hid (runeP s a = .error (23,a+1)):=Lib.hid (HE.out.trans (if_pos ⟨rfl,rfl⟩))
      go_wp2
      refine bodyPost_ret (results_tmp4 rfl _ _ _) rfl ?_
      exact ⟨spell_err HF.out rfl,hb1⟩
     ·have HF : Hid (runeP s a = .ok (((65533 : Nat) : Int),a+wd+2)):=Lib.hid (HE.out.trans (if_neg (fun h=>hw1 h.2)))
      have hq : ((wd : Int) == 1) = false:=by rw [beq_eq_false_iff_ne];omega
      clear hw1
      go_wp2
      refine bodyPost_ret (results_tmp4 rfl _ _ _) rfl ?_
      exact ⟨spell_ok HF.out rfl,hb1⟩
    ·have HF : Hid (runeP s a = .ok ((r : Int),a+wd+2)):=Lib.hid (HE.out.trans (if_neg (fun h=>hr9 h.1)))
     have hq : ((r : Int) == 65533) = false:=by rw [beq_eq_false_iff_ne];omega
     clear hr9
     go_wp2
     refine bodyPost_ret (results_tmp4 rfl _ _ _) rfl ?_
     exact ⟨spell_ok HF.out rfl,hb1⟩
end
section
open Go.RowKit
attribute [local go_sem ↓] neqR eqlR
end
section
open Go.RowKit
theorem lGrow_any (s : Int) (w : World) (h0 : 0≤s) (hs : s≤4000000) :
  Calls Tryz.prog 307 #[.slice none 0 0,.int .i64 s] w fun e w'=>∃ A c,e = .returned (.slice A 0 c)∧Own w' w.heap.size 248 2 A 0 c []∧RowKit.Below w.heap.size w w':=by
 obtain ⟨n,rfl⟩:=Int.eq_ofNat_of_zero_le h0
 obtain ⟨i0,hi0,hz0,hz1,hz2⟩:=info_parts infoR
 rcases Nat.eq_zero_or_pos n with hn | hn
 ·subst hn
  have h:=Any8.slices_Grow_room Tryz.growR none 0 0 0 w (by omega) (by omega) (by omega) (by omega)
  change Calls Tryz.prog 307 _ _ _ at h
  refine h.mono ?_
  rintro e w' ⟨rfl,rfl⟩
  exact ⟨none,0,rfl,Own.nil_ _ _ _ _,RowKit.Below.refl _ _⟩
 ·have h:=Any8.slices_Grow_grow Tryz.growR i0 _ hi0 hz0 (by omega) none 0 0 n [] w (by omega) (by omega) (by rw [hz2];omega) (by omega) (by simp) (fun _=>rfl) (fun a h=>by cases h)
  change Calls Tryz.prog 307 _ _ _ at h
  refine h.mono ?_
  rintro e w' ⟨rfl,rfl⟩
  have hge:=grownCap_ge w (0+n) 0 248
  refine ⟨_,_,rfl,⟨rfl,by simp,by simp,.inr ⟨w.heap.size,_,_,rfl,Nat.le_refl _,heap_alloc_new _ _,Nat.zero_le _,grownCap_le_maxLen _ _ _ _ (by unfold maxLen;omega),?_,by simp⟩⟩,((RowKit.Below.refl _ _).drew).alloc (Nat.le_refl _) _⟩
  simp [size_zeroCells,Value.cells]
  rw [Nat.zero_add] at hge
  change n≤grownCap w n 0 (Tryz.growR_ren.t 25) at hge
  generalize grownCap w n 0 (Tryz.growR_ren.t 25) = q at *
  omega
theorem lConcat_any (A A2 : Option Addr) (b n c n2 c2 : Nat) (x y : List (Int × Int)) (w : World) (hA : Rd w 2 A (x.map encR)) (hB : Rd w 2 A2 (y.map encR)) (hx : x.length = n) (hy : y.length = n2) (hn : n+n2≤4000000)
  (h0 : w.cell? ⟨b,0,none⟩ = some (.slice A n c)) (h1 : w.cell? ⟨b,1,none⟩ = some (.slice A2 n2 c2)) :
  Calls Tryz.prog 275 #[.slice (some ⟨b,0,none⟩) 2 2] w fun e w'=>∃ A' c',e = .returned (.slice A' (n+n2) c')∧Own w' w.heap.size 248 2 A' (n+n2) c' ((x++y).map encR)∧RowKit.Below w.heap.size w w':=by
 obtain ⟨i0,hi0,hz0,hz1,hz2⟩:=info_parts infoR
 have Hx:=Lib.hid hx
 have Hy:=Lib.hid hy
 clear hx hy
 go_enter Tryz.func275,Tryz.ntmps275
 go_wp2
 go_loop [3,11] (fun v i=>(v = .int .i64 0∧i = .int .i64 0)∨(v = .int .i64 n∧i = .int .i64 1)∨(v = .int .i64 (n+n2)∧i = .int .i64 2)) (fun _ i=>2 - (intOf i).toNat)
 case atStart=>exact .inl ⟨rfl,rfl⟩
 case round =>
  rcases hrel with ⟨rfl,rfl⟩ | ⟨rfl,rfl⟩ | ⟨rfl,rfl⟩
  ·go_wp2
   go_round
   case rel=>exact .inr (.inl ⟨rfl,rfl⟩)
   case measure=>simp [intOf]
  ·go_wp2
   go_round
   case rel=>exact .inr (.inr ⟨rfl,rfl⟩)
   case measure=>simp [intOf]
  ·go_wp2_with fail
   refine (lGrow_any (n+n2) w (by omega) (by omega)).mono ?_
   rintro e w1 ⟨A3,c3,rfl,ho1,hb1⟩
   have g0:=cell_keep h0 hb1
   have g1:=cell_keep h1 hb1
   have hA':=hA.below hb1
   have hB':=hB.below hb1
   have ho1 : Own w1 w.heap.size 248 2 A3 0 c3 []:=ho1
   go_wp2
   go_loopw [6,27] (fun v i wr=>∃ (A4 : Option Addr) (n4 c4 : Nat) (o : List (Int × Int)),v = .slice A4 n4 c4∧Own wr w.heap.size 248 2 A4 n4 c4 (o.map encR)∧RowKit.Below w.heap.size w wr ∧
     ((i = .int .i64 0∧n4 = 0∧Hid (o = []))∨(i = .int .i64 1∧n4 = n∧Hid (o = x))∨(i = .int .i64 2∧n4 = n+n2∧Hid (o = x++y)))) (fun _ i _=>2 - (intOf i).toNat)
   case atStart=>exact ⟨A3,0,c3,[],rfl,ho1,hb1,.inl ⟨rfl,rfl,rfl⟩⟩
   case round =>
    clear ho1 hb1 g0 g1 hA' hB'
    obtain ⟨A4,n4,c4,o,rfl,ho,hb,hrel⟩:=hrel
    have g0:=cell_keep h0 hb
    have g1:=cell_keep h1 hb
    have hA':=hA.below hb
    have hB':=hB.below hb
    rcases hrel with ⟨rfl,rfl,HO⟩ | ⟨rfl,rfl,HO⟩ | ⟨rfl,rfl,HO⟩
    ·go_wp2_with (at_builtin;go_must (refine wpList_app rfl (.tmp 31) (.tmp 32) _ rfl w.heap.size 248 i0 _ 2 8 Tryz.underlying218 hi0 hz0 hz1 hz2 rfl (by omega) A4 0 c4 (o.map encR) rfl ho A n c (x.map encR) rfl (by simpa using Hx.out) hA' (encR_ok x) (by unfold maxLen;omega) (by omega) hb.size ?_);intro A5 c5 w5 ho5 hg5 hA5;have hb5:=below_app hb hg5 hb.size (fun a ha=>(ho.lt a ha).1);clear hg5)
     have Ho5 : Own w5 w.heap.size 248 2 A5 n c5 (x.map encR):=by have:=HO.out;subst this;simpa using ho5
     clear ho5
     go_roundw
     case rel=>exact ⟨A5,n,c5,x,rfl,Ho5,hb5,.inr (.inl ⟨rfl,rfl,rfl⟩)⟩
     case measure=>simp [intOf]
    ·go_wp2_with (at_builtin;go_must (refine wpList_app rfl (.tmp 31) (.tmp 32) _ rfl w.heap.size 248 i0 _ 2 8 Tryz.underlying218 hi0 hz0 hz1 hz2 rfl (by omega) A4 n4 c4 (o.map encR) rfl ho A2 n2 c2 (y.map encR) rfl (by simpa using Hy.out) hB' (encR_ok y) (by unfold maxLen;omega) (by omega) hb.size ?_);intro A5 c5 w5 ho5 hg5 hA5;have hb5:=below_app hb hg5 hb.size (fun a ha=>(ho.lt a ha).1);clear hg5)
     have Ho5 : Own w5 w.heap.size 248 2 A5 (n4+n2) c5 ((x++y).map encR):=by have:=HO.out;subst this;simpa using ho5
     clear ho5
     go_roundw
     case rel=>exact ⟨A5,n4+n2,c5,x++y,rfl,Ho5,hb5,.inr (.inr ⟨rfl,rfl,rfl⟩)⟩
     case measure=>simp [intOf]
    ·go_wp2
     go_ret
     exact ⟨A4,c4,rfl,by have:=HO.out;subst this;exact ho,hb⟩
theorem rOr_any (A A2 : Option Addr) (n c n2 c2 : Nat) (a b : List (Int × Int)) (w : World) (hA : Rd w 2 A (a.map encR)) (hB : Rd w 2 A2 (b.map encR)) (ha : a.length = n) (hb : b.length = n2) (hn : n+n2≤4000000) :
  Calls Tryz.prog 225 #[.slice A n c,.slice A2 n2 c2] w fun e w'=>∃ A' n' c',e = .returned (.slice A' n' c')∧Own w' w.heap.size 248 2 A' n' c' ((orR a b).map encR)∧RowKit.Below w.heap.size w w':=by
 have Ha:=Lib.hid ha
 have Hb:=Lib.hid hb
 clear ha hb
 go_enter Tryz.func225,Tryz.ntmps225
 go_wp2_with fail
 refine (lConcat_any A A2 w.heap.size n c n2 c2 a b _ (hA.alloc _) (hB.alloc _) Ha.out Hb.out hn (by simp) (by simp)).mono ?_
 rintro e w1 ⟨A3,c3,rfl,ho1,hb1⟩
 have hb1' : RowKit.Below w.heap.size w w1:=below_two ((RowKit.Below.refl _ _).alloc (Nat.le_refl _) _) hb1
 have hrd:=ho1.rd (by omega)
 clear hb1
 go_wp2_with fail
 refine (rNorm_any A3 (n+n2) c3 (a++b) _ hrd (by rw [List.length_append,Ha.out,Hb.out]) hn).mono ?_
 rintro e w2 ⟨A4,n4,c4,rfl,ho2,hb2⟩
 go_wp2
 go_ret
 exact ⟨_,_,_,rfl,ho2.more hb1'.size,below_two hb1' hb2⟩
theorem rNot_any (A : Option Addr) (n c : Nat) (l : List (Int × Int)) (w : World) (hA : Rd w 2 A (l.map encR)) (hl : l.length = n) (hn : n≤4000000) :
  Calls Tryz.prog 228 #[.slice A n c] w fun e w'=>∃ A' n' c',e = .returned (.slice A' n' c')∧Own w' w.heap.size 248 2 A' n' c' ((notR l).map encR)∧RowKit.Below w.heap.size w w':=by
 obtain ⟨i0,hi0,hz0,hz1,hz2⟩:=info_parts infoR
 have Hl:=Lib.hid hl
 clear hl
 have HNF:=Lib.hid (normR_NF l)
 go_enter Tryz.func228,Tryz.ntmps228
 go_wp2_with (go_at_call 273;go_must (refine (rNorm_any A n c l _ hA Hl.out hn).mono ?_);rintro e w1 ⟨A1,n1,c1,rfl,ho1,hb1⟩)
 have hn1:=own_nf_len ho1 HNF.out
 have hrd:=ho1.rd (by omega)
 have Hn1 : Hid ((normR l).length = n1):=Lib.hid (by simpa using ho1.len)
 have hbs1:=hb1.size
 clear ho1
 go_loopw [3,4,10] (fun v x i wr=>∃ (k : Nat) (A2 : Option Addr) (n2 c2 : Nat) (o : List (Int × Int)) (next : Int),k≤n1∧n2≤k∧v = .slice A2 n2 c2∧x = .int .i32 next∧i = .int .i64 k∧0≤next∧next≤1114112 ∧
   Own wr w1.heap.size 248 2 A2 n2 c2 (o.map encR)∧Hid (o++notGo next ((normR l).drop k) = notR l)∧RowKit.Below w1.heap.size w1 wr) (fun _ _ i _=>n1 - (intOf i).toNat)
 case atStart=>exact ⟨0,none,0,0,[],0,by omega,by omega,rfl,rfl,rfl,by omega,by omega,Own.nil_ _ _ _ _,rfl,RowKit.Below.refl _ _⟩
 case round =>
  obtain ⟨k,A2,n2,c2,o,next,hk,hn2,rfl,rfl,rfl,hx0,hx1,ho,HO,hb⟩:=hrel
  have hbs:=hb.size
  by_cases hlt : k < n1
  ·obtain ⟨b,off,lo,hi,rfl,Hx,hc1,hc2⟩:=hrd.atR (k:=k) (by have:=Hn1.out;omega)
   have hr1:=cell_keep hc1 hb
   have hr2:=cell_keep hc2 hb
   obtain ⟨hb0,hb1',hb2⟩ : 0≤lo∧lo≤hi∧hi≤1114111:=by
    have hm:=List.mem_of_getElem? Hx.out
    have:=HNF.out.2 _ hm;have:=Nf_le HNF.out.1 _ hm;simp only at *;omega
   have HD:=Lib.hid (drop_cons_of Hx.out)
   have hbox:=hb.alloc hbs (.cells #[.int .i32 lo,.int .i32 hi] 248)
   by_cases hc : next < lo
   ·go_wp2_with (at_builtin;go_must (refine wpList_app rfl (.tmp 18) (.tmp 24) _ rfl w1.heap.size 248 i0 _ 2 8 Tryz.underlying218 hi0 hz0 hz1 hz2 rfl (by omega) A2 n2 c2 (o.map encR) rfl ((ho.alloc _).alloc _) _ 1 1 [encR (next,lo - 1)] rfl rfl (Rd.newAt (by simp) rfl) (encR_ok [(next,lo - 1)]) (by unfold maxLen;omega) (by omega) (by simp;omega) ?_);intro A3 c3 w3 ho3 hg3 hA3;have hb3:=below_app (hbox.alloc (by simp;omega) (.cells #[.int .i32 next,.int .i32 (lo - 1)] 248)) hg3 (by simp;omega) (fun a ha=>(ho.lt a ha).1);have h3 : w3.cell? ⟨wr.heap.size,1,none⟩ = some (.int .i32 hi):=(hg3.cell (by simp [World.cell?_alloc_past]) (fun e=>by cases A2 with | none=>simp at e | some a=>have:=(ho.lt a rfl).2;simp at e;omega));clear hg3)
    have Ho3 : Own w3 w1.heap.size 248 2 A3 (n2+1) c3 ((o++[(next,lo - 1)]).map encR):=by rw [List.map_append];exact ho3
    clear ho3
    go_roundw
    case rel=>exact ⟨k+1,A3,n2+1,c3,o++[(next,lo - 1)],hi+1,by omega,by omega,rfl,rfl,by go_num,by omega,by omega,Ho3,Lib.hid (by rw [← HO.out,HD.out,notGo_cons,if_pos hc,List.append_assoc]),hb3⟩
    case measure=>simp [intOf];omega
   ·have hge : lo≤next:=by omega
    go_wp2
    go_roundw
    case rel=>exact ⟨k+1,A2,n2,c2,o,hi+1,by omega,by omega,rfl,rfl,by go_num,by omega,by omega,ho.alloc _,Lib.hid (by rw [← HO.out,HD.out,notGo_cons,if_neg hc,List.nil_append]),hbox⟩
    case measure=>simp [intOf];omega
  ·have Hdr : Hid ((normR l).drop k = []):=Lib.hid (List.drop_of_length_le (by have:=Hn1.out;omega))
   by_cases hc : next≤1114111
   ·go_wp2_with (at_builtin;go_must (refine wpList_app rfl (.tmp 32) (.tmp 35) _ rfl w1.heap.size 248 i0 _ 2 8 Tryz.underlying218 hi0 hz0 hz1 hz2 rfl (by omega) A2 n2 c2 (o.map encR) rfl (ho.alloc _) _ 1 1 [encR (next,1114111)] rfl rfl (Rd.newAt (by simp) rfl) (encR_ok [(next,1114111)]) (by unfold maxLen;omega) (by omega) (by simp;omega) ?_);intro A3 c3 w3 ho3 hg3 hA3;have hb3:=below_app (hb.alloc hbs (.cells #[.int .i32 next,.int .i32 1114111] 248)) hg3 (by simp;omega) (fun a ha=>(ho.lt a ha).1);clear hg3)
    have Ho3 : Own w3 w1.heap.size 248 2 A3 (n2+1) c3 ((o++[(next,1114111)]).map encR):=by rw [List.map_append];exact ho3
    clear ho3
    go_ret
    exact ⟨_,_,_,rfl,by have:=HO.out;rw [Hdr.out,notGo_nil,if_pos hc] at this;rw [← this];exact Ho3.more hbs1,below_step hb1 hb3 hbs1⟩
   ·obtain rfl : next = 1114112:=by omega
    have HE : Hid (o = notR l):=Lib.hid (by have:=HO.out;rw [Hdr.out,notGo_nil,if_neg hc,List.append_nil] at this;exact this)
    clear hc hx1 hx0
    go_wp2
    go_ret
    exact ⟨_,_,_,rfl,by rw [← HE.out];exact ho.more hbs1,below_step hb1 hb hbs1⟩
end
section
open Go.RowKit Go.Maps
theorem full_small {d : DbP} (h : d.Ok) (ha : Apart d.sets) {k : Nat} {s : List (Int × Int)} (hk : d.full[k]? = some s) : s.length≤1114112:=by
 have h1:=full_lenS h ha
 obtain ⟨hlt,e⟩:=List.getElem?_eq_some_iff.1 hk
 have hd : d.full = d.full.take k++s :: d.full.drop (k+1):=by rw [← e,← List.drop_eq_getElem_cons hlt,List.take_append_drop]
 rw [hd,lenS_append] at h1
 have : lenS (s :: d.full.drop (k+1)) = s.length+lenS (d.full.drop (k+1)):=rfl
 omega
def encN (x : Nat) : List Value:=[.int .i64 (x : Int)]
theorem encN_ok (l : List Nat) : ∀ y ∈ l.map encN,y.length = 1∧∀ u ∈ y,u.oneCell' = true:=by
 intro y hy;obtain ⟨r,_,rfl⟩:=List.mem_map.1 hy
 exact ⟨rfl,by simp [encN,Value.oneCell']⟩
end
section
open Go.RowKit
abbrev Sv:=Option Addr × Nat × Nat
abbrev Pv:=Nat × Sv × Sv
def encPt (v : Pv) : List Value:=[.int .i64 (v.1 : Int),.slice v.2.1.1 v.2.1.2.1 v.2.1.2.2,.slice v.2.2.1 v.2.2.2.1 v.2.2.2.2]
structure SlX (w : World) (X : Nat→Prop) (s : Nat) (v : Sv) (cs : List (List Value)) : Prop where
 rd : Rd w s v.1 cs
 len : cs.length = v.2.1
 inn : ∀ a,v.1 = some a→X a.block∧a.block < w.heap.size
 cap : v.2.1≤v.2.2
structure KeepX (X X' : Nat→Prop) (w w' : World) : Prop where
 size : w.heap.size≤w'.heap.size
 block : ∀ b,X b→b < w.heap.size→w'.heap[b]? = w.heap[b]?
 more : ∀ b,X b→b < w.heap.size→X' b
theorem KeepX.below {X : Nat→Prop} {w w' : World} (hb : Below w.heap.size w w') : KeepX X X w w':=⟨hb.size,fun b _ h=>hb.block b h,fun _ h _=>h⟩
theorem KeepX.grown {X : Nat→Prop} {w w' : World} {row : Option Nat} (hg : w.grownBy w' row) (hr : ∀ r,row = some r→¬ X r) : KeepX X X w w' :=
 ⟨hg.size,fun b hb h=>hg.block b h (fun e=>hr b e.symm hb),fun _ h _=>h⟩
theorem KeepX.same {X X' : Nat→Prop} {w : World} (h : ∀ b,X b→b < w.heap.size→X' b) : KeepX X X' w w:=⟨Nat.le_refl _,fun _ _ _=>rfl,h⟩
theorem KeepX.trans {X Y Z : Nat→Prop} {a b c : World} (h : KeepX X Y a b) (k : KeepX Y Z b c) : KeepX X Z a c :=
 ⟨Nat.le_trans h.size k.size,fun i hi hl=>(k.block i (h.more i hi hl) (Nat.lt_of_lt_of_le hl h.size)).trans (h.block i hi hl),fun i hi hl=>k.more i (h.more i hi hl) (Nat.lt_of_lt_of_le hl h.size)⟩
theorem SlX.keep {X X' : Nat→Prop} {w w' : World} {s : Nat} {v : Sv} {cs : List (List Value)} (h : SlX w X s v cs) (k : KeepX X X' w w') : SlX w' X' s v cs :=
 ⟨h.rd.keep fun b off i u ha hc=>by
   obtain ⟨h1,h2⟩:=h.inn _ ha
   have:=k.block b h1 h2
   rw [← hc]
   simp [World.cell?,this],
  h.len,fun a ha=>⟨k.more _ (h.inn a ha).1 (h.inn a ha).2,Nat.lt_of_lt_of_le (h.inn a ha).2 k.size⟩,h.cap⟩
theorem SlX.own {w : World} {base : Nat} {e : TypeId} {s : Nat} {A : Option Addr} {n c : Nat} {cs : List (List Value)} {X : Nat→Prop} (h : Own w base e s A n c cs) (hs : 0 < s) (hX : ∀ a,A = some a→X a.block) : SlX w X s (A,n,c) cs :=
 ⟨h.rd hs,h.len,fun a ha=>⟨hX a ha,(h.lt a ha).2⟩,h.cap.1⟩
theorem SlX.nil_ (w : World) (X : Nat→Prop) (s : Nat) : SlX w X s (none,0,0) []:=⟨Rd.nil_ _ _ _,rfl,(fun a h=>by cases h),Nat.le_refl _⟩
mutual
def PatX (w : World) (X : Nat→Prop) : Pat→Pv→Prop
 | .node op cs ks,v=>v.1 = op∧SlX w X 1 v.2.1 (cs.map encN)∧∃ vs,SlX w X 3 v.2.2 (vs.map encPt)∧PatsX w X ks vs
def PatsX (w : World) (X : Nat→Prop) : List Pat→List Pv→Prop
 | [],vs=>vs = []
 | p :: ps,vs=>∃ v r,vs = v :: r∧PatX w X p v∧PatsX w X ps r
end
mutual
theorem PatX.keep {X X' : Nat→Prop} {w w' : World} (k : KeepX X X' w w') : ∀ {p : Pat} {v : Pv},PatX w X p v→PatX w' X' p v
 | .node op cs ks,v,h=>by
  simp only [PatX] at h ⊢
  obtain ⟨h1,h2,vs,h3,h4⟩:=h
  exact ⟨h1,h2.keep k,vs,h3.keep k,PatsX.keep k h4⟩
theorem PatsX.keep {X X' : Nat→Prop} {w w' : World} (k : KeepX X X' w w') : ∀ {ps : List Pat} {vs : List Pv},PatsX w X ps vs→PatsX w' X' ps vs
 | [],vs,h=>by simpa only [PatsX] using h
 | p :: ps,vs,h=>by
  simp only [PatsX] at h ⊢
  obtain ⟨v,r,h1,h2,h3⟩:=h
  exact ⟨v,r,h1,PatX.keep k h2,PatsX.keep k h3⟩
end
theorem PatX.below {X : Nat→Prop} {w w' : World} {p : Pat} {v : Pv} (h : PatX w X p v) (hb : Below w.heap.size w w') : PatX w' X p v:=h.keep (KeepX.below hb)
theorem PatsX.below {X : Nat→Prop} {w w' : World} {p : List Pat} {v : List Pv} (h : PatsX w X p v) (hb : Below w.heap.size w w') : PatsX w' X p v:=h.keep (KeepX.below hb)
theorem PatsX.len {X : Nat→Prop} {w : World} : ∀ {ps : List Pat} {vs : List Pv},PatsX w X ps vs→vs.length = ps.length
 | [],vs,h=>by simp only [PatsX] at h;rw [h];rfl
 | p :: ps,vs,h=>by
  simp only [PatsX] at h
  obtain ⟨v,r,rfl,h2,h3⟩:=h
  simp [PatsX.len h3]
theorem PatsX.at_ {X : Nat→Prop} {w : World} : ∀ {ps : List Pat} {vs : List Pv} {k : Nat} {p : Pat},PatsX w X ps vs→ps[k]? = some p→∃ v,vs[k]? = some v∧PatX w X p v
 | [],vs,k,p,h,hk=>by simp at hk
 | q :: ps,vs,k,p,h,hk=>by
  simp only [PatsX] at h
  obtain ⟨v,r,rfl,h2,h3⟩:=h
  cases k with
  | zero=>simp at hk;subst hk;exact ⟨v,by simp,h2⟩
  | succ k=>simp at hk;obtain ⟨u,hu,hp⟩:=PatsX.at_ h3 hk;exact ⟨u,by simpa using hu,hp⟩
theorem PatsX.snoc {X : Nat→Prop} {w : World} {p : Pat} {v : Pv} (hp : PatX w X p v) : ∀ {ps : List Pat} {vs : List Pv},PatsX w X ps vs→PatsX w X (ps++[p]) (vs++[v])
 | [],vs,h=>by simp only [PatsX] at h;subst h;simp only [List.nil_append,PatsX];exact ⟨v,[],rfl,hp,rfl⟩
 | q :: ps,vs,h=>by
  simp only [PatsX] at h
  obtain ⟨u,r,rfl,h2,h3⟩:=h
  simp only [List.cons_append,PatsX]
  exact ⟨u,r++[v],rfl,h2,PatsX.snoc hp h3⟩
theorem encPt_ok (l : List Pv) : ∀ y ∈ l.map encPt,y.length = 3∧∀ u ∈ y,u.oneCell' = true:=by
 intro y hy
 obtain ⟨x,_,rfl⟩:=List.mem_map.1 hy
 exact ⟨rfl,fun u hu=>by simp [encPt] at hu;rcases hu with rfl | rfl | rfl <;> rfl⟩
theorem SlX.atPt {w : World} {X : Nat→Prop} {v : Sv} {l : List Pv} {k : Nat} {x : Pv} (h : SlX w X 3 v (l.map encPt)) (hk : l[k]? = some x) :
  ∃ b off,v.1 = some ⟨b,off,none⟩∧w.cell? ⟨b,off+k*3,none⟩ = some (.int .i64 (x.1 : Int))∧w.cell? ⟨b,off+k*3+1,none⟩ = some (.slice x.2.1.1 x.2.1.2.1 x.2.1.2.2)∧w.cell? ⟨b,off+k*3+2,none⟩ = some (.slice x.2.2.1 x.2.2.2.1 x.2.2.2.2):=by
 obtain ⟨b,off,e,hc⟩:=h.rd (by intro e;cases l with | nil=>simp at hk | cons _ _=>simp at e)
 have h0:=hc k 0 (encPt x) _ (by simp [hk]) rfl
 have h1:=hc k 1 (encPt x) _ (by simp [hk]) rfl
 have h2:=hc k 2 (encPt x) _ (by simp [hk]) rfl
 exact ⟨b,off,e,by simpa using h0,h1,h2⟩
def encW (x : Nat) : List Value:=[.int .u64 (x : Int)]
theorem encW_ok (l : List Nat) : ∀ y ∈ l.map encW,y.length = 1∧∀ u ∈ y,u.oneCell' = true:=by
 intro y hy
 obtain ⟨x,_,rfl⟩:=List.mem_map.1 hy
 exact ⟨rfl,fun u hu=>by simp [encW] at hu;rcases hu with rfl;rfl⟩
def hasW (r : List Nat) (j : Nat) : Bool:=(r.getD (j / 64) 0).testBit (j % 64)
def orW (a b : List Nat) : List Nat:=List.zipWith (fun x y=>x ||| y) a b
def setW (r : List Nat) (j : Nat) : List Nat:=r.set (j / 64) (r.getD (j / 64) 0 ||| 2 ^ (j % 64))
structure Wide (k : Nat) (r : List Nat) : Prop where
 len : r.length = k
 lt : ∀ x ∈ r,x < 18446744073709551616
theorem Wide.at_ {k : Nat} {r : List Nat} (h : Wide k r) (i : Nat) : r.getD i 0 < 18446744073709551616:=by
 rw [List.getD_eq_getElem?_getD]
 cases hi : r[i]? with
 | none=>simp
 | some x=>exact h.lt x (List.mem_of_getElem? hi)
theorem Wide.zero (k : Nat) : Wide k (List.replicate k 0):=⟨by simp,fun x hx=>by rw [(List.mem_replicate.1 hx).2];omega⟩
theorem hasW_zero (k j : Nat) : hasW (List.replicate k 0) j = false:=by
 unfold hasW
 rw [List.getD_eq_getElem?_getD]
 cases hi : (List.replicate k 0)[j / 64]? with
 | none=>simp
 | some x=>rw [(List.mem_replicate.1 (List.mem_of_getElem? hi)).2];simp
theorem orW_get (a b : List Nat) (h : a.length = b.length) (i : Nat) : (orW a b).getD i 0 = (a.getD i 0 ||| b.getD i 0):=by
 unfold orW
 rw [List.getD_eq_getElem?_getD,List.getD_eq_getElem?_getD,List.getD_eq_getElem?_getD,List.getElem?_zipWith]
 rcases Nat.lt_or_ge i a.length with hl | hl
 ·rw [List.getElem?_eq_getElem hl,List.getElem?_eq_getElem (by omega : i < b.length)];rfl
 ·rw [List.getElem?_eq_none hl,List.getElem?_eq_none (by omega : b.length≤i)];rfl
theorem hasW_or {a b : List Nat} (h : a.length = b.length) (j : Nat) : hasW (orW a b) j = (hasW a j || hasW b j):=by
 unfold hasW
 rw [orW_get a b h,Nat.testBit_or]
theorem Wide.or {k : Nat} {a b : List Nat} (ha : Wide k a) (hb : Wide k b) : Wide k (orW a b):=by
 refine ⟨by unfold orW;rw [List.length_zipWith,ha.len,hb.len,Nat.min_self],fun x hx=>?_⟩
 obtain ⟨i,hi,e⟩:=List.getElem_of_mem hx
 have h1:=orW_get a b (by rw [ha.len,hb.len]) i
 rw [List.getD_eq_getElem?_getD,List.getElem?_eq_getElem hi,e] at h1
 simp only [Option.getD_some] at h1
 rw [h1]
 exact Nat.or_lt_two_pow (n:=64) (ha.at_ i) (hb.at_ i)
theorem hasW_set {r : List Nat} {j : Nat} (h : j / 64 < r.length) (i : Nat) : hasW (setW r j) i = (hasW r i || decide (i = j)):=by
 unfold hasW setW
 rw [List.getD_eq_getElem?_getD,List.getD_eq_getElem?_getD,List.getD_eq_getElem?_getD,List.getElem?_set]
 by_cases e : j / 64 = i / 64
 ·rw [if_pos e,if_pos h,Option.getD_some,Nat.testBit_or,e]
  congr 1
  rw [Nat.testBit_two_pow]
  exact decide_eq_decide.2 ⟨fun k=>by omega,fun k=>by omega⟩
 ·rw [if_neg e,decide_eq_false (by rintro rfl;exact e rfl),Bool.or_false]
theorem Wide.set_ {k : Nat} {r : List Nat} (h : Wide k r) (j : Nat) : Wide k (setW r j):=by
 refine ⟨by unfold setW;rw [List.length_set,h.len],fun x hx=>?_⟩
 rcases List.mem_or_eq_of_mem_set hx with hx | rfl
 ·exact h.lt x hx
 ·exact Nat.or_lt_two_pow (n:=64) (h.at_ _) (Nat.pow_lt_pow_right (by omega) (Nat.mod_lt _ (by omega)))
end
section
open Go.RowKit
structure MtR (w : World) (v : Sv) (n k : Nat) (C : List (List Nat)) : Prop where
 ex : ∃ rows : List Sv,Rd w 1 v.1 (rows.map encSl)∧rows.length = n∧v.2.1 = n∧C.length = n∧∀ (i : Nat) (r : Sv) (x : List Nat),rows[i]? = some r→C[i]? = some x→Rd w 1 r.1 (x.map encW)∧r.2.1 = k∧Wide k x
theorem MtR.below {w w' : World} {v : Sv} {n k : Nat} {C : List (List Nat)} (h : MtR w v n k C) (hb : Below w.heap.size w w') : MtR w' v n k C:=by
 obtain ⟨rows,h1,h2,h3,h4,h5⟩:=h.ex
 exact ⟨rows,h1.below hb,h2,h3,h4,fun i r x hr hx=>⟨(h5 i r x hr hx).1.below hb,(h5 i r x hr hx).2⟩⟩
theorem MtR.at_ {w : World} {v : Sv} {n k i : Nat} {C : List (List Nat)} (h : MtR w v n k C) (hi : i < n) :
  ∃ b off B c x,v.1 = some ⟨b,off,none⟩∧w.cell? ⟨b,off+i,none⟩ = some (.slice B k c)∧C[i]? = some x∧C.getD i [] = x∧Rd w 1 B (x.map encW)∧Wide k x:=by
 obtain ⟨rows,h1,h2,h3,h4,h5⟩:=h.ex
 obtain ⟨r,hr⟩ : ∃ r,rows[i]? = some r:=⟨_,List.getElem?_eq_getElem (by omega)⟩
 obtain ⟨x,hx⟩ : ∃ x,C[i]? = some x:=⟨_,List.getElem?_eq_getElem (by omega)⟩
 obtain ⟨b,off,e,hc⟩:=h1 (by intro e;have:=congrArg List.length e;rw [List.length_map,h2] at this;simp at this;omega)
 obtain ⟨g1,g2,g3⟩:=h5 i _ _ hr hx
 have h0:=hc i 0 (encSl r) (.slice r.1 r.2.1 r.2.2) (by simp [hr]) rfl
 rw [g2] at h0
 exact ⟨b,off,_,_,_,e,by simpa using h0,hx,by rw [List.getD_eq_getElem?_getD,hx];rfl,g1,g3⟩
structure MtO (w : World) (base : Nat) (A : Option Addr) (n c k : Nat) (rows : List Sv) (C : List (List Nat)) : Prop where
 sl : Own w base 266 1 A n c (rows.map encSl)
 len : C.length = n
 row : ∀ (i : Nat) (r : Sv) (x : List Nat),rows[i]? = some r→C[i]? = some x→Own w base 303 1 r.1 r.2.1 r.2.2 (x.map encW)∧Wide k x
 apart : ∀ (i j : Nat) (r q : Sv) (a b : Addr),rows[i]? = some r→rows[j]? = some q→r.1 = some a→q.1 = some b→a.block = b.block→i = j
theorem types_mt : (266 : TypeId) ≠ 303:=by decide
section
variable {w w' : World} {base n c k : Nat} {A : Option Addr} {rows : List Sv} {C : List (List Nat)}
theorem MtO.rlen (h : MtO w base A n c k rows C) : rows.length = n:=by have:=h.sl.len;rwa [List.length_map] at this
theorem MtO.below (h : MtO w base A n c k rows C) (hb : Below w.heap.size w w') : MtO w' base A n c k rows C :=
 ⟨h.sl.below hb,h.len,fun i r x hr hx=>⟨(h.row i r x hr hx).1.below hb,(h.row i r x hr hx).2⟩,h.apart⟩
theorem MtO.more {b' : Nat} (h : MtO w base A n c k rows C) (hb : b'≤base) : MtO w b' A n c k rows C :=
 ⟨h.sl.more hb,h.len,fun i r x hr hx=>⟨(h.row i r x hr hx).1.more hb,(h.row i r x hr hx).2⟩,h.apart⟩
theorem MtO.nil_ (w : World) (base k : Nat) : MtO w base none 0 0 k [] []:=⟨Own.nil_ _ _ _ _,rfl,fun i r x h=>by simp at h,fun i j r q a b h=>by simp at h⟩
theorem MtO.rd (h : MtO w base A n c k rows C) : MtR w (A,n,c) n k C :=
 ⟨rows,h.sl.rd (by omega),h.rlen,rfl,h.len,fun i r x hr hx=>⟨(h.row i r x hr hx).1.rd (by omega),by
  have h1:=(h.row i r x hr hx).1.len
  have h2:=(h.row i r x hr hx).2.len
  rw [List.length_map] at h1
  omega,(h.row i r x hr hx).2⟩⟩
theorem MtO.at_ {i : Nat} (h : MtO w base A n c k rows C) (hi : i < n) (hk : 0 < k) :
  ∃ b g d x,A = some ⟨b,0,none⟩∧rows[i]? = some (some ⟨g,0,none⟩,k,d)∧w.cell? ⟨b,i,none⟩ = some (.slice (some ⟨g,0,none⟩) k d)∧C[i]? = some x∧C.getD i [] = x∧Own w base 303 1 (some ⟨g,0,none⟩) k d (x.map encW)∧Wide k x:=by
 obtain ⟨b,rfl,hb,_⟩:=h.sl.form (by omega)
 obtain ⟨r,hr⟩ : ∃ r,rows[i]? = some r:=⟨_,List.getElem?_eq_getElem (by have:=h.rlen;omega)⟩
 obtain ⟨x,hx⟩ : ∃ x,C[i]? = some x:=⟨_,List.getElem?_eq_getElem (by have:=h.len;omega)⟩
 obtain ⟨g1,g2⟩:=h.row i _ _ hr hx
 have hl : r.2.1 = k:=by have h1:=g1.len;rw [List.length_map,g2.len] at h1;exact h1.symm
 obtain ⟨r1,r2,r3⟩:=r
 simp only at g1 hl
 subst hl
 obtain ⟨g,rfl,_,_⟩:=g1.form hk
 have h0:=h.sl.cell (k:=i) (j:=0) (x:=encSl (some ⟨g,0,none⟩,r2,r3)) (u:=.slice (some ⟨g,0,none⟩) r2 r3) (by simp [hr]) rfl
 exact ⟨b,g,r3,_,rfl,hr,by simpa using h0,hx,by rw [List.getD_eq_getElem?_getD,hx];rfl,g1,g2⟩
theorem MtO.snoc {w3 : World} {A3 : Option Addr} {c3 : Nat} {o : Obj} {r : Sv} {x : List Nat} (h : MtO w base A n c k rows C) (hr : Own w base 303 1 r.1 r.2.1 r.2.2 (x.map encW)) (hx : Wide k x)
  (hf : ∀ (i : Nat) (q : Sv) (a b : Addr),rows[i]? = some q→q.1 = some a→r.1 = some b→a.block ≠ b.block)
  (ho3 : Own w3 base 266 1 A3 (n+1) c3 ((rows++[r]).map encSl)) (hg3 : (w.alloc o).grownBy w3 (A.map (·.block))) : MtO w3 base A3 (n+1) c3 k (rows++[r]) (C++[x]):=by
 have hg : w.grownBy w3 (A.map (·.block)):=grown_alloc hg3
 have keep : ∀ {r : Sv} {x : List Nat},Own w base 303 1 r.1 r.2.1 r.2.2 (x.map encW)→Own w3 base 303 1 r.1 r.2.1 r.2.2 (x.map encW):=fun h1=>h1.grown hg (fun a ha e=>by
  cases hA : A with
  | none=>rw [hA] at e;cases e
  | some b=>rw [hA] at e;simp at e;exact h.sl.apart h1 types_mt b a hA ha e.symm)
 have hl:=h.rlen
 refine ⟨ho3,by simp [h.len],fun i q y hq hy=>?_,fun i j q z a b hq hz ha hb e=>?_⟩
 ·rcases Nat.lt_trichotomy i n with hi | hi | hi
  ·rw [List.getElem?_append_left (by omega)] at hq
   rw [List.getElem?_append_left (by have:=h.len;omega)] at hy
   exact ⟨keep (h.row i q y hq hy).1,(h.row i q y hq hy).2⟩
  ·rw [List.getElem?_append_right (by omega),hi,hl,Nat.sub_self] at hq
   rw [List.getElem?_append_right (by have:=h.len;omega),hi,h.len,Nat.sub_self] at hy
   simp at hq hy
   subst hq;subst hy
   exact ⟨keep hr,hx⟩
  ·rw [List.getElem?_eq_none (by simp;omega)] at hq;cases hq
 ·have hlt : ∀ {i : Nat} {q : Sv},(rows++[r])[i]? = some q→(i < n∧rows[i]? = some q)∨(i = n∧q = r):=fun {i q} hq=>by
   rcases Nat.lt_trichotomy i n with hi | hi | hi
   ·rw [List.getElem?_append_left (by omega)] at hq;exact .inl ⟨hi,hq⟩
   ·rw [List.getElem?_append_right (by omega),hi,hl,Nat.sub_self] at hq;simp at hq;exact .inr ⟨hi,hq.symm⟩
   ·rw [List.getElem?_eq_none (by simp;omega)] at hq;cases hq
  rcases hlt hq with ⟨hi,kq⟩ | ⟨hi,eq_⟩ <;> rcases hlt hz with ⟨hj,kz⟩ | ⟨hj,ez⟩
  ·exact h.apart i j q z a b kq kz ha hb e
  ·subst ez;exact absurd e (hf i q a b kq ha hb)
  ·subst eq_;exact absurd e.symm (hf j z b a kz hb ha)
  ·omega
theorem MtO.wrote {i g d : Nat} {x : List Nat} (h : MtO w base A n c k rows C) (hr : rows[i]? = some (some ⟨g,0,none⟩,k,d)) (hg : w.grownBy w' (some g)) (ho : Own w' base 303 1 (some ⟨g,0,none⟩) k d (x.map encW)) (hx : Wide k x) :
  MtO w' base A n c k rows (C.set i x):=by
 have hl:=h.rlen
 have hi : i < n:=by have:=(List.getElem?_eq_some_iff.1 hr).1;omega
 obtain ⟨y,hC⟩ : ∃ y,C[i]? = some y:=⟨_,List.getElem?_eq_getElem (by have:=h.len;omega)⟩
 have hrow:=(h.row i _ _ hr hC).1
 refine ⟨h.sl.grown hg (fun a ha e=>h.sl.apart hrow types_mt a ⟨g,0,none⟩ ha rfl (by injection e)),by rw [List.length_set];exact h.len,fun j q y hq hy=>?_,h.apart⟩
 by_cases e : i = j
 ·subst e
  rw [hr] at hq
  injection hq with hq
  subst hq
  rw [List.getElem?_set_self (by have:=h.len;omega)] at hy
  injection hy with hy
  subst hy
  exact ⟨ho,hx⟩
 ·rw [List.getElem?_set_ne e] at hy
  obtain ⟨h1,h2⟩:=h.row j q y hq hy
  exact ⟨h1.grown hg (fun a ha e2=>e (h.apart i j _ _ ⟨g,0,none⟩ a hr hq rfl ha (by injection e2 with e2;exact e2.symm))),h2⟩
end
def BitsM (n : Nat) (C : List (List Nat)) (m : Mtx) : Prop:=∀ i j,i < n→j < n→hasW (C.getD i []) j = m i j
theorem getD_set {α : Type} {C : List α} {i j : Nat} {x d : α} (h : i < C.length) : (C.set i x).getD j d = if i = j then x else C.getD j d:=by
 rw [List.getD_eq_getElem?_getD,List.getD_eq_getElem?_getD,List.getElem?_set]
 by_cases e : i = j
 ·rw [if_pos e,if_pos h,if_pos e];rfl
 ·rw [if_neg e,if_neg e]
end
section
open Go.RowKit
theorem Rd.atW {w : World} {A : Option Addr} {l : List Nat} {k x : Nat} (h : Rd w 1 A (l.map encW)) (hk : l[k]? = some x) : ∃ b off,A = some ⟨b,off,none⟩∧w.cell? ⟨b,off+k,none⟩ = some (.int .u64 (x : Nat)):=by
 obtain ⟨b,off,rfl,hc⟩:=h (by intro e;cases l with | nil=>simp at hk | cons _ _=>simp at e)
 have h0:=hc k 0 (encW x) (.int .u64 (x : Nat)) (by simp [hk]) rfl
 exact ⟨b,off,rfl,by simpa using h0⟩
theorem bits_test (y m : Nat) (h : y < 18446744073709551616) : (bits BinOp.and IntKind.u64 ((y : Int) / 2 ^ m) 1 == (1 : Int)) = y.testBit m:=by
 have e : (y : Int) / 2 ^ m = ((y / 2 ^ m : Nat) : Int):=by simp
 have hle : y / 2 ^ m≤y:=Nat.div_le_self _ _
 rw [e,Nat.testBit_eq_decide_div_mod_eq]
 generalize y / 2 ^ m = z at hle ⊢
 rw [and_one_u64 _ (by omega) (by omega),Bool.eq_iff_iff,beq_iff_eq,decide_eq_true_iff]
 omega
theorem jhas_any (A : Option Addr) (n c i : Nat) (x : List Nat) (w : World) (hA : Rd w 1 A (x.map encW)) (hx : Wide n x) (hi : i / 64 < n) (hz : i≤4000000) :
  Calls Tryz.prog 253 #[.slice A n c,.int .i64 i] w fun e w'=>e = .returned (.bool (hasW x i))∧w = w':=by
 obtain ⟨y,hy⟩ : ∃ y,x[i / 64]? = some y:=⟨_,List.getElem?_eq_getElem (by have:=hx.len;omega)⟩
 have HV : Hid (hasW x i = y.testBit (i % 64)):=Lib.hid (by unfold hasW;rw [List.getD_eq_getElem?_getD,hy];rfl)
 have hlt:=hx.lt y (List.mem_of_getElem? hy)
 obtain ⟨b,off,rfl,hc⟩:=hA.atW hy
 obtain ⟨d,hd⟩ : ∃ d,i / 64 = d:=⟨_,rfl⟩
 obtain ⟨m,hm⟩ : ∃ m,i % 64 = m:=⟨_,rfl⟩
 have q1 : Int.tdiv (i : Int) 64 = (d : Int):=by subst hd;rfl
 have q2 : Int.tmod (i : Int) 64 = (m : Int):=by subst hm;rfl
 have hm64 : m < 64:=by omega
 have hdz : d < n:=by omega
 have hdz2 : d≤4000000:=by omega
 rw [hm] at HV
 rw [hd] at hc
 clear hd hm hy hi
 go_enter Tryz.func253,Tryz.ntmps253
 go_wp2
 go_ret
 exact ⟨by rw [HV.out,← bits_test y m hlt];rfl,rfl⟩
theorem jset_any (base g n c i : Nat) (x : List Nat) (w : World) (hA : Own w base 303 1 (some ⟨g,0,none⟩) n c (x.map encW)) (hx : Wide n x) (hi : i / 64 < n) (hz : i≤4000000) :
  Calls Tryz.prog 291 #[.slice (some ⟨g,0,none⟩) n c,.int .i64 i] w fun e w'=>e = .returned (.tuple #[])∧Own w' base 303 1 (some ⟨g,0,none⟩) n c ((setW x i).map encW)∧w.grownBy w' (some g):=by
 obtain ⟨y,hy⟩ : ∃ y,x[i / 64]? = some y:=⟨_,List.getElem?_eq_getElem (by have:=hx.len;omega)⟩
 have HV : Hid (setW x i = x.set (i / 64) (y ||| 2 ^ (i % 64))):=Lib.hid (by unfold setW;rw [List.getD_eq_getElem?_getD,hy];rfl)
 have hlt:=hx.lt y (List.mem_of_getElem? hy)
 have hc:=hA.cell (k:=i / 64) (j:=0) (x:=encW y) (u:=.int .u64 (y : Nat)) (by simp [hy]) rfl
 have hf:=hA.frozen (i / 64)
 have hO:=Lib.hid (fun v=>hA.stored (k:=i / 64) (j:=0) (x:=encW y) (by simp [hy]) (by omega) v)
 obtain ⟨d,hd⟩ : ∃ d,i / 64 = d:=⟨_,rfl⟩
 obtain ⟨m,hm⟩ : ∃ m,i % 64 = m:=⟨_,rfl⟩
 have q1 : Int.tdiv (i : Int) 64 = (d : Int):=by subst hd;rfl
 have q2 : Int.tmod (i : Int) 64 = (m : Int):=by subst hm;rfl
 have hm64 : m < 64:=by omega
 have hdz : d < n:=by omega
 have hdz2 : d≤4000000:=by omega
 rw [hm] at HV
 simp only [Nat.mul_one,Nat.add_zero] at hc hO
 rw [hd] at hc hf hO HV
 clear hd hm hi
 go_enter Tryz.func291,Tryz.ntmps291
 go_wp2
 go_end0
 have hw : IntKind.u64.wrap ((2 : Int) ^ m) = ((2 ^ m : Nat) : Int):=by
  have h2 : 2 ^ m < 18446744073709551616:=Nat.pow_lt_pow_right (a:=2) (m:=m) (n:=64) (by omega) hm64
  have e : ((2 : Int) ^ m) = ((2 ^ m : Nat) : Int):=by simp
  rw [e]
  generalize 2 ^ m = z at h2 ⊢
  rw [IntKind.wrap_u64];omega
 have h2 : 2 ^ m < 18446744073709551616:=Nat.pow_lt_pow_right (a:=2) (m:=m) (n:=64) (by omega) hm64
 rw [hw,bits_or_u64_nat y (2 ^ m) hlt h2]
 refine ⟨rfl,?_,only_setCell (only_refl _ _) (.inl rfl) _⟩
 rw [HV.out,List.map_set]
 exact hO.out _
def orTo (i : Nat) (x y : List Nat) : List Nat:=(orW x y).take i++x.drop i
theorem orTo_all {k : Nat} {x y : List Nat} (hx : Wide k x) (hy : Wide k y) : orTo k x y = orW x y:=by
 unfold orTo
 rw [List.take_of_length_le (by rw [(hx.or hy).len];omega),List.drop_of_length_le (by rw [hx.len];omega),List.append_nil]
theorem orTo_at {k i : Nat} {x y : List Nat} {a b : Nat} (hx : Wide k x) (hy : Wide k y) (ha : x[i]? = some a) (hb : y[i]? = some b) : (orTo i x y)[i]? = some a∧(orTo i x y).set i (a ||| b) = orTo (i+1) x y:=by
 have hi : i < k:=by have:=(List.getElem?_eq_some_iff.1 ha).1;rw [hx.len] at this;exact this
 have hl : ((orW x y).take i).length = i:=by rw [List.length_take,(hx.or hy).len];omega
 have ho : (orW x y)[i]? = some (a ||| b):=by unfold orW;rw [List.getElem?_zipWith,ha,hb]
 have hd : x.drop i = a :: x.drop (i+1):=by
  obtain ⟨h1,h2⟩:=List.getElem?_eq_some_iff.1 ha
  rw [List.drop_eq_getElem_cons h1,h2]
 unfold orTo
 constructor
 ·rw [List.getElem?_append_right (by omega),hl,Nat.sub_self,hd];rfl
 ·rw [List.set_append_right _ _ (by omega),hl,Nat.sub_self,hd,zE,List.take_add_one,ho,List.append_assoc];rfl
theorem jadd_any (base g n c m d : Nat) (B : Option Addr) (x y : List Nat) (w : World) (hA : Own w base 303 1 (some ⟨g,0,none⟩) n c (x.map encW)) (hx : Wide n x) (hB : Rd w 1 B (y.map encW)) (hy : Wide n y)
  (hg : ∀ a,B = some a→a.block ≠ g) (hm : m = n) (hn : n≤4000000) :
  Calls Tryz.prog 326 #[.slice (some ⟨g,0,none⟩) n c,.slice B m d] w fun e w'=>e = .returned (.tuple #[])∧Own w' base 303 1 (some ⟨g,0,none⟩) n c ((orW x y).map encW)∧w.grownBy w' (some g):=by
 subst hm
 have HE:=Lib.hid (orTo_all hx hy)
 go_enter Tryz.func326,Tryz.ntmps326
 go_wp2
 go_loopw [4] (fun v wr=>∃ i : Nat,v = .int .i64 i∧i≤m∧Own wr base 303 1 (some ⟨g,0,none⟩) m c ((orTo i x y).map encW)∧Rd wr 1 B (y.map encW)∧w.grownBy wr (some g)) (fun v _=>m - (intOf v).toNat)
 case atStart=>exact ⟨0,rfl,by omega,hA,hB,only_refl _ _⟩
 case round =>
  obtain ⟨i,rfl,hi,ho,hb,hgr⟩:=hrel
  by_cases hlt : i < m
  ·obtain ⟨a,ha⟩ : ∃ a,x[i]? = some a:=⟨_,List.getElem?_eq_getElem (by have:=hx.len;omega)⟩
   obtain ⟨b,hb'⟩ : ∃ b,y[i]? = some b:=⟨_,List.getElem?_eq_getElem (by have:=hy.len;omega)⟩
   have haz:=hx.lt a (List.mem_of_getElem? ha)
   have hbz:=hy.lt b (List.mem_of_getElem? hb')
   obtain ⟨e1,e2⟩:=orTo_at hx hy ha hb'
   have E2:=Lib.hid e2
   have E3:=Lib.hid e1
   have c1:=ho.cell (k:=i) (j:=0) (x:=encW a) (u:=.int .u64 (a : Nat)) (by simp [e1]) rfl
   have f1:=ho.frozen i
   obtain ⟨bk,off,rfl,c2⟩:=hb.atW hb'
   simp only [Nat.mul_one,Nat.add_zero] at c1
   have hor:=bits_or_u64_nat a b haz hbz
   clear ha hb' e1 e2 haz hbz
   go_wp2_with fail
   go_region
   go_wp2
   go_roundw
   case rel =>
    refine ⟨i+1,by go_num,by omega,?_,(hb.setCell (p:=⟨g,i,none⟩) (fun a ha=>hg a ha) _).drew,only_drew (only_setCell hgr (.inl rfl) _)⟩
    have h1:=(ho.stored (k:=i) (j:=0) (x:=encW a) (by rw [List.getElem?_map,E3.out];rfl) (by omega) (.int .u64 ((a ||| b : Nat) : Int))).drew
    simp only [Nat.mul_one,Nat.add_zero] at h1
    rw [← E2.out,List.map_set]
    exact h1
   case measure=>simp [intOf];omega
  ·obtain rfl : i = m:=by omega
   go_wp2
   go_end0
   exact ⟨rfl,by rw [← HE.out];exact ho,hgr⟩
theorem or_self : ∀ x : List Nat,orW x x = x
 | []=>rfl
 | a :: r=>by show (a ||| a) :: orW r r = _;rw [Nat.or_self,or_self r]
theorem jadd_self (base g n c : Nat) (x : List Nat) (w : World) (hA : Own w base 303 1 (some ⟨g,0,none⟩) n c (x.map encW)) (hx : Wide n x) (hn : n≤4000000) :
  Calls Tryz.prog 326 #[.slice (some ⟨g,0,none⟩) n c,.slice (some ⟨g,0,none⟩) n c] w fun e w'=>e = .returned (.tuple #[])∧Own w' base 303 1 (some ⟨g,0,none⟩) n c ((orW x x).map encW)∧w.grownBy w' (some g):=by
 rw [or_self]
 go_enter Tryz.func326,Tryz.ntmps326
 go_wp2
 go_loopw [4] (fun v wr=>∃ i : Nat,v = .int .i64 i∧i≤n∧Own wr base 303 1 (some ⟨g,0,none⟩) n c (x.map encW)∧w.grownBy wr (some g)) (fun v _=>n - (intOf v).toNat)
 case atStart=>exact ⟨0,rfl,by omega,hA,only_refl _ _⟩
 case round =>
  obtain ⟨i,rfl,hi,ho,hgr⟩:=hrel
  by_cases hlt : i < n
  ·obtain ⟨a,ha⟩ : ∃ a,x[i]? = some a:=⟨_,List.getElem?_eq_getElem (by have:=hx.len;omega)⟩
   have E3:=Lib.hid ha
   have haz:=hx.lt a (List.mem_of_getElem? ha)
   have c1:=ho.cell (k:=i) (j:=0) (x:=encW a) (u:=.int .u64 (a : Nat)) (by simp [ha]) rfl
   have f1:=ho.frozen i
   simp only [Nat.mul_one,Nat.add_zero] at c1
   have hor:=bits_or_u64_nat a a haz haz
   rw [Nat.or_self] at hor
   clear ha haz
   go_wp2_with fail
   go_region
   go_wp2
   go_roundw
   case rel =>
    refine ⟨i+1,by go_num,by omega,?_,only_drew (only_setCell hgr (.inl rfl) _)⟩
    have h1:=(ho.stored (k:=i) (j:=0) (x:=encW a) (by simp [E3.out]) (by omega) (.int .u64 (a : Int))).drew
    simp only [Nat.mul_one,Nat.add_zero] at h1
    have e : (x.map encW).set i ((encW a).set 0 (.int .u64 (a : Int))) = x.map encW:=by
     refine List.ext_getElem? fun j=>?_
     rw [List.getElem?_set]
     split
     ·rename_i h;subst h;split
      ·rw [List.getElem?_map,E3.out];rfl
      ·rw [List.getElem?_eq_none (by omega)]
     ·rfl
    rw [e] at h1
    exact h1
   case measure=>simp [intOf];omega
  ·obtain rfl : i = n:=by omega
   go_wp2
   go_end0
   exact ⟨rfl,ho,hgr⟩
end
section
open Go.RowKit
theorem infoRow : (Tryz.prog.info? 266).map (fun i=>(i.zero,i.size,i.bytes)) = some (some (.slice none 0 0),1,24):=by kernel_rfl
theorem infoU64 : (Tryz.prog.info? 303).map (fun i=>(i.zero,i.size,i.bytes)) = some (some (.int .u64 0),1,8):=by kernel_rfl
theorem below_new {w w' : World} (h : w.grownBy w' none) : Below w.heap.size w w':=⟨h.os,h.tape,h.output,h.size,fun k hk=>h.block k hk (fun e=>by cases e)⟩
theorem made_zero (n : Nat) : (madeCells (Value.int .u64 0).cells (n*1)).toList = ((List.replicate n 0).map encW).flatten:=by
 rw [Nat.mul_one]
 unfold madeCells
 rw [Array.toList_map,Array.toList_range]
 induction n with
 | zero=>rfl
 | succ n ih =>
  rw [List.range_succ,List.map_append,ih,List.replicate_succ',List.map_append,List.flatten_append]
  congr 1
  simp [encW,Value.cells,Nat.mod_one]
theorem own_made {w : World} {base g n : Nat} (h : w.ownsRow base 303 1 (.slice (some ⟨g,0,none⟩) n n) n (madeCells (Value.int .u64 0).cells (n*1)).toList) : Own w base 303 1 (some ⟨g,0,none⟩) n n ((List.replicate n 0).map encW) :=
 ⟨by simp,fun x hx=>(encW_ok _ x hx).1,by rw [← made_zero];exact h⟩
def zeroC (n k : Nat) : List (List Nat):=List.replicate n (List.replicate k 0)
theorem jnone_any (n : Nat) (w : World) (hn : n≤1000000) :
  Calls Tryz.prog 290 #[.int .i64 n] w fun e w'=>∃ A c rows,e = .returned (.slice A n c)∧MtO w' w.heap.size A n c (n / 64+1) rows (zeroC n (n / 64+1))∧Below w.heap.size w w':=by
 obtain ⟨i0,hi0,hz0,hz1,hz2⟩:=info_parts infoRow
 obtain ⟨j0,hj0,hy0,hy1,hy2⟩:=info_parts infoU64
 obtain ⟨d,hd⟩ : ∃ d,n / 64 = d:=⟨_,rfl⟩
 have q1 : Int.tdiv (n : Int) 64 = (d : Int):=by subst hd;rfl
 have hdz : d≤1000000:=by omega
 rw [hd]
 clear hd
 go_enter Tryz.func290,Tryz.ntmps290
 go_wp2
 go_loopw [3,4] (fun u v wr=>∃ (i : Nat) (A : Option Addr) (c : Nat) (rows : List Sv),u = .slice A i c∧v = .int .i64 i∧i≤n∧MtO wr w.heap.size A i c (d+1) rows (zeroC i (d+1))∧Below w.heap.size w wr) (fun _ v _=>n - (intOf v).toNat)
 case atStart=>exact ⟨0,none,0,[],rfl,rfl,by omega,MtO.nil_ _ _ _,Below.refl _ _⟩
 case round =>
  obtain ⟨i,A,c,rows,rfl,rfl,hi,ho,hb⟩:=hrel
  have hsz:=hb.size
  have hlen:=ho.rlen
  by_cases hlt : i < n
  ·go_wp2_with (first
    | (at_make;go_must (refine wpList_make_full _ rfl (.tmp 13) (.tmp 13) 266 rfl w.heap.size 303 j0 (.int .u64 0) 1 Tryz.underlying266 hj0 hy0 hy1 .i64 .i64 _ _ (d+1) rfl rfl (by omega) (by omega) (by rw [hy2];omega) (by unfold maxLen;omega) hsz ?_);intro w2 ho2 hg2)
    | (at_builtin;go_must (refine wpList_app rfl (.tmp 10) (.tmp 15) _ rfl w.heap.size 266 i0 _ 1 24 Tryz.underlying263 hi0 hz0 hz1 hz2 rfl (by omega) A i c (rows.map encSl) rfl ((ho.below (below_new hg2)).sl.alloc _) _ 1 1 [encSl (some ⟨wr.heap.size,0,none⟩,d+1,d+1)] rfl rfl (Rd.newAt (by simp) rfl) (encSl_ok [_]) (by unfold maxLen;omega) (by omega) (by have:=hg2.size;simp;omega) ?_);intro A3 c3 w3 ho3 hg3 hA3))
   have hfr : ∀ (j : Nat) (q : Sv) (a b : Addr),rows[j]? = some q→q.1 = some a→(some ⟨wr.heap.size,0,none⟩ : Option Addr) = some b→a.block ≠ b.block:=fun j q a b hq ha hb e=>by
    injection hb with hb
    subst hb
    obtain ⟨x,hx⟩ : ∃ x,(zeroC i (d+1))[j]? = some x:=⟨_,List.getElem?_eq_getElem (by have:=(List.getElem?_eq_some_iff.1 hq).1;have:=ho.len;omega)⟩
    have:=((ho.row j q x hq hx).1.lt a ha).2
    simp only at e
    omega
   have hm:=(ho.below (below_new hg2)).snoc (r:=(some ⟨wr.heap.size,0,none⟩,d+1,d+1)) (x:=List.replicate (d+1) 0) (own_made ho2) (Wide.zero _) hfr (by rw [List.map_append];exact ho3) hg3
   have hb3 : Below w.heap.size w w3:=below_app ((hb.trans ((below_new hg2).mono hsz)).alloc (by have:=hg2.size;omega) _) hg3 (by have:=hg2.size;simp;omega) (fun a ha=>(ho.sl.lt a ha).1)
   go_roundw
   case rel=>exact ⟨i+1,A3,c3,_,rfl,by go_num,by omega,by rw [show zeroC (i+1) (d+1) = zeroC i (d+1)++[List.replicate (d+1) 0] from List.replicate_succ'];exact hm,hb3⟩
   case measure=>simp [intOf];omega
  ·obtain rfl : i = n:=by omega
   go_wp2
   go_ret
   exact ⟨A,c,rows,rfl,ho,hb⟩
theorem zero_at {n k i : Nat} (hi : i < n) : (zeroC n k).getD i [] = List.replicate k 0:=by unfold zeroC;rw [List.getD_eq_getElem?_getD,List.getElem?_replicate,if_pos hi];rfl
theorem zero_bits (n k : Nat) : BitsM n (zeroC n k) noneM:=fun i j hi _=>by rw [zero_at hi,hasW_zero];rfl
theorem BitsM.step {n i : Nat} {C : List (List Nat)} {m m' : Mtx} {x : List Nat} (h : BitsM n C m) (hi : i < C.length) (h1 : ∀ j,j < n→hasW x j = m' i j) (h2 : ∀ y j,y < n→j < n→y ≠ i→m' y j = m y j) : BitsM n (C.set i x) m':=fun y j hy hj=>by
 rw [getD_set hi]
 by_cases e : i = y
 ·rw [if_pos e];subst e;exact h1 j hj
 ·rw [if_neg e,h y j hy hj,h2 y j hy hj (fun k=>e k.symm)]
theorem BitsM.congr {n : Nat} {C : List (List Nat)} {m m' : Mtx} (h : BitsM n C m) (e : ∀ i j,i < n→j < n→m' i j = m i j) : BitsM n C m':=fun i j hi hj=>by rw [h i j hi hj,e i j hi hj]
theorem BitsM.row {n i : Nat} {C : List (List Nat)} {m : Mtx} {x : List Nat} (h : BitsM n C m) (hx : C.getD i [] = x) (hi : i < n) : ∀ j,j < n→hasW x j = m i j:=fun j hj=>by rw [← hx];exact h i j hi hj
def MtEnd (w : World) (n : Nat) (m : Mtx) (e : Ending) (w' : World) : Prop:=∃ A c rows C,e = .returned (.slice A n c)∧MtO w' w.heap.size A n c (n / 64+1) rows C∧BitsM n C m∧Below w.heap.size w w'
theorem jown_any (n : Nat) (w : World) (hn : n≤1000000) : Calls Tryz.prog 292 #[.int .i64 n] w (MtEnd w n ownM):=by
 have HN:=Lib.hid (jnone_any n w hn)
 obtain ⟨k,Hk⟩ : ∃ k,Hid (n / 64+1 = k):=⟨_,Lib.hid rfl⟩
 have hk0 : 0 < k:=by have:=Hk.out;omega
 rw [Hk.out] at HN
 unfold MtEnd
 rw [Hk.out]
 go_enter Tryz.func292,Tryz.ntmps292
 go_wp2_with fail
 refine HN.out.mono ?_
 rintro e w1 ⟨A,c,rows,rfl,ho1,hb1⟩
 have HZ:=Lib.hid (zero_bits n k)
 generalize zeroC n k = C0 at ho1 HZ
 clear HN
 go_wp2_with fail
 go_loopw [4] (fun v wr=>∃ (i : Nat) (C : List (List Nat)),v = .int .i64 i∧i≤n∧MtO wr w.heap.size A n c k rows C∧Hid (BitsM n C fun x j=>decide (x < i) && decide (x = j))∧Below w.heap.size w wr) (fun v _=>n - (intOf v).toNat)
 case atStart=>exact ⟨0,C0,rfl,by omega,ho1,Lib.hid (HZ.out.congr fun i j _ _=>by simp [noneM]),hb1⟩
 case round =>
  obtain ⟨i,C,rfl,hi,ho,HB,hb⟩:=hrel
  have hsz:=hb.size
  by_cases hlt : i < n
  ·obtain ⟨bk,g,d,x,rfl,hr,hc,hx,hx2,hox,hwx⟩:=ho.at_ hlt hk0
   have HS:=Lib.hid (jset_any w.heap.size g k d i x wr hox hwx (by have:=Hk.out;omega) (by omega))
   have HBx:=Lib.hid (HB.out.row hx2 hlt)
   have HC:=Lib.hid (show i < C.length by rw [ho.len];exact hlt)
   have hgl:=(hox.lt _ rfl).1
   clear hx hx2
   go_wp2_with fail
   refine HS.out.mono ?_
   rintro e w2 ⟨rfl,ho2,hg2⟩
   have hm:=ho.wrote hr hg2 ho2 (hwx.set_ i)
   have hb2 : Below w.heap.size w w2:=hb.trans (below_only hg2 hsz hgl)
   go_wp2
   go_roundw
   case rel =>
    refine ⟨i+1,_,by go_num,by omega,hm,Lib.hid (HB.out.step HC.out (fun j hj=>?_) (fun y j _ _ hy=>?_)),hb2⟩
    ·rw [hasW_set (by rw [hwx.len];have:=Hk.out;omega),HBx.out j hj,decide_eq_true (by omega : i < i+1),decide_eq_false (by omega : ¬ i < i)]
     simp only [Bool.false_and,Bool.false_or,Bool.true_and]
     exact decide_eq_decide.2 ⟨Eq.symm,Eq.symm⟩
    ·congr 1
     exact decide_eq_decide.2 (by omega)
   case measure=>simp [intOf];omega
  ·obtain rfl : i = n:=by omega
   go_wp2
   go_ret
   exact ⟨A,c,rows,C,rfl,ho,HB.out.congr fun x j hx _=>by unfold ownM;rw [decide_eq_true hx,Bool.true_and],hb⟩
end
section
open Go.RowKit
theorem Rd.off {w : World} {A : Option Addr} {l : List Nat} {k g : Nat} (h : Rd w 1 A (l.map encW)) (hk : Wide k l) (h0 : 0 < k) (hg : w.heap.size≤g) : ∀ a,A = some a→a.block ≠ g:=fun a ha=>by
 obtain ⟨b,off,e,hb⟩:=h.lt (fun x hx=>by obtain ⟨y,_,rfl⟩:=List.mem_map.1 hx;simp [encW]) (fun e=>by
  have:=congrArg List.length e
  rw [List.length_map,hk.len] at this
  simp at this;omega)
 rw [e] at ha
 injection ha with ha
 subst ha
 simp only
 omega
theorem MtO.cell {w : World} {base n c k i bk g d : Nat} {rows : List Sv} {C : List (List Nat)} (h : MtO w base (some ⟨bk,0,none⟩) n c k rows C) (hr : rows[i]? = some (some ⟨g,0,none⟩,k,d)) : w.cell? ⟨bk,i,none⟩ = some (.slice (some ⟨g,0,none⟩) k d):=by
 have h0:=h.sl.cell (k:=i) (j:=0) (x:=encSl (some ⟨g,0,none⟩,k,d)) (u:=.slice (some ⟨g,0,none⟩) k d) (by simp [hr]) rfl
 simpa using h0
theorem drew_grown {w w' : World} {r : Option Nat} (h : w.drew.grownBy w' r) : w.grownBy w' r:=⟨h.os,h.tape,h.output,h.size,h.block⟩
theorem jboth_any (A1 A2 : Option Addr) (n c1 c2 : Nat) (CA CB : List (List Nat)) (a b : Mtx) (w : World) (hA : MtR w (A1,n,c1) n (n / 64+1) CA) (ha : BitsM n CA a) (hB : MtR w (A2,n,c2) n (n / 64+1) CB) (hb : BitsM n CB b) (hn : n≤1000000) :
  Calls Tryz.prog 294 #[.slice A1 n c1,.slice A2 n c2] w (MtEnd w n (bothM a b)):=by
 have HN:=Lib.hid (jnone_any n w hn)
 obtain ⟨k,Hk⟩ : ∃ k,Hid (n / 64+1 = k):=⟨_,Lib.hid rfl⟩
 have hk0 : 0 < k:=by have:=Hk.out;omega
 have hkz : k≤4000000:=by have:=Hk.out;omega
 rw [Hk.out] at HN hA hB
 unfold MtEnd
 rw [Hk.out]
 have Ha:=Lib.hid ha
 have Hb:=Lib.hid hb
 clear ha hb
 go_enter Tryz.func294,Tryz.ntmps294
 go_wp2_with fail
 refine HN.out.mono ?_
 rintro e w1 ⟨A,c,rows,rfl,ho1,hb1⟩
 have HZ:=Lib.hid (zero_bits n k)
 generalize zeroC n k = C0 at ho1 HZ
 clear HN
 go_wp2_with fail
 go_loopw [6] (fun v wr=>∃ (i : Nat) (C : List (List Nat)),v = .int .i64 i∧i≤n∧MtO wr w.heap.size A n c k rows C∧Hid (BitsM n C fun x j=>decide (x < i) && (a x j || b x j))∧Below w.heap.size w wr) (fun v _=>n - (intOf v).toNat)
 case atStart=>exact ⟨0,C0,rfl,by omega,ho1,Lib.hid (HZ.out.congr fun i j _ _=>by simp [noneM]),hb1⟩
 case round =>
  obtain ⟨i,C,rfl,hi,ho,HB,hbw⟩:=hrel
  have hsz:=hbw.size
  by_cases hlt : i < n
  ·obtain ⟨bk,g,d,x,rfl,hr,hc,hx,hx2,hox,hwx⟩:=ho.at_ hlt hk0
   obtain ⟨b1,o1,B1,d1,x1,e1,k1,-,hx1,hr1,hw1⟩:=hA.at_ hlt
   obtain ⟨b2,o2,B2,d2,x2,e2,k2,-,hx2',hr2,hw2⟩:=hB.at_ hlt
   simp only at e1 e2
   subst e1
   subst e2
   have hgl:=(hox.lt _ rfl).1
   have hga:=Rd.off hr1 hw1 hk0 hgl
   have hgb:=Rd.off hr2 hw2 hk0 hgl
   have k20:=k2
   replace k1:=cell_keep k1 hbw
   have hr1':=hr1.below hbw
   have HA1:=Lib.hid (jadd_any w.heap.size g k d k d1 B1 x x1 wr.drew hox.drew hwx hr1'.drew hw1 hga rfl hkz)
   have HBx:=Lib.hid (HB.out.row hx2 hlt)
   have HBa:=Lib.hid (Ha.out.row hx1 hlt)
   have HBb:=Lib.hid (Hb.out.row hx2' hlt)
   have HC:=Lib.hid (show i < C.length by rw [ho.len];exact hlt)
   clear hx hx2 hx1 hx2' k2
   go_wp2_with fail
   refine wp_region_noPanic ?_
   go_region_law (go_simp;go_at_call 326;refine HA1.out.mono ?_;rintro e wz ⟨rfl,ho2,hg2⟩)
   all_goals
    refine NoPanic.normal ?_
    have hg2':=drew_grown hg2
    have hm1:=ho.wrote hr hg2' ho2 (hwx.or hw1)
    have hb2 : Below w.heap.size w wz:=hbw.trans (below_only hg2' hsz hgl)
    have hsz2:=hb2.size
    have hc2:=hm1.cell hr
    have k2':=cell_keep k20 hb2
    have HA2:=Lib.hid (jadd_any w.heap.size g k d k d2 B2 (orW x x1) x2 wz.drew ho2.drew (hwx.or hw1) (hr2.below hb2).drew hw2 hgb rfl hkz)
    clear HA1 hg2 hc k1 k20 hr1
    go_wp2_with fail
    refine wp_region_noPanic ?_
    go_region_law (go_simp;go_at_call 326;refine HA2.out.mono ?_;rintro e wy ⟨rfl,ho3,hg3⟩)
    all_goals
     refine NoPanic.normal ?_
     have hg3':=drew_grown hg3
     have hm2:=hm1.wrote hr hg3' ho3 ((hwx.or hw1).or hw2)
     rw [List.set_set] at hm2
     have hb3 : Below w.heap.size w wy:=hb2.trans (below_only hg3' hsz2 hgl)
     go_wp2
     go_roundw
     case rel =>
      refine ⟨i+1,_,by go_num,by omega,hm2,Lib.hid (HB.out.step HC.out (fun j hj=>?_) (fun y j _ _ hy=>?_)),hb3⟩
      ·rw [hasW_or (by rw [(hwx.or hw1).len,hw2.len]),hasW_or (by rw [hwx.len,hw1.len]),HBx.out j hj,HBa.out j hj,HBb.out j hj,decide_eq_true (by omega : i < i+1),decide_eq_false (by omega : ¬ i < i)]
       simp
      ·congr 1
       exact decide_eq_decide.2 (by omega)
     case measure=>simp [intOf];omega
  ·obtain rfl : i = n:=by omega
   go_wp2
   go_ret
   exact ⟨A,c,rows,C,rfl,ho,HB.out.congr fun x j hx _=>by unfold bothM;rw [decide_eq_true hx,Bool.true_and],hbw⟩
end
section
open Go.RowKit
def behTo (n i z : Nat) (a b : Mtx) : Mtx:=fun x j=>if x = i then (List.range z).any (fun k=>a i k && b k j) else decide (x < i) && behindM n a b x j
theorem behTo_first (n i : Nat) (a b : Mtx) (x j : Nat) : behTo n i 0 a b x j = (decide (x < i) && behindM n a b x j):=by
 unfold behTo
 by_cases e : x = i
 ·rw [if_pos e,decide_eq_false (by omega)];rfl
 ·rw [if_neg e]
theorem behTo_last (n i : Nat) (a b : Mtx) (x j : Nat) : (decide (x < i+1) && behindM n a b x j) = behTo n i n a b x j:=by
 unfold behTo
 by_cases e : x = i
 ·rw [if_pos e,decide_eq_true (by omega),Bool.true_and];subst e;rfl
 ·rw [if_neg e]
  congr 1
  exact decide_eq_decide.2 (by omega)
theorem behTo_here (n i z : Nat) (a b : Mtx) (j : Nat) : behTo n i (z+1) a b i j = (behTo n i z a b i j || (a i z && b z j)):=by
 unfold behTo
 rw [if_pos rfl,if_pos rfl,List.range_succ,List.any_append];simp
theorem behTo_there {n i z : Nat} {a b : Mtx} {x j : Nat} (h : x ≠ i) : behTo n i (z+1) a b x j = behTo n i z a b x j:=by
 unfold behTo
 rw [if_neg h,if_neg h]
theorem jbehind_any (A1 A2 : Option Addr) (n c1 c2 : Nat) (CA CB : List (List Nat)) (a b : Mtx) (w : World) (hA : MtR w (A1,n,c1) n (n / 64+1) CA) (ha : BitsM n CA a) (hB : MtR w (A2,n,c2) n (n / 64+1) CB) (hb : BitsM n CB b) (hn : n≤1000000) :
  Calls Tryz.prog 293 #[.slice A1 n c1,.slice A2 n c2] w (MtEnd w n (behindM n a b)):=by
 have HN:=Lib.hid (jnone_any n w hn)
 obtain ⟨k,Hk⟩ : ∃ k,Hid (n / 64+1 = k):=⟨_,Lib.hid rfl⟩
 have hk0 : 0 < k:=by have:=Hk.out;omega
 have hkz : k≤4000000:=by have:=Hk.out;omega
 rw [Hk.out] at HN hA hB
 unfold MtEnd
 rw [Hk.out]
 have Ha:=Lib.hid ha
 have Hb:=Lib.hid hb
 clear ha hb
 go_enter Tryz.func293,Tryz.ntmps293
 go_wp2_with fail
 refine HN.out.mono ?_
 rintro e w1 ⟨A,c,rows,rfl,ho1,hb1⟩
 have HZ:=Lib.hid (zero_bits n k)
 generalize zeroC n k = C0 at ho1 HZ
 clear HN
 go_wp2_with fail
 go_loopw [7,8] (fun v _ wr=>∃ (i : Nat) (C : List (List Nat)),v = .int .i64 i∧i≤n∧MtO wr w.heap.size A n c k rows C∧Hid (BitsM n C fun x j=>decide (x < i) && behindM n a b x j)∧Below w.heap.size w wr) (fun v _ _=>n - (intOf v).toNat)
 case atStart=>exact ⟨0,C0,rfl,by omega,ho1,Lib.hid (HZ.out.congr fun i j _ _=>by simp [noneM]),hb1⟩
 case round =>
  obtain ⟨i,C,rfl,hi,ho,HB,hbw⟩:=hrel
  by_cases hlt : i < n
  ·obtain ⟨b1,o1,B1,d1,x1,e1,k10,-,hx1,hr1,hw1⟩:=hA.at_ hlt
   simp only at e1
   subst e1
   have HBa:=Lib.hid (Ha.out.row hx1 hlt)
   clear hx1
   go_wp2_with fail
   go_loopw [8] (fun v wq=>∃ (z : Nat) (C : List (List Nat)),v = .int .i64 z∧z≤n∧MtO wq w.heap.size A n c k rows C∧Hid (BitsM n C (behTo n i z a b))∧Below w.heap.size w wq) (fun v _=>n - (intOf v).toNat)
   case atStart=>exact ⟨0,C,rfl,by omega,ho,Lib.hid (HB.out.congr fun x j _ _=>behTo_first n i a b x j),hbw⟩
   case round =>
    clear ho HB hbw
    obtain ⟨z,C,rfl,hz,ho,HB,hbw⟩:=hrel
    have hsz:=hbw.size
    by_cases hzt : z < n
    ·have k1:=cell_keep k10 hbw
     obtain ⟨q,Hq⟩ : ∃ q,Hid (a i z = q):=⟨_,Lib.hid rfl⟩
     have HH:=Lib.hid (jhas_any B1 k d1 z x1 wr (hr1.below hbw) hw1 (by have:=Hk.out;omega) (by omega))
     rw [HBa.out z hzt,Hq.out] at HH
     cases q with
     | false =>
      go_wp2_with fail
      refine HH.out.mono ?_
      rintro e w2 ⟨rfl,rfl⟩
      go_wp2
      go_roundw
      case rel=>exact ⟨z+1,C,by go_num,by omega,ho,Lib.hid (HB.out.congr fun x j _ _=>by
       by_cases e : x = i
       ·subst e;rw [behTo_here,Hq.out];simp
       ·exact behTo_there e),hbw⟩
      case measure=>simp [intOf];omega
     | true =>
      obtain ⟨bk,g,d,x,rfl,hr,hc,hx,hx2,hox,hwx⟩:=ho.at_ hlt hk0
      obtain ⟨b2,o2,B2,d2,x2,e2,k2,-,hx2',hr2,hw2⟩:=hB.at_ hzt
      simp only at e2
      subst e2
      have hgl:=(hox.lt _ rfl).1
      have hgb:=Rd.off hr2 hw2 hk0 hgl
      replace k2:=cell_keep k2 hbw
      have HA1:=Lib.hid (jadd_any w.heap.size g k d k d2 B2 x x2 wr.drew hox.drew hwx (hr2.below hbw).drew hw2 hgb rfl hkz)
      have HBx:=Lib.hid (HB.out.row hx2 hlt)
      have HBb:=Lib.hid (Hb.out.row hx2' hzt)
      have HC:=Lib.hid (show i < C.length by rw [ho.len];exact hlt)
      clear hx hx2 hx2'
      go_wp2_with fail
      refine HH.out.mono ?_
      rintro e w2 ⟨rfl,rfl⟩
      go_wp2_with fail
      refine wp_region_noPanic ?_
      go_region_law (go_simp;go_at_call 326;refine HA1.out.mono ?_;rintro e wz ⟨rfl,ho2,hg2⟩)
      all_goals
       refine NoPanic.normal ?_
       have hg2':=drew_grown hg2
       have hm1:=ho.wrote hr hg2' ho2 (hwx.or hw2)
       have hb2 : Below w.heap.size w wz:=hbw.trans (below_only hg2' hsz hgl)
       go_wp2
       go_roundw
       case rel =>
        refine ⟨z+1,_,by go_num,by omega,hm1,Lib.hid (HB.out.step HC.out (fun j hj=>?_) (fun y j _ _ hy=>behTo_there hy)),hb2⟩
        rw [hasW_or (by rw [hwx.len,hw2.len]),HBx.out j hj,HBb.out j hj,behTo_here,Hq.out,Bool.true_and]
       case measure=>simp [intOf];omega
    ·obtain rfl : z = n:=by omega
     go_wp2
     go_roundw
     case rel=>exact ⟨i+1,C,by go_num,by omega,ho,Lib.hid (HB.out.congr fun x j _ _=>behTo_last z i a b x j),hbw⟩
     case measure=>simp [intOf];omega
  ·obtain rfl : i = n:=by omega
   go_wp2
   go_ret
   exact ⟨A,c,rows,C,rfl,ho,HB.out.congr fun x j hx _=>by rw [decide_eq_true hx,Bool.true_and],hbw⟩
end
section
open Go.RowKit
def moreK (n : Nat) (a : Mtx) (k : Nat) : Mtx:=(List.range k).foldl (fun m k=>warRow n k m) (bothM a ownM)
def moreI (n : Nat) (a : Mtx) (k i : Nat) : Mtx:=(List.range i).foldl (fun m i=>warS k i m) (moreK n a k)
theorem moreI_last (n : Nat) (a : Mtx) (k : Nat) : moreI n a k n = moreK n a (k+1):=by
 unfold moreI
 conv=>rhs;unfold moreK
 rw [List.range_succ,List.foldl_append];rfl
theorem moreI_next (n : Nat) (a : Mtx) (k i : Nat) : moreI n a k (i+1) = warS k i (moreI n a k i):=by
 unfold moreI
 rw [List.range_succ,List.foldl_append];rfl
theorem jmore_any (A1 : Option Addr) (n c1 : Nat) (CA : List (List Nat)) (a : Mtx) (w : World) (hA : MtR w (A1,n,c1) n (n / 64+1) CA) (ha : BitsM n CA a) (hn : n≤1000000) :
  Calls Tryz.prog 295 #[.slice A1 n c1] w (MtEnd w n (moreM n a)):=by
 have HO:=Lib.hid (jown_any n w hn)
 have HBo:=Lib.hid (fun A2 c2 CB W (h1 : MtR W (A1,n,c1) n (n / 64+1) CA) (h2 : MtR W (A2,n,c2) n (n / 64+1) CB) (hb : BitsM n CB ownM)=>jboth_any A1 A2 n c1 c2 CA CB a ownM W h1 ha h2 hb hn)
 clear ha
 unfold MtEnd at HO HBo
 obtain ⟨k,Hk⟩ : ∃ k,Hid (n / 64+1 = k):=⟨_,Lib.hid rfl⟩
 have hk0 : 0 < k:=by have:=Hk.out;omega
 have hkz : k≤4000000:=by have:=Hk.out;omega
 simp only [Hk.out] at HO HBo hA
 unfold MtEnd
 rw [Hk.out]
 go_enter Tryz.func295,Tryz.ntmps295
 go_wp2_with fail
 refine HO.out.mono ?_
 rintro e w1 ⟨A2,c2,rows2,C2,rfl,ho1,hb1,hbw1⟩
 have hMB:=ho1.rd
 have HB2:=Lib.hid (HBo.out A2 c2 C2 w1 (hA.below hbw1) hMB hb1)
 clear HO HBo ho1 hMB hb1
 go_wp2_with fail
 refine HB2.out.mono ?_
 rintro e w2 ⟨A,c,rows,C0,rfl,ho2,hb2,hbw2⟩
 have hbw20:=below_two hbw1 hbw2
 have ho20:=ho2.more hbw1.size
 have HZ:=Lib.hid hb2
 clear HB2 hb2 ho2 hA
 go_wp2_with fail
 go_loopw [5,6] (fun v _ wr=>∃ (z : Nat) (C : List (List Nat)),v = .int .i64 z∧z≤n∧MtO wr w.heap.size A n c k rows C∧Hid (BitsM n C (moreK n a z))∧Below w.heap.size w wr) (fun v _ _=>n - (intOf v).toNat)
 case atStart=>exact ⟨0,C0,rfl,by omega,ho20,HZ,hbw20⟩
 case round =>
  clear HZ ho20
  obtain ⟨z,C,rfl,hz,ho,HB,hbw⟩:=hrel
  by_cases hzt : z < n
  ·go_wp2_with fail
   go_loopw [6] (fun v wq=>∃ (i : Nat) (C : List (List Nat)),v = .int .i64 i∧i≤n∧MtO wq w.heap.size A n c k rows C∧Hid (BitsM n C (moreI n a z i))∧Below w.heap.size w wq) (fun v _=>n - (intOf v).toNat)
   case atStart=>exact ⟨0,C,rfl,by omega,ho,HB,hbw⟩
   case round =>
    clear ho HB hbw
    obtain ⟨i,C,rfl,hi,ho,HB,hbw⟩:=hrel
    have hsz:=hbw.size
    by_cases hlt : i < n
    ·obtain ⟨bk,g,d,x,rfl,hr,hc,hx,hx2,hox,hwx⟩:=ho.at_ hlt hk0
     have HBx:=Lib.hid (HB.out.row hx2 hlt)
     obtain ⟨m,Hm⟩ : ∃ m,Hid (moreI n a z i = m):=⟨_,Lib.hid rfl⟩
     rw [Hm.out] at HB HBx
     have HNx:=Lib.hid (show moreI n a z (i+1) = warS z i m by rw [moreI_next,Hm.out])
     obtain ⟨q,Hq⟩ : ∃ q,Hid (m i z = q):=⟨_,Lib.hid rfl⟩
     have HH:=Lib.hid (jhas_any (some ⟨g,0,none⟩) k d z x wr (hox.rd (by omega)) hwx (by have:=Hk.out;omega) (by omega))
     rw [HBx.out z hzt,Hq.out] at HH
     cases q with
     | false =>
      clear hx hx2
      go_wp2_with fail
      refine HH.out.mono ?_
      rintro e w3 ⟨rfl,rfl⟩
      go_wp2
      go_roundw
      case rel=>exact ⟨i+1,C,by go_num,by omega,ho,Lib.hid (HB.out.congr fun x j _ _=>by rw [HNx.out,warS_eq,Hq.out];simp),hbw⟩
      case measure=>simp [intOf];omega
     | true =>
      have hgl:=(hox.lt _ rfl).1
      have HC:=Lib.hid (show i < C.length by rw [ho.len];exact hlt)
      obtain ⟨bk',g2,d2,y,eb,hr2,hc2,hy,hy2,hoy,hwy⟩:=ho.at_ hzt hk0
      injection eb with eb
      injection eb with eb _ _
      subst eb
      have HBy:=Lib.hid (HB.out.row hy2 hzt)
      have HA1 : Hid (Calls Tryz.prog 326 #[.slice (some ⟨g,0,none⟩) k d,.slice (some ⟨g2,0,none⟩) k d2] wr.drew fun e w'=>e = .returned (.tuple #[])∧Own w' w.heap.size 303 1 (some ⟨g,0,none⟩) k d ((orW x y).map encW)∧wr.drew.grownBy w' (some g)):=by
       by_cases e : i = z
       ·subst e
        rw [hr] at hr2
        injection hr2 with hr2
        injection hr2 with h1 h2
        injection h1 with h1
        injection h1 with h1 _ _
        injection h2 with _ h2
        subst h1
        subst h2
        rw [hx] at hy
        injection hy with hy
        subst hy
        exact Lib.hid (jadd_self w.heap.size g k d x wr.drew hox.drew hwx hkz)
       ·refine Lib.hid (jadd_any w.heap.size g k d k d2 (some ⟨g2,0,none⟩) x y wr.drew hox.drew hwx (hoy.rd (by omega)).drew hwy (fun a ha e2=>e (ho.apart i z _ _ ⟨g,0,none⟩ a hr hr2 rfl ha e2.symm)) rfl hkz)
      clear hx hx2 hy hy2 hoy
      go_wp2_with fail
      refine HH.out.mono ?_
      rintro e w3 ⟨rfl,rfl⟩
      go_wp2_with fail
      refine wp_region_noPanic ?_
      go_region_law (go_simp;go_at_call 326;refine HA1.out.mono ?_;rintro e wz ⟨rfl,ho2,hg2⟩)
      all_goals
       refine NoPanic.normal ?_
       have hg2':=drew_grown hg2
       have hm1:=ho.wrote hr hg2' ho2 (hwx.or hwy)
       have hb2 : Below w.heap.size w wz:=hbw.trans (below_only hg2' hsz hgl)
       go_wp2
       go_roundw
       case rel =>
        refine ⟨i+1,_,by go_num,by omega,hm1,Lib.hid (HB.out.step HC.out (fun j hj=>?_) (fun y j _ _ hy=>?_)),hb2⟩
        ·rw [hasW_or (by rw [hwx.len,hwy.len]),HBx.out j hj,HBy.out j hj,HNx.out,warS_eq,Hq.out,decide_eq_true rfl];simp
        ·rw [HNx.out,warS_eq,decide_eq_false hy];simp
       case measure=>simp [intOf];omega
    ·obtain rfl : i = n:=by omega
     rw [moreI_last] at HB
     go_wp2
     go_roundw
     case rel=>exact ⟨z+1,C,by go_num,by omega,ho,HB,hbw⟩
     case measure=>simp [intOf];omega
  ·obtain rfl : z = n:=by omega
   go_wp2
   go_ret
   exact ⟨A,c,rows,C,rfl,ho,HB.out,hbw⟩
end
section
theorem runeAt_app : ∀ (p l : List UInt8) (a : Nat),runeAt (bytesOf (p++l)) (p.length+a) = runeAt (bytesOf l) a
 | [],l,a=>by rw [List.nil_append,List.length_nil,Nat.zero_add]
 | c :: p,l,a=>by rw [List.cons_append,List.length_cons,show p.length+1+a = (p.length+a)+1 by omega,runeAt_sh];exact runeAt_app p l a
theorem runeAt_drop (s : ByteArray) (a b : Nat) (h : a≤s.size) : runeAt s (a+b) = runeAt (bytesOf (s.data.toList.drop a)) b:=by
 have h1:=runeAt_app (s.data.toList.take a) (s.data.toList.drop a) b
 rw [List.take_append_drop,bytesOf_data,List.length_take,size_data,Nat.min_eq_left h] at h1
 exact h1
theorem quoted_qt (s : ByteArray) (a : Nat) (h : a≤s.size) : match qtL (s.data.toList.drop a) with
  | some k=>(quotedP s a).2.2 = true∧(quotedP s a).2.1+2 = k
  | none=>(quotedP s a).2.2 = false:=by
 unfold quotedP
 cases hd : s.data.toList.drop a with
 | nil =>
  have : (rest s a).head? = none:=by unfold rest;rw [hd];rfl
  rw [if_neg (by rw [this];simp)];rfl
 | cons c r =>
  have h1:=runeAt_drop s a 1 h
  rw [hd] at h1
  rw [qtS_cons,← h1]
  have h2 : (rest s a).head? = some c:=by unfold rest;rw [hd];rfl
  have h3 : (rest s (a+1+(runeAt s (a+1)).2)).head? = r[(runeAt s (a+1)).2]?:=by
   unfold rest
   rw [Nat.add_assoc,← List.drop_drop,hd,Nat.add_comm 1,List.drop_succ_cons,List.head?_drop]
  rw [h2,h3]
  by_cases hc : c = 39∧(runeAt s (a+1)).2 ≠ 0∧r[(runeAt s (a+1)).2]? = some 39
  ·rw [if_pos hc,if_pos ⟨by rw [hc.1],hc.2⟩]
   exact ⟨rfl,rfl⟩
  ·rw [if_neg hc,if_neg (fun k=>hc ⟨by injection k.1,k.2⟩)]
def cutD (l : List UInt8) (i : Nat) (semi : Option Nat) : Nat × Option Nat:=cutGo l.length l i semi
theorem cutD_fuel {f : Nat} {l : List UInt8} (i : Nat) (semi : Option Nat) (h : l.length≤f) : cutGo f l i semi = cutD l i semi:=by
 unfold cutD
 rw [cutGo_eq f l i semi h,cutGo_eq l.length l i semi (Nat.le_refl _)]
def CutAt (L : List UInt8) (i : Nat) (semi : Option Nat) : Prop:=i≤L.length∧cutD (L.drop i) i semi = cutD L 0 none∧∀ k,semi = some k→k≤i
theorem cutAt_first (L : List UInt8) : CutAt L 0 none:=⟨by omega,by rw [List.drop_zero],fun k h=>by cases h⟩
theorem cutAt_qt {L : List UInt8} {i k : Nat} {semi : Option Nat} (h : CutAt L i semi) (hq : qtL (L.drop i) = some k) : CutAt L (i+k) semi:=by
 have hk:=qtL_some hq
 rw [List.length_drop] at hk
 refine ⟨by omega,?_,fun j hj=>by have:=h.2.2 j hj;omega⟩
 rw [← h.2.1]
 cases hd : L.drop i with
 | nil=>rw [hd] at hq;cases hq
 | cons x r =>
  rw [hd] at hq
  unfold cutD
  rw [List.length_cons,cutGo]
  simp only [hq]
  have h2 : (x :: r).drop k = L.drop (i+k):=by rw [← hd,List.drop_drop]
  rw [h2]
  have h3 : (L.drop (i+k)).length≤r.length:=by
   have : (L.drop i).length = r.length+1:=by rw [hd];rfl
   rw [List.length_drop] at this ⊢;omega
  rw [cutD_fuel (i+k) semi h3];rfl
section
variable {L : List UInt8} {i : Nat} {semi : Option Nat} {x : UInt8} (h : CutAt L i semi) (hx : L[i]? = some x) (hq : qtL (L.drop i) = none)
include h hx hq
theorem cutAt_step : cutD L 0 none = if x = 35 then (i,semi) else if x = 59∧semi = none then cutD (L.drop (i+1)) (i+1) (some i) else cutD (L.drop (i+1)) (i+1) semi:=by
 rw [← h.2.1,drop_at hx]
 rw [drop_at hx] at hq
 unfold cutD
 rw [List.length_cons,cutGo]
 simp only [hq]
theorem cutAt_hash (he : x = 35) : cutD L 0 none = (i,semi):=by rw [cutAt_step h hx hq,if_pos he]
theorem cutAt_semi (he : x = 59) (hs : semi = none) : CutAt L (i+1) (some i) :=
 ⟨(List.getElem?_eq_some_iff.1 hx).1,by rw [cutAt_step h hx hq,if_neg (by rw [he];decide),if_pos ⟨he,hs⟩],fun k hk=>by injection hk with hk;omega⟩
theorem cutAt_go (he : x ≠ 35) (hs : ¬ (x = 59∧semi = none)) : CutAt L (i+1) semi :=
 ⟨(List.getElem?_eq_some_iff.1 hx).1,by rw [cutAt_step h hx hq,if_neg he,if_neg hs],fun k hk=>by have:=h.2.2 k hk;omega⟩
end
theorem cutAt_end {L : List UInt8} {i : Nat} {semi : Option Nat} (h : CutAt L i semi) (hi : ¬ i < L.length) : cutD L 0 none = (L.length,semi):=by
 rw [← h.2.1,List.drop_of_length_le (by omega)]
 have : i = L.length:=by have:=h.1;omega
 rw [← this];rfl
theorem cutD_is (L : List UInt8) : cutD L 0 none = (hashP L,findP 59 (L.take (hashP L))):=by
 unfold cutD
 rw [cutGo_eq L.length L 0 none (Nat.le_refl _),Nat.zero_add]
 congr 1
 cases findP 59 (L.take (hashP L)) <;> rfl
theorem ext_bytes (l : List UInt8) (a : Nat) : (bytesOf l).extract a (bytesOf l).size = bytesOf (l.drop a):=by
 apply ByteArray.ext;apply Array.toList_inj.1
 rw [rest_extract,bytesOf_list];unfold rest;rw [bytesOf_list]
theorem ext_bytes0 (l : List UInt8) (a : Nat) : (bytesOf l).extract 0 a = bytesOf (l.take a):=by
 apply ByteArray.ext;apply Array.toList_inj.1
 rw [Lib.extract_data,bytesOf_list,bytesOf_list];simp
theorem ext_bytes2 (l : List UInt8) (a b : Nat) : (bytesOf l).extract a b = bytesOf ((l.drop a).take (b - a)):=by
 apply ByteArray.ext;apply Array.toList_inj.1
 rw [Lib.extract_data,bytesOf_list,bytesOf_list]
theorem trim_last {l : List UInt8} {c : UInt8} (hl : l.getLast? = some c) : (blkB c = true→trimR l = trimR (l.take (l.length - 1)))∧(blkB c = false→trimR l = l):=by
 have hs : l = l.dropLast++[c]:=by
  rcases List.eq_nil_or_concat l with rfl | ⟨o,y,rfl⟩
  ·cases hl
  ·simp at hl;subst hl;simp
 have hd : l.take (l.length - 1) = l.dropLast:=by rw [List.dropLast_eq_take]
 rw [hd]
 constructor
 ·intro h
  conv=>lhs;rw [hs]
  exact trimR_app (by intro d hd;simp at hd;subst hd;exact h)
 ·intro h
  unfold trimR
  rw [hs,List.reverse_append]
  rw [show [c].reverse++l.dropLast.reverse = c :: l.dropLast.reverse from rfl,dropWhile_stop h]
  simp
theorem drop_blank {c : UInt8} {r : List UInt8} (h : blkB c = true) : (c :: r).dropWhile blkB = r.dropWhile blkB:=by rw [List.dropWhile_cons,if_pos h]
end
section
open Go.RowKit
end
section
open Go.RowKit Go.Maps
theorem vName_any (l : List UInt8) (w : World) (hs : l.length≤9223372036854775807) : Calls Tryz.prog 231 #[.string (bytesOf l)] w fun e w'=>e = .returned (.bool (nameL l))∧Below w.heap.size w w':=by
 have hsz : (bytesOf l).size = l.length:=bytesOf_size l
 go_enter Tryz.func231,Tryz.ntmps231
 go_wp2
 have hbw : Below w.heap.size w w:=Below.refl _ _
 go_loop [3] (fun i=>∃ k : Nat,i = .int .i64 k∧k≤l.length∧Hid (nameU (l.take k) = true)) (fun i=>l.length - (intOf i).toNat)
 case atStart=>exact ⟨0,rfl,by omega,rfl⟩
 case round =>
  obtain ⟨k,rfl,hk,Hm⟩:=hrel
  by_cases hlt : k < l.length
  ·have hkl : k < (bytesOf l).size:=by rw [hsz];exact hlt
   have hc:=index_at (bytesOf l) k k rfl hkl
   obtain ⟨c,hce⟩ : ∃ c,(bytesOf l)[k]'hkl = c:=⟨_,rfl⟩
   have Hc : Hid (l[k]? = some c):=Lib.hid (by have:=get_list hkl;rw [bytesOf_list,hce] at this;exact this)
   have hcc : (((bytesOf l)[k]'hkl).toNat : Int) = (c.toNat : Int):=by rw [hce]
   rw [hce] at hc
   clear hce
   have HN:=Lib.hid (nameU_next Hc.out Hm.out)
   have HE : Hid (nameU (l.take (k+1)) = false→nameL l = false):=Lib.hid (fun h=>by rw [nameL_eq,nameU_take h,Bool.false_and])
   have hc0 : 0≤(c.toNat : Int):=by omega
   have hc255 : (c.toNat : Int)≤255:=by have:=c.toNat_lt;omega
   have HLT : Hid ((65≤(c.toNat : Int)∧(c.toNat : Int)≤90)∨(97≤(c.toNat : Int)∧(c.toNat : Int)≤122)→letB c = true∧partB c = true):=Lib.hid (fun h=>⟨letB_t (by omega),partB_t (by omega)⟩)
   have HLF : Hid (¬ ((65≤(c.toNat : Int)∧(c.toNat : Int)≤90)∨(97≤(c.toNat : Int)∧(c.toNat : Int)≤122))→letB c = false):=Lib.hid (fun h=>letB_f (by omega))
   have HPT : Hid ((48≤(c.toNat : Int)∧(c.toNat : Int)≤57)∨(c.toNat : Int) = 95→partB c = true):=Lib.hid (fun h=>partB_t (by omega))
   have HPF : Hid (¬ ((65≤(c.toNat : Int)∧(c.toNat : Int)≤90)∨(97≤(c.toNat : Int)∧(c.toNat : Int)≤122)∨(48≤(c.toNat : Int)∧(c.toNat : Int)≤57)∨(c.toNat : Int) = 95)→partB c = false):=Lib.hid (fun h=>partB_f (by omega))
   generalize (c.toNat : Int) = z at hc hcc hc0 hc255 HLT HLF HPT HPF
   rcases Nat.eq_zero_or_pos k with rfl | h0
   ·rcases (by omega : (65≤z∧z≤90)∨(97≤z∧z≤122)∨(z < 65∨(90 < z∧z < 97)∨122 < z)) with ⟨hq,hq'⟩ | ⟨hq,hq'⟩ | hq
    iterate 2
     ·have HV : Hid (nameU (l.take (0+1)) = true):=Lib.hid (by rw [HN.out,if_pos rfl];exact (HLT.out (by omega)).1)
      clear HLT HLF HPT HPF HN HE
      try first | (have d65 : decide (65≤z) = true:=decide_eq_true (by omega)) | (have d65 : decide (65≤z) = false:=decide_eq_false (by omega))
      try first | (have d90 : decide (z≤90) = true:=decide_eq_true (by omega)) | (have d90 : decide (z≤90) = false:=decide_eq_false (by omega))
      try first | (have d97 : decide (97≤z) = true:=decide_eq_true (by omega)) | (have d97 : decide (97≤z) = false:=decide_eq_false (by omega))
      try first | (have d122 : decide (z≤122) = true:=decide_eq_true (by omega)) | (have d122 : decide (z≤122) = false:=decide_eq_false (by omega))
      try first | (have d48 : decide (z < 48) = true:=decide_eq_true (by omega)) | (have d48 : decide (z < 48) = false:=decide_eq_false (by omega))
      try first | (have d57 : decide (57 < z) = true:=decide_eq_true (by omega)) | (have d57 : decide (57 < z) = false:=decide_eq_false (by omega))
      try first | (have d95 : (z != 95) = true:=bne_iff_ne.2 (by omega)) | (have d95 : (z != 95) = false:=by rw [bne_eq_false_iff_eq];omega)
      go_wp2
      refine ⟨⟨0+1,by go_num,by omega,HV⟩,?_⟩
      simp [intOf];omega
    ·have HV : Hid (nameL l = false):=Lib.hid (HE.out (by rw [HN.out,if_pos rfl];exact HLF.out (by omega)))
     clear HLT HLF HPT HPF HN HE
     rcases hq with hq | ⟨hq,hq'⟩ | hq
     all_goals
      try first | (have d65 : decide (65≤z) = true:=decide_eq_true (by omega)) | (have d65 : decide (65≤z) = false:=decide_eq_false (by omega))
      try first | (have d90 : decide (z≤90) = true:=decide_eq_true (by omega)) | (have d90 : decide (z≤90) = false:=decide_eq_false (by omega))
      try first | (have d97 : decide (97≤z) = true:=decide_eq_true (by omega)) | (have d97 : decide (97≤z) = false:=decide_eq_false (by omega))
      try first | (have d122 : decide (z≤122) = true:=decide_eq_true (by omega)) | (have d122 : decide (z≤122) = false:=decide_eq_false (by omega))
      try first | (have d48 : decide (z < 48) = true:=decide_eq_true (by omega)) | (have d48 : decide (z < 48) = false:=decide_eq_false (by omega))
      try first | (have d57 : decide (57 < z) = true:=decide_eq_true (by omega)) | (have d57 : decide (57 < z) = false:=decide_eq_false (by omega))
      try first | (have d95 : (z != 95) = true:=bne_iff_ne.2 (by omega)) | (have d95 : (z != 95) = false:=by rw [bne_eq_false_iff_eq];omega)
      go_wp2
      go_ret
      exact ⟨by rw [HV.out];rfl,hbw⟩
   ·have hk0 : ((k : Int) == 0) = false:=beq_eq_false_iff_ne.2 (by omega)
    rcases (by omega : (65≤z∧z≤90)∨(97≤z∧z≤122)∨(48≤z∧z≤57)∨z = 95∨(z < 48∨(57 < z∧z < 65)∨(90 < z∧z < 95)∨z = 96∨122 < z)) with ⟨hq,hq'⟩ | ⟨hq,hq'⟩ | ⟨hq,hq'⟩ | hq | hq
    iterate 4
     ·have HV : Hid (nameU (l.take (k+1)) = true):=Lib.hid (by rw [HN.out,if_neg (by omega)];first | exact (HLT.out (by omega)).2 | exact HPT.out (by omega))
      clear HLT HLF HPT HPF HN HE
      try first | (have d65 : decide (65≤z) = true:=decide_eq_true (by omega)) | (have d65 : decide (65≤z) = false:=decide_eq_false (by omega))
      try first | (have d90 : decide (z≤90) = true:=decide_eq_true (by omega)) | (have d90 : decide (z≤90) = false:=decide_eq_false (by omega))
      try first | (have d97 : decide (97≤z) = true:=decide_eq_true (by omega)) | (have d97 : decide (97≤z) = false:=decide_eq_false (by omega))
      try first | (have d122 : decide (z≤122) = true:=decide_eq_true (by omega)) | (have d122 : decide (z≤122) = false:=decide_eq_false (by omega))
      try first | (have d48 : decide (z < 48) = true:=decide_eq_true (by omega)) | (have d48 : decide (z < 48) = false:=decide_eq_false (by omega))
      try first | (have d57 : decide (57 < z) = true:=decide_eq_true (by omega)) | (have d57 : decide (57 < z) = false:=decide_eq_false (by omega))
      try first | (have d95 : (z != 95) = true:=bne_iff_ne.2 (by omega)) | (have d95 : (z != 95) = false:=by rw [bne_eq_false_iff_eq];omega)
      go_wp2
      refine ⟨⟨k+1,by go_num,by omega,HV⟩,?_⟩
      simp [intOf];omega
    ·have HV : Hid (nameL l = false):=Lib.hid (HE.out (by rw [HN.out,if_neg (by omega)];exact HPF.out (by omega)))
     clear HLT HLF HPT HPF HN HE
     rcases hq with hq | ⟨hq,hq'⟩ | ⟨hq,hq'⟩ | hq | hq
     all_goals
      try first | (have d65 : decide (65≤z) = true:=decide_eq_true (by omega)) | (have d65 : decide (65≤z) = false:=decide_eq_false (by omega))
      try first | (have d90 : decide (z≤90) = true:=decide_eq_true (by omega)) | (have d90 : decide (z≤90) = false:=decide_eq_false (by omega))
      try first | (have d97 : decide (97≤z) = true:=decide_eq_true (by omega)) | (have d97 : decide (97≤z) = false:=decide_eq_false (by omega))
      try first | (have d122 : decide (z≤122) = true:=decide_eq_true (by omega)) | (have d122 : decide (z≤122) = false:=decide_eq_false (by omega))
      try first | (have d48 : decide (z < 48) = true:=decide_eq_true (by omega)) | (have d48 : decide (z < 48) = false:=decide_eq_false (by omega))
      try first | (have d57 : decide (57 < z) = true:=decide_eq_true (by omega)) | (have d57 : decide (57 < z) = false:=decide_eq_false (by omega))
      try first | (have d95 : (z != 95) = true:=bne_iff_ne.2 (by omega)) | (have d95 : (z != 95) = false:=by rw [bne_eq_false_iff_eq];omega)
      go_wp2
      go_ret
      exact ⟨by rw [HV.out];rfl,hbw⟩
  ·have HE : Hid (nameL l = decide (1≤l.length∧l.length≤32)):=Lib.hid (by rw [nameL_eq,show nameU l = true by have:=Hm.out;rwa [List.take_of_length_le (by omega)] at this,Bool.true_and])
   rcases (by omega : l.length = 0∨(1≤l.length∧l.length≤32)∨32 < l.length) with h | ⟨h,h'⟩ | h
   all_goals
    go_wp2
    go_ret
    exact ⟨ret_bool (by rw [HE.out];first | exact (decide_eq_false (by omega)).symm | exact (decide_eq_true (by omega)).symm | (rw [decide_eq_decide];omega)),hbw⟩
end
end Go.Proofs.YtglmcknlnoknoaaGreatDoor
