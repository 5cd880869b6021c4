/-
 Several texts in one,in their build order: Wd,RunB,RunC.
-/
import Derived.Shelf.Strings.SlTrimAscii
import Derived.Deep.DeepMust
import Derived.Test.YtlfpdpbbkjnapaaGreatDoorP0a
import Derived.Test.YtlfpdpbbkjnapaaGreatDoorPRdr
import Derived.Test.YtlfpdpbbkjnapaaGreatDoorPRunA
/- -/
namespace Go.Proofs.YtlfpdpbbkjnapaaGreatDoor
set_option maxRecDepth 100000
set_option maxHeartbeats 40000000
section
open Go.RowKit
theorem rest_drop (s : ByteArray) (a : Nat) : (s.extract a s.size).data.toList = s.data.toList.drop a:=rest_extract s a
theorem take_extract (s : ByteArray) (a : Nat) : (s.extract 0 a).data.toList = s.data.toList.take a:=by rw [Lib.extract_data];simp
theorem empty_of {s : ByteArray} (h : s.size = 0) : s = ⟨#[]⟩:=by
 apply ByteArray.ext
 exact Array.eq_empty_of_size_eq_zero h
theorem get_list {s : ByteArray} {p : Nat} (h : p < s.size) : s.data.toList[p]? = some (s[p]'h):=List.getElem?_eq_getElem (by simpa using h)
theorem wquoted_any (s : ByteArray) (w : World) (hT : Tabs w) (hs : s.size ≤ 1000000) :
    Calls Tryz.prog 224 #[.string s] w fun e w' => e = .returned (.int .i64 ((qtL s.data.toList).getD 0 : Nat)) ∧ Below w.heap.size w w' := by
  rcases Nat.eq_zero_or_pos s.size with h0 | h0
  · obtain rfl := empty_of h0
    go_enter Tryz.func224, Tryz.ntmps224
    go_wp2
    go_ret
    exact ⟨rfl, Below.refl _ _⟩
  · have e0 := notEmpty h0
    have hix := index_at s 0 0 rfl h0
    by_cases hq : s[0]'h0 = 39
    · have HD := Lib.hid (lDecode_any s 1 w hT (by omega))
      obtain ⟨hb1, hb2, hb3⟩ := runeAt_bd s 1 (by omega)
      have HN := Lib.hid (@qt_zero s)
      have HO := Lib.hid (@qt_open s)
      have HG := Lib.hid (@qt_ok s h0 hq)
      generalize (runeAt s 1).2 = n at HD HN HO HG hb1 hb2
      generalize (runeAt s 1).1 = r at HD hb3
      have hq0 : (((s[0]'h0).toNat : Int) != 39) = false := by rw [hq]; rfl
      rcases Nat.eq_zero_or_pos n with hn | hn
      · have HE := Lib.hid (HN.out hn)
        subst hn
        go_enter Tryz.func224, Tryz.ntmps224
        go_wp2_with (go_at_call 257; refine HD.out.mono ?_; rintro e w2 ⟨rfl, hbw⟩)
        go_ret
        exact ⟨by rw [HE.out]; rfl, hbw⟩
      · have hn0 : ((n : Int) == 0) = false := beq_eq_false_iff_ne.2 (by omega)
        by_cases hp : n + 1 < s.size
        · have hix2 := index_at s ((n : Int) + 1) (n + 1) (by omega) hp
          have hd : decide ((s.size : Int) < (n : Int) + 2) = false := decide_eq_false (by omega)
          by_cases hq2 : s[n + 1]'hp = 39
          · have HE := Lib.hid (HG.out (by omega) (by rw [get_list hp, hq2]))
            have hq3 : (((s[n + 1]'hp).toNat : Int) != 39) = false := by rw [hq2]; rfl
            go_enter Tryz.func224, Tryz.ntmps224
            go_wp2_with (go_at_call 257; refine HD.out.mono ?_; rintro e w2 ⟨rfl, hbw⟩)
            go_ret
            exact ⟨by rw [HE.out]; rfl, hbw⟩
          · have HE := Lib.hid (HO.out (by rw [get_list hp]; simpa using hq2))
            have hq3 : (((s[n + 1]'hp).toNat : Int) != 39) = true := by
              rw [bne_iff_ne]; intro e
              exact hq2 (UInt8.toNat_inj.1 (by have : (s[n + 1]'hp).toNat = 39 := by omega
                                               rw [this]; rfl))
            go_enter Tryz.func224, Tryz.ntmps224
            go_wp2_with (go_at_call 257; refine HD.out.mono ?_; rintro e w2 ⟨rfl, hbw⟩)
            go_ret
            exact ⟨by rw [HE.out]; rfl, hbw⟩
        · have hd : decide ((s.size : Int) < (n : Int) + 2) = true := decide_eq_true (by omega)
          have HE := Lib.hid (HO.out (by rw [List.getElem?_eq_none (by rw [size_data]; omega)]; simp))
          go_enter Tryz.func224, Tryz.ntmps224
          go_wp2_with (go_at_call 257; refine HD.out.mono ?_; rintro e w2 ⟨rfl, hbw⟩)
          go_ret
          exact ⟨by rw [HE.out]; rfl, hbw⟩
    · have HE := Lib.hid (qt_no (s := s) (fun _ => hq))
      have hq3 : (((s[0]'h0).toNat : Int) != 39) = true := by
        rw [bne_iff_ne]; intro e
        exact hq (UInt8.toNat_inj.1 (by have : (s[0]'h0).toNat = 39 := by omega
                                        rw [this]; rfl))
      go_enter Tryz.func224, Tryz.ntmps224
      go_wp2
      go_ret
      exact ⟨by rw [HE.out]; rfl, Below.refl _ _⟩
theorem wfind_any (s : ByteArray) (c : UInt8) (z : Int) (hz : z = (c.toNat : Int)) (w : World) (hT : Tabs w) (hs : s.size≤1000000) :
  Calls Tryz.prog 195 #[.string s,.int .u8 z] w fun e w'=>e = .returned (.int .i64 (fv (findP c s.data.toList)))∧Below w.heap.size w w':=by
 have hsz : s.data.toList.length = s.size:=size_data s
 have Hsz:=Lib.hid hsz
 have Hz:=Lib.hid hz
 clear hz
 go_enter Tryz.func195,Tryz.ntmps195
 go_wp2
 go_loopw [5] (fun v wr=>∃ i : Nat,v = .int .i64 i∧i≤s.size∧Hid (FindAt c s.data.toList i)∧Below w.heap.size w wr) (fun v _=>s.size - (intOf v).toNat)
 case atStart=>exact ⟨0,rfl,by omega,findAt_first _ _,Below.refl _ _⟩
 case round =>
  obtain ⟨i,rfl,hi,HF,hb⟩:=hrel
  by_cases hlt : i < s.size
  ·have HQ:=Lib.hid (wquoted_any (s.extract i s.size) wr (hT.below hb) (by rw [ByteArray.size_extract];omega))
   rw [rest_drop] at HQ
   have hix:=index_at s i i rfl hlt
   cases hq : qtL (s.data.toList.drop i) with
   | some k =>
    rw [hq] at HQ
    have hk:=qtL_some hq
    have hk3:=hk.1
    have hkl : i+k≤s.size:=by have:=hk.2.2.1;rw [List.length_drop,Hsz.out] at this;omega
    have HF':=Lib.hid (findAt_qt HF.out hq)
    have Hq:=Lib.hid hq
    clear hk hq
    go_wp2_with (go_at_call 224;refine HQ.out.mono ?_;rw [Option.getD_some];rintro e w2 ⟨rfl,hb2⟩)
    go_roundw
    case rel =>
     exact ⟨i+k,by go_num,hkl,HF',below_step hb hb2 hb.size⟩
    case measure=>simp [intOf];omega
   | none =>
    rw [hq] at HQ
    by_cases hc : s[i]'hlt = c
    ·have HE:=Lib.hid (findAt_hit HF.out (by rw [get_list hlt,hc]) hq)
     have hzz : (((s[i]'hlt).toNat : Int) == z) = true:=by rw [hc,Hz.out];simp
     clear hq hc
     go_wp2_with (go_at_call 224;refine HQ.out.mono ?_;rw [Option.getD_none];rintro e w2 ⟨rfl,hb2⟩)
     go_ret
     exact ⟨by rw [HE.out];rfl,below_step hb hb2 hb.size⟩
    ·have HF':=Lib.hid (findAt_byte HF.out (get_list hlt) hq hc)
     have hzz : (((s[i]'hlt).toNat : Int) == z) = false:=beq_eq_false_iff_ne.2 (fun e=>hc (UInt8.toNat_inj.1 (by have:=Hz.out;omega)))
     clear hq
     go_wp2_with (go_at_call 224;refine HQ.out.mono ?_;rw [Option.getD_none];rintro e w2 ⟨rfl,hb2⟩)
     go_roundw
     case rel =>
      exact ⟨i+1,by go_num,by omega,HF',below_step hb hb2 hb.size⟩
     case measure=>simp [intOf];omega
  ·have HE:=Lib.hid (findAt_end HF.out (by rw [Hsz.out];exact hlt))
   go_wp2
   go_ret
   exact ⟨by rw [HE.out];rfl,hb⟩
theorem zero256 : ∀ w,(zeroValue 284).run Tryz.prog w = .ok (.agg (Array.replicate 256 (.bool false))) w:=by intro w;kernel_rfl
theorem size256 : (Tryz.prog.info? 284).map (·.size) = some 256:=by kernel_rfl
theorem lTrim_any (s : ByteArray) (w : World) (hs : s.size≤1000000) :
  Calls Tryz.prog 196 #[.string s,.string ⟨#[32,9]⟩] w fun e w'=>e = .returned (.string (bytesOf (trimL s.data.toList)))∧Below w.heap.size w w':=by
 rcases Nat.eq_zero_or_pos s.size with h0 | h0
 ·have h:=Any.strings_Trim_empty Tryz.lays160 s ⟨#[32,9]⟩ w (.inl h0)
  obtain rfl:=empty_of h0
  refine h.mono ?_
  rintro e w' ⟨rfl,rfl⟩
  exact ⟨rfl,Below.refl _ _⟩
 ·have h:=Any.strings_Trim_set Tryz.lays160 zero256 size256 s ⟨#[32,9]⟩ w (show 2≤2 by omega) h0 (by omega) (show 2 < 4294967281 by omega) (fun j b hj=>by
   match j,hj with
   | 0,hj=>simp at hj;subst hj;decide
   | 1,hj=>simp at hj;subst hj;decide
   | j+2,hj=>simp at hj)
  refine h.mono ?_
  rintro e w' ⟨rfl,q,rfl⟩
  refine ⟨?_,below_drewN (((Below.refl _ _).alloc (Nat.le_refl _) _).alloc (by simp) _) _⟩
  rw [show (ByteArray.mk #[32,9]).data.toList = [32,9] from rfl,trimS_eq];rfl
theorem wline_any (s : ByteArray) (w : World) (hT : Tabs w) (hs : s.size≤1000000) :
  Calls Tryz.prog 161 #[.string s] w fun e w'=>e = .returned (.string (bytesOf (lineU s.data.toList)))∧Below w.heap.size w w':=by
 have HF:=Lib.hid (wfind_any s 35 35 rfl w hT hs)
 have hlt:=fun i h=>(List.getElem?_eq_some_iff.1 (findP_lt (c:=35) _ s.data.toList (Nat.le_refl _) i h)).1
 rw [size_data] at hlt
 have HU : Hid (lineU s.data.toList = trimL (s.data.toList.take ((findP 35 s.data.toList).getD s.data.toList.length))):=rfl
 cases hq : findP 35 s.data.toList with
 | none =>
  rw [hq] at HF HU
  rw [Option.getD_none,List.take_length] at HU
  clear hq hlt
  go_enter Tryz.func161,Tryz.ntmps161
  go_wp2_with (first | (go_at_call 195;refine HF.out.mono ?_;rw [show fv none = -1 from rfl];rintro e w2 ⟨rfl,hb2⟩) | (go_at_call 196;refine (lTrim_any s _ hs).mono ?_;rintro e w3 ⟨rfl,hb3⟩))
  go_ret
  exact ⟨by rw [HU.out];rfl,below_two hb2 hb3⟩
 | some i =>
  have hi:=hlt i hq
  rw [hq] at HF HU
  rw [Option.getD_some,← take_extract] at HU
  clear hq hlt
  go_enter Tryz.func161,Tryz.ntmps161
  go_wp2_with (first | (go_at_call 195;refine HF.out.mono ?_;rw [show fv (some i) = (i : Int) from rfl];rintro e w2 ⟨rfl,hb2⟩) | (go_at_call 196;refine (lTrim_any (s.extract 0 i) _ (by rw [ByteArray.size_extract];omega)).mono ?_;rintro e w3 ⟨rfl,hb3⟩))
  go_ret
  exact ⟨by rw [HU.out,take_extract];rfl,below_two hb2 hb3⟩
end
section
open Go.RowKit
attribute [local go_sem ↓] neqR eqlR
end
section
open Go.RowKit
theorem lGrow_any (s : Int) (w : World) (h0 : 0≤s) (hs : s≤4000000) :
  Calls Tryz.prog 269 #[.slice none 0 0,.int .i64 s] w fun e w'=>∃ A c,e = .returned (.slice A 0 c)∧Own w' w.heap.size 262 2 A 0 c []∧RowKit.Below w.heap.size w w':=by
 obtain ⟨n,rfl⟩:=Int.eq_ofNat_of_zero_le h0
 obtain ⟨i0,hi0,hz0,hz1,hz2⟩:=info_parts infoR
 rcases Nat.eq_zero_or_pos n with hn | hn
 ·subst hn
  have h:=Any8.slices_Grow_room Tryz.growR none 0 0 0 w (by omega) (by omega) (by omega) (by omega)
  change Calls Tryz.prog 269 _ _ _ at h
  refine h.mono ?_
  rintro e w' ⟨rfl,rfl⟩
  exact ⟨none,0,rfl,Own.nil_ _ _ _ _,RowKit.Below.refl _ _⟩
 ·have h:=Any8.slices_Grow_grow Tryz.growR i0 _ hi0 hz0 (by omega) none 0 0 n [] w (by omega) (by omega) (by rw [hz2];omega) (by omega) (by simp) (fun _=>rfl) (fun a h=>by cases h)
  change Calls Tryz.prog 269 _ _ _ at h
  refine h.mono ?_
  rintro e w' ⟨rfl,rfl⟩
  have hge:=grownCap_ge w (0+n) 0 262
  refine ⟨_,_,rfl,⟨rfl,by simp,by simp,.inr ⟨w.heap.size,_,_,rfl,Nat.le_refl _,heap_alloc_new _ _,Nat.zero_le _,grownCap_le_maxLen _ _ _ _ (by unfold maxLen;omega),?_,by simp⟩⟩,((RowKit.Below.refl _ _).drew).alloc (Nat.le_refl _) _⟩
  simp [size_zeroCells,Value.cells]
  rw [Nat.zero_add] at hge
  change n≤grownCap w n 0 (Tryz.growR_ren.t 25) at hge
  generalize grownCap w n 0 (Tryz.growR_ren.t 25) = q at *
  omega
theorem lConcat_any (A A2 : Option Addr) (b n c n2 c2 : Nat) (x y : List (Int × Int)) (w : World) (hA : Rd w 2 A (x.map encR)) (hB : Rd w 2 A2 (y.map encR)) (hx : x.length = n) (hy : y.length = n2) (hn : n+n2≤4000000)
  (h0 : w.cell? ⟨b,0,none⟩ = some (.slice A n c)) (h1 : w.cell? ⟨b,1,none⟩ = some (.slice A2 n2 c2)) :
  Calls Tryz.prog 236 #[.slice (some ⟨b,0,none⟩) 2 2] w fun e w'=>∃ A' c',e = .returned (.slice A' (n+n2) c')∧Own w' w.heap.size 262 2 A' (n+n2) c' ((x++y).map encR)∧RowKit.Below w.heap.size w w':=by
 obtain ⟨i0,hi0,hz0,hz1,hz2⟩:=info_parts infoR
 have Hx:=Lib.hid hx
 have Hy:=Lib.hid hy
 clear hx hy
 go_enter Tryz.func236,Tryz.ntmps236
 go_wp2
 go_loop [3,11] (fun v i=>(v = .int .i64 0∧i = .int .i64 0)∨(v = .int .i64 n∧i = .int .i64 1)∨(v = .int .i64 (n+n2)∧i = .int .i64 2)) (fun _ i=>2 - (intOf i).toNat)
 case atStart=>exact .inl ⟨rfl,rfl⟩
 case round =>
  rcases hrel with ⟨rfl,rfl⟩ | ⟨rfl,rfl⟩ | ⟨rfl,rfl⟩
  ·go_wp2
   go_round
   case rel=>exact .inr (.inl ⟨rfl,rfl⟩)
   case measure=>simp [intOf]
  ·go_wp2
   go_round
   case rel=>exact .inr (.inr ⟨rfl,rfl⟩)
   case measure=>simp [intOf]
  ·go_wp2_with fail
   refine (lGrow_any (n+n2) w (by omega) (by omega)).mono ?_
   rintro e w1 ⟨A3,c3,rfl,ho1,hb1⟩
   have g0:=cell_keep h0 hb1
   have g1:=cell_keep h1 hb1
   have hA':=hA.below hb1
   have hB':=hB.below hb1
   have ho1 : Own w1 w.heap.size 262 2 A3 0 c3 []:=ho1
   go_wp2
   go_loopw [6,27] (fun v i wr=>∃ (A4 : Option Addr) (n4 c4 : Nat) (o : List (Int × Int)),v = .slice A4 n4 c4∧Own wr w.heap.size 262 2 A4 n4 c4 (o.map encR)∧RowKit.Below w.heap.size w wr ∧
     ((i = .int .i64 0∧n4 = 0∧Hid (o = []))∨(i = .int .i64 1∧n4 = n∧Hid (o = x))∨(i = .int .i64 2∧n4 = n+n2∧Hid (o = x++y)))) (fun _ i _=>2 - (intOf i).toNat)
   case atStart=>exact ⟨A3,0,c3,[],rfl,ho1,hb1,.inl ⟨rfl,rfl,rfl⟩⟩
   case round =>
    clear ho1 hb1 g0 g1 hA' hB'
    obtain ⟨A4,n4,c4,o,rfl,ho,hb,hrel⟩:=hrel
    have g0:=cell_keep h0 hb
    have g1:=cell_keep h1 hb
    have hA':=hA.below hb
    have hB':=hB.below hb
    rcases hrel with ⟨rfl,rfl,HO⟩ | ⟨rfl,rfl,HO⟩ | ⟨rfl,rfl,HO⟩
    ·go_wp2_with (at_builtin;go_must (refine wpList_app rfl (.tmp 31) (.tmp 32) _ rfl w.heap.size 262 i0 _ 2 8 Tryz.underlying239 hi0 hz0 hz1 hz2 rfl (by omega) A4 0 c4 (o.map encR) rfl ho A n c (x.map encR) rfl (by simpa using Hx.out) hA' (encR_ok x) (by unfold maxLen;omega) (by omega) hb.size ?_);intro A5 c5 w5 ho5 hg5 hA5;have hb5:=below_app hb hg5 hb.size (fun a ha=>(ho.lt a ha).1);clear hg5)
     have Ho5 : Own w5 w.heap.size 262 2 A5 n c5 (x.map encR):=by have:=HO.out;subst this;simpa using ho5
     clear ho5
     go_roundw
     case rel=>exact ⟨A5,n,c5,x,rfl,Ho5,hb5,.inr (.inl ⟨rfl,rfl,rfl⟩)⟩
     case measure=>simp [intOf]
    ·go_wp2_with (at_builtin;go_must (refine wpList_app rfl (.tmp 31) (.tmp 32) _ rfl w.heap.size 262 i0 _ 2 8 Tryz.underlying239 hi0 hz0 hz1 hz2 rfl (by omega) A4 n4 c4 (o.map encR) rfl ho A2 n2 c2 (y.map encR) rfl (by simpa using Hy.out) hB' (encR_ok y) (by unfold maxLen;omega) (by omega) hb.size ?_);intro A5 c5 w5 ho5 hg5 hA5;have hb5:=below_app hb hg5 hb.size (fun a ha=>(ho.lt a ha).1);clear hg5)
     have Ho5 : Own w5 w.heap.size 262 2 A5 (n4+n2) c5 ((x++y).map encR):=by have:=HO.out;subst this;simpa using ho5
     clear ho5
     go_roundw
     case rel=>exact ⟨A5,n4+n2,c5,x++y,rfl,Ho5,hb5,.inr (.inr ⟨rfl,rfl,rfl⟩)⟩
     case measure=>simp [intOf]
    ·go_wp2
     go_ret
     exact ⟨A4,c4,rfl,by have:=HO.out;subst this;exact ho,hb⟩
theorem rOr_any (A A2 : Option Addr) (n c n2 c2 : Nat) (a b : List (Int × Int)) (w : World) (hA : Rd w 2 A (a.map encR)) (hB : Rd w 2 A2 (b.map encR)) (ha : a.length = n) (hb : b.length = n2) (hn : n+n2≤4000000) :
  Calls Tryz.prog 202 #[.slice A n c,.slice A2 n2 c2] w fun e w'=>∃ A' n' c',e = .returned (.slice A' n' c')∧Own w' w.heap.size 262 2 A' n' c' ((orR a b).map encR)∧RowKit.Below w.heap.size w w':=by
 have Ha:=Lib.hid ha
 have Hb:=Lib.hid hb
 clear ha hb
 go_enter Tryz.func202,Tryz.ntmps202
 go_wp2_with fail
 refine (lConcat_any A A2 w.heap.size n c n2 c2 a b _ (hA.alloc _) (hB.alloc _) Ha.out Hb.out hn (by simp) (by simp)).mono ?_
 rintro e w1 ⟨A3,c3,rfl,ho1,hb1⟩
 have hb1' : RowKit.Below w.heap.size w w1:=below_two ((RowKit.Below.refl _ _).alloc (Nat.le_refl _) _) hb1
 have hrd:=ho1.rd (by omega)
 clear hb1
 go_wp2_with fail
 refine (rNorm_any A3 (n+n2) c3 (a++b) _ hrd (by rw [List.length_append,Ha.out,Hb.out]) hn).mono ?_
 rintro e w2 ⟨A4,n4,c4,rfl,ho2,hb2⟩
 go_wp2
 go_ret
 exact ⟨_,_,_,rfl,ho2.more hb1'.size,below_two hb1' hb2⟩
theorem rNot_any (A : Option Addr) (n c : Nat) (l : List (Int × Int)) (w : World) (hA : Rd w 2 A (l.map encR)) (hl : l.length = n) (hn : n≤4000000) :
  Calls Tryz.prog 205 #[.slice A n c] w fun e w'=>∃ A' n' c',e = .returned (.slice A' n' c')∧Own w' w.heap.size 262 2 A' n' c' ((notR l).map encR)∧RowKit.Below w.heap.size w w':=by
 obtain ⟨i0,hi0,hz0,hz1,hz2⟩:=info_parts infoR
 have Hl:=Lib.hid hl
 clear hl
 have HNF:=Lib.hid (normR_NF l)
 go_enter Tryz.func205,Tryz.ntmps205
 go_wp2_with (go_at_call 234;go_must (refine (rNorm_any A n c l _ hA Hl.out hn).mono ?_);rintro e w1 ⟨A1,n1,c1,rfl,ho1,hb1⟩)
 have hn1:=own_nf_len ho1 HNF.out
 have hrd:=ho1.rd (by omega)
 have Hn1 : Hid ((normR l).length = n1):=Lib.hid (by simpa using ho1.len)
 have hbs1:=hb1.size
 clear ho1
 go_loopw [3,4,10] (fun v x i wr=>∃ (k : Nat) (A2 : Option Addr) (n2 c2 : Nat) (o : List (Int × Int)) (next : Int),k≤n1∧n2≤k∧v = .slice A2 n2 c2∧x = .int .i32 next∧i = .int .i64 k∧0≤next∧next≤1114112 ∧
   Own wr w1.heap.size 262 2 A2 n2 c2 (o.map encR)∧Hid (o++notGo next ((normR l).drop k) = notR l)∧RowKit.Below w1.heap.size w1 wr) (fun _ _ i _=>n1 - (intOf i).toNat)
 case atStart=>exact ⟨0,none,0,0,[],0,by omega,by omega,rfl,rfl,rfl,by omega,by omega,Own.nil_ _ _ _ _,rfl,RowKit.Below.refl _ _⟩
 case round =>
  obtain ⟨k,A2,n2,c2,o,next,hk,hn2,rfl,rfl,rfl,hx0,hx1,ho,HO,hb⟩:=hrel
  have hbs:=hb.size
  by_cases hlt : k < n1
  ·obtain ⟨b,off,lo,hi,rfl,Hx,hc1,hc2⟩:=hrd.atR (k:=k) (by have:=Hn1.out;omega)
   have hr1:=cell_keep hc1 hb
   have hr2:=cell_keep hc2 hb
   obtain ⟨hb0,hb1',hb2⟩ : 0≤lo∧lo≤hi∧hi≤1114111:=by
    have hm:=List.mem_of_getElem? Hx.out
    have:=HNF.out.2 _ hm;have:=Nf_le HNF.out.1 _ hm;simp only at *;omega
   have HD:=Lib.hid (drop_cons_of Hx.out)
   have hbox:=hb.alloc hbs (.cells #[.int .i32 lo,.int .i32 hi] 262)
   by_cases hc : next < lo
   ·go_wp2_with (at_builtin;go_must (refine wpList_app rfl (.tmp 18) (.tmp 24) _ rfl w1.heap.size 262 i0 _ 2 8 Tryz.underlying239 hi0 hz0 hz1 hz2 rfl (by omega) A2 n2 c2 (o.map encR) rfl ((ho.alloc _).alloc _) _ 1 1 [encR (next,lo - 1)] rfl rfl (Rd.newAt (by simp) rfl) (encR_ok [(next,lo - 1)]) (by unfold maxLen;omega) (by omega) (by simp;omega) ?_);intro A3 c3 w3 ho3 hg3 hA3;have hb3:=below_app (hbox.alloc (by simp;omega) (.cells #[.int .i32 next,.int .i32 (lo - 1)] 262)) hg3 (by simp;omega) (fun a ha=>(ho.lt a ha).1);have h3 : w3.cell? ⟨wr.heap.size,1,none⟩ = some (.int .i32 hi):=(hg3.cell (by simp [World.cell?_alloc_past]) (fun e=>by cases A2 with | none=>simp at e | some a=>have:=(ho.lt a rfl).2;simp at e;omega));clear hg3)
    have Ho3 : Own w3 w1.heap.size 262 2 A3 (n2+1) c3 ((o++[(next,lo - 1)]).map encR):=by rw [List.map_append];exact ho3
    clear ho3
    go_roundw
    case rel=>exact ⟨k+1,A3,n2+1,c3,o++[(next,lo - 1)],hi+1,by omega,by omega,rfl,rfl,by go_num,by omega,by omega,Ho3,Lib.hid (by rw [← HO.out,HD.out,notGo_cons,if_pos hc,List.append_assoc]),hb3⟩
    case measure=>simp [intOf];omega
   ·have hge : lo≤next:=by omega
    go_wp2
    go_roundw
    case rel=>exact ⟨k+1,A2,n2,c2,o,hi+1,by omega,by omega,rfl,rfl,by go_num,by omega,by omega,ho.alloc _,Lib.hid (by rw [← HO.out,HD.out,notGo_cons,if_neg hc,List.nil_append]),hbox⟩
    case measure=>simp [intOf];omega
  ·have Hdr : Hid ((normR l).drop k = []):=Lib.hid (List.drop_of_length_le (by have:=Hn1.out;omega))
   by_cases hc : next≤1114111
   ·go_wp2_with (at_builtin;go_must (refine wpList_app rfl (.tmp 32) (.tmp 35) _ rfl w1.heap.size 262 i0 _ 2 8 Tryz.underlying239 hi0 hz0 hz1 hz2 rfl (by omega) A2 n2 c2 (o.map encR) rfl (ho.alloc _) _ 1 1 [encR (next,1114111)] rfl rfl (Rd.newAt (by simp) rfl) (encR_ok [(next,1114111)]) (by unfold maxLen;omega) (by omega) (by simp;omega) ?_);intro A3 c3 w3 ho3 hg3 hA3;have hb3:=below_app (hb.alloc hbs (.cells #[.int .i32 next,.int .i32 1114111] 262)) hg3 (by simp;omega) (fun a ha=>(ho.lt a ha).1);clear hg3)
    have Ho3 : Own w3 w1.heap.size 262 2 A3 (n2+1) c3 ((o++[(next,1114111)]).map encR):=by rw [List.map_append];exact ho3
    clear ho3
    go_ret
    exact ⟨_,_,_,rfl,by have:=HO.out;rw [Hdr.out,notGo_nil,if_pos hc] at this;rw [← this];exact Ho3.more hbs1,below_step hb1 hb3 hbs1⟩
   ·obtain rfl : next = 1114112:=by omega
    have HE : Hid (o = notR l):=Lib.hid (by have:=HO.out;rw [Hdr.out,notGo_nil,if_neg hc,List.append_nil] at this;exact this)
    clear hc hx1 hx0
    go_wp2
    go_ret
    exact ⟨_,_,_,rfl,by rw [← HE.out];exact ho.more hbs1,below_step hb1 hb hbs1⟩
end
end Go.Proofs.YtlfpdpbbkjnapaaGreatDoor
