/- -/
import Derived.Deep.DeepMust
import Derived.Test.YtlfpdpbbkjnapaaGreatDoorP0a
namespace Go.Proofs.YtlfpdpbbkjnapaaGreatDoor
set_option maxRecDepth 100000
set_option maxHeartbeats 40000000
section
open Go.RowKit Go.Maps
theorem letB_t {c : UInt8} (h : (65≤c.toNat∧c.toNat≤90)∨(97≤c.toNat∧c.toNat≤122)) : letB c = true:=by simpa [letB] using h
theorem letB_f {c : UInt8} (h : ¬ ((65≤c.toNat∧c.toNat≤90)∨(97≤c.toNat∧c.toNat≤122))) : letB c = false:=by
 cases hb : letB c with
 | false=>rfl
 | true=>exact absurd (by simpa [letB] using hb) h
theorem u8_eq {c : UInt8} {n : Nat} (hn : n < 256) : c = UInt8.ofNat n ↔ c.toNat = n:=by
 constructor
 ·rintro rfl;simp;omega
 ·intro h;rw [← UInt8.toNat_inj,h];simp;omega
theorem partB_t {c : UInt8} (h : (65≤c.toNat∧c.toNat≤90)∨(97≤c.toNat∧c.toNat≤122)∨(48≤c.toNat∧c.toNat≤57)∨c.toNat = 95) : partB c = true:=by
 have h95 : c = 95 ↔ c.toNat = 95:=u8_eq (n:=95) (by omega)
 simp only [partB,letB,Bool.or_eq_true,decide_eq_true_eq,beq_iff_eq,h95];omega
theorem partB_f {c : UInt8} (h : ¬ ((65≤c.toNat∧c.toNat≤90)∨(97≤c.toNat∧c.toNat≤122)∨(48≤c.toNat∧c.toNat≤57)∨c.toNat = 95)) : partB c = false:=by
 have h95 : c = 95 ↔ c.toNat = 95:=u8_eq (n:=95) (by omega)
 cases hb : partB c with
 | false=>rfl
 | true =>
  refine absurd ?_ h
  simp only [partB,letB,Bool.or_eq_true,decide_eq_true_eq,beq_iff_eq,h95] at hb;omega
theorem wName_any (l : List UInt8) (w : World) (hs : l.length≤9223372036854775807) : Calls Tryz.prog 197 #[.string (bytesOf l)] w fun e w'=>e = .returned (.bool (nameL l))∧Below w.heap.size w w':=by
 have hcv:=fun W=>Lib.run_convert_string_bytes (P:=Tryz.prog) W 9 155 5 (bytesOf l) Tryz.underlying9 Tryz.underlying155 Tryz.underlying5
 have hsz : (bytesOf l).size = l.length:=bytesOf_size l
 go_enter Tryz.func197,Tryz.ntmps197
 go_wp2
 have hcell:=fun j hj=>Lib.bytesWorld_cell w 5 (bytesOf l) j hj
 have hbw:=below_bytesWorld w 5 (bytesOf l)
 generalize Lib.bytesWorld w 5 (bytesOf l) = w1 at hcell hbw ⊢
 have Hcell:=Lib.hid hcell
 clear hcell hcv
 go_loop [9] (fun i=>∃ k : Nat,i = .int .i64 k∧k≤l.length∧Hid (nameU (l.take k) = true)) (fun i=>l.length - (intOf i).toNat)
 case atStart=>exact ⟨0,rfl,by omega,rfl⟩
 case round =>
  obtain ⟨k,rfl,hk,Hm⟩:=hrel
  by_cases hlt : k < l.length
  ·obtain ⟨c,Hc⟩ : ∃ c,Hid (l[k]? = some c):=⟨_,Lib.hid (List.getElem?_eq_getElem hlt)⟩
   have hc:=Hcell.out k (by rw [bytesOf_size];exact hlt)
   rw [bytesOf_list,List.getD_eq_getElem?_getD,Hc.out,Option.getD_some] at hc
   have HN:=Lib.hid (nameU_next Hc.out Hm.out)
   have HE : Hid (nameU (l.take (k+1)) = false→nameL l = false):=Lib.hid (fun h=>by rw [nameL_eq,nameU_take h,Bool.false_and])
   have hc0 : 0≤(c.toNat : Int):=by omega
   have hc255 : (c.toNat : Int)≤255:=by have:=c.toNat_lt;omega
   have HLT : Hid ((65≤(c.toNat : Int)∧(c.toNat : Int)≤90)∨(97≤(c.toNat : Int)∧(c.toNat : Int)≤122)→letB c = true∧partB c = true):=Lib.hid (fun h=>⟨letB_t (by omega),partB_t (by omega)⟩)
   have HLF : Hid (¬ ((65≤(c.toNat : Int)∧(c.toNat : Int)≤90)∨(97≤(c.toNat : Int)∧(c.toNat : Int)≤122))→letB c = false):=Lib.hid (fun h=>letB_f (by omega))
   have HPT : Hid ((48≤(c.toNat : Int)∧(c.toNat : Int)≤57)∨(c.toNat : Int) = 95→partB c = true):=Lib.hid (fun h=>partB_t (by omega))
   have HPF : Hid (¬ ((65≤(c.toNat : Int)∧(c.toNat : Int)≤90)∨(97≤(c.toNat : Int)∧(c.toNat : Int)≤122)∨(48≤(c.toNat : Int)∧(c.toNat : Int)≤57)∨(c.toNat : Int) = 95)→partB c = false):=Lib.hid (fun h=>partB_f (by omega))
   generalize (c.toNat : Int) = z at hc hc0 hc255 HLT HLF HPT HPF
   rcases Nat.eq_zero_or_pos k with rfl | h0
   ·rcases (by omega : (65≤z∧z≤90)∨(97≤z∧z≤122)∨(z < 65∨(90 < z∧z < 97)∨122 < z)) with ⟨hq,hq'⟩ | ⟨hq,hq'⟩ | hq
    iterate 2
     ·have HV : Hid (nameU (l.take (0+1)) = true):=Lib.hid (by rw [HN.out,if_pos rfl];exact (HLT.out (by omega)).1)
      clear HLT HLF HPT HPF HN HE
      try first | (have d65 : decide (65≤z) = true:=decide_eq_true (by omega)) | (have d65 : decide (65≤z) = false:=decide_eq_false (by omega))
      try first | (have d90 : decide (z≤90) = true:=decide_eq_true (by omega)) | (have d90 : decide (z≤90) = false:=decide_eq_false (by omega))
      try first | (have d97 : decide (97≤z) = true:=decide_eq_true (by omega)) | (have d97 : decide (97≤z) = false:=decide_eq_false (by omega))
      try first | (have d122 : decide (z≤122) = true:=decide_eq_true (by omega)) | (have d122 : decide (z≤122) = false:=decide_eq_false (by omega))
      try first | (have d48 : decide (48≤z) = true:=decide_eq_true (by omega)) | (have d48 : decide (48≤z) = false:=decide_eq_false (by omega))
      try first | (have d57 : decide (z≤57) = true:=decide_eq_true (by omega)) | (have d57 : decide (z≤57) = false:=decide_eq_false (by omega))
      try first | (have d95 : (z == 95) = true:=beq_iff_eq.2 (by omega)) | (have d95 : (z == 95) = false:=beq_eq_false_iff_ne.2 (by omega))
      go_wp2
      refine ⟨⟨0+1,by go_num,by omega,HV⟩,?_⟩
      simp [intOf];omega
    ·have HV : Hid (nameL l = false):=Lib.hid (HE.out (by rw [HN.out,if_pos rfl];exact HLF.out (by omega)))
     clear HLT HLF HPT HPF HN HE
     rcases hq with hq | ⟨hq,hq'⟩ | hq
     all_goals
      try first | (have d65 : decide (65≤z) = true:=decide_eq_true (by omega)) | (have d65 : decide (65≤z) = false:=decide_eq_false (by omega))
      try first | (have d90 : decide (z≤90) = true:=decide_eq_true (by omega)) | (have d90 : decide (z≤90) = false:=decide_eq_false (by omega))
      try first | (have d97 : decide (97≤z) = true:=decide_eq_true (by omega)) | (have d97 : decide (97≤z) = false:=decide_eq_false (by omega))
      try first | (have d122 : decide (z≤122) = true:=decide_eq_true (by omega)) | (have d122 : decide (z≤122) = false:=decide_eq_false (by omega))
      try first | (have d48 : decide (48≤z) = true:=decide_eq_true (by omega)) | (have d48 : decide (48≤z) = false:=decide_eq_false (by omega))
      try first | (have d57 : decide (z≤57) = true:=decide_eq_true (by omega)) | (have d57 : decide (z≤57) = false:=decide_eq_false (by omega))
      try first | (have d95 : (z == 95) = true:=beq_iff_eq.2 (by omega)) | (have d95 : (z == 95) = false:=beq_eq_false_iff_ne.2 (by omega))
      go_wp2
      go_ret
      exact ⟨by rw [HV.out];rfl,hbw⟩
   ·have hk0 : ((k : Int) == 0) = false:=beq_eq_false_iff_ne.2 (by omega)
    rcases (by omega : (65≤z∧z≤90)∨(97≤z∧z≤122)∨(48≤z∧z≤57)∨z = 95∨(z < 48∨(57 < z∧z < 65)∨(90 < z∧z < 95)∨z = 96∨122 < z)) with ⟨hq,hq'⟩ | ⟨hq,hq'⟩ | ⟨hq,hq'⟩ | hq | hq
    iterate 4
     ·have HV : Hid (nameU (l.take (k+1)) = true):=Lib.hid (by rw [HN.out,if_neg (by omega)];first | exact (HLT.out (by omega)).2 | exact HPT.out (by omega))
      clear HLT HLF HPT HPF HN HE
      try first | (have d65 : decide (65≤z) = true:=decide_eq_true (by omega)) | (have d65 : decide (65≤z) = false:=decide_eq_false (by omega))
      try first | (have d90 : decide (z≤90) = true:=decide_eq_true (by omega)) | (have d90 : decide (z≤90) = false:=decide_eq_false (by omega))
      try first | (have d97 : decide (97≤z) = true:=decide_eq_true (by omega)) | (have d97 : decide (97≤z) = false:=decide_eq_false (by omega))
      try first | (have d122 : decide (z≤122) = true:=decide_eq_true (by omega)) | (have d122 : decide (z≤122) = false:=decide_eq_false (by omega))
      try first | (have d48 : decide (48≤z) = true:=decide_eq_true (by omega)) | (have d48 : decide (48≤z) = false:=decide_eq_false (by omega))
      try first | (have d57 : decide (z≤57) = true:=decide_eq_true (by omega)) | (have d57 : decide (z≤57) = false:=decide_eq_false (by omega))
      try first | (have d95 : (z == 95) = true:=beq_iff_eq.2 (by omega)) | (have d95 : (z == 95) = false:=beq_eq_false_iff_ne.2 (by omega))
      go_wp2
      refine ⟨⟨k+1,by go_num,by omega,HV⟩,?_⟩
      simp [intOf];omega
    ·have HV : Hid (nameL l = false):=Lib.hid (HE.out (by rw [HN.out,if_neg (by omega)];exact HPF.out (by omega)))
     clear HLT HLF HPT HPF HN HE
     rcases hq with hq | ⟨hq,hq'⟩ | ⟨hq,hq'⟩ | hq | hq
     all_goals
      try first | (have d65 : decide (65≤z) = true:=decide_eq_true (by omega)) | (have d65 : decide (65≤z) = false:=decide_eq_false (by omega))
      try first | (have d90 : decide (z≤90) = true:=decide_eq_true (by omega)) | (have d90 : decide (z≤90) = false:=decide_eq_false (by omega))
      try first | (have d97 : decide (97≤z) = true:=decide_eq_true (by omega)) | (have d97 : decide (97≤z) = false:=decide_eq_false (by omega))
      try first | (have d122 : decide (z≤122) = true:=decide_eq_true (by omega)) | (have d122 : decide (z≤122) = false:=decide_eq_false (by omega))
      try first | (have d48 : decide (48≤z) = true:=decide_eq_true (by omega)) | (have d48 : decide (48≤z) = false:=decide_eq_false (by omega))
      try first | (have d57 : decide (z≤57) = true:=decide_eq_true (by omega)) | (have d57 : decide (z≤57) = false:=decide_eq_false (by omega))
      try first | (have d95 : (z == 95) = true:=beq_iff_eq.2 (by omega)) | (have d95 : (z == 95) = false:=beq_eq_false_iff_ne.2 (by omega))
      go_wp2
      go_ret
      exact ⟨by rw [HV.out];rfl,hbw⟩
  ·have HE : Hid (nameL l = decide (1≤l.length∧l.length≤32)):=Lib.hid (by rw [nameL_eq,show nameU l = true by have:=Hm.out;rwa [List.take_of_length_le (by omega)] at this,Bool.true_and])
   rcases (by omega : l.length = 0∨(1≤l.length∧l.length≤32)∨32 < l.length) with h | ⟨h,h'⟩ | h
   all_goals
    go_wp2
    go_ret
    exact ⟨ret_bool (by rw [HE.out];first | exact (decide_eq_false (by omega)).symm | exact (decide_eq_true (by omega)).symm | (rw [decide_eq_decide];omega)),hbw⟩
end
end Go.Proofs.YtlfpdpbbkjnapaaGreatDoor
