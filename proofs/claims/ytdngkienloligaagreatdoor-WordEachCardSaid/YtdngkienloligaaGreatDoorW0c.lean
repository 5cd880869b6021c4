/-
 Several texts in one,in their build order: Va,SenP,PrsS,PrsR,PrsW,TrD,Li,Rng,AppIn,RngC,WorT,Rgn.
-/
import Derived.Deep.DeepMust
import Derived.Laws.BitsAllLaws
import Derived.Laws.Bits
import Derived.RangeFuncNested
import Derived.RangeFuncLeaves
import Derived.OwnWalkIn
import Derived.RangeFuncBound
import Derived.Deep.RegionHeld3
import Derived.CallsIn
import Derived.OrdersIn
import Derived.RangeFuncCalls
import Derived.Test.YtdngkienloligaaGreatDoorW0a
import Derived.Test.YtdngkienloligaaGreatDoorW0b
/- -/
namespace Go.Proofs.YtdngkienloligaaGreatDoor
open Go.RowKit Go.Maps
set_option maxRecDepth 100000 in
set_option maxHeartbeats 4000000 in
theorem vName_any (l : List UInt8) (w : World) (hs : l.length ≤ 9223372036854775807) : Calls Tryz.prog 226 #[.string (bytesOf l)] w fun e w'=>e = .returned (.bool (nameL l)) ∧ Below w.heap.size w w':=by
 have hsz : (bytesOf l).size = l.length:=bytesOf_size l
 go_enter Tryz.func226,Tryz.ntmps226
 go_wp2
 have hbw : Below w.heap.size w w:=Below.refl _ _
 go_loop [3] (fun i=>∃ k : Nat,i = .int .i64 k ∧ k ≤ l.length ∧ Hid (nameU (l.take k) = true)) (fun i=>l.length - (intOf i).toNat)
 case atStart=>exact ⟨0,rfl,by omega,rfl⟩
 case round =>
  obtain ⟨k,rfl,hk,Hm⟩:=hrel
  by_cases hlt : k < l.length
  ·have hkl : k < (bytesOf l).size:=by rw [hsz];exact hlt
   have hc:=index_at (bytesOf l) k k rfl hkl
   obtain ⟨c,hce⟩ : ∃ c,(bytesOf l)[k]'hkl = c:=⟨_,rfl⟩
   have Hc : Hid (l[k]? = some c):=Lib.hid (by have:=get_list hkl;rw [bytesOf_list,hce] at this;exact this)
   have hcc : (((bytesOf l)[k]'hkl).toNat : Int) = (c.toNat : Int):=by rw [hce]
   rw [hce] at hc
   clear hce
   have HN:=Lib.hid (nameU_next Hc.out Hm.out)
   have HE : Hid (nameU (l.take (k + 1)) = false → nameL l = false):=Lib.hid (fun h=>by rw [nameL_eq,nameU_take h,Bool.false_and])
   have hc0 : 0 ≤ (c.toNat : Int):=by omega
   have hc255 : (c.toNat : Int) ≤ 255:=by have:=c.toNat_lt;omega
   have HLT : Hid ((65 ≤ (c.toNat : Int) ∧ (c.toNat : Int) ≤ 90) ∨ (97 ≤ (c.toNat : Int) ∧ (c.toNat : Int) ≤ 122) → letB c = true ∧ partB c = true):=Lib.hid (fun h=>⟨letB_t (by omega),partB_t (by omega)⟩)
   have HLF : Hid (¬ ((65 ≤ (c.toNat : Int) ∧ (c.toNat : Int) ≤ 90) ∨ (97 ≤ (c.toNat : Int) ∧ (c.toNat : Int) ≤ 122)) → letB c = false):=Lib.hid (fun h=>letB_f (by omega))
   have HPT : Hid ((48 ≤ (c.toNat : Int) ∧ (c.toNat : Int) ≤ 57) ∨ (c.toNat : Int) = 95 → partB c = true):=Lib.hid (fun h=>partB_t (by omega))
   have HPF : Hid (¬ ((65 ≤ (c.toNat : Int) ∧ (c.toNat : Int) ≤ 90) ∨ (97 ≤ (c.toNat : Int) ∧ (c.toNat : Int) ≤ 122) ∨ (48 ≤ (c.toNat : Int) ∧ (c.toNat : Int) ≤ 57) ∨ (c.toNat : Int) = 95) → partB c = false):=Lib.hid (fun h=>partB_f (by omega))
   generalize (c.toNat : Int) = z at hc hcc hc0 hc255 HLT HLF HPT HPF
   rcases Nat.eq_zero_or_pos k with rfl | h0
   ·rcases (by omega : (65 ≤ z ∧ z ≤ 90) ∨ (97 ≤ z ∧ z ≤ 122) ∨ (z < 65 ∨ (90 < z ∧ z < 97) ∨ 122 < z)) with ⟨hq,hq'⟩ | ⟨hq,hq'⟩ | hq
    iterate 2
     ·have HV : Hid (nameU (l.take (0 + 1)) = true):=Lib.hid (by rw [HN.out,if_pos rfl];exact (HLT.out (by omega)).1)
      clear HLT HLF HPT HPF HN HE
      try first | (have d65 : decide (65 ≤ z) = true:=decide_eq_true (by omega)) | (have d65 : decide (65 ≤ z) = false:=decide_eq_false (by omega))
      try first | (have d90 : decide (z ≤ 90) = true:=decide_eq_true (by omega)) | (have d90 : decide (z ≤ 90) = false:=decide_eq_false (by omega))
      try first | (have d97 : decide (97 ≤ z) = true:=decide_eq_true (by omega)) | (have d97 : decide (97 ≤ z) = false:=decide_eq_false (by omega))
      try first | (have d122 : decide (z ≤ 122) = true:=decide_eq_true (by omega)) | (have d122 : decide (z ≤ 122) = false:=decide_eq_false (by omega))
      try first | (have d48 : decide (z < 48) = true:=decide_eq_true (by omega)) | (have d48 : decide (z < 48) = false:=decide_eq_false (by omega))
      try first | (have d57 : decide (57 < z) = true:=decide_eq_true (by omega)) | (have d57 : decide (57 < z) = false:=decide_eq_false (by omega))
      try first | (have d95 : (z != 95) = true:=bne_iff_ne.2 (by omega)) | (have d95 : (z != 95) = false:=by rw [bne_eq_false_iff_eq];omega)
      go_wp2
      refine ⟨⟨0 + 1,by go_num,by omega,HV⟩,?_⟩
      simp [intOf];omega
    ·have HV : Hid (nameL l = false):=Lib.hid (HE.out (by rw [HN.out,if_pos rfl];exact HLF.out (by omega)))
     clear HLT HLF HPT HPF HN HE
     rcases hq with hq | ⟨hq,hq'⟩ | hq
     all_goals
      try first | (have d65 : decide (65 ≤ z) = true:=decide_eq_true (by omega)) | (have d65 : decide (65 ≤ z) = false:=decide_eq_false (by omega))
      try first | (have d90 : decide (z ≤ 90) = true:=decide_eq_true (by omega)) | (have d90 : decide (z ≤ 90) = false:=decide_eq_false (by omega))
      try first | (have d97 : decide (97 ≤ z) = true:=decide_eq_true (by omega)) | (have d97 : decide (97 ≤ z) = false:=decide_eq_false (by omega))
      try first | (have d122 : decide (z ≤ 122) = true:=decide_eq_true (by omega)) | (have d122 : decide (z ≤ 122) = false:=decide_eq_false (by omega))
      try first | (have d48 : decide (z < 48) = true:=decide_eq_true (by omega)) | (have d48 : decide (z < 48) = false:=decide_eq_false (by omega))
      try first | (have d57 : decide (57 < z) = true:=decide_eq_true (by omega)) | (have d57 : decide (57 < z) = false:=decide_eq_false (by omega))
      try first | (have d95 : (z != 95) = true:=bne_iff_ne.2 (by omega)) | (have d95 : (z != 95) = false:=by rw [bne_eq_false_iff_eq];omega)
      go_wp2
      go_ret
      exact ⟨by rw [HV.out];rfl,hbw⟩
   ·have hk0 : ((k : Int) == 0) = false:=beq_eq_false_iff_ne.2 (by omega)
    rcases (by omega : (65 ≤ z ∧ z ≤ 90) ∨ (97 ≤ z ∧ z ≤ 122) ∨ (48 ≤ z ∧ z ≤ 57) ∨ z = 95 ∨ (z < 48 ∨ (57 < z ∧ z < 65) ∨ (90 < z ∧ z < 95) ∨ z = 96 ∨ 122 < z)) with ⟨hq,hq'⟩ | ⟨hq,hq'⟩ | ⟨hq,hq'⟩ | hq | hq
    iterate 4
     ·have HV : Hid (nameU (l.take (k + 1)) = true):=Lib.hid (by rw [HN.out,if_neg (by omega)];first | exact (HLT.out (by omega)).2 | exact HPT.out (by omega))
      clear HLT HLF HPT HPF HN HE
      try first | (have d65 : decide (65 ≤ z) = true:=decide_eq_true (by omega)) | (have d65 : decide (65 ≤ z) = false:=decide_eq_false (by omega))
      try first | (have d90 : decide (z ≤ 90) = true:=decide_eq_true (by omega)) | (have d90 : decide (z ≤ 90) = false:=decide_eq_false (by omega))
      try first | (have d97 : decide (97 ≤ z) = true:=decide_eq_true (by omega)) | (have d97 : decide (97 ≤ z) = false:=decide_eq_false (by omega))
      try first | (have d122 : decide (z ≤ 122) = true:=decide_eq_true (by omega)) | (have d122 : decide (z ≤ 122) = false:=decide_eq_false (by omega))
      try first | (have d48 : decide (z < 48) = true:=decide_eq_true (by omega)) | (have d48 : decide (z < 48) = false:=decide_eq_false (by omega))
      try first | (have d57 : decide (57 < z) = true:=decide_eq_true (by omega)) | (have d57 : decide (57 < z) = false:=decide_eq_false (by omega))
      try first | (have d95 : (z != 95) = true:=bne_iff_ne.2 (by omega)) | (have d95 : (z != 95) = false:=by rw [bne_eq_false_iff_eq];omega)
      go_wp2
      refine ⟨⟨k + 1,by go_num,by omega,HV⟩,?_⟩
      simp [intOf];omega
    ·have HV : Hid (nameL l = false):=Lib.hid (HE.out (by rw [HN.out,if_neg (by omega)];exact HPF.out (by omega)))
     clear HLT HLF HPT HPF HN HE
     rcases hq with hq | ⟨hq,hq'⟩ | ⟨hq,hq'⟩ | hq | hq
     all_goals
      try first | (have d65 : decide (65 ≤ z) = true:=decide_eq_true (by omega)) | (have d65 : decide (65 ≤ z) = false:=decide_eq_false (by omega))
      try first | (have d90 : decide (z ≤ 90) = true:=decide_eq_true (by omega)) | (have d90 : decide (z ≤ 90) = false:=decide_eq_false (by omega))
      try first | (have d97 : decide (97 ≤ z) = true:=decide_eq_true (by omega)) | (have d97 : decide (97 ≤ z) = false:=decide_eq_false (by omega))
      try first | (have d122 : decide (z ≤ 122) = true:=decide_eq_true (by omega)) | (have d122 : decide (z ≤ 122) = false:=decide_eq_false (by omega))
      try first | (have d48 : decide (z < 48) = true:=decide_eq_true (by omega)) | (have d48 : decide (z < 48) = false:=decide_eq_false (by omega))
      try first | (have d57 : decide (57 < z) = true:=decide_eq_true (by omega)) | (have d57 : decide (57 < z) = false:=decide_eq_false (by omega))
      try first | (have d95 : (z != 95) = true:=bne_iff_ne.2 (by omega)) | (have d95 : (z != 95) = false:=by rw [bne_eq_false_iff_eq];omega)
      go_wp2
      go_ret
      exact ⟨by rw [HV.out];rfl,hbw⟩
  ·have HE : Hid (nameL l = decide (1 ≤ l.length ∧ l.length ≤ 32)):=Lib.hid (by rw [nameL_eq,show nameU l = true by have:=Hm.out;rwa [List.take_of_length_le (by omega)] at this,Bool.true_and])
   rcases (by omega : l.length = 0 ∨ (1 ≤ l.length ∧ l.length ≤ 32) ∨ 32 < l.length) with h | ⟨h,h'⟩ | h
   all_goals
    go_wp2
    go_ret
    exact ⟨ret_bool (by rw [HE.out];first | exact (decide_eq_false (by omega)).symm | exact (decide_eq_true (by omega)).symm | (rw [decide_eq_decide];omega)),hbw⟩
end Go.Proofs.YtdngkienloligaaGreatDoor
/- -/
namespace Go.Proofs.YtdngkienloligaaGreatDoor
end Go.Proofs.YtdngkienloligaaGreatDoor
/- -/
namespace Go.Proofs.YtdngkienloligaaGreatDoor
def toI (c : List Nat) : List Int:=c.map fun (x : Nat)=>(x : Int)
theorem toI_get (c : List Nat) (i : Nat) : (toI c).getD i 0 = ((c.getD i 0 : Nat) : Int):=by
 unfold toI
 rw [List.getD_eq_getElem?_getD,List.getD_eq_getElem?_getD,List.getElem?_map]
 cases c[i]? <;> rfl
theorem ahead_succ {c : List Nat} {n : Nat} (h : n < c.length) : (c.take (n + 1)).reverse = c.getD n 0 :: (c.take n).reverse:=by
 rw [List.take_add_one,List.getElem?_eq_getElem h,List.reverse_append,List.getD_eq_getElem?_getD,List.getElem?_eq_getElem h];rfl
def tests : List RB:=[
 ⟨false,eat [.one [1]],eat [.one [2]]⟩,
 ⟨true,eat [.one [1,2,3]],eat []⟩,
 ⟨false,eat [],eat [.one [13]]⟩,
 ⟨false,eat [.many [13],.one [9]],eat [.one [8]]⟩,
 ⟨false,eat [.many [13],.one [9],.many [13],.one [6,5]],eat [.one [6]]⟩,
 ⟨false,eat [.many [4,13],.many [11,13],.one [9]],eat [.many [0,4,8,11,12,13],.one [5]]⟩,
 ⟨false,eat [.many [4,13],.many [11,13],.one [9,10]],eat [.one [12,9,10]]⟩,
 ⟨false,eat [.many [11,13],.one [9,10]],eat [.one [11,4,3,1,2]]⟩,
 ⟨false,eat [.many [4,13],.many [11,13],.one [9,10]],eat [.one [4,3,1,2]]⟩,
 ⟨true,eat [.many [4,13],.many [11,13],.one [9,10]],eat []⟩]
end Go.Proofs.YtdngkienloligaaGreatDoor
/- -/
namespace Go.Proofs.YtdngkienloligaaGreatDoor
def skH (hs r : List Nat) : List Nat:=r.dropWhile fun x=>hs.contains x
def regR (hs : List Nat) (k : Nat) : List Nat → Nat
 | []=>0
 | x :: r=>if hs.contains x then regR hs k r else if x = k then regR hs k r + 1 else 0
theorem regR_drop (hs : List Nat) (k : Nat) : ∀ r,regR hs k r = match skH hs r with | []=>0 | x :: t=>if x = k then regR hs k t + 1 else 0
 | []=>rfl
 | x :: r=>by
  unfold skH
  rw [regR,List.dropWhile_cons]
  split
  ·exact regR_drop hs k r
  ·rfl
theorem drop_head {P : Nat → Bool} : ∀ {r : List Nat} {x : Nat} {t : List Nat},r.dropWhile P = x :: t → P x = false
 | [],_,_,h=>by simp at h
 | y :: r,x,t,h=>by
  rw [List.dropWhile_cons] at h
  split at h
  ·exact drop_head h
  ·rename_i hy
   injection h with h1 _
   subst h1
   exact Bool.eq_false_iff.2 hy
theorem count_none {hs : List Nat} {k : Nat} (hk : k ∉ hs) {u : List Nat} (h : ∀ x ∈ u,x ∈ hs) : u.count k = 0:=List.count_eq_zero.2 fun hm=>hk (h k hm)
def pairQ (Hp : Pat) (k : Nat) : Pat:=.node 2 [] [setQ k,Hp,setQ k,Hp]
theorem pair_iff {hs : List Nat} {Hp : Pat} (hH : ∀ u,Lang Hp u ↔ ∀ x ∈ u,x ∈ hs) (k : Nat) (u : List Nat) : Lang (pairQ Hp k) u ↔ ∃ h1 h2,u = k :: (h1 ++ k :: h2) ∧ (∀ x ∈ h1,x ∈ hs) ∧ ∀ x ∈ h2,x ∈ hs:=by
 unfold pairQ
 rw [lang_then]
 simp only [LangT,setQ,lang_set,One,hH]
 constructor
 ·rintro ⟨_,_,rfl,⟨y,rfl,hy⟩,h1,_,rfl,g1,_,_,rfl,⟨z,rfl,hz⟩,h2,_,rfl,g2,rfl⟩
  have hy : y = k:=by simpa using hy
  have hz : z = k:=by simpa using hz
  rw [hy,hz]
  exact ⟨h1,h2,by simp,g1,g2⟩
 ·rintro ⟨h1,h2,rfl,g1,g2⟩
  exact ⟨[k],h1 ++ k :: h2,rfl,⟨k,rfl,by simp⟩,h1,k :: h2,rfl,g1,[k],h2,rfl,⟨k,rfl,by simp⟩,h2,[],by simp,g2,rfl⟩
theorem odd_go {hs : List Nat} {Hp : Pat} {k : Nat} (hk : k ∉ hs) (hH : ∀ u,Lang Hp u ↔ ∀ x ∈ u,x ∈ hs) : ∀ (z : Nat) (v : List Nat),v.length ≤ z → (∀ x ∈ v,x ∈ hs ∨ x = k) → v.count k % 2 = 1 → (∀ x r,v = x :: r → x = k) → ∃ s h,v = s ++ k :: h ∧ Star (Lang (pairQ Hp k)) s ∧ ∀ x ∈ h,x ∈ hs
 | z,[],_,_,hc,_=>by simp at hc
 | 0,x :: t,hz,_,_,_=>by simp at hz
 | z + 1,x :: t,hz,hv,hc,hh=>by
  have hx:=hh x t rfl
  subst hx
  have ht : t = t.takeWhile (fun x=>hs.contains x) ++ t.dropWhile (fun x=>hs.contains x):=List.takeWhile_append_dropWhile.symm
  have hin:=take_in hs t
  generalize t.takeWhile (fun x=>hs.contains x) = h1 at ht hin
  cases hd : t.dropWhile (fun x=>hs.contains x) with
  | nil =>
   rw [hd,List.append_nil] at ht
   rw [ht]
   exact ⟨[],h1,rfl,.nil,hin⟩
  | cons y t2 =>
   rw [hd] at ht
   have hy : y = x:=by
    have h2:=drop_head hd
    rcases hv y (by rw [ht];simp) with h3 | h3
    ·rw [List.contains_iff_mem.2 h3] at h2;cases h2
    ·exact h3
   subst hy
   have ht2 : t2 = t2.takeWhile (fun x=>hs.contains x) ++ t2.dropWhile (fun x=>hs.contains x):=List.takeWhile_append_dropWhile.symm
   have hin2:=take_in hs t2
   generalize t2.takeWhile (fun x=>hs.contains x) = h2 at ht2 hin2
   cases hd2 : t2.dropWhile (fun x=>hs.contains x) with
   | nil =>
    rw [hd2,List.append_nil] at ht2
    rw [ht,ht2] at hc
    simp [List.count_append,count_none hk hin,count_none hk hin2] at hc
   | cons w t3 =>
    rw [hd2] at ht2
    have hw : w = y:=by
     have h3:=drop_head hd2
     rcases hv w (by rw [ht,ht2];simp) with h4 | h4
     ·rw [List.contains_iff_mem.2 h4] at h3;cases h3
     ·exact h4
    have hl : (w :: t3).length ≤ z:=by
     have : (y :: t).length ≤ z + 1:=hz
     rw [ht,ht2] at this
     simp at this ⊢
     omega
    obtain ⟨s,h,e,hs1,hs2⟩:=odd_go hk hH z (w :: t3) hl (fun x hx=>hv x (by rw [ht,ht2];simp only [List.mem_cons,List.mem_append] at hx ⊢;exact .inr (.inr (.inr (.inr hx))))) (by
     rw [ht,ht2] at hc
     simp only [List.count_cons_self,List.count_append,count_none hk hin,count_none hk hin2] at hc
     omega) (fun x r hx=>by injection hx with hx _;rw [← hx,hw])
    refine ⟨y :: (h1 ++ y :: h2) ++ s,h,?_,.app ((pair_iff hH y _).2 ⟨h1,h2,rfl,hin,hin2⟩) hs1,hs2⟩
    rw [ht,ht2,e]
    simp
def flagsQ (Hp : Pat) (k : Nat) : List Pat:=[Hp,.node 4 [] [pairQ Hp k],setQ k,Hp]
theorem flags_iff {hs : List Nat} {Hp : Pat} {k : Nat} (hk : k ∉ hs) (hH : ∀ u,Lang Hp u ↔ ∀ x ∈ u,x ∈ hs) (u : List Nat) : LangT (flagsQ Hp k) u ↔ (∀ x ∈ u,x ∈ hs ∨ x = k) ∧ u.count k % 2 = 1:=by
 unfold flagsQ
 simp only [LangT,lang_many,hH]
 constructor
 ·rintro ⟨h0,_,rfl,g0,s,_,rfl,gs,_,_,rfl,gk,h1,_,rfl,g1,rfl⟩
  obtain ⟨y,rfl,hy⟩:=(lang_set [k] [] _).1 gk
  have hy : y = k:=by simpa using hy
  subst hy
  have h : (∀ x ∈ s,x ∈ hs ∨ x = y) ∧ s.count y % 2 = 0:=by
   induction gs with
   | nil=>simp
   | app ha _ ih =>
    obtain ⟨a1,a2,rfl,b1,b2⟩:=(pair_iff hH y _).1 ha
    refine ⟨fun x hx=>?_,?_⟩
    ·simp only [List.mem_append,List.mem_cons] at hx
     rcases hx with (h | h | h | h) | h
     ·exact .inr h
     ·exact .inl (b1 x h)
     ·exact .inr h
     ·exact .inl (b2 x h)
     ·exact ih.1 x h
    ·have:=ih.2
     simp only [List.count_append,List.count_cons_self,count_none hk b1,count_none hk b2]
     omega
  refine ⟨fun x hx=>?_,?_⟩
  ·simp only [List.mem_append,List.mem_singleton,List.append_nil] at hx
   rcases hx with h2 | h2 | h2 | h2
   ·exact .inl (g0 x h2)
   ·exact h.1 x h2
   ·exact .inr h2
   ·exact .inl (g1 x h2)
  ·have:=h.2
   simp only [List.append_nil,List.count_append,List.count_cons_self,List.count_nil,count_none hk g0,count_none hk g1]
   omega
 ·rintro ⟨hv,hc⟩
  have ht : u = u.takeWhile (fun x=>hs.contains x) ++ u.dropWhile (fun x=>hs.contains x):=List.takeWhile_append_dropWhile.symm
  have hin:=take_in hs u
  have hdh:=fun x r (h : u.dropWhile (fun x=>hs.contains x) = x :: r)=>drop_head h
  generalize u.takeWhile (fun x=>hs.contains x) = h0 at ht hin
  generalize u.dropWhile (fun x=>hs.contains x) = d at ht hdh
  have hvd : ∀ x ∈ d,x ∈ hs ∨ x = k:=fun x hx=>hv x (by rw [ht];simp [hx])
  obtain ⟨s,h,e,hs1,hs2⟩:=odd_go hk hH d.length d (Nat.le_refl _) hvd (by
   rw [ht,List.count_append,count_none hk hin] at hc
   omega) (fun x r h=>by
    have h3:=hdh x r h
    rcases hvd x (by rw [h];simp) with h4 | h4
    ·rw [List.contains_iff_mem.2 h4] at h3;cases h3
    ·exact h4)
  exact ⟨h0,d,ht,hin,s,k :: h,e,hs1,[k],h,rfl,(lang_set [k] [] _).2 ⟨k,rfl,by simp⟩,h,[],by simp,hs2,rfl⟩
def isF (hs : List Nat) (k x : Nat) : Bool:=hs.contains x || x == k
def oddA (hs : List Nat) (k : Nat) (r : List Nat) : Bool:=r.all (isF hs k) && r.count k % 2 == 1
def oddB (hs : List Nat) (k : Nat) (cs r : List Nat) : Bool:=(match r.dropWhile (isF hs k) with | []=>false | y :: _=>cs.contains y) && (r.takeWhile (isF hs k)).count k % 2 == 1
theorem isF_iff {hs : List Nat} {k x : Nat} : isF hs k x = true ↔ x ∈ hs ∨ x = k:=by unfold isF;simp
theorem eats_oddA {hs : List Nat} {Hp q : Pat} {k : Nat} {fs : List El} (hk : k ∉ hs) (hH : ∀ u,Lang Hp u ↔ ∀ x ∈ u,x ∈ hs) (h2 : elsP q = some fs) (o2 : okE fs = true) : Eats ⟨false,true,false,.node 2 [] (flagsQ Hp k),q⟩ ⟨false,oddA hs k,eat fs⟩ :=
 ⟨rfl,fun a=>by
  have e : Ahead true (Lang (.node 2 [] (flagsQ Hp k))) a ↔ LangT (flagsQ Hp k) a:=by
   constructor
   ·rintro ⟨u,v,rfl,h,hl⟩
    rw [h rfl,List.nil_append]
    exact (lang_then [] _ _).1 hl
   ·intro h
    exact ⟨[],a,rfl,fun _=>rfl,(lang_then [] _ _).2 h⟩
  show Ahead true _ a ↔ _
  rw [e,flags_iff hk hH]
  unfold oddA
  simp only [List.all_reverse,List.count_reverse,Bool.and_eq_true,List.all_eq_true,isF_iff,beq_iff_eq],fun b=>behind_pat h2 o2 b⟩
theorem take_all {P : Nat → Bool} {y : Nat} (hy : P y = false) (r : List Nat) : ∀ (v : List Nat),(∀ x ∈ v,P x = true) → (v ++ y :: r).takeWhile P = v ∧ (v ++ y :: r).dropWhile P = y :: r
 | [],_=>by rw [List.nil_append,List.takeWhile_cons,List.dropWhile_cons,hy];exact ⟨rfl,rfl⟩
 | x :: v,h=>by
  have:=take_all hy r v fun z hz=>h z (List.mem_cons_of_mem _ hz)
  rw [List.cons_append,List.takeWhile_cons,List.dropWhile_cons,h x (by simp),this.1,this.2]
  exact ⟨rfl,rfl⟩
theorem take_allR (P : Nat → Bool) : ∀ (r : List Nat),∀ x ∈ r.takeWhile P,P x = true
 | [],x,h=>by simp at h
 | y :: r,x,h=>by
  rw [List.takeWhile_cons] at h
  split at h
  ·rename_i hy
   rcases List.mem_cons.1 h with rfl | h
   ·exact hy
   ·exact take_allR P r x h
  ·simp at h
theorem eats_oddB {hs cs : List Nat} {Hp q : Pat} {k : Nat} {fs : List El} (hk : k ∉ hs) (hc : ∀ x ∈ cs,isF hs k x = false) (hH : ∀ u,Lang Hp u ↔ ∀ x ∈ u,x ∈ hs) (h2 : elsP q = some fs) (o2 : okE fs = true) : Eats ⟨false,false,false,.node 2 [] (.node 1 cs [] :: flagsQ Hp k),q⟩ ⟨false,oddB hs k cs,eat fs⟩ :=
 ⟨rfl,fun a=>by
  have e : Ahead false (Lang (.node 2 [] (.node 1 cs [] :: flagsQ Hp k))) a ↔ ∃ u y v,a = u ++ y :: v ∧ y ∈ cs ∧ (∀ x ∈ v,x ∈ hs ∨ x = k) ∧ v.count k % 2 = 1:=by
   constructor
   ·rintro ⟨u,v,rfl,_,hl⟩
    have hl:=(lang_then [] _ _).1 hl
    unfold LangT at hl
    obtain ⟨_,w,rfl,h1,hw⟩:=hl
    obtain ⟨y,rfl,hy⟩:=(lang_set cs [] _).1 h1
    have:=(flags_iff hk hH w).1 hw
    exact ⟨u,y,w,rfl,hy,this.1,this.2⟩
   ·rintro ⟨u,y,v,rfl,hy,h1,h2⟩
    refine ⟨u,y :: v,rfl,(fun h=>by cases h),(lang_then [] _ _).2 ?_⟩
    unfold LangT
    exact ⟨[y],v,rfl,(lang_set cs [] _).2 ⟨y,rfl,hy⟩,(flags_iff hk hH v).2 ⟨h1,h2⟩⟩
  show Ahead false _ a ↔ _
  rw [e]
  unfold oddB
  rw [Bool.and_eq_true,beq_iff_eq]
  constructor
  ·rintro ⟨u,y,v,rfl,hy,h1,h2⟩
   have e2 : (u ++ y :: v).reverse = v.reverse ++ y :: u.reverse:=by simp
   obtain ⟨e3,e4⟩:=take_all (P:=isF hs k) (hc y hy) u.reverse v.reverse (fun x hx=>isF_iff.2 (h1 x (by simpa using hx)))
   rw [e2,e3,e4,List.count_reverse]
   exact ⟨by simpa using hy,h2⟩
  ·rintro ⟨h1,h2⟩
   have h3 : a.reverse = a.reverse.takeWhile (isF hs k) ++ a.reverse.dropWhile (isF hs k):=List.takeWhile_append_dropWhile.symm
   have h4:=take_allR (isF hs k) a.reverse
   cases hd : a.reverse.dropWhile (isF hs k) with
   | nil=>rw [hd] at h1;cases h1
   | cons y t =>
    rw [hd] at h1 h3
    simp only [List.contains_iff_mem] at h1
    generalize a.reverse.takeWhile (isF hs k) = v at h2 h3 h4
    refine ⟨t.reverse,y,v.reverse,?_,h1,fun x hx=>isF_iff.1 (h4 x (by simpa using hx)),by rw [List.count_reverse];exact h2⟩
    have:=congrArg List.reverse h3
    rw [List.reverse_reverse] at this
    rw [this];simp,fun b=>behind_pat h2 o2 b⟩
theorem reg_count {hs : List Nat} {k : Nat} (hk : k ∉ hs) : ∀ r,regR hs k r = (r.takeWhile (isF hs k)).count k
 | []=>by simp [regR]
 | x :: r=>by
  have ih:=reg_count hk r
  rw [regR,List.takeWhile_cons]
  by_cases h1 : hs.contains x = true
  ·have hx : x ≠ k:=fun e=>hk (by rw [← e];exact List.contains_iff_mem.1 h1)
   rw [if_pos h1,if_pos (isF_iff.2 (.inl (List.contains_iff_mem.1 h1))),ih,List.count_cons_of_ne hx]
  ·by_cases h2 : x = k
   ·subst h2
    rw [if_neg h1,if_pos rfl,if_pos (isF_iff.2 (.inr rfl)),ih,List.count_cons_self]
   ·rw [if_neg h1,if_neg h2,if_neg (fun h=>(isF_iff.1 h).elim (fun h=>h1 (List.contains_iff_mem.2 h)) h2)]
    rfl
theorem odd_both {hs cs : List Nat} {k : Nat} (hk : k ∉ hs) {r : List Nat} (hr : ∀ x ∈ r,x ∈ cs ∨ isF hs k x = true) : (oddA hs k r || oddB hs k cs r) = (regR hs k r % 2 == 1):=by
 rw [reg_count hk]
 unfold oddA oddB
 have h3 : r = r.takeWhile (isF hs k) ++ r.dropWhile (isF hs k):=List.takeWhile_append_dropWhile.symm
 have h4:=take_allR (isF hs k) r
 cases hd : r.dropWhile (isF hs k) with
 | nil =>
  rw [hd,List.append_nil] at h3
  have h5 : r.all (isF hs k) = true:=List.all_eq_true.2 (by rw [h3];exact h4)
  rw [h5,← h3]
  simp
 | cons y t =>
  have h5:=drop_head hd
  have hy : y ∈ r:=by rw [h3,hd];simp
  have h6 : r.all (isF hs k) = false:=Bool.eq_false_iff.2 fun h=>by
   rw [List.all_eq_true.1 h y hy] at h5;cases h5
  have h7 : cs.contains y = true:=by
   rcases hr y hy with h | h
   ·exact List.contains_iff_mem.2 h
   ·rw [h] at h5;cases h5
  rw [h6]
  simp only [h7,Bool.false_and,Bool.false_or,Bool.true_and]
def nearH (hs r : List Nat) : Nat:=(skH hs r).head?.getD 99
def farH (hs r : List Nat) : Nat:=nearH hs (skH hs r).tail
theorem eat_near1 (hs l r : List Nat) (h99 : l.contains 99 = false) : eat [.many hs,.one l] r = l.contains (nearH hs r):=by
 unfold nearH skH
 rw [eat]
 cases r.dropWhile (fun x=>hs.contains x) with
 | nil=>exact h99.symm
 | cons x t=>simp [eat]
theorem eat_near2 (hs l m r : List Nat) (hl : l.contains 99 = false) (hm : m.contains 99 = false) : eat [.many hs,.one l,.many hs,.one m] r = (l.contains (nearH hs r) && m.contains (farH hs r)):=by
 unfold farH nearH
 rw [show skH hs r = r.dropWhile (fun x=>hs.contains x) from rfl,eat]
 cases r.dropWhile (fun x=>hs.contains x) with
 | nil=>simp only [List.head?_nil,Option.getD_none,hl];rfl
 | cons x t =>
  rw [eat,eat_near1 hs m t hm]
  rfl
end Go.Proofs.YtdngkienloligaaGreatDoor
/- -/
namespace Go.Proofs.YtdngkienloligaaGreatDoor
def setS (l : List Nat) : Pat:=.node 1 l []
def hangQ : Pat:=.node 4 [] [setS [4,5,6]]
def seqQ (l : List Pat) : Pat:=.node 2 [] l
def noneQ : Pat:=.node 0 [] []
def rulesW : List RuleP:=[
 ⟨false,false,false,setQ 1,setQ 2⟩,
 ⟨true,false,false,setS [1,2,3],noneQ⟩,
 ⟨true,false,false,noneQ,setS [1,2,3]⟩,
 ⟨false,false,false,setQ 5,setQ 19⟩,
 ⟨false,false,false,setQ 18,setQ 18⟩,
 ⟨false,false,false,noneQ,setS [4,5,6]⟩,
 ⟨false,false,false,seqQ [setS [9,10],hangQ],setS [9,10]⟩,
 ⟨false,false,false,seqQ [setS [9,10],hangQ],seqQ [setS [11,13,14],hangQ,setS [9,10]]⟩,
 ⟨false,false,false,seqQ [setS [9,10],hangQ,setS [11,13,14],hangQ],setS [9,10]⟩,
 ⟨false,false,false,seqQ [setQ 9,hangQ],setQ 11⟩,
 ⟨false,false,false,seqQ [setQ 9,hangQ],seqQ [setQ 12,hangQ,setQ 9]⟩,
 ⟨false,false,false,seqQ [setQ 9,hangQ,setQ 12,hangQ],setQ 9⟩,
 ⟨false,false,false,seqQ [setQ 16,hangQ],setQ 16⟩,
 ⟨false,false,false,seqQ [setS [9,10],hangQ],setQ 16⟩,
 ⟨false,false,false,seqQ [setQ 16,hangQ],setS [9,10]⟩,
 ⟨false,false,false,seqQ [setQ 16,hangQ,setS [11,13,15],hangQ],setQ 16⟩,
 ⟨false,false,false,seqQ [setQ 16,hangQ],seqQ [setS [11,13,15],hangQ,setQ 16]⟩,
 ⟨false,false,false,seqQ [setQ 8,hangQ],setQ 8⟩,
 ⟨false,false,false,seqQ [setS [8,9,10,16,17],hangQ],setQ 17⟩,
 ⟨false,false,false,seqQ [setQ 17,hangQ],setS [8,9,10,16]⟩,
 ⟨false,true,false,seqQ (flagsQ hangQ 7),setQ 7⟩,
 ⟨false,false,false,seqQ (setS [0,1,2,3,8,9,10,11,12,13,14,15,16,17,18,19] :: flagsQ hangQ 7),setQ 7⟩]
def testsW : List RB:=[
 ⟨false,eat [.one [1]],eat [.one [2]]⟩,
 ⟨true,eat [.one [1,2,3]],eat []⟩,
 ⟨true,eat [],eat [.one [1,2,3]]⟩,
 ⟨false,eat [.one [5]],eat [.one [19]]⟩,
 ⟨false,eat [.one [18]],eat [.one [18]]⟩,
 ⟨false,eat [],eat [.one [4,5,6]]⟩,
 ⟨false,eat [.many [4,5,6],.one [9,10]],eat [.one [9,10]]⟩,
 ⟨false,eat [.many [4,5,6],.one [9,10]],eat [.one [11,13,14],.many [4,5,6],.one [9,10]]⟩,
 ⟨false,eat [.many [4,5,6],.one [11,13,14],.many [4,5,6],.one [9,10]],eat [.one [9,10]]⟩,
 ⟨false,eat [.many [4,5,6],.one [9]],eat [.one [11]]⟩,
 ⟨false,eat [.many [4,5,6],.one [9]],eat [.one [12],.many [4,5,6],.one [9]]⟩,
 ⟨false,eat [.many [4,5,6],.one [12],.many [4,5,6],.one [9]],eat [.one [9]]⟩,
 ⟨false,eat [.many [4,5,6],.one [16]],eat [.one [16]]⟩,
 ⟨false,eat [.many [4,5,6],.one [9,10]],eat [.one [16]]⟩,
 ⟨false,eat [.many [4,5,6],.one [16]],eat [.one [9,10]]⟩,
 ⟨false,eat [.many [4,5,6],.one [11,13,15],.many [4,5,6],.one [16]],eat [.one [16]]⟩,
 ⟨false,eat [.many [4,5,6],.one [16]],eat [.one [11,13,15],.many [4,5,6],.one [16]]⟩,
 ⟨false,eat [.many [4,5,6],.one [8]],eat [.one [8]]⟩,
 ⟨false,eat [.many [4,5,6],.one [8,9,10,16,17]],eat [.one [17]]⟩,
 ⟨false,eat [.many [4,5,6],.one [17]],eat [.one [8,9,10,16]]⟩,
 ⟨false,oddA [4,5,6] 7,eat [.one [7]]⟩,
 ⟨false,oddB [4,5,6] 7 [0,1,2,3,8,9,10,11,12,13,14,15,16,17,18,19],eat [.one [7]]⟩]
theorem hangQ_iff (u : List Nat) : Lang hangQ u ↔ ∀ x ∈ u,x ∈ [4,5,6]:=by
 unfold hangQ setS
 rw [lang_many,star_congr (lang_set [4,5,6] []),star_set]
theorem eats_W : EatsL rulesW testsW :=
 .cons (.pat rfl rfl rfl rfl) <| .cons (.pat rfl rfl rfl rfl) <| .cons (.pat rfl rfl rfl rfl) <| .cons (.pat rfl rfl rfl rfl) <| .cons (.pat rfl rfl rfl rfl) <|
 .cons (.pat rfl rfl rfl rfl) <| .cons (.pat rfl rfl rfl rfl) <| .cons (.pat rfl rfl rfl rfl) <| .cons (.pat rfl rfl rfl rfl) <| .cons (.pat rfl rfl rfl rfl) <|
 .cons (.pat rfl rfl rfl rfl) <| .cons (.pat rfl rfl rfl rfl) <| .cons (.pat rfl rfl rfl rfl) <| .cons (.pat rfl rfl rfl rfl) <| .cons (.pat rfl rfl rfl rfl) <|
 .cons (.pat rfl rfl rfl rfl) <| .cons (.pat rfl rfl rfl rfl) <| .cons (.pat rfl rfl rfl rfl) <| .cons (.pat rfl rfl rfl rfl) <| .cons (.pat rfl rfl rfl rfl) <|
 .cons (eats_oddA (by decide) hangQ_iff rfl rfl) <| .cons (eats_oddB (by decide) (by decide) hangQ_iff rfl rfl) .nil
def lateW (q a z n : Nat) : Bool :=
 ([9,10].contains a && [9,10].contains q) || ([9,10].contains a && ([11,13,14].contains q && [9,10].contains n)) || (([11,13,14].contains a && [9,10].contains z) && [9,10].contains q) ||
 ([9].contains a && [11].contains q) || ([9].contains a && ([12].contains q && [9].contains n)) || (([12].contains a && [9].contains z) && [9].contains q) ||
 ([16].contains a && [16].contains q) || ([9,10].contains a && [16].contains q) || ([16].contains a && [9,10].contains q) ||
 (([11,13,15].contains a && [16].contains z) && [16].contains q) || ([16].contains a && ([11,13,15].contains q && [16].contains n)) ||
 ([8].contains a && [8].contains q) || ([8,9,10,16,17].contains a && [17].contains q) || ([17].contains a && [8,9,10,16].contains q)
def toW (a : Nat) : Int:=if a = 99 then -1 else a
def repW (z : Nat) : Nat:=if z = 9 then 9 else if z = 10 then 10 else if z = 16 then 16 else 0
def clsW : List Nat:=99 :: List.range 20
set_option maxRecDepth 100000 in
theorem late_all : (List.range 20).all (fun q=>clsW.all fun a=>[0,9,10,16].all fun z=>[0,9,10,16].all fun n=>lateW q a z n == wLetters (toW z) (toW a) (q : Int) (toW n)) = true:=by decide +kernel
theorem repW_in (z : Nat) : repW z ∈ [0,9,10,16]:=by unfold repW;split;decide;split;decide;split;decide;decide
theorem repW_c (z : Nat) : [9,10].contains (repW z) = [9,10].contains z ∧ [9].contains (repW z) = [9].contains z ∧ [16].contains (repW z) = [16].contains z:=by
 unfold repW
 split
 ·rename_i h;subst h;decide
 split
 ·rename_i h;subst h;decide
 split
 ·rename_i h;subst h;decide
 ·rename_i h1 h2 h3
  refine ⟨?_,?_,?_⟩
  ·rw [Bool.eq_iff_iff];simp [h1,h2]
  ·rw [Bool.eq_iff_iff];simp [h1]
  ·rw [Bool.eq_iff_iff];simp [h3]
theorem toW_eq (z : Nat) (m : Nat) (hm : m < 99) : (toW z == (m : Int)) = (z == m):=by
 unfold toW
 rw [Bool.eq_iff_iff,beq_iff_eq,beq_iff_eq]
 split <;> omega
theorem toW_iff (z : Nat) (m : Nat) (hm : m < 99) : toW z = (m : Int) ↔ z = m:=by
 have h:=toW_eq z m hm
 rwa [Bool.eq_iff_iff,beq_iff_eq,beq_iff_eq] at h
theorem toW_rep (z : Nat) : wLet (toW (repW z)) = wLet (toW z) ∧ (toW (repW z) == 9) = (toW z == 9) ∧ (toW (repW z) == 16) = (toW z == 16):=by
 have h9:=fun z=>toW_eq z 9 (by omega)
 have h10:=fun z=>toW_eq z 10 (by omega)
 have h16:=fun z=>toW_eq z 16 (by omega)
 simp only [Int.cast_ofNat_Int] at h9 h10 h16
 unfold wLet
 rw [h9,h10,h16,h9,h10,h16]
 unfold repW
 split
 ·rename_i h;subst h;decide
 split
 ·rename_i h;subst h;decide
 split
 ·rename_i h;subst h;decide
 ·rename_i h1 h2 h3
  refine ⟨?_,?_,?_⟩ <;> rw [Bool.eq_iff_iff] <;> simp [h1,h2,h3]
theorem late_rep (q a z n : Nat) : lateW q a (repW z) (repW n) = lateW q a z n:=by
 obtain ⟨a1,a2,a3⟩:=repW_c z
 obtain ⟨b1,b2,b3⟩:=repW_c n
 unfold lateW
 rw [a1,a2,a3,b1,b2,b3]
theorem letters_rep (z n : Nat) (a q : Int) : wLetters (toW (repW z)) a q (toW (repW n)) = wLetters (toW z) a q (toW n):=by
 obtain ⟨a1,a2,a3⟩:=toW_rep z
 obtain ⟨b1,b2,b3⟩:=toW_rep n
 unfold wLetters
 rw [a1,a2,a3,b1,b2,b3]
theorem late_eq {q a : Nat} (hq : q < 20) (ha : a ∈ clsW) (z n : Nat) : lateW q a z n = wLetters (toW z) (toW a) (q : Int) (toW n):=by
 have h:=late_all
 rw [List.all_eq_true] at h
 have h:=h q (by simpa using hq)
 rw [List.all_eq_true] at h
 have h:=h a ha
 rw [List.all_eq_true] at h
 have h:=h (repW z) (repW_in z)
 rw [List.all_eq_true] at h
 have h:=h (repW n) (repW_in n)
 rw [beq_iff_eq,late_rep,letters_rep] at h
 exact h
theorem hang_nat (x : Nat) : wHang (x : Int) = [4,5,6].contains x:=by
 unfold wHang
 rw [Bool.eq_iff_iff]
 simp only [Bool.or_eq_true,beq_iff_eq,List.contains_iff_mem,List.mem_cons,List.not_mem_nil,or_false]
 omega
theorem toI_len (c : List Nat) : (toI c).length = c.length:=by unfold toI;rw [List.length_map]
theorem back_drop (c : List Nat) : ∀ i,i ≤ c.length → skH [4,5,6] (c.take i).reverse = (c.take (wBack (toI c) i + 1).toNat).reverse
 | 0,_=>by simp [wBack,skH]
 | i + 1,h=>by
  have ih:=back_drop c i (by omega)
  unfold skH at ih ⊢
  rw [ahead_succ (by omega),List.dropWhile_cons,wBack,toI_get,hang_nat]
  split
  ·exact ih
  ·rw [show ((i : Int) + 1).toNat = i + 1 by omega,ahead_succ (by omega)]
theorem back_cases (c : List Nat) (i : Nat) (hi : i ≤ c.length) : (wBack (toI c) i = -1 ∧ skH [4,5,6] (c.take i).reverse = []) ∨ ∃ k,k < i ∧ wBack (toI c) i = (k : Int) ∧ skH [4,5,6] (c.take i).reverse = c.getD k 0 :: (c.take k).reverse:=by
 have h1:=back_drop c i hi
 have h2:=wBack_lt (toI c) i
 rcases (by omega : wBack (toI c) i = -1 ∨ 0 ≤ wBack (toI c) i) with h3 | h3
 ·left
  refine ⟨h3,?_⟩
  rw [h1,h3];rfl
 ·right
  refine ⟨(wBack (toI c) i).toNat,by omega,by omega,?_⟩
  rw [h1,show (wBack (toI c) i + 1).toNat = (wBack (toI c) i).toNat + 1 by omega,ahead_succ (by omega)]
theorem of_nat {c : List Nat} (hc : ∀ x ∈ c,x < 20) {k : Nat} (hk : k < c.length) : wOf (toI c) (k : Int) = toW (c.getD k 0):=by
 rw [wOf_nat (by rw [toI_len];exact hk),toI_get]
 have : c.getD k 0 < 20:=by rw [List.getD_eq_getElem?_getD,List.getElem?_eq_getElem hk];exact hc _ (List.getElem_mem _)
 unfold toW
 rw [if_neg (by omega)]
theorem of_none (c : List Int) : wOf c (-1) = -1:=by unfold wOf;rw [if_pos (.inl (by omega))]
theorem near_eq {c : List Nat} (hc : ∀ x ∈ c,x < 20) {i : Nat} (hi : i ≤ c.length) : wOf (toI c) (wBack (toI c) i) = toW (nearH [4,5,6] (c.take i).reverse):=by
 unfold nearH
 rcases back_cases c i hi with ⟨h1,h2⟩ | ⟨k,hk,h1,h2⟩
 ·rw [h1,h2,of_none];rfl
 ·rw [h1,h2,of_nat hc (by omega)];rfl
theorem far_eq {c : List Nat} (hc : ∀ x ∈ c,x < 20) {i : Nat} (hi : i ≤ c.length) : wOf (toI c) (wBack (toI c) (wBack (toI c) i).toNat) = toW (farH [4,5,6] (c.take i).reverse):=by
 unfold farH
 rcases back_cases c i hi with ⟨h1,h2⟩ | ⟨k,hk,h1,h2⟩
 ·rw [h1,h2];rfl
 ·rw [h1,h2,Int.toNat_natCast,near_eq hc (by omega)];rfl
theorem reg_eq {c : List Nat} (hc : ∀ x ∈ c,x < 20) : ∀ (f i : Nat),i < f → i ≤ c.length → wRegGo (toI c) f i = regR [4,5,6] 7 (c.take i).reverse
 | 0,i,h,_=>absurd h (Nat.not_lt_zero _)
 | f + 1,i,h,hi=>by
  rw [wRegGo,regR_drop]
  rcases back_cases c i hi with ⟨h1,h2⟩ | ⟨k,hk,h1,h2⟩
  ·rw [h1,h2,of_none];rfl
  ·rw [h1,h2,of_nat hc (by omega),Int.toNat_natCast]
   have h7 : toW (c.getD k 0) = 7 ↔ c.getD k 0 = 7:=toW_iff _ 7 (by omega)
   simp only
   by_cases h8 : c.getD k 0 = 7
   ·rw [if_pos (h7.2 h8),if_pos h8,reg_eq hc f k (by omega) (by omega)]
   ·rw [if_neg (fun e=>h8 (h7.1 e)),if_neg h8]
theorem on_eq {c : List Nat} (hc : ∀ x ∈ c,x < 20) (i : Nat) : wOn (toI c) i = toW (nearH [4,5,6] (c.drop (i + 1))):=by
 unfold wOn nearH skH
 have h : ∀ l : List Nat,((l.map fun (x : Nat)=>(x : Int)).dropWhile wHang) = (l.dropWhile fun x=>[4,5,6].contains x).map fun (x : Nat)=>(x : Int):=fun l=>by
  induction l with
  | nil=>rfl
  | cons x l ih =>
   rw [List.map_cons,List.dropWhile_cons,List.dropWhile_cons,hang_nat]
   split
   ·exact ih
   ·rfl
 unfold toI
 rw [← List.map_drop,h]
 cases hd : (c.drop (i + 1)).dropWhile (fun x=>[4,5,6].contains x) with
 | nil=>rfl
 | cons x t =>
  have hx : x ∈ c:=List.mem_of_mem_drop ((List.dropWhile_suffix _).subset (hd ▸ List.mem_cons_self))
  have:=hc x hx
  simp only [List.map_cons,List.head?_cons,Option.getD_some]
  unfold toW
  rw [if_neg (by omega)]
theorem near_cls {c : List Nat} (hc : ∀ x ∈ c,x < 20) (i : Nat) : nearH [4,5,6] (c.take i).reverse ∈ clsW:=by
 unfold nearH skH clsW
 cases hd : (c.take i).reverse.dropWhile (fun x=>[4,5,6].contains x) with
 | nil=>simp
 | cons x t =>
  have hx : x ∈ c:=List.mem_of_mem_take (by have:=(List.dropWhile_suffix (fun x=>[4,5,6].contains x) (l:=(c.take i).reverse)).subset (hd ▸ List.mem_cons_self);simpa using this)
  have:=hc x hx
  simp only [List.head?_cons,Option.getD_some,List.mem_cons,List.mem_range]
  exact .inr this
def headW (p q : Nat) (l o : Bool) : Bool :=
 if [1].contains p && [2].contains q then false
 else if [1,2,3].contains p then true
 else if [1,2,3].contains q then true
 else if [5].contains p && [19].contains q then false
 else if [18].contains p && [18].contains q then false
 else if [4,5,6].contains q then false
 else if l then false
 else if o && [7].contains q then false
 else true
def cutW (p q : Int) (l o : Bool) : Bool :=
 if p = 1 ∧ q = 2 then false
 else if wEnd p || wEnd q then true
 else if (p == 5 && q == 19) || (p == 18 && q == 18) || wHang q then false
 else if l then false else !(q == 7) || !o
theorem head_all : (List.range 20).all (fun p=>(List.range 20).all fun q=>[false,true].all fun l=>[false,true].all fun o=>headW p q l o == cutW (p : Int) (q : Int) l o) = true:=by decide +kernel
theorem head_eq {p q : Nat} (hp : p < 20) (hq : q < 20) (l o : Bool) : headW p q l o = cutW (p : Int) (q : Int) l o:=by
 have h:=head_all
 rw [List.all_eq_true] at h
 have h:=h p (by simpa using hp)
 rw [List.all_eq_true] at h
 have h:=h q (by simpa using hq)
 rw [List.all_eq_true] at h
 have h:=h l (by cases l <;> simp)
 rw [List.all_eq_true] at h
 have h:=h o (by cases o <;> simp)
 rwa [beq_iff_eq] at h
theorem or_ite (a b : Bool) (e : Bool) : (if a = true then false else if b = true then false else e) = if (a || b) = true then false else e:=by cases a <;> cases b <;> rfl
theorem chain_W {r b : List Nat} {p q : Nat} {t : List Nat} {s : List Nat} (hr : r = p :: s) (hb : b = q :: t) (hin : ∀ x ∈ r,x < 20) : decF true r b testsW = headW p q (lateW q (nearH [4,5,6] r) (farH [4,5,6] r) (nearH [4,5,6] t)) (regR [4,5,6] 7 r % 2 == 1):=by
 have e1:=fun l (h : l.contains 99 = false)=>eat_near1 [4,5,6] l r h
 have e2:=fun l m (h : l.contains 99 = false) (h' : m.contains 99 = false)=>eat_near2 [4,5,6] l m r h h'
 have f1 : ∀ l,eat [.one l] r = l.contains p:=fun l=>by rw [hr];simp [eat]
 have g1 : ∀ l,eat [.one l] b = l.contains q:=fun l=>by rw [hb];simp [eat]
 have g2 : ∀ l m,m.contains 99 = false → eat [.one l,.many [4,5,6],.one m] b = (l.contains q && m.contains (nearH [4,5,6] t)):=fun l m hm=>by rw [hb,eat,eat_near1 _ _ _ hm]
 have z1 : ∀ r,eat [] r = true:=fun r=>by rw [eat]
 have ho:=odd_both (hs:=[4,5,6]) (cs:=[0,1,2,3,8,9,10,11,12,13,14,15,16,17,18,19]) (k:=7) (by decide) (r:=r) (fun x hx=>by
  have hx:=hin x hx
  have h : (List.range 20).all (fun x=>[0,1,2,3,8,9,10,11,12,13,14,15,16,17,18,19].contains x || isF [4,5,6] 7 x) = true:=by decide
  rw [List.all_eq_true] at h
  have h:=h x (by simpa using hx)
  rw [Bool.or_eq_true,List.contains_iff_mem] at h
  exact h)
 unfold testsW
 simp only [decF]
 simp only [e1 [9,10] rfl,e1 [9] rfl,e1 [16] rfl,e1 [8] rfl,e1 [8,9,10,16,17] rfl,e1 [17] rfl]
 simp only [e2 [11,13,14] [9,10] rfl rfl,e2 [12] [9] rfl rfl,e2 [11,13,15] [16] rfl rfl]
 simp only [g2 [11,13,14] [9,10] rfl,g2 [12] [9] rfl,g2 [11,13,15] [16] rfl]
 simp only [f1,g1,z1,Bool.and_true,Bool.true_and]
 rw [← ho]
 unfold headW lateW
 generalize nearH [4,5,6] r = a
 generalize farH [4,5,6] r = z
 generalize nearH [4,5,6] t = n
 generalize oddA [4,5,6] 7 r = o1
 generalize oddB [4,5,6] 7 _ r = o2
 simp only [or_ite]
 simp only [Bool.or_assoc,Bool.and_or_distrib_right]
theorem rules_word {c : List Nat} (hc : ∀ x ∈ c,x < 20) {i : Nat} (h0 : 0 < i) (hi : i < c.length) : decideB true c i rulesW = wCut (toI c) i:=by
 rw [decide_F true c i eats_W]
 obtain ⟨k,rfl⟩ : ∃ k,i = k + 1:=⟨i - 1,by omega⟩
 have e1 : c.getD k 0 = c[k]'(by omega):=by rw [List.getD_eq_getElem?_getD,List.getElem?_eq_getElem (by omega)];rfl
 have e2 : c.getD (k + 1) 0 = c[k + 1]'hi:=by rw [List.getD_eq_getElem?_getD,List.getElem?_eq_getElem hi];rfl
 have hp : c.getD k 0 < 20:=by rw [e1];exact hc _ (List.getElem_mem _)
 have hq : c.getD (k + 1) 0 < 20:=by rw [e2];exact hc _ (List.getElem_mem _)
 rw [chain_W (ahead_succ (by omega)) (show c.drop (k + 1) = c.getD (k + 1) 0 :: c.drop (k + 2) by rw [List.drop_eq_getElem_cons hi,e2]) (fun x hx=>hc x (List.mem_of_mem_take (by simpa using hx)))]
 rw [head_eq hp hq,late_eq hq (near_cls hc _)]
 unfold wCut cutW wReg
 simp only [toI_get]
 rw [far_eq hc (i:=k + 1) (by omega),near_eq hc (i:=k + 1) (by omega),on_eq hc,reg_eq hc (k + 1 + 1) (k + 1) (by omega) (by omega),Nat.add_sub_cancel]
 have hod : (!(regR [4,5,6] 7 (c.take (k + 1)).reverse % 2 == 1)) = (regR [4,5,6] 7 (c.take (k + 1)).reverse % 2 == 0):=by
  generalize regR [4,5,6] 7 (c.take (k + 1)).reverse = m
  rw [Bool.eq_iff_iff,Bool.not_eq_true',beq_eq_false_iff_ne,beq_iff_eq]
  omega
 rw [hod]
end Go.Proofs.YtdngkienloligaaGreatDoor
/- -/
namespace Go.Proofs.YtdngkienloligaaGreatDoor
open Go.RowKit
section
variable {g : Nat → Nat} {n : Nat}
end
end Go.Proofs.YtdngkienloligaaGreatDoor
/- -/
namespace Go.Proofs.YtdngkienloligaaGreatDoor
open Go.RowKit
def NoneTo (p : Int → Bool) (l : List Int) (j : Nat) : Prop:=∀ k x,k < j → l[k]? = some x → p x = false
theorem noneTo_first (p : Int → Bool) (l : List Int) : NoneTo p l 0:=fun k x hk=>by omega
theorem noneTo_next {p : Int → Bool} {l : List Int} {j : Nat} {x : Int} (h : NoneTo p l j) (hx : l[j]? = some x) (hp : p x = false) : NoneTo p l (j + 1):=fun k y hk hy=>by
 rcases (by omega : k < j ∨ k = j) with h1 | rfl
 ·exact h k y h1 hy
 ·rw [hx] at hy;injection hy with hy;rw [← hy];exact hp
theorem noneTo_end {p : Int → Bool} {l : List Int} {j : Nat} (h : NoneTo p l j) (hj : ¬ j < l.length) : l.any p = false:=by
 rw [List.any_eq_false]
 intro x hx
 obtain ⟨k,hk,e⟩:=List.getElem_of_mem hx
 rw [h k x (by omega) (by rw [List.getElem?_eq_getElem hk,e])]
 simp
theorem any_here {p : Int → Bool} {l : List Int} {j : Nat} {x : Int} (hx : l[j]? = some x) (hp : p x = true) : l.any p = true:=List.any_eq_true.2 ⟨x,List.mem_of_getElem? hx,hp⟩
theorem ge_nat (j : Nat) : decide (0 ≤ (j : Int)) = true:=decide_eq_true (by omega)
set_option maxRecDepth 100000 in
set_option maxHeartbeats 2000000 in
theorem lIndexI_any (A : Option Addr) (n c : Nat) (l : List Int) (x : Int) (w : World) (hA : Rd w 1 A (l.map encZ)) (hl : l.length = n) (hn : n ≤ 4000000) :
  Calls Tryz.prog 160 #[.slice A n c,.int .i64 x] w fun e w'=>∃ v : Int,e = .returned (.int .i64 v) ∧ decide (0 ≤ v) = l.any (x == ·) ∧ w = w':=by
 have Hl:=Lib.hid hl
 clear hl
 go_enter Tryz.func160,Tryz.ntmps160
 go_wp2
 go_loopw [8] (fun v wr=>∃ j : Nat,v = .int .i64 j ∧ j ≤ n ∧ Hid (NoneTo (x == ·) l j) ∧ wr = w) (fun v _=>n - (intOf v).toNat)
 case atStart=>exact ⟨0,rfl,by omega,Lib.hid (noneTo_first _ l),rfl⟩
 case round =>
  obtain ⟨j,rfl,hj,HN,rfl⟩:=hrel
  by_cases hlt : j < n
  ·obtain ⟨y,Hy⟩ : ∃ y,Hid (l[j]? = some y):=⟨_,Lib.hid (List.getElem?_eq_getElem (by have:=Hl.out;omega))⟩
   obtain ⟨b,off,rfl,hc⟩:=hA.atZ Hy.out
   obtain ⟨q,Hq⟩ : ∃ q,Hid ((x == ·) y = q):=⟨_,Lib.hid rfl⟩
   cases q with
   | true =>
    have HV:=Lib.hid (any_here Hy.out Hq.out)
    have he:=Hq.out
    go_wp2
    go_ret
    exact ⟨j,rfl,by rw [HV.out];exact ge_nat j,rfl⟩
   | false =>
    have HN':=Lib.hid (noneTo_next HN.out Hy.out Hq.out)
    have he:=Hq.out
    go_wp2
    go_roundw
    case rel=>exact ⟨j + 1,by go_num,by omega,HN',trivial⟩
    case measure=>simp [intOf];omega
  ·have HV:=Lib.hid (noneTo_end HN.out (by rw [Hl.out];exact hlt))
   go_wp2
   go_ret
   exact ⟨-1,rfl,by rw [HV.out];rfl,rfl⟩
set_option maxHeartbeats 1000000 in
theorem lContains_any (A : Option Addr) (n c : Nat) (l : List Int) (x : Int) (w : World) (hA : Rd w 1 A (l.map encZ)) (hl : l.length = n) (hn : n ≤ 4000000) :
  Calls Tryz.prog 108 #[.slice A n c,.int .i64 x] w fun e w'=>e = .returned (.bool (l.any (x == ·))) ∧ w = w':=by
 have HI:=Lib.hid (lIndexI_any A n c l x w hA hl hn)
 clear hA hl
 go_enter Tryz.func108,Tryz.ntmps108
 go_wp2_with fail
 refine HI.out.mono ?_
 rintro e w1 ⟨v,rfl,hv,rfl⟩
 have HV:=Lib.hid hv
 clear hv HI
 go_wp2
 go_ret
 exact ⟨by rw [← HV.out];rfl,rfl⟩
end Go.Proofs.YtdngkienloligaaGreatDoor
/- -/
namespace Go.Proofs.YtdngkienloligaaGreatDoor
open Go.RowKit
section
variable {P : Program} {F : Fence} {n : Nat}
theorem rngH {α : Type} {g : Operand} {ps : Array Tmp} {assign body : Code} {Q : Exit → Act → World → Prop} {a : Act} {w : World}
  (hro : F.round = none) (h1 : 1 ≤ n) {gf : Nat} {lb : Array Value} (hg : a.eval g = .func (.func gf) #[] lb) (hFg : F.fn gf) (eg : ∀ args w,(callFunc gf args).run P w = .ok (.enter gf args) w)
  {encs : α → Array Value} {Kp : World → World → Prop} {S Sp : List α → Prop} {N : Nat} {w0 : World} (hseq : SeqStopsK F (n - 1) P gf lb encs Kp S Sp N w0)
  (hKt : ∀ {A B C : World},Kp A B → Kp B C → Kp A C) (hKb : ∀ (W : World) (l : Nat) (o o' : Obj),w.heap.size ≤ l → W.heap[l]? = some o → o.isCells = false → o.isWalk = false → Kp W (W.putObj l o')) (hb0 : Below w0.heap.size w0 w) (hps : ∀ x,(encs x).size = ps.size) (hKr : ∀ W,Kp W W)
  (I : List α → World → Prop) (Ix : Code → List α → World → Prop) (hI : OwnFrom w.heap.size I) (hIx : ∀ c,OwnFrom w.heap.size (Ix c)) (h0 : I [] w) (f : Array Value → α → Array Value)
  (hassign : ∀ (l : Nat) (x : α) (W : World) (K : Act → World → Prop),K { tmps:=f a.tmps x,defers:=[] } W →
   assign.wpIn (F.inRound l) (n - 1 - 1) P (Exit.then K (fun _ _ _=>False)) { tmps:=(ps.zip (encs x)).foldl (fun t (p,v)=>t.setIfInBounds p v) a.tmps,defers:=[] } W)
  (hbody : ∀ (l : Nat) (pre : List α) (x : α) (W : World),w.heap.size ≤ l → (∃ r,W.heap[l]? = some (.loop r)) → I pre W → pre.length < N → body.wpIn (F.inRound l) (n - 1 - 1) P (ownPostG w.heap.size Kp I Ix (pre ++ [x]) W) { tmps:=f a.tmps x,defers:=[] } W)
  (hdone : ∀ (D : Nat) (xs : List α) (W : World),w.heap.size ≤ D → S xs → I xs W → W.heap[D]? = some (.deferred (some [])) → Q .normal { a with defers:={ target:=.collected D,args:=#[] } :: a.defers } W)
  (hstop : ∀ (D : Nat) (c : Code) (pre : List α) (W : World),w.heap.size ≤ D → Sp pre → Ix c pre W → W.heap[D]? = some (.deferred (some [])) → c.wpIn F n P Q { a with defers:={ target:=.collected D,args:=#[] } :: a.defers } W) :
  (Code.rangeFunc g ps assign body).wpIn F n P Q a w :=
 wpIn_rangeFunc_ownH hro h1 hg hFg eg hseq (fun h k=>hKt h k) hKb hb0 hps I Ix hI hIx h0 (fun x a' _=>a' = { tmps:=f a.tmps x,defers:=[] }) (fun _ _ _ _ _ _ hs _ _=>hs)
  (fun l _ x W K hi hK=>hassign l x W K (hK _ _ (KeepsFrom.refl _ _) (hKr W) hi rfl)) (fun l pre x a' W hl hr hi e=>by subst e;exact hbody l pre x W hl hr hi) hdone hstop
end
end Go.Proofs.YtdngkienloligaaGreatDoor
/- -/
namespace Go.Proofs.YtdngkienloligaaGreatDoor
open Go.RowKit
section
variable {P : Program}
end
end Go.Proofs.YtdngkienloligaaGreatDoor
/- -/
namespace Go.Proofs.YtdngkienloligaaGreatDoor
open Go.RowKit
section
variable {P : Program} {F : Fence} {n : Nat} {α : Type}
def SeqC (F : Fence) (n : Nat) (P : Program) (g : Nat) (lb : Array Value) (encs : α → Array Value) (Kp : World → World → Prop) (S Sp : List α → Prop) (N : Nat) (w : World) : Prop :=
 ∀ (l : Nat) (J Jx : List α → World → Prop) (W : World),Below w.heap.size w W → OwnFrom W.heap.size J → OwnFrom W.heap.size Jx →
  (∀ pre x W1,J pre W1 → pre.length < N → YieldAt F (n - 1) P l (encs x) W1 fun e W'=>(e = .returned (.bool true) ∧ J (pre ++ [x]) W' ∧ Kp W1 W' ∧ KeepsFrom W.heap.size W1 W') ∨ (e = .returned (.bool false) ∧ Jx (pre ++ [x]) W' ∧ KeepsFrom W.heap.size W1 W')) →
  J [] W → CallsIn F n P g (#[.func (.yield l) #[] #[]] ++ lb) W fun e W'=>(∃ v,e = .returned v) ∧ ((∃ xs,S xs ∧ J xs W') ∨ (∃ pre,Sp pre ∧ Jx pre W'))
def recC (fn : FuncId) (tmps : Array Value) (ps : Array Tmp) (assign body : Code) (d : Nat) (st : LoopState) (pe : Option Code) : Loop:={ state:=st,pending:=pe,fn,tmps,params:=ps,assign,body,defers:=d }
structure StaysC (B l : Nat) (W W' : World) : Prop where
 size : W.heap.size ≤ W'.heap.size
 same : ∀ (k : Nat) (o : Obj),B ≤ k → k ≠ l → W.heap[k]? = some o → o.isCells = false → W'.heap[k]? = some o
variable {encs : α → Array Value} {Kp : World → World → Prop} {I : List α → World → Prop} {Ix : Code → List α → World → Prop} {ps : Array Tmp} {assign body : Code}
theorem yieldC {fn : FuncId} {tmps : Array Value} {d l B m : Nat} {pre : List α} {x : α} {W : World} {a' : Act} (hfn : F.fn fn) (hps : (encs x).size = ps.size) (hB : B ≤ l)
  (hKt : ∀ {A B C : World},Kp A B → Kp B C → Kp A C) (hKb : ∀ (W : World) (l : Nat) (o o' : Obj),B ≤ l → W.heap[l]? = some o → o.isCells = false → o.isWalk = false → Kp W (W.putObj l o'))
  (hI : OwnFrom B I) (hIx : ∀ c,OwnFrom B (Ix c)) (hi : I pre W) (hl : W.heap[l]? = some (.loop (recC fn tmps ps assign body d .ready none)))
  (hassign : ∀ K : Act → World → Prop,K a' W → assign.wpIn (F.inRound l) m P (Exit.then K (fun _ _ _=>False)) { tmps:=(ps.zip (encs x)).foldl (fun t (p,v)=>t.setIfInBounds p v) tmps,defers:=[] } W)
  (hbody : ∀ W',(∃ r,W'.heap[l]? = some (.loop r)) → I pre W' → body.wpIn (F.inRound l) m P (ownPostG B Kp I Ix (pre ++ [x]) W') a' W') :
  YieldAt F m P l (encs x) W fun e W' =>
   (e = .returned (.bool true) ∧ (I (pre ++ [x]) W' ∧ W'.heap[l]? = some (.loop (recC fn tmps ps assign body d .ready none)) ∧ StaysC B l W W') ∧ Kp W W') ∨
   (e = .returned (.bool false) ∧ ∃ c,Ix c (pre ++ [x]) W' ∧ W'.heap[l]? = some (.loop (recC fn tmps ps assign body d .done (some c))) ∧ StaysC B l W W'):=by
 refine ⟨fn,_,assign,body,run_yield (P:=P) (args:=encs x) hl hps,roundIn_of_wpIn hfn (hassign _ ?_)⟩
 have hlt:=(Array.getElem?_eq_some_iff.1 hl).1
 refine ⟨_,run_beginRound hl rfl,?_⟩
 have hl2 : (W.putObj l (.loop { recC fn tmps ps assign body d .ready none with state:=.busy })).heap[l]? = some (.loop { recC fn tmps ps assign body d .ready none with state:=.busy }):=World.putObj_heap_same hlt
 have hk2 : Kp W (W.putObj l (.loop { recC fn tmps ps assign body d .ready none with state:=.busy })):=hKb _ _ _ _ hB hl rfl rfl
 refine wpIn_mono (hbody _ ⟨_,hl2⟩ (hI.putObj _ hi hB hl rfl)) ?_
 have last : ∀ (jump : Option Code) (W3 : World),KeepsFrom B (W.putObj l (.loop { recC fn tmps ps assign body d .ready none with state:=.busy })) W3 →
   ∃ W4,(Instr.endRound l jump).run P W3 = .ok (.bool jump.isNone) W4 ∧ W4.heap[l]? = some (.loop (recC fn tmps ps assign body d (if jump.isNone then .ready else .done) jump)) ∧ StaysC B l W W4 ∧
    (∀ Y : World → Prop,(∀ (o o' : Obj),W3.heap[l]? = some o → o.isCells = false → o.isWalk = false → Y (W3.putObj l o')) → Y W4):=fun jump W3 hk=>by
  have hl3:=hk.same _ _ hB hl2 rfl
  refine ⟨_,run_endRound (P:=P) jump hl3,World.putObj_heap_same (Array.getElem?_eq_some_iff.1 hl3).1,⟨by have:=hk.size;simpa using this,fun k o hBk hne ho hc=>?_⟩,fun Y hY=>hY _ _ hl3 rfl rfl⟩
  exact (World.putObj_heap_other hne).trans (hk.same k o hBk ((World.putObj_heap_other hne).trans ho) hc)
 rintro e a3 W3 hp
 cases e with
 | normal =>
  obtain ⟨hk,hkp,hi3⟩:=hp
  obtain ⟨W4,hr,h4,hs,hY⟩:=last none W3 hk
  exact ⟨_,_,hr,.inl ⟨rfl,⟨hY (fun W=>I (pre ++ [x]) W) (fun o o' ho hc _=>hI.putObj o' hi3 hB ho hc),h4,hs⟩,hKt (hKt hk2 hkp) (hY (Kp W3) (fun o o' ho hc hw=>hKb W3 l o o' hB ho hc hw))⟩⟩
 | ret =>
  obtain ⟨hk,hi3⟩:=hp
  obtain ⟨W4,hr,h4,hs,hY⟩:=last (some .ret) W3 hk
  exact ⟨_,_,hr,.inr ⟨rfl,_,hY (fun W=>Ix .ret (pre ++ [x]) W) (fun o o' ho hc _=>(hIx _).putObj o' hi3 hB ho hc),h4,hs⟩⟩
 | exit id =>
  obtain ⟨hk,hi3⟩:=hp
  obtain ⟨W4,hr,h4,hs,hY⟩:=last (some (.exit id)) W3 hk
  exact ⟨_,_,hr,.inr ⟨rfl,_,hY (fun W=>Ix (.exit id) (pre ++ [x]) W) (fun o o' ho hc _=>(hIx _).putObj o' hi3 hB ho hc),h4,hs⟩⟩
 | goto t =>
  obtain ⟨hk,hi3⟩:=hp
  obtain ⟨W4,hr,h4,hs,hY⟩:=last (some (.goto t)) W3 hk
  exact ⟨_,_,hr,.inr ⟨rfl,_,hY (fun W=>Ix (.goto t) (pre ++ [x]) W) (fun o o' ho hc _=>(hIx _).putObj o' hi3 hB ho hc),h4,hs⟩⟩
 | panic ch=>exact hp.elim
 | outgrown=>exact hp.elim
theorem grown_later {A B : World} {row : Option Nat} {W1 : World} (hg : A.grownBy B row) (hr : ∀ r,row = some r → W1.heap.size ≤ r ∧ ∃ o : Obj,A.heap[r]? = some o ∧ o.isCells = false) {k : Nat} {o : Obj} (hk : k < W1.heap.size) (ho : A.heap[k]? = some o) : B.heap[k]? = some o :=
 (hg.block k (Array.getElem?_eq_some_iff.1 ho).1 (fun e=>by have:=(hr k e.symm).1;omega)).trans ho
theorem own_later {β : Type} {B : Nat} {I : β → World → Prop} (h : OwnFrom B I) {C : Nat} (hBC : B ≤ C) : OwnFrom C I:=fun s X Y row hs hg hr=>h s X Y row hs hg (fun r e=>⟨Nat.le_trans hBC (hr r e).1,(hr r e).2⟩)
variable {g : Operand} {Q : Exit → Act → World → Prop} {a : Act} {w : World}
theorem rngC (hro : F.round = none) (h1 : 1 ≤ n) {gf : Nat} {lb : Array Value} (hg : a.eval g = .func (.func gf) #[] lb) (hFg : F.fn gf) (eg : ∀ args w,(callFunc gf args).run P w = .ok (.enter gf args) w)
  {S Sp : List α → Prop} {N : Nat} {w0 : World} (hseq : SeqC F (n - 1) P gf lb encs Kp S Sp N w0)
  (hKt : ∀ {A B C : World},Kp A B → Kp B C → Kp A C) (hKb : ∀ (W : World) (l : Nat) (o o' : Obj),w.heap.size ≤ l → W.heap[l]? = some o → o.isCells = false → o.isWalk = false → Kp W (W.putObj l o')) (hb0 : Below w0.heap.size w0 w) (hps : ∀ x,(encs x).size = ps.size)
  (I : List α → World → Prop) (Ix : Code → List α → World → Prop) (hI : OwnFrom w.heap.size I) (hIx : ∀ c,OwnFrom w.heap.size (Ix c)) (h0 : I [] w) (f : Array Value → α → Array Value)
  (hassign : ∀ (l : Nat) (x : α) (W : World) (K : Act → World → Prop),K { tmps:=f a.tmps x,defers:=[] } W →
   assign.wpIn (F.inRound l) (n - 1 - 1) P (Exit.then K (fun _ _ _=>False)) { tmps:=(ps.zip (encs x)).foldl (fun t (p,v)=>t.setIfInBounds p v) a.tmps,defers:=[] } W)
  (hbody : ∀ (l : Nat) (pre : List α) (x : α) (W : World),w.heap.size ≤ l → (∃ r,W.heap[l]? = some (.loop r)) → I pre W → pre.length < N → body.wpIn (F.inRound l) (n - 1 - 1) P (ownPostG w.heap.size Kp I Ix (pre ++ [x]) W) { tmps:=f a.tmps x,defers:=[] } W)
  (hdone : ∀ (D : Nat) (xs : List α) (W : World),w.heap.size ≤ D → S xs → I xs W → W.heap[D]? = some (.deferred (some [])) → Q .normal { a with defers:={ target:=.collected D,args:=#[] } :: a.defers } W)
  (hstop : ∀ (D : Nat) (c : Code) (pre : List α) (W : World),w.heap.size ≤ D → Sp pre → Ix c pre W → W.heap[D]? = some (.deferred (some [])) → c.wpIn F n P Q { a with defers:={ target:=.collected D,args:=#[] } :: a.defers } W) :
  (Code.rangeFunc g ps assign body).wpIn F n P Q a w:=by
 refine wpIn_rangeFunc (fun fn hfn=>?_)
 rw [hro]
 have z1 : (w.alloc (.deferred (some []))).heap.size = w.heap.size + 1:=by simp
 have hL : ((w.alloc (.deferred (some []))).alloc (.loop (recC fn a.tmps ps assign body w.heap.size .ready none))).heap[w.heap.size + 1]? = some (.loop (recC fn a.tmps ps assign body w.heap.size .ready none)):=by
  have:=World.alloc_heap_new (w.alloc (.deferred (some []))) (.loop (recC fn a.tmps ps assign body w.heap.size .ready none));rwa [z1] at this
 have hD : ((w.alloc (.deferred (some []))).alloc (.loop (recC fn a.tmps ps assign body w.heap.size .ready none))).heap[w.heap.size]? = some (.deferred (some [])):=(Below.heap_alloc _ _ _ (by simp)).trans (World.alloc_heap_new w _)
 have hz : ((w.alloc (.deferred (some []))).alloc (.loop (recC fn a.tmps ps assign body w.heap.size .ready none))).heap.size = w.heap.size + 2:=by simp
 have hi : I [] ((w.alloc (.deferred (some []))).alloc (.loop (recC fn a.tmps ps assign body w.heap.size .ready none))):=hI.alloc _ (hI.alloc _ h0)
 have hb1 : Below w0.heap.size w0 ((w.alloc (.deferred (some []))).alloc (.loop (recC fn a.tmps ps assign body w.heap.size .ready none))):=(hb0.alloc hb0.size _).alloc (by simp;have:=hb0.size;omega) _
 refine ⟨w.heap.size + 1,[{ target:=.collected w.heap.size,args:=#[] }],(w.alloc (.deferred (some []))).alloc (.loop (recC fn a.tmps ps assign body w.heap.size .ready none)),{ target:=.fn (.func gf) lb,args:=#[.func (.yield (w.heap.size + 1)) #[] #[]] },
  (w.alloc (.deferred (some []))).alloc (.loop (recC fn a.tmps ps assign body w.heap.size .ready none)),gf,#[.func (.yield (w.heap.size + 1)) #[] #[]] ++ lb,(w.alloc (.deferred (some []))).alloc (.loop (recC fn a.tmps ps assign body w.heap.size .ready none)),?_,?_,?_,?_,fun _=>h1,?_⟩
 ·exact run_enterLoop_outer _ _ _ _ _
 ·simp only [resolve,hg];simp [go_sem]
 ·intro f' hf';simp [Target.leads] at hf';subst hf';exact hFg
 ·simp [invoke,go_sem,eg]
 ·generalize hW1 : (w.alloc (.deferred (some []))).alloc (.loop (recC fn a.tmps ps assign body w.heap.size .ready none)) = W1 at hL hD hz hi hb1
  have hle : w.heap.size ≤ W1.heap.size:=by omega
  refine (hseq (w.heap.size + 1)
   (fun pre W=>I pre W ∧ W.heap[w.heap.size + 1]? = some (.loop (recC fn a.tmps ps assign body w.heap.size .ready none)) ∧ W.heap[w.heap.size]? = some (.deferred (some [])))
   (fun pre W=>∃ c,Ix c pre W ∧ W.heap[w.heap.size + 1]? = some (.loop (recC fn a.tmps ps assign body w.heap.size .done (some c))) ∧ W.heap[w.heap.size]? = some (.deferred (some [])))
   W1 hb1
   (fun s X Y row hs hg' hr=>⟨own_later hI hle s X Y row hs.1 hg' hr,grown_later hg' hr (by omega) hs.2.1,grown_later hg' hr (by omega) hs.2.2⟩)
   (fun s X Y row hs hg' hr=>let ⟨c,h1,h2,h3⟩:=hs;⟨c,own_later (hIx c) hle s X Y row h1 hg' hr,grown_later hg' hr (by omega) h2,grown_later hg' hr (by omega) h3⟩)
   (fun pre x W hj hlen=>YieldAt.mono (yieldC (Kp:=Kp) (l:=w.heap.size + 1) hfn (hps x) (Nat.le_succ _) (fun h k=>hKt h k) hKb hI hIx hj.1 hj.2.1 (hassign _ x W) (fun W' hr hi'=>hbody _ pre x W' (Nat.le_succ _) hr hi' hlen)) ?_) ⟨hi,hL,hD⟩).mono ?_
  ·rintro e W' (⟨he,⟨h2,h3,h4⟩,h5⟩ | ⟨he,c,h2,h3,h4⟩)
   ·exact .inl ⟨he,⟨h2,h3,h4.same _ _ (Nat.le_refl _) (by omega) hj.2.2 rfl⟩,h5,⟨h4.size,fun k o hk ho hc=>h4.same k o (by omega) (by omega) ho hc⟩⟩
   ·exact .inr ⟨he,⟨c,h2,h3,h4.same _ _ (Nat.le_refl _) (by omega) hj.2.2 rfl⟩,⟨h4.size,fun k o hk ho hc=>h4.same k o (by omega) (by omega) ho hc⟩⟩
  ·rintro e W2 ⟨⟨v,rfl⟩,(⟨xs,hS,hi,hl,hk⟩ | ⟨pre,hSp,c,hi,hl,hk⟩)⟩
   ·exact ⟨none,_,run_endLoop (P:=P) hl (by simp [recC]),hdone _ xs _ (Nat.le_refl _) hS (hI.putObj _ hi (Nat.le_succ _) hl rfl) ((World.putObj_heap_other (by omega)).trans hk)⟩
   ·exact ⟨some c,_,run_endLoop (P:=P) hl (by simp [recC]),hstop _ c pre _ (Nat.le_refl _) hSp ((hIx c).putObj _ hi (Nat.le_succ _) hl rfl) ((World.putObj_heap_other (by omega)).trans hk)⟩
end
end Go.Proofs.YtdngkienloligaaGreatDoor
/- -/
namespace Go.Proofs.YtdngkienloligaaGreatDoor
def piecesF : List Nat → List (Nat × Nat)
 | a :: b :: r=>(a,b) :: piecesF (b :: r)
 | _=>[]
theorem piecesF_len : ∀ (L : List Nat),(piecesF L).length = L.length - 1
 | []=>rfl
 | [_]=>rfl
 | a :: b :: r=>by rw [piecesF,List.length_cons,piecesF_len (b :: r)];simp
theorem piecesF_at : ∀ (L : List Nat) (k x y : Nat),L[k]? = some x → L[k + 1]? = some y → (piecesF L)[k]? = some (x,y)
 | [],_,_,_,h,_=>by simp at h
 | [_],k,_,_,_,h=>by simp at h
 | a :: b :: r,0,x,y,hx,hy=>by
  simp only [List.getElem?_cons_zero,List.getElem?_cons_succ,Option.some.injEq] at hx hy
  subst hx hy
  rfl
 | a :: b :: r,k + 1,x,y,hx,hy=>by
  rw [piecesF,List.getElem?_cons_succ]
  exact piecesF_at (b :: r) k x y (by simpa using hx) (by simpa using hy)
theorem piecesF_le {s : ByteArray} : ∀ {L : List Nat},L.Pairwise (· < ·) → (∀ a ∈ L,a ≤ s.size) → ∀ x ∈ piecesF L,x.1 ≤ x.2 ∧ x.2 ≤ s.size
 | [],_,_,x,h=>by simp [piecesF] at h
 | [_],_,_,x,h=>by simp [piecesF] at h
 | a :: b :: r,hp,hz,x,h=>by
  rw [List.pairwise_cons] at hp
  rw [piecesF] at h
  rcases List.mem_cons.1 h with rfl | h
  ·exact ⟨Nat.le_of_lt (hp.1 b (by simp)),hz b (by simp)⟩
  ·exact piecesF_le hp.2 (fun c hc=>hz c (by simp [hc])) x h
def clP (s : ByteArray) (x : Nat × Nat) : Nat × Nat:=if x.1 ≤ x.2 ∧ x.2 ≤ s.size then x else (0,0)
theorem clP_le (s : ByteArray) (x : Nat × Nat) : (clP s x).1 ≤ (clP s x).2 ∧ (clP s x).2 ≤ s.size:=by
 unfold clP
 split
 ·assumption
 ·exact ⟨Nat.le_refl _,Nat.zero_le _⟩
theorem clP_in {s : ByteArray} {x : Nat × Nat} (h : x.1 ≤ x.2 ∧ x.2 ≤ s.size) : clP s x = x:=if_pos h
theorem wPick_sub (c : List Int) : ∀ (l : List Nat) (i : Nat),List.Sublist (wPick c i l) l
 | [],_=>List.Sublist.refl _
 | a :: r,i=>by
  rw [wPick]
  split
  ·exact (wPick_sub c r (i + 1)).cons_cons a
  ·exact (wPick_sub c r (i + 1)).cons a
theorem wBounds_rise (g : Int → Nat) (s : ByteArray) : (wBounds g s).Pairwise (· < ·):=by
 have h1 : ((runesP s).map (fun x=>x.2.1)).Pairwise (· < ·):=by
  rw [List.pairwise_map];exact runes_rise s
 have h2:=h1.sublist (wPick_sub (wCls g s) _ 0)
 unfold wBounds
 split
 ·rw [List.append_nil];exact h2
 ·rw [List.pairwise_append]
  refine ⟨h2,List.pairwise_singleton _ _,fun a ha b hb=>?_⟩
  rw [List.mem_singleton] at hb
  subst hb
  obtain ⟨x,hx,rfl⟩:=List.mem_map.1 ((wPick_sub _ _ 0).mem ha)
  have:=runesP_bd x hx
  omega
theorem wBounds_le (g : Int → Nat) (s : ByteArray) : ∀ a ∈ wBounds g s,a ≤ s.size:=fun a ha=>by
 unfold wBounds at ha
 rcases List.mem_append.1 ha with h | h
 ·obtain ⟨x,hx,rfl⟩:=List.mem_map.1 ((wPick_sub _ _ 0).mem h)
  have:=runesP_bd x hx
  omega
 ·split at h
  ·simp at h
  ·simp at h;omega
theorem wBounds_len (g : Int → Nat) (s : ByteArray) : (wBounds g s).length ≤ s.size + 1:=by
 unfold wBounds
 rw [List.length_append]
 have h1:=(wPick_sub (wCls g s) ((runesP s).map (fun x=>x.2.1)) 0).length_le
 rw [List.length_map] at h1
 have h2:=runesP_len s
 have h3 : (if s.size = 0 then [] else [s.size]).length ≤ 1:=by split <;> simp
 omega
end Go.Proofs.YtdngkienloligaaGreatDoor
/- -/
namespace Go.Proofs.YtdngkienloligaaGreatDoor
open Go Go.RowKit
section
variable {P : Program} {Q : Exit → Act → World → Prop} {l n : Nat}
def noDefer (ops : Array Oper) : Bool:=ops.toList.all fun o=>match o.op with | .defer _=>false | _=>true
theorem noDefer_at {ops : Array Oper} (h : noDefer ops = true) {i : Nat} {o : Oper} (ho : ops[i]? = some o) : ∀ c,o.op ≠ .defer c:=fun c hc=>by
 unfold noDefer at h
 rw [List.all_eq_true] at h
 have:=h o (by rw [← Array.getElem?_toList] at ho;exact List.mem_of_getElem? ho)
 rw [hc] at this
 cases this
theorem wpIn_of_wide_round {o : Oper} (hd : ∀ c,o.op ≠ .defer c) {a : Act} {w : World} {K : Act → World → Prop} (h : o.wpIn Fence.wide n P a w K Q) : o.wpIn (Fence.wide.inRound l) n P a w K Q:=by
 refine ⟨fun _ _=>trivial,?_⟩
 have h2:=h.2
 rw [Oper.semAt_plain _ _ _ hd] at h2 ⊢
 generalize (execOp a.eval o).run P w = r at h2 ⊢
 cases r with
 | ok x w' =>
  cases x with
  | enter f args=>exact ⟨fun h=>by simp [Fence.wide,Fence.inRound] at h,CallsIn.inRound l h2.2⟩
  | row row args=>exact ⟨fun h=>by simp [Fence.wide,Fence.inRound] at h,fun c cs _=>h2.2 c cs (room_wide _)⟩
  | round=>exact ⟨fun h=>by simp [Fence.wide,Fence.inRound] at h,⟨h2.2.1,fun c cs _=>h2.2.2 c cs (room_wide _)⟩⟩
  | _=>exact h2
 | halt x w'=>cases x <;> exact h2
theorem wpOpsIn_wide_round {ops : Array Oper} (hd : noDefer ops = true) : ∀ (L : List Nat) (a : Act) (w : World),wpOpsIn Fence.wide n P ops Q L a w → wpOpsIn (Fence.wide.inRound l) n P ops Q L a w
 | [],_,_,h=>h
 | i :: rest,a,w,h=>by
  unfold wpOpsIn at h ⊢
  cases ho : ops[i]? with
  | none=>simp only [ho] at h ⊢;exact wpOpsIn_wide_round hd rest a w h
  | some o =>
   simp only [ho] at h ⊢
   by_cases hw : Region.wanted o (yielded ops a.tmps) = true
   ·simp only [hw,if_true] at h ⊢
    exact Oper.wpIn_mono (fun a w h=>wpOpsIn_wide_round hd rest a w h) (wpIn_of_wide_round (noDefer_at hd ho) h)
   ·simp only [hw,if_false,Bool.false_eq_true] at h ⊢
    exact ⟨fun _ _=>trivial,wpOpsIn_wide_round hd rest _ w h.2⟩
theorem wpIn_region_wide {id : Nat} {ops : Array Oper} {a : Act} {w : World} (hm : P.follows .mixedOrders = true) (hd : noDefer ops = true)
  (h : wpAnyIn Fence.wide n P .any ops Q ops.size (Array.replicate ops.size false) a w.drew) : (Code.region id ops true).wpIn (Fence.wide.inRound l) n P Q a w :=
 wpIn_region_draw fun t=>by
  simp only [Region.schedule,hm,Bool.true_or,if_true]
  exact wpOpsIn_wide_round hd _ _ _ (wpAnyIn_sound ops.size t _ a _ h)
theorem round_deep {m m' : Nat} {f : FuncId} {tmps : Array Value} {assign body : Code} {w : World} {R : Ending → World → Prop} (h : RoundIn Fence.wide m P l f tmps assign body w R) : RoundIn Fence.wide m' P l f tmps assign body w R :=
 ⟨h.1,fun c cs _=>h.2 c cs (room_wide _)⟩
end
end Go.Proofs.YtdngkienloligaaGreatDoor
