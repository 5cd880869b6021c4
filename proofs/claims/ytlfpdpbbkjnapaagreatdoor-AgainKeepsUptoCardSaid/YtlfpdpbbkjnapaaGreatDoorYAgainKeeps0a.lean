/-
 Several texts in one,in their build order: MGraP,MWorT,MNc,MAgP,MLi,MAgA,PostA,AgK.
-/
import Derived.Deep.QuietTactic
import Derived.BigQuiet
import Derived.Deep.RegionHeld3
import Derived.Deep.Slices
import Derived.Test.YtlfpdpbbkjnapaaGreatDoorR0a
import Derived.Test.YtlfpdpbbkjnapaaGreatDoorR0b
import Derived.Test.YtlfpdpbbkjnapaaGreatDoorR8a
import Derived.Test.YtlfpdpbbkjnapaaGreatDoorR7a
import Derived.Test.YtlfpdpbbkjnapaaGreatDoorR6a
import Derived.Test.YtlfpdpbbkjnapaaGreatDoorRGb
/- -/
namespace Go.Proofs.YtlfpdpbbkjnapaaGreatDoor
set_option maxRecDepth 100000
set_option maxHeartbeats 40000000
section
theorem runes_rise (s : ByteArray) : (runesP s).Pairwise fun x y=>x.2.1 < y.2.1:=by
 have : ∀ (f a : Nat),(runesGo s f a).Pairwise fun x y=>x.2.1 < y.2.1:=by
  intro f
  induction f with
  | zero=>intro a;exact .nil
  | succ f ih =>
   intro a
   rw [runesGo]
   split
   ·rename_i hlt
    have hd:=dec_bd s a hlt
    refine .cons (fun y hy=>?_) (ih _)
    have:=runesGo_bd _ _ y hy
    simp only;omega
   ·exact .nil
 exact this _ _
theorem pick_rise : ∀ {r : List (Nat × Nat × Nat)} {t : List Bool},(r.Pairwise fun x y=>x.2.1 < y.2.1)→(pickG r t).Pairwise (· < ·)
 | [],t,_=>by cases t <;> exact .nil
 | _ :: _,[],_=>.nil
 | x :: r,b :: t,h=>by
  rw [List.pairwise_cons] at h
  rw [pickG]
  cases b with
  | false=>exact pick_rise h.2
  | true =>
   refine .cons (fun a ha=>?_) (pick_rise h.2)
   obtain ⟨k,y,h1,_,rfl⟩:=pickG_mem.1 ha
   exact h.1 y (List.mem_of_getElem? h1)
theorem starts_rise (g : Int→Nat) (s : ByteArray) : (startsG g s).Pairwise (· < ·):=pick_rise (runes_rise s)
theorem bounds_rise (g : Int→Nat) (s : ByteArray) : (boundsG g s).Pairwise (· < ·):=by
 unfold boundsG
 split
 ·exact .nil
 ·rw [List.pairwise_append]
  exact ⟨starts_rise g s,by simp,fun a ha b hb=>by simp at hb;subst hb;exact starts_lt g s a ha⟩
end
section
theorem wBounds_rise (g : Int→Nat) (s : ByteArray) : (wBounds g s).Pairwise (· < ·):=by
 have h1 : ((runesP s).map (fun x=>x.2.1)).Pairwise (· < ·):=by
  rw [List.pairwise_map];exact runes_rise s
 have h2:=h1.sublist (wPick_sub (wCls g s) _ 0)
 unfold wBounds
 split
 ·rw [List.append_nil];exact h2
 ·rw [List.pairwise_append]
  refine ⟨h2,List.pairwise_singleton _ _,fun a ha b hb=>?_⟩
  rw [List.mem_singleton] at hb
  subst hb
  obtain ⟨x,hx,rfl⟩:=List.mem_map.1 ((wPick_sub _ _ 0).mem ha)
  have:=runesP_bd x hx
  omega
end
section
open Go.RowKit Go.Shelf
attribute [local go_sem] Oper.semAt_some
theorem boundsS_rise (s : ByteArray) : (boundsS s).Pairwise (· < ·):=by
 unfold boundsS boundsX
 split
 ·exact .nil
 ·rw [List.pairwise_append]
  exact ⟨pick_rise (runes_rise s),by simp,fun a ha b hb=>by simp at hb;subst hb;exact boundsX_mem ha⟩
end
section
open Go.RowKit
theorem cutZ_rise (k : Int) (s : ByteArray) : (cutZ k s).Pairwise (· < ·):=by
 unfold cutZ
 split
 ·exact bounds_rise gG s
 ·split
  ·exact wBounds_rise gW s
  ·exact boundsS_rise s
theorem cutZ_last (k : Int) {s : ByteArray} (h : s.size ≠ 0) : s.size ∈ cutZ k s:=by
 unfold cutZ
 split
 ·unfold boundsG;rw [if_neg h];simp
 ·split
  ·unfold wBounds;rw [if_neg h];simp
  ·unfold boundsS boundsX;rw [if_neg h];simp
theorem sameP_get {α : Type} [DecidableEq α] : ∀ (a b : List α) (i : Nat),i < sameP a b→a[i]? = b[i]?
 | [],b,i,h=>by simp [sameP] at h
 | x :: a,[],i,h=>by simp [sameP] at h
 | x :: a,y :: b,i,h=>by
  unfold sameP at h
  split at h
  ·rename_i e
   subst e
   cases i with
   | zero=>rfl
   | succ i=>simpa using sameP_get a b i (by omega)
  ·omega
theorem frP_or (l : List Nat) (f : Nat) : frP l f = 0∨(frP l f ∈ l∧frP l f≤f):=by
 suffices h : ∀ (l : List Nat) (v : Nat),l.foldl (fun v x=>if x≤f then x else v) v = v∨(l.foldl (fun v x=>if x≤f then x else v) v ∈ l∧l.foldl (fun v x=>if x≤f then x else v) v≤f) from h l 0
 intro l
 induction l with
 | nil=>intro v;exact .inl rfl
 | cons x l ih =>
  intro v
  rw [List.foldl_cons]
  split
  ·rename_i hx
   rcases ih x with h | ⟨h1,h2⟩
   ·exact .inr ⟨by rw [h];simp,by rw [h];exact hx⟩
   ·exact .inr ⟨by simp [h1],h2⟩
  ·rcases ih v with h | ⟨h1,h2⟩
   ·exact .inl h
   ·exact .inr ⟨by simp [h1],h2⟩
theorem rise_lt {l : List Nat} (h : l.Pairwise (· < ·)) {i j x y : Nat} (hi : l[i]? = some x) (hj : l[j]? = some y) (hxy : x≤y) : i≤j:=by
 rcases Nat.lt_or_ge j i with hlt | hge
 ·exfalso
  obtain ⟨h1,h2⟩:=List.getElem?_eq_some_iff.1 hi
  obtain ⟨h3,h4⟩:=List.getElem?_eq_some_iff.1 hj
  have:=List.pairwise_iff_getElem.1 h j i h3 h1 hlt
  omega
 ·exact hge
/-- Ahead of an edit's place all bounds are as they were. -/
theorem keeps_front {a b : List Nat} (ha : a.Pairwise (· < ·)) {f i x : Nat} (hx : a[i]? = some x) (h : x < eFrom a b f ∨ (x = eFrom a b f ∧ 0 < eFrom a b f)) : x ∈ b := by
  unfold eFrom at h
  rcases frP_or (a.take (sameP a b)) f with h0 | ⟨h1, _⟩
  · rw [h0] at h; omega
  · obtain ⟨j, hj⟩ := List.mem_iff_getElem?.1 h1
    have hjl := (List.getElem?_eq_some_iff.1 hj).1
    rw [List.length_take] at hjl
    rw [List.getElem?_take, if_pos (by omega)] at hj
    have hij := rise_lt ha hx hj (by omega)
    have := sameP_get a b i (by omega)
    rw [hx] at this
    exact List.mem_of_getElem? this.symm
/-- Behind it too. -/
theorem keeps_behind {a b : List Nat} (ha : a.Pairwise (· < ·)) {m : Int} {t z i x : Nat} (hz : ∀ y ∈ a, y ≤ z) (hlast : (z : Int) + m > 0 → ∃ y ∈ b, (y : Int) = z + m) (hx : a[i]? = some x) (h : eWas a b m t z ≤ x) (hm : (z : Int) + m > 0) : ∃ y ∈ b, (y : Int) = x + m := by
  have hil := (List.getElem?_eq_some_iff.1 hx).1
  have hk := sameP_le (backI m a) (backI 0 b)
  rw [backI_len, backI_len] at hk
  unfold eWas at h
  rcases waP_or t (a.drop (a.length - behP a b m)).reverse z with h0 | ⟨h1, _⟩
  · rw [h0] at h
    have := hz x (List.mem_of_getElem? hx)
    obtain rfl : x = z := by omega
    exact hlast hm
  · rw [List.mem_reverse] at h1
    obtain ⟨j, hj⟩ := List.mem_iff_getElem?.1 h1
    rw [List.getElem?_drop] at hj
    have hij := rise_lt ha hj hx h
    have hkb : behP a b m = sameP (backI m a) (backI 0 b) := rfl
    have hg := sameP_get (backI m a) (backI 0 b) (a.length - 1 - i) (by omega)
    rw [backI_get (x := x) (by omega) (by rw [show a.length - 1 - (a.length - 1 - i) = i by omega]; exact hx)] at hg
    have hbl : a.length - 1 - i < b.length := by omega
    rw [backI_get (x := b[b.length - 1 - (a.length - 1 - i)]) hbl (List.getElem?_eq_getElem (by omega))] at hg
    exact ⟨b[b.length - 1 - (a.length - 1 - i)]'(by omega), List.getElem_mem (by omega), by have := Option.some.inj hg; omega⟩
theorem eFrom_le (a b : List Nat) (f : Nat) : eFrom a b f≤f:=by
 unfold eFrom
 rcases frP_or (a.take (sameP a b)) f with h | ⟨_,h⟩ <;> omega
theorem eWas_ge (a b : List Nat) (m : Int) (t z : Nat) : eWas a b m t z = z∨t≤eWas a b m t z:=by
 unfold eWas
 rcases waP_or t (a.drop (a.length - behP a b m)).reverse z with h | ⟨_,h⟩
 ·exact .inl h
 ·exact .inr h
end
section
open Go.RowKit
/-- None of the first j. -/
def NoneTo (p : Int → Bool) (l : List Int) (j : Nat) : Prop := ∀ k x, k < j → l[k]? = some x → p x = false
theorem noneTo_first (p : Int→Bool) (l : List Int) : NoneTo p l 0:=fun k x hk=>by omega
theorem noneTo_next {p : Int→Bool} {l : List Int} {j : Nat} {x : Int} (h : NoneTo p l j) (hx : l[j]? = some x) (hp : p x = false) : NoneTo p l (j+1):=fun k y hk hy=>by
 rcases (by omega : k < j∨k = j) with h1 | rfl
 ·exact h k y h1 hy
 ·rw [hx] at hy;injection hy with hy;rw [← hy];exact hp
theorem noneTo_end {p : Int→Bool} {l : List Int} {j : Nat} (h : NoneTo p l j) (hj : ¬ j < l.length) : l.any p = false:=by
 rw [List.any_eq_false]
 intro x hx
 obtain ⟨k,hk,e⟩:=List.getElem_of_mem hx
 rw [h k x (by omega) (by rw [List.getElem?_eq_getElem hk,e])]
 simp
theorem any_here {p : Int→Bool} {l : List Int} {j : Nat} {x : Int} (hx : l[j]? = some x) (hp : p x = true) : l.any p = true:=List.any_eq_true.2 ⟨x,List.mem_of_getElem? hx,hp⟩
theorem ge_nat (j : Nat) : decide (0≤(j : Int)) = true:=decide_eq_true (by omega)
theorem lIndexI_any (A : Option Addr) (n c : Nat) (l : List Int) (x : Int) (w : World) (hA : Rd w 1 A (l.map encZ)) (hl : l.length = n) (hn : n≤4000000) :
  Calls Tryz.prog 95 #[.slice A n c,.int .i64 x] w fun e w'=>∃ v : Int,e = .returned (.int .i64 v)∧decide (0≤v) = l.any (x == ·)∧w = w':=by
 have Hl:=Lib.hid hl
 clear hl
 go_enter Tryz.func95,Tryz.ntmps95
 go_wp2
 go_loopw [8] (fun v wr=>∃ j : Nat,v = .int .i64 j∧j≤n∧Hid (NoneTo (x == ·) l j)∧wr = w) (fun v _=>n - (intOf v).toNat)
 case atStart=>exact ⟨0,rfl,by omega,Lib.hid (noneTo_first _ l),rfl⟩
 case round =>
  obtain ⟨j,rfl,hj,HN,rfl⟩:=hrel
  by_cases hlt : j < n
  ·obtain ⟨y,Hy⟩ : ∃ y,Hid (l[j]? = some y):=⟨_,Lib.hid (List.getElem?_eq_getElem (by have:=Hl.out;omega))⟩
   obtain ⟨b,off,rfl,hc⟩:=hA.atZ Hy.out
   obtain ⟨q,Hq⟩ : ∃ q,Hid ((x == ·) y = q):=⟨_,Lib.hid rfl⟩
   cases q with
   | true =>
    have HV:=Lib.hid (any_here Hy.out Hq.out)
    have he:=Hq.out
    go_wp2
    go_ret
    exact ⟨j,rfl,by rw [HV.out];exact ge_nat j,rfl⟩
   | false =>
    have HN':=Lib.hid (noneTo_next HN.out Hy.out Hq.out)
    have he:=Hq.out
    go_wp2
    go_roundw
    case rel=>exact ⟨j+1,by go_num,by omega,HN',trivial⟩
    case measure=>simp [intOf];omega
  ·have HV:=Lib.hid (noneTo_end HN.out (by rw [Hl.out];exact hlt))
   go_wp2
   go_ret
   exact ⟨-1,rfl,by rw [HV.out];rfl,rfl⟩
theorem lContains_any (A : Option Addr) (n c : Nat) (l : List Int) (x : Int) (w : World) (hA : Rd w 1 A (l.map encZ)) (hl : l.length = n) (hn : n≤4000000) :
  Calls Tryz.prog 70 #[.slice A n c,.int .i64 x] w fun e w'=>e = .returned (.bool (l.any (x == ·)))∧w = w':=by
 have HI:=Lib.hid (lIndexI_any A n c l x w hA hl hn)
 clear hA hl
 go_enter Tryz.func70,Tryz.ntmps70
 go_wp2_with fail
 refine HI.out.mono ?_
 rintro e w1 ⟨v,rfl,hv,rfl⟩
 have HV:=Lib.hid hv
 clear hv HI
 go_wp2
 go_ret
 exact ⟨by rw [← HV.out];rfl,rfl⟩
end
section
open Go.RowKit
section
variable {w w' : World} {base p : Nat} {k : Int} {s : ByteArray} {l : List Nat}
end
theorem agcut_none (s : ByteArray) (k : Int) (w : World) (hk : k < 0∨2 < k) :
  Calls Tryz.prog 65 #[.string s,.int .i64 k] w fun e w'=>e = .returned (.tuple #[.slice none 0 0,.bool false])∧w = w':=by
 have h0 : (k == 0) = false:=beq_eq_false_iff_ne.2 (by omega)
 have h1 : (k == 1) = false:=beq_eq_false_iff_ne.2 (by omega)
 have h2 : (k == 2) = false:=beq_eq_false_iff_ne.2 (by omega)
 clear hk
 go_enter Tryz.func65,Tryz.ntmps65
 go_wp2
 go_ret2
 exact ⟨rfl,rfl⟩
theorem agNew_none (s : ByteArray) (k : Int) (w : World) (hk : k < 0∨2 < k) :
  Calls Tryz.prog 32 #[.string s,.int .i64 k] w fun e w'=>e = .returned (.tuple #[.pointer none,.int .i64 2])∧w = w':=by
 have H:=Lib.hid (agcut_none s k w hk)
 clear hk
 go_enter Tryz.func32,Tryz.ntmps32
 go_wp2_with fail
 refine H.out.mono ?_
 rintro e w1 ⟨rfl,rfl⟩
 go_wp2
 go_ret2
 exact ⟨rfl,rfl⟩
theorem agIs_any (base p : Nat) (k : Int) (s : ByteArray) (l : List Nat) (x : Int) (w : World) (h : DocAt w base p k s l) (hl : l.length≤4000000) :
  Calls Tryz.prog 37 #[.pointer (some ⟨p,0,none⟩),.int .i64 x] w fun e w'=>e = .returned (.bool (l.any fun (a : Nat)=>x == (a : Int)))∧Below w.heap.size w w':=by
 have H:=Lib.hid (agBounds_any base p k s l w h hl)
 have HC:=Lib.hid (fun A c W (hr : Rd W 1 A (l.map encN))=>lContains_any A l.length c (l.map fun (a : Nat)=>(a : Int)) x W (by rw [List.map_map];exact hr) (by simp) hl)
 have HV : Hid ((l.map fun (a : Nat)=>(a : Int)).any (x == ·) = l.any fun (a : Nat)=>x == (a : Int)):=Lib.hid (by rw [List.any_map];rfl)
 rw [HV.out] at HC
 generalize (l.any fun (a : Nat)=>x == (a : Int)) = q at HC ⊢
 generalize l.length = n at H HC
 clear h hl HV
 go_enter Tryz.func37,Tryz.ntmps37
 go_wp2_with fail
 refine H.out.mono ?_
 rintro e w1 ⟨A',c',rfl,ho,hb⟩
 go_wp2_with fail
 refine (HC.out A' c' w1 (ho.rd (by decide))).mono ?_
 rintro e w2 ⟨rfl,rfl⟩
 go_wp2
 go_ret
 exact ⟨rfl,hb⟩
end
section
open Go.ChangeShapes Go.WideShapes Go.ChangeAt Go.RowKit
theorem cellsI64 : Tryz.prog.cellsOf 3 = 1:=by kernel_rfl
theorem cellsTx : Tryz.prog.cellsOf 9 = 1:=by kernel_rfl
theorem cellsAct : Tryz.prog.cellsOf 58 = 6:=by kernel_rfl
section
variable {H : Type} {enc : TypeId × Value→H} {W : World} {r : Reach} {b0 : Nat} {v : Value} {d : DataW H} {p : List MemPlace}
theorem open_act (hv : Value.okWide Tryz.prog W r b0 58 v) (hd : DataW.Trod enc Tryz.prog W 0 (fun _=>true) true 58 v d p) :
  ∃ (a b : Int) (x : ByteArray) (c3 c4 c5 : Value),v = .agg #[.int .i64 a,.int .i64 b,.string x,c3,c4,c5]∧(Lit.int .i64 a).wf = true∧(Lit.int .i64 b).wf = true∧x.size≤maxLen:=by
 unfold Value.okWide at hv
 rw [Tryz.underlying58] at hv
 obtain ⟨⟨cs⟩,rfl,hz,_⟩:=hv
 obtain ⟨fuel,hf⟩:=hd
 obtain ⟨xs,n,_,_,hl,hlen,hg⟩:=DataW.trod_struct Tryz.underlying58 hf
 rw [cellsAct] at hz
 match xs,hlen with
 | [y0,y1,y2,y3,y4],_ =>
  have h0:=hg 0 _ rfl
  have h1:=hg 1 _ rfl
  have h2:=hg 2 _ rfl
  match cs,hz with
  | [c0,c1,c2,c3,c4,c5],_ =>
   obtain ⟨a,e0,_,w0⟩:=DataW.trod_int (x:=y0) Tryz.underlying3 h0
   obtain ⟨b,e1,_,w1⟩:=DataW.trod_int (x:=y1) Tryz.underlying3 h1
   obtain ⟨x,e2,_,w2⟩:=DataW.trod_string (x:=y2) Tryz.underlying9 h2
   simp [Value.cells,cellsI64,cellsTx] at e0 e1 e2
   subst e0 e1 e2
   exact ⟨a,b,x,c3,c4,c5,rfl,w0,w1,w2⟩
end
end
section
open Go.RowKit
theorem keepK1 {k : Int} {s C : ByteArray} {f F i y : Nat} (hF : F = eFrom (cutZ k s) (cutZ k C) f) (hy : (cutZ k s)[i]? = some y) (h : y < F∨(y = F∧0 < F)) : ((cutZ k C).any fun (u : Nat)=>(y : Int) == (u : Int)) = true :=
 List.any_eq_true.2 ⟨y,keeps_front (cutZ_rise k s) hy (by rw [← hF];exact h),by simp⟩
theorem keepK2 {k : Int} {s C : ByteArray} {t V i y : Nat} (hV : V = eWas (cutZ k s) (cutZ k C) ((C.size : Int) - (s.size : Int)) t s.size) (hy : (cutZ k s)[i]? = some y) (h : V≤y) (hC : C.size ≠ 0) : ((cutZ k C).any fun (u : Nat)=>((y : Int)+((C.size : Int) - (s.size : Int))) == (u : Int)) = true:=by
 obtain ⟨u,hu,e⟩:=keeps_behind (cutZ_rise k s) (b:=cutZ k C) (m:=(C.size : Int) - (s.size : Int)) (t:=t) (z:=s.size) (cutZ_le k s) (fun _=>⟨_,cutZ_last k hC,by omega⟩) hy (by rw [← hV];exact h) (by omega)
 exact List.any_eq_true.2 ⟨u,hu,by rw [e];simp⟩
theorem aglong_nil (s : ByteArray) (w : World) (hs : s.size≤140737488355328) : Calls Tryz.prog 31 #[.string s,.slice none 0 0] w fun e w'=>e = .returned (.bool (decide (120 < s.size)))∧w = w':=by
 by_cases h : 120 < s.size
 ·have hd:=Lib.hid (decide_eq_true h)
  have hI : (120 : Int) < (s.size : Int):=by omega
  rw [hd.out]
  go_enter Tryz.func31,Tryz.ntmps31
  go_wp2_with fail
  go_loopw [5,6] (fun u v wr=>u = .int .i64 s.size∧v = .int .i64 0∧wr = w) (fun _ _ _=>0)
  case atStart=>exact ⟨rfl,rfl,rfl⟩
  case round =>
   obtain ⟨rfl,rfl,rfl⟩:=hrel
   go_wp2
   go_ret
   exact ⟨rfl,rfl⟩
 ·have hd:=Lib.hid (decide_eq_false h)
  have hI : ¬ (120 : Int) < (s.size : Int):=by omega
  rw [hd.out]
  go_enter Tryz.func31,Tryz.ntmps31
  go_wp2_with fail
  go_loopw [5,6] (fun u v wr=>u = .int .i64 s.size∧v = .int .i64 0∧wr = w) (fun _ _ _=>0)
  case atStart=>exact ⟨rfl,rfl,rfl⟩
  case round =>
   obtain ⟨rfl,rfl,rfl⟩:=hrel
   go_wp2
   go_ret
   exact ⟨congrArg (fun q=>Ending.returned (.bool q)) (decide_eq_false (by omega)),rfl⟩
theorem aAgainKeeps_any (s x : ByteArray) (k a b : Int) (v3 v4 v5 : Value) (w : World) (hE : Env w) (hs : s.size≤140737488355328) :
  Calls Tryz.prog 9 #[.string s,.int .i64 k,.agg #[.int .i64 a,.int .i64 b,.string x,v3,v4,v5]] w fun e w'=>e = .returned (.bool true)∧Below w.heap.size w w':=by
 have hb0 : Below w.heap.size w (w.alloc (.cells #[.int .i64 a,.int .i64 b,.string x,v3,v4,v5] 58)):=(Below.refl _ _).alloc (Nat.le_refl _) _
 have b5:=Blk.new w 58 #[.int .i64 a,.int .i64 b,.string x,v3,v4,v5]
 have HLg:=Lib.hid (fun W=>aglong_nil s W hs)
 have HLv:=Lib.hid (fun W (h : Env W)=>aglive_any W h)
 by_cases h1 : 120 < s.size
 ·have hd:=decide_eq_true h1
  rw [hd] at HLg
  clear hd h1 hs
  go_enter Tryz.func9,Tryz.ntmps9
  go_wp2_with fail
  generalize w.alloc (.cells #[.int .i64 a,.int .i64 b,.string x,v3,v4,v5] 58) = w0 at hb0 b5 ⊢
  refine (HLg.out w0).mono ?_
  rintro e w1 ⟨rfl,rfl⟩
  go_wp2_with fail
  refine (HLv.out w0 (hE.below hb0)).mono ?_
  rintro e w1 ⟨rfl,hb⟩
  go_wp2
  go_ret
  exact ⟨rfl,below_two hb0 hb⟩
 have hd:=decide_eq_false h1
 rw [hd] at HLg
 clear hd
 by_cases h2 : 60 < x.size
 ·have h2I : (x.size : Int) > 60:=by omega
  clear h1 hs h2
  go_enter Tryz.func9,Tryz.ntmps9
  go_wp2_with fail
  generalize w.alloc (.cells #[.int .i64 a,.int .i64 b,.string x,v3,v4,v5] 58) = w0 at hb0 b5 ⊢
  have e2:=b5.cell 2
  simp only [zG,zH,zI] at e2
  refine (HLg.out w0).mono ?_
  rintro e w1 ⟨rfl,rfl⟩
  go_wp2_with fail
  refine (HLv.out w0 (hE.below hb0)).mono ?_
  rintro e w1 ⟨rfl,hb⟩
  go_wp2
  go_ret
  exact ⟨rfl,below_two hb0 hb⟩
 have h2I : ¬ (x.size : Int) > 60:=by omega
 by_cases h3 : k < 0∨2 < k
 ·have HNn:=Lib.hid (fun W=>agNew_none s k W h3)
  have HN:=Lib.hid (fun W=>agnum_any 2 W)
  clear h1 hs h2 h3
  go_enter Tryz.func9,Tryz.ntmps9
  go_wp2_with fail
  generalize w.alloc (.cells #[.int .i64 a,.int .i64 b,.string x,v3,v4,v5] 58) = w0 at hb0 b5 ⊢
  have e2:=b5.cell 2
  simp only [zG,zH,zI] at e2
  refine (HLg.out w0).mono ?_
  rintro e w1 ⟨rfl,rfl⟩
  go_wp2_with fail
  refine (HNn.out w0).mono ?_
  rintro e w1 ⟨rfl,rfl⟩
  go_wp2_with fail
  refine (HN.out w0).mono ?_
  rintro e w1 ⟨rfl,rfl⟩
  go_wp2_with fail
  refine (HLv.out w0 (hE.below hb0)).mono ?_
  rintro e w1 ⟨rfl,hb⟩
  go_wp2
  go_ret
  exact ⟨rfl,below_two hb0 hb⟩
 have hk : 0≤k∧k≤2:=by omega
 have hsz : s.size+x.size≤1000000:=by omega
 have HNw:=Lib.hid (fun W (h : Env W)=>agNew_any s k W h (by omega) hk)
 have HN:=Lib.hid (fun W=>agnum_any 0 W)
 have hLl:=cutZ_len k s
 have HBd:=Lib.hid (fun W base p (h : DocAt W base p k s (cutZ k s))=>agBounds_any base p k s (cutZ k s) W h (by omega))
 have HEd:=Lib.hid (fun (W0 W : World) base p (h0 : Env W0) (h1 : Below W0.heap.size W0 W) (h2 : W0.heap.size≤base) (h : DocAt W base p k s (cutZ k s))=>agEdit_any W0 base p k s x a b W h0 h1 h2 h hk hsz)
 have HTx0:=Lib.hid (fun W base p (h : DocAt W base p k (chP s a b x) (cutZ k (chP s a b x)))=>agText_any base p k (chP s a b x) (cutZ k (chP s a b x)) W h)
 have hMl:=cutZ_len k (chP s a b x)
 have hCz:=chP_size s x a b
 have HIs0:=Lib.hid (fun W base p y (h : DocAt W base p k (chP s a b x) (cutZ k (chP s a b x)))=>agIs_any base p k (chP s a b x) (cutZ k (chP s a b x)) y W h (by omega))
 have HK1:=Lib.hid (fun (F i y : Nat) (h : F = eFrom (cutZ k s) (cutZ k (chP s a b x)) (chF s a))=>keepK1 (i:=i) (y:=y) h)
 have HK2:=Lib.hid (fun (V i y : Nat) (h : V = eWas (cutZ k s) (cutZ k (chP s a b x)) (((chP s a b x).size : Int) - (s.size : Int)) (chT s a b) s.size)=>keepK2 (i:=i) (y:=y) h)
 have HFl:=Lib.hid (eFrom_le (cutZ k s) (cutZ k (chP s a b x)) (chF s a))
 have HVg:=Lib.hid (eWas_ge (cutZ k s) (cutZ k (chP s a b x)) (((chP s a b x).size : Int) - (s.size : Int)) (chT s a b) s.size)
 have HVl:=Lib.hid (eWas_le (b:=cutZ k (chP s a b x)) (m:=((chP s a b x).size : Int) - (s.size : Int)) (t:=chT s a b) (cutZ_le k s))
 have HFT:=Lib.hid (chT_le s a b)
 generalize chT s a b = T at HEd HK2 HVg HVl HFT
 generalize chF s a = f at HEd HK1 HFl HFT
 generalize cutZ k (chP s a b x) = M at HEd HTx0 HIs0 HK1 HK2 HFl HVg HVl hMl
 generalize chP s a b x = C at HEd HTx0 HIs0 HK2 HVg HVl hMl hCz
 have HLz:=Lib.hid (cutZ_le k s)
 generalize cutZ k s = L at HNw HBd HEd HK1 HK2 HFl HVg HVl hLl HLz
 clear h1 hs h3 hk
 go_enter Tryz.func9,Tryz.ntmps9
 go_wp2_with fail
 generalize w.alloc (.cells #[.int .i64 a,.int .i64 b,.string x,v3,v4,v5] 58) = w0 at hb0 b5 ⊢
 have e2:=b5.cell 2
 simp only [zG,zH,zI] at e2
 refine (HLg.out w0).mono ?_
 rintro e w1 ⟨rfl,rfl⟩
 have hE0:=hE.below hb0
 go_wp2_with fail
 refine (HNw.out w0 hE0).mono ?_
 rintro e w1 ⟨p,rfl,hd1,hb1⟩
 have b51:=b5.below hb1
 have hpz:=hd1.pge
 have hwz:=b5.lt
 clear e2
 go_wp2_with fail
 refine (HN.out w1).mono ?_
 rintro e w2 ⟨rfl,rfl⟩
 go_wp2_with fail
 refine (HBd.out w1 _ p hd1).mono ?_
 rintro e w2 ⟨A9,c9,rfl,ho2,hb2⟩
 have hd2:=hd1.below hb2
 have b52:=b51.below hb2
 have hb02:=below_two hb1 hb2
 have hp1:=hd1.lt
 have e0:=b52.cell 0
 have e1:=b52.cell 1
 have e2:=b52.cell 2
 simp only [zG,zH,zI] at e0 e1 e2
 go_wp2_with fail
 refine (HEd.out w0 w2 _ p hE0 hb02 (Nat.le_refl _) hd2).mono ?_
 rintro e w3 ⟨F,V,hF,hV,rfl,hg3,hd3⟩
 have HF:=Lib.hid hF
 have HV:=Lib.hid hV
 clear hF hV
 have ho3:=ho2.grown hg3 (fun a ha e=>by injection e with e;have:=(ho2.lt a ha).1;omega)
 have hb03 : Below w0.heap.size w0 w3:=hb02.grown hg3 hb02.size (fun k e=>by injection e with e;omega)
 clear e0 e1 e2 b51 b52 hd1 hd2 ho2 hb2 hb02 hb1 hg3
 have Bx:=Blk.new w3 68 #[.int .i64 (F : Nat),.int .i64 (V : Nat),.int .i64 ((V : Int)+((C.size : Int) - (s.size : Int)))]
 have hba : Below w3.heap.size w3 (w3.alloc (.cells #[.int .i64 (F : Nat),.int .i64 (V : Nat),.int .i64 ((V : Int)+((C.size : Int) - (s.size : Int)))] 68)):=(Below.refl _ _).alloc (Nat.le_refl _) _
 have hD6:=hd3.below hba
 have ho6:=ho3.below hba
 have hb06:=below_step hb03 hba hb03.size
 go_wp2_with fail
 generalize w3.alloc (.cells #[.int .i64 (F : Nat),.int .i64 (V : Nat),.int .i64 ((V : Int)+((C.size : Int) - (s.size : Int)))] 68) = w6 at Bx hD6 ho6 hb06 ⊢
 generalize w3.heap.size = gx at Bx ⊢
 clear hd3 ho3 hb03 hba
 refine (HTx0.out w6 _ p hD6).mono ?_
 rintro e w7 ⟨rfl,rfl⟩
 have HTx:=Lib.hid (fun W h=>HTx0.out W w0.heap.size p h)
 have HIs:=Lib.hid (fun W y h=>HIs0.out W w0.heap.size p y h)
 replace HK1:=Lib.hid (fun i y=>HK1.out F i y HF.out)
 replace HK2:=Lib.hid (fun i y=>HK2.out V i y HV.out)
 have hFl : F≤f:=by rw [HF.out];exact HFl.out
 have hVg : V = s.size∨T≤V:=by rw [HV.out];exact HVg.out
 have hVl : V≤s.size:=by rw [HV.out];exact HVl.out
 have hFT:=HFT.out
 clear HEd HTx0 HIs0 HFl HVg HVl HFT HF HV
 obtain ⟨mo,hmo⟩ : ∃ mo,(C.size : Int) - (s.size : Int) = mo:=⟨_,rfl⟩
 have emo : IntKind.i64.wrap ((C.size : Int) - (s.size : Int)) = mo:=by rw [hmo];exact IntWalk.i64_in _ (by omega)
 have hmz : -1000000≤mo∧mo≤1000000:=by omega
 rw [hmo] at Bx HK2
 have eVm : IntKind.i64.wrap ((V : Int)+mo) = (V : Int)+mo:=IntWalk.i64_in _ (by omega)
 have x0:=Bx.cell 0
 have x1:=Bx.cell 1
 have x2:=Bx.cell 2
 simp only [zG,zH,zI] at x0 x1 x2
 have hF0 : ¬ (F : Int) < 0:=by omega
 have hV0 : ¬ (V : Int) > (s.size : Int):=by omega
 have hne : (((V : Int)+mo) != ((V : Int)+mo)) = false:=by simp
 have HLo:=Lib.hid (And.intro hFl (And.intro hVg (And.intro hVl hFT)))
 go_upto_region 11 with fail
 clear emo eVm hF0 hV0 hne x0 x1 x2 hmo
 go_wp2_with fail
 go_loopw [12] (fun v wr=>∃ i : Nat,v = .int .i64 i∧i≤L.length∧Below w6.heap.size w6 wr) (fun v _=>L.length - (intOf v).toNat)
 case atStart=>exact ⟨0,rfl,Nat.zero_le _,Below.refl _ _⟩
 case round =>
  obtain ⟨i,rfl,hi,hbr⟩:=hrel
  by_cases hlt : i < L.length
  ·obtain ⟨y,Hy⟩ : ∃ y,Hid (L[i]? = some y):=⟨_,Lib.hid (List.getElem?_eq_getElem hlt)⟩
   have hyz:=HLz.out y (List.mem_of_getElem? Hy.out)
   obtain ⟨ba,oa,rfl,ca⟩:=Rd.atQ (ho6.rd (by decide)) Hy.out
   have HSt : Hid (∀ U,Below w6.heap.size w6 U→(U.cell? ⟨ba,oa+i,none⟩ = some (.int .i64 (y : Nat))∧U.cell? ⟨gx,0,none⟩ = some (.int .i64 (F : Nat))∧U.cell? ⟨gx,1,none⟩ = some (.int .i64 (V : Nat)))):=Lib.hid (fun U hU=>by
    have x0:=(Bx.below hU).cell 0
    have x1:=(Bx.below hU).cell 1
    simp only [zG,zH,zI] at x0 x1
    exact ⟨cell_keep ca hU,x0,x1⟩)
   have hbr1:=hbr.drew
   have HLt:=Lib.hid hlt
   have HLb : Hid (L.length≤1000001):=Lib.hid (by omega)
   have eym : IntKind.i64.wrap ((y : Int)+mo) = (y : Int)+mo:=IntWalk.i64_in _ (by omega)
   have hltI : (i : Int) < (L.length : Int):=by omega
   clear ca hLl hMl hCz h2I hsz hpz hwz hp1
   go_wp2_with fail
   refine wp_region_held_drew (S:=fun U=>U.cell? ⟨ba,oa+i,none⟩ = some (.int .i64 (y : Nat))∧U.cell? ⟨gx,0,none⟩ = some (.int .i64 (F : Nat))∧U.cell? ⟨gx,1,none⟩ = some (.int .i64 (V : Nat))) (by kernel_rfl) (HSt.out _ hbr1) (fun hHeld=>?_)
   refine tkH (i:=0) (v:=?_) rfl ?_ ?_;rotate_left;focus ((intro w hSw;(try dsimp only at hSw);go_simp);try with_reducible rfl)
   (try simp only [Act.put,zA,zC,zD,zE,zF])
   refine tkH (i:=1) (v:=?_) rfl ?_ ?_;rotate_left;focus ((intro w hSw;(try dsimp only at hSw);go_simp);try with_reducible rfl)
   (try simp only [Act.put,zA,zB,zC,zD,zE,zF])
   refine tkH (i:=2) (v:=?_) rfl ?_ ?_;rotate_left;focus ((intro w hSw;(try dsimp only at hSw);go_simp);try with_reducible rfl)
   (try simp only [Act.put,zA,zB,zC,zD,zE,zF])
   refine tkH (i:=3) (v:=?_) rfl ?_ ?_;rotate_left;focus ((intro w hSw;(try dsimp only at hSw);go_simp);try with_reducible rfl)
   (try simp only [Act.put,zA,zB,zC,zD,zE,zF])
   refine tkH (i:=4) (v:=?_) rfl ?_ ?_;rotate_left;focus ((intro w hSw;(try dsimp only at hSw);go_simp);try with_reducible rfl)
   (try simp only [Act.put,zA,zB,zC,zD,zE,zF])
   refine tkH (i:=5) (v:=?_) rfl ?_ ?_;rotate_left;focus ((intro w hSw;(try dsimp only at hSw);go_simp);try with_reducible rfl)
   (try simp only [Act.put,zA,zB,zC,zD,zE,zF])
   by_cases h1 : y < F
   ·have h1I : (y : Int) < (F : Int):=by omega
    refine tkH (i:=6) (v:=?_) rfl ?_ ?_;rotate_left;focus ((intro w hSw;(try dsimp only at hSw);go_simp);try with_reducible rfl)
    (try simp only [Act.put,zA,zB,zC,zD,zE,zF])
    refine tkH (i:=7) (v:=?_) rfl ?_ ?_;rotate_left;focus ((intro w hSw;(try dsimp only at hSw);go_simp);try with_reducible rfl)
    (try simp only [Act.put,zA,zB,zC,zD,zE,zF])
    refine wpAnyH_take (i:=8) (v:=undef) rfl (by kernel_rfl) (by kernel_rfl) (by kernel_rfl) (fun _ _ _ h=>h) (Or.inr ⟨by rfl,rfl⟩) (by assumption) ?_
    (try simp only [Act.put,zA,zB,zC,zD,zE,zF])
    refine wpAnyH_take (i:=9) (v:=undef) rfl (by kernel_rfl) (by kernel_rfl) (by kernel_rfl) (fun _ _ _ h=>h) (Or.inr ⟨by rfl,rfl⟩) (by assumption) ?_
    (try simp only [Act.put,zA,zB,zC,zD,zE,zF])
    refine wpAnyH_take (i:=10) (v:=undef) rfl (by kernel_rfl) (by kernel_rfl) (by kernel_rfl) (fun _ _ _ h=>h) (Or.inr ⟨by rfl,rfl⟩) (by assumption) ?_
    (try simp only [Act.put,zA,zB,zC,zD,zE,zF])
    refine wpAnyH_take (i:=11) (v:=undef) rfl (by kernel_rfl) (by kernel_rfl) (by kernel_rfl) (fun _ _ _ h=>h) (Or.inr ⟨by rfl,rfl⟩) (by assumption) ?_
    (try simp only [Act.put,zA,zB,zC,zD,zE,zF])
    refine wpAnyH_take (i:=12) (v:=undef) rfl (by kernel_rfl) (by kernel_rfl) (by kernel_rfl) (fun _ _ _ h=>h) (Or.inr ⟨by rfl,rfl⟩) (by assumption) ?_
    (try simp only [Act.put,zA,zB,zC,zD,zE,zF])
    refine wpAnyH_take (i:=13) (v:=undef) rfl (by kernel_rfl) (by kernel_rfl) (by kernel_rfl) (fun _ _ _ h=>h) (Or.inr ⟨by rfl,rfl⟩) (by assumption) ?_
    (try simp only [Act.put,zA,zB,zC,zD,zE,zF])
    refine wpAnyH_take (i:=14) (v:=undef) rfl (by kernel_rfl) (by kernel_rfl) (by kernel_rfl) (fun _ _ _ h=>h) (Or.inr ⟨by rfl,rfl⟩) (by assumption) ?_
    (try simp only [Act.put,zA,zB,zC,zD,zE,zF])
    refine wpAnyH_take (i:=15) (v:=undef) rfl (by kernel_rfl) (by kernel_rfl) (by kernel_rfl) (fun _ _ _ h=>h) (Or.inr ⟨by rfl,rfl⟩) (by assumption) ?_
    (try simp only [Act.put,zA,zB,zC,zD,zE,zF])
    refine wpAnyH_take (i:=16) (v:=undef) rfl (by kernel_rfl) (by kernel_rfl) (by kernel_rfl) (fun _ _ _ h=>h) (Or.inr ⟨by rfl,rfl⟩) (by assumption) ?_
    (try simp only [Act.put,zA,zB,zC,zD,zE,zF])
    refine wpAnyH_take (i:=17) (v:=undef) rfl (by kernel_rfl) (by kernel_rfl) (by kernel_rfl) (fun _ _ _ h=>h) (Or.inr ⟨by rfl,rfl⟩) (by assumption) ?_
    (try simp only [Act.put,zA,zB,zC,zD,zE,zF])
    refine wpAnyH_take (i:=18) (v:=undef) rfl (by kernel_rfl) (by kernel_rfl) (by kernel_rfl) (fun _ _ _ h=>h) (Or.inr ⟨by rfl,rfl⟩) (by assumption) ?_
    (try simp only [Act.put,zA,zB,zC,zD,zE,zF])
    refine wpAnyH_take (i:=19) (v:=undef) rfl (by kernel_rfl) (by kernel_rfl) (by kernel_rfl) (fun _ _ _ h=>h) (Or.inr ⟨by rfl,rfl⟩) (by assumption) ?_
    (try simp only [Act.put,zA,zB,zC,zD,zE,zF])
    refine tkH (i:=20) (v:=?_) rfl ?_ ?_;rotate_left;focus ((intro w hSw;(try dsimp only at hSw);go_simp);try with_reducible rfl)
    (try simp only [Act.put,zA,zB,zC,zD,zE,zF])
    refine tkH (i:=21) (v:=?_) rfl ?_ ?_;rotate_left;focus ((intro w hSw;(try dsimp only at hSw);go_simp);try with_reducible rfl)
    (try simp only [Act.put,zA,zB,zC,zD,zE,zF])
    refine tkH (i:=22) (v:=?_) rfl ?_ ?_;rotate_left;focus ((intro w hSw;(try dsimp only at hSw);go_simp);try with_reducible rfl)
    (try simp only [Act.put,zA,zB,zC,zD,zE,zF])
    refine tkH (i:=23) (v:=?_) rfl ?_ ?_;rotate_left;focus ((intro w hSw;(try dsimp only at hSw);go_simp);try with_reducible rfl)
    (try simp only [Act.put,zA,zB,zC,zD,zE,zF])
    refine tkH (i:=24) (v:=?_) rfl ?_ ?_;rotate_left;focus ((intro w hSw;(try dsimp only at hSw);go_simp);try with_reducible rfl)
    (try simp only [Act.put,zA,zB,zC,zD,zE,zF])
    refine tkH (i:=25) (v:=?_) rfl ?_ ?_;rotate_left;focus ((intro w hSw;(try dsimp only at hSw);go_simp);try with_reducible rfl)
    (try simp only [Act.put,zA,zB,zC,zD,zE,zF])
    refine tkH (i:=26) (v:=?_) rfl ?_ ?_;rotate_left;focus ((intro w hSw;(try dsimp only at hSw);go_simp);try with_reducible rfl)
    (try simp only [Act.put,zA,zB,zC,zD,zE,zF])
    refine wpAnyH_ready (rs:=[27]) (by kernel_rfl) (by simp) ?_
    refine AllReadyH.cons rfl (fun K hK=>?_) AllReadyH.nil
    go_simp
    refine (HIs.out _ (y : Int) (hD6.below hbr1)).mono ?_
    rintro e wa ⟨rfl,hba⟩
    rw [HK1.out i y Hy.out (.inl h1)]
    have hbra:=below_step hbr1 hba hbr1.size
    refine hK.out _ _ (HSt.out _ hbra) (fun hHeld=>?_)
    clear hK K
    (try simp only [Act.put,zA,zB,zC,zD,zE,zF])
    refine tkH (i:=28) (v:=?_) rfl ?_ ?_;rotate_left;focus ((intro w hSw;(try dsimp only at hSw);go_simp);try with_reducible rfl)
    (try simp only [Act.put,zA,zB,zC,zD,zE,zF])
    refine tkH (i:=29) (v:=?_) rfl ?_ ?_;rotate_left;focus ((intro w hSw;(try dsimp only at hSw);go_simp);try with_reducible rfl)
    (try simp only [Act.put,zA,zB,zC,zD,zE,zF])
    refine tkH (i:=30) (v:=?_) rfl ?_ ?_;rotate_left;focus ((intro w hSw;(try dsimp only at hSw);go_simp);try with_reducible rfl)
    (try simp only [Act.put,zA,zB,zC,zD,zE,zF])
    refine tkH (i:=31) (v:=?_) rfl ?_ ?_;rotate_left;focus ((intro w hSw;(try dsimp only at hSw);go_simp);try with_reducible rfl)
    (try simp only [Act.put,zA,zB,zC,zD,zE,zF])
    refine tkH (i:=32) (v:=?_) rfl ?_ ?_;rotate_left;focus ((intro w hSw;(try dsimp only at hSw);go_simp);try with_reducible rfl)
    (try simp only [Act.put,zA,zB,zC,zD,zE,zF])
    refine tkH (i:=33) (v:=?_) rfl ?_ ?_;rotate_left;focus ((intro w hSw;(try dsimp only at hSw);go_simp);try with_reducible rfl)
    (try simp only [Act.put,zA,zB,zC,zD,zE,zF])
    refine tkH (i:=34) (v:=?_) rfl ?_ ?_;rotate_left;focus ((intro w hSw;(try dsimp only at hSw);go_simp);try with_reducible rfl)
    (try simp only [Act.put,zA,zB,zC,zD,zE,zF])
    refine tkH (i:=35) (v:=?_) rfl ?_ ?_;rotate_left;focus ((intro w hSw;(try dsimp only at hSw);go_simp);try with_reducible rfl)
    (try simp only [Act.put,zA,zB,zC,zD,zE,zF])
    refine tkH (i:=36) (v:=?_) rfl ?_ ?_;rotate_left;focus ((intro w hSw;(try dsimp only at hSw);go_simp);try with_reducible rfl)
    (try simp only [Act.put,zA,zB,zC,zD,zE,zF])
    refine tkH (i:=37) (v:=?_) rfl ?_ ?_;rotate_left;focus ((intro w hSw;(try dsimp only at hSw);go_simp);try with_reducible rfl)
    (try simp only [Act.put,zA,zB,zC,zD,zE,zF])
    by_cases hv : V≤y
    ·exfalso
     have:=HLo.out
     omega
    ·have hvI : ¬ (y : Int) ≥ (V : Int):=by omega
     refine tkH (i:=38) (v:=?_) rfl ?_ ?_;rotate_left;focus ((intro w hSw;(try dsimp only at hSw);go_simp);try with_reducible rfl)
     (try simp only [Act.put,zA,zB,zC,zD,zE,zF])
     refine wpAnyH_take (i:=39) (v:=undef) rfl (by kernel_rfl) (by kernel_rfl) (by kernel_rfl) (fun _ _ _ h=>h) (Or.inr ⟨by rfl,rfl⟩) (by assumption) ?_
     (try simp only [Act.put,zA,zB,zC,zD,zE,zF])
     refine wpAnyH_take (i:=40) (v:=undef) rfl (by kernel_rfl) (by kernel_rfl) (by kernel_rfl) (fun _ _ _ h=>h) (Or.inr ⟨by rfl,rfl⟩) (by assumption) ?_
     (try simp only [Act.put,zA,zB,zC,zD,zE,zF])
     refine wpAnyH_take (i:=41) (v:=undef) rfl (by kernel_rfl) (by kernel_rfl) (by kernel_rfl) (fun _ _ _ h=>h) (Or.inr ⟨by rfl,rfl⟩) (by assumption) ?_
     (try simp only [Act.put,zA,zB,zC,zD,zE,zF])
     refine wpAnyH_take (i:=42) (v:=undef) rfl (by kernel_rfl) (by kernel_rfl) (by kernel_rfl) (fun _ _ _ h=>h) (Or.inr ⟨by rfl,rfl⟩) (by assumption) ?_
     (try simp only [Act.put,zA,zB,zC,zD,zE,zF])
     refine wpAnyH_take (i:=43) (v:=undef) rfl (by kernel_rfl) (by kernel_rfl) (by kernel_rfl) (fun _ _ _ h=>h) (Or.inr ⟨by rfl,rfl⟩) (by assumption) ?_
     (try simp only [Act.put,zA,zB,zC,zD,zE,zF])
     refine wpAnyH_take (i:=44) (v:=undef) rfl (by kernel_rfl) (by kernel_rfl) (by kernel_rfl) (fun _ _ _ h=>h) (Or.inr ⟨by rfl,rfl⟩) (by assumption) ?_
     (try simp only [Act.put,zA,zB,zC,zD,zE,zF])
     refine wpAnyH_take (i:=45) (v:=undef) rfl (by kernel_rfl) (by kernel_rfl) (by kernel_rfl) (fun _ _ _ h=>h) (Or.inr ⟨by rfl,rfl⟩) (by assumption) ?_
     (try simp only [Act.put,zA,zB,zC,zD,zE,zF])
     refine wpAnyH_take (i:=46) (v:=undef) rfl (by kernel_rfl) (by kernel_rfl) (by kernel_rfl) (fun _ _ _ h=>h) (Or.inr ⟨by rfl,rfl⟩) (by assumption) ?_
     (try simp only [Act.put,zA,zB,zC,zD,zE,zF])
     refine wpAnyH_take (i:=47) (v:=undef) rfl (by kernel_rfl) (by kernel_rfl) (by kernel_rfl) (fun _ _ _ h=>h) (Or.inr ⟨by rfl,rfl⟩) (by assumption) ?_
     (try simp only [Act.put,zA,zB,zC,zD,zE,zF])
     refine tkH (i:=48) (v:=?_) rfl ?_ ?_;rotate_left;focus ((intro w hSw;(try dsimp only at hSw);go_simp);try with_reducible rfl)
     (try simp only [Act.put,zA,zB,zC,zD,zE,zF])
     refine tkH (i:=49) (v:=?_) rfl ?_ ?_;rotate_left;focus ((intro w hSw;(try dsimp only at hSw);go_simp);try with_reducible rfl)
     (try simp only [Act.put,zA,zB,zC,zD,zE,zF])
     refine wpAnyH_take (i:=50) (v:=undef) rfl (by kernel_rfl) (by kernel_rfl) (by kernel_rfl) (fun _ _ _ h=>h) (Or.inr ⟨by rfl,rfl⟩) (by assumption) ?_
     (try simp only [Act.put,zA,zB,zC,zD,zE,zF])
     refine wpAnyH_take (i:=51) (v:=undef) rfl (by kernel_rfl) (by kernel_rfl) (by kernel_rfl) (fun _ _ _ h=>h) (Or.inr ⟨by rfl,rfl⟩) (by assumption) ?_
     (try simp only [Act.put,zA,zB,zC,zD,zE,zF])
     refine wpAnyH_take (i:=52) (v:=undef) rfl (by kernel_rfl) (by kernel_rfl) (by kernel_rfl) (fun _ _ _ h=>h) (Or.inr ⟨by rfl,rfl⟩) (by assumption) ?_
     (try simp only [Act.put,zA,zB,zC,zD,zE,zF])
     refine wpAnyH_take (i:=53) (v:=undef) rfl (by kernel_rfl) (by kernel_rfl) (by kernel_rfl) (fun _ _ _ h=>h) (Or.inr ⟨by rfl,rfl⟩) (by assumption) ?_
     (try simp only [Act.put,zA,zB,zC,zD,zE,zF])
     refine tkH (i:=54) (v:=?_) rfl ?_ ?_;rotate_left;focus ((intro w hSw;(try dsimp only at hSw);go_simp);try with_reducible rfl)
     (try simp only [Act.put,zA,zB,zC,zD,zE,zF])
     refine tkH (i:=55) (v:=?_) rfl ?_ ?_;rotate_left;focus ((intro w hSw;(try dsimp only at hSw);go_simp);try with_reducible rfl)
     (try simp only [Act.put,zA,zB,zC,zD,zE,zF])
     refine wpAnyH_done (by kernel_rfl) ?_ _
     have HBZ:=Lib.hid hbra
     clear eym hyz hHeld
     have hLb:=HLb.out
     have hltN:=HLt.out
     go_wp2
     go_roundw
     case rel=>first | exact ⟨i+1,by go_num,by omega,HBZ.out⟩ | exact ⟨i+1,by go_num,by omega⟩ | exact ⟨i+1,(IntWalk.wrap64_in _ (by omega)).trans (by omega),by omega⟩
     case measure=>(try rw [IntWalk.wrap64_in _ (by omega)]);simp [intOf];omega
   have h1I : ¬ (y : Int) < (F : Int):=by omega
   refine tkH (i:=6) (v:=?_) rfl ?_ ?_;rotate_left;focus ((intro w hSw;(try dsimp only at hSw);go_simp);try with_reducible rfl)
   (try simp only [Act.put,zA,zB,zC,zD,zE,zF])
   refine tkH (i:=7) (v:=?_) rfl ?_ ?_;rotate_left;focus ((intro w hSw;(try dsimp only at hSw);go_simp);try with_reducible rfl)
   (try simp only [Act.put,zA,zB,zC,zD,zE,zF])
   refine tkH (i:=8) (v:=?_) rfl ?_ ?_;rotate_left;focus ((intro w hSw;(try dsimp only at hSw);go_simp);try with_reducible rfl)
   (try simp only [Act.put,zA,zB,zC,zD,zE,zF])
   refine tkH (i:=9) (v:=?_) rfl ?_ ?_;rotate_left;focus ((intro w hSw;(try dsimp only at hSw);go_simp);try with_reducible rfl)
   (try simp only [Act.put,zA,zB,zC,zD,zE,zF])
   refine tkH (i:=10) (v:=?_) rfl ?_ ?_;rotate_left;focus ((intro w hSw;(try dsimp only at hSw);go_simp);try with_reducible rfl)
   (try simp only [Act.put,zA,zB,zC,zD,zE,zF])
   refine tkH (i:=11) (v:=?_) rfl ?_ ?_;rotate_left;focus ((intro w hSw;(try dsimp only at hSw);go_simp);try with_reducible rfl)
   (try simp only [Act.put,zA,zB,zC,zD,zE,zF])
   refine tkH (i:=12) (v:=?_) rfl ?_ ?_;rotate_left;focus ((intro w hSw;(try dsimp only at hSw);go_simp);try with_reducible rfl)
   (try simp only [Act.put,zA,zB,zC,zD,zE,zF])
   refine tkH (i:=13) (v:=?_) rfl ?_ ?_;rotate_left;focus ((intro w hSw;(try dsimp only at hSw);go_simp);try with_reducible rfl)
   (try simp only [Act.put,zA,zB,zC,zD,zE,zF])
   by_cases h2 : y = F
   ·subst h2
    have h2I : ((y : Int) == (y : Int)) = true:=beq_self_eq_true _
    refine tkH (i:=14) (v:=?_) rfl ?_ ?_;rotate_left;focus ((intro w hSw;(try dsimp only at hSw);go_simp);try with_reducible rfl)
    (try simp only [Act.put,zA,zB,zC,zD,zE,zF])
    refine tkH (i:=15) (v:=?_) rfl ?_ ?_;rotate_left;focus ((intro w hSw;(try dsimp only at hSw);go_simp);try with_reducible rfl)
    (try simp only [Act.put,zA,zB,zC,zD,zE,zF])
    refine tkH (i:=16) (v:=?_) rfl ?_ ?_;rotate_left;focus ((intro w hSw;(try dsimp only at hSw);go_simp);try with_reducible rfl)
    (try simp only [Act.put,zA,zB,zC,zD,zE,zF])
    refine tkH (i:=17) (v:=?_) rfl ?_ ?_;rotate_left;focus ((intro w hSw;(try dsimp only at hSw);go_simp);try with_reducible rfl)
    (try simp only [Act.put,zA,zB,zC,zD,zE,zF])
    by_cases h3 : 0 < y
    ·have h3I : (y : Int) > 0:=by omega
     refine tkH (i:=18) (v:=?_) rfl ?_ ?_;rotate_left;focus ((intro w hSw;(try dsimp only at hSw);go_simp);try with_reducible rfl)
     (try simp only [Act.put,zA,zB,zC,zD,zE,zF])
     refine tkH (i:=19) (v:=?_) rfl ?_ ?_;rotate_left;focus ((intro w hSw;(try dsimp only at hSw);go_simp);try with_reducible rfl)
     (try simp only [Act.put,zA,zB,zC,zD,zE,zF])
     refine tkH (i:=20) (v:=?_) rfl ?_ ?_;rotate_left;focus ((intro w hSw;(try dsimp only at hSw);go_simp);try with_reducible rfl)
     (try simp only [Act.put,zA,zB,zC,zD,zE,zF])
     refine tkH (i:=21) (v:=?_) rfl ?_ ?_;rotate_left;focus ((intro w hSw;(try dsimp only at hSw);go_simp);try with_reducible rfl)
     (try simp only [Act.put,zA,zB,zC,zD,zE,zF])
     refine tkH (i:=22) (v:=?_) rfl ?_ ?_;rotate_left;focus ((intro w hSw;(try dsimp only at hSw);go_simp);try with_reducible rfl)
     (try simp only [Act.put,zA,zB,zC,zD,zE,zF])
     refine tkH (i:=23) (v:=?_) rfl ?_ ?_;rotate_left;focus ((intro w hSw;(try dsimp only at hSw);go_simp);try with_reducible rfl)
     (try simp only [Act.put,zA,zB,zC,zD,zE,zF])
     refine tkH (i:=24) (v:=?_) rfl ?_ ?_;rotate_left;focus ((intro w hSw;(try dsimp only at hSw);go_simp);try with_reducible rfl)
     (try simp only [Act.put,zA,zB,zC,zD,zE,zF])
     refine tkH (i:=25) (v:=?_) rfl ?_ ?_;rotate_left;focus ((intro w hSw;(try dsimp only at hSw);go_simp);try with_reducible rfl)
     (try simp only [Act.put,zA,zB,zC,zD,zE,zF])
     refine tkH (i:=26) (v:=?_) rfl ?_ ?_;rotate_left;focus ((intro w hSw;(try dsimp only at hSw);go_simp);try with_reducible rfl)
     (try simp only [Act.put,zA,zB,zC,zD,zE,zF])
     refine wpAnyH_ready (rs:=[27]) (by kernel_rfl) (by simp) ?_
     refine AllReadyH.cons rfl (fun K hK=>?_) AllReadyH.nil
     go_simp
     refine (HIs.out _ (y : Int) (hD6.below hbr1)).mono ?_
     rintro e wa ⟨rfl,hba⟩
     rw [HK1.out i y Hy.out (.inr ⟨rfl,h3⟩)]
     have hbra:=below_step hbr1 hba hbr1.size
     refine hK.out _ _ (HSt.out _ hbra) (fun hHeld=>?_)
     clear hK K
     (try simp only [Act.put,zA,zB,zC,zD,zE,zF])
     refine tkH (i:=28) (v:=?_) rfl ?_ ?_;rotate_left;focus ((intro w hSw;(try dsimp only at hSw);go_simp);try with_reducible rfl)
     (try simp only [Act.put,zA,zB,zC,zD,zE,zF])
     refine tkH (i:=29) (v:=?_) rfl ?_ ?_;rotate_left;focus ((intro w hSw;(try dsimp only at hSw);go_simp);try with_reducible rfl)
     (try simp only [Act.put,zA,zB,zC,zD,zE,zF])
     refine tkH (i:=30) (v:=?_) rfl ?_ ?_;rotate_left;focus ((intro w hSw;(try dsimp only at hSw);go_simp);try with_reducible rfl)
     (try simp only [Act.put,zA,zB,zC,zD,zE,zF])
     refine tkH (i:=31) (v:=?_) rfl ?_ ?_;rotate_left;focus ((intro w hSw;(try dsimp only at hSw);go_simp);try with_reducible rfl)
     (try simp only [Act.put,zA,zB,zC,zD,zE,zF])
     refine tkH (i:=32) (v:=?_) rfl ?_ ?_;rotate_left;focus ((intro w hSw;(try dsimp only at hSw);go_simp);try with_reducible rfl)
     (try simp only [Act.put,zA,zB,zC,zD,zE,zF])
     refine tkH (i:=33) (v:=?_) rfl ?_ ?_;rotate_left;focus ((intro w hSw;(try dsimp only at hSw);go_simp);try with_reducible rfl)
     (try simp only [Act.put,zA,zB,zC,zD,zE,zF])
     refine tkH (i:=34) (v:=?_) rfl ?_ ?_;rotate_left;focus ((intro w hSw;(try dsimp only at hSw);go_simp);try with_reducible rfl)
     (try simp only [Act.put,zA,zB,zC,zD,zE,zF])
     refine tkH (i:=35) (v:=?_) rfl ?_ ?_;rotate_left;focus ((intro w hSw;(try dsimp only at hSw);go_simp);try with_reducible rfl)
     (try simp only [Act.put,zA,zB,zC,zD,zE,zF])
     refine tkH (i:=36) (v:=?_) rfl ?_ ?_;rotate_left;focus ((intro w hSw;(try dsimp only at hSw);go_simp);try with_reducible rfl)
     (try simp only [Act.put,zA,zB,zC,zD,zE,zF])
     refine tkH (i:=37) (v:=?_) rfl ?_ ?_;rotate_left;focus ((intro w hSw;(try dsimp only at hSw);go_simp);try with_reducible rfl)
     (try simp only [Act.put,zA,zB,zC,zD,zE,zF])
     by_cases hv : V≤y
     ·have hvI : (y : Int) ≥ (V : Int):=by omega
      refine tkH (i:=38) (v:=?_) rfl ?_ ?_;rotate_left;focus ((intro w hSw;(try dsimp only at hSw);go_simp);try with_reducible rfl)
      (try simp only [Act.put,zA,zB,zC,zD,zE,zF])
      refine tkH (i:=39) (v:=?_) rfl ?_ ?_;rotate_left;focus ((intro w hSw;(try dsimp only at hSw);go_simp);try with_reducible rfl)
      (try simp only [Act.put,zA,zB,zC,zD,zE,zF])
      refine tkH (i:=40) (v:=?_) rfl ?_ ?_;rotate_left;focus ((intro w hSw;(try dsimp only at hSw);go_simp);try with_reducible rfl)
      (try simp only [Act.put,zA,zB,zC,zD,zE,zF])
      refine tkH (i:=41) (v:=?_) rfl ?_ ?_;rotate_left;focus ((intro w hSw;(try dsimp only at hSw);go_simp);try with_reducible rfl)
      (try simp only [Act.put,zA,zB,zC,zD,zE,zF])
      refine tkH (i:=42) (v:=?_) rfl ?_ ?_;rotate_left;focus ((intro w hSw;(try dsimp only at hSw);go_simp);try with_reducible rfl)
      (try simp only [Act.put,zA,zB,zC,zD,zE,zF])
      refine tkH (i:=43) (v:=?_) rfl ?_ ?_;rotate_left;focus ((intro w hSw;(try dsimp only at hSw);go_simp);try with_reducible rfl)
      (try simp only [Act.put,zA,zB,zC,zD,zE,zF])
      refine tkH (i:=44) (v:=?_) rfl ?_ ?_;rotate_left;focus ((intro w hSw;(try dsimp only at hSw);go_simp);try with_reducible rfl)
      (try simp only [Act.put,zA,zB,zC,zD,zE,zF])
      refine tkH (i:=45) (v:=?_) rfl ?_ ?_;rotate_left;focus ((intro w hSw;(try dsimp only at hSw);go_simp);try with_reducible rfl)
      (try simp only [Act.put,zA,zB,zC,zD,zE,zF])
      refine wpAnyH_ready (rs:=[46]) (by kernel_rfl) (by simp) ?_
      refine AllReadyH.cons rfl (fun K hK=>?_) AllReadyH.nil
      go_simp
      refine (HIs.out _ ((y : Int)+mo) (hD6.below hbra)).mono ?_
      rintro e wb ⟨rfl,hbb⟩
      have hbrb:=below_step hbra hbb hbra.size
      obtain ⟨q,hq⟩ : ∃ q,(M.any fun (u : Nat)=>((y : Int)+mo) == (u : Int)) = q:=⟨_,rfl⟩
      rw [hq]
      refine hK.out _ _ (HSt.out _ hbrb) (fun hHeld=>?_)
      clear hK K
      (try simp only [Act.put,zA,zB,zC,zD,zE,zF])
      cases q with
      | true =>
       refine tkH (i:=47) (v:=?_) rfl ?_ ?_;rotate_left;focus ((intro w hSw;(try dsimp only at hSw);go_simp);try with_reducible rfl)
       (try simp only [Act.put,zA,zB,zC,zD,zE,zF])
       refine tkH (i:=48) (v:=?_) rfl ?_ ?_;rotate_left;focus ((intro w hSw;(try dsimp only at hSw);go_simp);try with_reducible rfl)
       (try simp only [Act.put,zA,zB,zC,zD,zE,zF])
       refine tkH (i:=49) (v:=?_) rfl ?_ ?_;rotate_left;focus ((intro w hSw;(try dsimp only at hSw);go_simp);try with_reducible rfl)
       (try simp only [Act.put,zA,zB,zC,zD,zE,zF])
       refine wpAnyH_take (i:=50) (v:=undef) rfl (by kernel_rfl) (by kernel_rfl) (by kernel_rfl) (fun _ _ _ h=>h) (Or.inr ⟨by rfl,rfl⟩) (by assumption) ?_
       (try simp only [Act.put,zA,zB,zC,zD,zE,zF])
       refine wpAnyH_take (i:=51) (v:=undef) rfl (by kernel_rfl) (by kernel_rfl) (by kernel_rfl) (fun _ _ _ h=>h) (Or.inr ⟨by rfl,rfl⟩) (by assumption) ?_
       (try simp only [Act.put,zA,zB,zC,zD,zE,zF])
       refine wpAnyH_take (i:=52) (v:=undef) rfl (by kernel_rfl) (by kernel_rfl) (by kernel_rfl) (fun _ _ _ h=>h) (Or.inr ⟨by rfl,rfl⟩) (by assumption) ?_
       (try simp only [Act.put,zA,zB,zC,zD,zE,zF])
       refine wpAnyH_take (i:=53) (v:=undef) rfl (by kernel_rfl) (by kernel_rfl) (by kernel_rfl) (fun _ _ _ h=>h) (Or.inr ⟨by rfl,rfl⟩) (by assumption) ?_
       (try simp only [Act.put,zA,zB,zC,zD,zE,zF])
       refine tkH (i:=54) (v:=?_) rfl ?_ ?_;rotate_left;focus ((intro w hSw;(try dsimp only at hSw);go_simp);try with_reducible rfl)
       (try simp only [Act.put,zA,zB,zC,zD,zE,zF])
       refine tkH (i:=55) (v:=?_) rfl ?_ ?_;rotate_left;focus ((intro w hSw;(try dsimp only at hSw);go_simp);try with_reducible rfl)
       (try simp only [Act.put,zA,zB,zC,zD,zE,zF])
       refine wpAnyH_done (by kernel_rfl) ?_ _
       have HBZ:=Lib.hid hbrb
       clear eym hyz hHeld
       have hLb:=HLb.out
       have hltN:=HLt.out
       go_wp2
       go_roundw
       case rel=>first | exact ⟨i+1,by go_num,by omega,HBZ.out⟩ | exact ⟨i+1,by go_num,by omega⟩ | exact ⟨i+1,(IntWalk.wrap64_in _ (by omega)).trans (by omega),by omega⟩
       case measure=>(try rw [IntWalk.wrap64_in _ (by omega)]);simp [intOf];omega
      | false =>
       have hC0 : (C.size : Int) = 0:=by
        by_cases h0 : C.size = 0
        ·omega
        ·have:=HK2.out i y Hy.out hv h0
         rw [hq] at this
         cases this
       refine tkH (i:=47) (v:=?_) rfl ?_ ?_;rotate_left;focus ((intro w hSw;(try dsimp only at hSw);go_simp);try with_reducible rfl)
       (try simp only [Act.put,zA,zB,zC,zD,zE,zF])
       refine tkH (i:=48) (v:=?_) rfl ?_ ?_;rotate_left;focus ((intro w hSw;(try dsimp only at hSw);go_simp);try with_reducible rfl)
       (try simp only [Act.put,zA,zB,zC,zD,zE,zF])
       refine tkH (i:=49) (v:=?_) rfl ?_ ?_;rotate_left;focus ((intro w hSw;(try dsimp only at hSw);go_simp);try with_reducible rfl)
       (try simp only [Act.put,zA,zB,zC,zD,zE,zF])
       refine tkH (i:=50) (v:=?_) rfl ?_ ?_;rotate_left;focus ((intro w hSw;(try dsimp only at hSw);go_simp);try with_reducible rfl)
       (try simp only [Act.put,zA,zB,zC,zD,zE,zF])
       refine wpAnyH_ready (rs:=[51]) (by kernel_rfl) (by simp) ?_
       refine AllReadyH.cons rfl (fun K hK=>?_) AllReadyH.nil
       go_simp
       refine (HTx.out _ (hD6.below hbrb)).mono ?_
       rintro e wc ⟨rfl,rfl⟩
       refine hK.out _ _ (HSt.out _ hbrb) (fun hHeld=>?_)
       clear hK K
       (try simp only [Act.put,zA,zB,zC,zD,zE,zF])
       refine tkH (i:=52) (v:=?_) rfl ?_ ?_;rotate_left;focus ((intro w hSw;(try dsimp only at hSw);go_simp);try with_reducible rfl)
       (try simp only [Act.put,zA,zB,zC,zD,zE,zF])
       refine tkH (i:=53) (v:=?_) rfl ?_ ?_;rotate_left;focus ((intro w hSw;(try dsimp only at hSw);go_simp);try with_reducible rfl)
       (try simp only [Act.put,zA,zB,zC,zD,zE,zF])
       refine tkH (i:=54) (v:=?_) rfl ?_ ?_;rotate_left;focus ((intro w hSw;(try dsimp only at hSw);go_simp);try with_reducible rfl)
       (try simp only [Act.put,zA,zB,zC,zD,zE,zF])
       refine tkH (i:=55) (v:=?_) rfl ?_ ?_;rotate_left;focus ((intro w hSw;(try dsimp only at hSw);go_simp);try with_reducible rfl)
       (try simp only [Act.put,zA,zB,zC,zD,zE,zF])
       refine wpAnyH_done (by kernel_rfl) ?_ _
       have HBZ:=Lib.hid hbrb
       clear eym hyz hHeld
       have hLb:=HLb.out
       have hltN:=HLt.out
       go_wp2
       go_roundw
       case rel=>first | exact ⟨i+1,by go_num,by omega,HBZ.out⟩ | exact ⟨i+1,by go_num,by omega⟩ | exact ⟨i+1,(IntWalk.wrap64_in _ (by omega)).trans (by omega),by omega⟩
       case measure=>(try rw [IntWalk.wrap64_in _ (by omega)]);simp [intOf];omega
     ·have hvI : ¬ (y : Int) ≥ (V : Int):=by omega
      refine tkH (i:=38) (v:=?_) rfl ?_ ?_;rotate_left;focus ((intro w hSw;(try dsimp only at hSw);go_simp);try with_reducible rfl)
      (try simp only [Act.put,zA,zB,zC,zD,zE,zF])
      refine wpAnyH_take (i:=39) (v:=undef) rfl (by kernel_rfl) (by kernel_rfl) (by kernel_rfl) (fun _ _ _ h=>h) (Or.inr ⟨by rfl,rfl⟩) (by assumption) ?_
      (try simp only [Act.put,zA,zB,zC,zD,zE,zF])
      refine wpAnyH_take (i:=40) (v:=undef) rfl (by kernel_rfl) (by kernel_rfl) (by kernel_rfl) (fun _ _ _ h=>h) (Or.inr ⟨by rfl,rfl⟩) (by assumption) ?_
      (try simp only [Act.put,zA,zB,zC,zD,zE,zF])
      refine wpAnyH_take (i:=41) (v:=undef) rfl (by kernel_rfl) (by kernel_rfl) (by kernel_rfl) (fun _ _ _ h=>h) (Or.inr ⟨by rfl,rfl⟩) (by assumption) ?_
      (try simp only [Act.put,zA,zB,zC,zD,zE,zF])
      refine wpAnyH_take (i:=42) (v:=undef) rfl (by kernel_rfl) (by kernel_rfl) (by kernel_rfl) (fun _ _ _ h=>h) (Or.inr ⟨by rfl,rfl⟩) (by assumption) ?_
      (try simp only [Act.put,zA,zB,zC,zD,zE,zF])
      refine wpAnyH_take (i:=43) (v:=undef) rfl (by kernel_rfl) (by kernel_rfl) (by kernel_rfl) (fun _ _ _ h=>h) (Or.inr ⟨by rfl,rfl⟩) (by assumption) ?_
      (try simp only [Act.put,zA,zB,zC,zD,zE,zF])
      refine wpAnyH_take (i:=44) (v:=undef) rfl (by kernel_rfl) (by kernel_rfl) (by kernel_rfl) (fun _ _ _ h=>h) (Or.inr ⟨by rfl,rfl⟩) (by assumption) ?_
      (try simp only [Act.put,zA,zB,zC,zD,zE,zF])
      refine wpAnyH_take (i:=45) (v:=undef) rfl (by kernel_rfl) (by kernel_rfl) (by kernel_rfl) (fun _ _ _ h=>h) (Or.inr ⟨by rfl,rfl⟩) (by assumption) ?_
      (try simp only [Act.put,zA,zB,zC,zD,zE,zF])
      refine wpAnyH_take (i:=46) (v:=undef) rfl (by kernel_rfl) (by kernel_rfl) (by kernel_rfl) (fun _ _ _ h=>h) (Or.inr ⟨by rfl,rfl⟩) (by assumption) ?_
      (try simp only [Act.put,zA,zB,zC,zD,zE,zF])
      refine wpAnyH_take (i:=47) (v:=undef) rfl (by kernel_rfl) (by kernel_rfl) (by kernel_rfl) (fun _ _ _ h=>h) (Or.inr ⟨by rfl,rfl⟩) (by assumption) ?_
      (try simp only [Act.put,zA,zB,zC,zD,zE,zF])
      refine tkH (i:=48) (v:=?_) rfl ?_ ?_;rotate_left;focus ((intro w hSw;(try dsimp only at hSw);go_simp);try with_reducible rfl)
      (try simp only [Act.put,zA,zB,zC,zD,zE,zF])
      refine tkH (i:=49) (v:=?_) rfl ?_ ?_;rotate_left;focus ((intro w hSw;(try dsimp only at hSw);go_simp);try with_reducible rfl)
      (try simp only [Act.put,zA,zB,zC,zD,zE,zF])
      refine wpAnyH_take (i:=50) (v:=undef) rfl (by kernel_rfl) (by kernel_rfl) (by kernel_rfl) (fun _ _ _ h=>h) (Or.inr ⟨by rfl,rfl⟩) (by assumption) ?_
      (try simp only [Act.put,zA,zB,zC,zD,zE,zF])
      refine wpAnyH_take (i:=51) (v:=undef) rfl (by kernel_rfl) (by kernel_rfl) (by kernel_rfl) (fun _ _ _ h=>h) (Or.inr ⟨by rfl,rfl⟩) (by assumption) ?_
      (try simp only [Act.put,zA,zB,zC,zD,zE,zF])
      refine wpAnyH_take (i:=52) (v:=undef) rfl (by kernel_rfl) (by kernel_rfl) (by kernel_rfl) (fun _ _ _ h=>h) (Or.inr ⟨by rfl,rfl⟩) (by assumption) ?_
      (try simp only [Act.put,zA,zB,zC,zD,zE,zF])
      refine wpAnyH_take (i:=53) (v:=undef) rfl (by kernel_rfl) (by kernel_rfl) (by kernel_rfl) (fun _ _ _ h=>h) (Or.inr ⟨by rfl,rfl⟩) (by assumption) ?_
      (try simp only [Act.put,zA,zB,zC,zD,zE,zF])
      refine tkH (i:=54) (v:=?_) rfl ?_ ?_;rotate_left;focus ((intro w hSw;(try dsimp only at hSw);go_simp);try with_reducible rfl)
      (try simp only [Act.put,zA,zB,zC,zD,zE,zF])
      refine tkH (i:=55) (v:=?_) rfl ?_ ?_;rotate_left;focus ((intro w hSw;(try dsimp only at hSw);go_simp);try with_reducible rfl)
      (try simp only [Act.put,zA,zB,zC,zD,zE,zF])
      refine wpAnyH_done (by kernel_rfl) ?_ _
      have HBZ:=Lib.hid hbra
      clear eym hyz hHeld
      have hLb:=HLb.out
      have hltN:=HLt.out
      go_wp2
      go_roundw
      case rel=>first | exact ⟨i+1,by go_num,by omega,HBZ.out⟩ | exact ⟨i+1,by go_num,by omega⟩ | exact ⟨i+1,(IntWalk.wrap64_in _ (by omega)).trans (by omega),by omega⟩
      case measure=>(try rw [IntWalk.wrap64_in _ (by omega)]);simp [intOf];omega
    have h3I : ¬ (y : Int) > 0:=by omega
    refine tkH (i:=18) (v:=?_) rfl ?_ ?_;rotate_left;focus ((intro w hSw;(try dsimp only at hSw);go_simp);try with_reducible rfl)
    (try simp only [Act.put,zA,zB,zC,zD,zE,zF])
    refine tkH (i:=19) (v:=?_) rfl ?_ ?_;rotate_left;focus ((intro w hSw;(try dsimp only at hSw);go_simp);try with_reducible rfl)
    (try simp only [Act.put,zA,zB,zC,zD,zE,zF])
    refine tkH (i:=20) (v:=?_) rfl ?_ ?_;rotate_left;focus ((intro w hSw;(try dsimp only at hSw);go_simp);try with_reducible rfl)
    (try simp only [Act.put,zA,zB,zC,zD,zE,zF])
    refine tkH (i:=21) (v:=?_) rfl ?_ ?_;rotate_left;focus ((intro w hSw;(try dsimp only at hSw);go_simp);try with_reducible rfl)
    (try simp only [Act.put,zA,zB,zC,zD,zE,zF])
    refine wpAnyH_take (i:=22) (v:=undef) rfl (by kernel_rfl) (by kernel_rfl) (by kernel_rfl) (fun _ _ _ h=>h) (Or.inr ⟨by rfl,rfl⟩) (by assumption) ?_
    (try simp only [Act.put,zA,zB,zC,zD,zE,zF])
    refine wpAnyH_take (i:=23) (v:=undef) rfl (by kernel_rfl) (by kernel_rfl) (by kernel_rfl) (fun _ _ _ h=>h) (Or.inr ⟨by rfl,rfl⟩) (by assumption) ?_
    (try simp only [Act.put,zA,zB,zC,zD,zE,zF])
    refine wpAnyH_take (i:=24) (v:=undef) rfl (by kernel_rfl) (by kernel_rfl) (by kernel_rfl) (fun _ _ _ h=>h) (Or.inr ⟨by rfl,rfl⟩) (by assumption) ?_
    (try simp only [Act.put,zA,zB,zC,zD,zE,zF])
    refine wpAnyH_take (i:=25) (v:=undef) rfl (by kernel_rfl) (by kernel_rfl) (by kernel_rfl) (fun _ _ _ h=>h) (Or.inr ⟨by rfl,rfl⟩) (by assumption) ?_
    (try simp only [Act.put,zA,zB,zC,zD,zE,zF])
    refine wpAnyH_take (i:=26) (v:=undef) rfl (by kernel_rfl) (by kernel_rfl) (by kernel_rfl) (fun _ _ _ h=>h) (Or.inr ⟨by rfl,rfl⟩) (by assumption) ?_
    (try simp only [Act.put,zA,zB,zC,zD,zE,zF])
    refine wpAnyH_take (i:=27) (v:=undef) rfl (by kernel_rfl) (by kernel_rfl) (by kernel_rfl) (fun _ _ _ h=>h) (Or.inr ⟨by rfl,rfl⟩) (by assumption) ?_
    (try simp only [Act.put,zA,zB,zC,zD,zE,zF])
    refine wpAnyH_take (i:=28) (v:=undef) rfl (by kernel_rfl) (by kernel_rfl) (by kernel_rfl) (fun _ _ _ h=>h) (Or.inr ⟨by rfl,rfl⟩) (by assumption) ?_
    (try simp only [Act.put,zA,zB,zC,zD,zE,zF])
    refine tkH (i:=29) (v:=?_) rfl ?_ ?_;rotate_left;focus ((intro w hSw;(try dsimp only at hSw);go_simp);try with_reducible rfl)
    (try simp only [Act.put,zA,zB,zC,zD,zE,zF])
    refine tkH (i:=30) (v:=?_) rfl ?_ ?_;rotate_left;focus ((intro w hSw;(try dsimp only at hSw);go_simp);try with_reducible rfl)
    (try simp only [Act.put,zA,zB,zC,zD,zE,zF])
    refine tkH (i:=31) (v:=?_) rfl ?_ ?_;rotate_left;focus ((intro w hSw;(try dsimp only at hSw);go_simp);try with_reducible rfl)
    (try simp only [Act.put,zA,zB,zC,zD,zE,zF])
    refine tkH (i:=32) (v:=?_) rfl ?_ ?_;rotate_left;focus ((intro w hSw;(try dsimp only at hSw);go_simp);try with_reducible rfl)
    (try simp only [Act.put,zA,zB,zC,zD,zE,zF])
    refine tkH (i:=33) (v:=?_) rfl ?_ ?_;rotate_left;focus ((intro w hSw;(try dsimp only at hSw);go_simp);try with_reducible rfl)
    (try simp only [Act.put,zA,zB,zC,zD,zE,zF])
    refine tkH (i:=34) (v:=?_) rfl ?_ ?_;rotate_left;focus ((intro w hSw;(try dsimp only at hSw);go_simp);try with_reducible rfl)
    (try simp only [Act.put,zA,zB,zC,zD,zE,zF])
    refine tkH (i:=35) (v:=?_) rfl ?_ ?_;rotate_left;focus ((intro w hSw;(try dsimp only at hSw);go_simp);try with_reducible rfl)
    (try simp only [Act.put,zA,zB,zC,zD,zE,zF])
    refine tkH (i:=36) (v:=?_) rfl ?_ ?_;rotate_left;focus ((intro w hSw;(try dsimp only at hSw);go_simp);try with_reducible rfl)
    (try simp only [Act.put,zA,zB,zC,zD,zE,zF])
    refine tkH (i:=37) (v:=?_) rfl ?_ ?_;rotate_left;focus ((intro w hSw;(try dsimp only at hSw);go_simp);try with_reducible rfl)
    (try simp only [Act.put,zA,zB,zC,zD,zE,zF])
    by_cases hv : V≤y
    ·have hvI : (y : Int) ≥ (V : Int):=by omega
     refine tkH (i:=38) (v:=?_) rfl ?_ ?_;rotate_left;focus ((intro w hSw;(try dsimp only at hSw);go_simp);try with_reducible rfl)
     (try simp only [Act.put,zA,zB,zC,zD,zE,zF])
     refine tkH (i:=39) (v:=?_) rfl ?_ ?_;rotate_left;focus ((intro w hSw;(try dsimp only at hSw);go_simp);try with_reducible rfl)
     (try simp only [Act.put,zA,zB,zC,zD,zE,zF])
     refine tkH (i:=40) (v:=?_) rfl ?_ ?_;rotate_left;focus ((intro w hSw;(try dsimp only at hSw);go_simp);try with_reducible rfl)
     (try simp only [Act.put,zA,zB,zC,zD,zE,zF])
     refine tkH (i:=41) (v:=?_) rfl ?_ ?_;rotate_left;focus ((intro w hSw;(try dsimp only at hSw);go_simp);try with_reducible rfl)
     (try simp only [Act.put,zA,zB,zC,zD,zE,zF])
     refine tkH (i:=42) (v:=?_) rfl ?_ ?_;rotate_left;focus ((intro w hSw;(try dsimp only at hSw);go_simp);try with_reducible rfl)
     (try simp only [Act.put,zA,zB,zC,zD,zE,zF])
     refine tkH (i:=43) (v:=?_) rfl ?_ ?_;rotate_left;focus ((intro w hSw;(try dsimp only at hSw);go_simp);try with_reducible rfl)
     (try simp only [Act.put,zA,zB,zC,zD,zE,zF])
     refine tkH (i:=44) (v:=?_) rfl ?_ ?_;rotate_left;focus ((intro w hSw;(try dsimp only at hSw);go_simp);try with_reducible rfl)
     (try simp only [Act.put,zA,zB,zC,zD,zE,zF])
     refine tkH (i:=45) (v:=?_) rfl ?_ ?_;rotate_left;focus ((intro w hSw;(try dsimp only at hSw);go_simp);try with_reducible rfl)
     (try simp only [Act.put,zA,zB,zC,zD,zE,zF])
     refine wpAnyH_ready (rs:=[46]) (by kernel_rfl) (by simp) ?_
     refine AllReadyH.cons rfl (fun K hK=>?_) AllReadyH.nil
     go_simp
     refine (HIs.out _ ((y : Int)+mo) (hD6.below hbr1)).mono ?_
     rintro e wb ⟨rfl,hbb⟩
     have hbrb:=below_step hbr1 hbb hbr1.size
     obtain ⟨q,hq⟩ : ∃ q,(M.any fun (u : Nat)=>((y : Int)+mo) == (u : Int)) = q:=⟨_,rfl⟩
     rw [hq]
     refine hK.out _ _ (HSt.out _ hbrb) (fun hHeld=>?_)
     clear hK K
     (try simp only [Act.put,zA,zB,zC,zD,zE,zF])
     cases q with
     | true =>
      refine tkH (i:=47) (v:=?_) rfl ?_ ?_;rotate_left;focus ((intro w hSw;(try dsimp only at hSw);go_simp);try with_reducible rfl)
      (try simp only [Act.put,zA,zB,zC,zD,zE,zF])
      refine tkH (i:=48) (v:=?_) rfl ?_ ?_;rotate_left;focus ((intro w hSw;(try dsimp only at hSw);go_simp);try with_reducible rfl)
      (try simp only [Act.put,zA,zB,zC,zD,zE,zF])
      refine tkH (i:=49) (v:=?_) rfl ?_ ?_;rotate_left;focus ((intro w hSw;(try dsimp only at hSw);go_simp);try with_reducible rfl)
      (try simp only [Act.put,zA,zB,zC,zD,zE,zF])
      refine wpAnyH_take (i:=50) (v:=undef) rfl (by kernel_rfl) (by kernel_rfl) (by kernel_rfl) (fun _ _ _ h=>h) (Or.inr ⟨by rfl,rfl⟩) (by assumption) ?_
      (try simp only [Act.put,zA,zB,zC,zD,zE,zF])
      refine wpAnyH_take (i:=51) (v:=undef) rfl (by kernel_rfl) (by kernel_rfl) (by kernel_rfl) (fun _ _ _ h=>h) (Or.inr ⟨by rfl,rfl⟩) (by assumption) ?_
      (try simp only [Act.put,zA,zB,zC,zD,zE,zF])
      refine wpAnyH_take (i:=52) (v:=undef) rfl (by kernel_rfl) (by kernel_rfl) (by kernel_rfl) (fun _ _ _ h=>h) (Or.inr ⟨by rfl,rfl⟩) (by assumption) ?_
      (try simp only [Act.put,zA,zB,zC,zD,zE,zF])
      refine wpAnyH_take (i:=53) (v:=undef) rfl (by kernel_rfl) (by kernel_rfl) (by kernel_rfl) (fun _ _ _ h=>h) (Or.inr ⟨by rfl,rfl⟩) (by assumption) ?_
      (try simp only [Act.put,zA,zB,zC,zD,zE,zF])
      refine tkH (i:=54) (v:=?_) rfl ?_ ?_;rotate_left;focus ((intro w hSw;(try dsimp only at hSw);go_simp);try with_reducible rfl)
      (try simp only [Act.put,zA,zB,zC,zD,zE,zF])
      refine tkH (i:=55) (v:=?_) rfl ?_ ?_;rotate_left;focus ((intro w hSw;(try dsimp only at hSw);go_simp);try with_reducible rfl)
      (try simp only [Act.put,zA,zB,zC,zD,zE,zF])
      refine wpAnyH_done (by kernel_rfl) ?_ _
      have HBZ:=Lib.hid hbrb
      clear eym hyz hHeld
      have hLb:=HLb.out
      have hltN:=HLt.out
      go_wp2
      go_roundw
      case rel=>first | exact ⟨i+1,by go_num,by omega,HBZ.out⟩ | exact ⟨i+1,by go_num,by omega⟩ | exact ⟨i+1,(IntWalk.wrap64_in _ (by omega)).trans (by omega),by omega⟩
      case measure=>(try rw [IntWalk.wrap64_in _ (by omega)]);simp [intOf];omega
     | false =>
      have hC0 : (C.size : Int) = 0:=by
       by_cases h0 : C.size = 0
       ·omega
       ·have:=HK2.out i y Hy.out hv h0
        rw [hq] at this
        cases this
      refine tkH (i:=47) (v:=?_) rfl ?_ ?_;rotate_left;focus ((intro w hSw;(try dsimp only at hSw);go_simp);try with_reducible rfl)
      (try simp only [Act.put,zA,zB,zC,zD,zE,zF])
      refine tkH (i:=48) (v:=?_) rfl ?_ ?_;rotate_left;focus ((intro w hSw;(try dsimp only at hSw);go_simp);try with_reducible rfl)
      (try simp only [Act.put,zA,zB,zC,zD,zE,zF])
      refine tkH (i:=49) (v:=?_) rfl ?_ ?_;rotate_left;focus ((intro w hSw;(try dsimp only at hSw);go_simp);try with_reducible rfl)
      (try simp only [Act.put,zA,zB,zC,zD,zE,zF])
      refine tkH (i:=50) (v:=?_) rfl ?_ ?_;rotate_left;focus ((intro w hSw;(try dsimp only at hSw);go_simp);try with_reducible rfl)
      (try simp only [Act.put,zA,zB,zC,zD,zE,zF])
      refine wpAnyH_ready (rs:=[51]) (by kernel_rfl) (by simp) ?_
      refine AllReadyH.cons rfl (fun K hK=>?_) AllReadyH.nil
      go_simp
      refine (HTx.out _ (hD6.below hbrb)).mono ?_
      rintro e wc ⟨rfl,rfl⟩
      refine hK.out _ _ (HSt.out _ hbrb) (fun hHeld=>?_)
      clear hK K
      (try simp only [Act.put,zA,zB,zC,zD,zE,zF])
      refine tkH (i:=52) (v:=?_) rfl ?_ ?_;rotate_left;focus ((intro w hSw;(try dsimp only at hSw);go_simp);try with_reducible rfl)
      (try simp only [Act.put,zA,zB,zC,zD,zE,zF])
      refine tkH (i:=53) (v:=?_) rfl ?_ ?_;rotate_left;focus ((intro w hSw;(try dsimp only at hSw);go_simp);try with_reducible rfl)
      (try simp only [Act.put,zA,zB,zC,zD,zE,zF])
      refine tkH (i:=54) (v:=?_) rfl ?_ ?_;rotate_left;focus ((intro w hSw;(try dsimp only at hSw);go_simp);try with_reducible rfl)
      (try simp only [Act.put,zA,zB,zC,zD,zE,zF])
      refine tkH (i:=55) (v:=?_) rfl ?_ ?_;rotate_left;focus ((intro w hSw;(try dsimp only at hSw);go_simp);try with_reducible rfl)
      (try simp only [Act.put,zA,zB,zC,zD,zE,zF])
      refine wpAnyH_done (by kernel_rfl) ?_ _
      have HBZ:=Lib.hid hbrb
      clear eym hyz hHeld
      have hLb:=HLb.out
      have hltN:=HLt.out
      go_wp2
      go_roundw
      case rel=>first | exact ⟨i+1,by go_num,by omega,HBZ.out⟩ | exact ⟨i+1,by go_num,by omega⟩ | exact ⟨i+1,(IntWalk.wrap64_in _ (by omega)).trans (by omega),by omega⟩
      case measure=>(try rw [IntWalk.wrap64_in _ (by omega)]);simp [intOf];omega
    ·have hvI : ¬ (y : Int) ≥ (V : Int):=by omega
     refine tkH (i:=38) (v:=?_) rfl ?_ ?_;rotate_left;focus ((intro w hSw;(try dsimp only at hSw);go_simp);try with_reducible rfl)
     (try simp only [Act.put,zA,zB,zC,zD,zE,zF])
     refine wpAnyH_take (i:=39) (v:=undef) rfl (by kernel_rfl) (by kernel_rfl) (by kernel_rfl) (fun _ _ _ h=>h) (Or.inr ⟨by rfl,rfl⟩) (by assumption) ?_
     (try simp only [Act.put,zA,zB,zC,zD,zE,zF])
     refine wpAnyH_take (i:=40) (v:=undef) rfl (by kernel_rfl) (by kernel_rfl) (by kernel_rfl) (fun _ _ _ h=>h) (Or.inr ⟨by rfl,rfl⟩) (by assumption) ?_
     (try simp only [Act.put,zA,zB,zC,zD,zE,zF])
     refine wpAnyH_take (i:=41) (v:=undef) rfl (by kernel_rfl) (by kernel_rfl) (by kernel_rfl) (fun _ _ _ h=>h) (Or.inr ⟨by rfl,rfl⟩) (by assumption) ?_
     (try simp only [Act.put,zA,zB,zC,zD,zE,zF])
     refine wpAnyH_take (i:=42) (v:=undef) rfl (by kernel_rfl) (by kernel_rfl) (by kernel_rfl) (fun _ _ _ h=>h) (Or.inr ⟨by rfl,rfl⟩) (by assumption) ?_
     (try simp only [Act.put,zA,zB,zC,zD,zE,zF])
     refine wpAnyH_take (i:=43) (v:=undef) rfl (by kernel_rfl) (by kernel_rfl) (by kernel_rfl) (fun _ _ _ h=>h) (Or.inr ⟨by rfl,rfl⟩) (by assumption) ?_
     (try simp only [Act.put,zA,zB,zC,zD,zE,zF])
     refine wpAnyH_take (i:=44) (v:=undef) rfl (by kernel_rfl) (by kernel_rfl) (by kernel_rfl) (fun _ _ _ h=>h) (Or.inr ⟨by rfl,rfl⟩) (by assumption) ?_
     (try simp only [Act.put,zA,zB,zC,zD,zE,zF])
     refine wpAnyH_take (i:=45) (v:=undef) rfl (by kernel_rfl) (by kernel_rfl) (by kernel_rfl) (fun _ _ _ h=>h) (Or.inr ⟨by rfl,rfl⟩) (by assumption) ?_
     (try simp only [Act.put,zA,zB,zC,zD,zE,zF])
     refine wpAnyH_take (i:=46) (v:=undef) rfl (by kernel_rfl) (by kernel_rfl) (by kernel_rfl) (fun _ _ _ h=>h) (Or.inr ⟨by rfl,rfl⟩) (by assumption) ?_
     (try simp only [Act.put,zA,zB,zC,zD,zE,zF])
     refine wpAnyH_take (i:=47) (v:=undef) rfl (by kernel_rfl) (by kernel_rfl) (by kernel_rfl) (fun _ _ _ h=>h) (Or.inr ⟨by rfl,rfl⟩) (by assumption) ?_
     (try simp only [Act.put,zA,zB,zC,zD,zE,zF])
     refine tkH (i:=48) (v:=?_) rfl ?_ ?_;rotate_left;focus ((intro w hSw;(try dsimp only at hSw);go_simp);try with_reducible rfl)
     (try simp only [Act.put,zA,zB,zC,zD,zE,zF])
     refine tkH (i:=49) (v:=?_) rfl ?_ ?_;rotate_left;focus ((intro w hSw;(try dsimp only at hSw);go_simp);try with_reducible rfl)
     (try simp only [Act.put,zA,zB,zC,zD,zE,zF])
     refine wpAnyH_take (i:=50) (v:=undef) rfl (by kernel_rfl) (by kernel_rfl) (by kernel_rfl) (fun _ _ _ h=>h) (Or.inr ⟨by rfl,rfl⟩) (by assumption) ?_
     (try simp only [Act.put,zA,zB,zC,zD,zE,zF])
     refine wpAnyH_take (i:=51) (v:=undef) rfl (by kernel_rfl) (by kernel_rfl) (by kernel_rfl) (fun _ _ _ h=>h) (Or.inr ⟨by rfl,rfl⟩) (by assumption) ?_
     (try simp only [Act.put,zA,zB,zC,zD,zE,zF])
     refine wpAnyH_take (i:=52) (v:=undef) rfl (by kernel_rfl) (by kernel_rfl) (by kernel_rfl) (fun _ _ _ h=>h) (Or.inr ⟨by rfl,rfl⟩) (by assumption) ?_
     (try simp only [Act.put,zA,zB,zC,zD,zE,zF])
     refine wpAnyH_take (i:=53) (v:=undef) rfl (by kernel_rfl) (by kernel_rfl) (by kernel_rfl) (fun _ _ _ h=>h) (Or.inr ⟨by rfl,rfl⟩) (by assumption) ?_
     (try simp only [Act.put,zA,zB,zC,zD,zE,zF])
     refine tkH (i:=54) (v:=?_) rfl ?_ ?_;rotate_left;focus ((intro w hSw;(try dsimp only at hSw);go_simp);try with_reducible rfl)
     (try simp only [Act.put,zA,zB,zC,zD,zE,zF])
     refine tkH (i:=55) (v:=?_) rfl ?_ ?_;rotate_left;focus ((intro w hSw;(try dsimp only at hSw);go_simp);try with_reducible rfl)
     (try simp only [Act.put,zA,zB,zC,zD,zE,zF])
     refine wpAnyH_done (by kernel_rfl) ?_ _
     have HBZ:=Lib.hid hbr1
     clear eym hyz hHeld
     have hLb:=HLb.out
     have hltN:=HLt.out
     go_wp2
     go_roundw
     case rel=>first | exact ⟨i+1,by go_num,by omega,HBZ.out⟩ | exact ⟨i+1,by go_num,by omega⟩ | exact ⟨i+1,(IntWalk.wrap64_in _ (by omega)).trans (by omega),by omega⟩
     case measure=>(try rw [IntWalk.wrap64_in _ (by omega)]);simp [intOf];omega
   have h2I : ((y : Int) == (F : Int)) = false:=beq_eq_false_iff_ne.2 (by omega)
   refine tkH (i:=14) (v:=?_) rfl ?_ ?_;rotate_left;focus ((intro w hSw;(try dsimp only at hSw);go_simp);try with_reducible rfl)
   (try simp only [Act.put,zA,zB,zC,zD,zE,zF])
   refine tkH (i:=15) (v:=?_) rfl ?_ ?_;rotate_left;focus ((intro w hSw;(try dsimp only at hSw);go_simp);try with_reducible rfl)
   (try simp only [Act.put,zA,zB,zC,zD,zE,zF])
   refine wpAnyH_take (i:=16) (v:=undef) rfl (by kernel_rfl) (by kernel_rfl) (by kernel_rfl) (fun _ _ _ h=>h) (Or.inr ⟨by rfl,rfl⟩) (by assumption) ?_
   (try simp only [Act.put,zA,zB,zC,zD,zE,zF])
   refine wpAnyH_take (i:=17) (v:=undef) rfl (by kernel_rfl) (by kernel_rfl) (by kernel_rfl) (fun _ _ _ h=>h) (Or.inr ⟨by rfl,rfl⟩) (by assumption) ?_
   (try simp only [Act.put,zA,zB,zC,zD,zE,zF])
   refine wpAnyH_take (i:=18) (v:=undef) rfl (by kernel_rfl) (by kernel_rfl) (by kernel_rfl) (fun _ _ _ h=>h) (Or.inr ⟨by rfl,rfl⟩) (by assumption) ?_
   (try simp only [Act.put,zA,zB,zC,zD,zE,zF])
   refine tkH (i:=19) (v:=?_) rfl ?_ ?_;rotate_left;focus ((intro w hSw;(try dsimp only at hSw);go_simp);try with_reducible rfl)
   (try simp only [Act.put,zA,zB,zC,zD,zE,zF])
   refine tkH (i:=20) (v:=?_) rfl ?_ ?_;rotate_left;focus ((intro w hSw;(try dsimp only at hSw);go_simp);try with_reducible rfl)
   (try simp only [Act.put,zA,zB,zC,zD,zE,zF])
   refine tkH (i:=21) (v:=?_) rfl ?_ ?_;rotate_left;focus ((intro w hSw;(try dsimp only at hSw);go_simp);try with_reducible rfl)
   (try simp only [Act.put,zA,zB,zC,zD,zE,zF])
   refine wpAnyH_take (i:=22) (v:=undef) rfl (by kernel_rfl) (by kernel_rfl) (by kernel_rfl) (fun _ _ _ h=>h) (Or.inr ⟨by rfl,rfl⟩) (by assumption) ?_
   (try simp only [Act.put,zA,zB,zC,zD,zE,zF])
   refine wpAnyH_take (i:=23) (v:=undef) rfl (by kernel_rfl) (by kernel_rfl) (by kernel_rfl) (fun _ _ _ h=>h) (Or.inr ⟨by rfl,rfl⟩) (by assumption) ?_
   (try simp only [Act.put,zA,zB,zC,zD,zE,zF])
   refine wpAnyH_take (i:=24) (v:=undef) rfl (by kernel_rfl) (by kernel_rfl) (by kernel_rfl) (fun _ _ _ h=>h) (Or.inr ⟨by rfl,rfl⟩) (by assumption) ?_
   (try simp only [Act.put,zA,zB,zC,zD,zE,zF])
   refine wpAnyH_take (i:=25) (v:=undef) rfl (by kernel_rfl) (by kernel_rfl) (by kernel_rfl) (fun _ _ _ h=>h) (Or.inr ⟨by rfl,rfl⟩) (by assumption) ?_
   (try simp only [Act.put,zA,zB,zC,zD,zE,zF])
   refine wpAnyH_take (i:=26) (v:=undef) rfl (by kernel_rfl) (by kernel_rfl) (by kernel_rfl) (fun _ _ _ h=>h) (Or.inr ⟨by rfl,rfl⟩) (by assumption) ?_
   (try simp only [Act.put,zA,zB,zC,zD,zE,zF])
   refine wpAnyH_take (i:=27) (v:=undef) rfl (by kernel_rfl) (by kernel_rfl) (by kernel_rfl) (fun _ _ _ h=>h) (Or.inr ⟨by rfl,rfl⟩) (by assumption) ?_
   (try simp only [Act.put,zA,zB,zC,zD,zE,zF])
   refine wpAnyH_take (i:=28) (v:=undef) rfl (by kernel_rfl) (by kernel_rfl) (by kernel_rfl) (fun _ _ _ h=>h) (Or.inr ⟨by rfl,rfl⟩) (by assumption) ?_
   (try simp only [Act.put,zA,zB,zC,zD,zE,zF])
   refine tkH (i:=29) (v:=?_) rfl ?_ ?_;rotate_left;focus ((intro w hSw;(try dsimp only at hSw);go_simp);try with_reducible rfl)
   (try simp only [Act.put,zA,zB,zC,zD,zE,zF])
   refine tkH (i:=30) (v:=?_) rfl ?_ ?_;rotate_left;focus ((intro w hSw;(try dsimp only at hSw);go_simp);try with_reducible rfl)
   (try simp only [Act.put,zA,zB,zC,zD,zE,zF])
   refine tkH (i:=31) (v:=?_) rfl ?_ ?_;rotate_left;focus ((intro w hSw;(try dsimp only at hSw);go_simp);try with_reducible rfl)
   (try simp only [Act.put,zA,zB,zC,zD,zE,zF])
   refine tkH (i:=32) (v:=?_) rfl ?_ ?_;rotate_left;focus ((intro w hSw;(try dsimp only at hSw);go_simp);try with_reducible rfl)
   (try simp only [Act.put,zA,zB,zC,zD,zE,zF])
   refine tkH (i:=33) (v:=?_) rfl ?_ ?_;rotate_left;focus ((intro w hSw;(try dsimp only at hSw);go_simp);try with_reducible rfl)
   (try simp only [Act.put,zA,zB,zC,zD,zE,zF])
   refine tkH (i:=34) (v:=?_) rfl ?_ ?_;rotate_left;focus ((intro w hSw;(try dsimp only at hSw);go_simp);try with_reducible rfl)
   (try simp only [Act.put,zA,zB,zC,zD,zE,zF])
   refine tkH (i:=35) (v:=?_) rfl ?_ ?_;rotate_left;focus ((intro w hSw;(try dsimp only at hSw);go_simp);try with_reducible rfl)
   (try simp only [Act.put,zA,zB,zC,zD,zE,zF])
   refine tkH (i:=36) (v:=?_) rfl ?_ ?_;rotate_left;focus ((intro w hSw;(try dsimp only at hSw);go_simp);try with_reducible rfl)
   (try simp only [Act.put,zA,zB,zC,zD,zE,zF])
   refine tkH (i:=37) (v:=?_) rfl ?_ ?_;rotate_left;focus ((intro w hSw;(try dsimp only at hSw);go_simp);try with_reducible rfl)
   (try simp only [Act.put,zA,zB,zC,zD,zE,zF])
   by_cases hv : V≤y
   ·have hvI : (y : Int) ≥ (V : Int):=by omega
    refine tkH (i:=38) (v:=?_) rfl ?_ ?_;rotate_left;focus ((intro w hSw;(try dsimp only at hSw);go_simp);try with_reducible rfl)
    (try simp only [Act.put,zA,zB,zC,zD,zE,zF])
    refine tkH (i:=39) (v:=?_) rfl ?_ ?_;rotate_left;focus ((intro w hSw;(try dsimp only at hSw);go_simp);try with_reducible rfl)
    (try simp only [Act.put,zA,zB,zC,zD,zE,zF])
    refine tkH (i:=40) (v:=?_) rfl ?_ ?_;rotate_left;focus ((intro w hSw;(try dsimp only at hSw);go_simp);try with_reducible rfl)
    (try simp only [Act.put,zA,zB,zC,zD,zE,zF])
    refine tkH (i:=41) (v:=?_) rfl ?_ ?_;rotate_left;focus ((intro w hSw;(try dsimp only at hSw);go_simp);try with_reducible rfl)
    (try simp only [Act.put,zA,zB,zC,zD,zE,zF])
    refine tkH (i:=42) (v:=?_) rfl ?_ ?_;rotate_left;focus ((intro w hSw;(try dsimp only at hSw);go_simp);try with_reducible rfl)
    (try simp only [Act.put,zA,zB,zC,zD,zE,zF])
    refine tkH (i:=43) (v:=?_) rfl ?_ ?_;rotate_left;focus ((intro w hSw;(try dsimp only at hSw);go_simp);try with_reducible rfl)
    (try simp only [Act.put,zA,zB,zC,zD,zE,zF])
    refine tkH (i:=44) (v:=?_) rfl ?_ ?_;rotate_left;focus ((intro w hSw;(try dsimp only at hSw);go_simp);try with_reducible rfl)
    (try simp only [Act.put,zA,zB,zC,zD,zE,zF])
    refine tkH (i:=45) (v:=?_) rfl ?_ ?_;rotate_left;focus ((intro w hSw;(try dsimp only at hSw);go_simp);try with_reducible rfl)
    (try simp only [Act.put,zA,zB,zC,zD,zE,zF])
    refine wpAnyH_ready (rs:=[46]) (by kernel_rfl) (by simp) ?_
    refine AllReadyH.cons rfl (fun K hK=>?_) AllReadyH.nil
    go_simp
    refine (HIs.out _ ((y : Int)+mo) (hD6.below hbr1)).mono ?_
    rintro e wb ⟨rfl,hbb⟩
    have hbrb:=below_step hbr1 hbb hbr1.size
    obtain ⟨q,hq⟩ : ∃ q,(M.any fun (u : Nat)=>((y : Int)+mo) == (u : Int)) = q:=⟨_,rfl⟩
    rw [hq]
    refine hK.out _ _ (HSt.out _ hbrb) (fun hHeld=>?_)
    clear hK K
    (try simp only [Act.put,zA,zB,zC,zD,zE,zF])
    cases q with
    | true =>
     refine tkH (i:=47) (v:=?_) rfl ?_ ?_;rotate_left;focus ((intro w hSw;(try dsimp only at hSw);go_simp);try with_reducible rfl)
     (try simp only [Act.put,zA,zB,zC,zD,zE,zF])
     refine tkH (i:=48) (v:=?_) rfl ?_ ?_;rotate_left;focus ((intro w hSw;(try dsimp only at hSw);go_simp);try with_reducible rfl)
     (try simp only [Act.put,zA,zB,zC,zD,zE,zF])
     refine tkH (i:=49) (v:=?_) rfl ?_ ?_;rotate_left;focus ((intro w hSw;(try dsimp only at hSw);go_simp);try with_reducible rfl)
     (try simp only [Act.put,zA,zB,zC,zD,zE,zF])
     refine wpAnyH_take (i:=50) (v:=undef) rfl (by kernel_rfl) (by kernel_rfl) (by kernel_rfl) (fun _ _ _ h=>h) (Or.inr ⟨by rfl,rfl⟩) (by assumption) ?_
     (try simp only [Act.put,zA,zB,zC,zD,zE,zF])
     refine wpAnyH_take (i:=51) (v:=undef) rfl (by kernel_rfl) (by kernel_rfl) (by kernel_rfl) (fun _ _ _ h=>h) (Or.inr ⟨by rfl,rfl⟩) (by assumption) ?_
     (try simp only [Act.put,zA,zB,zC,zD,zE,zF])
     refine wpAnyH_take (i:=52) (v:=undef) rfl (by kernel_rfl) (by kernel_rfl) (by kernel_rfl) (fun _ _ _ h=>h) (Or.inr ⟨by rfl,rfl⟩) (by assumption) ?_
     (try simp only [Act.put,zA,zB,zC,zD,zE,zF])
     refine wpAnyH_take (i:=53) (v:=undef) rfl (by kernel_rfl) (by kernel_rfl) (by kernel_rfl) (fun _ _ _ h=>h) (Or.inr ⟨by rfl,rfl⟩) (by assumption) ?_
     (try simp only [Act.put,zA,zB,zC,zD,zE,zF])
     refine tkH (i:=54) (v:=?_) rfl ?_ ?_;rotate_left;focus ((intro w hSw;(try dsimp only at hSw);go_simp);try with_reducible rfl)
     (try simp only [Act.put,zA,zB,zC,zD,zE,zF])
     refine tkH (i:=55) (v:=?_) rfl ?_ ?_;rotate_left;focus ((intro w hSw;(try dsimp only at hSw);go_simp);try with_reducible rfl)
     (try simp only [Act.put,zA,zB,zC,zD,zE,zF])
     refine wpAnyH_done (by kernel_rfl) ?_ _
     have HBZ:=Lib.hid hbrb
     clear eym hyz hHeld
     have hLb:=HLb.out
     have hltN:=HLt.out
     go_wp2
     go_roundw
     case rel=>first | exact ⟨i+1,by go_num,by omega,HBZ.out⟩ | exact ⟨i+1,by go_num,by omega⟩ | exact ⟨i+1,(IntWalk.wrap64_in _ (by omega)).trans (by omega),by omega⟩
     case measure=>(try rw [IntWalk.wrap64_in _ (by omega)]);simp [intOf];omega
    | false =>
     have hC0 : (C.size : Int) = 0:=by
      by_cases h0 : C.size = 0
      ·omega
      ·have:=HK2.out i y Hy.out hv h0
       rw [hq] at this
       cases this
     refine tkH (i:=47) (v:=?_) rfl ?_ ?_;rotate_left;focus ((intro w hSw;(try dsimp only at hSw);go_simp);try with_reducible rfl)
     (try simp only [Act.put,zA,zB,zC,zD,zE,zF])
     refine tkH (i:=48) (v:=?_) rfl ?_ ?_;rotate_left;focus ((intro w hSw;(try dsimp only at hSw);go_simp);try with_reducible rfl)
     (try simp only [Act.put,zA,zB,zC,zD,zE,zF])
     refine tkH (i:=49) (v:=?_) rfl ?_ ?_;rotate_left;focus ((intro w hSw;(try dsimp only at hSw);go_simp);try with_reducible rfl)
     (try simp only [Act.put,zA,zB,zC,zD,zE,zF])
     refine tkH (i:=50) (v:=?_) rfl ?_ ?_;rotate_left;focus ((intro w hSw;(try dsimp only at hSw);go_simp);try with_reducible rfl)
     (try simp only [Act.put,zA,zB,zC,zD,zE,zF])
     refine wpAnyH_ready (rs:=[51]) (by kernel_rfl) (by simp) ?_
     refine AllReadyH.cons rfl (fun K hK=>?_) AllReadyH.nil
     go_simp
     refine (HTx.out _ (hD6.below hbrb)).mono ?_
     rintro e wc ⟨rfl,rfl⟩
     refine hK.out _ _ (HSt.out _ hbrb) (fun hHeld=>?_)
     clear hK K
     (try simp only [Act.put,zA,zB,zC,zD,zE,zF])
     refine tkH (i:=52) (v:=?_) rfl ?_ ?_;rotate_left;focus ((intro w hSw;(try dsimp only at hSw);go_simp);try with_reducible rfl)
     (try simp only [Act.put,zA,zB,zC,zD,zE,zF])
     refine tkH (i:=53) (v:=?_) rfl ?_ ?_;rotate_left;focus ((intro w hSw;(try dsimp only at hSw);go_simp);try with_reducible rfl)
     (try simp only [Act.put,zA,zB,zC,zD,zE,zF])
     refine tkH (i:=54) (v:=?_) rfl ?_ ?_;rotate_left;focus ((intro w hSw;(try dsimp only at hSw);go_simp);try with_reducible rfl)
     (try simp only [Act.put,zA,zB,zC,zD,zE,zF])
     refine tkH (i:=55) (v:=?_) rfl ?_ ?_;rotate_left;focus ((intro w hSw;(try dsimp only at hSw);go_simp);try with_reducible rfl)
     (try simp only [Act.put,zA,zB,zC,zD,zE,zF])
     refine wpAnyH_done (by kernel_rfl) ?_ _
     have HBZ:=Lib.hid hbrb
     clear eym hyz hHeld
     have hLb:=HLb.out
     have hltN:=HLt.out
     go_wp2
     go_roundw
     case rel=>first | exact ⟨i+1,by go_num,by omega,HBZ.out⟩ | exact ⟨i+1,by go_num,by omega⟩ | exact ⟨i+1,(IntWalk.wrap64_in _ (by omega)).trans (by omega),by omega⟩
     case measure=>(try rw [IntWalk.wrap64_in _ (by omega)]);simp [intOf];omega
   ·have hvI : ¬ (y : Int) ≥ (V : Int):=by omega
    refine tkH (i:=38) (v:=?_) rfl ?_ ?_;rotate_left;focus ((intro w hSw;(try dsimp only at hSw);go_simp);try with_reducible rfl)
    (try simp only [Act.put,zA,zB,zC,zD,zE,zF])
    refine wpAnyH_take (i:=39) (v:=undef) rfl (by kernel_rfl) (by kernel_rfl) (by kernel_rfl) (fun _ _ _ h=>h) (Or.inr ⟨by rfl,rfl⟩) (by assumption) ?_
    (try simp only [Act.put,zA,zB,zC,zD,zE,zF])
    refine wpAnyH_take (i:=40) (v:=undef) rfl (by kernel_rfl) (by kernel_rfl) (by kernel_rfl) (fun _ _ _ h=>h) (Or.inr ⟨by rfl,rfl⟩) (by assumption) ?_
    (try simp only [Act.put,zA,zB,zC,zD,zE,zF])
    refine wpAnyH_take (i:=41) (v:=undef) rfl (by kernel_rfl) (by kernel_rfl) (by kernel_rfl) (fun _ _ _ h=>h) (Or.inr ⟨by rfl,rfl⟩) (by assumption) ?_
    (try simp only [Act.put,zA,zB,zC,zD,zE,zF])
    refine wpAnyH_take (i:=42) (v:=undef) rfl (by kernel_rfl) (by kernel_rfl) (by kernel_rfl) (fun _ _ _ h=>h) (Or.inr ⟨by rfl,rfl⟩) (by assumption) ?_
    (try simp only [Act.put,zA,zB,zC,zD,zE,zF])
    refine wpAnyH_take (i:=43) (v:=undef) rfl (by kernel_rfl) (by kernel_rfl) (by kernel_rfl) (fun _ _ _ h=>h) (Or.inr ⟨by rfl,rfl⟩) (by assumption) ?_
    (try simp only [Act.put,zA,zB,zC,zD,zE,zF])
    refine wpAnyH_take (i:=44) (v:=undef) rfl (by kernel_rfl) (by kernel_rfl) (by kernel_rfl) (fun _ _ _ h=>h) (Or.inr ⟨by rfl,rfl⟩) (by assumption) ?_
    (try simp only [Act.put,zA,zB,zC,zD,zE,zF])
    refine wpAnyH_take (i:=45) (v:=undef) rfl (by kernel_rfl) (by kernel_rfl) (by kernel_rfl) (fun _ _ _ h=>h) (Or.inr ⟨by rfl,rfl⟩) (by assumption) ?_
    (try simp only [Act.put,zA,zB,zC,zD,zE,zF])
    refine wpAnyH_take (i:=46) (v:=undef) rfl (by kernel_rfl) (by kernel_rfl) (by kernel_rfl) (fun _ _ _ h=>h) (Or.inr ⟨by rfl,rfl⟩) (by assumption) ?_
    (try simp only [Act.put,zA,zB,zC,zD,zE,zF])
    refine wpAnyH_take (i:=47) (v:=undef) rfl (by kernel_rfl) (by kernel_rfl) (by kernel_rfl) (fun _ _ _ h=>h) (Or.inr ⟨by rfl,rfl⟩) (by assumption) ?_
    (try simp only [Act.put,zA,zB,zC,zD,zE,zF])
    refine tkH (i:=48) (v:=?_) rfl ?_ ?_;rotate_left;focus ((intro w hSw;(try dsimp only at hSw);go_simp);try with_reducible rfl)
    (try simp only [Act.put,zA,zB,zC,zD,zE,zF])
    refine tkH (i:=49) (v:=?_) rfl ?_ ?_;rotate_left;focus ((intro w hSw;(try dsimp only at hSw);go_simp);try with_reducible rfl)
    (try simp only [Act.put,zA,zB,zC,zD,zE,zF])
    refine wpAnyH_take (i:=50) (v:=undef) rfl (by kernel_rfl) (by kernel_rfl) (by kernel_rfl) (fun _ _ _ h=>h) (Or.inr ⟨by rfl,rfl⟩) (by assumption) ?_
    (try simp only [Act.put,zA,zB,zC,zD,zE,zF])
    refine wpAnyH_take (i:=51) (v:=undef) rfl (by kernel_rfl) (by kernel_rfl) (by kernel_rfl) (fun _ _ _ h=>h) (Or.inr ⟨by rfl,rfl⟩) (by assumption) ?_
    (try simp only [Act.put,zA,zB,zC,zD,zE,zF])
    refine wpAnyH_take (i:=52) (v:=undef) rfl (by kernel_rfl) (by kernel_rfl) (by kernel_rfl) (fun _ _ _ h=>h) (Or.inr ⟨by rfl,rfl⟩) (by assumption) ?_
    (try simp only [Act.put,zA,zB,zC,zD,zE,zF])
    refine wpAnyH_take (i:=53) (v:=undef) rfl (by kernel_rfl) (by kernel_rfl) (by kernel_rfl) (fun _ _ _ h=>h) (Or.inr ⟨by rfl,rfl⟩) (by assumption) ?_
    (try simp only [Act.put,zA,zB,zC,zD,zE,zF])
    refine tkH (i:=54) (v:=?_) rfl ?_ ?_;rotate_left;focus ((intro w hSw;(try dsimp only at hSw);go_simp);try with_reducible rfl)
    (try simp only [Act.put,zA,zB,zC,zD,zE,zF])
    refine tkH (i:=55) (v:=?_) rfl ?_ ?_;rotate_left;focus ((intro w hSw;(try dsimp only at hSw);go_simp);try with_reducible rfl)
    (try simp only [Act.put,zA,zB,zC,zD,zE,zF])
    refine wpAnyH_done (by kernel_rfl) ?_ _
    have HBZ:=Lib.hid hbr1
    clear eym hyz hHeld
    have hLb:=HLb.out
    have hltN:=HLt.out
    go_wp2
    go_roundw
    case rel=>first | exact ⟨i+1,by go_num,by omega,HBZ.out⟩ | exact ⟨i+1,by go_num,by omega⟩ | exact ⟨i+1,(IntWalk.wrap64_in _ (by omega)).trans (by omega),by omega⟩
    case measure=>(try rw [IntWalk.wrap64_in _ (by omega)]);simp [intOf];omega
  ·have hltI : ¬ (i : Int) < (L.length : Int):=by omega
   have hEn:=hE0.below (below_step hb06 hbr hb06.size)
   go_wp2_with fail
   refine (HLv.out _ hEn).mono ?_
   rintro e we ⟨rfl,hbe⟩
   have hbw:=below_step (below_step hb06 hbr hb06.size) hbe (below_step hb06 hbr hb06.size).size
   go_wp2
   go_ret
   exact ⟨rfl,below_two hb0 hbw⟩
end
end Go.Proofs.YtlfpdpbbkjnapaaGreatDoor
