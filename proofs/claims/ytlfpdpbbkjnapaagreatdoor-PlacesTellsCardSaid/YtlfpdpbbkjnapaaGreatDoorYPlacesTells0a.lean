/-
 Several texts in one,in their build order: MMem,MApp,MPlain,MPropsP,MPropsQ,MPropsR,MRefA,MRefB,MRefC,MTxt,MRefT,MRefU,MRefV,MRefW,MRefX,MPropsY,PostA,PrsP,PrsL,UtfP,GraP,PrsG,UtfJ,UtfS,LinP,LinQ,GraQ,LinR,UtfI,PropsL,DbK,Dg,GraS,GraR,GraT,GraV,PlcP,RunD,RunT,Ue,Rng.
-/
import Derived.Below
import Derived.Laws.OwnMore
import Derived.Deep.AppendLies
import Derived.Deep.Draws
import Derived.Lib.Hide
import Derived.Maps.AppendAt
import Derived.RegionTactic
import Derived.OwnWalk
import Derived.Lib.DecodeN
import Derived.Lib.RuneCountTail
import Derived.Lib.SlTrimSet
import Derived.Deep.DeepMust
import Derived.Lib.OthersKept
import Derived.Lib.Replace
import Derived.Lib.IndexBytes
import Derived.Deep.Slices
import Derived.KernelRfl
import Derived.Lib.MapLaws
import Derived.RangeFuncNested
import Derived.RangeFuncBound
import Derived.RangeFuncCalls
import Derived.RangeFuncLeaves
import Derived.Shelf.Abstract
import Derived.Shelf.RegionOpen
import Derived.OwnWalkIn
import Derived.TacticsInMore
import Derived.LoopNIn
import Derived.LoopIn
import Derived.Test.YtlfpdpbbkjnapaaGreatDoorP0a
import Derived.Test.YtlfpdpbbkjnapaaGreatDoorPRefA
import Derived.Test.YtlfpdpbbkjnapaaGreatDoorP1a
import Derived.Test.YtlfpdpbbkjnapaaGreatDoorPRefU
import Derived.Test.YtlfpdpbbkjnapaaGreatDoorPRefV
import Derived.Test.YtlfpdpbbkjnapaaGreatDoorP3a
import Derived.Test.YtlfpdpbbkjnapaaGreatDoorPRefX
import Derived.Test.YtlfpdpbbkjnapaaGreatDoorP2a
/- -/
namespace Go.Proofs.YtlfpdpbbkjnapaaGreatDoor
set_option maxRecDepth 100000
set_option maxHeartbeats 40000000
section
open Go.RowKit
theorem cell_below {w w' : World} {B : Nat} {p : Addr} {u : Value} (h : w.cell? p = some u) (hp : p.block < B) (hb : Below B w w') : w'.cell? p = some u:=(hb.cell hp).trans h
section
variable {w w' : World} {s : Nat} {A : Option Addr} {cs : List (List Value)}
theorem Rd.belowB {B : Nat} (h : Rd w s A cs) (hb : Below B w w') (hB : ∀ a,A = some a→a.block < B) : Rd w' s A cs :=
 h.keep fun b off i _ ha hp=>cell_below (p:=⟨b,i,none⟩) hp (hB ⟨b,off,none⟩ ha) hb
theorem Rd.setCell (h : Rd w s A cs) {p : Addr} (hp : ∀ a,A = some a→a.block ≠ p.block) (u : Value) : Rd (w.setCell p u) s A cs :=
 h.keep fun b off i v ha hc=>(World.cell?_setCell_other w p ⟨b,i,none⟩ u (fun e=>hp _ ha (by rw [e]))).trans hc
theorem Rd.lt (h : Rd w s A cs) (hs : ∀ x ∈ cs,x ≠ []) (hn : cs ≠ []) : ∃ b off,A = some ⟨b,off,none⟩∧b < w.heap.size:=by
 obtain ⟨b,off,rfl,hc⟩:=h hn
 cases cs with
 | nil=>exact absurd rfl hn
 | cons x r =>
  cases x with
  | nil=>exact absurd rfl (hs _ (by simp))
  | cons u y=>exact ⟨b,off,rfl,cell_lt (hc 0 0 (u :: y) u rfl rfl)⟩
end
end
section
open Go.RowKit
section
variable {w w' : World} {base : Nat} {e : TypeId} {s : Nat} {A : Option Addr} {n c : Nat} {cs : List (List Value)}
theorem Own.lit (w : World) (base : Nat) (e : TypeId) (s : Nat) (hb : base≤w.heap.size) : Own (w.alloc (.cells #[] e)) base e s (some ⟨w.heap.size,0,none⟩) 0 0 [] :=
 ⟨rfl,by simp,by simpa using World.ownsRow_lit (base:=base) (e:=e) (size:=s) w #[] 0 hb (by unfold maxLen;omega) (by simp)⟩
end
section
variable {P : Program}
end
/-- A whole range is stored. -/
theorem Own.storedR {w : World} {base : Nat} {e : TypeId} {g n c k : Nat} {l : List (Int × Int)} (h : Own w base e 2 (some ⟨g, 0, none⟩) n c (l.map encR)) (hk : k < l.length) (a b : Int) :
    Own ((w.setCell ⟨g, k * 2, none⟩ (.int .i32 a)).setCell ⟨g, k * 2 + 1, none⟩ (.int .i32 b)) base e 2 (some ⟨g, 0, none⟩) n c ((l.set k (a, b)).map encR) := by
  have h1 := h.stored (k := k) (j := 0) (x := encR l[k]) (by simp [hk]) (by omega) (.int .i32 a)
  have h2 := h1.stored (k := k) (j := 1) (x := (encR l[k]).set 0 (.int .i32 a)) (by simp [hk]) (by omega) (.int .i32 b)
  have e : ((l.map encR).set k ((encR l[k]).set 0 (.int .i32 a))).set k (((encR l[k]).set 0 (.int .i32 a)).set 1 (.int .i32 b)) = (l.set k (a, b)).map encR := by
    rw [List.set_set, List.map_set]; rfl
  rw [e] at h2
  exact h2
section
variable {w w' : World} {g : Nat} {t : TypeId} {cs : Array Value}
end
end
section
theorem hasB_true {l : List (Int × Int)} {r : Int} (h : hasP l r) : hasB l r = true:=(hasB_iff l r).2 h
theorem hasB_false {l : List (Int × Int)} {r : Int} (h : ¬ hasP l r) : hasB l r = false:=by
 cases hb : hasB l r
 ·rfl
 ·exact absurd ((hasB_iff l r).1 hb) h
end
section
theorem decN_39 {n m b0 b1 b2 b3 c1 c2 c3 R W : Nat} (h : Lib.decodeN n b0 b1 b2 b3 = (R,W)) (hn : W+1≤n) (hm : W+1≤m) (hW : 1≤W) (h1 : c1 = b1) (h2 : 2≤W→c2 = b2) (h3 : 3≤W→c3 = b3) (q1 : W = 1→b1 = 39) :
  Lib.decodeN m b0 c1 c2 c3 = (R,W):=by
 subst h1
 unfold Lib.decodeN at h
 split at h
 ·rename_i g0
  injection h with hR hW'
  subst hR;subst hW'
  unfold Lib.decodeN;rw [if_pos g0]
 ·rename_i g0
  split at h
  ·rename_i g1
   split at h
   ·rename_i g2
    injection h with hR hW'
    subst hR;subst hW'
    unfold Lib.decodeN;rw [if_neg g0,if_pos ⟨g1.1,by omega,g1.2.2⟩,if_pos g2]
   ·injection h with hR hW'
    subst hW'
    have:=q1 rfl
    omega
  ·rename_i g1
   split at h
   ·rename_i g2
    split at h
    ·rename_i g3
     injection h with hR hW'
     subst hR;subst hW'
     obtain rfl:=h2 (by omega)
     unfold Lib.decodeN;rw [if_neg g0,if_neg (by omega),if_pos ⟨g2.1,⟨by omega,g2.2.1.2⟩,by omega,g2.2.2.2⟩,if_pos g3]
    ·injection h with hR hW'
     subst hW'
     have:=q1 rfl
     omega
   ·rename_i g2
    split at h
    ·rename_i g3
     split at h
     ·rename_i g4
      injection h with hR hW'
      subst hR;subst hW'
      obtain rfl:=h2 (by omega)
      obtain rfl:=h3 (by omega)
      unfold Lib.decodeN;rw [if_neg g0,if_neg (by omega),if_neg (by omega),if_pos ⟨g3.1,⟨by omega,g3.2.1.2⟩,⟨by omega,g3.2.2.1.2⟩,by omega,g3.2.2.2.2⟩,if_pos g4]
     ·injection h with hR hW'
      subst hW'
      have:=q1 rfl
      omega
    ·injection h with hR hW'
     subst hR;subst hW'
     have:=q1 rfl
     subst this
     unfold Lib.decodeN;rw [if_neg g0,if_neg (by omega),if_neg (by omega),if_neg (by omega)]
/-- Whether a rune in quotes stands at the beginning hangs on its own bytes alone. -/
theorem qtL_same {l m : List UInt8} {k : Nat} (h : qtL l = some k) (hm : l.take k = m.take k) : qtL m = some k := by
  have hq := qtL_some h
  have hml : k ≤ m.length := by
    have := congrArg List.length hm
    rw [List.length_take, List.length_take] at this; omega
  have hg : ∀ i, i < k → m[i]? = l[i]? := fun i hi => by
    have := congrArg (·[i]?) hm
    simp only [List.getElem?_take_of_lt hi] at this
    exact this.symm
  cases l with
  | nil => simp [qtL] at h
  | cons c r =>
    cases m with
    | nil => simp at hml; omega
    | cons d q =>
      have h0 := hg 0 (by omega)
      simp only [zH, Option.some.injEq] at h0
      subst h0
      rw [qtL_cons] at h ⊢
      split at h
      · rename_i hc
        obtain ⟨rfl, h2, h3⟩ := hc
        injection h with h
        have hd := decL_bd h2
        have hr : ∀ i, i + 1 < k → q[i]? = r[i]? := fun i hi => by
          have := hg (i + 1) hi
          rwa [zI, zI] at this
        have hgd : ∀ i, i + 1 < k → q.getD i 0 = r.getD i 0 := fun i hi => by
          rw [List.getD_eq_getElem?_getD, List.getD_eq_getElem?_getD, hr i hi]
        have hlr := (List.getElem?_eq_some_iff.1 h3).1
        have hlq : k ≤ q.length + 1 := by simpa using hml
        have hqne : q ≠ [] := by intro e; subst e; simp at hlq; omega
        have hsame : Utf8.decode (bytesOf q) 0 = Utf8.decode (bytesOf r) 0 := by
          obtain ⟨⟨R, W⟩, hD⟩ : ∃ d, Utf8.decode (bytesOf r) 0 = d := ⟨_, rfl⟩
          rw [hD] at hd h h3 hlr ⊢
          simp only at hd h h3 hlr
          rw [Lib.decode_at] at hD ⊢
          simp only [bytesOf_get, bytesOf_size, Nat.zero_add, Nat.sub_zero] at hD ⊢
          rw [hgd 0 (by omega)]
          refine decN_39 hD (by omega) (by omega) hd.1 (by rw [hgd 1 (by omega)]) (fun h => by rw [hgd 2 (by omega)]) (fun h => by rw [hgd 3 (by omega)]) (fun h1 => ?_)
          subst h1
          rw [List.getD_eq_getElem?_getD, h3]; rfl
        rw [hsame, if_pos ⟨rfl, hqne, by rw [hr _ (by omega)]; exact h3⟩, h]
      · cases h
theorem qtL_take {l : List UInt8} {k h : Nat} (hq : qtL l = some k) (hk : k≤h) : qtL (l.take h) = some k:=qtL_same hq (by rw [List.take_take,Nat.min_eq_left hk])
theorem qtL_of_take {l : List UInt8} {k h : Nat} (hq : qtL (l.take h) = some k) : qtL l = some k:=by
 have h1:=(qtL_some hq).2.2.1
 refine qtL_same hq ?_
 rw [List.take_take,Nat.min_eq_left]
 rw [List.length_take] at h1;omega
theorem qtL_append {l m : List UInt8} {k : Nat} (hq : qtL l = some k) : qtL (l++m) = some k :=
 qtL_same hq (by rw [List.take_append_of_le_length (qtL_some hq).2.2.1])
theorem qtL_blank {x : UInt8} {r : List UInt8} (h : blkB x = true) : qtL (x :: r) = none:=by
 rw [qtL_cons,if_neg]
 rintro ⟨rfl,_⟩
 simp [blkB] at h
theorem qtL_blanks : ∀ {l : List UInt8},(∀ c ∈ l,blkB c = true)→qtL l = none
 | [],_=>rfl
 | x :: _,h=>qtL_blank (h x (by simp))
theorem findP_blanks {c : UInt8} (hc : blkB c = false) : ∀ {l : List UInt8},(∀ d ∈ l,blkB d = true)→findP c l = none
 | [],_=>rfl
 | x :: r,h=>by
  rw [findP_cons (qtL_blank (h x (by simp))),if_neg (by rintro rfl;rw [h x (by simp)] at hc;cases hc),findP_blanks hc (fun d hd=>h d (by simp [hd]))];rfl
/-- Blanks ahead move the place alone. -/
theorem findP_lead {c : UInt8} (hc : blkB c = false) : ∀ (b l : List UInt8), (∀ d ∈ b, blkB d = true) → findP c (b ++ l) = (findP c l).map (· + b.length)
  | [], l, _ => by simp
  | x :: b, l, h => by
    rw [List.cons_append, findP_cons (qtL_blank (h x (by simp))), if_neg (by rintro rfl; rw [h x (by simp)] at hc; cases hc), findP_lead hc b l (fun d hd => h d (by simp [hd])), Option.map_map]
    congr 1
theorem qtL_tail {l b : List UInt8} (hb : ∀ d ∈ b,blkB d = true) (hl : qtL l = none) : qtL (l++b) = none:=by
 cases hq : qtL (l++b) with
 | none=>rfl
 | some k =>
  have h1:=qtL_some hq
  have hk : k≤l.length:=by
   rcases Nat.lt_or_ge (k - 1) l.length with h | h
   ·omega
   ·have h2:=h1.2.2.2.2
    rw [List.getElem?_append_right h] at h2
    have:=hb _ (List.mem_of_getElem? h2)
    simp [blkB] at this
  have : qtL l = some k:=qtL_same hq (by rw [List.take_append_of_le_length hk])
  rw [hl] at this;cases this
/-- Blanks behind change nothing. -/
theorem findP_trail {c : UInt8} (hc : blkB c = false) : ∀ (n : Nat) (l b : List UInt8), l.length ≤ n → (∀ d ∈ b, blkB d = true) → findP c (l ++ b) = findP c l
  | _, [], b, _, hb => by rw [List.nil_append, findP_blanks hc hb]; rfl
  | 0, x :: r, _, h, _ => by simp at h
  | n + 1, x :: r, b, hn, hb => by
    cases hq : qtL (x :: r) with
    | some k =>
      have h1 := qtL_some hq
      rw [findP_qt (qtL_append hq), findP_qt hq, List.drop_append_of_le_length h1.2.2.1, findP_trail hc n _ b (by rw [List.length_drop]; simp only [List.length_cons] at hn ⊢; omega) hb]
    | none =>
      have h1 := qtL_tail hb hq
      rw [List.cons_append] at h1 ⊢
      rw [findP_cons h1, findP_cons hq, findP_trail hc n r b (by simpa using hn) hb]
end
section
theorem trimL_trail {l e : List UInt8} (he : ∀ c ∈ e, blkB c = true) : trimL (l ++ e) = trimL l := by
  obtain ⟨b, f, h1, h2, h3, h4⟩ := trimL_parts l
  have : l ++ e = b ++ trimL l ++ (f ++ e) := by conv => lhs; rw [h1]
                                                 simp
  rw [this]
  exact trim_unique h2 (fun c hc => (List.mem_append.1 hc).elim (h3 c) (he c)) h4
def cutGo : Nat→List UInt8→Nat→Option Nat→Nat × Option Nat
 | 0,_,i,semi=>(i,semi)
 | _+1,[],i,semi=>(i,semi)
 | f+1,x :: r,i,semi=>match qtL (x :: r) with
  | some k=>cutGo f ((x :: r).drop k) (i+k) semi
  | none=>if x = 35 then (i,semi) else if x = 59∧semi = none then cutGo f r (i+1) (some i) else cutGo f r (i+1) semi
theorem cutGo_eq : ∀ (f : Nat) (l : List UInt8) (i : Nat) (semi : Option Nat),l.length≤f →
  cutGo f l i semi = (i+hashP l,match semi with | some k=>some k | none=>(findP 59 (l.take (hashP l))).map (·+i))
 | 0,l,i,semi,h=>by
  have : l = []:=List.eq_nil_of_length_eq_zero (by omega)
  subst this
  cases semi <;> simp [cutGo,hashP,findP_nil]
 | f+1,[],i,semi,_=>by cases semi <;> simp [cutGo,hashP,findP_nil]
 | f+1,x :: r,i,semi,h=>by
  simp only [List.length_cons] at h
  unfold cutGo
  cases hq : qtL (x :: r) with
  | some k =>
   have h1:=qtL_some hq
   simp only [List.length_cons] at h1
   have hh : hashP (x :: r) = k+hashP ((x :: r).drop k):=by
    unfold hashP
    rw [findP_qt hq]
    cases findP 35 ((x :: r).drop k) with
    | some j=>simp;omega
    | none=>simp;omega
   have ih:=cutGo_eq f ((x :: r).drop k) (i+k) semi (by rw [List.length_drop,List.length_cons];omega)
   simp only
   rw [ih,hh]
   refine Prod.ext (by simp only;omega) ?_
   cases semi with
   | some m=>rfl
   | none =>
    simp only
    rw [findP_qt (qtL_take hq (Nat.le_add_right _ _)),List.drop_take,Nat.add_sub_cancel_left,Option.map_map]
    congr 1
    funext m;simp only [Function.comp];omega
  | none =>
   simp only
   by_cases hx : x = 35
   ·subst hx
    have hh : hashP (35 :: r) = 0:=by unfold hashP;rw [findP_cons hq,if_pos rfl];rfl
    rw [if_pos rfl,hh]
    cases semi <;> simp [findP_nil]
   ·have hh : hashP (x :: r) = hashP r+1:=by
     unfold hashP
     rw [findP_cons hq,if_neg hx]
     cases findP 35 r with
     | some j=>rfl
     | none=>rfl
    have hq2 : qtL (x :: r.take (hashP r)) = none:=by
     cases h2 : qtL (x :: r.take (hashP r)) with
     | none=>rfl
     | some k =>
      have : qtL ((x :: r).take (hashP r+1)) = some k:=h2
      rw [qtL_of_take this] at hq;cases hq
    rw [if_neg hx,hh,List.take_succ_cons,findP_cons hq2]
    by_cases h59 : x = 59
    ·subst h59
     cases semi with
     | some m =>
      rw [if_neg (by simp)]
      rw [cutGo_eq f r (i+1) _ (by omega)]
      exact Prod.ext (by simp only;omega) rfl
     | none =>
      rw [if_pos ⟨rfl,rfl⟩,cutGo_eq f r (i+1) _ (by omega),if_pos rfl]
      exact Prod.ext (by simp only;omega) (by simp)
    ·rw [if_neg (fun h=>h59 h.1),cutGo_eq f r (i+1) _ (by omega),if_neg h59]
     refine Prod.ext (by simp only;omega) ?_
     cases semi with
     | some m=>rfl
     | none =>
      simp only
      rw [Option.map_map]
      congr 1
      funext m;simp only [Function.comp];omega
def shE {α : Type} : Except (Int × Nat) (α × Nat)→Except (Int × Nat) (α × Nat)
 | .error (e,p)=>.error (e,p+1)
 | .ok (x,q)=>.ok (x,q+1)
section
variable {l : List UInt8}
theorem rest_sh (c : UInt8) (a : Nat) : rest (bytesOf (c :: l)) (a+1) = rest (bytesOf l) a:=by unfold rest;rw [bytesOf_list,bytesOf_list];rfl
theorem hexRun_sh (c : UInt8) (a : Nat) : hexRun (bytesOf (c :: l)) (a+1) = hexRun (bytesOf l) a:=by unfold hexRun;rw [rest_sh]
theorem numP_sh (c : UInt8) (a : Nat) : numP (bytesOf (c :: l)) (a+1) = shE (numP (bytesOf l) a):=by
 unfold numP
 rw [show a+1+2 = (a+2)+1 by omega,hexRun_sh]
 split
 ·rfl
 ·split
  ·rfl
  ·simp only [shE];congr 2;omega
theorem quoP_sh (c : UInt8) (a : Nat) : quoP (bytesOf (c :: l)) (a+1) = shE (quoP (bytesOf l) a):=by
 unfold quoP
 rw [runeAt_sh c (a+1),show a+1+1+(runeAt (bytesOf l) (a+1)).2 = (a+1+(runeAt (bytesOf l) (a+1)).2)+1 by omega,rest_sh]
 split
 ·rfl
 ·split
  ·rfl
  ·split
   ·rfl
   ·simp only [shE];congr 2;omega
theorem runeP_sh (c : UInt8) (a : Nat) : runeP (bytesOf (c :: l)) (a+1) = shE (runeP (bytesOf l) a):=by
 unfold runeP
 rw [rest_sh,numP_sh,quoP_sh]
 split
 ·rfl
 ·split
  ·rfl
  ·rfl
theorem itemP_sh (c : UInt8) (a : Nat) : itemP (bytesOf (c :: l)) (a+1) = shE (itemP (bytesOf l) a):=by
 unfold itemP
 rw [runeP_sh]
 cases h1 : runeP (bytesOf l) a with
 | error x=>rfl
 | ok x =>
  obtain ⟨lo,p⟩:=x
  simp only [shE]
  rw [rest_sh,runeP_sh c (p+1)]
  by_cases hd : (rest (bytesOf l) p).head? = some 45
  ·rw [if_pos hd,if_pos hd]
   cases h2 : runeP (bytesOf l) (p+1) with
   | error y=>rfl
   | ok y =>
    obtain ⟨hi,q⟩:=y
    simp only [shE]
    rw [rest_sh]
    split
    ·rfl
    ·split
     ·rfl
     ·rfl
  ·rw [if_neg hd,if_neg hd]
   simp only
   rw [rest_sh]
   split
   ·rfl
   ·split
    ·rfl
    ·rfl
theorem parseGo_sh (c : UInt8) : ∀ (f a : Nat) (acc : List (Int × Int)),(match parseGo (bytesOf (c :: l)) f (a+1) acc with | .error x=>.error x.1 | .ok l=>.ok l : Except Int (List (Int × Int))) = match parseGo (bytesOf l) f a acc with | .error x=>.error x.1 | .ok l=>.ok l
 | 0,a,acc=>rfl
 | f+1,a,acc=>by
  unfold parseGo
  rw [rest_sh]
  cases hh : (rest (bytesOf l) a).head? with
  | none=>rfl
  | some d =>
   simp only
   by_cases h32 : d = 32
   ·rw [if_pos h32,if_pos h32];exact parseGo_sh c f (a+1) acc
   ·rw [if_neg h32,if_neg h32,itemP_sh]
    cases hi : itemP (bytesOf l) a with
    | error x=>rfl
    | ok x=>obtain ⟨x,q⟩:=x;exact parseGo_sh c f q (acc++[x])
end
theorem parseE_blank (l : List UInt8) : parseE (32 :: l) = parseE l:=by
 unfold parseE parseP
 rw [bytesOf_size,bytesOf_size,List.length_cons]
 have h : parseGo (bytesOf (32 :: l)) (l.length+1+1) 0 [] = parseGo (bytesOf (32 :: l)) (l.length+1) (0+1) []:=by
  conv=>lhs;unfold parseGo
  have : (rest (bytesOf (32 :: l)) 0).head? = some 32:=by unfold rest;rw [bytesOf_list];rfl
  rw [this];simp only [if_true]
 rw [h]
 exact parseGo_sh 32 _ 0 []
theorem parseE_blanks : ∀ (b l : List UInt8),(∀ c ∈ b,blkB c = true)→parseE (spcL (b++l)) = parseE (spcL l)
 | [],_,_=>rfl
 | x :: b,l,h=>by
  have hx:=h x (by simp)
  have : (if x = 9 then (32 : UInt8) else x) = 32:=by
   simp only [blkB,Bool.or_eq_true,beq_iff_eq] at hx
   rcases hx with rfl | rfl
   ·rfl
   ·rfl
  rw [List.cons_append]
  show parseE ((if x = 9 then 32 else x) :: spcL (b++l)) = _
  rw [this,parseE_blank,parseE_blanks b l (fun c hc=>h c (by simp [hc]))]
/-- As the document does. -/
def lineD (l : List UInt8) : Line :=
  let t := l.take (hashP l)
  if trimL t = [] then .none_ else match findP 59 t with
  | none => .noLine
  | some j => .says (trimL (t.drop (j + 1))) (t.take j)
/-- Do two lines say the same? Blanks ahead of a set do not count. -/
def Line.same : Line → Line → Prop
  | .none_, .none_ => True
  | .noLine, .noLine => True
  | .says n s, .says m t => n = m ∧ parseE (spcL s) = parseE (spcL t)
  | _, _ => False
theorem line_same (l : List UInt8) : Line.same (lineD l) (lineP l):=by
 unfold lineD lineP
 simp only
 generalize l.take (hashP l) = t
 obtain ⟨b,e,h1,h2,h3,h4⟩:=trimL_parts t
 by_cases h0 : trimL t = []
 ·rw [if_pos h0,if_pos h0];trivial
 ·rw [if_neg h0,if_neg h0]
  have hf : findP 59 t = (findP 59 (trimL t)).map (·+b.length):=by
   conv=>lhs;rw [h1]
   rw [List.append_assoc,findP_lead (by decide) _ _ h2,findP_trail (by decide) _ _ _ (Nat.le_refl _) h3]
  rw [hf]
  cases hj : findP 59 (trimL t) with
  | none=>trivial
  | some j =>
   have hlt:=(List.getElem?_eq_some_iff.1 (findP_lt (trimL t).length (trimL t) (Nat.le_refl _) j hj)).1
   simp only [Option.map_some,Line.same]
   constructor
   ·conv=>lhs;rw [h1]
    rw [List.append_assoc,show j+b.length+1 = b.length+(j+1) by omega,← List.drop_drop,List.drop_left,List.drop_append_of_le_length (by omega),trimL_trail h3]
   ·conv=>lhs;rw [h1]
    rw [List.append_assoc,show j+b.length = b.length+j by omega,List.take_append,List.take_of_length_le (by omega),Nat.add_sub_cancel_left,List.take_append_of_le_length (by omega),parseE_blanks _ _ h2]
end
section
/-- As the document's line says it: the same step. -/
theorem stepL_doc (d : DbP) (l : List UInt8) : stepL d l = match lineD l with
    | .none_ => .ok d
    | .noLine => .error 42
    | .says n s => addL d n s := by
  have h := line_same l
  unfold stepL
  cases h1 : lineD l with
  | none_ =>
    rw [h1] at h
    cases h2 : lineP l with
    | none_ => rfl
    | noLine => rw [h2] at h; exact h.elim
    | says n s => rw [h2] at h; exact h.elim
  | noLine =>
    rw [h1] at h
    cases h2 : lineP l with
    | none_ => rw [h2] at h; exact h.elim
    | noLine => rfl
    | says n s => rw [h2] at h; exact h.elim
  | says n s =>
    rw [h1] at h
    cases h2 : lineP l with
    | none_ => rw [h2] at h; exact h.elim
    | noLine => rw [h2] at h; exact h.elim
    | says m t =>
      rw [h2] at h
      obtain ⟨rfl, h3⟩ := h
      simp only [addL, h3]
end
section
open Go.RowKit
theorem sPut_any (B : Nat) (A : Option Addr) (n c : Nat) (l : List (Int × Int)) (x1 x2 : Int) (w : World) (hown : Own w B 262 2 A n c (l.map encR)) (hB : B≤w.heap.size) (hn : n≤4000000) :
  Calls Tryz.prog 254 #[.slice A n c,.agg #[.int .i32 x1,.int .i32 x2]] w fun e w' =>
   ∃ A' c' l1 l2,e = .returned (.slice A' (n+1) c')∧l = l1++l2∧(∀ y ∈ l2,x1 < y.1)∧(∀ o y,l1 = o++[y]→y.1≤x1)∧Own w' B 262 2 A' (n+1) c' ((l1++(x1,x2) :: l2).map encR)∧Below B w w':=by
 obtain ⟨i0,hi0,hz0,hz1,hz2⟩:=info_parts infoR
 have hAlt:=hown.lt
 go_enter Tryz.func254,Tryz.ntmps254
 go_wp2_with (at_builtin;go_must (refine wpList_app rfl (.tmp 6) (.tmp 8) _ rfl B 262 i0 _ 2 8 Tryz.underlying239 hi0 hz0 hz1 hz2 rfl (by omega) A n c (l.map encR) rfl ((hown.alloc _).alloc _) _ 1 1 [encR (x1,x2)] rfl rfl (Rd.newAt (by simp) rfl) (encR_ok [(x1,x2)]) (by unfold maxLen;omega) (by omega) (by simp;omega) ?_);intro A' c' w1 hown1 hg1 hA1)
 have hx1 : w1.cell? ⟨w.heap.size,0,none⟩ = some (.int .i32 x1):=hg1.cell (by simp) (fun e=>by
  cases A with
  | none=>simp at e
  | some a=>have:=(hAlt a rfl).2;simp at e;omega)
 have hx2 : w1.cell? ⟨w.heap.size,1,none⟩ = some (.int .i32 x2):=hg1.cell (by simp) (fun e=>by
  cases A with
  | none=>simp at e
  | some a=>have:=(hAlt a rfl).2;simp at e;omega)
 have hbl : Below B w w1:=below_app (((Below.refl _ _).alloc hB _).alloc (by simp;omega) _) hg1 (by simp;omega) (fun a ha=>(hAlt a ha).1)
 obtain ⟨g,rfl,hgB,hgl⟩:=hown1.form (by omega)
 have hgne : g ≠ w.heap.size:=by
  rcases hA1 with h | h
  ·have:=(hAlt _ h.symm).2;simp at this;omega
  ·simp at h;omega
 have hzs : w.heap.size < w1.heap.size:=by have:=hg1.size;simp at this;omega
 clear hg1 hA1 hAlt hown
 go_loopw [5] (fun i wr=>∃ (k : Nat) (l1 l2 : List (Int × Int)) (z : Int × Int),i = .int .i64 k∧Hid (l1.length = k)∧Hid (l = l1++l2)∧Hid (∀ y ∈ l2,x1 < y.1) ∧
   Own wr B 262 2 (some ⟨g,0,none⟩) (n+1) c' ((l1++z :: l2).map encR)∧wr.cell? ⟨w.heap.size,0,none⟩ = some (.int .i32 x1)∧wr.cell? ⟨w.heap.size,1,none⟩ = some (.int .i32 x2)∧Below B w wr) (fun i _=>(intOf i).toNat)
 case atStart=>exact ⟨n,l,[],(x1,x2),rfl,Lib.hid (by simpa using hown1.len),by simp [Hid],fun y hy=>by simp at hy,by simpa using hown1,hx1,hx2,hbl⟩
 case round =>
  obtain ⟨k,l1,l2,z,rfl,Hk,Hl,Hlt,ho,hc1,hc2,hb⟩:=hrel
  have hkn : k≤n:=by have:=ho.len;have:=Hk.out;simp at *;omega
  rcases Nat.eq_zero_or_pos k with h0 | h0
  ·obtain rfl : l1 = []:=List.eq_nil_of_length_eq_zero (Hk.out.trans h0)
   subst h0
   have ⟨hd1,hd2⟩:=ho.cellR (k:=0) (x:=z) rfl
   have hf1:=ho.frozen 0
   have hf2:=ho.frozen 1
   simp only [Nat.zero_mul,Nat.zero_add] at hd1 hd2
   go_wp2_with fail
   go_quiet (fail)
   go_wp2
   go_ret
   exact ⟨_,_,[],l2,rfl,by simpa using Hl.out,Hlt.out,fun o y h=>by simp at h,(ho.drewN _).storedR (k:=0) (by simp) x1 x2,((below_drewN hb _).setCell hgB _).setCell hgB _⟩
  ·obtain ⟨j,rfl⟩ : ∃ j,k = j+1:=⟨k - 1,by omega⟩
   obtain ⟨l1',y,y2,rfl⟩ : ∃ l1' y y2,l1 = l1'++[(y,y2)]:=by
    rcases snoc_cases l1 with h | h
    ·have:=Hk.out;simp [h] at this
    ·obtain ⟨o,⟨a,b⟩,h⟩:=h;exact ⟨o,a,b,h⟩
   have Hj : Hid (l1'.length = j):=Lib.hid (by have:=Hk.out;simpa using this)
   have hgy : (l1'++[(y,y2)]++z :: l2)[j]? = some (y,y2):=by have:=Hj.out;subst this;simp
   have hgz : (l1'++[(y,y2)]++z :: l2)[j+1]? = some z:=by have:=Hj.out;subst this;simp
   have ⟨hy1,hy2⟩:=ho.cellR hgy
   have ⟨hz1,hz2⟩:=ho.cellR hgz
   have hjl : j+1 < (l1'++[(y,y2)]++z :: l2).length:=(List.getElem?_eq_some_iff.1 hgz).1
   clear hgy hgz
   have hf1:=ho.frozen ((j+1)*2)
   have hf2:=ho.frozen ((j+1)*2+1)
   by_cases hgt : x1 < y
   ·go_wp2_with fail
    go_quiet (fail)
    go_wp2
    go_roundw
    case rel =>
     refine ⟨j,l1',(y,y2) :: l2,(y,y2),rfl,Hj,Lib.hid (by have:=Hl.out;simpa using this),Lib.hid (fun q hq=>?_),?_,?_,?_,((below_drewN hb _).setCell hgB _).setCell hgB _⟩
     ·rcases List.mem_cons.1 hq with rfl | hq
      ·exact hgt
      ·exact Hlt.out q hq
     ·have:=(ho.drewN nq).storedR hjl y y2
      have e : (l1'++[(y,y2)]++z :: l2).set (j+1) (y,y2) = l1'++(y,y2) :: (y,y2) :: l2:=by
       have h:=Hj.out;subst h;simp
      rw [e] at this
      exact this
     ·simp [World.cell?_setCell_other];exact hc1
     ·simp [World.cell?_setCell_other];exact hc2
    case measure=>simp [intOf]
   ·have hge : y≤x1:=by omega
    clear hgt
    have hw1 : IntKind.i64.wrap (j : Int) = j:=IntWalk.i64_in _ (by omega)
    have hdd : decide (x1 < y) = false:=decide_eq_false (by omega)
    go_wp2_with fail
    go_quiet (fail)
    go_wp2
    go_ret
    refine ⟨_,_,l1'++[(y,y2)],l2,rfl,Hl.out,Hlt.out,fun o q h=>?_,?_,((below_drewN hb _).setCell hgB _).setCell hgB _⟩
    ·obtain ⟨_,h⟩:=List.append_inj' h rfl
     simp at h;subst h;omega
    ·have:=(ho.drewN nq).storedR hjl x1 x2
     have e : (l1'++[(y,y2)]++z :: l2).set (j+1) (x1,x2) = l1'++[(y,y2)]++(x1,x2) :: l2:=by
      have h:=Hj.out;subst h;simp
     rw [e] at this
     exact this
theorem put_step {s l1 l2 : List (Int × Int)} {x : Int × Int} (hs : s = l1++l2) (h2 : ∀ y ∈ l2,x.1 < y.1) (h1 : ∀ o y,l1 = o++[y]→y.1≤x.1) (hr : Rise s) : Rise (l1++x :: l2)∧(l1++x :: l2).Perm (s++[x]):=by
 subst hs
 constructor
 ·unfold Rise at *
  rw [List.pairwise_append] at hr ⊢
  obtain ⟨ha,hb,hc⟩:=hr
  have hx : ∀ y ∈ l1,y.1≤x.1:=by
   intro y hy
   rcases snoc_cases l1 with rfl | ⟨o,z,rfl⟩
   ·simp at hy
   ·have hz:=h1 o z rfl
    rcases List.mem_append.1 hy with hy | hy
    ·have:=(List.pairwise_append.1 ha).2.2 y hy z (by simp);omega
    ·simp at hy;subst hy;exact hz
  refine ⟨ha,List.pairwise_cons.2 ⟨fun y hy=>by have:=h2 y hy;omega,hb⟩,fun y hy z hz=>?_⟩
  rcases List.mem_cons.1 hz with rfl | hz
  ·exact hx y hy
  ·exact hc y hy z hz
 ·rw [List.append_assoc]
  exact List.Perm.append_left l1 (List.perm_append_comm (l₁:=[x]) (l₂:=l2))
theorem sPut_perm (B : Nat) (A : Option Addr) (n c : Nat) (l : List (Int × Int)) (x1 x2 : Int) (w : World) (hown : Own w B 262 2 A n c (l.map encR)) (hB : B≤w.heap.size) (hn : n≤4000000) (hr : Rise l) :
  Calls Tryz.prog 254 #[.slice A n c,.agg #[.int .i32 x1,.int .i32 x2]] w fun e w' =>
   ∃ A' c' s,e = .returned (.slice A' (n+1) c')∧Hid (Rise s)∧Hid (s.Perm (l++[(x1,x2)]))∧Own w' B 262 2 A' (n+1) c' (s.map encR)∧Below B w w' :=
 (sPut_any B A n c l x1 x2 w hown hB hn).mono fun _ _ ⟨A',c',_,_,he,hs,h2,h1,ho,hb⟩ =>
  have h:=put_step (x:=(x1,x2)) hs h2 h1 hr
  ⟨A',c',_,he,h.1,h.2,ho,hb⟩
theorem norm_kept {l s s2 : List (Int × Int)} {k : Nat} {lo hi x1 x2 : Int} (HK : keepR (l.take (k+1)) = keepR (l.take k)++if max lo 0≤min hi 1114111 then [(max lo 0,min hi 1114111)] else [])
  (HP : s.Perm (keepR (l.take k))) (hp : s2.Perm (s++[(x1,x2)])) (e1 : x1 = max lo 0) (e2 : x2 = min hi 1114111) (hle : x1≤x2) : s2.Perm (keepR (l.take (k+1))):=by
 subst e1;subst e2
 rw [HK,if_pos hle]
 exact hp.trans (HP.append_right _)
theorem norm_lost {l s : List (Int × Int)} {k : Nat} {lo hi : Int} (HK : keepR (l.take (k+1)) = keepR (l.take k)++if max lo 0≤min hi 1114111 then [(max lo 0,min hi 1114111)] else [])
  (HP : s.Perm (keepR (l.take k))) (hle : ¬ max lo 0≤min hi 1114111) : s.Perm (keepR (l.take (k+1))):=by
 rw [HK,if_neg hle,List.append_nil];exact HP
theorem sNorm_any (A : Option Addr) (n c : Nat) (l : List (Int × Int)) (w : World) (hA : Rd w 2 A (l.map encR)) (hl : l.length = n) (hn : n≤4000000) :
  Calls Tryz.prog 219 #[.slice A n c] w fun e w'=>∃ A' n' c',e = .returned (.slice A' n' c')∧Own w' w.heap.size 262 2 A' n' c' ((normR l).map encR)∧Below w.heap.size w w':=by
 obtain ⟨i0,hi0,hz0,hz1,hz2⟩:=info_parts infoR
 have Hl:=Lib.hid hl
 clear hl
 go_enter Tryz.func219,Tryz.ntmps219
 go_wp2
 go_loopw [3,4] (fun v i wr=>∃ (k : Nat) (A1 : Option Addr) (n1 c1 : Nat) (s : List (Int × Int)),k≤n∧n1≤k∧v = .slice A1 n1 c1∧i = .int .i64 k ∧
   Own wr w.heap.size 262 2 A1 n1 c1 (s.map encR)∧Hid (s.Perm (keepR (l.take k)))∧Hid (Rise s)∧Below w.heap.size w wr) (fun _ i _=>n - (intOf i).toNat)
 case atStart=>exact ⟨0,none,0,0,[],by omega,by omega,rfl,rfl,Own.nil_ _ _ _ _,by simp [Hid,keepR],List.Pairwise.nil,Below.refl _ _⟩
 case round =>
  obtain ⟨k,A1,n1,c1,s,hk,hn1,rfl,rfl,ho,HP,HR,hb⟩:=hrel
  by_cases hlt : k < n
  ·obtain ⟨b,off,lo,hi,rfl,Hx,hx1,hx2⟩:=hA.atR (k:=k) (by have:=Hl.out;omega)
   have hx1:=cell_keep hx1 hb
   have hx2:=cell_keep hx2 hb
   have HK:=Lib.hid (keepR_snoc l k (lo,hi) Hx.out)
   have hbs:=hb.size
   by_cases h1 : lo < 0 <;> by_cases h2 : 1114111 < hi
   all_goals
    go_wp2_with (go_at_call 254;go_must (refine (sPut_perm w.heap.size A1 n1 c1 s _ _ _ (ho.alloc _) (by simp;omega) (by omega) HR.out).mono ?_);rintro e w2 ⟨A2,c2,s2,rfl,HR2,HP2,ho2,hb2⟩)
   all_goals
    first
     | refine ⟨⟨k+1,_,_,_,_,by omega,by omega,rfl,by go_num,ho2,Lib.hid (norm_kept HK.out HP.out HP2.out (by omega) (by omega) (by omega)),HR2,(hb.alloc hbs _).trans hb2⟩,?_⟩
     | refine ⟨⟨k+1,_,_,_,_,by omega,by omega,rfl,by go_num,ho.alloc _,Lib.hid (norm_lost HK.out HP.out (by simp only;omega)),HR,hb.alloc hbs _⟩,?_⟩
    simp [intOf];omega
  ·obtain rfl : n = k:=by omega
   have HP' : Hid (s.Perm (keepR l)):=Lib.hid (by have:=HP.out;rwa [List.take_of_length_le (by have:=Hl.out;omega)] at this)
   clear HP hA hlt hk
   go_wp2
   go_loopw [6,7] (fun v i wr2=>∃ (k2 : Nat) (A2 : Option Addr) (n2 c2 : Nat) (o : List (Int × Int)),k2≤n1∧n2≤k2∧v = .slice A2 n2 c2∧i = .int .i64 k2 ∧
     Own wr2 w.heap.size 262 2 A1 n1 c1 (s.map encR)∧Own wr2 w.heap.size 262 2 A2 n2 c2 (o.map encR)∧Hid (o = (s.take k2).foldl mstep []) ∧
     Hid (∀ a a2,A1 = some a→A2 = some a2→a.block ≠ a2.block)∧Below w.heap.size w wr2) (fun _ i _=>n1 - (intOf i).toNat)
   case atStart=>exact ⟨0,none,0,0,[],by omega,by omega,rfl,rfl,ho,Own.nil_ _ _ _ _,by simp [Hid],Lib.hid (fun _ _ _ h=>by cases h),hb⟩
   case round =>
    clear ho hb
    obtain ⟨k2,A2,n2,c2,o,hk2,hn2,rfl,rfl,ho1,ho2,HO,HD,hb⟩:=hrel
    have hbs:=hb.size
    by_cases hlt2 : k2 < n1
    ·obtain ⟨g,rfl,hgB,hgl⟩:=ho1.form (by omega)
     obtain ⟨x1,x2,HX⟩ : ∃ x1 x2,Hid (s[k2]? = some (x1,x2)):=⟨_,_,Lib.hid (List.getElem?_eq_getElem (by have:=ho1.len;simp at this;omega))⟩
     have HS:=Lib.hid (merge_snoc HX.out)
     have ⟨hx1,hx2⟩:=ho1.cellR HX.out
     simp only at hx1 hx2
     have HBD:=Lib.hid (merge_bd HP'.out HR.out k2)
     rcases snoc_cases o with rfl | ⟨o,⟨y1,y2⟩,rfl⟩
     ·obtain rfl : n2 = 0:=by have:=ho2.len;simpa using this.symm
      go_wp2_with fail
      go_quiet (fail)
      go_wp2_with (at_builtin;go_must (refine wpList_app rfl (.tmp 82) (.tmp 87) _ rfl w.heap.size 262 i0 _ 2 8 Tryz.underlying239 hi0 hz0 hz1 hz2 rfl (by omega) A2 0 c2 ([].map encR) rfl ((ho2.drewN _).alloc _) _ 1 1 [encR (x1,x2)] rfl rfl (Rd.newAt (by simp) rfl) (encR_ok [(x1,x2)]) (by unfold maxLen;omega) (by omega) (by simp;omega) ?_);intro A3 c3 w3 ho3 hg3 hA3)
      have hd3 : Hid (∀ a a2,some (⟨g,0,none⟩ : Addr) = some a→A3 = some a2→a.block ≠ a2.block):=Lib.hid (fun a a2 ha ha2=>by
       cases ha
       rcases hA3 with h | h
       ·exact HD.out _ a2 rfl (by rw [← h];exact ha2)
       ·rw [h] at ha2;cases ha2;simp;omega)
      have ho1':=((ho1.drewN nq).alloc (.cells #[.int .i32 x1,.int .i32 x2] 262)).grown hg3 (fun a ha=>by
       cases ha;intro e;cases hA2 : A2 with
       | none=>rw [hA2] at e;simp at e
       | some a2=>rw [hA2] at e;simp at e;exact HD.out _ a2 rfl hA2 e)
      have hb3:=below_app ((below_drewN hb nq).alloc hbs (.cells #[.int .i32 x1,.int .i32 x2] 262)) hg3 (by simp;omega) (fun a ha=>(ho2.lt a ha).1)
      clear hg3
      go_roundw
      case rel=>exact ⟨k2+1,A3,1,c3,[(x1,x2)],by omega,by omega,rfl,by go_num,ho1',ho3,Lib.hid (by rw [HS.out,← HO.out];rfl),hd3,hb3⟩
      case measure=>simp [intOf];omega
     ·obtain ⟨j,rfl⟩ : ∃ j,n2 = j+1:=⟨n2 - 1,by have:=ho2.len;simp at this;omega⟩
      obtain ⟨g2,rfl,hgB2,hgl2⟩:=ho2.form (by omega)
      have Hj : Hid (o.length = j):=Lib.hid (by have:=ho2.len;simpa using this)
      have ⟨hy1,hy2⟩:=ho2.cellR (k:=j) (x:=(y1,y2)) (by have:=Hj.out;subst this;simp)
      simp only at hy1 hy2
      have hne : g ≠ g2:=HD.out _ _ rfl rfl
      obtain ⟨hb0,hb1,hb2⟩ : 0≤y1∧y1≤y2∧y2≤1114111:=HBD.out (y1,y2) (by rw [← HO.out];simp)
      have hw1 : IntKind.i64.wrap (j : Int) = j:=IntWalk.i64_in _ (by omega)
      have hw2 : IntKind.i32.wrap (y2+1) = y2+1:=IntWalk.i32_in _ (by omega)
      by_cases hle : x1≤y2+1
      ·have hd1 : decide (x1≤y2+1) = true:=decide_eq_true hle
       go_wp2_with fail
       go_quiet (fail)
       have hf:=ho2.frozen (j*2+1)
       by_cases hgt : y2 < x2
       ·have hd2 : decide (y2 < x2) = true:=decide_eq_true hgt
        go_wp2_with fail
        go_quiet (fail)
        go_wp2
        go_roundw
        case rel=>exact ⟨k2+1,_,_,c2,o++[(y1,x2)],by omega,by omega,rfl,by go_num,(ho1.drewN _).setCell (fun a ha=>by cases ha;exact hne) _,(ho2.drewN _).storedHi Hj.out x2,
         Lib.hid (by rw [HS.out,← HO.out,mstep_snoc,if_pos hle,show max y2 x2 = x2 by omega]),HD,(below_drewN hb _).setCell hgB2 _⟩
        case measure=>simp [intOf];omega
       ·have hd2 : decide (y2 < x2) = false:=decide_eq_false hgt
        have hge : x2≤y2:=by omega
        clear hgt
        go_wp2_with fail
        go_quiet (fail)
        go_wp2
        go_roundw
        case rel=>exact ⟨k2+1,_,_,c2,o++[(y1,y2)],by omega,by omega,rfl,by go_num,ho1.drewN _,ho2.drewN _,
         Lib.hid (by rw [HS.out,← HO.out,mstep_snoc,if_pos hle,show max y2 x2 = y2 by omega]),HD,below_drewN hb _⟩
        case measure=>simp [intOf];omega
      ·have hd1 : decide (x1≤y2+1) = false:=decide_eq_false hle
       have hgt : y2+1 < x1:=by omega
       clear hle
       go_wp2_with fail
       go_quiet (fail)
       go_wp2_with (at_builtin;go_must (refine wpList_app rfl (.tmp 82) (.tmp 87) _ rfl w.heap.size 262 i0 _ 2 8 Tryz.underlying239 hi0 hz0 hz1 hz2 rfl (by omega) (some ⟨g2,0,none⟩) (j+1) c2 ((o++[(y1,y2)]).map encR) rfl ((ho2.drewN _).alloc _) _ 1 1 [encR (x1,x2)] rfl rfl (Rd.newAt (by simp) rfl) (encR_ok [(x1,x2)]) (by unfold maxLen;omega) (by omega) (by simp;omega) ?_);intro A3 c3 w3 ho3 hg3 hA3)
       have hd3 : Hid (∀ a a2,some (⟨g,0,none⟩ : Addr) = some a→A3 = some a2→a.block ≠ a2.block):=Lib.hid (fun a a2 ha ha2=>by
        cases ha
        rcases hA3 with h | h
        ·exact HD.out _ a2 rfl (by rw [← h];exact ha2)
        ·rw [h] at ha2;cases ha2;simp;omega)
       have ho1':=((ho1.drewN nq).alloc (.cells #[.int .i32 x1,.int .i32 x2] 262)).grown hg3 (fun a ha=>by cases ha;intro e;simp at e;exact hne e)
       have hb3:=below_app ((below_drewN hb nq).alloc hbs (.cells #[.int .i32 x1,.int .i32 x2] 262)) hg3 (by simp;omega) (fun a ha=>(ho2.lt a ha).1)
       clear hg3
       have Ho3 : Own w3 w.heap.size 262 2 A3 (j+1+1) c3 ((o++[(y1,y2)]++[(x1,x2)]).map encR):=by rw [List.map_append];exact ho3
       clear ho3
       go_roundw
       case rel=>exact ⟨k2+1,A3,j+1+1,c3,o++[(y1,y2)]++[(x1,x2)],by omega,by omega,rfl,by go_num,ho1',Ho3,Lib.hid (by rw [HS.out,← HO.out,mstep_snoc,if_neg (by simp only;omega)]),hd3,hb3⟩
       case measure=>simp [intOf];omega
    ·go_wp2
     go_ret
     exact ⟨_,_,_,rfl,by have:=mergeR_eq HP'.out HR.out;rw [mergeR,← List.take_of_length_le (l:=s) (i:=k2) (by have:=ho1.len;simp at this;omega),← HO.out] at this;rw [← this];exact ho2,hb⟩
end
section
open Go.RowKit
theorem sHas_any (A : Option Addr) (n c : Nat) (l : List (Int × Int)) (r : Int) (w : World) (hA : Rd w 2 A (l.map encR)) (hl : l.length = n) (hn : n ≤ 4000000) :
    Calls Tryz.prog 171 #[.slice A n c, .int .i32 r] w fun e w' => e = .returned (.bool (hasB l r)) ∧ w = w' := by
  have Hl := Lib.hid hl
  clear hl
  by_cases h0 : 0 ≤ r ∧ r ≤ 1114111
  · obtain ⟨h0, h1⟩ := h0
    go_enter Tryz.func171, Tryz.ntmps171
    go_wp2
    go_loop [5] (fun i => ∃ k : Nat, k ≤ n ∧ i = .int .i64 k ∧ Hid (∀ x ∈ l.take k, ¬ (x.1 ≤ r ∧ r ≤ x.2))) (fun i => n - (intOf i).toNat)
    case atStart => exact ⟨0, by omega, rfl, by simp [Hid]⟩
    case round =>
      obtain ⟨k, hk, rfl, HE⟩ := hrel
      by_cases hlt : k < n
      · obtain ⟨b, off, lo, hi, rfl, Hx, hx1, hx2⟩ := hA.atR (k := k) (by have := Hl.out; omega)
        by_cases hlo : lo ≤ r <;> by_cases hhi : r ≤ hi
        · have HT : Hid (hasB l r = true) := hasB_true ⟨h0, h1, (lo, hi), List.mem_of_getElem? Hx.out, hlo, hhi⟩
          go_wp2
          go_ret
          exact ⟨ret_bool HT.out.symm, rfl⟩
        all_goals
          have HE' : Hid (∀ x ∈ l.take (k + 1), ¬ (x.1 ≤ r ∧ r ≤ x.2)) := Lib.hid (fun x hx => by
            rw [List.take_add_one, Hx.out] at hx
            rcases List.mem_append.1 hx with hx | hx
            · exact HE.out x hx
            · simp at hx; subst hx; simp only; omega)
          go_wp2
          go_round
          case rel => exact ⟨k + 1, by omega, by go_num, HE'⟩
          case measure => simp [intOf]; omega
      · have HF : Hid (hasB l r = false) := hasB_false (fun ⟨_, _, x, hx, h⟩ => HE.out x (by rw [List.take_of_length_le (by have := Hl.out; omega)]; exact hx) h)
        go_wp2
        go_ret
        exact ⟨ret_bool HF.out.symm, rfl⟩
  · have HF : Hid (hasB l r = false) := hasB_false (fun h => h0 ⟨h.1, h.2.1⟩)
    by_cases h1 : 0 ≤ r
    all_goals
      go_enter Tryz.func171, Tryz.ntmps171
      go_wp2
      go_loop [5] (fun i => ∃ k : Nat, k ≤ n ∧ i = .int .i64 k) (fun i => n - (intOf i).toNat)
      case atStart => exact ⟨0, by omega, rfl⟩
      case round =>
        obtain ⟨k, hk, rfl⟩ := hrel
        by_cases hlt : k < n
        · have h2 : ¬ r ≤ 1114111 ∨ ¬ 0 ≤ r := by omega
          first
            | (have h3 : 1114111 < r := by omega
               clear h2 h0
               go_wp2
               go_round
               case rel => exact ⟨k + 1, by omega, by go_num⟩
               case measure => simp [intOf]; omega)
            | (have h3 : r < 0 := by omega
               clear h2 h0
               go_wp2
               go_round
               case rel => exact ⟨k + 1, by omega, by go_num⟩
               case measure => simp [intOf]; omega)
        · clear h0
          go_wp2
          go_ret
          exact ⟨ret_bool HF.out.symm, rfl⟩
theorem sOr_any (A A2 : Option Addr) (n c n2 c2 : Nat) (a b : List (Int × Int)) (w : World) (hA : Rd w 2 A (a.map encR)) (hB : Rd w 2 A2 (b.map encR)) (ha : a.length = n) (hb : b.length = n2) (hn : n+n2≤4000000) :
  Calls Tryz.prog 192 #[.slice A n c,.slice A2 n2 c2] w fun e w'=>∃ A' n' c',e = .returned (.slice A' n' c')∧Own w' w.heap.size 262 2 A' n' c' ((orR a b).map encR)∧Below w.heap.size w w':=by
 obtain ⟨i0,hi0,hz0,hz1,hz2⟩:=info_parts infoR
 have Ha:=Lib.hid ha
 have Hb:=Lib.hid hb
 clear ha hb
 go_enter Tryz.func192,Tryz.ntmps192
 go_wp2_with (first
  | (at_builtin;refine wpList_app rfl (.tmp 5) (.tmp 6) _ rfl w.heap.size 262 i0 _ 2 8 Tryz.underlying239 hi0 hz0 hz1 hz2 rfl (by omega) (some ⟨w.heap.size,0,none⟩) 0 0 [] rfl (Own.lit w _ _ _ (Nat.le_refl _)) A n c (a.map encR) rfl (by simpa using Ha.out) (hA.alloc _) (encR_ok a) (by unfold maxLen;omega) (by omega) (by simp) ?_;intro A3 c3 w3 ho3' hg3 _;have ho3 : Own w3 w.heap.size 262 2 A3 n c3 (a.map encR):=(by simpa using ho3');clear ho3';have hb3:=below_app ((Below.refl _ w).alloc (Nat.le_refl _) (.cells #[] 262)) hg3 (by simp) (fun a ha=>by cases ha;exact Nat.le_refl _);clear hg3)
  | (at_builtin;refine wpList_app rfl (.tmp 7) (.tmp 8) _ rfl w.heap.size 262 i0 _ 2 8 Tryz.underlying239 hi0 hz0 hz1 hz2 rfl (by omega) A3 n c3 (a.map encR) rfl ho3 A2 n2 c2 (b.map encR) rfl (by simpa using Hb.out) (hB.below hb3) (encR_ok b) (by unfold maxLen;omega) (by omega) hb3.size ?_;intro A4 c4 w4 ho4 hg4 _;have hb4:=below_app hb3 hg4 hb3.size (fun a ha=>(ho3.lt a ha).1);clear hg4)
  | (go_at_call 219;refine (sNorm_any A4 (n+n2) c4 (a++b) _ (by simpa using ho4.rd (by omega)) (by simp;have:=Ha.out;have:=Hb.out;omega) (by omega)).mono ?_;rintro e w5 ⟨A5,n5,c5,rfl,ho5,hb5⟩))
 go_ret
 exact ⟨_,_,_,rfl,ho5.more hb4.size,below_step hb4 hb5 hb4.size⟩
end
section
open Go.RowKit
theorem sNot_any (A : Option Addr) (n c : Nat) (l : List (Int × Int)) (w : World) (hA : Rd w 2 A (l.map encR)) (hl : l.length = n) (hn : n≤4000000) :
  Calls Tryz.prog 193 #[.slice A n c] w fun e w'=>∃ A' n' c',e = .returned (.slice A' n' c')∧Own w' w.heap.size 262 2 A' n' c' ((notR l).map encR)∧Below w.heap.size w w':=by
 obtain ⟨i0,hi0,hz0,hz1,hz2⟩:=info_parts infoR
 have Hl:=Lib.hid hl
 clear hl
 have HNF:=Lib.hid (normR_NF l)
 go_enter Tryz.func193,Tryz.ntmps193
 go_wp2_with (go_at_call 219;go_must (refine (sNorm_any A n c l _ hA Hl.out hn).mono ?_);rintro e w1 ⟨A1,n1,c1,rfl,ho1,hb1⟩)
 have hn1:=own_nf_len ho1 HNF.out
 have hrd:=ho1.rd (by omega)
 have Hn1 : Hid ((normR l).length = n1):=Lib.hid (by simpa using ho1.len)
 have hbs1:=hb1.size
 clear ho1
 go_loopw [4,5,6] (fun v x i wr=>∃ (k : Nat) (A2 : Option Addr) (n2 c2 : Nat) (o : List (Int × Int)) (next : Int),k≤n1∧n2≤k∧v = .slice A2 n2 c2∧x = .int .i32 next∧i = .int .i64 k∧0≤next∧next≤1114112 ∧
   Own wr w1.heap.size 262 2 A2 n2 c2 (o.map encR)∧Hid (o++notGo next ((normR l).drop k) = notR l)∧Below w1.heap.size w1 wr) (fun _ _ i _=>n1 - (intOf i).toNat)
 case atStart=>exact ⟨0,none,0,0,[],0,by omega,by omega,rfl,rfl,rfl,by omega,by omega,Own.nil_ _ _ _ _,rfl,Below.refl _ _⟩
 case round =>
  obtain ⟨k,A2,n2,c2,o,next,hk,hn2,rfl,rfl,rfl,hx0,hx1,ho,HO,hb⟩:=hrel
  have hbs:=hb.size
  by_cases hlt : k < n1
  ·obtain ⟨b,off,lo,hi,rfl,Hx,hc1,hc2⟩:=hrd.atR (k:=k) (by have:=Hn1.out;omega)
   have hr1:=cell_keep hc1 hb
   have hr2:=cell_keep hc2 hb
   obtain ⟨hb0,hb1',hb2⟩ : 0≤lo∧lo≤hi∧hi≤1114111:=by
    have hm:=List.mem_of_getElem? Hx.out
    have:=HNF.out.2 _ hm;have:=Nf_le HNF.out.1 _ hm;simp only at *;omega
   have HD:=Lib.hid (drop_cons_of Hx.out)
   by_cases hc : next < lo
   ·go_wp2_with (at_builtin;go_must (refine wpList_app rfl (.tmp 22) (.tmp 31) _ rfl w1.heap.size 262 i0 _ 2 8 Tryz.underlying239 hi0 hz0 hz1 hz2 rfl (by omega) A2 n2 c2 (o.map encR) rfl (ho.alloc _) _ 1 1 [encR (next,lo - 1)] rfl rfl (Rd.newAt (by simp) rfl) (encR_ok [(next,lo - 1)]) (by unfold maxLen;omega) (by omega) (by simp;omega) ?_);intro A3 c3 w3 ho3 hg3 hA3;have hb3:=below_app (hb.alloc hbs (.cells #[.int .i32 next,.int .i32 (lo - 1)] 262)) hg3 (by simp;omega) (fun a ha=>(ho.lt a ha).1);clear hg3;have h3:=cell_keep hc2 hb3)
    have Ho3 : Own w3 w1.heap.size 262 2 A3 (n2+1) c3 ((o++[(next,lo - 1)]).map encR):=by rw [List.map_append];exact ho3
    clear ho3
    go_roundw
    case rel=>exact ⟨k+1,A3,n2+1,c3,o++[(next,lo - 1)],hi+1,by omega,by omega,rfl,rfl,by go_num,by omega,by omega,Ho3,Lib.hid (by rw [← HO.out,HD.out,notGo_cons,if_pos hc,List.append_assoc]),hb3⟩
    case measure=>simp [intOf];omega
   ·have hge : lo≤next:=by omega
    go_wp2
    go_roundw
    case rel=>exact ⟨k+1,A2,n2,c2,o,hi+1,by omega,by omega,rfl,rfl,by go_num,by omega,by omega,ho,Lib.hid (by rw [← HO.out,HD.out,notGo_cons,if_neg hc,List.nil_append]),hb⟩
    case measure=>simp [intOf];omega
  ·have Hdr : Hid ((normR l).drop k = []):=Lib.hid (List.drop_of_length_le (by have:=Hn1.out;omega))
   by_cases hc : next≤1114111
   ·go_wp2_with (at_builtin;go_must (refine wpList_app rfl (.tmp 41) (.tmp 44) _ rfl w1.heap.size 262 i0 _ 2 8 Tryz.underlying239 hi0 hz0 hz1 hz2 rfl (by omega) A2 n2 c2 (o.map encR) rfl (ho.alloc _) _ 1 1 [encR (next,1114111)] rfl rfl (Rd.newAt (by simp) rfl) (encR_ok [(next,1114111)]) (by unfold maxLen;omega) (by omega) (by simp;omega) ?_);intro A3 c3 w3 ho3 hg3 hA3;have hb3:=below_app (hb.alloc hbs (.cells #[.int .i32 next,.int .i32 1114111] 262)) hg3 (by simp;omega) (fun a ha=>(ho.lt a ha).1);clear hg3)
    have Ho3 : Own w3 w1.heap.size 262 2 A3 (n2+1) c3 ((o++[(next,1114111)]).map encR):=by rw [List.map_append];exact ho3
    clear ho3
    go_ret
    exact ⟨_,_,_,rfl,by have:=HO.out;rw [Hdr.out,notGo_nil,if_pos hc] at this;rw [← this];exact Ho3.more hbs1,below_step hb1 hb3 hbs1⟩
   ·have hgt : 1114111 < next:=by omega
    have HE : Hid (o = notR l):=Lib.hid (by have:=HO.out;rw [Hdr.out,notGo_nil,if_neg hc,List.append_nil] at this;exact this)
    obtain rfl : next = 1114112:=by omega
    clear hc hx1 hx0 hgt
    go_wp2
    go_ret
    exact ⟨_,_,_,rfl,by rw [← HE.out];exact ho.more hbs1,below_step hb1 hb hbs1⟩
end
section
/-- The first rune of a text. -/
def firstP (s : ByteArray) : Nat × Nat := match runesP s with
  | [] => (0, 0)
  | x :: _ => (x.1, x.2.2)
theorem firstP_eq (s : ByteArray) : firstP s = if 0 < s.size then Utf8.decode s 0 else (0,0):=by
 unfold firstP runesP
 split
 ·rename_i h
  by_cases h0 : 0 < s.size
  ·obtain ⟨g,_,hg⟩:=runesGo_step (s:=s) (f:=s.size) (a:=0) h0 (by omega)
   rw [hg] at h;simp at h
  ·rw [if_neg h0]
 ·rename_i x r h
  by_cases h0 : 0 < s.size
  ·obtain ⟨g,_,hg⟩:=runesGo_step (s:=s) (f:=s.size) (a:=0) h0 (by omega)
   rw [hg] at h;injection h with h _;subst h
   simp [h0]
  ·rw [runesGo_end (by omega)] at h;simp at h
end
section
open Go.RowKit
def encRn (x : Nat × Nat × Nat) : List Value:=[.int .i32 x.1,.int .i64 x.2.1,.int .i64 x.2.2]
theorem encRn_ok (l : List (Nat × Nat × Nat)) : ∀ y ∈ l.map encRn,y.length = 3∧∀ u ∈ y,u.oneCell' = true:=by
 intro y hy;obtain ⟨r,_,rfl⟩:=List.mem_map.1 hy
 exact ⟨rfl,by simp [encRn,Value.oneCell']⟩
theorem infoRR : (Tryz.prog.info? 225).map (fun i=>(i.zero,i.size,i.bytes)) = some (some (.agg #[.int .i32 0,.int .i64 0,.int .i64 0]),3,24):=by kernel_rfl
/-- How far Runes has come. -/
def RunesAt (s : ByteArray) (p f : Nat) (o : List (Nat × Nat × Nat)) : Prop :=
  (o = [] ∧ p = 0 ∧ runesGo s f 0 = runesP s) ∨ ∃ o' r a, o = o' ++ [(r, a, s.size)] ∧ o' ++ (r, a, p) :: runesGo s f p = runesP s
theorem runesAt_first {s : ByteArray} {f : Nat} (h : runesGo s (f+1) 0 = runesP s) (h0 : 0 < s.size) {R W : Nat} (hd : Utf8.decode s 0 = (R,W)) : RunesAt s (0+W) f ([]++[(R,0,s.size)]):=by
 refine .inr ⟨[],R,0,rfl,?_⟩
 rw [← h,runesGo,if_pos h0,hd];rfl
theorem runesAt_next {s : ByteArray} {f p r a : Nat} {o' : List (Nat × Nat × Nat)} (h : o'++(r,a,p) :: runesGo s (f+1) p = runesP s) (hp : p < s.size) {R W : Nat} (hd : Utf8.decode s p = (R,W)) :
  RunesAt s (p+W) f (o'++[(r,a,p)]++[(R,p,s.size)]):=by
 refine .inr ⟨o'++[(r,a,p)],R,p,rfl,?_⟩
 rw [← h,runesGo,if_pos hp,hd];simp
theorem runesAt_end {s : ByteArray} {f p : Nat} {o : List (Nat × Nat × Nat)} (h : RunesAt s p f o) (hp : p = s.size) : o = runesP s:=by
 subst hp
 rcases h with ⟨rfl,h0,h⟩ | ⟨o',r,a,rfl,h⟩
 ·rw [← h,runesGo_end (by omega)]
 ·rw [← h,runesGo_end (Nat.le_refl _)]
theorem sRunes_any (s : ByteArray) (w : World) (hs : s.size≤1000000) :
  Calls Tryz.prog 152 #[.string s] w fun e w'=>∃ A n c,e = .returned (.slice A n c)∧Own w' w.heap.size 225 3 A n c ((runesP s).map encRn)∧Below w.heap.size w w':=by
 obtain ⟨i0,hi0,hz0,hz1,hz2⟩:=info_parts infoRR
 go_enter Tryz.func152,Tryz.ntmps152
 go_wp2
 go_loopw [3] (fun v wr=>∃ (p f : Nat) (A1 : Option Addr) (n1 c1 : Nat) (o : List (Nat × Nat × Nat)),v = .slice A1 n1 c1∧wr.heap[w.heap.size]? = some (.stringIter s p)∧Own wr (w.heap.size+1) 225 3 A1 n1 c1 (o.map encRn) ∧
   n1≤p∧p≤s.size∧s.size≤p+f∧Hid (RunesAt s p f o)∧Below w.heap.size w wr) (fun _ wr=>s.size - wr.iterPos w.heap.size)
 case atStart=>exact ⟨0,s.size,none,0,0,[],rfl,iter_new _ _ _,Own.nil_ _ _ _ _,by omega,by omega,by omega,.inl ⟨rfl,rfl,rfl⟩,below_iter (Below.refl _ _) (Nat.le_refl _) _ _⟩
 case round =>
  obtain ⟨p,f,A1,n1,c1,o,rfl,hit,ho,hn1,hps,hf,HR,hb⟩:=hrel
  have hsz : w.heap.size < wr.heap.size:=(Array.getElem?_eq_some_iff.1 hit).1
  have Hpos:=Lib.hid (iterPos_of hit)
  by_cases hp : p < s.size
  ·obtain ⟨⟨R,W⟩,HD⟩ : ∃ d,Utf8.decode s p = d:=⟨_,rfl⟩
   have hd:=dec_bd s p hp
   have hnx : ∀ ty,(Instr.next (.pointer (some ⟨w.heap.size,0,none⟩)) true ty).run Tryz.prog wr = _:=fun ty=>Lib.run_next_any_at wr w.heap.size s p ty hit hp
   have hit2:=Lib.iterAt_heap wr w.heap.size s p (p+(Utf8.decode s p).2) hit
   have hb2:=Lib.below_iterAt hb (k:=w.heap.size) (Nat.le_refl _) s (p+(Utf8.decode s p).2)
   have ho2:=ho.iterAt (k:=w.heap.size) (by omega) s (p+(Utf8.decode s p).2)
   have hsz2 : w.heap.size < (wr.iterAt w.heap.size s (p+(Utf8.decode s p).2)).heap.size:=by rw [Lib.iterAt_size];exact hsz
   rw [HD] at hd hnx hit2 hb2 ho2 hsz2
   simp only at hd hnx hit2 hb2 ho2 hsz2
   have HD:=Lib.hid HD
   obtain ⟨f,rfl⟩ : ∃ f',f = f'+1:=⟨f - 1,by omega⟩
   generalize wr.iterAt w.heap.size s (p+W) = w2 at hnx hit2 hb2 ho2 hsz2
   clear ho hb hit hsz
   rcases HR.out with ⟨rfl,rfl,hrun⟩ | ⟨o',r,a,rfl,hrun⟩
   ·have HA:=Lib.hid (runesAt_first hrun hp HD.out)
    obtain rfl : n1 = 0:=by omega
    clear hrun HR
    go_wp2_with (at_builtin;go_must (refine wpList_app rfl (.tmp 22) (.tmp 28) _ rfl (w.heap.size+1) 225 i0 _ 3 24 Tryz.underlying211 hi0 hz0 hz1 hz2 rfl (by omega) A1 0 c1 ([].map encRn) rfl (ho2.alloc _) _ 1 1 [encRn (R,0,s.size)] rfl rfl (Rd.newAt (by simp) rfl) (encRn_ok [(R,0,s.size)]) (by unfold maxLen;omega) (by omega) (by simp;omega) ?_);intro A3 c3 w3 ho3 hg3 hA3;have hit3:=hg3.block w.heap.size (by simp;omega) (fun e=>by cases A1 with | none=>simp at e | some a=>have:=(ho2.lt a rfl).1;simp at e;omega);have hb3:=below_app (hb2.alloc (by omega) _) hg3 (by simp;omega) (fun a ha=>by have:=(ho2.lt a ha).1;omega);clear hg3)
    have hit4 : w3.heap[w.heap.size]? = some (.stringIter s (0+W)):=hit3.trans ((Below.heap_alloc _ _ _ hsz2).trans hit2)
    have Ho3 : Own w3 (w.heap.size+1) 225 3 A3 1 c3 (([]++[(R,0,s.size)]).map encRn):=by rw [List.map_append];exact ho3
    clear hit3 ho3
    go_roundw
    case rel=>exact ⟨0+W,f,A3,1,c3,[]++[(R,0,s.size)],rfl,hit4,Ho3,by omega,by omega,by omega,HA,hb3⟩
    case measure=>rw [iterPos_of hit4,Hpos.out];omega
   ·have HA:=Lib.hid (runesAt_next hrun hp HD.out)
    obtain ⟨j,rfl⟩ : ∃ j,n1 = j+1:=⟨n1 - 1,by have:=ho2.len;simp at this;omega⟩
    obtain ⟨g,rfl,hgB,hgl⟩:=ho2.form (by omega)
    have Hj : Hid (o'.length = j):=Lib.hid (by have:=ho2.len;simpa using this)
    have hx : ((o'++[(r,a,s.size)]).map encRn)[j]? = some (encRn (r,a,s.size)):=by have:=Hj.out;subst this;simp
    have hc:=ho2.cell (k:=j) (j:=2) (u:=.int .i64 s.size) hx rfl
    have hfz:=ho2.frozen (j*3+2)
    have ho4:=ho2.stored (k:=j) (j:=2) hx (by omega) (.int .i64 p)
    have he : ((o'++[(r,a,s.size)]).map encRn).set j ((encRn (r,a,s.size)).set 2 (.int .i64 p)) = (o'++[(r,a,p)]).map encRn:=by
     rw [List.map_append,List.map_append]
     have:=set_mid (o'.map encRn) (encRn (r,a,s.size)) ((encRn (r,a,s.size)).set 2 (.int .i64 p)) []
     rw [List.length_map,Hj.out] at this
     exact this
    rw [he] at ho4
    have hb4:=hb2.setCell (p:=⟨g,j*3+2,none⟩) (by simp only;omega) (.int .i64 p)
    have hit4 : (w2.setCell ⟨g,j*3+2,none⟩ (.int .i64 p)).heap[w.heap.size]? = some (.stringIter s (p+W)):=(Below.heap_setCell w2 ⟨g,j*3+2,none⟩ _ w.heap.size (by simp only;omega)).trans hit2
    have hw1 : IntKind.i64.wrap (j : Int) = j:=IntWalk.i64_in _ (by omega)
    clear hrun HR hx he hit2 hb2
    go_wp2_with (at_builtin;go_must (refine wpList_app rfl (.tmp 22) (.tmp 28) _ rfl (w.heap.size+1) 225 i0 _ 3 24 Tryz.underlying211 hi0 hz0 hz1 hz2 rfl (by omega) (some ⟨g,0,none⟩) (j+1) c1 ((o'++[(r,a,p)]).map encRn) rfl (ho4.alloc _) _ 1 1 [encRn (R,p,s.size)] rfl rfl (Rd.newAt (by simp) rfl) (encRn_ok [(R,p,s.size)]) (by unfold maxLen;omega) (by omega) (by simp;omega) ?_);intro A3 c3 w3 ho3 hg3 hA3;have hit3:=hg3.block w.heap.size (by simp;omega) (fun e=>by simp at e;omega);have hb3:=below_app (hb4.alloc (by simp;omega) _) hg3 (by simp;omega) (fun a ha=>by cases ha;simp only;omega);clear hg3)
    have hit5 : w3.heap[w.heap.size]? = some (.stringIter s (p+W)):=hit3.trans ((Below.heap_alloc _ _ _ (by simpa using hsz2)).trans hit4)
    have Ho3 : Own w3 (w.heap.size+1) 225 3 A3 (j+1+1) c3 ((o'++[(r,a,p)]++[(R,p,s.size)]).map encRn):=by rw [List.map_append];exact ho3
    clear hit3 ho3
    go_roundw
    case rel=>exact ⟨p+W,f,A3,j+1+1,c3,o'++[(r,a,p)]++[(R,p,s.size)],rfl,hit5,Ho3,by omega,by omega,by omega,HA,hb3⟩
    case measure=>rw [iterPos_of hit5,Hpos.out];omega
  ·have hnx : ∀ ty,(Instr.next (.pointer (some ⟨w.heap.size,0,none⟩)) true ty).run Tryz.prog wr = _:=fun ty=>Lib.run_next_end_at wr w.heap.size s p ty hit hp
   have HE:=Lib.hid (runesAt_end HR.out (by omega))
   go_wp2
   go_ret
   exact ⟨_,_,_,rfl,by rw [← HE.out];exact ho.more (by omega),hb⟩
end
section
open Go.RowKit
theorem ret_eq {v v' : Value} (h : v = v') : Ending.returned v = .returned v':=by rw [h]
theorem sFirst_any (s : ByteArray) (w : World) (hs : s.size≤1000000) :
  Calls Tryz.prog 253 #[.string s] w fun e w'=>e = .returned (.tuple #[.int .i32 (firstP s).1,.int .i64 (firstP s).2])∧Below w.heap.size w w':=by
 cases hr : runesP s with
 | nil =>
  have HF : Hid (firstP s = (0,0)):=Lib.hid (by unfold firstP;rw [hr])
  have Hr:=Lib.hid hr
  clear hr
  go_enter Tryz.func253,Tryz.ntmps253
  go_wp2_with (go_at_call 152;go_must (refine (sRunes_any s _ hs).mono ?_);rintro e w1 ⟨A1,n1,c1,rfl,ho1,hb1⟩;obtain rfl : n1 = 0:=by have:=ho1.len;rw [Hr.out] at this;simpa using this.symm)
  go_ret2
  exact ⟨ret_eq (by rw [HF.out];rfl),hb1⟩
 | cons x r =>
  obtain ⟨R,a,b⟩:=x
  have HF : Hid (firstP s = (R,b)):=Lib.hid (by unfold firstP;rw [hr])
  have Hr:=Lib.hid hr
  clear hr
  go_enter Tryz.func253,Tryz.ntmps253
  go_wp2_with fail
  refine (sRunes_any s _ hs).mono ?_
  rintro e w1 ⟨A1,n1,c1,rfl,ho1,hb1⟩
  rw [Hr.out] at ho1
  have hn : 0 < n1:=by have:=ho1.len;simp at this;omega
  obtain ⟨g,rfl,_,_⟩:=ho1.form hn
  have k0:=ho1.cell (k:=0) (j:=0) (u:=.int .i32 R) rfl rfl
  have k2:=ho1.cell (k:=0) (j:=2) (u:=.int .i64 b) rfl rfl
  simp only [Nat.zero_mul,Nat.zero_add] at k0 k2
  have hne : ((n1 : Int) == 0) = false:=by rw [beq_eq_false_iff_ne];omega
  clear ho1
  go_wp2_with fail
  go_quiet (fail)
  go_wp2
  go_ret2
  exact ⟨ret_eq (by rw [HF.out];rfl),below_drewN hb1 _⟩
def digP (c : Int) : Int × Bool:=if isHexN c then (hexDig c,true) else (0,false)
theorem digP_t {c : Int} (h : isHexN c = true) : digP c = (hexDig c,true):=if_pos h
theorem digP_f {c : Int} (h : isHexN c = false) : digP c = (0,false):=if_neg (by rw [h];exact Bool.false_ne_true)
theorem sdigit_any (c : Int) (w : World) (h0 : 0≤c) (h1 : c≤255) : Calls Tryz.prog 255 #[.int .u8 c] w fun e w'=>e = .returned (.tuple #[.int .i64 (digP c).1,.bool (digP c).2])∧w = w':=by
 rcases (by omega : c < 48∨(48≤c∧c≤57)∨(57 < c∧c < 65)∨(65≤c∧c≤70)∨70 < c) with h | ⟨h,h'⟩ | ⟨h,h'⟩ | ⟨h,h'⟩ | h
 ·have HE : Hid (digP c = (0,false)):=digP_f (isHexN_f (by omega)).symm
  go_enter Tryz.func255,Tryz.ntmps255
  go_wp2
  go_ret2
  exact ⟨ret_eq (by rw [HE.out];rfl),rfl⟩
 ·have HE : Hid (digP c = (c - 48,true)):=by
   have:=digP_t (c:=c) (isHexN_t (by omega)).symm;unfold hexDig at this;rw [if_pos (by omega)] at this;exact this
  go_enter Tryz.func255,Tryz.ntmps255
  go_wp2
  go_ret2
  exact ⟨ret_eq (by rw [HE.out];rfl),rfl⟩
 ·have HE : Hid (digP c = (0,false)):=digP_f (isHexN_f (by omega)).symm
  go_enter Tryz.func255,Tryz.ntmps255
  go_wp2
  go_ret2
  exact ⟨ret_eq (by rw [HE.out];rfl),rfl⟩
 ·have HE : Hid (digP c = (c - 65+10,true)):=by
   have:=digP_t (c:=c) (isHexN_t (by omega)).symm;unfold hexDig at this;rw [if_neg (by omega)] at this;exact this.trans (by congr 1;omega)
  go_enter Tryz.func255,Tryz.ntmps255
  go_wp2
  go_ret2
  exact ⟨ret_eq (by rw [HE.out];rfl),rfl⟩
 ·have HE : Hid (digP c = (0,false)):=digP_f (isHexN_f (by omega)).symm
  go_enter Tryz.func255,Tryz.ntmps255
  go_wp2
  go_ret2
  exact ⟨ret_eq (by rw [HE.out];rfl),rfl⟩
theorem get_bang (s : ByteArray) (i : Nat) : s.get! i = s.data.toList.getD i 0:=by
 cases s with
 | mk d =>
  show d[i]! = d.toList.getD i 0
  by_cases h : i < d.size
  ·rw [getElem!_pos d i h];simp [List.getD,h]
  ·rw [getElem!_neg d i h];simp [List.getD,h];rfl
theorem decodeN_more {n m : Nat} (b0 b1 b2 b3 : Nat) (hn : 4≤n) (hm : 4≤m) : Lib.decodeN n b0 b1 b2 b3 = Lib.decodeN m b0 b1 b2 b3:=by
 unfold Lib.decodeN
 simp only [show 1 < n by omega,show 2 < n by omega,show 3 < n by omega,show 1 < m by omega,show 2 < m by omega,show 3 < m by omega]
theorem window_get (s : ByteArray) (p e j : Nat) (he : e = min (p+5) s.size) (hj : j < 4) : (s.extract p e).get! j = s.get! (p+j):=by
 rw [get_bang,get_bang,Lib.extract_data]
 by_cases h : p+j < s.size
 ·simp [List.getD,List.getElem?_drop,show j < e - p by omega]
 ·have h1 : s.data.toList.length≤p+j:=by rw [size_data];omega
  simp only [List.getD,List.getElem?_take,List.getElem?_drop]
  rw [List.getElem?_eq_none h1]
  split <;> rfl
/-- A window of five bytes shows the rune that stands there. -/
theorem decode_window (s : ByteArray) (p e : Nat) (hp : p < s.size) (he : e = min (p + 5) s.size) : Utf8.decode (s.extract p e) 0 = Utf8.decode s p := by
  have hsz : (s.extract p e).size = e - p := by rw [← size_data, Lib.extract_data, List.length_take, List.length_drop, size_data]; omega
  have g0 := window_get s p e 0 he (by omega)
  have g1 := window_get s p e 1 he (by omega)
  have g2 := window_get s p e 2 he (by omega)
  have g3 := window_get s p e 3 he (by omega)
  rw [Lib.decode_at, Lib.decode_at, hsz]
  simp only [Nat.zero_add, Nat.add_zero, Nat.sub_zero] at g0 g1 g2 g3 ⊢
  rw [g0, g1, g2, g3]
  by_cases h5 : s.size - p < 5
  · rw [show e - p = s.size - p by omega]
  · exact decodeN_more _ _ _ _ (by omega) (by omega)
theorem first_window (s : ByteArray) (a e : Nat) (ha : a≤s.size) (he : e = min (a+5) s.size) : ((firstP (s.extract a e)).2 = (runeAt s a).2)∧((runeAt s a).2 ≠ 0→(firstP (s.extract a e)).1 = (runeAt s a).1):=by
 have hsz : (s.extract a e).size = e - a:=by rw [← size_data,Lib.extract_data,List.length_take,List.length_drop,size_data];omega
 rw [firstP_eq,hsz]
 unfold runeAt
 by_cases h : a < s.size
 ·rw [if_pos (by omega),if_pos h,decode_window s a e h he]
  exact ⟨rfl,fun _=>rfl⟩
 ·rw [if_neg (by omega),if_neg h]
  exact ⟨rfl,fun h=>absurd rfl h⟩
/-- A rune between two ' : the rune, its width, and whether all of it is there. -/
def quotedP (s : ByteArray) (a : Nat) : Nat × Nat × Bool :=
  if (rest s a).head? = some 39 ∧ (runeAt s (a + 1)).2 ≠ 0 ∧ (rest s (a + 1 + (runeAt s (a + 1)).2)).head? = some 39 then ((runeAt s (a + 1)).1, (runeAt s (a + 1)).2, true) else (0, 0, false)
theorem byte_ne' {x : UInt8} {n : Nat} (h : ¬ x = UInt8.ofNat n) (hn : n < 256:=by decide) : ((x.toNat : Int) != (n : Int)) = true:=by
 rw [bne_iff_ne];intro e
 exact h (UInt8.toNat_inj.1 (by rw [show x.toNat = n by omega];exact (UInt8.toNat_ofNat_of_lt' hn).symm))
theorem sQuoted_any (s : ByteArray) (a : Nat) (w : World) (ha : a≤s.size) (hs : s.size≤1000000) :
  Calls Tryz.prog 217 #[.string s,.int .i64 a] w fun e w'=>e = .returned (.tuple #[.int .i32 (quotedP s a).1,.int .i64 (quotedP s a).2.1,.bool (quotedP s a).2.2])∧Below w.heap.size w w':=by
 by_cases hlt : a < s.size
 ·by_cases h39 : s[a]'hlt = 39
  ·have hq : (((s[a]'hlt).toNat : Int) != 39) = false:=by rw [h39];rfl
   have h39' : Hid ((rest s a).head? = some 39):=Lib.hid (by rw [rest_head hlt,h39])
   clear h39
   obtain ⟨e,he,he2⟩ : ∃ e,Hid (e = min (a+1+5) s.size)∧(e = a+6∧a+6≤s.size∨e = s.size∧s.size < a+6):=⟨_,rfl,by omega⟩
   have hfw:=first_window s (a+1) e (by omega) he.out
   have hbd:=runeAt_bd s (a+1) (by omega)
   obtain ⟨⟨R,W⟩,hR0⟩ : ∃ d,runeAt s (a+1) = d:=⟨_,rfl⟩
   rw [hR0] at hfw hbd
   simp only at hfw hbd
   have HR:=Lib.hid hR0
   clear hR0
   have hsz : (s.extract (a+1) e).size≤1000000:=by rw [ByteArray.size_extract];omega
   rcases he2 with ⟨rfl,h6⟩ | ⟨rfl,h6⟩
   ·go_enter Tryz.func217,Tryz.ntmps217
    go_wp2_with fail
    refine (sFirst_any _ _ hsz).mono ?_
    rintro e w1 ⟨rfl,hb1⟩
    obtain ⟨⟨R',W'⟩,HF⟩ : ∃ d,firstP (s.extract (a+1) (a+6)) = d:=⟨_,rfl⟩
    rw [HF] at hfw ⊢
    simp only at hfw ⊢
    obtain ⟨rfl,hfw⟩:=hfw
    have Hfw:=Lib.hid hfw
    clear hfw HF
    by_cases hW : W' = 0
    ·subst hW
     have HE : Hid (quotedP s a = (0,0,false)):=Lib.hid (by unfold quotedP;rw [HR.out];exact if_neg (fun h=>h.2.1 rfl))
     go_wp2
     go_ret3
     exact ⟨ret_eq (by rw [HE.out];rfl),hb1⟩
    ·obtain rfl : R' = R:=Hfw.out hW
     have hW0 : ((W' : Int) == 0) = false:=by rw [beq_eq_false_iff_ne];omega
     have HW:=Lib.hid hW
     clear hW
     by_cases hend : a+1+W' < s.size
     ·have HH:=Lib.hid (rest_head hend)
      by_cases h39 : s[a+1+W']'hend = 39
      ·have hq : (((s[a+1+W']'hend).toNat : Int) != 39) = false:=by rw [h39];rfl
       have HE : Hid (quotedP s a = (R',W',true)):=Lib.hid (by unfold quotedP;rw [HR.out];exact if_pos ⟨h39'.out,HW.out,by rw [HH.out,h39]⟩)
       clear h39
       go_wp2
       go_ret3
       exact ⟨ret_eq (by rw [HE.out];rfl),hb1⟩
      ·have hq : (((s[a+1+W']'hend).toNat : Int) != 39) = true:=byte_ne' (n:=39) h39
       have HE : Hid (quotedP s a = (0,0,false)):=Lib.hid (by unfold quotedP;rw [HR.out];exact if_neg (fun h=>h39 (by have:=h.2.2;simp only at this;rw [HH.out] at this;exact Option.some.inj this)))
       clear h39
       go_wp2
       go_ret3
       exact ⟨ret_eq (by rw [HE.out];rfl),hb1⟩
     ·exfalso;omega
   ·go_enter Tryz.func217,Tryz.ntmps217
    go_wp2_with fail
    refine (sFirst_any _ _ hsz).mono ?_
    rintro e w1 ⟨rfl,hb1⟩
    obtain ⟨⟨R',W'⟩,HF⟩ : ∃ d,firstP (s.extract (a+1) s.size) = d:=⟨_,rfl⟩
    rw [HF] at hfw ⊢
    simp only at hfw ⊢
    obtain ⟨rfl,hfw⟩:=hfw
    have Hfw:=Lib.hid hfw
    clear hfw HF
    by_cases hW : W' = 0
    ·subst hW
     have HE : Hid (quotedP s a = (0,0,false)):=Lib.hid (by unfold quotedP;rw [HR.out];exact if_neg (fun h=>h.2.1 rfl))
     go_wp2
     go_ret3
     exact ⟨ret_eq (by rw [HE.out];rfl),hb1⟩
    ·obtain rfl : R' = R:=Hfw.out hW
     have hW0 : ((W' : Int) == 0) = false:=by rw [beq_eq_false_iff_ne];omega
     have HW:=Lib.hid hW
     clear hW
     by_cases hend : a+1+W' < s.size
     ·have HH:=Lib.hid (rest_head hend)
      by_cases h39 : s[a+1+W']'hend = 39
      ·have hq : (((s[a+1+W']'hend).toNat : Int) != 39) = false:=by rw [h39];rfl
       have HE : Hid (quotedP s a = (R',W',true)):=Lib.hid (by unfold quotedP;rw [HR.out];exact if_pos ⟨h39'.out,HW.out,by rw [HH.out,h39]⟩)
       clear h39
       go_wp2
       go_ret3
       exact ⟨ret_eq (by rw [HE.out];rfl),hb1⟩
      ·have hq : (((s[a+1+W']'hend).toNat : Int) != 39) = true:=byte_ne' (n:=39) h39
       have HE : Hid (quotedP s a = (0,0,false)):=Lib.hid (by unfold quotedP;rw [HR.out];exact if_neg (fun h=>h39 (by have:=h.2.2;simp only at this;rw [HH.out] at this;exact Option.some.inj this)))
       clear h39
       go_wp2
       go_ret3
       exact ⟨ret_eq (by rw [HE.out];rfl),hb1⟩
     ·have HE : Hid (quotedP s a = (0,0,false)):=Lib.hid (by unfold quotedP;rw [HR.out];exact if_neg (fun h=>by have:=h.2.2;simp only at this;rw [rest_none (by omega)] at this;simp at this))
      go_wp2
      go_ret3
      exact ⟨ret_eq (by rw [HE.out];rfl),hb1⟩
  ·have hq : (((s[a]'hlt).toNat : Int) != 39) = true:=byte_ne' (n:=39) h39
   have HE : Hid (quotedP s a = (0,0,false)):=Lib.hid (if_neg (fun h=>h39 (by have:=h.1;rw [rest_head hlt] at this;exact Option.some.inj this)))
   clear h39
   go_enter Tryz.func217,Tryz.ntmps217
   go_wp2
   go_ret3
   exact ⟨ret_eq (by rw [HE.out];rfl),Below.refl _ _⟩
 ·have HE : Hid (quotedP s a = (0,0,false)):=Lib.hid (if_neg (fun h=>by have:=h.1;rw [rest_none (by omega)] at this;simp at this))
  go_enter Tryz.func217,Tryz.ntmps217
  go_wp2
  go_ret3
  exact ⟨ret_eq (by rw [HE.out];rfl),Below.refl _ _⟩
end
section
open Go.RowKit
theorem results_tmp4 {fn : Func} {t u v x : Tmp} (h : fn.results = #[.tmp t,.tmp u,.tmp v,.tmp x]) (tmps : Array Value) (P : Program) (w : World) :
  (results fn tmps).run P w = .ok (.tuple #[tmps.getD t undef,tmps.getD u undef,tmps.getD v undef,tmps.getD x undef]) w:=by
 simp [results,h]
/-- What spelling hands back. -/
def spellV : Except (Int × Nat) (Int × Nat) → Value
  | .error x => .tuple #[.int .i32 0, .int .i64 0, .int .i64 x.1, .int .i64 x.2]
  | .ok (r, q) => .tuple #[.int .i32 r, .int .i64 q, .int .i64 0, .int .i64 0]
theorem spell_err {x : Except (Int × Nat) (Int × Nat)} {e : Int} {p : Nat} {v : Value} (h : x = .error (e,p)) (hv : v = .tuple #[.int .i32 0,.int .i64 0,.int .i64 e,.int .i64 p]) : Ending.returned v = .returned (spellV x):=by rw [h,hv];rfl
theorem spell_ok {x : Except (Int × Nat) (Int × Nat)} {r : Int} {q : Nat} {v : Value} (h : x = .ok (r,q)) (hv : v = .tuple #[.int .i32 r,.int .i64 q,.int .i64 0,.int .i64 0]) : Ending.returned v = .returned (spellV x):=by rw [h,hv];rfl
theorem hexRun_drop (s : ByteArray) (p : Nat) : ∀ k,k≤(hexRun s p).length→hexRun s (p+k) = (hexRun s p).drop k
 | 0,_=>rfl
 | k+1,hk=>by
  have ih:=hexRun_drop s p k (by omega)
  have hne : hexRun s (p+k) ≠ []:=by
   intro e;rw [e] at ih
   have:=congrArg List.length ih
   simp at this;omega
  by_cases hlt : p+k < s.size
  ·rw [hexRun_cons hlt] at ih hne
   split at ih
   ·rw [← Nat.add_assoc,← List.drop_drop,← ih];rfl
   ·rename_i hx;rw [if_neg hx] at hne;exact absurd rfl hne
  ·rw [hexRun_none (by omega)] at hne;exact absurd rfl hne
theorem hexRun_in {s : ByteArray} {p k : Nat} (hk : k≤(hexRun s p).length) (hlt : p+k < s.size) (hx : isHexN ((s[p+k]'hlt).toNat : Int) = true) :
  k < (hexRun s p).length∧(hexRun s p)[k]? = some (s[p+k]'hlt):=by
 have h:=hexRun_drop s p k hk
 rw [hexRun_cons hlt,if_pos hx] at h
 have h1:=congrArg List.length h
 simp at h1
 refine ⟨by omega,?_⟩
 have h2:=congrArg List.head? h
 rw [List.head?_drop] at h2
 exact h2.symm
theorem hexRun_out {s : ByteArray} {p k : Nat} (hk : k≤(hexRun s p).length) (ho : s.size≤p+k∨∃ h : p+k < s.size,isHexN ((s[p+k]'h).toNat : Int) = false) : k = (hexRun s p).length:=by
 have h:=hexRun_drop s p k hk
 have h0 : hexRun s (p+k) = []:=by
  rcases ho with h | ⟨h,hx⟩
  ·exact hexRun_none h
  ·rw [hexRun_cons h,if_neg (by rw [hx];exact Bool.false_ne_true)]
 rw [h0] at h
 have:=congrArg List.length h
 simp at this;omega
/-- How far the digits have been read. -/
def SpellAt (s : ByteArray) (a k : Nat) (n : Int) : Prop := k ≤ (hexRun s (a + 2)).length ∧ n = hexVal ((hexRun s (a + 2)).take (min k 6))
theorem spellAt_bd {s : ByteArray} {a k : Nat} {n : Int} (h : SpellAt s a k n) : 0≤n∧n≤16777216:=by
 have hb:=hexVal_bd _ _ rfl (fun c hc=>hexRun_all s (a+2) c (List.mem_of_mem_take hc) : allHex ((hexRun s (a+2)).take (min k 6)))
 rw [← h.2] at hb
 have hl : ((hexRun s (a+2)).take (min k 6)).length≤6:=by rw [List.length_take];omega
 have : (16 : Int) ^ ((hexRun s (a+2)).take (min k 6)).length≤16 ^ 6:=by
  rcases (by omega : ((hexRun s (a+2)).take (min k 6)).length = 0∨((hexRun s (a+2)).take (min k 6)).length = 1∨((hexRun s (a+2)).take (min k 6)).length = 2∨((hexRun s (a+2)).take (min k 6)).length = 3∨((hexRun s (a+2)).take (min k 6)).length = 4∨((hexRun s (a+2)).take (min k 6)).length = 5∨((hexRun s (a+2)).take (min k 6)).length = 6) with e | e | e | e | e | e | e <;> rw [e] <;> decide
 omega
theorem spellAt_few {s : ByteArray} {a k : Nat} {n : Int} (h : SpellAt s a k n) (hlt : a+2+k < s.size) (hx : isHexN ((s[a+2+k]'hlt).toNat : Int) = true) (h6 : k < 6) : SpellAt s a (k+1) (16*n+hexDig ((s[a+2+k]'hlt).toNat : Int)):=by
 obtain ⟨h1,h2⟩:=hexRun_in h.1 hlt hx
 refine ⟨h1,?_⟩
 rw [show min (k+1) 6 = min k 6+1 by omega,take_snoc_u8 (by rw [show min k 6 = k by omega];exact h2),hexVal_snoc,← h.2];omega
theorem spellAt_many {s : ByteArray} {a k : Nat} {n : Int} (h : SpellAt s a k n) (hlt : a+2+k < s.size) (hx : isHexN ((s[a+2+k]'hlt).toNat : Int) = true) (h6 : 6≤k) : SpellAt s a (k+1) n:=by
 obtain ⟨h1,h2⟩:=hexRun_in h.1 hlt hx
 exact ⟨h1,by rw [show min (k+1) 6 = min k 6 by omega];exact h.2⟩
theorem spellAt_end {s : ByteArray} {a k : Nat} {n : Int} (h : SpellAt s a k n) (ho : s.size≤a+2+k∨∃ h : a+2+k < s.size,isHexN ((s[a+2+k]'h).toNat : Int) = false) :
  numP s a = if k < 4∨6 < k then .error (21,a) else if 1114111 < n then .error (22,a) else .ok (n,a+2+k):=by
 have hk:=hexRun_out h.1 ho
 unfold numP
 rw [← hk]
 split
 ·rfl
 ·rename_i hc
  have : n = hexVal (hexRun s (a+2)):=by rw [h.2,List.take_of_length_le (by omega)]
  rw [← this]
theorem isPrefix_rest {s : ByteArray} {a : Nat} (h1 : a+1 < s.size) : [85,43].isPrefixOf (rest s a) = (85 == s[a]'(by omega) && (43 == s[a+1]'h1)):=by
 rw [rest_cons (by omega : a < s.size),rest_cons h1];simp [List.isPrefixOf]
theorem notPrefix_rest {s : ByteArray} {a : Nat} (h : [85,43].isPrefixOf (rest s a) = false) : runeP s a = if [39].isPrefixOf (rest s a) then quoP s a else .error (21,a):=by
 unfold runeP;rw [h];rfl
theorem pre39 (s : ByteArray) (a : Nat) : [39].isPrefixOf (rest s a) = true ↔ (rest s a).head? = some 39:=by
 cases h : rest s a with
 | nil=>simp
 | cons x r=>simp [List.isPrefixOf];exact eq_comm
theorem head_lt {s : ByteArray} {a : Nat} {c : UInt8} (h : (rest s a).head? = some c) : a < s.size:=by
 rcases Nat.lt_or_ge a s.size with h1 | h1
 ·exact h1
 ·rw [rest_none h1] at h;simp at h
theorem quoted_no {s : ByteArray} {a r w : Nat} (h : quotedP s a = (r,w,false)) : (if [39].isPrefixOf (rest s a) then quoP s a else .error (21,a)) = .error (21,a):=by
 unfold quotedP at h
 split at h
 ·injection h with _ h;injection h with _ h;cases h
 ·rename_i hn
  by_cases h39 : (rest s a).head? = some 39
  ·rw [if_pos ((pre39 s a).2 h39)]
   unfold quoP
   split
   ·rfl
   ·rename_i hw
    split
    ·rfl
    ·rename_i h3
     exact absurd ⟨h39,hw,Classical.not_not.1 h3⟩ hn
  ·rw [if_neg (fun h=>h39 ((pre39 s a).1 h))]
theorem quoted_yes {s : ByteArray} {a r w : Nat} (h : quotedP s a = (r,w,true)) :
  a+1+w < s.size∧w≤4∧r≤1114111∧(if [39].isPrefixOf (rest s a) then quoP s a else .error (21,a)) = (if r = 65533∧w = 1 then .error (23,a+1) else .ok ((r : Int),a+w+2)):=by
 unfold quotedP at h
 split at h
 ·rename_i hy
  obtain ⟨h1,h2,h3⟩:=hy
  injection h with e1 h;injection h with e2 _
  subst e1;subst e2
  have:=head_lt h1
  have hb:=runeAt_bd s (a+1) (by omega)
  refine ⟨head_lt h3,hb.1,hb.2.2,?_⟩
  rw [if_pos ((pre39 s a).2 h1)]
  unfold quoP
  rw [if_neg h2,if_neg (fun h=>h h3)]
  split
  ·rfl
  ·congr 2;omega
 ·injection h with _ h;injection h with _ h;cases h
theorem spell_num (s : ByteArray) (a : Nat) (w : World) (ha : a+1 < s.size) (h0 : s[a]'(by omega) = 85) (h1 : s[a+1]'ha = 43) (hs : s.size≤1000000) :
  Calls Tryz.prog 220 #[.string s,.int .i64 a] w fun e w'=>e = .returned (spellV (runeP s a))∧Below w.heap.size w w':=by
 have HN : Hid (runeP s a = numP s a):=Lib.hid (by unfold runeP;rw [isPrefix_rest ha,h0,h1];rfl)
 have hq0 : (((s[a]'(by omega)).toNat : Int) == 85) = true:=by rw [h0];rfl
 have hq1 : (((s[a+1]'ha).toNat : Int) == 43) = true:=by rw [h1];rfl
 clear h0 h1
 go_enter Tryz.func220,Tryz.ntmps220
 go_wp2_with fail
 go_loop [8,9] (fun n k=>∃ (k' : Nat) (n' : Int),n = .int .i64 n'∧k = .int .i64 k'∧a+2+k'≤s.size∧Hid (SpellAt s a k' n')) (fun _ k=>s.size - (intOf k).toNat)
 case atStart=>exact ⟨0,0,rfl,rfl,by omega,Lib.hid ⟨by omega,rfl⟩⟩
 case round =>
  obtain ⟨k,n,rfl,rfl,hks,HS⟩:=hrel
  obtain ⟨hn0,hn1⟩:=spellAt_bd HS.out
  by_cases hlt : a+2+k < s.size
  ·have hcb : ((s[a+2+k]'hlt).toNat : Int)≤255:=by have:=(s[a+2+k]'hlt).toNat_lt;omega
   have hcz : 0≤((s[a+2+k]'hlt).toNat : Int):=by omega
   cases hx : isHexN ((s[a+2+k]'hlt).toNat : Int) with
   | true =>
    have HD:=Lib.hid (digP_t hx)
    have hdb:=hexDig_bd hx
    by_cases h6 : k < 6
    ·have HA:=Lib.hid (spellAt_few HS.out hlt hx h6)
     clear hx
     go_wp2_with fail
     refine (sdigit_any _ _ hcz hcb).mono ?_
     rintro e w' ⟨rfl,rfl⟩
     rw [HD.out]
     simp only
     generalize hexDig ((s[a+2+k]'hlt).toNat : Int) = D at hdb HA ⊢
     go_wp2_with fail
     go_round
     case rel=>exact ⟨k+1,16*n+D,rfl,by go_num,by omega,HA⟩
     case measure=>simp [intOf];omega
    ·have HA:=Lib.hid (spellAt_many HS.out hlt hx (by omega))
     have h6' : 6≤k:=by omega
     clear hx h6
     go_wp2_with fail
     refine (sdigit_any _ _ hcz hcb).mono ?_
     rintro e w' ⟨rfl,rfl⟩
     rw [HD.out]
     simp only
     generalize hexDig ((s[a+2+k]'hlt).toNat : Int) = D at hdb ⊢
     go_wp2_with fail
     go_round
     case rel=>exact ⟨k+1,n,rfl,by go_num,by omega,HA⟩
     case measure=>simp [intOf];omega
   | false =>
    have HD:=Lib.hid (digP_f hx)
    have HE:=Lib.hid (spellAt_end HS.out (.inr ⟨hlt,hx⟩))
    clear hx
    rcases (by omega : k < 4∨6 < k∨4≤k∧k≤6∧1114111 < n∨4≤k∧k≤6∧n≤1114111) with h | h | ⟨h,h',h''⟩ | ⟨h,h',h''⟩
    ·have HF : Hid (runeP s a = .error (21,a)):=Lib.hid (by rw [HN.out,HE.out,if_pos (by omega)])
     go_wp2_with fail
     refine (sdigit_any _ _ hcz hcb).mono ?_
     rintro e w' ⟨rfl,rfl⟩
     rw [HD.out]
     simp only
     go_wp2
     refine bodyPost_ret (results_tmp4 rfl _ _ _) rfl ?_
     exact ⟨spell_err HF.out rfl,Below.refl _ _⟩
    ·have HF : Hid (runeP s a = .error (21,a)):=Lib.hid (by rw [HN.out,HE.out,if_pos (by omega)])
     go_wp2_with fail
     refine (sdigit_any _ _ hcz hcb).mono ?_
     rintro e w' ⟨rfl,rfl⟩
     rw [HD.out]
     simp only
     go_wp2
     refine bodyPost_ret (results_tmp4 rfl _ _ _) rfl ?_
     exact ⟨spell_err HF.out rfl,Below.refl _ _⟩
    ·have HF : Hid (runeP s a = .error (22,a)):=Lib.hid (by rw [HN.out,HE.out,if_neg (by omega),if_pos h''])
     go_wp2_with fail
     refine (sdigit_any _ _ hcz hcb).mono ?_
     rintro e w' ⟨rfl,rfl⟩
     rw [HD.out]
     simp only
     go_wp2
     refine bodyPost_ret (results_tmp4 rfl _ _ _) rfl ?_
     exact ⟨spell_err HF.out rfl,Below.refl _ _⟩
    ·have HF : Hid (runeP s a = .ok (n,a+2+k)):=Lib.hid (by rw [HN.out,HE.out,if_neg (by omega),if_neg (by omega)])
     have hw1 : IntKind.i32.wrap n = n:=IntWalk.i32_in _ (by omega)
     go_wp2_with fail
     refine (sdigit_any _ _ hcz hcb).mono ?_
     rintro e w' ⟨rfl,rfl⟩
     rw [HD.out]
     simp only
     go_wp2
     refine bodyPost_ret (results_tmp4 rfl _ _ _) rfl ?_
     exact ⟨spell_ok HF.out rfl,Below.refl _ _⟩
  ·have HE:=Lib.hid (spellAt_end HS.out (.inl (by omega)))
   rcases (by omega : k < 4∨6 < k∨4≤k∧k≤6∧1114111 < n∨4≤k∧k≤6∧n≤1114111) with h | h | ⟨h,h',h''⟩ | ⟨h,h',h''⟩
   ·have HF : Hid (runeP s a = .error (21,a)):=Lib.hid (by rw [HN.out,HE.out,if_pos (by omega)])
    go_wp2
    refine bodyPost_ret (results_tmp4 rfl _ _ _) rfl ?_
    exact ⟨spell_err HF.out rfl,Below.refl _ _⟩
   ·have HF : Hid (runeP s a = .error (21,a)):=Lib.hid (by rw [HN.out,HE.out,if_pos (by omega)])
    go_wp2
    refine bodyPost_ret (results_tmp4 rfl _ _ _) rfl ?_
    exact ⟨spell_err HF.out rfl,Below.refl _ _⟩
   ·have HF : Hid (runeP s a = .error (22,a)):=Lib.hid (by rw [HN.out,HE.out,if_neg (by omega),if_pos h''])
    go_wp2
    refine bodyPost_ret (results_tmp4 rfl _ _ _) rfl ?_
    exact ⟨spell_err HF.out rfl,Below.refl _ _⟩
   ·have HF : Hid (runeP s a = .ok (n,a+2+k)):=Lib.hid (by rw [HN.out,HE.out,if_neg (by omega),if_neg (by omega)])
    have hw1 : IntKind.i32.wrap n = n:=IntWalk.i32_in _ (by omega)
    go_wp2
    refine bodyPost_ret (results_tmp4 rfl _ _ _) rfl ?_
    exact ⟨spell_ok HF.out rfl,Below.refl _ _⟩
end
section
open Go.RowKit
/-- Does a rune's number stand there? As the three tests of the code say it. -/
theorem notPrefix_cases {s : ByteArray} {a : Nat} (h : [85, 43].isPrefixOf (rest s a) = false) :
    s.size ≤ a + 1 ∨ (∃ h1 : a + 1 < s.size, (((s[a]'(by omega)).toNat : Int) == 85) = false) ∨ (∃ h1 : a + 1 < s.size, (((s[a]'(by omega)).toNat : Int) == 85) = true ∧ (((s[a + 1]'h1).toNat : Int) == 43) = false) := by
  by_cases h1 : a + 1 < s.size
  · rw [isPrefix_rest h1] at h
    by_cases h0 : s[a]'(by omega) = 85
    · refine .inr (.inr ⟨h1, by rw [h0]; rfl, ?_⟩)
      have : ¬ s[a + 1]'h1 = 43 := fun e => by rw [h0, e] at h; exact absurd h (by decide)
      have := byte_ne' (n := 43) this
      simpa using this
    · refine .inr (.inl ⟨h1, ?_⟩)
      have := byte_ne' (n := 85) h0
      simpa using this
  · exact .inl (by omega)
theorem sspelling_any (s : ByteArray) (a : Nat) (w : World) (ha : a≤s.size) (hs : s.size≤1000000) :
  Calls Tryz.prog 220 #[.string s,.int .i64 a] w fun e w'=>e = .returned (spellV (runeP s a))∧Below w.heap.size w w':=by
 cases hp : [85,43].isPrefixOf (rest s a) with
 | true =>
  have hl : a+1 < s.size:=by
   have:=(List.isPrefixOf_iff_prefix.1 hp).length_le
   unfold rest at this;rw [List.length_drop,size_data] at this;simp at this;omega
  rw [isPrefix_rest hl] at hp
  simp only [Bool.and_eq_true,beq_iff_eq] at hp
  exact spell_num s a w hl hp.1.symm hp.2.symm hs
 | false =>
  have HN:=Lib.hid (notPrefix_rest hp)
  rcases notPrefix_cases hp with h1 | ⟨h1,hq0⟩ | ⟨h1,hq0,hq1⟩
  all_goals
   clear hp
   go_enter Tryz.func220,Tryz.ntmps220
   go_wp2_with fail
   refine (sQuoted_any s a _ ha hs).mono ?_
   rintro e w1 ⟨rfl,hb1⟩
   obtain ⟨⟨r,wd,ok⟩,HQ⟩ : ∃ d,quotedP s a = d:=⟨_,rfl⟩
   rw [HQ]
   simp only
   cases ok with
   | false =>
    have HF : Hid (runeP s a = .error (21,a)):=Lib.hid (HN.out.trans (quoted_no HQ))
    clear HQ
    go_wp2
    refine bodyPost_ret (results_tmp4 rfl _ _ _) rfl ?_
    exact ⟨spell_err HF.out rfl,hb1⟩
   | true =>
    obtain ⟨hend,hw4,hr,hE⟩:=quoted_yes HQ
    have HE:=Lib.hid (HN.out.trans hE)
    clear HQ hE
    by_cases hr9 : r = 65533
    ·subst hr9
     by_cases hw1 : wd = 1
     ·subst hw1
      have HF : Hid (runeP s a = .error (23,a+1)):=Lib.hid (HE.out.trans (if_pos ⟨rfl,rfl⟩))
      go_wp2
      refine bodyPost_ret (results_tmp4 rfl _ _ _) rfl ?_
      exact ⟨spell_err HF.out rfl,hb1⟩
     ·have HF : Hid (runeP s a = .ok (((65533 : Nat) : Int),a+wd+2)):=Lib.hid (HE.out.trans (if_neg (fun h=>hw1 h.2)))
      have hq : ((wd : Int) == 1) = false:=by rw [beq_eq_false_iff_ne];omega
      clear hw1
      go_wp2
      refine bodyPost_ret (results_tmp4 rfl _ _ _) rfl ?_
      exact ⟨spell_ok HF.out rfl,hb1⟩
    ·have HF : Hid (runeP s a = .ok ((r : Int),a+wd+2)):=Lib.hid (HE.out.trans (if_neg (fun h=>hr9 h.1)))
     have hq : ((r : Int) == 65533) = false:=by rw [beq_eq_false_iff_ne];omega
     clear hr9
     go_wp2
     refine bodyPost_ret (results_tmp4 rfl _ _ _) rfl ?_
     exact ⟨spell_ok HF.out rfl,hb1⟩
end
section
open Go.RowKit
theorem itemP_of {s : ByteArray} {a p : Nat} {lo : Int} (h : runeP s a = .ok (lo,p)) : itemP s a =
  match (if (rest s p).head? = some 45 then runeP s (p+1) else .ok (lo,p)) with
  | .error e=>.error e
  | .ok (hi,q)=>if hi < lo then .error (20,a) else if (rest s q).head? ≠ none∧(rest s q).head? ≠ some 32 then .error (21,q) else .ok ((lo,hi),q):=by
 unfold itemP;rw [h];rfl
theorem itemP_bad {s : ByteArray} {a : Nat} {x : Int × Nat} (h : runeP s a = .error x) : itemP s a = .error x:=by
 unfold itemP;rw [h]
theorem parseGo_blank {s : ByteArray} {f a : Nat} {l : List (Int × Int)} (h : a < s.size) (h32 : s[a]'h = 32) : parseGo s (f+1) a l = parseGo s f (a+1) l:=by
 rw [parseGo,rest_head h];simp only [h32,if_true]
theorem parseGo_item {s : ByteArray} {f a : Nat} {l : List (Int × Int)} (h : a < s.size) (h32 : ¬ s[a]'h = 32) : parseGo s (f + 1) a l = match itemP s a with
      | .error e => .error e
      | .ok (x, q) => parseGo s f q (l ++ [x]) := by
  rw [parseGo, rest_head h]; simp only [h32, if_false]; rfl
theorem parseGo_done {s : ByteArray} {f : Nat} {l : List (Int × Int)} : parseGo s f s.size l = .ok l:=by
 cases f with
 | zero=>rfl
 | succ f=>rw [parseGo,rest_none (Nat.le_refl _)];rfl
/-- How far Parse has come. -/
def ParseAt (s : ByteArray) (f a : Nat) (l : List (Int × Int)) : Prop := parseGo s f a l = parseP s ∧ s.size < a + f ∧ a ≤ s.size
theorem sParse_any (s : ByteArray) (w : World) (hs : s.size≤1000000) :
  Calls Tryz.prog 188 #[.string s] w fun e w'=>Below w.heap.size w w'∧ParseEnd w.heap.size (parseP s) e w':=by
 obtain ⟨i0,hi0,hz0,hz1,hz2⟩:=info_parts infoR
 go_enter Tryz.func188,Tryz.ntmps188
 go_wp2
 go_loopw [5,6] (fun v i wr=>∃ (a : Nat) (l : List (Int × Int)) (A : Option Addr) (n c : Nat),v = .slice A n c∧i = .int .i64 a∧a≤s.size∧n≤a∧Hid (∃ f,ParseAt s f a l)∧Own wr w.heap.size 262 2 A n c (l.map encR)∧Below w.heap.size w wr) (fun _ i _=>s.size - (intOf i).toNat)
 case atStart=>exact ⟨0,[],none,0,0,rfl,rfl,by omega,by omega,Lib.hid ⟨s.size+1,rfl,by omega,by omega⟩,Own.nil_ _ _ _ _,Below.refl _ _⟩
 case round =>
  obtain ⟨a0,l,A,n,c,rfl,rfl,ha0,hna0,HP0,ho,hb⟩:=hrel
  obtain ⟨wo,rfl⟩ : ∃ wo : World,wo = wr:=⟨_,rfl⟩
  have hbs:=hb.size
  go_wp2_with fail
  go_loop [6] (fun i=>∃ a : Nat,i = .int .i64 a∧a0≤a∧a≤s.size∧n≤a∧Hid (∃ f,ParseAt s f a l)) (fun i=>s.size - (intOf i).toNat)
  case atStart=>exact ⟨a0,rfl,by omega,ha0,hna0,HP0⟩
  case round =>
   clear HP0 hna0
   obtain ⟨a,rfl,ha0a,has,hna,HP⟩:=hrel
   by_cases hlt : a < s.size
   ·by_cases h32 : s[a]'hlt = 32
    ·have hq : (((s[a]'hlt).toNat : Int) == 32) = true:=by rw [h32];rfl
     have HP2 : Hid (∃ f,ParseAt s f (a+1) l):=Lib.hid (by
      obtain ⟨f,h1,h2,h3⟩:=HP.out
      obtain ⟨f,rfl⟩ : ∃ f',f = f'+1:=⟨f - 1,by omega⟩
      exact ⟨f,by rw [← h1,parseGo_blank hlt h32],by omega,by omega⟩)
     clear h32 HP
     go_wp2_with fail
     go_round
     case rel=>exact ⟨a+1,by go_num,by omega,by omega,by omega,HP2⟩
     case measure=>simp [intOf];omega
    ·have hq : (((s[a]'hlt).toNat : Int) == 32) = false:=by
      have:=byte_ne (n:=32) h32
      simpa using this
     have HI : Hid (∃ f,s.size < a+(f+1)∧parseP s = match itemP s a with
       | .error e=>.error e
       | .ok (x,q)=>parseGo s f q (l++[x])):=Lib.hid (by
      obtain ⟨f,h1,h2,h3⟩:=HP.out
      obtain ⟨f,rfl⟩ : ∃ f',f = f'+1:=⟨f - 1,by omega⟩
      exact ⟨f,by omega,by rw [← h1,parseGo_item hlt h32]⟩)
     have hne : ((a : Int) == (s.size : Int)) = false:=by rw [beq_eq_false_iff_ne];omega
     clear h32 HP
     go_wp2_with fail
     clear hq hne
     refine (sspelling_any s a _ has hs).mono ?_
     rintro e w1 ⟨rfl,hb1⟩
     have ho1:=ho.below hb1
     have hB1:=below_step hb hb1 hbs
     have hbs1:=hB1.size
     clear ho hb hb1
     cases hr : runeP s a with
     | error x =>
      obtain ⟨e,p⟩:=x
      have hE:=runeP_err hr
      have HF : Hid (parseP s = .error (e,p)):=Lib.hid (by obtain ⟨f,_,h⟩:=HI.out;rw [h,itemP_bad hr])
      have hne : ((e : Int) != 0) = true:=by rw [bne_iff_ne];omega
      clear hr
      simp only [spellV]
      go_wp2
      go_ret3
      exact ⟨hB1,ParseEnd.err HF.out⟩
     | ok y =>
      obtain ⟨lo,p⟩:=y
      obtain ⟨hp1,hp2,hl0,hl1⟩:=runeP_ok hr
      have HU:=Lib.hid (itemP_of hr)
      clear hr
      simp only [spellV]
      by_cases hps : p < s.size
      ·by_cases h45 : s[p]'hps = 45
       ·have hq : (((s[p]'hps).toNat : Int) == 45) = true:=by rw [h45];rfl
        have HU2 : Hid (itemP s a = match runeP s (p+1) with
          | .error e=>.error e
          | .ok (hi,q)=>if hi < lo then .error (20,a) else if (rest s q).head? ≠ none∧(rest s q).head? ≠ some 32 then .error (21,q) else .ok ((lo,hi),q)):=Lib.hid (by rw [HU.out,rest_head hps,h45];rfl)
        clear h45 HU
        go_wp2_with fail
        clear hq
        refine (sspelling_any s (p+1) _ (by omega) hs).mono ?_
        rintro e w2 ⟨rfl,hb2⟩
        have ho2:=ho1.below hb2
        have hB2:=below_step hB1 hb2 hbs1
        have hbs2:=hB2.size
        clear ho1 hB1 hb2 hbs1
        cases hr : runeP s (p+1) with
        | error x =>
         obtain ⟨e,p'⟩:=x
         have hE:=runeP_err hr
         have HF : Hid (parseP s = .error (e,p')):=Lib.hid (by obtain ⟨f,_,h⟩:=HI.out;rw [h,HU2.out,hr])
         have hne : ((e : Int) != 0) = true:=by rw [bne_iff_ne];omega
         clear hr
         simp only [spellV]
         go_wp2
         go_ret3
         exact ⟨hB2,ParseEnd.err HF.out⟩
        | ok y =>
         obtain ⟨hi,q⟩:=y
         obtain ⟨hq1,hq2,hh0,hh1⟩:=runeP_ok hr
         have HU3 : Hid (itemP s a = if hi < lo then .error (20,a) else if (rest s q).head? ≠ none∧(rest s q).head? ≠ some 32 then .error (21,q) else .ok ((lo,hi),q)):=Lib.hid (by rw [HU2.out,hr])
         clear hr HU2
         simp only [spellV]
         by_cases hlo : hi < lo
         ·have HF : Hid (parseP s = .error (20,a)):=Lib.hid (by obtain ⟨f,_,h⟩:=HI.out;rw [h,HU3.out,if_pos hlo])
          clear HI HU3
          go_wp2
          go_ret3
          exact ⟨hB2,ParseEnd.err HF.out⟩
         ·have hlo' : lo≤hi:=by omega
          clear hlo
          by_cases hqs : q < s.size
          ·by_cases h32 : s[q]'hqs = 32
           ·have hq2 : (((s[q]'hqs).toNat : Int) != 32) = false:=by rw [h32];rfl
            have HF : Hid (∃ f,ParseAt s f q (l++[(lo,hi)])):=Lib.hid (by
             obtain ⟨f,h0,h⟩:=HI.out
             refine ⟨f,?_,by omega,by omega⟩
             rw [h,HU3.out,if_neg (by omega),if_neg (by rw [rest_head hqs,h32];simp)])
            clear h32 HI HU3
            go_wp2_with (at_builtin;go_must (refine wpList_app rfl (.tmp 83) (.tmp 87) _ rfl w.heap.size 262 i0 _ 2 8 Tryz.underlying239 hi0 hz0 hz1 hz2 rfl (by omega) A n c (l.map encR) rfl (ho2.alloc _) _ 1 1 [encR (lo,hi)] rfl rfl (Rd.newAt (by simp) rfl) (encR_ok [(lo,hi)]) (by unfold maxLen;omega) (by omega) (by simp;omega) ?_);intro A3 c3 w3 ho3 hg3 hA3;have hb3:=below_app (hB2.alloc hbs2 (.cells #[.int .i32 lo,.int .i32 hi] 262)) hg3 (by simp;omega) (fun a ha=>(ho2.lt a ha).1);clear hg3)
            have Ho3 : Own w3 w.heap.size 262 2 A3 (n+1) c3 ((l++[(lo,hi)]).map encR):=by rw [List.map_append];exact ho3
            clear ho3
            go_roundw
            case rel=>exact ⟨q,l++[(lo,hi)],A3,n+1,c3,rfl,rfl,by omega,by omega,HF,Ho3,hb3⟩
            case measure=>simp [intOf];omega
           ·have hq2 : (((s[q]'hqs).toNat : Int) != 32) = true:=byte_ne (n:=32) h32
            have HF : Hid (parseP s = .error (21,q)):=Lib.hid (by obtain ⟨f,_,h⟩:=HI.out;rw [h,HU3.out,if_neg (by omega),if_pos (by rw [rest_head hqs];simpa using h32)])
            clear h32 HI HU3
            go_wp2
            go_ret3
            exact ⟨hB2,ParseEnd.err HF.out⟩
          ·have HF : Hid (∃ f,ParseAt s f q (l++[(lo,hi)])):=Lib.hid (by
            obtain ⟨f,h0,h⟩:=HI.out
            refine ⟨f,?_,by omega,by omega⟩
            rw [h,HU3.out,if_neg (by omega),if_neg (by rw [rest_none (by omega)];simp)])
           clear HI HU3
           go_wp2_with (at_builtin;go_must (refine wpList_app rfl (.tmp 83) (.tmp 87) _ rfl w.heap.size 262 i0 _ 2 8 Tryz.underlying239 hi0 hz0 hz1 hz2 rfl (by omega) A n c (l.map encR) rfl (ho2.alloc _) _ 1 1 [encR (lo,hi)] rfl rfl (Rd.newAt (by simp) rfl) (encR_ok [(lo,hi)]) (by unfold maxLen;omega) (by omega) (by simp;omega) ?_);intro A3 c3 w3 ho3 hg3 hA3;have hb3:=below_app (hB2.alloc hbs2 (.cells #[.int .i32 lo,.int .i32 hi] 262)) hg3 (by simp;omega) (fun a ha=>(ho2.lt a ha).1);clear hg3)
           have Ho3 : Own w3 w.heap.size 262 2 A3 (n+1) c3 ((l++[(lo,hi)]).map encR):=by rw [List.map_append];exact ho3
           clear ho3
           go_roundw
           case rel=>exact ⟨q,l++[(lo,hi)],A3,n+1,c3,rfl,rfl,by omega,by omega,HF,Ho3,hb3⟩
           case measure=>simp [intOf];omega
       ·have hq : (((s[p]'hps).toNat : Int) == 45) = false:=by
         have:=byte_ne (n:=45) h45
         simpa using this
        have HU3 : Hid (itemP s a = if lo < lo then .error (20,a) else if (rest s p).head? ≠ none∧(rest s p).head? ≠ some 32 then .error (21,p) else .ok ((lo,lo),p)):=Lib.hid (HU.out.trans (by simp only [if_neg (show ¬ (rest s p).head? = some 45 by rw [rest_head hps];simpa using h45)]))
        clear h45 HU
        by_cases h32 : s[p]'hps = 32
        ·have hq2 : (((s[p]'hps).toNat : Int) != 32) = false:=by rw [h32];rfl
         have HF : Hid (∃ f,ParseAt s f p (l++[(lo,lo)])):=Lib.hid (by
          obtain ⟨f,h0,h⟩:=HI.out
          refine ⟨f,?_,by omega,by omega⟩
          rw [h,HU3.out,if_neg (by omega),if_neg (by rw [rest_head hps,h32];simp)])
         clear h32 HI HU3
         go_wp2_with (at_builtin;go_must (refine wpList_app rfl (.tmp 83) (.tmp 87) _ rfl w.heap.size 262 i0 _ 2 8 Tryz.underlying239 hi0 hz0 hz1 hz2 rfl (by omega) A n c (l.map encR) rfl (ho1.alloc _) _ 1 1 [encR (lo,lo)] rfl rfl (Rd.newAt (by simp) rfl) (encR_ok [(lo,lo)]) (by unfold maxLen;omega) (by omega) (by simp;omega) ?_);intro A3 c3 w3 ho3 hg3 hA3;have hb3:=below_app (hB1.alloc hbs1 (.cells #[.int .i32 lo,.int .i32 lo] 262)) hg3 (by simp;omega) (fun a ha=>(ho1.lt a ha).1);clear hg3)
         have Ho3 : Own w3 w.heap.size 262 2 A3 (n+1) c3 ((l++[(lo,lo)]).map encR):=by rw [List.map_append];exact ho3
         clear ho3
         go_roundw
         case rel=>exact ⟨p,l++[(lo,lo)],A3,n+1,c3,rfl,rfl,by omega,by omega,HF,Ho3,hb3⟩
         case measure=>simp [intOf];omega
        ·have hq2 : (((s[p]'hps).toNat : Int) != 32) = true:=byte_ne (n:=32) h32
         have HF : Hid (parseP s = .error (21,p)):=Lib.hid (by obtain ⟨f,_,h⟩:=HI.out;rw [h,HU3.out,if_neg (by omega),if_pos (by rw [rest_head hps];simpa using h32)])
         clear h32 HI HU3
         go_wp2
         go_ret3
         exact ⟨hB1,ParseEnd.err HF.out⟩
      ·have HU3 : Hid (itemP s a = if lo < lo then .error (20,a) else if (rest s p).head? ≠ none∧(rest s p).head? ≠ some 32 then .error (21,p) else .ok ((lo,lo),p)):=Lib.hid (HU.out.trans (by simp only [if_neg (show ¬ (rest s p).head? = some 45 by rw [rest_none (by omega)];simp)]))
       clear HU
       have HF : Hid (∃ f,ParseAt s f p (l++[(lo,lo)])):=Lib.hid (by
        obtain ⟨f,h0,h⟩:=HI.out
        refine ⟨f,?_,by omega,by omega⟩
        rw [h,HU3.out,if_neg (by omega),if_neg (by rw [rest_none (by omega)];simp)])
       clear HI HU3
       go_wp2_with (at_builtin;go_must (refine wpList_app rfl (.tmp 83) (.tmp 87) _ rfl w.heap.size 262 i0 _ 2 8 Tryz.underlying239 hi0 hz0 hz1 hz2 rfl (by omega) A n c (l.map encR) rfl (ho1.alloc _) _ 1 1 [encR (lo,lo)] rfl rfl (Rd.newAt (by simp) rfl) (encR_ok [(lo,lo)]) (by unfold maxLen;omega) (by omega) (by simp;omega) ?_);intro A3 c3 w3 ho3 hg3 hA3;have hb3:=below_app (hB1.alloc hbs1 (.cells #[.int .i32 lo,.int .i32 lo] 262)) hg3 (by simp;omega) (fun a ha=>(ho1.lt a ha).1);clear hg3)
       have Ho3 : Own w3 w.heap.size 262 2 A3 (n+1) c3 ((l++[(lo,lo)]).map encR):=by rw [List.map_append];exact ho3
       clear ho3
       go_roundw
       case rel=>exact ⟨p,l++[(lo,lo)],A3,n+1,c3,rfl,rfl,by omega,by omega,HF,Ho3,hb3⟩
       case measure=>simp [intOf];omega
   ·obtain rfl : a = s.size:=by omega
    have HF : Hid (parseP s = .ok l):=Lib.hid (by obtain ⟨f,h1,_,_⟩:=HP.out;rw [← h1,parseGo_done])
    clear HP
    go_wp2_with fail
    refine (sNorm_any A n c l _ (ho.rd (by omega)) (by simpa using ho.len) (by omega)).mono ?_
    rintro e w2 ⟨A4,n4,c4,rfl,ho2,hb2⟩
    go_wp2
    go_ret3
    exact ⟨below_step hb hb2 hbs,ParseEnd.fine HF.out (ho2.more hbs)⟩
end
section
theorem splitL_snoc_line (done : List (List UInt8)) (x r : List UInt8) (h : ∀ c ∈ x,c ≠ 10) : done++splitL (x++10 :: r) = (done++[x])++splitL r:=by rw [splitL_line h];simp
/-- The lines of a text of which some bytes were read: those done, and the one begun. -/
structure LinesAt (s : List UInt8) (i frm : Nat) (done : List (List UInt8)) : Prop where
  le : frm ≤ i
  le2 : i ≤ s.length
  clean : ∀ c ∈ (s.drop frm).take (i - frm), c ≠ 10
  all : splitL s = done ++ splitL (s.drop frm)
theorem LinesAt.start (s : List UInt8) : LinesAt s 0 0 []:=⟨Nat.le_refl _,Nat.zero_le _,by simp,by simp⟩
theorem LinesAt.byte {s : List UInt8} {i frm : Nat} {done : List (List UInt8)} {c : UInt8} (h : LinesAt s i frm done) (hc : s[i]? = some c) (hn : c ≠ 10) : LinesAt s (i+1) frm done:=by
 have hlt:=(List.getElem?_eq_some_iff.1 hc).1
 refine ⟨by have:=h.le;omega,by omega,fun d hd=>?_,h.all⟩
 have hle:=h.le
 rw [show i+1 - frm = (i - frm)+1 by omega,List.take_add_one,List.getElem?_drop,show frm+(i - frm) = i by omega,hc] at hd
 rcases List.mem_append.1 hd with hd | hd
 ·exact h.clean d hd
 ·simp at hd;subst hd;exact hn
theorem LinesAt.line {s : List UInt8} {i frm : Nat} {done : List (List UInt8)} (h : LinesAt s i frm done) (hc : s[i]? = some 10) : LinesAt s (i+1) (i+1) (done++[(s.drop frm).take (i - frm)]):=by
 have hlt:=(List.getElem?_eq_some_iff.1 hc).1
 have hle:=h.le
 refine ⟨Nat.le_refl _,by omega,by simp,?_⟩
 have e : s.drop frm = (s.drop frm).take (i - frm)++10 :: s.drop (i+1):=by
  conv=>lhs;rw [← List.take_append_drop (i - frm) (s.drop frm)]
  rw [List.drop_drop,show frm+(i - frm) = i by omega,drop_cons_of hc]
 rw [h.all]
 conv=>lhs;rw [e]
 exact splitL_snoc_line done _ _ h.clean
theorem LinesAt.done {s : List UInt8} {frm : Nat} {done : List (List UInt8)} (h : LinesAt s s.length frm done) : splitL s = done++[s.drop frm]:=by
 have hc:=h.clean
 rw [List.take_of_length_le (by rw [List.length_drop];omega)] at hc
 rw [h.all,splitL_no hc]
end
section
open Go.ChangeShapes Go.WideShapes Go.ChangeAt Go.RowKit
theorem cellsI64 : Tryz.prog.cellsOf 3 = 1:=by kernel_rfl
theorem cellsPt : Tryz.prog.cellsOf 32 = 2:=by kernel_rfl
section
variable {H : Type} {enc : TypeId × Value→H} {W : World} {r : Reach} {b0 : Nat} {v : Value} {d : DataW H} {p : List MemPlace}
theorem open_point (hv : Value.okWide Tryz.prog W r b0 32 v) (hd : DataW.Trod enc Tryz.prog W 0 (fun _=>true) true 32 v d p) :
  ∃ a b : Int,v = .agg #[.int .i64 a,.int .i64 b]∧(Lit.int .i64 a).wf = true∧(Lit.int .i64 b).wf = true:=by
 unfold Value.okWide at hv
 rw [Tryz.underlying32] at hv
 obtain ⟨⟨cs⟩,rfl,hz,_⟩:=hv
 obtain ⟨fuel,hf⟩:=hd
 obtain ⟨y0,y1,n,_,hl,h0,h1⟩:=trod_struct2 Tryz.underlying32 hf
 rw [cellsPt] at hz
 match cs,hz with
 | [c0,c1],_ =>
  obtain ⟨a,e0,_,w0⟩:=DataW.trod_int Tryz.underlying3 h0
  obtain ⟨b,e1,_,w1⟩:=DataW.trod_int Tryz.underlying3 h1
  simp [Value.cells,cellsI64] at e0 e1
  subst e0 e1
  exact ⟨a,b,rfl,w0,w1⟩
end
end
section
inductive Pat where
 | node (op : Nat) (cs : List Nat) (ks : List Pat)
def pLetter (c : UInt8) : Bool:=(decide (65≤c.toNat) && decide (c.toNat≤90)) || (decide (97≤c.toNat) && decide (c.toNat≤122))
def pPart (c : UInt8) : Bool:=pLetter c || (decide (48≤c.toNat) && decide (c.toNat≤57)) || decide (c.toNat = 95)
def pBlank (c : UInt8) : Bool:=decide (c.toNat = 32) || decide (c.toNat = 9)
def skipB (l : List UInt8) : List UInt8:=l.dropWhile pBlank
def pName (ns : List (List UInt8)) (l : List UInt8) : Option (Nat × List UInt8) :=
 if 32 < (l.takeWhile pPart).length then none else
  match ns.findIdx? (fun x=>x == l.takeWhile pPart) with
  | none=>none
  | some i=>some (i,l.dropWhile pPart)
def listGo (ns : List (List UInt8)) : Nat→List UInt8→List Nat→Option (List Nat × List UInt8)
 | 0,_,_=>none
 | f+1,l,acc=>match skipB l with
  | []=>none
  | c :: r=>if c.toNat = 93 then some (acc,r) else if pLetter c then
    match pName ns (c :: r) with
    | none=>none
    | some (i,r2)=>listGo ns f r2 (i :: acc)
   else none
def fromP (n : Nat) (acc : List Nat) (no : Bool) : Pat:=.node 1 ((List.range n).filter fun i=>acc.contains i != no) []
def pBegins (c : UInt8) : Bool:=decide (c.toNat = 40) || decide (c.toNat = 91) || decide (c.toNat = 46) || pLetter c
def pOper (c : UInt8) : Nat:=if c.toNat = 42 then 4 else if c.toNat = 43 then 5 else if c.toNat = 63 then 6 else 0
def opsGo : Nat→Pat→List UInt8→Nat→Option (Pat × List UInt8 × Nat)
 | 0,_,_,_=>none
 | f+1,p,l,k=>match skipB l with
  | []=>some (p,[],k)
  | c :: r=>if pOper c = 0 then some (p,c :: r,k) else if 512≤k then none else opsGo f (.node (pOper c) [] [p]) r (k+1)
def seqOf : List Pat→Pat
 | []=>.node 0 [] []
 | [p]=>p
 | l=>.node 2 [] l
def altOf : List Pat→Pat
 | [p]=>p
 | l=>.node 3 [] l
mutual
def patP (ns : List (List UInt8)) : Nat→Nat→List UInt8→Nat→Option (Pat × List UInt8 × Nat)
 | 0,_,_,_=>none
 | f+1,d,l,k=>match branchP ns f d l k [] with
  | none=>none
  | some (p,l1,k1)=>altsP ns f d l1 k1 [p]
def altsP (ns : List (List UInt8)) : Nat→Nat→List UInt8→Nat→List Pat→Option (Pat × List UInt8 × Nat)
 | 0,_,_,_,_=>none
 | f+1,d,l,k,acc=>match skipB l with
  | []=>some (altOf acc,[],k)
  | c :: r=>if c.toNat = 124 then (if 512≤k then none else
    match branchP ns f d r (k+1) [] with
    | none=>none
    | some (p,l1,k1)=>altsP ns f d l1 k1 (acc++[p]))
   else if c.toNat = 41∧0 < d then some (altOf acc,c :: r,k) else none
def branchP (ns : List (List UInt8)) : Nat→Nat→List UInt8→Nat→List Pat→Option (Pat × List UInt8 × Nat)
 | 0,_,_,_,_=>none
 | f+1,d,l,k,acc=>match skipB l with
  | []=>some (seqOf acc,[],k)
  | c :: r=>if pBegins c then
    match atomP ns f d c r k with
    | none=>none
    | some (p,l1,k1)=>match opsGo f p l1 k1 with
     | none=>none
     | some (q,l2,k2)=>branchP ns f d l2 k2 (acc++[q])
   else some (seqOf acc,c :: r,k)
def atomP (ns : List (List UInt8)) : Nat→Nat→UInt8→List UInt8→Nat→Option (Pat × List UInt8 × Nat)
 | 0,_,_,_,_=>none
 | f+1,d,c,r,k =>
  if 512≤k then none else
  if c.toNat = 40 then
   (if 32≤d then none else
    match patP ns f (d+1) r (k+1) with
    | none=>none
    | some (_,[],_)=>none
    | some (p,_ :: l1,k1)=>some (p,l1,k1))
  else if c.toNat = 91 then
   (match skipB r with
   | []=>none
   | b :: r1=>match listGo ns f (if b.toNat = 94 then r1 else b :: r1) [] with
    | none=>none
    | some (acc,l1)=>some (fromP ns.length acc (decide (b.toNat = 94)),l1,k+1))
  else if c.toNat = 46 then some (fromP ns.length [] true,r,k+1)
  else match pName ns (c :: r) with
   | none=>none
   | some (i,l1)=>some (.node 1 [i] [],l1,k+1)
end
def patOf (ns : List (List UInt8)) (l : List UInt8) : Option Pat :=
 if 4096 < l.length then none else
  match patP ns (4*l.length+8) 0 l 0 with
  | none=>none
  | some (p,_,_)=>some p
structure RuleP where
 cut : Bool
 start : Bool
 stop : Bool
 left : Pat
 right : Pat
structure RsP where
 rules : List RuleP
 rest : Bool
 rested : Bool
def trimB (l : List UInt8) : List UInt8:=((l.dropWhile pBlank).reverse.dropWhile pBlank).reverse
def plainB (l : List UInt8) : List UInt8:=trimB (l.takeWhile fun c=>decide (c.toNat ≠ 35))
def pSign (c : UInt8) : Bool:=decide (c.toNat = 126) || decide (c.toNat = 47)
def signP (l : List UInt8) : Option (List UInt8 × Bool × List UInt8) :=
 match l.dropWhile (fun c=>!pSign c) with
 | []=>none
 | c :: b=>if b.any pSign then none else some (l.takeWhile (fun c=>!pSign c),decide (c.toNat = 47),b)
def restB : List UInt8:=[114,101,115,116]
def ruleLine (ns : List (List UInt8)) (x : RsP) (l : List UInt8) : Option RsP :=
 match plainB l with
 | []=>some x
 | h :: t=>match signP (h :: t) with
  | none=>none
  | some (a,cut,b)=>if x.rested then none else
   if trimB a == restB then (if trimB b == [] then some { x with rest:=cut,rested:=true } else none) else
   if 64≤x.rules.length then none else
   match patOf ns (if (trimB a).head? == some 94 then (trimB a).drop 1 else trimB a),patOf ns (if (trimB b).getLast? == some 36 then (trimB b).dropLast else trimB b) with
   | some p,some q=>some { x with rules:=x.rules++[⟨cut,(trimB a).head? == some 94,(trimB b).getLast? == some 36,p,q⟩] }
   | _,_=>none
def rulesGo (ns : List (List UInt8)) : List (List UInt8)→RsP→Option RsP
 | [],x=>some x
 | l :: r,x=>match ruleLine ns x l with
  | none=>none
  | some y=>rulesGo ns r y
def linesB : List UInt8→List UInt8→List (List UInt8)
 | [],acc=>[acc.reverse]
 | c :: r,acc=>if c.toNat = 10 then acc.reverse :: linesB r [] else linesB r (c :: acc)
def rulesP (ns : List (List UInt8)) (l : List UInt8) : Option RsP:=if 16384 < l.length then none else rulesGo ns (linesB l []) ⟨[],true,false⟩
end
section
abbrev Mtx:=Nat→Nat→Bool
def ownM : Mtx:=fun i k=>decide (i = k)
def noneM : Mtx:=fun _ _=>false
def bothM (a b : Mtx) : Mtx:=fun i k=>a i k || b i k
def behindM (n : Nat) (a b : Mtx) : Mtx:=fun i j=>(List.range n).any fun k=>a i k && b k j
def warS (k i : Nat) (m : Mtx) : Mtx:=fun x j=>m x j || (decide (x = i) && m i k && m k j)
def warRow (n k : Nat) (m : Mtx) : Mtx:=(List.range n).foldl (fun m i=>warS k i m) m
def moreM (n : Nat) (a : Mtx) : Mtx:=(List.range n).foldl (fun m k=>warRow n k m) (bothM a ownM)
def setM (c cs : List Nat) : Mtx:=fun i k=>decide (k = i+1) && ((c[i]?).map fun x=>cs.contains x).getD false
mutual
def leadsP (c : List Nat) : Pat→Mtx
 | .node op cs ks =>
  if op = 1 then setM c cs
  else if op = 2 then thenP c ks ownM
  else if op = 3 then orP c ks noneM
  else if op = 4 then moreM (c.length+1) (headP c ks)
  else if op = 5 then behindM (c.length+1) (headP c ks) (moreM (c.length+1) (headP c ks))
  else if op = 6 then bothM ownM (headP c ks)
  else ownM
def thenP (c : List Nat) : List Pat→Mtx→Mtx
 | [],m=>m
 | p :: r,m=>thenP c r (behindM (c.length+1) m (leadsP c p))
def orP (c : List Nat) : List Pat→Mtx→Mtx
 | [],m=>m
 | p :: r,m=>orP c r (bothM m (leadsP c p))
def headP (c : List Nat) : List Pat→Mtx
 | []=>ownM
 | p :: _=>leadsP c p
end
theorem warS_eq (k i : Nat) (m : Mtx) (x j : Nat) : warS k i m x j = (m x j || (decide (x = i) && m i k && m k j)):=rfl
theorem warRow_go (k : Nat) (m : Mtx) : ∀ (z : Nat) (x j : Nat),(List.range z).foldl (fun m i=>warS k i m) m x j = (m x j || (decide (x < z) && m x k && m k j))
 | 0,x,j=>by simp
 | z+1,x,j=>by
  rw [List.range_succ,List.foldl_append,List.foldl_cons,List.foldl_nil,warS_eq,warRow_go k m z x j,warRow_go k m z z k,warRow_go k m z k j]
  have e1 : decide (x < z+1) = (decide (x < z) || decide (x = z)):=by
   rw [← Bool.decide_or];congr 1;apply propext;omega
  have e2 : decide (z < z) = false:=by simp
  rw [e1,e2]
  by_cases h : x = z
  ·subst h
   cases m x j <;> cases m x k <;> cases m k j <;> simp
  ·simp [h]
theorem warRow_eq (n k : Nat) (m : Mtx) (x j : Nat) : warRow n k m x j = (m x j || (decide (x < n) && m x k && m k j)):=warRow_go k m n x j
inductive Way (n : Nat) (a : Mtx) : Nat→Nat→Prop
 | here (i : Nat) : Way n a i i
 | on {i k j : Nat} : a i k = true→k < n→Way n a k j→Way n a i j
theorem Way.trans {n : Nat} {a : Mtx} {i k j : Nat} (h : Way n a i k) (g : Way n a k j) : Way n a i j:=by
 induction h with
 | here=>exact g
 | on h1 h2 _ ih=>exact .on h1 h2 (ih g)
inductive WayZ (z : Nat) (a : Mtx) : Nat→Nat→Prop
 | none (i : Nat) : WayZ z a i i
 | one {i j : Nat} : a i j = true→WayZ z a i j
 | on {i k j : Nat} : a i k = true→k < z→WayZ z a k j→WayZ z a i j
theorem WayZ.via {z : Nat} {a : Mtx} {i j : Nat} (h : WayZ (z+1) a i j) : WayZ z a i j∨(WayZ z a i z∧WayZ z a z j):=by
 induction h with
 | none i=>exact .inl (.none i)
 | one h=>exact .inl (.one h)
 | @on i k j h1 h2 _ ih =>
  by_cases hk : k = z
  ·subst hk
   rcases ih with ih | ⟨_,ih⟩
   ·exact .inr ⟨.one h1,ih⟩
   ·exact .inr ⟨.one h1,ih⟩
  ·rcases ih with ih | ⟨ih1,ih2⟩
   ·exact .inl (.on h1 (by omega) ih)
   ·exact .inr ⟨.on h1 (by omega) ih1,ih2⟩
theorem more_go {n : Nat} {a : Mtx} : ∀ (z : Nat),z≤n→∀ (i j : Nat),i < n→j < n →
  ((List.range z).foldl (fun m k=>warRow n k m) (bothM a ownM) i j = true→Way n a i j)∧(WayZ z a i j→(List.range z).foldl (fun m k=>warRow n k m) (bothM a ownM) i j = true)
 | 0,_,i,j,hi,hj=>by
  refine ⟨fun h=>?_,fun h=>?_⟩
  ·simp only [List.range_zero,List.foldl_nil,bothM,ownM,Bool.or_eq_true,decide_eq_true_eq] at h
   rcases h with h | rfl
   ·exact .on h hj (.here _)
   ·exact .here _
  ·simp only [List.range_zero,List.foldl_nil,bothM,ownM,Bool.or_eq_true,decide_eq_true_eq]
   cases h with
   | none=>exact .inr rfl
   | one h=>exact .inl h
   | on _ h _=>exact absurd h (Nat.not_lt_zero _)
 | z+1,hz,i,j,hi,hj=>by
  have ih:=fun i j hi hj=>more_go (n:=n) (a:=a) z (by omega) i j hi hj
  rw [List.range_succ,List.foldl_append,List.foldl_cons,List.foldl_nil,warRow_eq]
  simp only [Bool.or_eq_true,Bool.and_eq_true,decide_eq_true_eq]
  refine ⟨fun h=>?_,fun h=>?_⟩
  ·rcases h with h | ⟨⟨_,h1⟩,h2⟩
   ·exact (ih i j hi hj).1 h
   ·exact ((ih i z hi (by omega)).1 h1).trans ((ih z j (by omega) hj).1 h2)
  ·rcases h.via with h | ⟨h1,h2⟩
   ·exact .inl ((ih i j hi hj).2 h)
   ·exact .inr ⟨⟨hi,(ih i z hi (by omega)).2 h1⟩,(ih z j (by omega) hj).2 h2⟩
theorem Way.z {n : Nat} {a : Mtx} {i j : Nat} (h : Way n a i j) : WayZ n a i j:=by
 induction h with
 | here i=>exact .none i
 | on h1 h2 _ ih=>exact .on h1 h2 ih
theorem more_iff {n : Nat} {a : Mtx} {i j : Nat} (hi : i < n) (hj : j < n) : moreM n a i j = true ↔ Way n a i j :=
 ⟨(more_go n (Nat.le_refl _) i j hi hj).1,fun h=>(more_go n (Nat.le_refl _) i j hi hj).2 h.z⟩
inductive Star (L : List Nat→Prop) : List Nat→Prop
 | nil : Star L []
 | app {u v : List Nat} : L u→Star L v→Star L (u++v)
mutual
def Lang : Pat→List Nat→Prop
 | .node op cs ks=>fun u =>
  if op = 1 then ∃ x,u = [x]∧x ∈ cs
  else if op = 2 then LangT ks u
  else if op = 3 then LangO ks u
  else if op = 4 then Star (LangH ks) u
  else if op = 5 then ∃ v w,u = v++w∧LangH ks v∧Star (LangH ks) w
  else if op = 6 then u = []∨LangH ks u
  else u = []
def LangT : List Pat→List Nat→Prop
 | []=>fun u=>u = []
 | p :: r=>fun u=>∃ v w,u = v++w∧Lang p v∧LangT r w
def LangO : List Pat→List Nat→Prop
 | []=>fun _=>False
 | p :: r=>fun u=>Lang p u∨LangO r u
def LangH : List Pat→List Nat→Prop
 | []=>fun u=>u = []
 | p :: _=>Lang p
end
def part (c : List Nat) (i k : Nat) : List Nat:=(c.drop i).take (k - i)
def Tells (c : List Nat) (m : Mtx) (L : List Nat→Prop) : Prop:=∀ i k,i≤c.length→k≤c.length→(m i k = true ↔ i≤k∧L (part c i k))
theorem part_app (c : List Nat) {i k j : Nat} (h1 : i≤k) (h2 : k≤j) : part c i j = part c i k++part c k j:=by
 unfold part
 rw [show j - i = (k - i)+(j - k) by omega,List.take_add,List.drop_drop,show i+(k - i) = k by omega]
theorem part_len (c : List Nat) {i k : Nat} (h2 : k≤c.length) : (part c i k).length = k - i:=by
 unfold part;rw [List.length_take,List.length_drop];omega
theorem part_nil {c : List Nat} {i k : Nat} (h1 : i≤k) (h2 : k≤c.length) (h : part c i k = []) : i = k:=by
 have:=part_len c (i:=i) h2
 rw [h] at this
 simp at this
 omega
theorem part_split {c : List Nat} {i j : Nat} {u v : List Nat} (h1 : i≤j) (h2 : j≤c.length) (h : part c i j = u++v) : i+u.length≤j∧part c i (i+u.length) = u∧part c (i+u.length) j = v:=by
 have hl:=congrArg List.length h
 rw [part_len c h2,List.length_append] at hl
 have hk : i+u.length≤j:=by omega
 have h3:=part_app c (Nat.le_add_right i u.length) hk
 rw [h] at h3
 have h4:=List.append_inj h3 (by rw [part_len c (by omega)];omega)
 exact ⟨hk,h4.1.symm,h4.2.symm⟩
theorem tells_own (c : List Nat) : Tells c ownM (fun u=>u = []):=fun i k _ hk=>by
 simp only [ownM,decide_eq_true_eq]
 refine ⟨fun h=>?_,fun h=>part_nil h.1 hk h.2⟩
 subst h
 exact ⟨Nat.le_refl _,by simp [part]⟩
theorem tells_none (c : List Nat) : Tells c noneM (fun _=>False):=fun i k _ _=>by simp [noneM]
theorem tells_both {c : List Nat} {a b : Mtx} {L M : List Nat→Prop} (ha : Tells c a L) (hb : Tells c b M) : Tells c (bothM a b) (fun u=>L u∨M u):=fun i k hi hk=>by
 simp only [bothM,Bool.or_eq_true,ha i k hi hk,hb i k hi hk]
 exact ⟨fun h=>h.elim (fun h=>⟨h.1,.inl h.2⟩) (fun h=>⟨h.1,.inr h.2⟩),fun h=>h.2.elim (fun g=>.inl ⟨h.1,g⟩) (fun g=>.inr ⟨h.1,g⟩)⟩
theorem tells_behind {c : List Nat} {a b : Mtx} {L M : List Nat→Prop} (ha : Tells c a L) (hb : Tells c b M) : Tells c (behindM (c.length+1) a b) (fun u=>∃ v w,u = v++w∧L v∧M w):=fun i j hi hj=>by
 simp only [behindM,List.any_eq_true,List.mem_range,Bool.and_eq_true]
 constructor
 ·rintro ⟨k,hk,h1,h2⟩
  have h1:=(ha i k hi (by omega)).1 h1
  have h2:=(hb k j (by omega) hj).1 h2
  exact ⟨Nat.le_trans h1.1 h2.1,_,_,part_app c h1.1 h2.1,h1.2,h2.2⟩
 ·rintro ⟨hij,v,w,h,hv,hw⟩
  obtain ⟨h1,h2,h3⟩:=part_split hij hj h
  exact ⟨i+v.length,by omega,(ha _ _ hi (by omega)).2 ⟨by omega,by rw [h2];exact hv⟩,(hb _ _ (by omega) hj).2 ⟨h1,by rw [h3];exact hw⟩⟩
theorem tells_more {c : List Nat} {a : Mtx} {L : List Nat→Prop} (ha : Tells c a L) : Tells c (moreM (c.length+1) a) (Star L):=fun i j hi hj=>by
 rw [more_iff (by omega) (by omega)]
 constructor
 ·intro h
  induction h with
  | here i=>exact ⟨Nat.le_refl _,by simp only [part,Nat.sub_self,List.take_zero];exact .nil⟩
  | @on i k j h1 h2 _ ih =>
   have h1:=(ha i k hi (by omega)).1 h1
   have ih:=ih (by omega) hj
   exact ⟨Nat.le_trans h1.1 ih.1,by rw [part_app c h1.1 ih.1];exact .app h1.2 ih.2⟩
 ·rintro ⟨hij,h⟩
  generalize hu : part c i j = u at h
  induction h generalizing i with
  | nil=>rw [part_nil hij hj hu];exact .here _
  | @app u v h1 _ ih =>
   obtain ⟨g1,g2,g3⟩:=part_split hij hj hu
   exact .on ((ha _ _ hi (by omega)).2 ⟨by omega,by rw [g2];exact h1⟩) (by omega) (ih (i+u.length) (by omega) g1 g3)
theorem tells_set (c cs : List Nat) : Tells c (setM c cs) (fun u=>∃ x,u = [x]∧x ∈ cs):=fun i k hi hk=>by
 simp only [setM,Bool.and_eq_true,decide_eq_true_eq]
 constructor
 ·rintro ⟨rfl,h⟩
  cases hx : c[i]? with
  | none=>rw [hx] at h;simp at h
  | some x =>
   rw [hx] at h
   refine ⟨by omega,x,?_,by simpa using h⟩
   have hlt:=(List.getElem?_eq_some_iff.1 hx).1
   unfold part
   rw [List.drop_eq_getElem_cons hlt,show i+1 - i = 0+1 by omega,List.take_succ_cons,List.take_zero,(List.getElem?_eq_some_iff.1 hx).2]
 ·rintro ⟨hik,x,h,hx⟩
  have hl:=congrArg List.length h
  rw [part_len c hk] at hl
  simp at hl
  obtain rfl : k = i+1:=by omega
  have hlt : i < c.length:=by omega
  unfold part at h
  rw [List.drop_eq_getElem_cons hlt,show i+1 - i = 0+1 by omega,List.take_succ_cons,List.take_zero] at h
  injection h with h
  refine ⟨rfl,?_⟩
  rw [List.getElem?_eq_getElem hlt,h]
  simpa using hx
theorem Tells.congr {c : List Nat} {m : Mtx} {L M : List Nat→Prop} (h : Tells c m L) (hLM : ∀ u,L u ↔ M u) : Tells c m M:=fun i k hi hk=>by rw [h i k hi hk,hLM]
mutual
theorem leads_tells (c : List Nat) : ∀ (p : Pat),Tells c (leadsP c p) (Lang p)
 | .node op cs ks=>by
  unfold leadsP Lang
  by_cases h1 : op = 1
  ·rw [if_pos h1];simp only [if_pos h1];exact tells_set c cs
  by_cases h2 : op = 2
  ·rw [if_neg h1,if_pos h2];simp only [if_neg h1,if_pos h2]
   exact (thenP_tells c ks (tells_own c)).congr fun u=>⟨fun ⟨v,w,e,hv,hw⟩=>by subst hv;rw [e];exact hw,fun h=>⟨[],u,rfl,rfl,h⟩⟩
  by_cases h3 : op = 3
  ·rw [if_neg h1,if_neg h2,if_pos h3];simp only [if_neg h1,if_neg h2,if_pos h3]
   exact (orP_tells c ks (tells_none c)).congr fun u=>⟨fun h=>h.elim False.elim id,.inr⟩
  by_cases h4 : op = 4
  ·rw [if_neg h1,if_neg h2,if_neg h3,if_pos h4];simp only [if_neg h1,if_neg h2,if_neg h3,if_pos h4]
   exact tells_more (headP_tells c ks)
  by_cases h5 : op = 5
  ·rw [if_neg h1,if_neg h2,if_neg h3,if_neg h4,if_pos h5];simp only [if_neg h1,if_neg h2,if_neg h3,if_neg h4,if_pos h5]
   exact tells_behind (headP_tells c ks) (tells_more (headP_tells c ks))
  by_cases h6 : op = 6
  ·rw [if_neg h1,if_neg h2,if_neg h3,if_neg h4,if_neg h5,if_pos h6];simp only [if_neg h1,if_neg h2,if_neg h3,if_neg h4,if_neg h5,if_pos h6]
   exact tells_both (tells_own c) (headP_tells c ks)
  rw [if_neg h1,if_neg h2,if_neg h3,if_neg h4,if_neg h5,if_neg h6];simp only [if_neg h1,if_neg h2,if_neg h3,if_neg h4,if_neg h5,if_neg h6]
  exact tells_own c
theorem thenP_tells (c : List Nat) : ∀ (ks : List Pat) {m : Mtx} {L : List Nat→Prop},Tells c m L→Tells c (thenP c ks m) (fun u=>∃ v w,u = v++w∧L v∧LangT ks w)
 | [],m,L,h=>by
  unfold thenP LangT
  exact h.congr fun u=>⟨fun hu=>⟨u,[],by simp,hu,rfl⟩,fun ⟨v,w,e,hv,hw⟩=>by subst hw;rw [e,List.append_nil];exact hv⟩
 | p :: r,m,L,h=>by
  unfold thenP LangT
  refine (thenP_tells c r (tells_behind h (leads_tells c p))).congr fun u=>⟨?_,?_⟩
  ·rintro ⟨_,w,rfl,⟨v1,v2,rfl,h1,h2⟩,h3⟩
   exact ⟨v1,v2++w,by simp,h1,v2,w,rfl,h2,h3⟩
  ·rintro ⟨v1,_,rfl,h1,v2,w,rfl,h2,h3⟩
   exact ⟨v1++v2,w,by simp,⟨v1,v2,rfl,h1,h2⟩,h3⟩
theorem orP_tells (c : List Nat) : ∀ (ks : List Pat) {m : Mtx} {L : List Nat→Prop},Tells c m L→Tells c (orP c ks m) (fun u=>L u∨LangO ks u)
 | [],m,L,h=>by
  unfold orP LangO
  exact h.congr fun u=>⟨.inl,fun h=>h.elim id False.elim⟩
 | p :: r,m,L,h=>by
  unfold orP LangO
  refine (orP_tells c r (tells_both h (leads_tells c p))).congr fun u=>⟨?_,?_⟩
  ·rintro ((h | h) | h)
   ·exact .inl h
   ·exact .inr (.inl h)
   ·exact .inr (.inr h)
  ·rintro (h | h | h)
   ·exact .inl (.inl h)
   ·exact .inl (.inr h)
   ·exact .inr h
theorem headP_tells (c : List Nat) : ∀ (ks : List Pat),Tells c (headP c ks) (LangH ks)
 | []=>by unfold headP LangH;exact tells_own c
 | p :: _=>by unfold headP LangH;exact leads_tells c p
end
end
section
def Contig : Nat→List (Nat × Nat × Nat)→Nat→Prop
 | p,[],z=>p = z
 | p,x :: r,z=>x.2.1 = p∧p < x.2.2∧Contig x.2.2 r z
theorem runesGo_contig {s : ByteArray} : ∀ (f a : Nat),s.size≤a+f→a≤s.size→Contig a (runesGo s f a) s.size
 | 0,a,h,h2=>by simp only [runesGo,Contig];omega
 | f+1,a,h,h2=>by
  rw [runesGo]
  split
  ·rename_i hlt
   have hd:=dec_bd s a hlt
   exact ⟨rfl,by simp only;omega,runesGo_contig f _ (by simp only;omega) (by simp only;omega)⟩
  ·show a = s.size;omega
theorem runesP_contig (s : ByteArray) : Contig 0 (runesP s) s.size:=runesGo_contig _ _ (by omega) (by omega)
theorem runesGo_dec {s : ByteArray} : ∀ (f a : Nat),∀ x ∈ runesGo s f a,Utf8.decode s x.2.1 = (x.1,x.2.2 - x.2.1)
 | 0,a,x,h=>by simp [runesGo] at h
 | f+1,a,x,h=>by
  rw [runesGo] at h
  split at h
  ·rcases List.mem_cons.1 h with rfl | h
   ·simp only;rw [Nat.add_sub_cancel_left]
   ·exact runesGo_dec f _ x h
  ·simp at h
end
section
def endG (c : Nat) : Bool:=c == 1 || c == 2 || c == 3
def joinG (x y : Nat) : Bool :=
 if x = 1∧y = 2 then true
 else if endG x || endG y then false
 else if y == 4 || y == 5 || y == 6 || x == 7 then true
 else if x = 8 then y == 8 || y == 9 || y == 11
 else if x = 9∨x = 11 then y == 9 || y == 10
 else x == 10 && y == 10
structure GS where
 prev : Nat
 pict : Bool
 joined : Bool
 flags : Nat
def GS.cut (st : GS) (y : Nat) : Bool:=!(joinG st.prev y || st.joined && y == 12 || y == 13 && st.flags % 2 == 1)
def GS.next (st : GS) (y : Nat) : GS:=⟨y,y == 12 || st.pict && y == 4,st.pict && y == 5,if y = 13 then st.flags+1 else 0⟩
def GS.first (y : Nat) : GS:=⟨y,y == 12,false,if y = 13 then 1 else 0⟩
def cutSt : GS→List Nat→List Bool
 | _,[]=>[]
 | st,y :: r=>st.cut y :: cutSt (st.next y) r
def cutsG : List Nat→List Bool
 | []=>[]
 | y :: r=>true :: cutSt (GS.first y) r
def stOf : GS→List Nat→GS
 | st,[]=>st
 | st,y :: r=>stOf (st.next y) r
theorem stOf_snoc : ∀ (st : GS) (l : List Nat) (y : Nat),stOf st (l++[y]) = (stOf st l).next y
 | _,[],_=>rfl
 | st,z :: l,y=>stOf_snoc (st.next z) l y
theorem cutSt_snoc : ∀ (st : GS) (l : List Nat) (y : Nat),cutSt st (l++[y]) = cutSt st l++[(stOf st l).cut y]
 | _,[],_=>rfl
 | st,z :: l,y=>by rw [List.cons_append,cutSt,cutSt_snoc (st.next z) l y];rfl
theorem cutSt_len : ∀ (st : GS) (l : List Nat),(cutSt st l).length = l.length
 | _,[]=>rfl
 | st,y :: r=>by rw [cutSt,List.length_cons,cutSt_len (st.next y) r,List.length_cons]
theorem cutsG_len (l : List Nat) : (cutsG l).length = l.length:=by
 cases l with
 | nil=>rfl
 | cons y r=>rw [cutsG,List.length_cons,cutSt_len,List.length_cons]
structure GS.Good (st : GS) : Prop where
 joined : st.joined = true→st.prev = 5
 flags : st.flags ≠ 0→st.prev = 13
theorem GS.next_good (st : GS) (y : Nat) : (st.next y).Good:=⟨fun h=>by simp [GS.next] at h ⊢;exact h.2,fun h=>by unfold GS.next at h ⊢;simp only at h ⊢;split at h;assumption;exact absurd rfl h⟩
theorem stOf_good : ∀ {st : GS} (l : List Nat),st.Good→(stOf st l).Good
 | _,[],h=>h
 | st,y :: r,_=>stOf_good r (GS.next_good st y)
theorem cutSt_at : ∀ (st : GS) (l : List Nat) (k : Nat) (y : Nat),l[k]? = some y→(cutSt st l)[k]? = some ((stOf st (l.take k)).cut y)
 | _,[],_,_,h=>by simp at h
 | st,z :: l,0,y,h=>by simp at h;subst h;rfl
 | st,z :: l,k+1,y,h=>by
  rw [zI] at h
  rw [cutSt,zI,cutSt_at (st.next z) l k y h];rfl
def pickG : List (Nat × Nat × Nat)→List Bool→List Nat
 | x :: r,b :: t=>(if b then [x.2.1] else [])++pickG r t
 | _,_=>[]
def clsG (g : Int→Nat) (r : List (Nat × Nat × Nat)) : List Nat:=r.map fun x=>g x.1
def startsG (g : Int→Nat) (s : ByteArray) : List Nat:=pickG (runesP s) (cutsG (clsG g (runesP s)))
def boundsG (g : Int→Nat) (s : ByteArray) : List Nat:=if s.size = 0 then [] else startsG g s++[s.size]
theorem pickG_snoc : ∀ (r : List (Nat × Nat × Nat)) (t : List Bool) (x : Nat × Nat × Nat) (b : Bool),t.length = r.length→pickG (r++[x]) (t++[b]) = pickG r t++(if b then [x.2.1] else [])
 | [],[],x,b,_=>by simp [pickG]
 | [],_ :: _,_,_,h=>by simp at h
 | _ :: _,[],_,_,h=>by simp at h
 | y :: r,c :: t,x,b,h=>by
  rw [List.cons_append,List.cons_append,pickG,pickG,pickG_snoc r t x b (by simpa using h),List.append_assoc]
theorem pickG_mem : ∀ {r : List (Nat × Nat × Nat)} {t : List Bool} {a : Nat},a ∈ pickG r t ↔ ∃ (k : Nat) (x : Nat × Nat × Nat),r[k]? = some x∧t[k]? = some true∧x.2.1 = a
 | [],t,a=>by simp [pickG]
 | _ :: _,[],a=>by simp [pickG]
 | x :: r,b :: t,a=>by
  rw [pickG,List.mem_append,pickG_mem (r:=r) (t:=t)]
  constructor
  ·rintro (h | ⟨k,y,h1,h2,h3⟩)
   ·cases b with
    | false=>simp at h
    | true=>simp at h;exact ⟨0,x,rfl,rfl,h.symm⟩
   ·exact ⟨k+1,y,by simpa using h1,by simpa using h2,h3⟩
  ·rintro ⟨k,y,h1,h2,h3⟩
   cases k with
   | zero=>simp at h1 h2;subst h1;subst h2;exact .inl (by simp [h3])
   | succ k=>exact .inr ⟨k,y,by simpa using h1,by simpa using h2,h3⟩
theorem runes_rise (s : ByteArray) : (runesP s).Pairwise fun x y=>x.2.1 < y.2.1:=by
 have : ∀ (f a : Nat),(runesGo s f a).Pairwise fun x y=>x.2.1 < y.2.1:=by
  intro f
  induction f with
  | zero=>intro a;exact .nil
  | succ f ih =>
   intro a
   rw [runesGo]
   split
   ·rename_i hlt
    have hd:=dec_bd s a hlt
    refine .cons (fun y hy=>?_) (ih _)
    have:=runesGo_bd _ _ y hy
    simp only;omega
   ·exact .nil
 exact this _ _
theorem clsG_len (g : Int→Nat) (r : List (Nat × Nat × Nat)) : (clsG g r).length = r.length:=by simp [clsG]
theorem pick_rise : ∀ {r : List (Nat × Nat × Nat)} {t : List Bool},(r.Pairwise fun x y=>x.2.1 < y.2.1)→(pickG r t).Pairwise (· < ·)
 | [],t,_=>by cases t <;> exact .nil
 | _ :: _,[],_=>.nil
 | x :: r,b :: t,h=>by
  rw [List.pairwise_cons] at h
  rw [pickG]
  cases b with
  | false=>exact pick_rise h.2
  | true =>
   refine .cons (fun a ha=>?_) (pick_rise h.2)
   obtain ⟨k,y,h1,_,rfl⟩:=pickG_mem.1 ha
   exact h.1 y (List.mem_of_getElem? h1)
theorem starts_rise (g : Int→Nat) (s : ByteArray) : (startsG g s).Pairwise (· < ·):=pick_rise (runes_rise s)
theorem starts_lt (g : Int→Nat) (s : ByteArray) : ∀ a ∈ startsG g s,a < s.size:=fun a ha=>by
 obtain ⟨k,y,h1,_,rfl⟩:=pickG_mem.1 ha
 have:=runesP_bd y (List.mem_of_getElem? h1);omega
theorem starts_zero (g : Int→Nat) {s : ByteArray} (h : 0 < s.size) : ∃ T,startsG g s = 0 :: T:=by
 obtain ⟨k,hk,e⟩:=runesGo_step (s:=s) (f:=s.size) (a:=0) h (by omega)
 unfold startsG runesP
 rw [e]
 exact ⟨_,rfl⟩
theorem bounds_rise (g : Int→Nat) (s : ByteArray) : (boundsG g s).Pairwise (· < ·):=by
 unfold boundsG
 split
 ·exact .nil
 ·rw [List.pairwise_append]
  exact ⟨starts_rise g s,by simp,fun a ha b hb=>by simp at hb;subst hb;exact starts_lt g s a ha⟩
end
section
def Ahead (start : Bool) (L : List Nat→Prop) (a : List Nat) : Prop:=∃ u v,a = u++v∧(start = true→u = [])∧L v
def Behind (stop : Bool) (L : List Nat→Prop) (b : List Nat) : Prop:=∃ u v,b = u++v∧(stop = true→v = [])∧L u
def AppliesL (r : RuleP) (a b : List Nat) : Prop:=Ahead r.start (Lang r.left) a∧Behind r.stop (Lang r.right) b
inductive Decides (a b : List Nat) (rest : Bool) : List RuleP→Bool→Prop
 | none : Decides a b rest [] rest
 | yes {r : RuleP} {l : List RuleP} : AppliesL r a b→Decides a b rest (r :: l) r.cut
 | no {r : RuleP} {l : List RuleP} {x : Bool} : ¬ AppliesL r a b→Decides a b rest l x→Decides a b rest (r :: l) x
theorem snoc_ind {P : List Nat→Prop} (h0 : P []) (h1 : ∀ a y,P a→P (a++[y])) (a : List Nat) : P a:=by
 have key : ∀ r : List Nat,P r.reverse:=fun r=>by
  induction r with
  | nil=>exact h0
  | cons y r ih=>rw [List.reverse_cons];exact h1 _ _ ih
 have:=key a.reverse
 rwa [List.reverse_reverse] at this
theorem snoc_inj {a b : List Nat} {x y : Nat} (h : a++[x] = b++[y]) : a = b∧x = y:=by
 have:=List.append_inj' h rfl
 exact ⟨this.1,by simpa using this.2⟩
def One (cs : List Nat) (u : List Nat) : Prop:=∃ x,u = [x]∧x ∈ cs
theorem lang_set (cs : List Nat) (ks : List Pat) (u : List Nat) : Lang (.node 1 cs ks) u ↔ One cs u:=by simp [Lang,One]
theorem lang_empty (cs : List Nat) (ks : List Pat) (u : List Nat) : Lang (.node 0 cs ks) u ↔ u = []:=by simp [Lang]
theorem lang_or (cs : List Nat) (ks : List Pat) (u : List Nat) : Lang (.node 3 cs ks) u ↔ LangO ks u:=by simp [Lang]
theorem lang_then (cs : List Nat) (ks : List Pat) (u : List Nat) : Lang (.node 2 cs ks) u ↔ LangT ks u:=by simp [Lang]
theorem lang_many (cs : List Nat) (p : Pat) (ks : List Pat) (u : List Nat) : Lang (.node 4 cs (p :: ks)) u ↔ Star (Lang p) u:=by simp [Lang,LangH]
theorem langO_sets : ∀ (l : List (List Nat)) (u : List Nat),LangO (l.map fun c=>.node 1 c []) u ↔ One l.flatten u
 | [],u=>by simp [LangO,One]
 | c :: r,u=>by
  rw [List.map_cons,LangO]
  show (Lang (.node 1 c []) u∨LangO (r.map fun c=>.node 1 c []) u) ↔ _
  rw [langO_sets r u,lang_set]
  unfold One
  rw [List.flatten_cons]
  constructor
  ·rintro (⟨x,e,h⟩ | ⟨x,e,h⟩)
   ·exact ⟨x,e,List.mem_append.2 (.inl h)⟩
   ·exact ⟨x,e,List.mem_append.2 (.inr h)⟩
  ·rintro ⟨x,e,h⟩
   rcases List.mem_append.1 h with h | h
   ·exact .inl ⟨x,e,h⟩
   ·exact .inr ⟨x,e,h⟩
theorem Ahead.congr {s : Bool} {L M : List Nat→Prop} (h : ∀ u,L u ↔ M u) (a : List Nat) : Ahead s L a ↔ Ahead s M a :=
 ⟨fun ⟨u,v,e,hs,hl⟩=>⟨u,v,e,hs,(h v).1 hl⟩,fun ⟨u,v,e,hs,hl⟩=>⟨u,v,e,hs,(h v).2 hl⟩⟩
theorem Behind.congr {s : Bool} {L M : List Nat→Prop} (h : ∀ u,L u ↔ M u) (a : List Nat) : Behind s L a ↔ Behind s M a :=
 ⟨fun ⟨u,v,e,hs,hl⟩=>⟨u,v,e,hs,(h u).1 hl⟩,fun ⟨u,v,e,hs,hl⟩=>⟨u,v,e,hs,(h u).2 hl⟩⟩
theorem ahead_one {a : List Nat} {p : Nat} {cs : List Nat} : Ahead false (One cs) (a++[p]) ↔ p ∈ cs:=by
 constructor
 ·rintro ⟨u,v,e,_,x,rfl,hx⟩
  rw [(snoc_inj e).2];exact hx
 ·intro h
  exact ⟨a,[p],rfl,(fun h=>by cases h),p,rfl,h⟩
theorem behind_one {b : List Nat} {q : Nat} {cs : List Nat} : Behind false (One cs) (q :: b) ↔ q ∈ cs:=by
 constructor
 ·rintro ⟨u,v,e,_,x,rfl,hx⟩
  rw [List.singleton_append] at e
  injection e with e _
  rw [e];exact hx
 ·intro h
  exact ⟨[q],b,rfl,(fun h=>by cases h),q,rfl,h⟩
theorem ahead_nil (a : List Nat) : Ahead false (fun u=>u = []) a:=⟨a,[],by simp,(fun h=>by cases h),rfl⟩
theorem behind_nil (b : List Nat) : Behind false (fun u=>u = []) b:=⟨[],b,rfl,(fun h=>by cases h),rfl⟩
theorem star_one (c : Nat) (u : List Nat) : Star (One [c]) u ↔ ∃ n,u = List.replicate n c:=by
 constructor
 ·intro h
  induction h with
  | nil=>exact ⟨0,rfl⟩
  | app h1 _ ih =>
   obtain ⟨x,rfl,hx⟩:=h1
   obtain ⟨n,rfl⟩:=ih
   rw [List.mem_singleton] at hx
   subst hx
   exact ⟨n+1,rfl⟩
 ·rintro ⟨n,rfl⟩
  induction n with
  | zero=>exact .nil
  | succ n ih=>rw [List.replicate_succ];exact .app (u:=[c]) ⟨c,rfl,by simp⟩ ih
theorem star_congr {L M : List Nat→Prop} (h : ∀ u,L u ↔ M u) (u : List Nat) : Star L u ↔ Star M u:=by
 constructor
 ·intro g
  induction g with
  | nil=>exact .nil
  | app h1 _ ih=>exact .app ((h _).1 h1) ih
 ·intro g
  induction g with
  | nil=>exact .nil
  | app h1 _ ih=>exact .app ((h _).2 h1) ih
theorem star_two (c : Nat) (u : List Nat) : Star (fun v=>v = [c,c]) u ↔ ∃ n,u = List.replicate (2*n) c:=by
 constructor
 ·intro h
  induction h with
  | nil=>exact ⟨0,rfl⟩
  | app h1 _ ih =>
   subst h1
   obtain ⟨n,rfl⟩:=ih
   exact ⟨n+1,by rw [show 2*(n+1) = 2*n+1+1 by omega,List.replicate_succ,List.replicate_succ];rfl⟩
 ·rintro ⟨n,rfl⟩
  induction n with
  | zero=>exact .nil
  | succ n ih =>
   rw [show 2*(n+1) = 2*n+1+1 by omega,List.replicate_succ,List.replicate_succ]
   exact .app (u:=[c,c]) rfl ih
def two13 : Pat:=.node 2 [] [.node 1 [13] [],.node 1 [13] []]
theorem lang_two (u : List Nat) : Lang two13 u ↔ u = [13,13]:=by
 unfold two13
 rw [lang_then]
 simp only [LangT,lang_set,One]
 constructor
 ·rintro ⟨_,_,rfl,⟨x,rfl,hx⟩,_,_,rfl,⟨y,rfl,hy⟩,rfl⟩
  simp at hx hy
  subst hx hy
  rfl
 ·rintro rfl
  exact ⟨[13],[13],rfl,⟨13,rfl,by simp⟩,[13],[],rfl,⟨13,rfl,by simp⟩,rfl⟩
def G0 : GS:=⟨0,false,false,0⟩
theorem first_next (y : Nat) : GS.first y = G0.next y:=by simp [GS.first,GS.next,G0]
theorem pict_iff (a : List Nat) : (stOf G0 a).pict = true ↔ ∃ u n,a = u++12 :: List.replicate n 4:=by
 induction a using snoc_ind with
 | h0=>simp [stOf,G0]
 | h1 a y ih =>
  rw [stOf_snoc]
  simp only [GS.next,Bool.or_eq_true,beq_iff_eq,Bool.and_eq_true,ih]
  constructor
  ·rintro (rfl | ⟨⟨u,n,rfl⟩,rfl⟩)
   ·exact ⟨a,0,rfl⟩
   ·exact ⟨u,n+1,by rw [List.replicate_succ'];simp⟩
  ·rintro ⟨u,n,h⟩
   cases n with
   | zero=>exact .inl (snoc_inj (b:=u) (y:=12) (by simpa using h)).2
   | succ n =>
    rw [List.replicate_succ',← List.cons_append,← List.append_assoc] at h
    have:=snoc_inj h
    exact .inr ⟨⟨u,n,this.1⟩,this.2⟩
theorem joined_iff (a : List Nat) (p : Nat) : (stOf G0 (a++[p])).joined = true ↔ p = 5∧∃ u n,a = u++12 :: List.replicate n 4:=by
 rw [stOf_snoc]
 simp only [GS.next,Bool.and_eq_true,beq_iff_eq,pict_iff]
 exact ⟨fun h=>⟨h.2,h.1⟩,fun h=>⟨h.2,h.1⟩⟩
theorem flags_run (a : List Nat) : ∃ u,a = u++List.replicate (stOf G0 a).flags 13∧(u = []∨∃ u' x,u = u'++[x]∧x ≠ 13):=by
 induction a using snoc_ind with
 | h0=>exact ⟨[],by simp [stOf,G0],.inl rfl⟩
 | h1 a y ih =>
  rw [stOf_snoc]
  simp only [GS.next]
  by_cases h : y = 13
  ·subst h
   obtain ⟨u,h1,h2⟩:=ih
   refine ⟨u,?_,h2⟩
   rw [if_pos rfl,List.replicate_succ',← List.append_assoc,← h1]
  ·rw [if_neg h]
   exact ⟨a++[y],by simp,.inr ⟨a,y,rfl,h⟩⟩
theorem run_len : ∀ (n m : Nat) {u v : List Nat},u++List.replicate n 13 = v++List.replicate m 13→(u = []∨∃ u' x,u = u'++[x]∧x ≠ 13)→(v = []∨∃ u' x,v = u'++[x]∧x ≠ 13)→n = m
 | 0,0,_,_,_,_,_=>rfl
 | 0,m+1,u,v,h,hu,_=>by
  rw [List.replicate_zero,List.append_nil,List.replicate_succ',← List.append_assoc] at h
  rcases hu with rfl | ⟨u',x,rfl,hx⟩
  ·simp at h
  ·exact absurd (snoc_inj h).2 hx
 | n+1,0,u,v,h,_,hv=>by
  rw [List.replicate_zero,List.append_nil,List.replicate_succ',← List.append_assoc] at h
  rcases hv with rfl | ⟨u',x,rfl,hx⟩
  ·simp at h
  ·exact absurd (snoc_inj h).2.symm hx
 | n+1,m+1,u,v,h,hu,hv=>by
  rw [List.replicate_succ',List.replicate_succ',← List.append_assoc,← List.append_assoc] at h
  rw [run_len n m (snoc_inj h).1 hu hv]
def setQ (c : Nat) : Pat:=.node 1 [c] []
def rulesG : List RuleP:=[
 ⟨false,false,false,setQ 1,setQ 2⟩,
 ⟨true,false,false,.node 3 [] [setQ 1,setQ 2,setQ 3],.node 0 [] []⟩,
 ⟨true,false,false,.node 0 [] [],.node 3 [] [setQ 1,setQ 2,setQ 3]⟩,
 ⟨false,false,false,setQ 8,.node 3 [] [setQ 8,setQ 9,setQ 11]⟩,
 ⟨false,false,false,.node 3 [] [setQ 9,setQ 11],.node 3 [] [setQ 9,setQ 10]⟩,
 ⟨false,false,false,setQ 10,setQ 10⟩,
 ⟨false,false,false,.node 0 [] [],.node 3 [] [setQ 4,setQ 5,setQ 6]⟩,
 ⟨false,false,false,setQ 7,.node 0 [] []⟩,
 ⟨false,false,false,.node 2 [] [setQ 12,.node 4 [] [setQ 4],setQ 5],setQ 12⟩,
 ⟨false,true,false,.node 2 [] [.node 4 [] [two13],setQ 13],setQ 13⟩,
 ⟨false,false,false,.node 2 [] [.node 1 [0,1,2,3,4,5,6,7,8,9,10,11,12] [],.node 4 [] [two13],setQ 13],setQ 13⟩]
theorem lang_alt (l : List Nat) (u : List Nat) : Lang (.node 3 [] (l.map setQ)) u ↔ One l u:=by
 have h:=langO_sets (l.map fun c=>[c]) u
 rw [List.map_map] at h
 have e : ∀ l : List Nat,(l.map fun c=>[c]).flatten = l:=fun l=>by
  induction l with
  | nil=>rfl
  | cons a r ih=>rw [List.map_cons,List.flatten_cons,ih];rfl
 rw [e] at h
 rw [lang_or]
 exact h
theorem ahead_alt {a : List Nat} {p : Nat} (l : List Nat) : Ahead false (Lang (.node 3 [] (l.map setQ))) (a++[p]) ↔ p ∈ l:=(Ahead.congr (lang_alt l) _).trans ahead_one
theorem behind_alt {b : List Nat} {q : Nat} (l : List Nat) : Behind false (Lang (.node 3 [] (l.map setQ))) (q :: b) ↔ q ∈ l:=(Behind.congr (lang_alt l) _).trans behind_one
theorem ahead_set {a : List Nat} {p : Nat} (cs : List Nat) : Ahead false (Lang (.node 1 cs [])) (a++[p]) ↔ p ∈ cs:=(Ahead.congr (lang_set cs []) _).trans ahead_one
theorem behind_set {b : List Nat} {q : Nat} (cs : List Nat) : Behind false (Lang (.node 1 cs [])) (q :: b) ↔ q ∈ cs:=(Behind.congr (lang_set cs []) _).trans behind_one
theorem ahead_empty (a : List Nat) : Ahead false (Lang (.node 0 [] [])) a:=(Ahead.congr (lang_empty [] []) _).2 (ahead_nil a)
theorem behind_empty (b : List Nat) : Behind false (Lang (.node 0 [] [])) b:=(Behind.congr (lang_empty [] []) _).2 (behind_nil b)
theorem lang_pict (u : List Nat) : Lang (.node 2 [] [setQ 12,.node 4 [] [setQ 4],setQ 5]) u ↔ ∃ n,u = 12 :: (List.replicate n 4++[5]):=by
 rw [lang_then]
 simp only [LangT,lang_many,setQ,lang_set]
 constructor
 ·rintro ⟨_,_,rfl,⟨x,rfl,hx⟩,_,_,rfl,hs,_,_,rfl,⟨y,rfl,hy⟩,rfl⟩
  obtain ⟨n,rfl⟩:=(star_one 4 _).1 ((star_congr (fun u=>lang_set [4] [] u) _).1 hs)
  simp at hx hy
  subst hx hy
  exact ⟨n,rfl⟩
 ·rintro ⟨n,rfl⟩
  exact ⟨[12],_,rfl,⟨12,rfl,by simp⟩,List.replicate n 4,[5],rfl,(star_congr (fun u=>lang_set [4] [] u) _).2 ((star_one 4 _).2 ⟨n,rfl⟩),[5],[],rfl,⟨5,rfl,by simp⟩,rfl⟩
theorem ahead_pict {a : List Nat} {p : Nat} : Ahead false (Lang (.node 2 [] [setQ 12,.node 4 [] [setQ 4],setQ 5])) (a++[p]) ↔ (stOf G0 (a++[p])).joined = true:=by
 rw [joined_iff,Ahead.congr lang_pict]
 constructor
 ·rintro ⟨u,v,e,_,n,rfl⟩
  rw [← List.cons_append,← List.append_assoc] at e
  have:=snoc_inj e
  exact ⟨this.2,u,n,this.1⟩
 ·rintro ⟨rfl,u,n,rfl⟩
  exact ⟨u,_,by simp,(fun h=>by cases h),n,rfl⟩
theorem lang_odd (u : List Nat) : Lang (.node 2 [] [.node 4 [] [two13],setQ 13]) u ↔ ∃ n,u = List.replicate (2*n+1) 13:=by
 rw [lang_then]
 simp only [LangT,lang_many,setQ,lang_set]
 constructor
 ·rintro ⟨_,_,rfl,hs,_,_,rfl,⟨y,rfl,hy⟩,rfl⟩
  obtain ⟨n,rfl⟩:=(star_two 13 _).1 ((star_congr lang_two _).1 hs)
  simp at hy
  subst hy
  exact ⟨n,by rw [List.replicate_succ'];rfl⟩
 ·rintro ⟨n,rfl⟩
  exact ⟨List.replicate (2*n) 13,[13],by rw [List.replicate_succ'],(star_congr lang_two _).2 ((star_two 13 _).2 ⟨n,rfl⟩),[13],[],rfl,⟨13,rfl,by simp⟩,rfl⟩
theorem lang_odd2 (cs : List Nat) (u : List Nat) : Lang (.node 2 [] [.node 1 cs [],.node 4 [] [two13],setQ 13]) u ↔ ∃ x n,x ∈ cs∧u = x :: List.replicate (2*n+1) 13:=by
 have h2:=lang_odd
 simp only [lang_then] at h2 ⊢
 rw [LangT]
 constructor
 ·rintro ⟨_,w,rfl,h1,hw⟩
  obtain ⟨x,rfl,hx⟩:=(lang_set cs [] _).1 h1
  obtain ⟨n,rfl⟩:=(h2 w).1 hw
  exact ⟨x,n,hx,rfl⟩
 ·rintro ⟨x,n,hx,rfl⟩
  exact ⟨[x],_,rfl,(lang_set cs [] _).2 ⟨x,rfl,hx⟩,(h2 _).2 ⟨n,rfl⟩⟩
theorem ahead_odd {a : List Nat} (h14 : ∀ x ∈ a,x < 14) : (Ahead true (Lang (.node 2 [] [.node 4 [] [two13],setQ 13])) a∨Ahead false (Lang (.node 2 [] [.node 1 [0,1,2,3,4,5,6,7,8,9,10,11,12] [],.node 4 [] [two13],setQ 13])) a) ↔ (stOf G0 a).flags % 2 = 1:=by
 rw [Ahead.congr lang_odd,Ahead.congr (lang_odd2 _)]
 obtain ⟨z,hz,hzu⟩:=flags_run a
 constructor
 ·rintro (⟨u,v,e,hs,n,rfl⟩ | ⟨u,v,e,_,x,n,hx,rfl⟩)
  ·rw [hs rfl] at e
   have:=run_len _ _ (hz.symm.trans e) hzu (.inl rfl)
   omega
  ·have e2 : a = (u++[x])++List.replicate (2*n+1) 13:=by rw [e];simp
   have:=run_len _ _ (hz.symm.trans e2) hzu (.inr ⟨u,x,rfl,by intro h;subst h;simp at hx⟩)
   omega
 ·intro h
  generalize (stOf G0 a).flags = F at h hz
  obtain ⟨n,rfl⟩ : ∃ n,F = 2*n+1:=⟨F / 2,by omega⟩
  rcases hzu with rfl | ⟨u',x,rfl,hx⟩
  ·exact .inl ⟨[],_,hz,fun _=>rfl,n,rfl⟩
  ·refine .inr ⟨u',x :: List.replicate (2*n+1) 13,by rw [hz];simp,(fun h=>by cases h),x,n,?_,rfl⟩
   have:=h14 x (by rw [hz];simp)
   simp only [List.mem_cons,List.not_mem_nil,or_false]
   omega
def chainG (p q : Nat) (j f : Bool) : Bool :=
 if p == 1 && q == 2 then false
 else if [1,2,3].contains p then true
 else if [1,2,3].contains q then true
 else if p == 8 && [8,9,11].contains q then false
 else if [9,11].contains p && [9,10].contains q then false
 else if p == 10 && q == 10 then false
 else if [4,5,6].contains q then false
 else if p == 7 then false
 else if j && q == 12 then false
 else if q == 13 && f then false
 else true
theorem chain_all : ∀ p < 14,∀ q < 14,∀ j f : Bool,((j && p != 5) || (f && p != 13) || (chainG p q j f == !(joinG p q || j && q == 12 || q == 13 && f))) = true:=by decide
theorem chain_same (p : Nat) (hp : p < 14) (q : Nat) (hq : q < 14) (j f : Bool) (hj : j = true→p = 5) (hf : f = true→p = 13) : chainG p q j f = !(joinG p q || j && q == 12 || q == 13 && f):=by
 have h:=chain_all p hp q hq j f
 have h1 : (j && p != 5) = false:=by
  cases j with
  | false=>rfl
  | true=>simp [hj rfl]
 have h2 : (f && p != 13) = false:=by
  cases f with
  | false=>rfl
  | true=>simp [hf rfl]
 rw [h1,h2] at h
 simpa using h
theorem Decides.of_cons {a b : List Nat} {rest : Bool} {r : RuleP} {l : List RuleP} {x : Bool} (h : Decides a b rest (r :: l) x) : (AppliesL r a b∧x = r.cut)∨(¬ AppliesL r a b∧Decides a b rest l x):=by
 cases h with
 | yes h=>exact .inl ⟨h,rfl⟩
 | no h g=>exact .inr ⟨h,g⟩
theorem rules_letters {a b : List Nat} {p q : Nat} {x : Bool} (ha : ∀ y ∈ a++[p],y < 14) (hq : q < 14) (h : Decides (a++[p]) (q :: b) true rulesG x) : x = (stOf G0 (a++[p])).cut q:=by
 have hp : p < 14:=ha p (by simp)
 have hst : (stOf G0 (a++[p])).prev = p:=by rw [stOf_snoc];rfl
 have hodd:=ahead_odd ha
 have hcut : (stOf G0 (a++[p])).cut q = chainG p q (stOf G0 (a++[p])).joined ((stOf G0 (a++[p])).flags % 2 == 1):=by
  have hgd : (stOf G0 (a++[p])).Good:=stOf_good _ ⟨fun h=>by simp [G0] at h,fun h=>absurd rfl h⟩
  rw [chain_same p hp q hq _ _ (fun h=>hst ▸ hgd.joined h) (fun h=>hst ▸ hgd.flags (by intro h0;rw [h0] at h;simp at h)),GS.cut,hst]
 rw [hcut]
 unfold rulesG at h
 have a1:=fun cs=>ahead_set (a:=a) (p:=p) cs
 have b1:=fun cs=>behind_set (b:=b) (q:=q) cs
 have a2:=fun l=>ahead_alt (a:=a) (p:=p) l
 have b2:=fun l=>behind_alt (b:=b) (q:=q) l
 have a3:=ahead_pict (a:=a) (p:=p)
 generalize (stOf G0 (a++[p])).joined = j at a3 ⊢
 generalize (stOf G0 (a++[p])).flags = F at hodd ⊢
 have s123 : ([setQ 1,setQ 2,setQ 3] : List Pat) = [1,2,3].map setQ:=rfl
 have s8911 : ([setQ 8,setQ 9,setQ 11] : List Pat) = [8,9,11].map setQ:=rfl
 have s911 : ([setQ 9,setQ 11] : List Pat) = [9,11].map setQ:=rfl
 have s910 : ([setQ 9,setQ 10] : List Pat) = [9,10].map setQ:=rfl
 have s456 : ([setQ 4,setQ 5,setQ 6] : List Pat) = [4,5,6].map setQ:=rfl
 rw [s123,s8911,s911,s910,s456] at h
 unfold chainG
 have setP_eq : ∀ c,setQ c = .node 1 [c] []:=fun _=>rfl
 rcases h.of_cons with ⟨⟨h1,h2⟩,rfl⟩ | ⟨n1,h⟩
 ·have h1:=(a1 _).1 h1
  have h2:=(b1 _).1 h2
  simp at h1 h2
  simp [h1,h2]
 have n1 : ¬ (p = 1∧q = 2):=fun e=>n1 ⟨(a1 _).2 (by simp [e.1]),(b1 _).2 (by simp [e.2])⟩
 rw [if_neg (by simpa using n1)]
 rcases h.of_cons with ⟨⟨h1,_⟩,rfl⟩ | ⟨n2,h⟩
 ·rw [if_pos (by simpa using (a2 _).1 h1)]
 have n2 : ¬ p ∈ [1,2,3]:=fun e=>n2 ⟨(a2 _).2 e,behind_empty _⟩
 rw [if_neg (by simpa using n2)]
 rcases h.of_cons with ⟨⟨_,h1⟩,rfl⟩ | ⟨n3,h⟩
 ·rw [if_pos (by simpa using (b2 _).1 h1)]
 have n3 : ¬ q ∈ [1,2,3]:=fun e=>n3 ⟨ahead_empty _,(b2 _).2 e⟩
 rw [if_neg (by simpa using n3)]
 rcases h.of_cons with ⟨⟨h1,h2⟩,rfl⟩ | ⟨n4,h⟩
 ·rw [if_pos (by have h1:=(a1 _).1 h1;have h2:=(b2 _).1 h2;simpa using And.intro h1 h2)]
 have n4 : ¬ (p ∈ [8]∧q ∈ [8,9,11]):=fun e=>n4 ⟨(a1 _).2 e.1,(b2 _).2 e.2⟩
 rw [if_neg (by simpa using n4)]
 rcases h.of_cons with ⟨⟨h1,h2⟩,rfl⟩ | ⟨n5,h⟩
 ·rw [if_pos (by have h1:=(a2 _).1 h1;have h2:=(b2 _).1 h2;simpa using And.intro h1 h2)]
 have n5 : ¬ (p ∈ [9,11]∧q ∈ [9,10]):=fun e=>n5 ⟨(a2 _).2 e.1,(b2 _).2 e.2⟩
 rw [if_neg (by simpa using n5)]
 rcases h.of_cons with ⟨⟨h1,h2⟩,rfl⟩ | ⟨n6,h⟩
 ·rw [if_pos (by have h1:=(a1 _).1 h1;have h2:=(b1 _).1 h2;simpa using And.intro h1 h2)]
 have n6 : ¬ (p ∈ [10]∧q ∈ [10]):=fun e=>n6 ⟨(a1 _).2 e.1,(b1 _).2 e.2⟩
 rw [if_neg (by simpa using n6)]
 rcases h.of_cons with ⟨⟨_,h1⟩,rfl⟩ | ⟨n7,h⟩
 ·rw [if_pos (by simpa using (b2 _).1 h1)]
 have n7 : ¬ q ∈ [4,5,6]:=fun e=>n7 ⟨ahead_empty _,(b2 _).2 e⟩
 rw [if_neg (by simpa using n7)]
 rcases h.of_cons with ⟨⟨h1,_⟩,rfl⟩ | ⟨n8,h⟩
 ·rw [if_pos (by simpa using (a1 _).1 h1)]
 have n8 : ¬ p ∈ [7]:=fun e=>n8 ⟨(a1 _).2 e,behind_empty _⟩
 rw [if_neg (by simpa using n8)]
 rcases h.of_cons with ⟨⟨h1,h2⟩,rfl⟩ | ⟨n9,h⟩
 ·rw [if_pos (by have h1:=a3.1 h1;have h2:=(b1 _).1 h2;simpa using And.intro h1 h2)]
 have n9 : ¬ (j = true∧q ∈ [12]):=fun e=>n9 ⟨a3.2 e.1,(b1 _).2 e.2⟩
 rw [if_neg (by simpa using n9)]
 rcases h.of_cons with ⟨⟨h1,h2⟩,rfl⟩ | ⟨n10,h⟩
 ·rw [if_pos (by have h1:=hodd.1 (.inl h1);have h2:=(b1 _).1 h2;simpa [h1] using h2)]
 rcases h.of_cons with ⟨⟨h1,h2⟩,rfl⟩ | ⟨n11,h⟩
 ·rw [if_pos (by have h1:=hodd.1 (.inr h1);have h2:=(b1 _).1 h2;simpa [h1] using h2)]
 have n12 : ¬ (q = 13∧F % 2 = 1):=fun e=>by
  have hq2:=(b1 [13]).2 (by simp [e.1])
  rcases hodd.2 e.2 with g | g
  ·exact n10 ⟨g,hq2⟩
  ·exact n11 ⟨g,hq2⟩
 rw [if_neg (by simpa using n12)]
 cases h
 rfl
end
section
theorem decN_cont {n b0 b1 b2 b3 R W : Nat} (h : Lib.decodeN n b0 b1 b2 b3 = (R,W)) : (2≤W→128≤b1)∧(3≤W→128≤b2)∧(4≤W→128≤b3)∧W≤4:=by
 unfold Lib.decodeN at h
 repeat' split at h
 all_goals (injection h with _ h;omega)
theorem dec_cont {s : ByteArray} {i k R W : Nat} (h : Utf8.decode s i = (R,W)) (hk : 0 < k) (hW : k < W) : 128≤(s.get! (i+k)).toNat:=by
 rw [Lib.decode_at] at h
 obtain ⟨h1,h2,h3,h4⟩:=decN_cont h
 rcases (show k = 1∨k = 2∨k = 3 by omega) with rfl | rfl | rfl
 ·exact h1 (by omega)
 ·exact h2 (by omega)
 ·exact h3 (by omega)
theorem ascii_at (s : ByteArray) {z : Nat} (hz : z < s.size) (ha : (s.get! z).toNat < 128) : ∀ (f a : Nat),s.size≤a+f→a≤z→∃ x ∈ runesGo s f a,x.2.1 = z
 | 0,a,hf,hle=>by omega
 | f+1,a,hf,hle=>by
  have hlt : a < s.size:=by omega
  have hd:=dec_bd s a hlt
  obtain ⟨⟨R,W⟩,hD⟩ : ∃ d,Utf8.decode s a = d:=⟨_,rfl⟩
  rw [hD] at hd
  simp only at hd
  have hr : runesGo s (f+1) a = (R,a,a+W) :: runesGo s f (a+W):=by rw [runesGo,if_pos hlt,hD]
  rw [hr]
  by_cases haz : a = z
  ·exact ⟨_,List.mem_cons_self,haz⟩
  ·have hle2 : a+W≤z:=by
    rcases Nat.lt_or_ge z (a+W) with h | h
    ·have:=dec_cont hD (k:=z - a) (by omega) (by omega)
     rw [show a+(z - a) = z by omega] at this;omega
    ·exact h
   obtain ⟨x,hx,e⟩:=ascii_at s hz ha f (a+W) (by omega) hle2
   exact ⟨x,List.mem_cons_of_mem _ hx,e⟩
end
section
theorem get_sub (s : ByteArray) {a b : Nat} (hb : b≤s.size) (k : Nat) : (s.extract 0 b).get! (a+k) = (s.extract a b).get! k:=by
 rw [← Lib.getD_get!',← Lib.getD_get!',ByteArray.data_extract,ByteArray.data_extract,Array.toList_extract,Array.toList_extract,List.extract_eq_take_drop,List.extract_eq_take_drop,List.getD_eq_getElem?_getD,List.getD_eq_getElem?_getD,List.drop_zero,Nat.sub_zero]
 by_cases h : a+k < b
 ·rw [List.getElem?_take_of_lt h,List.getElem?_take_of_lt (by omega),List.getElem?_drop]
 ·rw [List.getElem?_eq_none (by rw [List.length_take,size_data];omega),List.getElem?_eq_none (by rw [List.length_take,List.length_drop,size_data];omega)]
end
section
end
end Go.Proofs.YtlfpdpbbkjnapaaGreatDoor
/- -/
namespace Go.Proofs.YtlfpdpbbkjnapaaGreatDoor
set_option maxRecDepth 100000
set_option maxHeartbeats 40000000
section
section
variable {A B : List Int} {e : Int}
end
end
section
theorem pick_len : ∀ (r : List (Nat × Nat × Nat)) (t : List Bool),t.length = r.length→(pickG r t).length = t.count true
 | [],[],_=>rfl
 | [],_ :: _,h=>by simp at h
 | _ :: _,[],h=>by simp at h
 | x :: r,b :: t,h=>by
  rw [pickG,List.length_append,pick_len r t (by simpa using h)]
  cases b with
  | false=>simp
  | true=>simp;omega
theorem starts_len (g : Int→Nat) (s : ByteArray) : (startsG g s).length = (cutsG (clsG g (runesP s))).count true:=pick_len _ _ (by rw [cutsG_len,clsG_len])
end
section
end
end Go.Proofs.YtlfpdpbbkjnapaaGreatDoor
/- -/
namespace Go.Proofs.YtlfpdpbbkjnapaaGreatDoor
set_option maxRecDepth 100000
set_option maxHeartbeats 40000000
section
theorem place_gap (s : ByteArray) : ∀ (r : List (Nat × Nat × Nat)) (p z : Nat),Contig p r z→∀ x ∈ r,∀ y ∈ r,¬ (x.2.1 < y.2.1∧y.2.1 < x.2.2)
 | [],_,_,_,x,hx,_,_=>by simp at hx
 | a :: r,p,z,h,x,hx,y,hy=>by
  obtain ⟨h1,h2,h3⟩:=h
  have hle : ∀ {r : List (Nat × Nat × Nat)} {p z : Nat},Contig p r z→∀ x ∈ r,p≤x.2.1:=by
   intro r
   induction r with
   | nil=>intro p z _ x hx;simp at hx
   | cons w r ih =>
    intro p z h x hx
    obtain ⟨k1,k2,k3⟩:=h
    rcases List.mem_cons.1 hx with rfl | hx
    ·omega
    ·have:=ih k3 x hx;omega
  rcases List.mem_cons.1 hx with ex | hx'
  ·rcases List.mem_cons.1 hy with ey | hy'
   ·rw [ex,ey];omega
   ·have:=hle h3 y hy';rw [ex];omega
  ·rcases List.mem_cons.1 hy with ey | hy'
   ·have:=hle h3 x hx';rw [ey];omega
   ·exact place_gap s r _ z h3 x hx' y hy'
end
section
def offB (x y : Int × Int × Nat) : Bool:=decide (x.2.1 < y.1) || decide (y.2.1 < x.1)
def offAll : List (Int × Int × Nat)→Bool
 | []=>true
 | x :: r=>r.all (offB x) && offAll r
theorem offAll_spec : ∀ {l : List (Int × Int × Nat)},offAll l = true→l.Pairwise Off
 | [],_=>.nil
 | x :: r,h=>by
  simp only [offAll,Bool.and_eq_true,List.all_eq_true] at h
  refine .cons (fun y hy=>?_) (offAll_spec h.2)
  have:=h.1 y hy
  simpa [offB,Off] using this
theorem entG_apart : ∀ {S : List (List (Int × Int))} {c : Nat},(entG c S).Pairwise Off→Apart S
 | [],c,_=>fun i j a b hi=>by simp at hi
 | s :: S,c,h=>by
  unfold entG at h
  rw [List.pairwise_append] at h
  have ih:=entG_apart h.2.1
  have hx : ∀ (j : Nat) (b : List (Int × Int)),S[j]? = some b→∀ r,memR s r→memR b r→False:=fun j b hb r ⟨x,hx,h1,h2⟩ ⟨y,hy,h3,h4⟩=>by
   have:=h.2.2 (x.1,x.2,c) (List.mem_map.2 ⟨x,hx,rfl⟩) (y.1,y.2,c+1+j) (mem_entG.2 ⟨j,b,hb,hy,rfl⟩)
   unfold Off at this;simp only at this;omega
  intro i j a b hi hj hij r ha hb
  cases i with
  | zero =>
   cases j with
   | zero=>omega
   | succ j=>simp at hi hj;subst hi;exact hx j b hj r ha hb
  | succ i =>
   cases j with
   | zero=>simp at hi hj;subst hj;exact hx i a hi r hb ha
   | succ j=>exact ih i j a b (by simpa using hi) (by simpa using hj) (by omega) r ha hb
def nfB : List (Int × Int)→Bool
 | []=>true
 | x :: r=>decide (0≤x.1) && decide (x.1≤x.2) && decide (x.2≤1114111) && r.all (fun y=>decide (x.2+1 < y.1)) && nfB r
theorem nfB_spec : ∀ {l : List (Int × Int)},nfB l = true→NF l
 | [],_=>⟨trivial,by simp⟩
 | x :: r,h=>by
  simp only [nfB,Bool.and_eq_true,List.all_eq_true,decide_eq_true_eq] at h
  obtain ⟨⟨⟨⟨h1,h2⟩,h3⟩,h4⟩,h5⟩:=h
  have ih:=nfB_spec h5
  refine ⟨⟨h2,h4,ih.1⟩,fun y hy=>?_⟩
  rcases List.mem_cons.1 hy with rfl | hy
  ·exact ⟨h1,h3⟩
  ·exact ih.2 y hy
def nodB : List (List UInt8)→Bool
 | []=>true
 | x :: r=>r.all (fun y=>!(y == x)) && nodB r
theorem nodB_spec : ∀ {l : List (List UInt8)},nodB l = true→l.Nodup
 | [],_=>.nil
 | x :: r,h=>by
  simp only [nodB,Bool.and_eq_true,List.all_eq_true] at h
  refine List.nodup_cons.2 ⟨fun hx=>?_,nodB_spec h.2⟩
  have:=h.1 x hx
  simp at this
def DbP.okB (d : DbP) : Bool :=
 decide (d.sets.length = d.names.length) && d.sets.all nfB && nodB d.names && decide (d.names.head? = some otherL) && decide (d.sets.head? = some []) && decide (d.names.length≤64) && offAll (entG 0 d.sets) && d.names.all nameL
theorem DbP.okB_spec {d : DbP} (h : d.okB = true) : d.Ok∧Apart d.sets∧d.Named:=by
 simp only [DbP.okB,Bool.and_eq_true,List.all_eq_true,decide_eq_true_eq] at h
 obtain ⟨⟨⟨⟨⟨⟨⟨h1,h2⟩,h3⟩,h4⟩,h5⟩,h6⟩,h7⟩,h8⟩:=h
 exact ⟨⟨h1,fun l hl=>nfB_spec (h2 l hl),nodB_spec h3,h4,h5,h6⟩,entG_apart (offAll_spec h7),h8⟩
end
section
def insK (x : Int × Int) : List (Int × Int)→List (Int × Int)
 | []=>[x]
 | y :: r=>if x.1≤y.1 then x :: y :: r else y :: insK x r
def sortK : List (Int × Int)→List (Int × Int)
 | []=>[]
 | x :: r=>insK x (sortK r)
theorem insK_perm (x : Int × Int) : ∀ (l : List (Int × Int)),(insK x l).Perm (x :: l)
 | []=>.refl _
 | y :: r=>by
  unfold insK
  split
  ·exact .refl _
  ·exact ((insK_perm x r).cons y).trans (List.Perm.swap x y r)
theorem sortK_perm : ∀ (l : List (Int × Int)),(sortK l).Perm l
 | []=>.refl _
 | x :: r=>(insK_perm x (sortK r)).trans ((sortK_perm r).cons x)
theorem insK_rise {x : Int × Int} : ∀ {l : List (Int × Int)},Rise l→Rise (insK x l)
 | [],_=>by unfold insK Rise;simp
 | y :: r,h=>by
  have h':=List.pairwise_cons.1 h
  unfold insK
  split
  ·rename_i hxy
   refine List.pairwise_cons.2 ⟨fun z hz=>?_,h⟩
   rcases List.mem_cons.1 hz with rfl | hz
   ·exact hxy
   ·have:=h'.1 z hz;omega
  ·rename_i hxy
   refine List.pairwise_cons.2 ⟨fun z hz=>?_,insK_rise h'.2⟩
   rcases List.mem_cons.1 ((insK_perm x r).mem_iff.1 hz) with rfl | hz
   ·omega
   ·exact h'.1 z hz
theorem sortK_rise : ∀ (l : List (Int × Int)),Rise (sortK l)
 | []=>.nil
 | _ :: r=>insK_rise (sortK_rise r)
def normK (l : List (Int × Int)) : List (Int × Int):=mergeR (sortK (keepR l))
theorem normK_eq (l : List (Int × Int)) : normK l = normR l:=mergeR_eq (sortK_perm _) (sortK_rise _)
def addK (d : DbP) (name set : List UInt8) : Except Int DbP :=
 if nameL name = false∨name = otherL then .error 40 else
 match parseE (spcL set) with
 | .error e=>.error e
 | .ok l =>
  match d.num name with
  | some c=>if d.clash c (normK l) then .error 41 else .ok ⟨d.names,d.sets.set c (normK ((d.sets.getD c [])++normK l))⟩
  | none=>if 64≤d.names.length then .error 6 else if d.clash d.names.length (normK l) then .error 41 else .ok ⟨d.names++[name],d.sets++[normK l]⟩
theorem addK_eq (d : DbP) (n s : List UInt8) : addK d n s = addL d n s:=by
 have e : ∀ l,normK l = orR [] (normR l):=fun l=>by unfold orR;rw [normK_eq,List.nil_append,normR_of_NF (normR_NF l)]
 have e1 : ∀ a b,normK (a++b) = orR a b:=fun a b=>by rw [normK_eq];rfl
 unfold addK addL
 split
 ·rfl
 ·cases parseE (spcL s) with
  | error e=>rfl
  | ok l =>
   simp only
   cases d.num n with
   | some c=>simp only [e1,normK_eq]
   | none=>simp only;rw [e,show orR [] (normR l) = normR l by rw [← e,normK_eq]]
def stepK (d : DbP) (l : List UInt8) : Except Int DbP :=
 match lineP l with
 | .none_=>.ok d
 | .noLine=>.error 42
 | .says n s=>addK d n s
theorem stepK_eq (d : DbP) (l : List UInt8) : stepK d l = stepL d l:=by
 unfold stepK stepL
 cases lineP l with
 | none_=>rfl
 | noLine=>rfl
 | says n s=>exact addK_eq d n s
def goK (d : DbP) : List (List UInt8)→Nat→Except (Int × Nat) DbP
 | [],_=>.ok d
 | l :: r,i=>match stepK d l with
  | .error e=>.error (e,i+1)
  | .ok d'=>goK d' r (i+1)
theorem goK_eq : ∀ (L : List (List UInt8)) (d : DbP) (i : Nat),goK d L i = linesGo d L i
 | [],_,_=>rfl
 | l :: r,d,i=>by
  unfold goK linesGo
  rw [stepK_eq]
  cases stepL d l with
  | error e=>rfl
  | ok d'=>exact goK_eq r d' (i+1)
theorem new_K {t : List UInt8} {d : DbP} (hl : decide (t.length≤65536) = true) (h : goK DbP.first (splitL t) 0 = .ok d) : newP t = .ok d:=by
 unfold newP
 rw [if_neg (by have:=of_decide_eq_true hl;omega),← goK_eq,h]
end
section
def graphsD : DbP:=⟨[otherL,[67,82],[76,70],[67,111,110,116,114,111,108],[69,120,116,101,110,100],[90,87,74],[77,97,114,107],[80,114,101,112,101,110,100],[76],[86],[84],[72],[80,105,99,116],[70,108,97,103]],[[],[(13,13)],[(10,10)],[(0,9),(11,12),(14,31),(127,159),(173,173),(8203,8203),(8232,8233),(65279,65279)],[(768,879),(1155,1161),(1425,1469),(1611,1631),(2364,2364),(2381,2381),(3636,3642),(8204,8204),(8400,8432),(12441,12442),(65024,65039),(127995,127999),(917536,917631)],[(8205,8205)],[(2307,2307),(2366,2368),(2377,2380),(3635,3635)],[(1536,1541),(1757,1757),(1807,1807),(69821,69821)],[(4352,4447)],[(4448,4519)],[(4520,4607)],[(44032,55203)],[(169,169),(174,174),(8252,8252),(8265,8265),(8482,8482),(8592,8703),(8960,9215),(9632,10175),(10548,10549),(11013,11093),(12336,12336),(12349,12349),(12951,12951),(12953,12953),(126976,127231),(127744,127994),(128000,129791)],[(127462,127487)]]⟩
theorem graphs_ok : graphsD.okB = true:=by kernel_rfl
theorem graphsOk : graphsD.Ok∧Apart graphsD.sets∧graphsD.Named:=DbP.okB_spec graphs_ok
def gG (r : Int) : Nat:=graphsD.get r
theorem gG_lt (r : Int) : gG r < 14:=get_lt graphsOk.1 r
end
section
end
end Go.Proofs.YtlfpdpbbkjnapaaGreatDoor
/- -/
namespace Go.Proofs.YtlfpdpbbkjnapaaGreatDoor
set_option maxRecDepth 100000
set_option maxHeartbeats 40000000
section
end
section
def runeB (r : Int) : Bool:=decide (0≤r) && decide (r≤1114111) && (decide (r < 55296) || decide (57343 < r))
end
section
theorem bounds_len (s : ByteArray) : (boundsG gG s).length≤s.size+1:=by
 unfold boundsG
 split
 ·simp
 ·rw [List.length_append,starts_len]
  have h1:=List.count_le_length (a:=true) (l:=cutsG (clsG gG (runesP s)))
  rw [cutsG_len,clsG_len] at h1
  have h2:=runesP_len s
  simp;omega
theorem bounds_le (g : Int→Nat) (s : ByteArray) : ∀ a ∈ boundsG g s,a≤s.size:=fun a ha=>by
 unfold boundsG at ha
 split at ha
 ·cases ha
 ·rcases List.mem_append.1 ha with h | h
  ·have:=starts_lt g s a h;omega
  ·rw [List.mem_singleton] at h;omega
end
section
def endsQ (r : Nat) : Bool:=(decide (10≤r) && decide (r≤13)) || r == 133 || r == 8232 || r == 8233
def headIs (v : Nat) : List (Nat × Nat × Nat)→Bool
 | []=>false
 | x :: _=>x.1 == v
def lnGo (z : Nat) : Nat × Nat→Nat→List (Nat × Nat × Nat)→List (Nat × Nat × Nat)
 | _,f,[]=>[(f,z,z)]
 | p,f,x :: r =>
  if (endsQ x.1 && !(x.1 == 13 && headIs 10 r)) = true then (f,(if (x.1 == 10 && p.1 == 13) = true then p.2 else x.2.1),x.2.2) :: lnGo z (x.1,x.2.1) x.2.2 r
  else lnGo z (x.1,x.2.1) f r
def lnP (s : ByteArray) : List (Nat × Nat × Nat):=lnGo s.size (0,0) 0 (runesP s)
def letS (t : ByteArray) : List Nat:=(boundsG gG t).dropLast
def letQ (s : ByteArray) (x : Nat × Nat × Nat) : List Nat:=letS (s.extract x.1 x.2.1)
def unitsP (s : ByteArray) : List Nat:=(runesP s).flatMap fun x=>if 65535 < x.1 then [x.2.1,x.2.1+1] else [x.2.1]
def startsP (s : ByteArray) : List Nat:=(runesP s).map fun x=>x.2.1
def begP (s : ByteArray) (b : Int) : List Nat :=
 if b = 0 then unitsP s else if b = 1 then startsP s else if b = 2 then List.range s.size else if b = 3 then letS s else []
def belowP (l : List Nat) (x : Int) : Nat:=(l.filter fun (a : Nat)=>decide ((a : Int) < x)).length
def pickP (l : List Nat) (n : Int) (e : Nat) : Nat:=if n < 0 then 0 else if (l.length : Int)≤n then e else l.getD n.toNat 0
def toP (s : ByteArray) (b x : Int) : Nat:=belowP (begP s b) x
def fromQ (s : ByteArray) (b n : Int) : Nat:=pickP (begP s b) n s.size
def rowGo (x : Int) : Nat→Nat→List (Nat × Nat × Nat)→Nat
 | _,row,[]=>row
 | i,row,y :: r=>rowGo x (i+1) (if (y.1 : Int)≤x then i else row) r
def rowP (L : List (Nat × Nat × Nat)) (x : Int) : Nat:=rowGo x 0 0 L
def lineQ (s : ByteArray) (k : Nat) : Nat × Nat × Nat:=(lnP s).getD k (0,0,0)
def colP (s : ByteArray) (k : Nat) (x : Int) : Nat:=belowP (letQ s (lineQ s k)) (max x 0 - ((lineQ s k).1 : Int))
def pointP (s : ByteArray) (x : Int) : Nat × Nat:=(rowP (lnP s) x,colP s (rowP (lnP s) x) x)
def atP (s : ByteArray) (r c : Int) : Nat :=
 if r < 0 then 0 else if ((lnP s).length : Int)≤r then s.size
 else (lineQ s r.toNat).1+pickP (letQ s (lineQ s r.toNat)) c ((lineQ s r.toNat).2.1 - (lineQ s r.toNat).1)
structure LnOk (z : Nat) (p : Nat × Nat) (f q : Nat) (r : List (Nat × Nat × Nat)) : Prop where
 contig : Contig q r z
 le : f≤q
 prev : p.1 = 13→headIs 10 r = true→f≤p.2∧p.2 < q
theorem LnOk.step {z : Nat} {p : Nat × Nat} {f q : Nat} {x : Nat × Nat × Nat} {r : List (Nat × Nat × Nat)} (h : LnOk z p f q (x :: r)) :
  x.2.1 = q∧q < x.2.2∧LnOk z (x.1,x.2.1) (if (endsQ x.1 && !(x.1 == 13 && headIs 10 r)) = true then x.2.2 else f) x.2.2 r:=by
 obtain ⟨hq,h1,hc⟩:=h.contig
 have h2:=h.le
 refine ⟨hq,h1,hc,?_,?_⟩
 ·split <;> omega
 ·intro h3 h4
  simp only at h3 ⊢
  rw [h3,h4]
  simp only [beq_self_eq_true,Bool.and_self,Bool.not_true,Bool.and_false,Bool.false_eq_true,if_false]
  omega
theorem lnOk_first (s : ByteArray) : LnOk s.size (0,0) 0 0 (runesP s):=⟨runesP_contig s,Nat.le_refl _,fun h=>by cases h⟩
def Tiles (z : Nat) : Nat→List (Nat × Nat × Nat)→Prop
 | _,[]=>False
 | f,[x]=>x.1 = f∧f≤x.2.1∧x.2.1 = x.2.2∧x.2.2 = z
 | f,x :: y :: r=>x.1 = f∧f≤x.2.1∧x.2.1 < x.2.2∧Tiles z x.2.2 (y :: r)
theorem lnGo_ne (z : Nat) : ∀ (r : List (Nat × Nat × Nat)) (p : Nat × Nat) (f : Nat),∃ x t,lnGo z p f r = x :: t
 | [],p,f=>⟨_,_,rfl⟩
 | y :: r,p,f=>by
  rw [lnGo]
  split
  ·exact ⟨_,_,rfl⟩
  ·exact lnGo_ne z r _ _
theorem lnGo_tiles {z : Nat} : ∀ (r : List (Nat × Nat × Nat)) (p : Nat × Nat) (f q : Nat),LnOk z p f q r→Tiles z f (lnGo z p f r)
 | [],p,f,q,h=>by
  have h1 : q = z:=h.contig
  have h2:=h.le
  exact ⟨rfl,by simp only;omega,rfl,rfl⟩
 | x :: r,p,f,q,h=>by
  obtain ⟨hq,hlt,h2⟩:=h.step
  have hle:=h.le
  rw [lnGo]
  by_cases hc : (endsQ x.1 && !(x.1 == 13 && headIs 10 r)) = true
  ·rw [if_pos hc] at h2 ⊢
   have ih:=lnGo_tiles r _ _ _ h2
   obtain ⟨y,t,e⟩:=lnGo_ne z r (x.1,x.2.1) x.2.2
   rw [e] at ih ⊢
   refine ⟨rfl,?_,?_,ih⟩
   ·simp only
    split
    ·rename_i h3
     rw [Bool.and_eq_true,beq_iff_eq,beq_iff_eq] at h3
     exact (h.prev h3.2 (by rw [headIs,h3.1];rfl)).1
    ·omega
   ·simp only
    split
    ·rename_i h3
     rw [Bool.and_eq_true,beq_iff_eq,beq_iff_eq] at h3
     have:=(h.prev h3.2 (by rw [headIs,h3.1];rfl)).2
     omega
    ·omega
  ·rw [if_neg hc] at h2 ⊢
   exact lnGo_tiles r _ _ _ h2
theorem lnP_tiles (s : ByteArray) : Tiles s.size 0 (lnP s):=lnGo_tiles _ _ _ _ (lnOk_first s)
theorem tiles_ge {z : Nat} : ∀ {L : List (Nat × Nat × Nat)} {f : Nat},Tiles z f L→∀ y ∈ L,f≤y.1∧y.1≤y.2.1∧y.2.1≤y.2.2∧y.2.2≤z
 | [],f,h,y,hy=>by cases hy
 | [x],f,h,y,hy=>by
  obtain ⟨h1,h2,h3,h4⟩:=h
  simp only [List.mem_singleton] at hy
  subst hy
  omega
 | x :: y' :: r,f,h,y,hy=>by
  obtain ⟨h1,h2,h3,h4⟩:=h
  have ih:=fun u hu=>tiles_ge h4 u hu
  rcases List.mem_cons.1 hy with rfl | hy
  ·have h5:=ih y' (by simp)
   omega
  ·have:=ih y hy
   omega
theorem tiles_rise {z : Nat} : ∀ {L : List (Nat × Nat × Nat)} {f : Nat},Tiles z f L→L.Pairwise fun x y=>x.2.2≤y.1∧x.2.1 < y.1∧x.1 < y.1
 | [],f,h=>by cases h
 | [x],f,h=>by simp
 | x :: y :: r,f,h=>by
  obtain ⟨h1,h2,h3,h4⟩:=h
  rw [List.pairwise_cons]
  refine ⟨fun u hu=>?_,tiles_rise h4⟩
  have:=tiles_ge h4 u hu
  omega
theorem tiles_first {z : Nat} {L : List (Nat × Nat × Nat)} {f : Nat} (h : Tiles z f L) : ∃ x t,L = x :: t∧x.1 = f:=by
 cases L with
 | nil=>cases h
 | cons x t=>cases t with
  | nil=>exact ⟨x,[],rfl,h.1⟩
  | cons y r=>exact ⟨x,y :: r,rfl,h.1⟩
theorem lnP_len (s : ByteArray) : (lnP s).length≤s.size+1:=by
 have h : ∀ (r : List (Nat × Nat × Nat)) (p : Nat × Nat) (f : Nat),(lnGo s.size p f r).length≤r.length+1:=fun r=>by
  induction r with
  | nil=>intro p f;simp [lnGo]
  | cons x r ih =>
   intro p f
   rw [lnGo]
   split
   ·have:=ih (x.1,x.2.1) x.2.2;simp only [List.length_cons];omega
   ·have:=ih (x.1,x.2.1) f;simp only [List.length_cons];omega
 have h1:=h (runesP s) (0,0) 0
 have:=runesP_len s
 unfold lnP;omega
theorem decN_low {n b0 b1 b2 b3 R W : Nat} (h : Lib.decodeN n b0 b1 b2 b3 = (R,W)) (hR : R < 128) : W = 1∧b0 = R:=by
 unfold Lib.decodeN at h
 repeat' split at h
 all_goals (injection h with h1 h2;omega)
theorem decN_high {n b0 b1 b2 b3 R W : Nat} (h : Lib.decodeN n b0 b1 b2 b3 = (R,W)) (hR : 65535 < R) : W = 4:=by
 unfold Lib.decodeN at h
 repeat' split at h
 all_goals (injection h with h1 h2;omega)
theorem rune_byte {s : ByteArray} {x : Nat × Nat × Nat} (hx : x ∈ runesP s) (h : x.1 < 128) : x.2.2 = x.2.1+1∧(s.get! x.2.1).toNat = x.1:=by
 have hd:=runesGo_dec _ _ x hx
 have hb:=runesP_bd x hx
 rw [Lib.decode_at] at hd
 obtain ⟨h1,h2⟩:=decN_low hd h
 exact ⟨by omega,h2⟩
theorem rune_wide {s : ByteArray} {x : Nat × Nat × Nat} (hx : x ∈ runesP s) (h : 65535 < x.1) : x.2.2 = x.2.1+4:=by
 have hd:=runesGo_dec _ _ x hx
 have hb:=runesP_bd x hx
 rw [Lib.decode_at] at hd
 have:=decN_high hd h
 omega
theorem byte_rune {s : ByteArray} {z : Nat} (hz : z < s.size) (h : (s.get! z).toNat < 128) : ((s.get! z).toNat,z,z+1) ∈ runesP s:=by
 obtain ⟨y,hy,e⟩:=ascii_at s hz h s.size 0 (by omega) (Nat.zero_le _)
 have hd:=runesGo_dec _ _ y hy
 have hb:=runesP_bd y hy
 rw [e,Lib.decode_at] at hd
 unfold Lib.decodeN at hd
 rw [if_pos h] at hd
 injection hd with h1 h2
 have : y = ((s.get! z).toNat,z,z+1):=by
  obtain ⟨a,b,c⟩:=y
  simp only at h1 h2 e hb
  rw [h1,e]
  congr 2
  omega
 rw [← this];exact hy
theorem rune_inj {s : ByteArray} {x y : Nat × Nat × Nat} (hx : x ∈ runesP s) (hy : y ∈ runesP s) (h : x.2.1 = y.2.1) : x = y:=by
 obtain ⟨i,hi,ei⟩:=List.getElem_of_mem hx
 obtain ⟨j,hj,ej⟩:=List.getElem_of_mem hy
 have hp:=List.pairwise_iff_getElem.1 (runes_rise s)
 rcases Nat.lt_trichotomy i j with hlt | heq | hgt
 ·have:=hp _ _ hi hj hlt;rw [ei,ej] at this;omega
 ·subst heq;rw [← ei,← ej]
 ·have:=hp _ _ hj hi hgt;rw [ei,ej] at this;omega
theorem next_ten {s : ByteArray} {x : Nat × Nat × Nat} {r : List (Nat × Nat × Nat)} (hx : x ∈ runesP s) (hr : ∀ y ∈ r,y ∈ runesP s) (hc : Contig x.2.2 r s.size) (h : x.1 = 13) :
  headIs 10 r = true ↔ x.2.1+1 < s.size∧(s.get! (x.2.1+1)).toNat = 10:=by
 obtain ⟨h1,h2⟩:=rune_byte hx (by omega)
 constructor
 ·intro hh
  cases r with
  | nil=>cases hh
  | cons y t =>
   have hy : y.1 = 10:=eq_of_beq hh
   obtain ⟨h3,h4⟩:=rune_byte (hr y (by simp)) (by omega)
   have h5:=runesP_bd y (hr y (by simp))
   have h6 : y.2.1 = x.2.2:=hc.1
   rw [h1] at h6
   rw [← h6]
   exact ⟨by omega,by omega⟩
 ·rintro ⟨h3,h4⟩
  have hm:=byte_rune h3 (by omega)
  rw [h4] at hm
  cases r with
  | nil=>have : x.2.2 = s.size:=hc;omega
  | cons y t =>
   have h6 : y.2.1 = x.2.2:=hc.1
   have:=rune_inj (hr y (by simp)) hm (by simp only;omega)
   rw [headIs,this];rfl
def PrevOk (s : ByteArray) (p : Nat × Nat) (q : Nat) : Prop:=(p.1 = 13→p.2+1 = q∧(s.get! p.2).toNat = 13)∧(0 < q→(s.get! (q - 1)).toNat = 13→p.1 = 13)
theorem prevOk_step {s : ByteArray} {x : Nat × Nat × Nat} (hx : x ∈ runesP s) : PrevOk s (x.1,x.2.1) x.2.2:=by
 have hb:=runesP_bd x hx
 refine ⟨fun h=>?_,fun h0 h=>?_⟩
 ·obtain ⟨h1,h2⟩:=rune_byte hx (by simp only at h;omega)
  exact ⟨by omega,by simp only at h ⊢;omega⟩
 ·have hm:=byte_rune (s:=s) (z:=x.2.2 - 1) (by omega) (by omega)
  rw [h] at hm
  have hg:=place_gap s _ 0 s.size (runesP_contig s) x hx _ hm
  simp only at hg
  have:=rune_inj hx hm (by simp only;omega)
  rw [this]
structure LnSt (s : ByteArray) (g q : Nat) (p : Nat × Nat) (f : Nat) (out : List (Nat × Nat × Nat)) : Prop where
 fuel : s.size≤q+g
 ok : LnOk s.size p f q (runesGo s g q)
 byte : PrevOk s p q
 out : out++lnGo s.size p f (runesGo s g q) = lnP s
 mem : ∀ x ∈ runesGo s g q,x ∈ runesP s
theorem lnSt_first (s : ByteArray) : LnSt s s.size 0 (0,0) 0 []:=⟨by omega,lnOk_first s,⟨fun h=>absurd h (by decide),fun h=>absurd h (by decide)⟩,rfl,fun _ h=>h⟩
theorem lnSt_end {s : ByteArray} {g q : Nat} {p : Nat × Nat} {f : Nat} {out : List (Nat × Nat × Nat)} (h : LnSt s g q p f out) (hq : ¬ q < s.size) : out++[(f,s.size,s.size)] = lnP s:=by
 have h1:=h.out
 rw [runesGo_end (by omega)] at h1
 exact h1
def lnEnds (s : ByteArray) (q R : Nat) : Bool:=endsQ R && !(R == 13 && (decide (q+1 < s.size) && ((s.get! (q+1)).toNat == 10)))
def lnTo (s : ByteArray) (f q R : Nat) : Nat:=if (R == 10 && (decide (f < q) && ((s.get! (q - 1)).toNat == 13))) = true then q - 1 else q
theorem lnSt_step {s : ByteArray} {g q : Nat} {p : Nat × Nat} {f : Nat} {out : List (Nat × Nat × Nat)} (h : LnSt s g q p f out) (hq : q < s.size) {R W : Nat} (hd : Utf8.decode s q = (R,W)) :
  ∃ g',if lnEnds s q R = true then LnSt s g' (q+W) (R,q) (q+W) (out++[(f,lnTo s f q R,q+W)]) else LnSt s g' (q+W) (R,q) f out:=by
 obtain ⟨g',rfl,hg⟩:=runesGo_step (s:=s) (f:=g) hq h.fuel
 rw [hd] at hg
 simp only at hg
 have hok:=h.ok
 have hm:=h.mem
 have ho:=h.out
 rw [hg] at hok hm ho
 have hx:=hm _ (List.mem_cons_self)
 have hm' : ∀ y ∈ runesGo s g' (q+W),y ∈ runesP s:=fun y hy=>hm y (List.mem_cons_of_mem _ hy)
 obtain ⟨_,hlt,hst⟩:=hok.step
 simp only at hlt hst
 have hb:=h.byte
 have e1 : lnEnds s q R = (endsQ R && !(R == 13 && headIs 10 (runesGo s g' (q+W)))):=by
  unfold lnEnds
  by_cases h13 : R = 13
  ·have:=next_ten hx hm' hst.contig h13
   simp only at this
   congr 3
   rw [Bool.eq_iff_iff,Bool.and_eq_true,decide_eq_true_iff,beq_iff_eq]
   exact this.symm
  ·rw [show (R == 13) = false from beq_eq_false_iff_ne.2 h13,Bool.false_and,Bool.false_and]
 rw [lnGo] at ho
 simp only at ho
 refine ⟨g',?_⟩
 rw [e1]
 have hf : s.size≤q+W+g':=by have:=h.fuel;omega
 by_cases hc : (endsQ R && !(R == 13 && headIs 10 (runesGo s g' (q+W)))) = true
 ·rw [if_pos hc] at hst ho ⊢
  have e2 : lnTo s f q R = if (R == 10 && p.1 == 13) = true then p.2 else q:=by
   unfold lnTo
   by_cases h10 : R = 10
   ·subst h10
    by_cases h3 : p.1 = 13
    ·obtain ⟨h4,h5⟩:=hb.1 h3
     have h6:=(hok.prev h3 rfl).1
     rw [if_pos (by rw [show q - 1 = p.2 by omega,h5];simp;omega),if_pos (by rw [h3];rfl)]
     omega
    ·rw [if_neg,if_neg]
     ·rw [Bool.and_eq_true,beq_iff_eq,beq_iff_eq];exact fun h=>h3 h.2
     ·rw [Bool.and_eq_true,Bool.and_eq_true,beq_iff_eq,beq_iff_eq,decide_eq_true_iff]
      exact fun h=>h3 (hb.2 (by omega) h.2.2)
   ·rw [show (R == 10) = false from beq_eq_false_iff_ne.2 h10,Bool.false_and,Bool.false_and,if_neg (by decide),if_neg (by decide)]
  rw [e2]
  exact ⟨hf,hst,prevOk_step hx,by rw [List.append_assoc];exact ho,hm'⟩
 ·rw [if_neg hc] at hst ho ⊢
  exact ⟨hf,hst,prevOk_step hx,ho,hm'⟩
def prevK (R : List (Nat × Nat × Nat)) : Nat→Nat × Nat
 | 0=>(0,0)
 | k+1=>match R[k]? with | some x=>(x.1,x.2.1) | none=>(0,0)
def LnRf (s : ByteArray) (k f : Nat) (out : List (Nat × Nat × Nat)) : Prop:=out++lnGo s.size (prevK (runesP s) k) f ((runesP s).drop k) = lnP s
theorem lnRf_first (s : ByteArray) : LnRf s 0 0 []:=rfl
theorem lnRf_end {s : ByteArray} {k f : Nat} {out : List (Nat × Nat × Nat)} (h : LnRf s k f out) (hk : ¬ k < (runesP s).length) : out++[(f,s.size,s.size)] = lnP s:=by
 unfold LnRf at h
 rw [List.drop_eq_nil_of_le (by omega)] at h
 exact h
theorem headIs_drop (v : Nat) (R : List (Nat × Nat × Nat)) (k : Nat) : headIs v (R.drop k) = match R[k]? with | some y=>y.1 == v | none=>false:=by
 cases h : R[k]? with
 | none=>rw [List.drop_eq_nil_of_le (List.getElem?_eq_none_iff.1 h)];rfl
 | some y =>
  have hk:=(List.getElem?_eq_some_iff.1 h).1
  rw [List.drop_eq_getElem_cons hk,(List.getElem?_eq_some_iff.1 h).2];rfl
theorem lnRf_step {s : ByteArray} {k f : Nat} {out : List (Nat × Nat × Nat)} (h : LnRf s k f out) {x : Nat × Nat × Nat} (hx : (runesP s)[k]? = some x) :
  if (endsQ x.1 && !(x.1 == 13 && headIs 10 ((runesP s).drop (k+1)))) = true then LnRf s (k+1) x.2.2 (out++[(f,(if (x.1 == 10 && (prevK (runesP s) k).1 == 13) = true then (prevK (runesP s) k).2 else x.2.1),x.2.2)])
  else LnRf s (k+1) f out:=by
 unfold LnRf at h ⊢
 have hk:=(List.getElem?_eq_some_iff.1 hx).1
 have hp : prevK (runesP s) (k+1) = (x.1,x.2.1):=by rw [prevK,hx]
 rw [List.drop_eq_getElem_cons hk,(List.getElem?_eq_some_iff.1 hx).2,lnGo] at h
 rw [hp]
 split
 ·rename_i hc
  rw [if_pos hc] at h
  rw [List.append_assoc];exact h
 ·rename_i hc
  rw [if_neg hc] at h
  exact h
theorem units_rise : ∀ {R : List (Nat × Nat × Nat)},(R.Pairwise fun x y=>x.2.2≤y.2.1)→(∀ x ∈ R,x.2.1 < x.2.2∧(65535 < x.1→x.2.2 = x.2.1+4)) →
  (R.flatMap fun x=>if 65535 < x.1 then [x.2.1,x.2.1+1] else [x.2.1]).Pairwise (· < ·)
 | [],_,_=>by simp
 | x :: R,hp,hw=>by
  rw [List.pairwise_cons] at hp
  rw [List.flatMap_cons,List.pairwise_append]
  have hx:=hw x (by simp)
  refine ⟨by split <;> simp,units_rise hp.2 (fun y hy=>hw y (by simp [hy])),fun a ha b hb=>?_⟩
  obtain ⟨y,hy,hb⟩:=List.mem_flatMap.1 hb
  have h1:=hp.1 y hy
  have h2 : a < x.2.2:=by
   split at ha
   ·rename_i h3
    have:=hx.2 h3
    simp only [List.mem_cons,List.not_mem_nil,or_false] at ha
    omega
   ·simp only [List.mem_cons,List.not_mem_nil,or_false] at ha
    omega
  have h3 : y.2.1≤b:=by
   split at hb <;> simp only [List.mem_cons,List.not_mem_nil,or_false] at hb <;> omega
  omega
theorem contig_pair {z : Nat} : ∀ {R : List (Nat × Nat × Nat)} {q : Nat},Contig q R z→(∀ x ∈ R,q≤x.2.1)∧R.Pairwise fun x y=>x.2.2≤y.2.1
 | [],q,_=>⟨fun _ h=>(by cases h),List.Pairwise.nil⟩
 | x :: R,q,h=>by
  obtain ⟨h1,h2,h3⟩:=h
  obtain ⟨h4,h5⟩:=contig_pair h3
  refine ⟨fun y hy=>?_,List.pairwise_cons.2 ⟨h4,h5⟩⟩
  rcases List.mem_cons.1 hy with rfl | hy
  ·omega
  ·have:=h4 y hy;omega
theorem beg_rise (s : ByteArray) (b : Int) : (begP s b).Pairwise (· < ·):=by
 unfold begP
 split
 ·exact units_rise (contig_pair (runesP_contig s)).2 (fun x hx=>⟨(runesP_bd x hx).1,rune_wide hx⟩)
 split
 ·exact List.pairwise_map.2 (runes_rise s)
 split
 ·exact List.pairwise_lt_range
 split
 ·exact (bounds_rise gG s).sublist (List.dropLast_sublist _)
 ·exact List.Pairwise.nil
theorem let_lt (t : ByteArray) : ∀ a ∈ letS t,a < t.size:=by
 intro a ha
 unfold letS boundsG at ha
 split at ha
 ·cases ha
 ·rw [List.dropLast_concat] at ha
  exact starts_lt gG t a ha
theorem beg_lt (s : ByteArray) (b : Int) : ∀ a ∈ begP s b,a < s.size:=by
 intro a ha
 unfold begP at ha
 split at ha
 ·obtain ⟨x,hx,ha⟩:=List.mem_flatMap.1 ha
  have h1:=runesP_bd x hx
  split at ha
  ·rename_i h3
   have:=rune_wide hx h3
   simp only [List.mem_cons,List.not_mem_nil,or_false] at ha
   omega
  ·simp only [List.mem_cons,List.not_mem_nil,or_false] at ha
   omega
 split at ha
 ·obtain ⟨x,hx,rfl⟩:=List.mem_map.1 ha
  have:=runesP_bd x hx
  omega
 split at ha
 ·exact List.mem_range.1 ha
 split at ha
 ·exact let_lt s a ha
 ·cases ha
theorem rowGo_past {x : Int} : ∀ {L : List (Nat × Nat × Nat)} {i row : Nat},(∀ y ∈ L,x < (y.1 : Int))→rowGo x i row L = row
 | [],_,_,_=>rfl
 | y :: L,i,row,h=>by
  rw [rowGo,if_neg (by have:=h y (by simp);omega)]
  exact rowGo_past (fun u hu=>h u (by simp [hu]))
theorem line_in {s : ByteArray} {k : Nat} {y : Nat × Nat × Nat} (hk : (lnP s)[k]? = some y) : lineQ s k = y∧y.1≤y.2.1∧y.2.1≤y.2.2∧y.2.2≤s.size:=by
 have:=tiles_ge (lnP_tiles s) y (List.mem_of_getElem? hk)
 exact ⟨by unfold lineQ;rw [List.getD_eq_getElem?_getD,hk];rfl,this.2.1,this.2.2.1,this.2.2.2⟩
theorem below_abs (l : List Nat) (f : Nat) (x : Int) : belowP (l.map (f+·)) x = belowP l (max x 0 - (f : Int)):=by
 unfold belowP
 rw [List.filter_map,List.length_map]
 congr 2
 funext a
 simp only [Function.comp]
 rw [decide_eq_decide]
 omega
end
section
open Go.RowKit
end
section
open Go.RowKit Go.Shelf
attribute [local go_sem] Oper.semAt_some
structure Mid (m n : Nat) (W W' : World) : Prop where
 size : W.heap.size≤W'.heap.size
 block : ∀ k,m≤k→k < n→W'.heap[k]? = W.heap[k]?
def Kp (m n : Nat) (W W' : World) : Prop:=Mid m n W W'∧KeepsWalks W W'
theorem grown_of_below {w w' : World} (h : RowKit.Below w.heap.size w w') : w.grownBy w' none:=⟨h.os,h.tape,h.output,h.size,fun k hk _=>h.block k hk⟩
theorem grown_iterAt (w : World) (k : Nat) (s : ByteArray) (p : Nat) : w.grownBy (w.iterAt k s p) (some k) :=
 ⟨rfl,rfl,rfl,by rw [Lib.iterAt_size];exact Nat.le_refl _,fun j _ hj=>Lib.iterAt_other w k j s p (fun e=>hj (by rw [e]))⟩
theorem abides_below {β : Type} {B : Nat} {J : β→World→Prop} (h : AbidesFrom B J) {x : β} {w w' : World} (hx : J x w) (hb : RowKit.Below w.heap.size w w') : J x w':=h x w w' none hx (grown_of_below hb) (fun _ e=>by cases e)
theorem abides_iterAt {β : Type} {B : Nat} {J : β→World→Prop} (h : AbidesFrom B J) {x : β} {w : World} (hx : J x w) {k : Nat} {s : ByteArray} {p : Nat} (hk : w.heap[k]? = some (.stringIter s p)) (hB : B≤k) (p' : Nat) : J x (w.iterAt k s p') :=
 h x w _ (some k) hx (grown_iterAt w k s p') (fun r e=>by cases e;exact ⟨hB,_,hk,rfl⟩)
section
variable {s : ByteArray} {set : List (Int × Int)} {f p : Nat} {cur : Option Nat} {pre : List (Nat × Nat)} {R W : Nat}
end
theorem not_row {w : World} {row : Option Nat} {b : Nat} {o : Obj} (hb : w.heap[b]? = some o) (hc : o.isCells = true) (hr : ∀ r,row = some r→∃ o : Obj,w.heap[r]? = some o∧o.isCells = false) : some b ≠ row:=by
 rintro rfl
 obtain ⟨o',h1,h2⟩:=hr b rfl
 rw [hb] at h1;cases h1;rw [hc] at h2;cases h2
theorem Blk.kept {w w' : World} {row : Option Nat} {g : Nat} {t : TypeId} {cs : Array Value} (h : Blk w g t cs) (hg : w.grownBy w' row) (hr : ∀ r,row = some r→∃ o : Obj,w.heap[r]? = some o∧o.isCells = false) : Blk w' g t cs:=h.grown hg (not_row h rfl hr)
end
section
open Go.RowKit Go.Shelf
attribute [local go_sem] Oper.semAt_some
def UAt (s : ByteArray) (f p : Nat) (pre : List (Nat × Nat × Nat)) : Prop:=pre++runesGo s f p = runesP s∧s.size≤p+f∧p≤s.size
theorem uAt_first (s : ByteArray) : UAt s s.size 0 []:=⟨rfl,by omega,by omega⟩
theorem uAt_next {s : ByteArray} {f p R W : Nat} {pre : List (Nat × Nat × Nat)} (h : UAt s f p pre) (hp : p < s.size) (hd : Utf8.decode s p = (R,W)) (hw : 1≤W∧p+W≤s.size) : ∃ g,UAt s g (p+W) (pre++[(R,p,p+W)]):=by
 obtain ⟨g,rfl,hg⟩:=runesGo_step (s:=s) (f:=f) hp h.2.1
 rw [hd] at hg
 exact ⟨g,by rw [← h.1,hg];simp,by have:=h.2.1;omega,hw.2⟩
theorem uAt_pre {s : ByteArray} {f p : Nat} {pre : List (Nat × Nat × Nat)} (h : UAt s f p pre) : pre <+: runesP s:=⟨_,h.1⟩
theorem uAt_end {s : ByteArray} {f p : Nat} {pre : List (Nat × Nat × Nat)} (h : UAt s f p pre) (hp : ¬ p < s.size) : pre = runesP s:=by
 have:=h.1
 rw [runesGo_end (by omega),List.append_nil] at this
 exact this
theorem uEach_any (s : ByteArray) (w : World) : Calls Tryz.prog 52 #[.string s] w fun e w'=>∃ bs,e = .returned (.func (.func 83) #[] #[.pointer (some ⟨bs,0,none⟩)])∧w'.cell? ⟨bs,0,none⟩ = some (.string s)∧RowKit.Below w.heap.size w w':=by
 have hmf : ∀ (fn : Fn) (first cap : Array Value) (w : World),(Instr.makeFunc fn first cap).run Tryz.prog w = .ok (.func fn first cap) w:=fun _ _ _ _=>rfl
 go_enter Tryz.func52,Tryz.ntmps52
 go_wp2
 go_ret
 exact ⟨_,rfl,(Blk.new w 9 #[.string s]).cell 0,(RowKit.Below.refl _ _).alloc (Nat.le_refl _) _⟩
end
section
open Go.RowKit
section
variable {P : Program} {F : Fence} {n : Nat}
theorem rngH {α : Type} {g : Operand} {ps : Array Tmp} {assign body : Code} {Q : Exit→Act→World→Prop} {a : Act} {w : World}
  (hro : F.round = none) (h1 : 1≤n) {gf : Nat} {lb : Array Value} (hg : a.eval g = .func (.func gf) #[] lb) (hFg : F.fn gf) (eg : ∀ args w,(callFunc gf args).run P w = .ok (.enter gf args) w)
  {encs : α→Array Value} {Kp : World→World→Prop} {S Sp : List α→Prop} {N : Nat} {w0 : World} (hseq : SeqStopsK F (n - 1) P gf lb encs Kp S Sp N w0)
  (hKt : ∀ {A B C : World},Kp A B→Kp B C→Kp A C) (hKb : ∀ (W : World) (l : Nat) (o o' : Obj),w.heap.size≤l→W.heap[l]? = some o→o.isCells = false→o.isWalk = false→Kp W (W.putObj l o')) (hb0 : Below w0.heap.size w0 w) (hps : ∀ x,(encs x).size = ps.size) (hKr : ∀ W,Kp W W)
  (I : List α→World→Prop) (Ix : Code→List α→World→Prop) (hI : OwnFrom w.heap.size I) (hIx : ∀ c,OwnFrom w.heap.size (Ix c)) (h0 : I [] w) (f : Array Value→α→Array Value)
  (hassign : ∀ (l : Nat) (x : α) (W : World) (K : Act→World→Prop),K { tmps:=f a.tmps x,defers:=[] } W →
   assign.wpIn (F.inRound l) (n - 1 - 1) P (Exit.then K (fun _ _ _=>False)) { tmps:=(ps.zip (encs x)).foldl (fun t (p,v)=>t.setIfInBounds p v) a.tmps,defers:=[] } W)
  (hbody : ∀ (l : Nat) (pre : List α) (x : α) (W : World),w.heap.size≤l→(∃ r,W.heap[l]? = some (.loop r))→I pre W→pre.length < N→body.wpIn (F.inRound l) (n - 1 - 1) P (ownPostG w.heap.size Kp I Ix (pre++[x]) W) { tmps:=f a.tmps x,defers:=[] } W)
  (hdone : ∀ (D : Nat) (xs : List α) (W : World),w.heap.size≤D→S xs→I xs W→W.heap[D]? = some (.deferred (some []))→Q .normal { a with defers:={ target:=.collected D,args:=#[] } :: a.defers } W)
  (hstop : ∀ (D : Nat) (c : Code) (pre : List α) (W : World),w.heap.size≤D→Sp pre→Ix c pre W→W.heap[D]? = some (.deferred (some []))→c.wpIn F n P Q { a with defers:={ target:=.collected D,args:=#[] } :: a.defers } W) :
  (Code.rangeFunc g ps assign body).wpIn F n P Q a w :=
 wpIn_rangeFunc_ownH hro h1 hg hFg eg hseq (fun h k=>hKt h k) hKb hb0 hps I Ix hI hIx h0 (fun x a' _=>a' = { tmps:=f a.tmps x,defers:=[] }) (fun _ _ _ _ _ _ hs _ _=>hs)
  (fun l _ x W K hi hK=>hassign l x W K (hK _ _ (KeepsFrom.refl _ _) (hKr W) hi rfl)) (fun l pre x a' W hl hr hi e=>by subst e;exact hbody l pre x W hl hr hi) hdone hstop
end
end
end Go.Proofs.YtlfpdpbbkjnapaaGreatDoor
