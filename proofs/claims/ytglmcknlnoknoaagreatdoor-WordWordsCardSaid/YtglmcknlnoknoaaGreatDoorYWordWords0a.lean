/-
 Several texts in one,in their build order: PrsP,PrsL,We,PtA,PtB,PtC,PtD,PtE,PtF,PtG,PrsC,UtfP,GraP,PrsG,GraQ,PrsD,PrsE,Fir,Last,VP,HexR,Bld,Grow,Upper,Repeat,Spell,Join,Print,Wi,PropsL,Wj,Vb,Qt,Vd,PrintS,Qd,Vi,WorP,Ka,Kb,DbK,WorQ,UtfJ,WorR.
-/
import Derived.Deep.DeepMust
import Derived.Laws.Bits64b
import Derived.Laws.ShiftsVarLaws
import Derived.WalkSmall
import Derived.RegionTactic
import Derived.BigRegion
import Derived.OwnWalk
import Derived.Deep.RegionHeld3
import Derived.Deep.RegionLaw
import Derived.Lib.DecodeN
import Derived.Lib.RuneCountTail
import Derived.Deep.LoopGhost
import Derived.Shelf.Strings.BuilderK
import Derived.Lib.OthersKept
import Derived.RangeFuncOwn
import Derived.Lib.Builder
import Derived.Lib.FrozenHead2
import Derived.Lib.AppendStr
import Derived.Lib.BufferRead
import Derived.KernelRfl
import Derived.Test.YtglmcknlnoknoaaGreatDoorW0a
import Derived.Test.YtglmcknlnoknoaaGreatDoorWWc
import Derived.Test.YtglmcknlnoknoaaGreatDoorWRefU
import Derived.Test.YtglmcknlnoknoaaGreatDoorW2a
import Derived.Test.YtglmcknlnoknoaaGreatDoorWShelf
import Derived.Test.YtglmcknlnoknoaaGreatDoorW6a
import Derived.Test.YtglmcknlnoknoaaGreatDoorWWa
import Derived.Test.YtglmcknlnoknoaaGreatDoorW1a
/- -/
namespace Go.Proofs.YtglmcknlnoknoaaGreatDoor
set_option maxRecDepth 100000
set_option maxHeartbeats 40000000
section
inductive Pat where
 | node (op : Nat) (cs : List Nat) (ks : List Pat)
def pLetter (c : UInt8) : Bool:=(decide (65≤c.toNat) && decide (c.toNat≤90)) || (decide (97≤c.toNat) && decide (c.toNat≤122))
def pPart (c : UInt8) : Bool:=pLetter c || (decide (48≤c.toNat) && decide (c.toNat≤57)) || decide (c.toNat = 95)
def pBlank (c : UInt8) : Bool:=decide (c.toNat = 32) || decide (c.toNat = 9)
def skipB (l : List UInt8) : List UInt8:=l.dropWhile pBlank
def pName (ns : List (List UInt8)) (l : List UInt8) : Option (Nat × List UInt8) :=
 if 32 < (l.takeWhile pPart).length then none else
  match ns.findIdx? (fun x=>x == l.takeWhile pPart) with
  | none=>none
  | some i=>some (i,l.dropWhile pPart)
def listGo (ns : List (List UInt8)) : Nat→List UInt8→List Nat→Option (List Nat × List UInt8)
 | 0,_,_=>none
 | f+1,l,acc=>match skipB l with
  | []=>none
  | c :: r=>if c.toNat = 93 then some (acc,r) else if pLetter c then
    match pName ns (c :: r) with
    | none=>none
    | some (i,r2)=>listGo ns f r2 (i :: acc)
   else none
def fromP (n : Nat) (acc : List Nat) (no : Bool) : Pat:=.node 1 ((List.range n).filter fun i=>acc.contains i != no) []
def pBegins (c : UInt8) : Bool:=decide (c.toNat = 40) || decide (c.toNat = 91) || decide (c.toNat = 46) || pLetter c
def pOper (c : UInt8) : Nat:=if c.toNat = 42 then 4 else if c.toNat = 43 then 5 else if c.toNat = 63 then 6 else 0
def opsGo : Nat→Pat→List UInt8→Nat→Option (Pat × List UInt8 × Nat)
 | 0,_,_,_=>none
 | f+1,p,l,k=>match skipB l with
  | []=>some (p,[],k)
  | c :: r=>if pOper c = 0 then some (p,c :: r,k) else if 512≤k then none else opsGo f (.node (pOper c) [] [p]) r (k+1)
def seqOf : List Pat→Pat
 | []=>.node 0 [] []
 | [p]=>p
 | l=>.node 2 [] l
def altOf : List Pat→Pat
 | [p]=>p
 | l=>.node 3 [] l
mutual
def patP (ns : List (List UInt8)) : Nat→Nat→List UInt8→Nat→Option (Pat × List UInt8 × Nat)
 | 0,_,_,_=>none
 | f+1,d,l,k=>match branchP ns f d l k [] with
  | none=>none
  | some (p,l1,k1)=>altsP ns f d l1 k1 [p]
def altsP (ns : List (List UInt8)) : Nat→Nat→List UInt8→Nat→List Pat→Option (Pat × List UInt8 × Nat)
 | 0,_,_,_,_=>none
 | f+1,d,l,k,acc=>match skipB l with
  | []=>some (altOf acc,[],k)
  | c :: r=>if c.toNat = 124 then (if 512≤k then none else
    match branchP ns f d r (k+1) [] with
    | none=>none
    | some (p,l1,k1)=>altsP ns f d l1 k1 (acc++[p]))
   else if c.toNat = 41∧0 < d then some (altOf acc,c :: r,k) else none
def branchP (ns : List (List UInt8)) : Nat→Nat→List UInt8→Nat→List Pat→Option (Pat × List UInt8 × Nat)
 | 0,_,_,_,_=>none
 | f+1,d,l,k,acc=>match skipB l with
  | []=>some (seqOf acc,[],k)
  | c :: r=>if pBegins c then
    match atomP ns f d c r k with
    | none=>none
    | some (p,l1,k1)=>match opsGo f p l1 k1 with
     | none=>none
     | some (q,l2,k2)=>branchP ns f d l2 k2 (acc++[q])
   else some (seqOf acc,c :: r,k)
def atomP (ns : List (List UInt8)) : Nat→Nat→UInt8→List UInt8→Nat→Option (Pat × List UInt8 × Nat)
 | 0,_,_,_,_=>none
 | f+1,d,c,r,k =>
  if 512≤k then none else
  if c.toNat = 40 then
   (if 32≤d then none else
    match patP ns f (d+1) r (k+1) with
    | none=>none
    | some (_,[],_)=>none
    | some (p,_ :: l1,k1)=>some (p,l1,k1))
  else if c.toNat = 91 then
   (match skipB r with
   | []=>none
   | b :: r1=>match listGo ns f (if b.toNat = 94 then r1 else b :: r1) [] with
    | none=>none
    | some (acc,l1)=>some (fromP ns.length acc (decide (b.toNat = 94)),l1,k+1))
  else if c.toNat = 46 then some (fromP ns.length [] true,r,k+1)
  else match pName ns (c :: r) with
   | none=>none
   | some (i,l1)=>some (.node 1 [i] [],l1,k+1)
end
def patOf (ns : List (List UInt8)) (l : List UInt8) : Option Pat :=
 if 4096 < l.length then none else
  match patP ns (4*l.length+8) 0 l 0 with
  | none=>none
  | some (p,_,_)=>some p
structure RuleP where
 cut : Bool
 start : Bool
 stop : Bool
 left : Pat
 right : Pat
structure RsP where
 rules : List RuleP
 rest : Bool
 rested : Bool
def trimB (l : List UInt8) : List UInt8:=((l.dropWhile pBlank).reverse.dropWhile pBlank).reverse
def plainB (l : List UInt8) : List UInt8:=trimB (l.takeWhile fun c=>decide (c.toNat ≠ 35))
def pSign (c : UInt8) : Bool:=decide (c.toNat = 126) || decide (c.toNat = 47)
def signP (l : List UInt8) : Option (List UInt8 × Bool × List UInt8) :=
 match l.dropWhile (fun c=>!pSign c) with
 | []=>none
 | c :: b=>if b.any pSign then none else some (l.takeWhile (fun c=>!pSign c),decide (c.toNat = 47),b)
def restB : List UInt8:=[114,101,115,116]
def ruleLine (ns : List (List UInt8)) (x : RsP) (l : List UInt8) : Option RsP :=
 match plainB l with
 | []=>some x
 | h :: t=>match signP (h :: t) with
  | none=>none
  | some (a,cut,b)=>if x.rested then none else
   if trimB a == restB then (if trimB b == [] then some { x with rest:=cut,rested:=true } else none) else
   if 64≤x.rules.length then none else
   match patOf ns (if (trimB a).head? == some 94 then (trimB a).drop 1 else trimB a),patOf ns (if (trimB b).getLast? == some 36 then (trimB b).dropLast else trimB b) with
   | some p,some q=>some { x with rules:=x.rules++[⟨cut,(trimB a).head? == some 94,(trimB b).getLast? == some 36,p,q⟩] }
   | _,_=>none
def rulesGo (ns : List (List UInt8)) : List (List UInt8)→RsP→Option RsP
 | [],x=>some x
 | l :: r,x=>match ruleLine ns x l with
  | none=>none
  | some y=>rulesGo ns r y
def linesB : List UInt8→List UInt8→List (List UInt8)
 | [],acc=>[acc.reverse]
 | c :: r,acc=>if c.toNat = 10 then acc.reverse :: linesB r [] else linesB r (c :: acc)
def rulesP (ns : List (List UInt8)) (l : List UInt8) : Option RsP:=if 16384 < l.length then none else rulesGo ns (linesB l []) ⟨[],true,false⟩
end
section
abbrev Mtx:=Nat→Nat→Bool
def ownM : Mtx:=fun i k=>decide (i = k)
def noneM : Mtx:=fun _ _=>false
def bothM (a b : Mtx) : Mtx:=fun i k=>a i k || b i k
def behindM (n : Nat) (a b : Mtx) : Mtx:=fun i j=>(List.range n).any fun k=>a i k && b k j
def warS (k i : Nat) (m : Mtx) : Mtx:=fun x j=>m x j || (decide (x = i) && m i k && m k j)
def warRow (n k : Nat) (m : Mtx) : Mtx:=(List.range n).foldl (fun m i=>warS k i m) m
def moreM (n : Nat) (a : Mtx) : Mtx:=(List.range n).foldl (fun m k=>warRow n k m) (bothM a ownM)
def setM (c cs : List Nat) : Mtx:=fun i k=>decide (k = i+1) && ((c[i]?).map fun x=>cs.contains x).getD false
mutual
def leadsP (c : List Nat) : Pat→Mtx
 | .node op cs ks =>
  if op = 1 then setM c cs
  else if op = 2 then thenP c ks ownM
  else if op = 3 then orP c ks noneM
  else if op = 4 then moreM (c.length+1) (headP c ks)
  else if op = 5 then behindM (c.length+1) (headP c ks) (moreM (c.length+1) (headP c ks))
  else if op = 6 then bothM ownM (headP c ks)
  else ownM
def thenP (c : List Nat) : List Pat→Mtx→Mtx
 | [],m=>m
 | p :: r,m=>thenP c r (behindM (c.length+1) m (leadsP c p))
def orP (c : List Nat) : List Pat→Mtx→Mtx
 | [],m=>m
 | p :: r,m=>orP c r (bothM m (leadsP c p))
def headP (c : List Nat) : List Pat→Mtx
 | []=>ownM
 | p :: _=>leadsP c p
end
theorem warS_eq (k i : Nat) (m : Mtx) (x j : Nat) : warS k i m x j = (m x j || (decide (x = i) && m i k && m k j)):=rfl
theorem warRow_go (k : Nat) (m : Mtx) : ∀ (z : Nat) (x j : Nat),(List.range z).foldl (fun m i=>warS k i m) m x j = (m x j || (decide (x < z) && m x k && m k j))
 | 0,x,j=>by simp
 | z+1,x,j=>by
  rw [List.range_succ,List.foldl_append,List.foldl_cons,List.foldl_nil,warS_eq,warRow_go k m z x j,warRow_go k m z z k,warRow_go k m z k j]
  have e1 : decide (x < z+1) = (decide (x < z) || decide (x = z)):=by
   rw [← Bool.decide_or];congr 1;apply propext;omega
  have e2 : decide (z < z) = false:=by simp
  rw [e1,e2]
  by_cases h : x = z
  ·subst h
   cases m x j <;> cases m x k <;> cases m k j <;> simp
  ·simp [h]
theorem warRow_eq (n k : Nat) (m : Mtx) (x j : Nat) : warRow n k m x j = (m x j || (decide (x < n) && m x k && m k j)):=warRow_go k m n x j
inductive Way (n : Nat) (a : Mtx) : Nat→Nat→Prop
 | here (i : Nat) : Way n a i i
 | on {i k j : Nat} : a i k = true→k < n→Way n a k j→Way n a i j
theorem Way.trans {n : Nat} {a : Mtx} {i k j : Nat} (h : Way n a i k) (g : Way n a k j) : Way n a i j:=by
 induction h with
 | here=>exact g
 | on h1 h2 _ ih=>exact .on h1 h2 (ih g)
inductive WayZ (z : Nat) (a : Mtx) : Nat→Nat→Prop
 | none (i : Nat) : WayZ z a i i
 | one {i j : Nat} : a i j = true→WayZ z a i j
 | on {i k j : Nat} : a i k = true→k < z→WayZ z a k j→WayZ z a i j
theorem WayZ.via {z : Nat} {a : Mtx} {i j : Nat} (h : WayZ (z+1) a i j) : WayZ z a i j∨(WayZ z a i z∧WayZ z a z j):=by
 induction h with
 | none i=>exact .inl (.none i)
 | one h=>exact .inl (.one h)
 | @on i k j h1 h2 _ ih =>
  by_cases hk : k = z
  ·subst hk
   rcases ih with ih | ⟨_,ih⟩
   ·exact .inr ⟨.one h1,ih⟩
   ·exact .inr ⟨.one h1,ih⟩
  ·rcases ih with ih | ⟨ih1,ih2⟩
   ·exact .inl (.on h1 (by omega) ih)
   ·exact .inr ⟨.on h1 (by omega) ih1,ih2⟩
theorem more_go {n : Nat} {a : Mtx} : ∀ (z : Nat),z≤n→∀ (i j : Nat),i < n→j < n →
  ((List.range z).foldl (fun m k=>warRow n k m) (bothM a ownM) i j = true→Way n a i j)∧(WayZ z a i j→(List.range z).foldl (fun m k=>warRow n k m) (bothM a ownM) i j = true)
 | 0,_,i,j,hi,hj=>by
  refine ⟨fun h=>?_,fun h=>?_⟩
  ·simp only [List.range_zero,List.foldl_nil,bothM,ownM,Bool.or_eq_true,decide_eq_true_eq] at h
   rcases h with h | rfl
   ·exact .on h hj (.here _)
   ·exact .here _
  ·simp only [List.range_zero,List.foldl_nil,bothM,ownM,Bool.or_eq_true,decide_eq_true_eq]
   cases h with
   | none=>exact .inr rfl
   | one h=>exact .inl h
   | on _ h _=>exact absurd h (Nat.not_lt_zero _)
 | z+1,hz,i,j,hi,hj=>by
  have ih:=fun i j hi hj=>more_go (n:=n) (a:=a) z (by omega) i j hi hj
  rw [List.range_succ,List.foldl_append,List.foldl_cons,List.foldl_nil,warRow_eq]
  simp only [Bool.or_eq_true,Bool.and_eq_true,decide_eq_true_eq]
  refine ⟨fun h=>?_,fun h=>?_⟩
  ·rcases h with h | ⟨⟨_,h1⟩,h2⟩
   ·exact (ih i j hi hj).1 h
   ·exact ((ih i z hi (by omega)).1 h1).trans ((ih z j (by omega) hj).1 h2)
  ·rcases h.via with h | ⟨h1,h2⟩
   ·exact .inl ((ih i j hi hj).2 h)
   ·exact .inr ⟨⟨hi,(ih i z hi (by omega)).2 h1⟩,(ih z j (by omega) hj).2 h2⟩
theorem Way.z {n : Nat} {a : Mtx} {i j : Nat} (h : Way n a i j) : WayZ n a i j:=by
 induction h with
 | here i=>exact .none i
 | on h1 h2 _ ih=>exact .on h1 h2 ih
theorem more_iff {n : Nat} {a : Mtx} {i j : Nat} (hi : i < n) (hj : j < n) : moreM n a i j = true ↔ Way n a i j :=
 ⟨(more_go n (Nat.le_refl _) i j hi hj).1,fun h=>(more_go n (Nat.le_refl _) i j hi hj).2 h.z⟩
inductive Star (L : List Nat→Prop) : List Nat→Prop
 | nil : Star L []
 | app {u v : List Nat} : L u→Star L v→Star L (u++v)
mutual
def Lang : Pat→List Nat→Prop
 | .node op cs ks=>fun u =>
  if op = 1 then ∃ x,u = [x]∧x ∈ cs
  else if op = 2 then LangT ks u
  else if op = 3 then LangO ks u
  else if op = 4 then Star (LangH ks) u
  else if op = 5 then ∃ v w,u = v++w∧LangH ks v∧Star (LangH ks) w
  else if op = 6 then u = []∨LangH ks u
  else u = []
def LangT : List Pat→List Nat→Prop
 | []=>fun u=>u = []
 | p :: r=>fun u=>∃ v w,u = v++w∧Lang p v∧LangT r w
def LangO : List Pat→List Nat→Prop
 | []=>fun _=>False
 | p :: r=>fun u=>Lang p u∨LangO r u
def LangH : List Pat→List Nat→Prop
 | []=>fun u=>u = []
 | p :: _=>Lang p
end
def part (c : List Nat) (i k : Nat) : List Nat:=(c.drop i).take (k - i)
def Tells (c : List Nat) (m : Mtx) (L : List Nat→Prop) : Prop:=∀ i k,i≤c.length→k≤c.length→(m i k = true ↔ i≤k∧L (part c i k))
theorem part_app (c : List Nat) {i k j : Nat} (h1 : i≤k) (h2 : k≤j) : part c i j = part c i k++part c k j:=by
 unfold part
 rw [show j - i = (k - i)+(j - k) by omega,List.take_add,List.drop_drop,show i+(k - i) = k by omega]
theorem part_len (c : List Nat) {i k : Nat} (h2 : k≤c.length) : (part c i k).length = k - i:=by
 unfold part;rw [List.length_take,List.length_drop];omega
theorem part_nil {c : List Nat} {i k : Nat} (h1 : i≤k) (h2 : k≤c.length) (h : part c i k = []) : i = k:=by
 have:=part_len c (i:=i) h2
 rw [h] at this
 simp at this
 omega
theorem part_split {c : List Nat} {i j : Nat} {u v : List Nat} (h1 : i≤j) (h2 : j≤c.length) (h : part c i j = u++v) : i+u.length≤j∧part c i (i+u.length) = u∧part c (i+u.length) j = v:=by
 have hl:=congrArg List.length h
 rw [part_len c h2,List.length_append] at hl
 have hk : i+u.length≤j:=by omega
 have h3:=part_app c (Nat.le_add_right i u.length) hk
 rw [h] at h3
 have h4:=List.append_inj h3 (by rw [part_len c (by omega)];omega)
 exact ⟨hk,h4.1.symm,h4.2.symm⟩
theorem tells_own (c : List Nat) : Tells c ownM (fun u=>u = []):=fun i k _ hk=>by
 simp only [ownM,decide_eq_true_eq]
 refine ⟨fun h=>?_,fun h=>part_nil h.1 hk h.2⟩
 subst h
 exact ⟨Nat.le_refl _,by simp [part]⟩
theorem tells_none (c : List Nat) : Tells c noneM (fun _=>False):=fun i k _ _=>by simp [noneM]
theorem tells_both {c : List Nat} {a b : Mtx} {L M : List Nat→Prop} (ha : Tells c a L) (hb : Tells c b M) : Tells c (bothM a b) (fun u=>L u∨M u):=fun i k hi hk=>by
 simp only [bothM,Bool.or_eq_true,ha i k hi hk,hb i k hi hk]
 exact ⟨fun h=>h.elim (fun h=>⟨h.1,.inl h.2⟩) (fun h=>⟨h.1,.inr h.2⟩),fun h=>h.2.elim (fun g=>.inl ⟨h.1,g⟩) (fun g=>.inr ⟨h.1,g⟩)⟩
theorem tells_behind {c : List Nat} {a b : Mtx} {L M : List Nat→Prop} (ha : Tells c a L) (hb : Tells c b M) : Tells c (behindM (c.length+1) a b) (fun u=>∃ v w,u = v++w∧L v∧M w):=fun i j hi hj=>by
 simp only [behindM,List.any_eq_true,List.mem_range,Bool.and_eq_true]
 constructor
 ·rintro ⟨k,hk,h1,h2⟩
  have h1:=(ha i k hi (by omega)).1 h1
  have h2:=(hb k j (by omega) hj).1 h2
  exact ⟨Nat.le_trans h1.1 h2.1,_,_,part_app c h1.1 h2.1,h1.2,h2.2⟩
 ·rintro ⟨hij,v,w,h,hv,hw⟩
  obtain ⟨h1,h2,h3⟩:=part_split hij hj h
  exact ⟨i+v.length,by omega,(ha _ _ hi (by omega)).2 ⟨by omega,by rw [h2];exact hv⟩,(hb _ _ (by omega) hj).2 ⟨h1,by rw [h3];exact hw⟩⟩
theorem tells_more {c : List Nat} {a : Mtx} {L : List Nat→Prop} (ha : Tells c a L) : Tells c (moreM (c.length+1) a) (Star L):=fun i j hi hj=>by
 rw [more_iff (by omega) (by omega)]
 constructor
 ·intro h
  induction h with
  | here i=>exact ⟨Nat.le_refl _,by simp only [part,Nat.sub_self,List.take_zero];exact .nil⟩
  | @on i k j h1 h2 _ ih =>
   have h1:=(ha i k hi (by omega)).1 h1
   have ih:=ih (by omega) hj
   exact ⟨Nat.le_trans h1.1 ih.1,by rw [part_app c h1.1 ih.1];exact .app h1.2 ih.2⟩
 ·rintro ⟨hij,h⟩
  generalize hu : part c i j = u at h
  induction h generalizing i with
  | nil=>rw [part_nil hij hj hu];exact .here _
  | @app u v h1 _ ih =>
   obtain ⟨g1,g2,g3⟩:=part_split hij hj hu
   exact .on ((ha _ _ hi (by omega)).2 ⟨by omega,by rw [g2];exact h1⟩) (by omega) (ih (i+u.length) (by omega) g1 g3)
theorem tells_set (c cs : List Nat) : Tells c (setM c cs) (fun u=>∃ x,u = [x]∧x ∈ cs):=fun i k hi hk=>by
 simp only [setM,Bool.and_eq_true,decide_eq_true_eq]
 constructor
 ·rintro ⟨rfl,h⟩
  cases hx : c[i]? with
  | none=>rw [hx] at h;simp at h
  | some x =>
   rw [hx] at h
   refine ⟨by omega,x,?_,by simpa using h⟩
   have hlt:=(List.getElem?_eq_some_iff.1 hx).1
   unfold part
   rw [List.drop_eq_getElem_cons hlt,show i+1 - i = 0+1 by omega,List.take_succ_cons,List.take_zero,(List.getElem?_eq_some_iff.1 hx).2]
 ·rintro ⟨hik,x,h,hx⟩
  have hl:=congrArg List.length h
  rw [part_len c hk] at hl
  simp at hl
  obtain rfl : k = i+1:=by omega
  have hlt : i < c.length:=by omega
  unfold part at h
  rw [List.drop_eq_getElem_cons hlt,show i+1 - i = 0+1 by omega,List.take_succ_cons,List.take_zero] at h
  injection h with h
  refine ⟨rfl,?_⟩
  rw [List.getElem?_eq_getElem hlt,h]
  simpa using hx
theorem Tells.congr {c : List Nat} {m : Mtx} {L M : List Nat→Prop} (h : Tells c m L) (hLM : ∀ u,L u ↔ M u) : Tells c m M:=fun i k hi hk=>by rw [h i k hi hk,hLM]
mutual
theorem leads_tells (c : List Nat) : ∀ (p : Pat),Tells c (leadsP c p) (Lang p)
 | .node op cs ks=>by
  unfold leadsP Lang
  by_cases h1 : op = 1
  ·rw [if_pos h1];simp only [if_pos h1];exact tells_set c cs
  by_cases h2 : op = 2
  ·rw [if_neg h1,if_pos h2];simp only [if_neg h1,if_pos h2]
   exact (thenP_tells c ks (tells_own c)).congr fun u=>⟨fun ⟨v,w,e,hv,hw⟩=>by subst hv;rw [e];exact hw,fun h=>⟨[],u,rfl,rfl,h⟩⟩
  by_cases h3 : op = 3
  ·rw [if_neg h1,if_neg h2,if_pos h3];simp only [if_neg h1,if_neg h2,if_pos h3]
   exact (orP_tells c ks (tells_none c)).congr fun u=>⟨fun h=>h.elim False.elim id,.inr⟩
  by_cases h4 : op = 4
  ·rw [if_neg h1,if_neg h2,if_neg h3,if_pos h4];simp only [if_neg h1,if_neg h2,if_neg h3,if_pos h4]
   exact tells_more (headP_tells c ks)
  by_cases h5 : op = 5
  ·rw [if_neg h1,if_neg h2,if_neg h3,if_neg h4,if_pos h5];simp only [if_neg h1,if_neg h2,if_neg h3,if_neg h4,if_pos h5]
   exact tells_behind (headP_tells c ks) (tells_more (headP_tells c ks))
  by_cases h6 : op = 6
  ·rw [if_neg h1,if_neg h2,if_neg h3,if_neg h4,if_neg h5,if_pos h6];simp only [if_neg h1,if_neg h2,if_neg h3,if_neg h4,if_neg h5,if_pos h6]
   exact tells_both (tells_own c) (headP_tells c ks)
  rw [if_neg h1,if_neg h2,if_neg h3,if_neg h4,if_neg h5,if_neg h6];simp only [if_neg h1,if_neg h2,if_neg h3,if_neg h4,if_neg h5,if_neg h6]
  exact tells_own c
theorem thenP_tells (c : List Nat) : ∀ (ks : List Pat) {m : Mtx} {L : List Nat→Prop},Tells c m L→Tells c (thenP c ks m) (fun u=>∃ v w,u = v++w∧L v∧LangT ks w)
 | [],m,L,h=>by
  unfold thenP LangT
  exact h.congr fun u=>⟨fun hu=>⟨u,[],by simp,hu,rfl⟩,fun ⟨v,w,e,hv,hw⟩=>by subst hw;rw [e,List.append_nil];exact hv⟩
 | p :: r,m,L,h=>by
  unfold thenP LangT
  refine (thenP_tells c r (tells_behind h (leads_tells c p))).congr fun u=>⟨?_,?_⟩
  ·rintro ⟨_,w,rfl,⟨v1,v2,rfl,h1,h2⟩,h3⟩
   exact ⟨v1,v2++w,by simp,h1,v2,w,rfl,h2,h3⟩
  ·rintro ⟨v1,_,rfl,h1,v2,w,rfl,h2,h3⟩
   exact ⟨v1++v2,w,by simp,⟨v1,v2,rfl,h1,h2⟩,h3⟩
theorem orP_tells (c : List Nat) : ∀ (ks : List Pat) {m : Mtx} {L : List Nat→Prop},Tells c m L→Tells c (orP c ks m) (fun u=>L u∨LangO ks u)
 | [],m,L,h=>by
  unfold orP LangO
  exact h.congr fun u=>⟨.inl,fun h=>h.elim id False.elim⟩
 | p :: r,m,L,h=>by
  unfold orP LangO
  refine (orP_tells c r (tells_both h (leads_tells c p))).congr fun u=>⟨?_,?_⟩
  ·rintro ((h | h) | h)
   ·exact .inl h
   ·exact .inr (.inl h)
   ·exact .inr (.inr h)
  ·rintro (h | h | h)
   ·exact .inl (.inl h)
   ·exact .inl (.inr h)
   ·exact .inr h
theorem headP_tells (c : List Nat) : ∀ (ks : List Pat),Tells c (headP c ks) (LangH ks)
 | []=>by unfold headP LangH;exact tells_own c
 | p :: _=>by unfold headP LangH;exact leads_tells c p
end
end
section
open Go.RowKit Go.Maps
theorem full_small {d : DbP} (h : d.Ok) (ha : Apart d.sets) {k : Nat} {s : List (Int × Int)} (hk : d.full[k]? = some s) : s.length≤1114112:=by
 have h1:=full_lenS h ha
 obtain ⟨hlt,e⟩:=List.getElem?_eq_some_iff.1 hk
 have hd : d.full = d.full.take k++s :: d.full.drop (k+1):=by rw [← e,← List.drop_eq_getElem_cons hlt,List.take_append_drop]
 rw [hd,lenS_append] at h1
 have : lenS (s :: d.full.drop (k+1)) = s.length+lenS (d.full.drop (k+1)):=rfl
 omega
def encN (x : Nat) : List Value:=[.int .i64 (x : Int)]
theorem encN_ok (l : List Nat) : ∀ y ∈ l.map encN,y.length = 1∧∀ u ∈ y,u.oneCell' = true:=by
 intro y hy;obtain ⟨r,_,rfl⟩:=List.mem_map.1 hy
 exact ⟨rfl,by simp [encN,Value.oneCell']⟩
end
section
open Go.RowKit
abbrev Sv:=Option Addr × Nat × Nat
abbrev Pv:=Nat × Sv × Sv
def encPt (v : Pv) : List Value:=[.int .i64 (v.1 : Int),.slice v.2.1.1 v.2.1.2.1 v.2.1.2.2,.slice v.2.2.1 v.2.2.2.1 v.2.2.2.2]
structure SlX (w : World) (X : Nat→Prop) (s : Nat) (v : Sv) (cs : List (List Value)) : Prop where
 rd : Rd w s v.1 cs
 len : cs.length = v.2.1
 inn : ∀ a,v.1 = some a→X a.block∧a.block < w.heap.size
 cap : v.2.1≤v.2.2
structure KeepX (X X' : Nat→Prop) (w w' : World) : Prop where
 size : w.heap.size≤w'.heap.size
 block : ∀ b,X b→b < w.heap.size→w'.heap[b]? = w.heap[b]?
 more : ∀ b,X b→b < w.heap.size→X' b
theorem KeepX.below {X : Nat→Prop} {w w' : World} (hb : Below w.heap.size w w') : KeepX X X w w':=⟨hb.size,fun b _ h=>hb.block b h,fun _ h _=>h⟩
theorem KeepX.grown {X : Nat→Prop} {w w' : World} {row : Option Nat} (hg : w.grownBy w' row) (hr : ∀ r,row = some r→¬ X r) : KeepX X X w w' :=
 ⟨hg.size,fun b hb h=>hg.block b h (fun e=>hr b e.symm hb),fun _ h _=>h⟩
theorem KeepX.same {X X' : Nat→Prop} {w : World} (h : ∀ b,X b→b < w.heap.size→X' b) : KeepX X X' w w:=⟨Nat.le_refl _,fun _ _ _=>rfl,h⟩
theorem KeepX.trans {X Y Z : Nat→Prop} {a b c : World} (h : KeepX X Y a b) (k : KeepX Y Z b c) : KeepX X Z a c :=
 ⟨Nat.le_trans h.size k.size,fun i hi hl=>(k.block i (h.more i hi hl) (Nat.lt_of_lt_of_le hl h.size)).trans (h.block i hi hl),fun i hi hl=>k.more i (h.more i hi hl) (Nat.lt_of_lt_of_le hl h.size)⟩
theorem SlX.keep {X X' : Nat→Prop} {w w' : World} {s : Nat} {v : Sv} {cs : List (List Value)} (h : SlX w X s v cs) (k : KeepX X X' w w') : SlX w' X' s v cs :=
 ⟨h.rd.keep fun b off i u ha hc=>by
   obtain ⟨h1,h2⟩:=h.inn _ ha
   have:=k.block b h1 h2
   rw [← hc]
   simp [World.cell?,this],
  h.len,fun a ha=>⟨k.more _ (h.inn a ha).1 (h.inn a ha).2,Nat.lt_of_lt_of_le (h.inn a ha).2 k.size⟩,h.cap⟩
theorem SlX.own {w : World} {base : Nat} {e : TypeId} {s : Nat} {A : Option Addr} {n c : Nat} {cs : List (List Value)} {X : Nat→Prop} (h : Own w base e s A n c cs) (hs : 0 < s) (hX : ∀ a,A = some a→X a.block) : SlX w X s (A,n,c) cs :=
 ⟨h.rd hs,h.len,fun a ha=>⟨hX a ha,(h.lt a ha).2⟩,h.cap.1⟩
theorem SlX.nil_ (w : World) (X : Nat→Prop) (s : Nat) : SlX w X s (none,0,0) []:=⟨Rd.nil_ _ _ _,rfl,(fun a h=>by cases h),Nat.le_refl _⟩
mutual
def PatX (w : World) (X : Nat→Prop) : Pat→Pv→Prop
 | .node op cs ks,v=>v.1 = op∧SlX w X 1 v.2.1 (cs.map encN)∧∃ vs,SlX w X 3 v.2.2 (vs.map encPt)∧PatsX w X ks vs
def PatsX (w : World) (X : Nat→Prop) : List Pat→List Pv→Prop
 | [],vs=>vs = []
 | p :: ps,vs=>∃ v r,vs = v :: r∧PatX w X p v∧PatsX w X ps r
end
mutual
theorem PatX.keep {X X' : Nat→Prop} {w w' : World} (k : KeepX X X' w w') : ∀ {p : Pat} {v : Pv},PatX w X p v→PatX w' X' p v
 | .node op cs ks,v,h=>by
  simp only [PatX] at h ⊢
  obtain ⟨h1,h2,vs,h3,h4⟩:=h
  exact ⟨h1,h2.keep k,vs,h3.keep k,PatsX.keep k h4⟩
theorem PatsX.keep {X X' : Nat→Prop} {w w' : World} (k : KeepX X X' w w') : ∀ {ps : List Pat} {vs : List Pv},PatsX w X ps vs→PatsX w' X' ps vs
 | [],vs,h=>by simpa only [PatsX] using h
 | p :: ps,vs,h=>by
  simp only [PatsX] at h ⊢
  obtain ⟨v,r,h1,h2,h3⟩:=h
  exact ⟨v,r,h1,PatX.keep k h2,PatsX.keep k h3⟩
end
theorem PatX.below {X : Nat→Prop} {w w' : World} {p : Pat} {v : Pv} (h : PatX w X p v) (hb : Below w.heap.size w w') : PatX w' X p v:=h.keep (KeepX.below hb)
theorem PatsX.below {X : Nat→Prop} {w w' : World} {p : List Pat} {v : List Pv} (h : PatsX w X p v) (hb : Below w.heap.size w w') : PatsX w' X p v:=h.keep (KeepX.below hb)
theorem PatsX.len {X : Nat→Prop} {w : World} : ∀ {ps : List Pat} {vs : List Pv},PatsX w X ps vs→vs.length = ps.length
 | [],vs,h=>by simp only [PatsX] at h;rw [h];rfl
 | p :: ps,vs,h=>by
  simp only [PatsX] at h
  obtain ⟨v,r,rfl,h2,h3⟩:=h
  simp [PatsX.len h3]
theorem PatsX.at_ {X : Nat→Prop} {w : World} : ∀ {ps : List Pat} {vs : List Pv} {k : Nat} {p : Pat},PatsX w X ps vs→ps[k]? = some p→∃ v,vs[k]? = some v∧PatX w X p v
 | [],vs,k,p,h,hk=>by simp at hk
 | q :: ps,vs,k,p,h,hk=>by
  simp only [PatsX] at h
  obtain ⟨v,r,rfl,h2,h3⟩:=h
  cases k with
  | zero=>simp at hk;subst hk;exact ⟨v,by simp,h2⟩
  | succ k=>simp at hk;obtain ⟨u,hu,hp⟩:=PatsX.at_ h3 hk;exact ⟨u,by simpa using hu,hp⟩
theorem PatsX.snoc {X : Nat→Prop} {w : World} {p : Pat} {v : Pv} (hp : PatX w X p v) : ∀ {ps : List Pat} {vs : List Pv},PatsX w X ps vs→PatsX w X (ps++[p]) (vs++[v])
 | [],vs,h=>by simp only [PatsX] at h;subst h;simp only [List.nil_append,PatsX];exact ⟨v,[],rfl,hp,rfl⟩
 | q :: ps,vs,h=>by
  simp only [PatsX] at h
  obtain ⟨u,r,rfl,h2,h3⟩:=h
  simp only [List.cons_append,PatsX]
  exact ⟨u,r++[v],rfl,h2,PatsX.snoc hp h3⟩
theorem encPt_ok (l : List Pv) : ∀ y ∈ l.map encPt,y.length = 3∧∀ u ∈ y,u.oneCell' = true:=by
 intro y hy
 obtain ⟨x,_,rfl⟩:=List.mem_map.1 hy
 exact ⟨rfl,fun u hu=>by simp [encPt] at hu;rcases hu with rfl | rfl | rfl <;> rfl⟩
theorem SlX.atPt {w : World} {X : Nat→Prop} {v : Sv} {l : List Pv} {k : Nat} {x : Pv} (h : SlX w X 3 v (l.map encPt)) (hk : l[k]? = some x) :
  ∃ b off,v.1 = some ⟨b,off,none⟩∧w.cell? ⟨b,off+k*3,none⟩ = some (.int .i64 (x.1 : Int))∧w.cell? ⟨b,off+k*3+1,none⟩ = some (.slice x.2.1.1 x.2.1.2.1 x.2.1.2.2)∧w.cell? ⟨b,off+k*3+2,none⟩ = some (.slice x.2.2.1 x.2.2.2.1 x.2.2.2.2):=by
 obtain ⟨b,off,e,hc⟩:=h.rd (by intro e;cases l with | nil=>simp at hk | cons _ _=>simp at e)
 have h0:=hc k 0 (encPt x) _ (by simp [hk]) rfl
 have h1:=hc k 1 (encPt x) _ (by simp [hk]) rfl
 have h2:=hc k 2 (encPt x) _ (by simp [hk]) rfl
 exact ⟨b,off,e,by simpa using h0,h1,h2⟩
def encW (x : Nat) : List Value:=[.int .u64 (x : Int)]
theorem encW_ok (l : List Nat) : ∀ y ∈ l.map encW,y.length = 1∧∀ u ∈ y,u.oneCell' = true:=by
 intro y hy
 obtain ⟨x,_,rfl⟩:=List.mem_map.1 hy
 exact ⟨rfl,fun u hu=>by simp [encW] at hu;rcases hu with rfl;rfl⟩
def hasW (r : List Nat) (j : Nat) : Bool:=(r.getD (j / 64) 0).testBit (j % 64)
def orW (a b : List Nat) : List Nat:=List.zipWith (fun x y=>x ||| y) a b
def setW (r : List Nat) (j : Nat) : List Nat:=r.set (j / 64) (r.getD (j / 64) 0 ||| 2 ^ (j % 64))
structure Wide (k : Nat) (r : List Nat) : Prop where
 len : r.length = k
 lt : ∀ x ∈ r,x < 18446744073709551616
theorem Wide.at_ {k : Nat} {r : List Nat} (h : Wide k r) (i : Nat) : r.getD i 0 < 18446744073709551616:=by
 rw [List.getD_eq_getElem?_getD]
 cases hi : r[i]? with
 | none=>simp
 | some x=>exact h.lt x (List.mem_of_getElem? hi)
theorem Wide.zero (k : Nat) : Wide k (List.replicate k 0):=⟨by simp,fun x hx=>by rw [(List.mem_replicate.1 hx).2];omega⟩
theorem hasW_zero (k j : Nat) : hasW (List.replicate k 0) j = false:=by
 unfold hasW
 rw [List.getD_eq_getElem?_getD]
 cases hi : (List.replicate k 0)[j / 64]? with
 | none=>simp
 | some x=>rw [(List.mem_replicate.1 (List.mem_of_getElem? hi)).2];simp
theorem orW_get (a b : List Nat) (h : a.length = b.length) (i : Nat) : (orW a b).getD i 0 = (a.getD i 0 ||| b.getD i 0):=by
 unfold orW
 rw [List.getD_eq_getElem?_getD,List.getD_eq_getElem?_getD,List.getD_eq_getElem?_getD,List.getElem?_zipWith]
 rcases Nat.lt_or_ge i a.length with hl | hl
 ·rw [List.getElem?_eq_getElem hl,List.getElem?_eq_getElem (by omega : i < b.length)];rfl
 ·rw [List.getElem?_eq_none hl,List.getElem?_eq_none (by omega : b.length≤i)];rfl
theorem hasW_or {a b : List Nat} (h : a.length = b.length) (j : Nat) : hasW (orW a b) j = (hasW a j || hasW b j):=by
 unfold hasW
 rw [orW_get a b h,Nat.testBit_or]
theorem Wide.or {k : Nat} {a b : List Nat} (ha : Wide k a) (hb : Wide k b) : Wide k (orW a b):=by
 refine ⟨by unfold orW;rw [List.length_zipWith,ha.len,hb.len,Nat.min_self],fun x hx=>?_⟩
 obtain ⟨i,hi,e⟩:=List.getElem_of_mem hx
 have h1:=orW_get a b (by rw [ha.len,hb.len]) i
 rw [List.getD_eq_getElem?_getD,List.getElem?_eq_getElem hi,e] at h1
 simp only [Option.getD_some] at h1
 rw [h1]
 exact Nat.or_lt_two_pow (n:=64) (ha.at_ i) (hb.at_ i)
theorem hasW_set {r : List Nat} {j : Nat} (h : j / 64 < r.length) (i : Nat) : hasW (setW r j) i = (hasW r i || decide (i = j)):=by
 unfold hasW setW
 rw [List.getD_eq_getElem?_getD,List.getD_eq_getElem?_getD,List.getD_eq_getElem?_getD,List.getElem?_set]
 by_cases e : j / 64 = i / 64
 ·rw [if_pos e,if_pos h,Option.getD_some,Nat.testBit_or,e]
  congr 1
  rw [Nat.testBit_two_pow]
  exact decide_eq_decide.2 ⟨fun k=>by omega,fun k=>by omega⟩
 ·rw [if_neg e,decide_eq_false (by rintro rfl;exact e rfl),Bool.or_false]
theorem Wide.set_ {k : Nat} {r : List Nat} (h : Wide k r) (j : Nat) : Wide k (setW r j):=by
 refine ⟨by unfold setW;rw [List.length_set,h.len],fun x hx=>?_⟩
 rcases List.mem_or_eq_of_mem_set hx with hx | rfl
 ·exact h.lt x hx
 ·exact Nat.or_lt_two_pow (n:=64) (h.at_ _) (Nat.pow_lt_pow_right (by omega) (Nat.mod_lt _ (by omega)))
end
section
open Go.RowKit
structure MtR (w : World) (v : Sv) (n k : Nat) (C : List (List Nat)) : Prop where
 ex : ∃ rows : List Sv,Rd w 1 v.1 (rows.map encSl)∧rows.length = n∧v.2.1 = n∧C.length = n∧∀ (i : Nat) (r : Sv) (x : List Nat),rows[i]? = some r→C[i]? = some x→Rd w 1 r.1 (x.map encW)∧r.2.1 = k∧Wide k x
theorem MtR.below {w w' : World} {v : Sv} {n k : Nat} {C : List (List Nat)} (h : MtR w v n k C) (hb : Below w.heap.size w w') : MtR w' v n k C:=by
 obtain ⟨rows,h1,h2,h3,h4,h5⟩:=h.ex
 exact ⟨rows,h1.below hb,h2,h3,h4,fun i r x hr hx=>⟨(h5 i r x hr hx).1.below hb,(h5 i r x hr hx).2⟩⟩
theorem MtR.at_ {w : World} {v : Sv} {n k i : Nat} {C : List (List Nat)} (h : MtR w v n k C) (hi : i < n) :
  ∃ b off B c x,v.1 = some ⟨b,off,none⟩∧w.cell? ⟨b,off+i,none⟩ = some (.slice B k c)∧C[i]? = some x∧C.getD i [] = x∧Rd w 1 B (x.map encW)∧Wide k x:=by
 obtain ⟨rows,h1,h2,h3,h4,h5⟩:=h.ex
 obtain ⟨r,hr⟩ : ∃ r,rows[i]? = some r:=⟨_,List.getElem?_eq_getElem (by omega)⟩
 obtain ⟨x,hx⟩ : ∃ x,C[i]? = some x:=⟨_,List.getElem?_eq_getElem (by omega)⟩
 obtain ⟨b,off,e,hc⟩:=h1 (by intro e;have:=congrArg List.length e;rw [List.length_map,h2] at this;simp at this;omega)
 obtain ⟨g1,g2,g3⟩:=h5 i _ _ hr hx
 have h0:=hc i 0 (encSl r) (.slice r.1 r.2.1 r.2.2) (by simp [hr]) rfl
 rw [g2] at h0
 exact ⟨b,off,_,_,_,e,by simpa using h0,hx,by rw [List.getD_eq_getElem?_getD,hx];rfl,g1,g3⟩
structure MtO (w : World) (base : Nat) (A : Option Addr) (n c k : Nat) (rows : List Sv) (C : List (List Nat)) : Prop where
 sl : Own w base 266 1 A n c (rows.map encSl)
 len : C.length = n
 row : ∀ (i : Nat) (r : Sv) (x : List Nat),rows[i]? = some r→C[i]? = some x→Own w base 303 1 r.1 r.2.1 r.2.2 (x.map encW)∧Wide k x
 apart : ∀ (i j : Nat) (r q : Sv) (a b : Addr),rows[i]? = some r→rows[j]? = some q→r.1 = some a→q.1 = some b→a.block = b.block→i = j
theorem types_mt : (266 : TypeId) ≠ 303:=by decide
section
variable {w w' : World} {base n c k : Nat} {A : Option Addr} {rows : List Sv} {C : List (List Nat)}
theorem MtO.rlen (h : MtO w base A n c k rows C) : rows.length = n:=by have:=h.sl.len;rwa [List.length_map] at this
theorem MtO.below (h : MtO w base A n c k rows C) (hb : Below w.heap.size w w') : MtO w' base A n c k rows C :=
 ⟨h.sl.below hb,h.len,fun i r x hr hx=>⟨(h.row i r x hr hx).1.below hb,(h.row i r x hr hx).2⟩,h.apart⟩
theorem MtO.more {b' : Nat} (h : MtO w base A n c k rows C) (hb : b'≤base) : MtO w b' A n c k rows C :=
 ⟨h.sl.more hb,h.len,fun i r x hr hx=>⟨(h.row i r x hr hx).1.more hb,(h.row i r x hr hx).2⟩,h.apart⟩
theorem MtO.nil_ (w : World) (base k : Nat) : MtO w base none 0 0 k [] []:=⟨Own.nil_ _ _ _ _,rfl,fun i r x h=>by simp at h,fun i j r q a b h=>by simp at h⟩
theorem MtO.rd (h : MtO w base A n c k rows C) : MtR w (A,n,c) n k C :=
 ⟨rows,h.sl.rd (by omega),h.rlen,rfl,h.len,fun i r x hr hx=>⟨(h.row i r x hr hx).1.rd (by omega),by
  have h1:=(h.row i r x hr hx).1.len
  have h2:=(h.row i r x hr hx).2.len
  rw [List.length_map] at h1
  omega,(h.row i r x hr hx).2⟩⟩
theorem MtO.at_ {i : Nat} (h : MtO w base A n c k rows C) (hi : i < n) (hk : 0 < k) :
  ∃ b g d x,A = some ⟨b,0,none⟩∧rows[i]? = some (some ⟨g,0,none⟩,k,d)∧w.cell? ⟨b,i,none⟩ = some (.slice (some ⟨g,0,none⟩) k d)∧C[i]? = some x∧C.getD i [] = x∧Own w base 303 1 (some ⟨g,0,none⟩) k d (x.map encW)∧Wide k x:=by
 obtain ⟨b,rfl,hb,_⟩:=h.sl.form (by omega)
 obtain ⟨r,hr⟩ : ∃ r,rows[i]? = some r:=⟨_,List.getElem?_eq_getElem (by have:=h.rlen;omega)⟩
 obtain ⟨x,hx⟩ : ∃ x,C[i]? = some x:=⟨_,List.getElem?_eq_getElem (by have:=h.len;omega)⟩
 obtain ⟨g1,g2⟩:=h.row i _ _ hr hx
 have hl : r.2.1 = k:=by have h1:=g1.len;rw [List.length_map,g2.len] at h1;exact h1.symm
 obtain ⟨r1,r2,r3⟩:=r
 simp only at g1 hl
 subst hl
 obtain ⟨g,rfl,_,_⟩:=g1.form hk
 have h0:=h.sl.cell (k:=i) (j:=0) (x:=encSl (some ⟨g,0,none⟩,r2,r3)) (u:=.slice (some ⟨g,0,none⟩) r2 r3) (by simp [hr]) rfl
 exact ⟨b,g,r3,_,rfl,hr,by simpa using h0,hx,by rw [List.getD_eq_getElem?_getD,hx];rfl,g1,g2⟩
theorem MtO.snoc {w3 : World} {A3 : Option Addr} {c3 : Nat} {o : Obj} {r : Sv} {x : List Nat} (h : MtO w base A n c k rows C) (hr : Own w base 303 1 r.1 r.2.1 r.2.2 (x.map encW)) (hx : Wide k x)
  (hf : ∀ (i : Nat) (q : Sv) (a b : Addr),rows[i]? = some q→q.1 = some a→r.1 = some b→a.block ≠ b.block)
  (ho3 : Own w3 base 266 1 A3 (n+1) c3 ((rows++[r]).map encSl)) (hg3 : (w.alloc o).grownBy w3 (A.map (·.block))) : MtO w3 base A3 (n+1) c3 k (rows++[r]) (C++[x]):=by
 have hg : w.grownBy w3 (A.map (·.block)):=grown_alloc hg3
 have keep : ∀ {r : Sv} {x : List Nat},Own w base 303 1 r.1 r.2.1 r.2.2 (x.map encW)→Own w3 base 303 1 r.1 r.2.1 r.2.2 (x.map encW):=fun h1=>h1.grown hg (fun a ha e=>by
  cases hA : A with
  | none=>rw [hA] at e;cases e
  | some b=>rw [hA] at e;simp at e;exact h.sl.apart h1 types_mt b a hA ha e.symm)
 have hl:=h.rlen
 refine ⟨ho3,by simp [h.len],fun i q y hq hy=>?_,fun i j q z a b hq hz ha hb e=>?_⟩
 ·rcases Nat.lt_trichotomy i n with hi | hi | hi
  ·rw [List.getElem?_append_left (by omega)] at hq
   rw [List.getElem?_append_left (by have:=h.len;omega)] at hy
   exact ⟨keep (h.row i q y hq hy).1,(h.row i q y hq hy).2⟩
  ·rw [List.getElem?_append_right (by omega),hi,hl,Nat.sub_self] at hq
   rw [List.getElem?_append_right (by have:=h.len;omega),hi,h.len,Nat.sub_self] at hy
   simp at hq hy
   subst hq;subst hy
   exact ⟨keep hr,hx⟩
  ·rw [List.getElem?_eq_none (by simp;omega)] at hq;cases hq
 ·have hlt : ∀ {i : Nat} {q : Sv},(rows++[r])[i]? = some q→(i < n∧rows[i]? = some q)∨(i = n∧q = r):=fun {i q} hq=>by
   rcases Nat.lt_trichotomy i n with hi | hi | hi
   ·rw [List.getElem?_append_left (by omega)] at hq;exact .inl ⟨hi,hq⟩
   ·rw [List.getElem?_append_right (by omega),hi,hl,Nat.sub_self] at hq;simp at hq;exact .inr ⟨hi,hq.symm⟩
   ·rw [List.getElem?_eq_none (by simp;omega)] at hq;cases hq
  rcases hlt hq with ⟨hi,kq⟩ | ⟨hi,eq_⟩ <;> rcases hlt hz with ⟨hj,kz⟩ | ⟨hj,ez⟩
  ·exact h.apart i j q z a b kq kz ha hb e
  ·subst ez;exact absurd e (hf i q a b kq ha hb)
  ·subst eq_;exact absurd e.symm (hf j z b a kz hb ha)
  ·omega
theorem MtO.wrote {i g d : Nat} {x : List Nat} (h : MtO w base A n c k rows C) (hr : rows[i]? = some (some ⟨g,0,none⟩,k,d)) (hg : w.grownBy w' (some g)) (ho : Own w' base 303 1 (some ⟨g,0,none⟩) k d (x.map encW)) (hx : Wide k x) :
  MtO w' base A n c k rows (C.set i x):=by
 have hl:=h.rlen
 have hi : i < n:=by have:=(List.getElem?_eq_some_iff.1 hr).1;omega
 obtain ⟨y,hC⟩ : ∃ y,C[i]? = some y:=⟨_,List.getElem?_eq_getElem (by have:=h.len;omega)⟩
 have hrow:=(h.row i _ _ hr hC).1
 refine ⟨h.sl.grown hg (fun a ha e=>h.sl.apart hrow types_mt a ⟨g,0,none⟩ ha rfl (by injection e)),by rw [List.length_set];exact h.len,fun j q y hq hy=>?_,h.apart⟩
 by_cases e : i = j
 ·subst e
  rw [hr] at hq
  injection hq with hq
  subst hq
  rw [List.getElem?_set_self (by have:=h.len;omega)] at hy
  injection hy with hy
  subst hy
  exact ⟨ho,hx⟩
 ·rw [List.getElem?_set_ne e] at hy
  obtain ⟨h1,h2⟩:=h.row j q y hq hy
  exact ⟨h1.grown hg (fun a ha e2=>e (h.apart i j _ _ ⟨g,0,none⟩ a hr hq rfl ha (by injection e2 with e2;exact e2.symm))),h2⟩
end
def BitsM (n : Nat) (C : List (List Nat)) (m : Mtx) : Prop:=∀ i j,i < n→j < n→hasW (C.getD i []) j = m i j
theorem getD_set {α : Type} {C : List α} {i j : Nat} {x d : α} (h : i < C.length) : (C.set i x).getD j d = if i = j then x else C.getD j d:=by
 rw [List.getD_eq_getElem?_getD,List.getD_eq_getElem?_getD,List.getElem?_set]
 by_cases e : i = j
 ·rw [if_pos e,if_pos h,if_pos e];rfl
 ·rw [if_neg e,if_neg e]
end
section
open Go.RowKit
theorem Rd.atW {w : World} {A : Option Addr} {l : List Nat} {k x : Nat} (h : Rd w 1 A (l.map encW)) (hk : l[k]? = some x) : ∃ b off,A = some ⟨b,off,none⟩∧w.cell? ⟨b,off+k,none⟩ = some (.int .u64 (x : Nat)):=by
 obtain ⟨b,off,rfl,hc⟩:=h (by intro e;cases l with | nil=>simp at hk | cons _ _=>simp at e)
 have h0:=hc k 0 (encW x) (.int .u64 (x : Nat)) (by simp [hk]) rfl
 exact ⟨b,off,rfl,by simpa using h0⟩
theorem bits_test (y m : Nat) (h : y < 18446744073709551616) : (bits BinOp.and IntKind.u64 ((y : Int) / 2 ^ m) 1 == (1 : Int)) = y.testBit m:=by
 have e : (y : Int) / 2 ^ m = ((y / 2 ^ m : Nat) : Int):=by simp
 have hle : y / 2 ^ m≤y:=Nat.div_le_self _ _
 rw [e,Nat.testBit_eq_decide_div_mod_eq]
 generalize y / 2 ^ m = z at hle ⊢
 rw [and_one_u64 _ (by omega) (by omega),Bool.eq_iff_iff,beq_iff_eq,decide_eq_true_iff]
 omega
theorem jhas_any (A : Option Addr) (n c i : Nat) (x : List Nat) (w : World) (hA : Rd w 1 A (x.map encW)) (hx : Wide n x) (hi : i / 64 < n) (hz : i≤4000000) :
  Calls Tryz.prog 253 #[.slice A n c,.int .i64 i] w fun e w'=>e = .returned (.bool (hasW x i))∧w = w':=by
 obtain ⟨y,hy⟩ : ∃ y,x[i / 64]? = some y:=⟨_,List.getElem?_eq_getElem (by have:=hx.len;omega)⟩
 have HV : Hid (hasW x i = y.testBit (i % 64)):=Lib.hid (by unfold hasW;rw [List.getD_eq_getElem?_getD,hy];rfl)
 have hlt:=hx.lt y (List.mem_of_getElem? hy)
 obtain ⟨b,off,rfl,hc⟩:=hA.atW hy
 obtain ⟨d,hd⟩ : ∃ d,i / 64 = d:=⟨_,rfl⟩
 obtain ⟨m,hm⟩ : ∃ m,i % 64 = m:=⟨_,rfl⟩
 have q1 : Int.tdiv (i : Int) 64 = (d : Int):=by subst hd;rfl
 have q2 : Int.tmod (i : Int) 64 = (m : Int):=by subst hm;rfl
 have hm64 : m < 64:=by omega
 have hdz : d < n:=by omega
 have hdz2 : d≤4000000:=by omega
 rw [hm] at HV
 rw [hd] at hc
 clear hd hm hy hi
 go_enter Tryz.func253,Tryz.ntmps253
 go_wp2
 go_ret
 exact ⟨by rw [HV.out,← bits_test y m hlt];rfl,rfl⟩
theorem jset_any (base g n c i : Nat) (x : List Nat) (w : World) (hA : Own w base 303 1 (some ⟨g,0,none⟩) n c (x.map encW)) (hx : Wide n x) (hi : i / 64 < n) (hz : i≤4000000) :
  Calls Tryz.prog 291 #[.slice (some ⟨g,0,none⟩) n c,.int .i64 i] w fun e w'=>e = .returned (.tuple #[])∧Own w' base 303 1 (some ⟨g,0,none⟩) n c ((setW x i).map encW)∧w.grownBy w' (some g):=by
 obtain ⟨y,hy⟩ : ∃ y,x[i / 64]? = some y:=⟨_,List.getElem?_eq_getElem (by have:=hx.len;omega)⟩
 have HV : Hid (setW x i = x.set (i / 64) (y ||| 2 ^ (i % 64))):=Lib.hid (by unfold setW;rw [List.getD_eq_getElem?_getD,hy];rfl)
 have hlt:=hx.lt y (List.mem_of_getElem? hy)
 have hc:=hA.cell (k:=i / 64) (j:=0) (x:=encW y) (u:=.int .u64 (y : Nat)) (by simp [hy]) rfl
 have hf:=hA.frozen (i / 64)
 have hO:=Lib.hid (fun v=>hA.stored (k:=i / 64) (j:=0) (x:=encW y) (by simp [hy]) (by omega) v)
 obtain ⟨d,hd⟩ : ∃ d,i / 64 = d:=⟨_,rfl⟩
 obtain ⟨m,hm⟩ : ∃ m,i % 64 = m:=⟨_,rfl⟩
 have q1 : Int.tdiv (i : Int) 64 = (d : Int):=by subst hd;rfl
 have q2 : Int.tmod (i : Int) 64 = (m : Int):=by subst hm;rfl
 have hm64 : m < 64:=by omega
 have hdz : d < n:=by omega
 have hdz2 : d≤4000000:=by omega
 rw [hm] at HV
 simp only [Nat.mul_one,Nat.add_zero] at hc hO
 rw [hd] at hc hf hO HV
 clear hd hm hi
 go_enter Tryz.func291,Tryz.ntmps291
 go_wp2
 go_end0
 have hw : IntKind.u64.wrap ((2 : Int) ^ m) = ((2 ^ m : Nat) : Int):=by
  have h2 : 2 ^ m < 18446744073709551616:=Nat.pow_lt_pow_right (a:=2) (m:=m) (n:=64) (by omega) hm64
  have e : ((2 : Int) ^ m) = ((2 ^ m : Nat) : Int):=by simp
  rw [e]
  generalize 2 ^ m = z at h2 ⊢
  rw [IntKind.wrap_u64];omega
 have h2 : 2 ^ m < 18446744073709551616:=Nat.pow_lt_pow_right (a:=2) (m:=m) (n:=64) (by omega) hm64
 rw [hw,bits_or_u64_nat y (2 ^ m) hlt h2]
 refine ⟨rfl,?_,only_setCell (only_refl _ _) (.inl rfl) _⟩
 rw [HV.out,List.map_set]
 exact hO.out _
def orTo (i : Nat) (x y : List Nat) : List Nat:=(orW x y).take i++x.drop i
theorem orTo_all {k : Nat} {x y : List Nat} (hx : Wide k x) (hy : Wide k y) : orTo k x y = orW x y:=by
 unfold orTo
 rw [List.take_of_length_le (by rw [(hx.or hy).len];omega),List.drop_of_length_le (by rw [hx.len];omega),List.append_nil]
theorem orTo_at {k i : Nat} {x y : List Nat} {a b : Nat} (hx : Wide k x) (hy : Wide k y) (ha : x[i]? = some a) (hb : y[i]? = some b) : (orTo i x y)[i]? = some a∧(orTo i x y).set i (a ||| b) = orTo (i+1) x y:=by
 have hi : i < k:=by have:=(List.getElem?_eq_some_iff.1 ha).1;rw [hx.len] at this;exact this
 have hl : ((orW x y).take i).length = i:=by rw [List.length_take,(hx.or hy).len];omega
 have ho : (orW x y)[i]? = some (a ||| b):=by unfold orW;rw [List.getElem?_zipWith,ha,hb]
 have hd : x.drop i = a :: x.drop (i+1):=by
  obtain ⟨h1,h2⟩:=List.getElem?_eq_some_iff.1 ha
  rw [List.drop_eq_getElem_cons h1,h2]
 unfold orTo
 constructor
 ·rw [List.getElem?_append_right (by omega),hl,Nat.sub_self,hd];rfl
 ·rw [List.set_append_right _ _ (by omega),hl,Nat.sub_self,hd,zE,List.take_add_one,ho,List.append_assoc];rfl
theorem jadd_any (base g n c m d : Nat) (B : Option Addr) (x y : List Nat) (w : World) (hA : Own w base 303 1 (some ⟨g,0,none⟩) n c (x.map encW)) (hx : Wide n x) (hB : Rd w 1 B (y.map encW)) (hy : Wide n y)
  (hg : ∀ a,B = some a→a.block ≠ g) (hm : m = n) (hn : n≤4000000) :
  Calls Tryz.prog 326 #[.slice (some ⟨g,0,none⟩) n c,.slice B m d] w fun e w'=>e = .returned (.tuple #[])∧Own w' base 303 1 (some ⟨g,0,none⟩) n c ((orW x y).map encW)∧w.grownBy w' (some g):=by
 subst hm
 have HE:=Lib.hid (orTo_all hx hy)
 go_enter Tryz.func326,Tryz.ntmps326
 go_wp2
 go_loopw [4] (fun v wr=>∃ i : Nat,v = .int .i64 i∧i≤m∧Own wr base 303 1 (some ⟨g,0,none⟩) m c ((orTo i x y).map encW)∧Rd wr 1 B (y.map encW)∧w.grownBy wr (some g)) (fun v _=>m - (intOf v).toNat)
 case atStart=>exact ⟨0,rfl,by omega,hA,hB,only_refl _ _⟩
 case round =>
  obtain ⟨i,rfl,hi,ho,hb,hgr⟩:=hrel
  by_cases hlt : i < m
  ·obtain ⟨a,ha⟩ : ∃ a,x[i]? = some a:=⟨_,List.getElem?_eq_getElem (by have:=hx.len;omega)⟩
   obtain ⟨b,hb'⟩ : ∃ b,y[i]? = some b:=⟨_,List.getElem?_eq_getElem (by have:=hy.len;omega)⟩
   have haz:=hx.lt a (List.mem_of_getElem? ha)
   have hbz:=hy.lt b (List.mem_of_getElem? hb')
   obtain ⟨e1,e2⟩:=orTo_at hx hy ha hb'
   have E2:=Lib.hid e2
   have E3:=Lib.hid e1
   have c1:=ho.cell (k:=i) (j:=0) (x:=encW a) (u:=.int .u64 (a : Nat)) (by simp [e1]) rfl
   have f1:=ho.frozen i
   obtain ⟨bk,off,rfl,c2⟩:=hb.atW hb'
   simp only [Nat.mul_one,Nat.add_zero] at c1
   have hor:=bits_or_u64_nat a b haz hbz
   clear ha hb' e1 e2 haz hbz
   go_wp2_with fail
   go_region
   go_wp2
   go_roundw
   case rel =>
    refine ⟨i+1,by go_num,by omega,?_,(hb.setCell (p:=⟨g,i,none⟩) (fun a ha=>hg a ha) _).drew,only_drew (only_setCell hgr (.inl rfl) _)⟩
    have h1:=(ho.stored (k:=i) (j:=0) (x:=encW a) (by rw [List.getElem?_map,E3.out];rfl) (by omega) (.int .u64 ((a ||| b : Nat) : Int))).drew
    simp only [Nat.mul_one,Nat.add_zero] at h1
    rw [← E2.out,List.map_set]
    exact h1
   case measure=>simp [intOf];omega
  ·obtain rfl : i = m:=by omega
   go_wp2
   go_end0
   exact ⟨rfl,by rw [← HE.out];exact ho,hgr⟩
theorem or_self : ∀ x : List Nat,orW x x = x
 | []=>rfl
 | a :: r=>by show (a ||| a) :: orW r r = _;rw [Nat.or_self,or_self r]
theorem jadd_self (base g n c : Nat) (x : List Nat) (w : World) (hA : Own w base 303 1 (some ⟨g,0,none⟩) n c (x.map encW)) (hx : Wide n x) (hn : n≤4000000) :
  Calls Tryz.prog 326 #[.slice (some ⟨g,0,none⟩) n c,.slice (some ⟨g,0,none⟩) n c] w fun e w'=>e = .returned (.tuple #[])∧Own w' base 303 1 (some ⟨g,0,none⟩) n c ((orW x x).map encW)∧w.grownBy w' (some g):=by
 rw [or_self]
 go_enter Tryz.func326,Tryz.ntmps326
 go_wp2
 go_loopw [4] (fun v wr=>∃ i : Nat,v = .int .i64 i∧i≤n∧Own wr base 303 1 (some ⟨g,0,none⟩) n c (x.map encW)∧w.grownBy wr (some g)) (fun v _=>n - (intOf v).toNat)
 case atStart=>exact ⟨0,rfl,by omega,hA,only_refl _ _⟩
 case round =>
  obtain ⟨i,rfl,hi,ho,hgr⟩:=hrel
  by_cases hlt : i < n
  ·obtain ⟨a,ha⟩ : ∃ a,x[i]? = some a:=⟨_,List.getElem?_eq_getElem (by have:=hx.len;omega)⟩
   have E3:=Lib.hid ha
   have haz:=hx.lt a (List.mem_of_getElem? ha)
   have c1:=ho.cell (k:=i) (j:=0) (x:=encW a) (u:=.int .u64 (a : Nat)) (by simp [ha]) rfl
   have f1:=ho.frozen i
   simp only [Nat.mul_one,Nat.add_zero] at c1
   have hor:=bits_or_u64_nat a a haz haz
   rw [Nat.or_self] at hor
   clear ha haz
   go_wp2_with fail
   go_region
   go_wp2
   go_roundw
   case rel =>
    refine ⟨i+1,by go_num,by omega,?_,only_drew (only_setCell hgr (.inl rfl) _)⟩
    have h1:=(ho.stored (k:=i) (j:=0) (x:=encW a) (by simp [E3.out]) (by omega) (.int .u64 (a : Int))).drew
    simp only [Nat.mul_one,Nat.add_zero] at h1
    have e : (x.map encW).set i ((encW a).set 0 (.int .u64 (a : Int))) = x.map encW:=by
     refine List.ext_getElem? fun j=>?_
     rw [List.getElem?_set]
     split
     ·rename_i h;subst h;split
      ·rw [List.getElem?_map,E3.out];rfl
      ·rw [List.getElem?_eq_none (by omega)]
     ·rfl
    rw [e] at h1
    exact h1
   case measure=>simp [intOf];omega
  ·obtain rfl : i = n:=by omega
   go_wp2
   go_end0
   exact ⟨rfl,ho,hgr⟩
end
section
open Go.RowKit
theorem infoRow : (Tryz.prog.info? 266).map (fun i=>(i.zero,i.size,i.bytes)) = some (some (.slice none 0 0),1,24):=by kernel_rfl
theorem infoU64 : (Tryz.prog.info? 303).map (fun i=>(i.zero,i.size,i.bytes)) = some (some (.int .u64 0),1,8):=by kernel_rfl
theorem below_new {w w' : World} (h : w.grownBy w' none) : Below w.heap.size w w':=⟨h.os,h.tape,h.output,h.size,fun k hk=>h.block k hk (fun e=>by cases e)⟩
theorem made_zero (n : Nat) : (madeCells (Value.int .u64 0).cells (n*1)).toList = ((List.replicate n 0).map encW).flatten:=by
 rw [Nat.mul_one]
 unfold madeCells
 rw [Array.toList_map,Array.toList_range]
 induction n with
 | zero=>rfl
 | succ n ih =>
  rw [List.range_succ,List.map_append,ih,List.replicate_succ',List.map_append,List.flatten_append]
  congr 1
  simp [encW,Value.cells,Nat.mod_one]
theorem own_made {w : World} {base g n : Nat} (h : w.ownsRow base 303 1 (.slice (some ⟨g,0,none⟩) n n) n (madeCells (Value.int .u64 0).cells (n*1)).toList) : Own w base 303 1 (some ⟨g,0,none⟩) n n ((List.replicate n 0).map encW) :=
 ⟨by simp,fun x hx=>(encW_ok _ x hx).1,by rw [← made_zero];exact h⟩
def zeroC (n k : Nat) : List (List Nat):=List.replicate n (List.replicate k 0)
theorem jnone_any (n : Nat) (w : World) (hn : n≤1000000) :
  Calls Tryz.prog 290 #[.int .i64 n] w fun e w'=>∃ A c rows,e = .returned (.slice A n c)∧MtO w' w.heap.size A n c (n / 64+1) rows (zeroC n (n / 64+1))∧Below w.heap.size w w':=by
 obtain ⟨i0,hi0,hz0,hz1,hz2⟩:=info_parts infoRow
 obtain ⟨j0,hj0,hy0,hy1,hy2⟩:=info_parts infoU64
 obtain ⟨d,hd⟩ : ∃ d,n / 64 = d:=⟨_,rfl⟩
 have q1 : Int.tdiv (n : Int) 64 = (d : Int):=by subst hd;rfl
 have hdz : d≤1000000:=by omega
 rw [hd]
 clear hd
 go_enter Tryz.func290,Tryz.ntmps290
 go_wp2
 go_loopw [3,4] (fun u v wr=>∃ (i : Nat) (A : Option Addr) (c : Nat) (rows : List Sv),u = .slice A i c∧v = .int .i64 i∧i≤n∧MtO wr w.heap.size A i c (d+1) rows (zeroC i (d+1))∧Below w.heap.size w wr) (fun _ v _=>n - (intOf v).toNat)
 case atStart=>exact ⟨0,none,0,[],rfl,rfl,by omega,MtO.nil_ _ _ _,Below.refl _ _⟩
 case round =>
  obtain ⟨i,A,c,rows,rfl,rfl,hi,ho,hb⟩:=hrel
  have hsz:=hb.size
  have hlen:=ho.rlen
  by_cases hlt : i < n
  ·go_wp2_with (first
    | (at_make;go_must (refine wpList_make_full _ rfl (.tmp 13) (.tmp 13) 266 rfl w.heap.size 303 j0 (.int .u64 0) 1 Tryz.underlying266 hj0 hy0 hy1 .i64 .i64 _ _ (d+1) rfl rfl (by omega) (by omega) (by rw [hy2];omega) (by unfold maxLen;omega) hsz ?_);intro w2 ho2 hg2)
    | (at_builtin;go_must (refine wpList_app rfl (.tmp 10) (.tmp 15) _ rfl w.heap.size 266 i0 _ 1 24 Tryz.underlying263 hi0 hz0 hz1 hz2 rfl (by omega) A i c (rows.map encSl) rfl ((ho.below (below_new hg2)).sl.alloc _) _ 1 1 [encSl (some ⟨wr.heap.size,0,none⟩,d+1,d+1)] rfl rfl (Rd.newAt (by simp) rfl) (encSl_ok [_]) (by unfold maxLen;omega) (by omega) (by have:=hg2.size;simp;omega) ?_);intro A3 c3 w3 ho3 hg3 hA3))
   have hfr : ∀ (j : Nat) (q : Sv) (a b : Addr),rows[j]? = some q→q.1 = some a→(some ⟨wr.heap.size,0,none⟩ : Option Addr) = some b→a.block ≠ b.block:=fun j q a b hq ha hb e=>by
    injection hb with hb
    subst hb
    obtain ⟨x,hx⟩ : ∃ x,(zeroC i (d+1))[j]? = some x:=⟨_,List.getElem?_eq_getElem (by have:=(List.getElem?_eq_some_iff.1 hq).1;have:=ho.len;omega)⟩
    have:=((ho.row j q x hq hx).1.lt a ha).2
    simp only at e
    omega
   have hm:=(ho.below (below_new hg2)).snoc (r:=(some ⟨wr.heap.size,0,none⟩,d+1,d+1)) (x:=List.replicate (d+1) 0) (own_made ho2) (Wide.zero _) hfr (by rw [List.map_append];exact ho3) hg3
   have hb3 : Below w.heap.size w w3:=below_app ((hb.trans ((below_new hg2).mono hsz)).alloc (by have:=hg2.size;omega) _) hg3 (by have:=hg2.size;simp;omega) (fun a ha=>(ho.sl.lt a ha).1)
   go_roundw
   case rel=>exact ⟨i+1,A3,c3,_,rfl,by go_num,by omega,by rw [show zeroC (i+1) (d+1) = zeroC i (d+1)++[List.replicate (d+1) 0] from List.replicate_succ'];exact hm,hb3⟩
   case measure=>simp [intOf];omega
  ·obtain rfl : i = n:=by omega
   go_wp2
   go_ret
   exact ⟨A,c,rows,rfl,ho,hb⟩
theorem zero_at {n k i : Nat} (hi : i < n) : (zeroC n k).getD i [] = List.replicate k 0:=by unfold zeroC;rw [List.getD_eq_getElem?_getD,List.getElem?_replicate,if_pos hi];rfl
theorem zero_bits (n k : Nat) : BitsM n (zeroC n k) noneM:=fun i j hi _=>by rw [zero_at hi,hasW_zero];rfl
theorem BitsM.step {n i : Nat} {C : List (List Nat)} {m m' : Mtx} {x : List Nat} (h : BitsM n C m) (hi : i < C.length) (h1 : ∀ j,j < n→hasW x j = m' i j) (h2 : ∀ y j,y < n→j < n→y ≠ i→m' y j = m y j) : BitsM n (C.set i x) m':=fun y j hy hj=>by
 rw [getD_set hi]
 by_cases e : i = y
 ·rw [if_pos e];subst e;exact h1 j hj
 ·rw [if_neg e,h y j hy hj,h2 y j hy hj (fun k=>e k.symm)]
theorem BitsM.congr {n : Nat} {C : List (List Nat)} {m m' : Mtx} (h : BitsM n C m) (e : ∀ i j,i < n→j < n→m' i j = m i j) : BitsM n C m':=fun i j hi hj=>by rw [h i j hi hj,e i j hi hj]
theorem BitsM.row {n i : Nat} {C : List (List Nat)} {m : Mtx} {x : List Nat} (h : BitsM n C m) (hx : C.getD i [] = x) (hi : i < n) : ∀ j,j < n→hasW x j = m i j:=fun j hj=>by rw [← hx];exact h i j hi hj
def MtEnd (w : World) (n : Nat) (m : Mtx) (e : Ending) (w' : World) : Prop:=∃ A c rows C,e = .returned (.slice A n c)∧MtO w' w.heap.size A n c (n / 64+1) rows C∧BitsM n C m∧Below w.heap.size w w'
theorem jown_any (n : Nat) (w : World) (hn : n≤1000000) : Calls Tryz.prog 292 #[.int .i64 n] w (MtEnd w n ownM):=by
 have HN:=Lib.hid (jnone_any n w hn)
 obtain ⟨k,Hk⟩ : ∃ k,Hid (n / 64+1 = k):=⟨_,Lib.hid rfl⟩
 have hk0 : 0 < k:=by have:=Hk.out;omega
 rw [Hk.out] at HN
 unfold MtEnd
 rw [Hk.out]
 go_enter Tryz.func292,Tryz.ntmps292
 go_wp2_with fail
 refine HN.out.mono ?_
 rintro e w1 ⟨A,c,rows,rfl,ho1,hb1⟩
 have HZ:=Lib.hid (zero_bits n k)
 generalize zeroC n k = C0 at ho1 HZ
 clear HN
 go_wp2_with fail
 go_loopw [4] (fun v wr=>∃ (i : Nat) (C : List (List Nat)),v = .int .i64 i∧i≤n∧MtO wr w.heap.size A n c k rows C∧Hid (BitsM n C fun x j=>decide (x < i) && decide (x = j))∧Below w.heap.size w wr) (fun v _=>n - (intOf v).toNat)
 case atStart=>exact ⟨0,C0,rfl,by omega,ho1,Lib.hid (HZ.out.congr fun i j _ _=>by simp [noneM]),hb1⟩
 case round =>
  obtain ⟨i,C,rfl,hi,ho,HB,hb⟩:=hrel
  have hsz:=hb.size
  by_cases hlt : i < n
  ·obtain ⟨bk,g,d,x,rfl,hr,hc,hx,hx2,hox,hwx⟩:=ho.at_ hlt hk0
   have HS:=Lib.hid (jset_any w.heap.size g k d i x wr hox hwx (by have:=Hk.out;omega) (by omega))
   have HBx:=Lib.hid (HB.out.row hx2 hlt)
   have HC:=Lib.hid (show i < C.length by rw [ho.len];exact hlt)
   have hgl:=(hox.lt _ rfl).1
   clear hx hx2
   go_wp2_with fail
   refine HS.out.mono ?_
   rintro e w2 ⟨rfl,ho2,hg2⟩
   have hm:=ho.wrote hr hg2 ho2 (hwx.set_ i)
   have hb2 : Below w.heap.size w w2:=hb.trans (below_only hg2 hsz hgl)
   go_wp2
   go_roundw
   case rel =>
    refine ⟨i+1,_,by go_num,by omega,hm,Lib.hid (HB.out.step HC.out (fun j hj=>?_) (fun y j _ _ hy=>?_)),hb2⟩
    ·rw [hasW_set (by rw [hwx.len];have:=Hk.out;omega),HBx.out j hj,decide_eq_true (by omega : i < i+1),decide_eq_false (by omega : ¬ i < i)]
     simp only [Bool.false_and,Bool.false_or,Bool.true_and]
     exact decide_eq_decide.2 ⟨Eq.symm,Eq.symm⟩
    ·congr 1
     exact decide_eq_decide.2 (by omega)
   case measure=>simp [intOf];omega
  ·obtain rfl : i = n:=by omega
   go_wp2
   go_ret
   exact ⟨A,c,rows,C,rfl,ho,HB.out.congr fun x j hx _=>by unfold ownM;rw [decide_eq_true hx,Bool.true_and],hb⟩
end
section
open Go.RowKit
theorem Rd.off {w : World} {A : Option Addr} {l : List Nat} {k g : Nat} (h : Rd w 1 A (l.map encW)) (hk : Wide k l) (h0 : 0 < k) (hg : w.heap.size≤g) : ∀ a,A = some a→a.block ≠ g:=fun a ha=>by
 obtain ⟨b,off,e,hb⟩:=h.lt (fun x hx=>by obtain ⟨y,_,rfl⟩:=List.mem_map.1 hx;simp [encW]) (fun e=>by
  have:=congrArg List.length e
  rw [List.length_map,hk.len] at this
  simp at this;omega)
 rw [e] at ha
 injection ha with ha
 subst ha
 simp only
 omega
theorem MtO.cell {w : World} {base n c k i bk g d : Nat} {rows : List Sv} {C : List (List Nat)} (h : MtO w base (some ⟨bk,0,none⟩) n c k rows C) (hr : rows[i]? = some (some ⟨g,0,none⟩,k,d)) : w.cell? ⟨bk,i,none⟩ = some (.slice (some ⟨g,0,none⟩) k d):=by
 have h0:=h.sl.cell (k:=i) (j:=0) (x:=encSl (some ⟨g,0,none⟩,k,d)) (u:=.slice (some ⟨g,0,none⟩) k d) (by simp [hr]) rfl
 simpa using h0
theorem drew_grown {w w' : World} {r : Option Nat} (h : w.drew.grownBy w' r) : w.grownBy w' r:=⟨h.os,h.tape,h.output,h.size,h.block⟩
theorem jboth_any (A1 A2 : Option Addr) (n c1 c2 : Nat) (CA CB : List (List Nat)) (a b : Mtx) (w : World) (hA : MtR w (A1,n,c1) n (n / 64+1) CA) (ha : BitsM n CA a) (hB : MtR w (A2,n,c2) n (n / 64+1) CB) (hb : BitsM n CB b) (hn : n≤1000000) :
  Calls Tryz.prog 294 #[.slice A1 n c1,.slice A2 n c2] w (MtEnd w n (bothM a b)):=by
 have HN:=Lib.hid (jnone_any n w hn)
 obtain ⟨k,Hk⟩ : ∃ k,Hid (n / 64+1 = k):=⟨_,Lib.hid rfl⟩
 have hk0 : 0 < k:=by have:=Hk.out;omega
 have hkz : k≤4000000:=by have:=Hk.out;omega
 rw [Hk.out] at HN hA hB
 unfold MtEnd
 rw [Hk.out]
 have Ha:=Lib.hid ha
 have Hb:=Lib.hid hb
 clear ha hb
 go_enter Tryz.func294,Tryz.ntmps294
 go_wp2_with fail
 refine HN.out.mono ?_
 rintro e w1 ⟨A,c,rows,rfl,ho1,hb1⟩
 have HZ:=Lib.hid (zero_bits n k)
 generalize zeroC n k = C0 at ho1 HZ
 clear HN
 go_wp2_with fail
 go_loopw [6] (fun v wr=>∃ (i : Nat) (C : List (List Nat)),v = .int .i64 i∧i≤n∧MtO wr w.heap.size A n c k rows C∧Hid (BitsM n C fun x j=>decide (x < i) && (a x j || b x j))∧Below w.heap.size w wr) (fun v _=>n - (intOf v).toNat)
 case atStart=>exact ⟨0,C0,rfl,by omega,ho1,Lib.hid (HZ.out.congr fun i j _ _=>by simp [noneM]),hb1⟩
 case round =>
  obtain ⟨i,C,rfl,hi,ho,HB,hbw⟩:=hrel
  have hsz:=hbw.size
  by_cases hlt : i < n
  ·obtain ⟨bk,g,d,x,rfl,hr,hc,hx,hx2,hox,hwx⟩:=ho.at_ hlt hk0
   obtain ⟨b1,o1,B1,d1,x1,e1,k1,-,hx1,hr1,hw1⟩:=hA.at_ hlt
   obtain ⟨b2,o2,B2,d2,x2,e2,k2,-,hx2',hr2,hw2⟩:=hB.at_ hlt
   simp only at e1 e2
   subst e1
   subst e2
   have hgl:=(hox.lt _ rfl).1
   have hga:=Rd.off hr1 hw1 hk0 hgl
   have hgb:=Rd.off hr2 hw2 hk0 hgl
   have k20:=k2
   replace k1:=cell_keep k1 hbw
   have hr1':=hr1.below hbw
   have HA1:=Lib.hid (jadd_any w.heap.size g k d k d1 B1 x x1 wr.drew hox.drew hwx hr1'.drew hw1 hga rfl hkz)
   have HBx:=Lib.hid (HB.out.row hx2 hlt)
   have HBa:=Lib.hid (Ha.out.row hx1 hlt)
   have HBb:=Lib.hid (Hb.out.row hx2' hlt)
   have HC:=Lib.hid (show i < C.length by rw [ho.len];exact hlt)
   clear hx hx2 hx1 hx2' k2
   go_wp2_with fail
   refine wp_region_noPanic ?_
   go_region_law (go_simp;go_at_call 326;refine HA1.out.mono ?_;rintro e wz ⟨rfl,ho2,hg2⟩)
   all_goals
    refine NoPanic.normal ?_
    have hg2':=drew_grown hg2
    have hm1:=ho.wrote hr hg2' ho2 (hwx.or hw1)
    have hb2 : Below w.heap.size w wz:=hbw.trans (below_only hg2' hsz hgl)
    have hsz2:=hb2.size
    have hc2:=hm1.cell hr
    have k2':=cell_keep k20 hb2
    have HA2:=Lib.hid (jadd_any w.heap.size g k d k d2 B2 (orW x x1) x2 wz.drew ho2.drew (hwx.or hw1) (hr2.below hb2).drew hw2 hgb rfl hkz)
    clear HA1 hg2 hc k1 k20 hr1
    go_wp2_with fail
    refine wp_region_noPanic ?_
    go_region_law (go_simp;go_at_call 326;refine HA2.out.mono ?_;rintro e wy ⟨rfl,ho3,hg3⟩)
    all_goals
     refine NoPanic.normal ?_
     have hg3':=drew_grown hg3
     have hm2:=hm1.wrote hr hg3' ho3 ((hwx.or hw1).or hw2)
     rw [List.set_set] at hm2
     have hb3 : Below w.heap.size w wy:=hb2.trans (below_only hg3' hsz2 hgl)
     go_wp2
     go_roundw
     case rel =>
      refine ⟨i+1,_,by go_num,by omega,hm2,Lib.hid (HB.out.step HC.out (fun j hj=>?_) (fun y j _ _ hy=>?_)),hb3⟩
      ·rw [hasW_or (by rw [(hwx.or hw1).len,hw2.len]),hasW_or (by rw [hwx.len,hw1.len]),HBx.out j hj,HBa.out j hj,HBb.out j hj,decide_eq_true (by omega : i < i+1),decide_eq_false (by omega : ¬ i < i)]
       simp
      ·congr 1
       exact decide_eq_decide.2 (by omega)
     case measure=>simp [intOf];omega
  ·obtain rfl : i = n:=by omega
   go_wp2
   go_ret
   exact ⟨A,c,rows,C,rfl,ho,HB.out.congr fun x j hx _=>by unfold bothM;rw [decide_eq_true hx,Bool.true_and],hbw⟩
end
section
open Go.RowKit
def behTo (n i z : Nat) (a b : Mtx) : Mtx:=fun x j=>if x = i then (List.range z).any (fun k=>a i k && b k j) else decide (x < i) && behindM n a b x j
theorem behTo_first (n i : Nat) (a b : Mtx) (x j : Nat) : behTo n i 0 a b x j = (decide (x < i) && behindM n a b x j):=by
 unfold behTo
 by_cases e : x = i
 ·rw [if_pos e,decide_eq_false (by omega)];rfl
 ·rw [if_neg e]
theorem behTo_last (n i : Nat) (a b : Mtx) (x j : Nat) : (decide (x < i+1) && behindM n a b x j) = behTo n i n a b x j:=by
 unfold behTo
 by_cases e : x = i
 ·rw [if_pos e,decide_eq_true (by omega),Bool.true_and];subst e;rfl
 ·rw [if_neg e]
  congr 1
  exact decide_eq_decide.2 (by omega)
theorem behTo_here (n i z : Nat) (a b : Mtx) (j : Nat) : behTo n i (z+1) a b i j = (behTo n i z a b i j || (a i z && b z j)):=by
 unfold behTo
 rw [if_pos rfl,if_pos rfl,List.range_succ,List.any_append];simp
theorem behTo_there {n i z : Nat} {a b : Mtx} {x j : Nat} (h : x ≠ i) : behTo n i (z+1) a b x j = behTo n i z a b x j:=by
 unfold behTo
 rw [if_neg h,if_neg h]
theorem jbehind_any (A1 A2 : Option Addr) (n c1 c2 : Nat) (CA CB : List (List Nat)) (a b : Mtx) (w : World) (hA : MtR w (A1,n,c1) n (n / 64+1) CA) (ha : BitsM n CA a) (hB : MtR w (A2,n,c2) n (n / 64+1) CB) (hb : BitsM n CB b) (hn : n≤1000000) :
  Calls Tryz.prog 293 #[.slice A1 n c1,.slice A2 n c2] w (MtEnd w n (behindM n a b)):=by
 have HN:=Lib.hid (jnone_any n w hn)
 obtain ⟨k,Hk⟩ : ∃ k,Hid (n / 64+1 = k):=⟨_,Lib.hid rfl⟩
 have hk0 : 0 < k:=by have:=Hk.out;omega
 have hkz : k≤4000000:=by have:=Hk.out;omega
 rw [Hk.out] at HN hA hB
 unfold MtEnd
 rw [Hk.out]
 have Ha:=Lib.hid ha
 have Hb:=Lib.hid hb
 clear ha hb
 go_enter Tryz.func293,Tryz.ntmps293
 go_wp2_with fail
 refine HN.out.mono ?_
 rintro e w1 ⟨A,c,rows,rfl,ho1,hb1⟩
 have HZ:=Lib.hid (zero_bits n k)
 generalize zeroC n k = C0 at ho1 HZ
 clear HN
 go_wp2_with fail
 go_loopw [7,8] (fun v _ wr=>∃ (i : Nat) (C : List (List Nat)),v = .int .i64 i∧i≤n∧MtO wr w.heap.size A n c k rows C∧Hid (BitsM n C fun x j=>decide (x < i) && behindM n a b x j)∧Below w.heap.size w wr) (fun v _ _=>n - (intOf v).toNat)
 case atStart=>exact ⟨0,C0,rfl,by omega,ho1,Lib.hid (HZ.out.congr fun i j _ _=>by simp [noneM]),hb1⟩
 case round =>
  obtain ⟨i,C,rfl,hi,ho,HB,hbw⟩:=hrel
  by_cases hlt : i < n
  ·obtain ⟨b1,o1,B1,d1,x1,e1,k10,-,hx1,hr1,hw1⟩:=hA.at_ hlt
   simp only at e1
   subst e1
   have HBa:=Lib.hid (Ha.out.row hx1 hlt)
   clear hx1
   go_wp2_with fail
   go_loopw [8] (fun v wq=>∃ (z : Nat) (C : List (List Nat)),v = .int .i64 z∧z≤n∧MtO wq w.heap.size A n c k rows C∧Hid (BitsM n C (behTo n i z a b))∧Below w.heap.size w wq) (fun v _=>n - (intOf v).toNat)
   case atStart=>exact ⟨0,C,rfl,by omega,ho,Lib.hid (HB.out.congr fun x j _ _=>behTo_first n i a b x j),hbw⟩
   case round =>
    clear ho HB hbw
    obtain ⟨z,C,rfl,hz,ho,HB,hbw⟩:=hrel
    have hsz:=hbw.size
    by_cases hzt : z < n
    ·have k1:=cell_keep k10 hbw
     obtain ⟨q,Hq⟩ : ∃ q,Hid (a i z = q):=⟨_,Lib.hid rfl⟩
     have HH:=Lib.hid (jhas_any B1 k d1 z x1 wr (hr1.below hbw) hw1 (by have:=Hk.out;omega) (by omega))
     rw [HBa.out z hzt,Hq.out] at HH
     cases q with
     | false =>
      go_wp2_with fail
      refine HH.out.mono ?_
      rintro e w2 ⟨rfl,rfl⟩
      go_wp2
      go_roundw
      case rel=>exact ⟨z+1,C,by go_num,by omega,ho,Lib.hid (HB.out.congr fun x j _ _=>by
       by_cases e : x = i
       ·subst e;rw [behTo_here,Hq.out];simp
       ·exact behTo_there e),hbw⟩
      case measure=>simp [intOf];omega
     | true =>
      obtain ⟨bk,g,d,x,rfl,hr,hc,hx,hx2,hox,hwx⟩:=ho.at_ hlt hk0
      obtain ⟨b2,o2,B2,d2,x2,e2,k2,-,hx2',hr2,hw2⟩:=hB.at_ hzt
      simp only at e2
      subst e2
      have hgl:=(hox.lt _ rfl).1
      have hgb:=Rd.off hr2 hw2 hk0 hgl
      replace k2:=cell_keep k2 hbw
      have HA1:=Lib.hid (jadd_any w.heap.size g k d k d2 B2 x x2 wr.drew hox.drew hwx (hr2.below hbw).drew hw2 hgb rfl hkz)
      have HBx:=Lib.hid (HB.out.row hx2 hlt)
      have HBb:=Lib.hid (Hb.out.row hx2' hzt)
      have HC:=Lib.hid (show i < C.length by rw [ho.len];exact hlt)
      clear hx hx2 hx2'
      go_wp2_with fail
      refine HH.out.mono ?_
      rintro e w2 ⟨rfl,rfl⟩
      go_wp2_with fail
      refine wp_region_noPanic ?_
      go_region_law (go_simp;go_at_call 326;refine HA1.out.mono ?_;rintro e wz ⟨rfl,ho2,hg2⟩)
      all_goals
       refine NoPanic.normal ?_
       have hg2':=drew_grown hg2
       have hm1:=ho.wrote hr hg2' ho2 (hwx.or hw2)
       have hb2 : Below w.heap.size w wz:=hbw.trans (below_only hg2' hsz hgl)
       go_wp2
       go_roundw
       case rel =>
        refine ⟨z+1,_,by go_num,by omega,hm1,Lib.hid (HB.out.step HC.out (fun j hj=>?_) (fun y j _ _ hy=>behTo_there hy)),hb2⟩
        rw [hasW_or (by rw [hwx.len,hw2.len]),HBx.out j hj,HBb.out j hj,behTo_here,Hq.out,Bool.true_and]
       case measure=>simp [intOf];omega
    ·obtain rfl : z = n:=by omega
     go_wp2
     go_roundw
     case rel=>exact ⟨i+1,C,by go_num,by omega,ho,Lib.hid (HB.out.congr fun x j _ _=>behTo_last z i a b x j),hbw⟩
     case measure=>simp [intOf];omega
  ·obtain rfl : i = n:=by omega
   go_wp2
   go_ret
   exact ⟨A,c,rows,C,rfl,ho,HB.out.congr fun x j hx _=>by rw [decide_eq_true hx,Bool.true_and],hbw⟩
end
section
open Go.RowKit
def moreK (n : Nat) (a : Mtx) (k : Nat) : Mtx:=(List.range k).foldl (fun m k=>warRow n k m) (bothM a ownM)
def moreI (n : Nat) (a : Mtx) (k i : Nat) : Mtx:=(List.range i).foldl (fun m i=>warS k i m) (moreK n a k)
theorem moreI_last (n : Nat) (a : Mtx) (k : Nat) : moreI n a k n = moreK n a (k+1):=by
 unfold moreI
 conv=>rhs;unfold moreK
 rw [List.range_succ,List.foldl_append];rfl
theorem moreI_next (n : Nat) (a : Mtx) (k i : Nat) : moreI n a k (i+1) = warS k i (moreI n a k i):=by
 unfold moreI
 rw [List.range_succ,List.foldl_append];rfl
theorem jmore_any (A1 : Option Addr) (n c1 : Nat) (CA : List (List Nat)) (a : Mtx) (w : World) (hA : MtR w (A1,n,c1) n (n / 64+1) CA) (ha : BitsM n CA a) (hn : n≤1000000) :
  Calls Tryz.prog 295 #[.slice A1 n c1] w (MtEnd w n (moreM n a)):=by
 have HO:=Lib.hid (jown_any n w hn)
 have HBo:=Lib.hid (fun A2 c2 CB W (h1 : MtR W (A1,n,c1) n (n / 64+1) CA) (h2 : MtR W (A2,n,c2) n (n / 64+1) CB) (hb : BitsM n CB ownM)=>jboth_any A1 A2 n c1 c2 CA CB a ownM W h1 ha h2 hb hn)
 clear ha
 unfold MtEnd at HO HBo
 obtain ⟨k,Hk⟩ : ∃ k,Hid (n / 64+1 = k):=⟨_,Lib.hid rfl⟩
 have hk0 : 0 < k:=by have:=Hk.out;omega
 have hkz : k≤4000000:=by have:=Hk.out;omega
 simp only [Hk.out] at HO HBo hA
 unfold MtEnd
 rw [Hk.out]
 go_enter Tryz.func295,Tryz.ntmps295
 go_wp2_with fail
 refine HO.out.mono ?_
 rintro e w1 ⟨A2,c2,rows2,C2,rfl,ho1,hb1,hbw1⟩
 have hMB:=ho1.rd
 have HB2:=Lib.hid (HBo.out A2 c2 C2 w1 (hA.below hbw1) hMB hb1)
 clear HO HBo ho1 hMB hb1
 go_wp2_with fail
 refine HB2.out.mono ?_
 rintro e w2 ⟨A,c,rows,C0,rfl,ho2,hb2,hbw2⟩
 have hbw20:=below_two hbw1 hbw2
 have ho20:=ho2.more hbw1.size
 have HZ:=Lib.hid hb2
 clear HB2 hb2 ho2 hA
 go_wp2_with fail
 go_loopw [5,6] (fun v _ wr=>∃ (z : Nat) (C : List (List Nat)),v = .int .i64 z∧z≤n∧MtO wr w.heap.size A n c k rows C∧Hid (BitsM n C (moreK n a z))∧Below w.heap.size w wr) (fun v _ _=>n - (intOf v).toNat)
 case atStart=>exact ⟨0,C0,rfl,by omega,ho20,HZ,hbw20⟩
 case round =>
  clear HZ ho20
  obtain ⟨z,C,rfl,hz,ho,HB,hbw⟩:=hrel
  by_cases hzt : z < n
  ·go_wp2_with fail
   go_loopw [6] (fun v wq=>∃ (i : Nat) (C : List (List Nat)),v = .int .i64 i∧i≤n∧MtO wq w.heap.size A n c k rows C∧Hid (BitsM n C (moreI n a z i))∧Below w.heap.size w wq) (fun v _=>n - (intOf v).toNat)
   case atStart=>exact ⟨0,C,rfl,by omega,ho,HB,hbw⟩
   case round =>
    clear ho HB hbw
    obtain ⟨i,C,rfl,hi,ho,HB,hbw⟩:=hrel
    have hsz:=hbw.size
    by_cases hlt : i < n
    ·obtain ⟨bk,g,d,x,rfl,hr,hc,hx,hx2,hox,hwx⟩:=ho.at_ hlt hk0
     have HBx:=Lib.hid (HB.out.row hx2 hlt)
     obtain ⟨m,Hm⟩ : ∃ m,Hid (moreI n a z i = m):=⟨_,Lib.hid rfl⟩
     rw [Hm.out] at HB HBx
     have HNx:=Lib.hid (show moreI n a z (i+1) = warS z i m by rw [moreI_next,Hm.out])
     obtain ⟨q,Hq⟩ : ∃ q,Hid (m i z = q):=⟨_,Lib.hid rfl⟩
     have HH:=Lib.hid (jhas_any (some ⟨g,0,none⟩) k d z x wr (hox.rd (by omega)) hwx (by have:=Hk.out;omega) (by omega))
     rw [HBx.out z hzt,Hq.out] at HH
     cases q with
     | false =>
      clear hx hx2
      go_wp2_with fail
      refine HH.out.mono ?_
      rintro e w3 ⟨rfl,rfl⟩
      go_wp2
      go_roundw
      case rel=>exact ⟨i+1,C,by go_num,by omega,ho,Lib.hid (HB.out.congr fun x j _ _=>by rw [HNx.out,warS_eq,Hq.out];simp),hbw⟩
      case measure=>simp [intOf];omega
     | true =>
      have hgl:=(hox.lt _ rfl).1
      have HC:=Lib.hid (show i < C.length by rw [ho.len];exact hlt)
      obtain ⟨bk',g2,d2,y,eb,hr2,hc2,hy,hy2,hoy,hwy⟩:=ho.at_ hzt hk0
      injection eb with eb
      injection eb with eb _ _
      subst eb
      have HBy:=Lib.hid (HB.out.row hy2 hzt)
      have HA1 : Hid (Calls Tryz.prog 326 #[.slice (some ⟨g,0,none⟩) k d,.slice (some ⟨g2,0,none⟩) k d2] wr.drew fun e w'=>e = .returned (.tuple #[])∧Own w' w.heap.size 303 1 (some ⟨g,0,none⟩) k d ((orW x y).map encW)∧wr.drew.grownBy w' (some g)):=by
       by_cases e : i = z
       ·subst e
        rw [hr] at hr2
        injection hr2 with hr2
        injection hr2 with h1 h2
        injection h1 with h1
        injection h1 with h1 _ _
        injection h2 with _ h2
        subst h1
        subst h2
        rw [hx] at hy
        injection hy with hy
        subst hy
        exact Lib.hid (jadd_self w.heap.size g k d x wr.drew hox.drew hwx hkz)
       ·refine Lib.hid (jadd_any w.heap.size g k d k d2 (some ⟨g2,0,none⟩) x y wr.drew hox.drew hwx (hoy.rd (by omega)).drew hwy (fun a ha e2=>e (ho.apart i z _ _ ⟨g,0,none⟩ a hr hr2 rfl ha e2.symm)) rfl hkz)
      clear hx hx2 hy hy2 hoy
      go_wp2_with fail
      refine HH.out.mono ?_
      rintro e w3 ⟨rfl,rfl⟩
      go_wp2_with fail
      refine wp_region_noPanic ?_
      go_region_law (go_simp;go_at_call 326;refine HA1.out.mono ?_;rintro e wz ⟨rfl,ho2,hg2⟩)
      all_goals
       refine NoPanic.normal ?_
       have hg2':=drew_grown hg2
       have hm1:=ho.wrote hr hg2' ho2 (hwx.or hwy)
       have hb2 : Below w.heap.size w wz:=hbw.trans (below_only hg2' hsz hgl)
       go_wp2
       go_roundw
       case rel =>
        refine ⟨i+1,_,by go_num,by omega,hm1,Lib.hid (HB.out.step HC.out (fun j hj=>?_) (fun y j _ _ hy=>?_)),hb2⟩
        ·rw [hasW_or (by rw [hwx.len,hwy.len]),HBx.out j hj,HBy.out j hj,HNx.out,warS_eq,Hq.out,decide_eq_true rfl];simp
        ·rw [HNx.out,warS_eq,decide_eq_false hy];simp
       case measure=>simp [intOf];omega
    ·obtain rfl : i = n:=by omega
     rw [moreI_last] at HB
     go_wp2
     go_roundw
     case rel=>exact ⟨z+1,C,by go_num,by omega,ho,HB,hbw⟩
     case measure=>simp [intOf];omega
  ·obtain rfl : z = n:=by omega
   go_wp2
   go_ret
   exact ⟨A,c,rows,C,rfl,ho,HB.out,hbw⟩
end
section
def risesB : List Nat→Bool
 | a :: b :: r=>decide (a < b) && risesB (b :: r)
 | _=>true
theorem risesB_at : ∀ {l : List Nat} {i x y : Nat},risesB l = true→l[i]? = some x→l[i+1]? = some y→x < y
 | [],i,x,y,_,hx,_=>by simp at hx
 | [a],i,x,y,_,_,hy=>by simp at hy
 | a :: b :: r,0,x,y,h,hx,hy=>by
  simp at hx hy
  subst hx;subst hy
  unfold risesB at h
  rw [Bool.and_eq_true] at h
  exact of_decide_eq_true h.1
 | a :: b :: r,i+1,x,y,h,hx,hy=>by
  unfold risesB at h
  rw [Bool.and_eq_true] at h
  exact risesB_at h.2 (by simpa using hx) (by simpa using hy)
def formOk (op kn : Nat) : Bool:=if op = 0∨op = 1 then kn == 0 else if op = 2∨op = 3 then decide (2≤kn) else kn == 1
def nodeOk (N op : Nat) (cs : List Nat) (kn : Nat) : Bool:=decide (op≤6) && (op == 1 || cs.isEmpty) && formOk op kn && cs.all (fun c=>decide (c < N)) && risesB cs
mutual
def sizeP : Pat→Nat
 | .node _ _ ks=>1+sizeL ks
def sizeL : List Pat→Nat
 | []=>0
 | p :: r=>sizeP p+sizeL r
end
mutual
def goodP (N : Nat) : Pat→Bool
 | .node op cs ks=>nodeOk N op cs ks.length && goodL N ks
def goodL (N : Nat) : List Pat→Bool
 | []=>true
 | p :: r=>goodP N p && goodL N r
end
theorem sizeP_pos : ∀ p : Pat,1≤sizeP p
 | .node _ _ ks=>by unfold sizeP;omega
theorem sizeL_take : ∀ {ks : List Pat} {i : Nat} {p : Pat},ks[i]? = some p→sizeL (ks.take (i+1)) = sizeL (ks.take i)+sizeP p
 | [],i,p,h=>by simp at h
 | q :: r,0,p,h=>by simp at h;subst h;simp [sizeL]
 | q :: r,i+1,p,h=>by
  have:=sizeL_take (ks:=r) (i:=i) (p:=p) (by simpa using h)
  rw [List.take_succ_cons,List.take_succ_cons,sizeL,sizeL,this];omega
theorem sizeL_le : ∀ (ks : List Pat) (i : Nat),sizeL (ks.take i)≤sizeL ks
 | [],i=>by simp
 | q :: r,0=>by simp [sizeL]
 | q :: r,i+1=>by rw [List.take_succ_cons,sizeL,sizeL];have:=sizeL_le r i;omega
theorem sizeL_at {ks : List Pat} {i : Nat} {p : Pat} (h : ks[i]? = some p) : sizeL (ks.take i)+sizeP p≤sizeL ks:=by
 rw [← sizeL_take h];exact sizeL_le _ _
theorem goodL_at {N : Nat} : ∀ {ks : List Pat} {i : Nat} {p : Pat},goodL N ks = true→ks[i]? = some p→goodP N p = true
 | [],i,p,_,h=>by simp at h
 | q :: r,0,p,g,h=>by simp at h;subst h;unfold goodL at g;rw [Bool.and_eq_true] at g;exact g.1
 | q :: r,i+1,p,g,h=>by unfold goodL at g;rw [Bool.and_eq_true] at g;exact goodL_at g.2 (by simpa using h)
theorem nodeOk_mono {N M op : Nat} {cs : List Nat} {kn : Nat} (hNM : N≤M) (h : nodeOk N op cs kn = true) : nodeOk M op cs kn = true:=by
 unfold nodeOk at h ⊢
 simp only [Bool.and_eq_true,decide_eq_true_eq,Bool.or_eq_true,beq_iff_eq,List.isEmpty_iff,List.all_eq_true] at h ⊢
 obtain ⟨⟨⟨⟨h1,h2⟩,h3⟩,h4⟩,h5⟩:=h
 exact ⟨⟨⟨⟨h1,h2⟩,h3⟩,fun x hx=>Nat.lt_of_lt_of_le (h4 x hx) hNM⟩,h5⟩
mutual
theorem goodP_mono {N M : Nat} (hNM : N≤M) : ∀ {p : Pat},goodP N p = true→goodP M p = true
 | .node op cs ks,h=>by
  unfold goodP at h ⊢
  rw [Bool.and_eq_true] at h ⊢
  exact ⟨nodeOk_mono hNM h.1,goodL_mono hNM h.2⟩
theorem goodL_mono {N M : Nat} (hNM : N≤M) : ∀ {ks : List Pat},goodL N ks = true→goodL M ks = true
 | [],_=>by unfold goodL;rfl
 | p :: r,h=>by
  unfold goodL at h ⊢
  rw [Bool.and_eq_true] at h ⊢
  exact ⟨goodP_mono hNM h.1,goodL_mono hNM h.2⟩
end
theorem node_parts {N op : Nat} {cs : List Nat} {kn : Nat} (h : nodeOk N op cs kn = true) : op≤6∧(op = 1∨cs = [])∧formOk op kn = true∧(∀ (i c : Nat),cs[i]? = some c→c < N)∧risesB cs = true:=by
 unfold nodeOk at h
 simp only [Bool.and_eq_true,decide_eq_true_eq,Bool.or_eq_true,beq_iff_eq,List.isEmpty_iff,List.all_eq_true] at h
 obtain ⟨⟨⟨⟨h1,h2⟩,h3⟩,h4⟩,h5⟩:=h
 exact ⟨h1,h2,h3,fun i c hc=>h4 c (List.mem_of_getElem? hc),h5⟩
end
section
def Contig : Nat→List (Nat × Nat × Nat)→Nat→Prop
 | p,[],z=>p = z
 | p,x :: r,z=>x.2.1 = p∧p < x.2.2∧Contig x.2.2 r z
theorem runesGo_contig {s : ByteArray} : ∀ (f a : Nat),s.size≤a+f→a≤s.size→Contig a (runesGo s f a) s.size
 | 0,a,h,h2=>by simp only [runesGo,Contig];omega
 | f+1,a,h,h2=>by
  rw [runesGo]
  split
  ·rename_i hlt
   have hd:=dec_bd s a hlt
   exact ⟨rfl,by simp only;omega,runesGo_contig f _ (by simp only;omega) (by simp only;omega)⟩
  ·show a = s.size;omega
theorem runesP_contig (s : ByteArray) : Contig 0 (runesP s) s.size:=runesGo_contig _ _ (by omega) (by omega)
end
section
def pickG : List (Nat × Nat × Nat)→List Bool→List Nat
 | x :: r,b :: t=>(if b then [x.2.1] else [])++pickG r t
 | _,_=>[]
def clsG (g : Int→Nat) (r : List (Nat × Nat × Nat)) : List Nat:=r.map fun x=>g x.1
theorem pickG_snoc : ∀ (r : List (Nat × Nat × Nat)) (t : List Bool) (x : Nat × Nat × Nat) (b : Bool),t.length = r.length→pickG (r++[x]) (t++[b]) = pickG r t++(if b then [x.2.1] else [])
 | [],[],x,b,_=>by simp [pickG]
 | [],_ :: _,_,_,h=>by simp at h
 | _ :: _,[],_,_,h=>by simp at h
 | y :: r,c :: t,x,b,h=>by
  rw [List.cons_append,List.cons_append,pickG,pickG,pickG_snoc r t x b (by simpa using h),List.append_assoc]
theorem runes_rise (s : ByteArray) : (runesP s).Pairwise fun x y=>x.2.1 < y.2.1:=by
 have : ∀ (f a : Nat),(runesGo s f a).Pairwise fun x y=>x.2.1 < y.2.1:=by
  intro f
  induction f with
  | zero=>intro a;exact .nil
  | succ f ih =>
   intro a
   rw [runesGo]
   split
   ·rename_i hlt
    have hd:=dec_bd s a hlt
    refine .cons (fun y hy=>?_) (ih _)
    have:=runesGo_bd _ _ y hy
    simp only;omega
   ·exact .nil
 exact this _ _
theorem clsG_len (g : Int→Nat) (r : List (Nat × Nat × Nat)) : (clsG g r).length = r.length:=by simp [clsG]
end
section
def Ahead (start : Bool) (L : List Nat→Prop) (a : List Nat) : Prop:=∃ u v,a = u++v∧(start = true→u = [])∧L v
def Behind (stop : Bool) (L : List Nat→Prop) (b : List Nat) : Prop:=∃ u v,b = u++v∧(stop = true→v = [])∧L u
def AppliesL (r : RuleP) (a b : List Nat) : Prop:=Ahead r.start (Lang r.left) a∧Behind r.stop (Lang r.right) b
theorem snoc_inj {a b : List Nat} {x y : Nat} (h : a++[x] = b++[y]) : a = b∧x = y:=by
 have:=List.append_inj' h rfl
 exact ⟨this.1,by simpa using this.2⟩
def One (cs : List Nat) (u : List Nat) : Prop:=∃ x,u = [x]∧x ∈ cs
theorem lang_set (cs : List Nat) (ks : List Pat) (u : List Nat) : Lang (.node 1 cs ks) u ↔ One cs u:=by simp [Lang,One]
theorem lang_empty (cs : List Nat) (ks : List Pat) (u : List Nat) : Lang (.node 0 cs ks) u ↔ u = []:=by simp [Lang]
theorem lang_or (cs : List Nat) (ks : List Pat) (u : List Nat) : Lang (.node 3 cs ks) u ↔ LangO ks u:=by simp [Lang]
theorem lang_then (cs : List Nat) (ks : List Pat) (u : List Nat) : Lang (.node 2 cs ks) u ↔ LangT ks u:=by simp [Lang]
theorem lang_many (cs : List Nat) (p : Pat) (ks : List Pat) (u : List Nat) : Lang (.node 4 cs (p :: ks)) u ↔ Star (Lang p) u:=by simp [Lang,LangH]
theorem lang_may (cs : List Nat) (p : Pat) (ks : List Pat) (u : List Nat) : Lang (.node 6 cs (p :: ks)) u ↔ (u = []∨Lang p u):=by simp [Lang,LangH]
theorem Ahead.congr {s : Bool} {L M : List Nat→Prop} (h : ∀ u,L u ↔ M u) (a : List Nat) : Ahead s L a ↔ Ahead s M a :=
 ⟨fun ⟨u,v,e,hs,hl⟩=>⟨u,v,e,hs,(h v).1 hl⟩,fun ⟨u,v,e,hs,hl⟩=>⟨u,v,e,hs,(h v).2 hl⟩⟩
theorem Behind.congr {s : Bool} {L M : List Nat→Prop} (h : ∀ u,L u ↔ M u) (a : List Nat) : Behind s L a ↔ Behind s M a :=
 ⟨fun ⟨u,v,e,hs,hl⟩=>⟨u,v,e,hs,(h u).1 hl⟩,fun ⟨u,v,e,hs,hl⟩=>⟨u,v,e,hs,(h u).2 hl⟩⟩
theorem star_congr {L M : List Nat→Prop} (h : ∀ u,L u ↔ M u) (u : List Nat) : Star L u ↔ Star M u:=by
 constructor
 ·intro g
  induction g with
  | nil=>exact .nil
  | app h1 _ ih=>exact .app ((h _).1 h1) ih
 ·intro g
  induction g with
  | nil=>exact .nil
  | app h1 _ ih=>exact .app ((h _).2 h1) ih
def setQ (c : Nat) : Pat:=.node 1 [c] []
end
section
end
end Go.Proofs.YtglmcknlnoknoaaGreatDoor
/- -/
namespace Go.Proofs.YtglmcknlnoknoaaGreatDoor
set_option maxRecDepth 100000
set_option maxHeartbeats 40000000
section
def startsB (p : Pat) (c : List Nat) : List Nat:=(List.range (c.length+1)).filter fun i=>leadsP c p i c.length
def endsB (p : Pat) (c : List Nat) : List Nat:=(List.range (c.length+1)).filter fun i=>leadsP c p 0 i
def appliesB (r : RuleP) (c : List Nat) (at_ : Nat) : Bool :=
 !(startsB r.left (c.take at_)).isEmpty && !(endsB r.right (c.drop at_)).isEmpty && (!r.start || (startsB r.left (c.take at_)).contains 0) && (!r.stop || (endsB r.right (c.drop at_)).contains (c.length - at_))
theorem mem_starts {p : Pat} {c : List Nat} {i : Nat} : i ∈ startsB p c ↔ i≤c.length∧Lang p (c.drop i):=by
 unfold startsB
 rw [List.mem_filter,List.mem_range]
 constructor
 ·rintro ⟨h1,h2⟩
  have:=((leads_tells c p) i c.length (by omega) (Nat.le_refl _)).1 h2
  refine ⟨by omega,?_⟩
  have h3:=this.2
  unfold part at h3
  rwa [List.take_of_length_le (by rw [List.length_drop];omega)] at h3
 ·rintro ⟨h1,h2⟩
  refine ⟨by omega,((leads_tells c p) i c.length h1 (Nat.le_refl _)).2 ⟨h1,?_⟩⟩
  unfold part
  rwa [List.take_of_length_le (by rw [List.length_drop];omega)]
theorem mem_ends {p : Pat} {c : List Nat} {i : Nat} : i ∈ endsB p c ↔ i≤c.length∧Lang p (c.take i):=by
 unfold endsB
 rw [List.mem_filter,List.mem_range]
 constructor
 ·rintro ⟨h1,h2⟩
  have:=((leads_tells c p) 0 i (Nat.zero_le _) (by omega)).1 h2
  refine ⟨by omega,?_⟩
  have h3:=this.2
  unfold part at h3
  simpa using h3
 ·rintro ⟨h1,h2⟩
  refine ⟨by omega,((leads_tells c p) 0 i (Nat.zero_le _) h1).2 ⟨Nat.zero_le _,?_⟩⟩
  unfold part
  simpa using h2
theorem ahead_iff {p : Pat} {c : List Nat} {s : Bool} : Ahead s (Lang p) c ↔ ∃ i ∈ startsB p c,s = true→i = 0:=by
 constructor
 ·rintro ⟨u,v,rfl,hs,hl⟩
  refine ⟨u.length,mem_starts.2 ⟨by simp,by simpa using hl⟩,fun h=>by rw [hs h];rfl⟩
 ·rintro ⟨i,hi,hs⟩
  obtain ⟨h1,h2⟩:=mem_starts.1 hi
  exact ⟨c.take i,c.drop i,(List.take_append_drop i c).symm,fun h=>by rw [hs h];rfl,h2⟩
theorem behind_iff {p : Pat} {c : List Nat} {s : Bool} : Behind s (Lang p) c ↔ ∃ i ∈ endsB p c,s = true→i = c.length:=by
 constructor
 ·rintro ⟨u,v,rfl,hs,hl⟩
  refine ⟨u.length,mem_ends.2 ⟨by simp,by simpa using hl⟩,fun h=>by rw [hs h];simp⟩
 ·rintro ⟨i,hi,hs⟩
  obtain ⟨h1,h2⟩:=mem_ends.1 hi
  exact ⟨c.take i,c.drop i,(List.take_append_drop i c).symm,fun h=>by rw [hs h];simp,h2⟩
theorem applies_iff (r : RuleP) (c : List Nat) {at_ : Nat} : appliesB r c at_ = true ↔ AppliesL r (c.take at_) (c.drop at_):=by
 unfold AppliesL appliesB
 rw [ahead_iff,behind_iff,List.length_drop]
 have key : ∀ (l : List Nat) (b : Bool) (z : Nat),(∃ i ∈ l,b = true→i = z) ↔ (!l.isEmpty && (!b || l.contains z)) = true:=fun l b z=>by
  cases b with
  | false =>
   cases l with
   | nil=>simp
   | cons a r=>simp
  | true =>
   simp only [forall_const,Bool.not_true,Bool.false_or,Bool.and_eq_true,List.contains_iff_mem]
   constructor
   ·rintro ⟨i,hi,rfl⟩
    exact ⟨by cases l with | nil=>cases hi | cons=>rfl,hi⟩
   ·rintro ⟨_,hi⟩
    exact ⟨z,hi,rfl⟩
 rw [key,key]
 simp only [Bool.and_eq_true]
 exact ⟨fun ⟨⟨⟨a,b⟩,c⟩,d⟩=>⟨⟨a,c⟩,⟨b,d⟩⟩,fun ⟨⟨a,c⟩,⟨b,d⟩⟩=>⟨⟨⟨a,b⟩,c⟩,d⟩⟩
def decideB (rest : Bool) (c : List Nat) (at_ : Nat) : List RuleP→Bool
 | []=>rest
 | r :: l=>if appliesB r c at_ then r.cut else decideB rest c at_ l
end
section
inductive El where
 | one (cs : List Nat)
 | many (cs : List Nat)
 | may (cs : List Nat)
def elL : El→List Nat→Prop
 | .one cs,u=>One cs u
 | .many cs,u=>∀ x ∈ u,x ∈ cs
 | .may cs,u=>u = []∨One cs u
def elsL : List El→List Nat→Prop
 | [],u=>u = []
 | e :: es,u=>∃ v w,u = v++w∧elL e v∧elsL es w
def eat : List El→List Nat→Bool
 | [],_=>true
 | .one _ :: _,[]=>false
 | .one cs :: es,x :: r=>cs.contains x && eat es r
 | .many cs :: es,r=>eat es (r.dropWhile fun x=>cs.contains x)
 | .may _ :: es,[]=>eat es []
 | .may cs :: es,x :: r=>if cs.contains x then eat es r else eat es (x :: r)
def skips : List El→Nat→Bool
 | [],_=>true
 | .one cs :: _,x=>!cs.contains x
 | .many cs :: es,x=>cs.contains x || skips es x
 | .may cs :: es,x=>cs.contains x || skips es x
def okE : List El→Bool
 | []=>true
 | .one _ :: es=>okE es
 | .many cs :: es=>cs.all (skips es) && okE es
 | .may cs :: es=>cs.all (skips es) && okE es
theorem drop_grow {cs : List Nat} {K : List Nat→Bool} (h : ∀ x r,x ∈ cs→K (x :: r) = true→K r = true) : ∀ r,K r = true→K (r.dropWhile fun x=>cs.contains x) = true
 | [],hk=>hk
 | x :: r,hk=>by
  rw [List.dropWhile_cons]
  split
  ·rename_i hx
   exact drop_grow h r (h x r (by simpa using hx) hk)
  ·exact hk
theorem may_grow {cs : List Nat} {es : List El} (h : ∀ x r,x ∈ cs→eat es (x :: r) = true→eat es r = true) : ∀ r,eat es r = true→eat (.may cs :: es) r = true
 | [],hk=>by rw [eat];exact hk
 | x :: r,hk=>by
  rw [eat]
  split
  ·rename_i hx
   exact h x r (by simpa using hx) hk
  ·exact hk
theorem skip_ok : ∀ (es : List El),okE es = true→∀ x r,skips es x = true→eat es (x :: r) = true→eat es r = true
 | [],_,_,_,_,_=>by rw [eat]
 | .one cs :: es,_,x,r,hs,he=>by
  rw [eat] at he
  rw [skips] at hs
  rw [Bool.not_eq_true'] at hs
  rw [hs] at he
  cases he
 | .many cs :: es,ho,x,r,hs,he=>by
  rw [okE,Bool.and_eq_true,List.all_eq_true] at ho
  rw [skips] at hs
  rw [eat] at he ⊢
  rw [List.dropWhile_cons] at he
  cases hx : cs.contains x with
  | true=>rw [if_pos hx] at he;exact he
  | false =>
   rw [if_neg (by rw [hx];simp)] at he
   rw [hx,Bool.false_or] at hs
   exact drop_grow (fun y r hy hk=>skip_ok es ho.2 y r (ho.1 y hy) hk) r (skip_ok es ho.2 x r hs he)
 | .may cs :: es,ho,x,r,hs,he=>by
  rw [okE,Bool.and_eq_true,List.all_eq_true] at ho
  rw [skips] at hs
  rw [eat] at he
  have hg:=may_grow (cs:=cs) (es:=es) (fun y r hy hk=>skip_ok es ho.2 y r (ho.1 y hy) hk)
  cases hx : cs.contains x with
  | true=>rw [if_pos hx] at he;exact hg r he
  | false =>
   rw [if_neg (by rw [hx];simp)] at he
   rw [hx,Bool.false_or] at hs
   exact hg r (skip_ok es ho.2 x r hs he)
theorem drop_run {cs : List Nat} : ∀ (v r : List Nat),(∀ x ∈ v,x ∈ cs)→((v++r).dropWhile fun x=>cs.contains x) = r.dropWhile fun x=>cs.contains x
 | [],_,_=>rfl
 | x :: v,r,h=>by
  rw [List.cons_append,List.dropWhile_cons,if_pos (by simpa using h x (by simp))]
  exact drop_run v r fun y hy=>h y (List.mem_cons_of_mem _ hy)
theorem take_in (cs : List Nat) : ∀ (r : List Nat),∀ x ∈ r.takeWhile (fun x=>cs.contains x),x ∈ cs
 | [],x,h=>by simp at h
 | y :: r,x,h=>by
  rw [List.takeWhile_cons] at h
  split at h
  ·rename_i hy
   rcases List.mem_cons.1 h with rfl | h
   ·simpa using hy
   ·exact take_in cs r x h
  ·simp at h
theorem eat_iff : ∀ (es : List El),okE es = true→∀ r,eat es r = true ↔ ∃ v u,r = v++u∧elsL es v
 | [],_,r=>by rw [eat];exact ⟨fun _=>⟨[],r,rfl,rfl⟩,fun _=>rfl⟩
 | .one cs :: es,ho,r=>by
  rw [okE] at ho
  constructor
  ·intro h
   cases r with
   | nil=>rw [eat] at h;cases h
   | cons x r =>
    rw [eat,Bool.and_eq_true] at h
    obtain ⟨v,u,rfl,hv⟩:=(eat_iff es ho r).1 h.2
    exact ⟨x :: v,u,rfl,[x],v,rfl,⟨x,rfl,by simpa using h.1⟩,hv⟩
  ·rintro ⟨_,u,rfl,_,v,rfl,⟨x,rfl,hx⟩,hv⟩
   rw [List.append_assoc,List.singleton_append,eat,Bool.and_eq_true]
   exact ⟨by simpa using hx,(eat_iff es ho _).2 ⟨v,u,rfl,hv⟩⟩
 | .many cs :: es,ho,r=>by
  rw [okE,Bool.and_eq_true,List.all_eq_true] at ho
  rw [eat]
  constructor
  ·intro h
   obtain ⟨v,u,e,hv⟩:=(eat_iff es ho.2 _).1 h
   refine ⟨r.takeWhile (fun x=>cs.contains x)++v,u,?_,_,v,rfl,take_in cs r,hv⟩
   rw [List.append_assoc,← e,List.takeWhile_append_dropWhile]
  ·rintro ⟨_,u,rfl,w,v,rfl,hw,hv⟩
   rw [List.append_assoc,drop_run w _ hw]
   exact drop_grow (fun y r hy hk=>skip_ok es ho.2 y r (ho.1 y hy) hk) _ ((eat_iff es ho.2 _).2 ⟨v,u,rfl,hv⟩)
 | .may cs :: es,ho,r=>by
  rw [okE,Bool.and_eq_true,List.all_eq_true] at ho
  constructor
  ·intro h
   cases r with
   | nil =>
    rw [eat] at h
    obtain ⟨v,u,e,hv⟩:=(eat_iff es ho.2 _).1 h
    exact ⟨v,u,e,[],v,rfl,.inl rfl,hv⟩
   | cons x r =>
    rw [eat] at h
    split at h
    ·rename_i hx
     obtain ⟨v,u,rfl,hv⟩:=(eat_iff es ho.2 _).1 h
     exact ⟨x :: v,u,rfl,[x],v,rfl,.inr ⟨x,rfl,by simpa using hx⟩,hv⟩
    ·obtain ⟨v,u,e,hv⟩:=(eat_iff es ho.2 _).1 h
     exact ⟨v,u,e,[],v,rfl,.inl rfl,hv⟩
  ·rintro ⟨_,u,rfl,_,v,rfl,rfl | ⟨x,rfl,hx⟩,hv⟩
   ·rw [List.nil_append]
    exact may_grow (fun y r hy hk=>skip_ok es ho.2 y r (ho.1 y hy) hk) _ ((eat_iff es ho.2 _).2 ⟨v,u,rfl,hv⟩)
   ·rw [List.append_assoc,List.singleton_append,eat,if_pos (by simpa using hx)]
    exact (eat_iff es ho.2 _).2 ⟨v,u,rfl,hv⟩
theorem els_app : ∀ (a b : List El) (u : List Nat),elsL (a++b) u ↔ ∃ v w,u = v++w∧elsL a v∧elsL b w
 | [],b,u=>by
  constructor
  ·intro h;exact ⟨[],u,rfl,rfl,h⟩
  ·rintro ⟨_,w,rfl,rfl,h⟩;exact h
 | e :: a,b,u=>by
  rw [List.cons_append,elsL]
  constructor
  ·rintro ⟨v,w,rfl,hv,hw⟩
   obtain ⟨x,y,rfl,hx,hy⟩:=(els_app a b w).1 hw
   exact ⟨v++x,y,by rw [List.append_assoc],⟨v,x,rfl,hv,hx⟩,hy⟩
  ·rintro ⟨_,w,rfl,⟨v,x,rfl,hv,hx⟩,hw⟩
   exact ⟨v,x++w,by rw [List.append_assoc],hv,(els_app a b _).2 ⟨x,w,rfl,hx,hw⟩⟩
theorem el_rev (e : El) (u : List Nat) : elL e u.reverse ↔ elL e u:=by
 cases e with
 | one cs=>simp only [elL,One,List.reverse_eq_iff,List.reverse_singleton]
 | many cs=>simp [elL]
 | may cs=>simp only [elL,One,List.reverse_eq_iff,List.reverse_singleton,List.reverse_nil]
theorem els_rev : ∀ (es : List El) (u : List Nat),elsL es.reverse u.reverse ↔ elsL es u
 | [],u=>by simp [elsL]
 | e :: es,u=>by
  rw [List.reverse_cons,els_app]
  constructor
  ·rintro ⟨v,w,h,hv,x,y,rfl,hx,rfl⟩
   rw [List.append_nil] at h
   have h2 : u = x.reverse++v.reverse:=by rw [← List.reverse_append,← h,List.reverse_reverse]
   exact ⟨x.reverse,v.reverse,h2,(el_rev e x).2 hx,(els_rev es v.reverse).1 (by rw [List.reverse_reverse];exact hv)⟩
  ·rintro ⟨v,w,rfl,hv,hw⟩
   exact ⟨w.reverse,v.reverse,by rw [List.reverse_append],(els_rev es w).2 hw,v.reverse,[],by simp,(el_rev e v).2 hv,rfl⟩
theorem ahead_els {es : List El} (ho : okE es.reverse = true) (a : List Nat) : Ahead false (elsL es) a ↔ eat es.reverse a.reverse = true:=by
 rw [eat_iff _ ho]
 constructor
 ·rintro ⟨u,v,rfl,_,hv⟩
  exact ⟨v.reverse,u.reverse,by rw [List.reverse_append],(els_rev es v).2 hv⟩
 ·rintro ⟨v,u,h,hv⟩
  refine ⟨u.reverse,v.reverse,by rw [← List.reverse_append,← h,List.reverse_reverse],(fun h=>by cases h),(els_rev es v.reverse).1 (by rw [List.reverse_reverse];exact hv)⟩
theorem behind_els {es : List El} (ho : okE es = true) (b : List Nat) : Behind false (elsL es) b ↔ eat es b = true:=by
 rw [eat_iff _ ho]
 exact ⟨fun ⟨u,v,e,_,h⟩=>⟨u,v,e,h⟩,fun ⟨u,v,e,h⟩=>⟨u,v,e,(fun h=>by cases h),h⟩⟩
def oneP : Pat→Option (List Nat)
 | .node 1 cs _=>some cs
 | _=>none
def onesP : List Pat→Option (List Nat)
 | []=>some []
 | p :: r=>match oneP p,onesP r with
  | some a,some b=>some (a++b)
  | _,_=>none
def setP1 : Pat→Option (List Nat)
 | .node 1 cs _=>some cs
 | .node 3 _ ks=>onesP ks
 | _=>none
def elP : Pat→Option El
 | .node 4 _ [p]=>(setP1 p).map .many
 | .node 6 _ [p]=>(setP1 p).map .may
 | p=>(setP1 p).map .one
def elsP1 : List Pat→Option (List El)
 | []=>some []
 | p :: r=>match elP p,elsP1 r with
  | some a,some b=>some (a :: b)
  | _,_=>none
def elsP : Pat→Option (List El)
 | .node 0 _ _=>some []
 | .node 2 _ ks=>elsP1 ks
 | p=>(elP p).map fun e=>[e]
theorem oneP_ok {p : Pat} {cs : List Nat} (h : oneP p = some cs) (u : List Nat) : Lang p u ↔ One cs u:=by
 unfold oneP at h
 split at h
 ·injection h with h;subst h;exact lang_set _ _ u
 ·cases h
theorem onesP_ok : ∀ {l : List Pat} {cs : List Nat},onesP l = some cs→∀ u,LangO l u ↔ One cs u
 | [],cs,h,u=>by
  rw [onesP] at h;injection h with h;subst h
  simp [LangO,One]
 | p :: r,cs,h,u=>by
  rw [onesP] at h
  split at h
  ·rename_i a b ha hb
   injection h with h;subst h
   rw [LangO]
   show (Lang p u∨LangO r u) ↔ _
   rw [oneP_ok ha,onesP_ok hb]
   unfold One
   constructor
   ·rintro (⟨x,e,h⟩ | ⟨x,e,h⟩)
    ·exact ⟨x,e,List.mem_append.2 (.inl h)⟩
    ·exact ⟨x,e,List.mem_append.2 (.inr h)⟩
   ·rintro ⟨x,e,h⟩
    rcases List.mem_append.1 h with h | h
    ·exact .inl ⟨x,e,h⟩
    ·exact .inr ⟨x,e,h⟩
  ·cases h
theorem setP1_ok {p : Pat} {cs : List Nat} (h : setP1 p = some cs) (u : List Nat) : Lang p u ↔ One cs u:=by
 unfold setP1 at h
 split at h
 ·injection h with h;subst h;exact lang_set _ _ u
 ·rw [lang_or];exact onesP_ok h u
 ·cases h
theorem star_set (cs : List Nat) (u : List Nat) : Star (One cs) u ↔ ∀ x ∈ u,x ∈ cs:=by
 constructor
 ·intro h
  induction h with
  | nil=>simp
  | app h1 _ ih =>
   obtain ⟨x,rfl,hx⟩:=h1
   intro y hy
   rcases List.mem_cons.1 hy with rfl | hy
   ·exact hx
   ·exact ih y hy
 ·intro h
  induction u with
  | nil=>exact .nil
  | cons x u ih=>exact .app (u:=[x]) ⟨x,rfl,h x (by simp)⟩ (ih fun y hy=>h y (List.mem_cons_of_mem _ hy))
theorem elP_ok {p : Pat} {e : El} (h : elP p = some e) (u : List Nat) : Lang p u ↔ elL e u:=by
 unfold elP at h
 split at h
 ·obtain ⟨cs,h1,rfl⟩:=Option.map_eq_some_iff.1 h
  rw [lang_many,elL,← star_set]
  exact star_congr (setP1_ok h1) u
 ·obtain ⟨cs,h1,rfl⟩:=Option.map_eq_some_iff.1 h
  rw [lang_may,elL,setP1_ok h1]
 ·obtain ⟨cs,h1,rfl⟩:=Option.map_eq_some_iff.1 h
  rw [elL,setP1_ok h1]
theorem elsP1_ok : ∀ {l : List Pat} {es : List El},elsP1 l = some es→∀ u,LangT l u ↔ elsL es u
 | [],es,h,u=>by rw [elsP1] at h;injection h with h;subst h;simp [LangT,elsL]
 | p :: r,es,h,u=>by
  rw [elsP1] at h
  split at h
  ·rename_i a b ha hb
   injection h with h;subst h
   rw [LangT,elsL]
   constructor
   ·rintro ⟨v,w,e,h1,h2⟩
    exact ⟨v,w,e,(elP_ok ha v).1 h1,(elsP1_ok hb w).1 h2⟩
   ·rintro ⟨v,w,e,h1,h2⟩
    exact ⟨v,w,e,(elP_ok ha v).2 h1,(elsP1_ok hb w).2 h2⟩
  ·cases h
theorem elsP_ok {p : Pat} {es : List El} (h : elsP p = some es) (u : List Nat) : Lang p u ↔ elsL es u:=by
 unfold elsP at h
 split at h
 ·injection h with h;subst h;rw [lang_empty];rfl
 ·rw [lang_then];exact elsP1_ok h u
 ·obtain ⟨e,h1,rfl⟩:=Option.map_eq_some_iff.1 h
  rw [elsL,elP_ok h1]
  constructor
  ·intro h;exact ⟨u,[],by simp,h,rfl⟩
  ·rintro ⟨v,_,rfl,h,rfl⟩;rw [List.append_nil];exact h
theorem behind_pat {p : Pat} {es : List El} (h : elsP p = some es) (ho : okE es = true) (b : List Nat) : Behind false (Lang p) b ↔ eat es b = true:=(Behind.congr (elsP_ok h) b).trans (behind_els ho b)
structure RB where
 cut : Bool
 f : List Nat→Bool
 g : List Nat→Bool
structure Eats (r : RuleP) (x : RB) : Prop where
 cut : r.cut = x.cut
 left : ∀ a,Ahead r.start (Lang r.left) a ↔ x.f a.reverse = true
 right : ∀ b,Behind r.stop (Lang r.right) b ↔ x.g b = true
inductive EatsL : List RuleP→List RB→Prop
 | nil : EatsL [] []
 | cons {r : RuleP} {x : RB} {l : List RuleP} {m : List RB} : Eats r x→EatsL l m→EatsL (r :: l) (x :: m)
def decF (rest : Bool) (r b : List Nat) : List RB→Bool
 | []=>rest
 | x :: l=>if x.f r && x.g b then x.cut else decF rest r b l
theorem decide_F (rest : Bool) (c : List Nat) (i : Nat) {l : List RuleP} {m : List RB} (h : EatsL l m) : decideB rest c i l = decF rest (c.take i).reverse (c.drop i) m:=by
 induction h with
 | nil=>rfl
 | @cons r x l m h1 _ ih =>
  have e : appliesB r c i = (x.f (c.take i).reverse && x.g (c.drop i)):=by
   rw [Bool.eq_iff_iff,applies_iff,Bool.and_eq_true]
   exact and_congr (h1.left _) (h1.right _)
  rw [decideB,decF,e,h1.cut,ih]
theorem Eats.els {r : RuleP} {cut : Bool} {es fs : List El} (hc : r.cut = cut) (hs : r.start = false) (ht : r.stop = false) (h1 : ∀ u,Lang r.left u ↔ elsL es.reverse u) (h2 : ∀ u,Lang r.right u ↔ elsL fs u) (o1 : okE es = true) (o2 : okE fs = true) : Eats r ⟨cut,eat es,eat fs⟩ :=
 ⟨hc,fun a=>by
  rw [hs]
  have:=ahead_els (es:=es.reverse) (by rw [List.reverse_reverse];exact o1) a
  rw [List.reverse_reverse] at this
  exact (Ahead.congr h1 a).trans this,fun b=>by rw [ht];exact (Behind.congr h2 b).trans (behind_els o2 b)⟩
theorem Eats.pat {cut : Bool} {p q : Pat} {es fs : List El} (h1 : elsP p = some es.reverse) (h2 : elsP q = some fs) (o1 : okE es = true) (o2 : okE fs = true) : Eats ⟨cut,false,false,p,q⟩ ⟨cut,eat es,eat fs⟩ :=
 Eats.els rfl rfl rfl (elsP_ok h1) (elsP_ok h2) o1 o2
def boundsX (cut : List Nat→Nat→Bool) (g : Int→Nat) (s : ByteArray) : List Nat :=
 if s.size = 0 then [] else pickG (runesP s) ((List.range (runesP s).length).map fun i=>decide (i = 0) || cut (clsG g (runesP s)) i)++[s.size]
end
section
mutual
def revP : Pat→Pat
 | .node op cs ks=>.node op cs (if op = 2 then (revL ks).reverse else revL ks)
def revL : List Pat→List Pat
 | []=>[]
 | p :: r=>revP p :: revL r
end
mutual
def someB : Pat→Bool
 | .node op cs ks=>if op = 1 then !cs.isEmpty else if op = 2 then someT ks else if op = 3 then someO ks else if op = 5 then someH ks else true
def someT : List Pat→Bool
 | []=>true
 | p :: r=>someB p && someT r
def someO : List Pat→Bool
 | []=>false
 | p :: r=>someB p || someO r
def someH : List Pat→Bool
 | []=>true
 | p :: _=>someB p
end
def emptyB (p : Pat) : Bool:=(endsB p []).contains 0
mutual
def firstsB : Pat→List Nat
 | .node op cs ks=>if op = 0 then [] else if op = 1 then cs else firstsL (decide (op = 2)) ks
def firstsL (t : Bool) : List Pat→List Nat
 | []=>[]
 | p :: r=>(if someB p && (!t || someT r) then firstsB p else [])++(if t && !emptyB p then [] else firstsL t r)
end
def insU (out : List Nat) (x : Nat) : List Nat:=if out[(out.takeWhile fun y=>decide (y < x)).length]? = some x then out else out.take (out.takeWhile fun y=>decide (y < x)).length++x :: out.drop (out.takeWhile fun y=>decide (y < x)).length
def sortU (l : List Nat) : List Nat:=l.foldl insU []
theorem mem_insU {out : List Nat} {x y : Nat} : y ∈ insU out x ↔ y ∈ out∨y = x:=by
 unfold insU
 split
 ·rename_i h
  exact ⟨.inl,fun h'=>h'.elim id fun e=>e ▸ List.mem_of_getElem? h⟩
 ·generalize (out.takeWhile fun y=>decide (y < x)).length = k
  rw [List.mem_append,List.mem_cons]
  conv=>rhs;rw [← List.take_append_drop k out,List.mem_append]
  constructor
  ·rintro (h | h | h)
   ·exact .inl (.inl h)
   ·exact .inr h
   ·exact .inl (.inr h)
  ·rintro ((h | h) | h)
   ·exact .inl h
   ·exact .inr (.inr h)
   ·exact .inr (.inl h)
theorem mem_sort_go : ∀ (l out : List Nat) (y : Nat),y ∈ l.foldl insU out ↔ y ∈ out∨y ∈ l
 | [],out,y=>by simp
 | x :: l,out,y=>by
  rw [List.foldl_cons,mem_sort_go l,mem_insU,List.mem_cons,or_assoc]
theorem mem_sortU {l : List Nat} {y : Nat} : y ∈ sortU l ↔ y ∈ l:=by
 unfold sortU;rw [mem_sort_go];simp
theorem empty_sound {p : Pat} (h : Lang p []) : emptyB p = true:=by
 unfold emptyB
 rw [List.contains_iff_mem,mem_ends]
 exact ⟨Nat.le_refl _,by simpa using h⟩
mutual
theorem some_sound : ∀ (p : Pat) (u : List Nat),Lang p u→someB p = true
 | .node op cs ks,u,h=>by
  unfold Lang at h
  unfold someB
  by_cases h1 : op = 1
  ·rw [if_pos h1]
   simp only [if_pos h1] at h
   obtain ⟨x,_,hx⟩:=h
   cases cs with
   | nil=>cases hx
   | cons=>rfl
  by_cases h2 : op = 2
  ·rw [if_neg h1,if_pos h2]
   simp only [if_neg h1,if_pos h2] at h
   exact someT_sound ks u h
  by_cases h3 : op = 3
  ·rw [if_neg h1,if_neg h2,if_pos h3]
   simp only [if_neg h1,if_neg h2,if_pos h3] at h
   exact someO_sound ks u h
  by_cases h5 : op = 5
  ·rw [if_neg h1,if_neg h2,if_neg h3,if_pos h5]
   simp only [if_neg h1,if_neg h2,if_neg h3,if_neg (show ¬ op = 4 by omega),if_pos h5] at h
   obtain ⟨v,w,_,hv,_⟩:=h
   exact someH_sound ks v hv
  rw [if_neg h1,if_neg h2,if_neg h3,if_neg h5]
theorem someT_sound : ∀ (ks : List Pat) (u : List Nat),LangT ks u→someT ks = true
 | [],_,_=>by unfold someT;rfl
 | p :: r,u,h=>by
  unfold LangT at h
  obtain ⟨v,w,_,hv,hw⟩:=h
  unfold someT
  rw [some_sound p v hv,someT_sound r w hw];rfl
theorem someO_sound : ∀ (ks : List Pat) (u : List Nat),LangO ks u→someO ks = true
 | [],_,h=>by unfold LangO at h;exact h.elim
 | p :: r,u,h=>by
  unfold LangO at h
  unfold someO
  rcases h with h | h
  ·rw [some_sound p u h];rfl
  ·rw [someO_sound r u h,Bool.or_true]
theorem someH_sound : ∀ (ks : List Pat) (u : List Nat),LangH ks u→someH ks = true
 | [],_,_=>by unfold someH;rfl
 | p :: _,u,h=>by
  unfold LangH at h
  unfold someH
  exact some_sound p u h
end
theorem star_cons {L : List Nat→Prop} {x : Nat} {u t : List Nat} (h : Star L t) (e : t = x :: u) : ∃ v,L (x :: v):=by
 induction h with
 | nil=>cases e
 | @app a b h1 _ ih =>
  cases a with
  | nil=>exact ih (by simpa using e)
  | cons y a =>
   rw [List.cons_append] at e
   injection e with e1 _
   subst e1
   exact ⟨a,h1⟩
theorem firsts_or (t : Bool) {p : Pat} {r : List Pat} {x : Nat} (hs : someB p = true) (ht : t = false) (h : x ∈ firstsB p) : x ∈ firstsL t (p :: r):=by
 unfold firstsL
 rw [hs,ht]
 simp [h]
mutual
theorem first_sound : ∀ (p : Pat) (x : Nat) (u : List Nat),Lang p (x :: u)→x ∈ firstsB p
 | .node op cs ks,x,u,h=>by
  unfold Lang at h
  unfold firstsB
  by_cases h1 : op = 1
  ·rw [if_neg (by omega),if_pos h1]
   simp only [if_pos h1] at h
   obtain ⟨y,e,hy⟩:=h
   injection e with e _
   rw [e];exact hy
  by_cases h2 : op = 2
  ·rw [if_neg (by omega),if_neg h1,decide_eq_true h2]
   simp only [if_neg h1,if_pos h2] at h
   exact firstT_sound ks x u h
  have hd : decide (op = 2) = false:=decide_eq_false h2
  by_cases h3 : op = 3
  ·rw [if_neg (by omega),if_neg h1,hd]
   simp only [if_neg h1,if_neg h2,if_pos h3] at h
   exact firstO_sound ks x u h
  by_cases h4 : op = 4
  ·rw [if_neg (by omega),if_neg h1,hd]
   simp only [if_neg h1,if_neg h2,if_neg h3,if_pos h4] at h
   obtain ⟨v,hv⟩:=star_cons h rfl
   exact firstH_sound ks x v hv
  by_cases h5 : op = 5
  ·rw [if_neg (by omega),if_neg h1,hd]
   simp only [if_neg h1,if_neg h2,if_neg h3,if_neg h4,if_pos h5] at h
   obtain ⟨v,w,e,hv,hw⟩:=h
   obtain ⟨z,hz⟩ : ∃ z,LangH ks (x :: z):=by
    cases v with
    | nil=>exact star_cons hw (by simpa using e.symm)
    | cons y v =>
     rw [List.cons_append] at e
     injection e with e1 _
     subst e1
     exact ⟨v,hv⟩
   exact firstH_sound ks x z hz
  by_cases h6 : op = 6
  ·rw [if_neg (by omega),if_neg h1,hd]
   simp only [if_neg h1,if_neg h2,if_neg h3,if_neg h4,if_neg h5,if_pos h6] at h
   rcases h with h | h
   ·cases h
   ·exact firstH_sound ks x u h
  simp only [if_neg h1,if_neg h2,if_neg h3,if_neg h4,if_neg h5,if_neg h6] at h
  cases h
theorem firstT_sound : ∀ (ks : List Pat) (x : Nat) (u : List Nat),LangT ks (x :: u)→x ∈ firstsL true ks
 | [],x,u,h=>by unfold LangT at h;cases h
 | p :: r,x,u,h=>by
  unfold LangT at h
  obtain ⟨v,w,e,hv,hw⟩:=h
  unfold firstsL
  rw [some_sound p v hv,someT_sound r w hw,List.mem_append]
  cases v with
  | nil =>
   right
   rw [empty_sound hv]
   simp only [Bool.not_true,Bool.and_false,Bool.false_eq_true,if_false]
   rw [List.nil_append] at e
   rw [← e] at hw
   exact firstT_sound r x u hw
  | cons y v =>
   left
   rw [List.cons_append] at e
   injection e with e1 _
   subst e1
   simpa using first_sound p x v hv
theorem firstO_sound : ∀ (ks : List Pat) (x : Nat) (u : List Nat),LangO ks (x :: u)→x ∈ firstsL false ks
 | [],x,u,h=>by unfold LangO at h;exact h.elim
 | p :: r,x,u,h=>by
  unfold LangO at h
  rcases h with h | h
  ·exact firsts_or false (some_sound p _ h) rfl (first_sound p x u h)
  ·unfold firstsL
   rw [List.mem_append]
   right
   simpa using firstO_sound r x u h
theorem firstH_sound : ∀ (ks : List Pat) (x : Nat) (u : List Nat),LangH ks (x :: u)→x ∈ firstsL false ks
 | [],x,u,h=>by unfold LangH at h;cases h
 | p :: r,x,u,h=>by
  unfold LangH at h
  exact firsts_or false (some_sound p _ h) rfl (first_sound p x u h)
end
theorem Star.back {L : List Nat→Prop} {u v : List Nat} (h : Star L u) (hv : L v) : Star L (u++v):=by
 induction h with
 | nil=>have:=Star.app hv (.nil);simpa using this
 | app h1 _ ih=>rw [List.append_assoc];exact .app h1 ih
theorem star_turn {L M : List Nat→Prop} (h : ∀ u,M u→L u.reverse) {u : List Nat} (g : Star M u) : Star L u.reverse:=by
 induction g with
 | nil=>exact .nil
 | app h1 _ ih=>rw [List.reverse_append];exact ih.back (h _ h1)
theorem plus_front {L : List Nat→Prop} {u v : List Nat} (h : Star L u) (hv : L v) : ∃ a b,u++v = a++b∧L a∧Star L b:=by
 cases h with
 | nil=>exact ⟨v,[],by simp,hv,.nil⟩
 | @app a b h1 h2=>exact ⟨a,b++v,by rw [List.append_assoc],h1,h2.back hv⟩
theorem langT_app : ∀ (a b : List Pat) (u : List Nat),LangT (a++b) u ↔ ∃ v w,u = v++w∧LangT a v∧LangT b w
 | [],b,u=>by
  constructor
  ·intro h;exact ⟨[],u,rfl,by unfold LangT;rfl,h⟩
  ·rintro ⟨v,w,rfl,h1,h2⟩;unfold LangT at h1;rw [h1];exact h2
 | p :: a,b,u=>by
  rw [List.cons_append]
  constructor
  ·intro h
   unfold LangT at h
   obtain ⟨v,w,rfl,hv,hw⟩:=h
   obtain ⟨x,y,rfl,hx,hy⟩:=(langT_app a b w).1 hw
   exact ⟨v++x,y,by rw [List.append_assoc],by unfold LangT;exact ⟨v,x,rfl,hv,hx⟩,hy⟩
  ·rintro ⟨v,w,rfl,h1,h2⟩
   unfold LangT at h1
   obtain ⟨x,y,rfl,hx,hy⟩:=h1
   unfold LangT
   exact ⟨x,y++w,by rw [List.append_assoc],hx,(langT_app a b _).2 ⟨y,w,rfl,hy,h2⟩⟩
mutual
theorem turn_sound : ∀ (p : Pat) (u : List Nat),Lang p u→Lang (revP p) u.reverse
 | .node op cs ks,u,h=>by
  unfold revP
  unfold Lang at h ⊢
  by_cases h1 : op = 1
  ·simp only [if_pos h1] at h ⊢
   obtain ⟨x,rfl,hx⟩:=h
   exact ⟨x,rfl,hx⟩
  by_cases h2 : op = 2
  ·simp only [if_neg h1,if_pos h2] at h ⊢
   exact turnT_sound ks u h
  by_cases h3 : op = 3
  ·simp only [if_neg h1,if_neg h2,if_pos h3] at h ⊢
   exact turnO_sound ks u h
  by_cases h4 : op = 4
  ·simp only [if_neg h1,if_neg h2,if_neg h3,if_pos h4] at h ⊢
   exact star_turn (fun v hv=>turnH_sound ks v hv) h
  by_cases h5 : op = 5
  ·simp only [if_neg h1,if_neg h2,if_neg h3,if_neg h4,if_pos h5] at h ⊢
   obtain ⟨v,w,rfl,hv,hw⟩:=h
   rw [List.reverse_append]
   exact plus_front (star_turn (fun v hv=>turnH_sound ks v hv) hw) (turnH_sound ks v hv)
  by_cases h6 : op = 6
  ·simp only [if_neg h1,if_neg h2,if_neg h3,if_neg h4,if_neg h5,if_pos h6] at h ⊢
   rcases h with rfl | h
   ·exact .inl rfl
   ·exact .inr (turnH_sound ks u h)
  simp only [if_neg h1,if_neg h2,if_neg h3,if_neg h4,if_neg h5,if_neg h6] at h ⊢
  rw [h];rfl
theorem turnT_sound : ∀ (ks : List Pat) (u : List Nat),LangT ks u→LangT (revL ks).reverse u.reverse
 | [],u,h=>by unfold LangT at h;rw [h];unfold revL;unfold LangT;rfl
 | p :: r,u,h=>by
  unfold LangT at h
  obtain ⟨v,w,rfl,hv,hw⟩:=h
  unfold revL
  rw [List.reverse_cons,List.reverse_append,langT_app]
  exact ⟨w.reverse,v.reverse,rfl,turnT_sound r w hw,by
   unfold LangT
   exact ⟨v.reverse,[],by simp,turn_sound p v hv,by unfold LangT;rfl⟩⟩
theorem turnO_sound : ∀ (ks : List Pat) (u : List Nat),LangO ks u→LangO (revL ks) u.reverse
 | [],u,h=>by unfold LangO at h;exact h.elim
 | p :: r,u,h=>by
  unfold LangO at h
  unfold revL LangO
  rcases h with h | h
  ·exact .inl (turn_sound p u h)
  ·exact .inr (turnO_sound r u h)
theorem turnH_sound : ∀ (ks : List Pat) (u : List Nat),LangH ks u→LangH (revL ks) u.reverse
 | [],u,h=>by unfold LangH at h;rw [h];unfold revL LangH;rfl
 | p :: _,u,h=>by
  unfold LangH at h
  unfold revL LangH
  exact turn_sound p u h
end
structure SideP where
 left : List Nat
 right : List Nat
 noL : Bool
 noR : Bool
def sideP (r : RuleP) : SideP:=⟨sortU (firstsB (revP r.left)),sortU (firstsB r.right),emptyB r.left,emptyB r.right⟩
def mayB (f : SideP) (a b : Nat) : Bool:=(f.noL || f.left.contains a) && (f.noR || f.right.contains b)
theorem may_sound {r : RuleP} {c : List Nat} {i : Nat} (h0 : 0 < i) (hi : i < c.length) (h : appliesB r c i = true) : mayB (sideP r) (c.getD (i - 1) 0) (c.getD i 0) = true:=by
 rw [applies_iff] at h
 obtain ⟨⟨u,v,e,_,hl⟩,⟨u',v',e',_,hr⟩⟩:=h
 unfold mayB sideP
 simp only
 rw [Bool.and_eq_true,Bool.or_eq_true,Bool.or_eq_true,List.contains_iff_mem,List.contains_iff_mem,mem_sortU,mem_sortU]
 constructor
 ·rcases List.eq_nil_or_concat v with rfl | ⟨v1,y,rfl⟩
  ·exact .inl (empty_sound hl)
  ·right
   obtain ⟨k,rfl⟩ : ∃ k,i = k+1:=⟨i - 1,by omega⟩
   rw [List.take_add_one,List.getElem?_eq_getElem (by omega),List.concat_eq_append,← List.append_assoc] at e
   have h2:=(snoc_inj e).2
   have h3:=turn_sound _ _ hl
   rw [List.concat_eq_append,List.reverse_append] at h3
   have h4:=first_sound _ _ _ h3
   rw [Nat.add_sub_cancel,List.getD_eq_getElem?_getD,List.getElem?_eq_getElem (by omega),Option.getD_some,h2]
   exact h4
 ·cases u' with
  | nil=>exact .inl (empty_sound hr)
  | cons y u' =>
   right
   rw [List.drop_eq_getElem_cons hi,List.cons_append] at e'
   injection e' with e1 _
   rw [List.getD_eq_getElem?_getD,List.getElem?_eq_getElem hi,Option.getD_some,e1]
   exact first_sound _ _ _ hr
def decideM (rest : Bool) (c : List Nat) (i : Nat) : List RuleP→Bool
 | []=>rest
 | r :: l=>if mayB (sideP r) (c.getD (i - 1) 0) (c.getD i 0) && appliesB r c i then r.cut else decideM rest c i l
theorem decideM_eq (rest : Bool) {c : List Nat} {i : Nat} (h0 : 0 < i) (hi : i < c.length) : ∀ l,decideM rest c i l = decideB rest c i l
 | []=>rfl
 | r :: l=>by
  rw [decideM,decideB,decideM_eq rest h0 hi l]
  cases ha : appliesB r c i with
  | false=>rw [Bool.and_false]
  | true=>rw [may_sound h0 hi ha];rfl
theorem boundsX_congr {cut cut' : List Nat→Nat→Bool} {g : Int→Nat} {z : Nat} (hg : ∀ r,g r < z) (h : ∀ (c : List Nat) (i : Nat),(∀ x ∈ c,x < z)→0 < i→i < c.length→cut c i = cut' c i) (s : ByteArray) : boundsX cut g s = boundsX cut' g s:=by
 unfold boundsX
 split
 ·rfl
 have hlen:=clsG_len g (runesP s)
 have hcl : ∀ x ∈ clsG g (runesP s),x < z:=fun x hx=>by
  obtain ⟨y,_,rfl⟩:=List.mem_map.1 hx
  exact hg _
 congr 2
 refine List.map_congr_left fun i hi=>?_
 rw [List.mem_range] at hi
 rcases Nat.eq_zero_or_pos i with rfl | h0
 ·rfl
 ·rw [h _ i hcl h0 (by omega)]
def boundsM (rs : List RuleP) (rest : Bool) (g : Int→Nat) (s : ByteArray) : List Nat:=boundsX (fun c i=>decideM rest c i rs) g s
end
section
open Go Go.RowKit
section
variable {P : Program} {Q : Exit→Act→World→Prop} {md : Region.Mode}
def tailQ (N : Act→World→Prop) (Q : Exit→Act→World→Prop) : Exit→Act→World→Prop
 | .normal,a,w=>N a w
 | e,a,w=>Q e a w
theorem wp_tailQ {N : Act→World→Prop} {o : Oper} {a : Act} {w : World} {K : Act→World→Prop} : Oper.wp P o a w K (tailQ N Q) = Oper.wp P o a w K Q:=by
 unfold Oper.wp
 generalize (execOp a.eval o).run P w = r
 cases r with
 | ok n w'=>cases n <;> simp only [Oper.upon] <;> rfl
 | halt x w'=>cases x <;> rfl
theorem lets_tailQ {N : Act→World→Prop} : LetsOut (tailQ N Q) = LetsOut Q:=rfl
def lastSink (md : Region.Mode) (l : List Oper) : Bool :=
 (List.range (l.length - 1)).all fun i=>(List.range l.length).any fun j=>decide (i < j) && ((l[j]?).map fun o=>o.after.any fun e=>Region.binds md e && e.on == i).getD false
def lastDown (md : Region.Mode) (l : List Oper) : Bool :=
 (List.range l.length).all fun j=>((l[j]?).map fun o=>o.guard.isNone && o.after.all fun e=>!Region.binds md e || decide (e.on < j)).getD true
theorem lastSink_spec {l : List Oper} (h : lastSink md l = true) {i : Nat} (hi : i < l.length - 1) : ∃ j o,i < j∧l[j]? = some o∧∃ e ∈ o.after,Region.binds md e = true∧e.on = i:=by
 unfold lastSink at h
 rw [List.all_eq_true] at h
 have h1:=h i (List.mem_range.2 hi)
 rw [List.any_eq_true] at h1
 obtain ⟨j,_,h2⟩:=h1
 rw [Bool.and_eq_true,decide_eq_true_eq] at h2
 obtain ⟨h3,h4⟩:=h2
 cases ho : l[j]? with
 | none=>rw [ho] at h4;cases h4
 | some o =>
  rw [ho] at h4
  simp only [Option.map_some,Option.getD_some,Array.any_eq_true] at h4
  obtain ⟨k,hk,h5⟩:=h4
  simp only [Bool.and_eq_true,beq_iff_eq] at h5
  exact ⟨j,o,h3,ho,_,Array.getElem_mem hk,h5.1,h5.2⟩
theorem lastDown_spec {l : List Oper} (h : lastDown md l = true) {j : Nat} {o : Oper} (hj : l[j]? = some o) : o.guard = none∧∀ e ∈ o.after,Region.binds md e = true→e.on < j:=by
 unfold lastDown at h
 rw [List.all_eq_true] at h
 have h1:=h j (List.mem_range.2 (List.getElem?_eq_some_iff.1 hj).1)
 rw [hj] at h1
 simp only [Option.map_some,Option.getD_some,Bool.and_eq_true,Option.isNone_iff_eq_none] at h1
 refine ⟨h1.1,fun e he hb=>?_⟩
 have h2:=Array.all_eq_true_iff_forall_mem.1 h1.2 e he
 rw [hb] at h2
 simpa using h2
structure SameHead (md : Region.Mode) (l : List Oper) (L L' : Array Bool) : Prop where
 size : L.size = l.length
 size' : L'.size = l.length - 1
 same : ∀ i,i < l.length - 1→∀ d,L.getD i d = L'.getD i d
 inv : ∀ (j : Nat) (o : Oper),l[j]? = some o→L.getD j false = true→∀ e ∈ o.after,Region.binds md e = true→L.getD e.on false = true
 last : L.getD (l.length - 1) false = false
theorem getD_any {L : Array Bool} {i : Nat} (h : i < L.size) (d d' : Bool) : L.getD i d = L.getD i d':=by simp [h]
theorem head_get {l : List Oper} {i : Nat} (h : i < l.length - 1) : (l.dropLast.toArray)[i]? = l[i]?:=by
 rw [zG,List.getElem?_dropLast,if_pos h]
theorem SameHead.ready {l : List Oper} {L L' : Array Bool} (h : SameHead md l L L') (hd : lastDown md l = true) {i : Nat} (hi : i < l.length - 1) : i ∈ Region.ready md l.toArray L ↔ i ∈ Region.ready md l.dropLast.toArray L':=by
 rw [mem_ready,mem_ready,head_get hi,zG,h.same i hi]
 constructor
 ·rintro ⟨h0,o,ho,h1⟩
  exact ⟨h0,o,ho,fun e he hb=>by rw [← h.same e.on (by have:=(lastDown_spec hd ho).2 e he hb;omega)];exact h1 e he hb⟩
 ·rintro ⟨h0,o,ho,h1⟩
  exact ⟨h0,o,ho,fun e he hb=>by rw [h.same e.on (by have:=(lastDown_spec hd ho).2 e he hb;omega)];exact h1 e he hb⟩
theorem SameHead.all {l : List Oper} {L L' : Array Bool} (h : SameHead md l L L') (hs : lastSink md l = true) (hr : l.length - 1 ∈ Region.ready md l.toArray L) : ∀ (k i : Nat),i < l.length - 1→l.length - 1≤i+k→L.getD i false = true
 | 0,i,hi,hk=>by omega
 | k+1,i,hi,hk=>by
  obtain ⟨j,o,hij,ho,e,he,hb,rfl⟩:=lastSink_spec hs hi
  have hjl:=(List.getElem?_eq_some_iff.1 ho).1
  by_cases hj : j = l.length - 1
  ·obtain ⟨_,o',ho',hall⟩:=mem_ready.1 hr
   rw [zG,← hj,ho] at ho'
   injection ho' with ho';subst ho'
   exact hall e he hb
  ·exact h.inv j o ho (h.all hs hr k j (by omega) (by omega)) e he hb
theorem SameHead.some_ready {l : List Oper} {L L' : Array Bool} (h : SameHead md l L L') (hd : lastDown md l = true) (hn : 0 < l.length) : Region.ready md l.toArray L ≠ []:=fun h0=>by
 have key : ∀ k,k < l.length→L.getD k false = true:=by
  intro k
  induction k using Nat.strongRecOn with
  | ind k ih =>
   intro hk
   cases hq : L.getD k false with
   | true=>rfl
   | false =>
    obtain ⟨o,ho⟩ : ∃ o,l[k]? = some o:=⟨_,List.getElem?_eq_getElem hk⟩
    have : k ∈ Region.ready md l.toArray L:=mem_ready.2 ⟨by rw [getD_any (by rw [h.size];exact hk) true false];exact hq,o,by rw [zG];exact ho,fun e he hb=>by
     have:=(lastDown_spec hd ho).2 e he hb
     exact ih e.on this (by omega)⟩
    rw [h0] at this;cases this
 have:=key (l.length - 1) (by omega)
 rw [h.last] at this;cases this
theorem SameHead.step {l : List Oper} {L L' : Array Bool} (h : SameHead md l L L') {i : Nat} (hi : i < l.length - 1) (hr : i ∈ Region.ready md l.toArray L) : SameHead md l (L.setIfInBounds i true) (L'.setIfInBounds i true):=by
 refine ⟨by simpa using h.size,by simpa using h.size',fun k hk d=>?_,fun j o ho hj e he hb=>?_,by rw [getD_set_ne false (by omega)];exact h.last⟩
 ·by_cases e : i = k
  ·subst e;simp [h.size,h.size',hk,show i < l.length by omega]
  ·rw [getD_set_ne d e,getD_set_ne d e];exact h.same k hk d
 ·by_cases e1 : i = j
  ·subst e1
   obtain ⟨_,o',ho',hall⟩:=mem_ready.1 hr
   rw [zG,ho] at ho'
   injection ho' with ho';subst ho'
   exact getD_set_true (hall e he hb)
  ·rw [getD_set_ne false e1] at hj
   exact getD_set_true (h.inv j o ho hj e he hb)
theorem wpOp_head {l : List Oper} (hd : lastDown md l = true) {N : Act→World→Prop} {i : Nat} (hi : i < l.length - 1) {K K' : Act→World→Prop} {a : Act} {w : World} (hK : ∀ a w,K a w→K' a w)
  (h : wpOp P l.dropLast.toArray (tailQ N Q) i K a w) : wpOp P l.toArray Q i K' a w:=by
 refine wpOp_mono hK ?_
 obtain ⟨o,ho⟩ : ∃ o,l[i]? = some o:=⟨_,List.getElem?_eq_getElem (by omega)⟩
 have hg:=(lastDown_spec hd ho).1
 unfold wpOp at h ⊢
 simp only [head_get hi,zG,ho,Region.wanted,hg,if_true,wp_tailQ,lets_tailQ] at h ⊢
 exact h
theorem last_step {l : List Oper} {L L' : Array Bool} (h : SameHead md l L L') (hs : lastSink md l = true) (hr : l.length - 1 ∈ Region.ready md l.toArray L) (hn : 0 < l.length) {fuel : Nat} {a : Act} {w : World}
  (H : wpOp P l.toArray Q (l.length - 1) (Q .normal) a w) : wpOp P l.toArray Q (l.length - 1) (wpAny P md l.toArray Q fuel (L.setIfInBounds (l.length - 1) true)) a w:=by
 have h0 : Region.ready md l.toArray (L.setIfInBounds (l.length - 1) true) = []:=by
  refine List.eq_nil_iff_forall_not_mem.2 fun j hj=>?_
  obtain ⟨h1,o,ho,_⟩:=mem_ready.1 hj
  have hjl : j < l.length:=by rw [zG] at ho;exact (List.getElem?_eq_some_iff.1 ho).1
  by_cases e : l.length - 1 = j
  ·subst e;simp [h.size,hjl] at h1
  ·rw [getD_set_ne true e,getD_any (by rw [h.size];exact hjl) true false,h.all hs hr (l.length - 1) j (by omega) (by omega)] at h1
   cases h1
 refine wpOp_mono (fun a w hq=>?_) H
 cases fuel with
 | zero=>exact ⟨h0,hq⟩
 | succ k=>exact ⟨fun _=>hq,by rw [h0];simp⟩
theorem wpAny_last {l : List Oper} (hs : lastSink md l = true) (hd : lastDown md l = true) (hn : 0 < l.length) :
  ∀ (fuel : Nat) (L L' : Array Bool) (a : Act) (w : World),SameHead md l L L' →
   wpAny P md l.dropLast.toArray (tailQ (wpOp P l.toArray Q (l.length - 1) (Q .normal)) Q) fuel L' a w→wpAny P md l.toArray Q (fuel+1) L a w:=by
 intro fuel
 induction fuel with
 | zero =>
  intro L L' a w hS H
  refine ⟨fun h0=>absurd h0 (hS.some_ready hd hn),fun i hi=>?_⟩
  obtain ⟨_,o,ho,_⟩:=mem_ready.1 hi
  have hil : i < l.length:=by rw [zG] at ho;exact (List.getElem?_eq_some_iff.1 ho).1
  by_cases e : i < l.length - 1
  ·have:=(hS.ready hd e).1 hi
   rw [H.1] at this;cases this
  ·obtain rfl : i = l.length - 1:=by omega
   exact last_step hS hs hi hn H.2
 | succ fuel ih =>
  intro L L' a w hS H
  refine ⟨fun h0=>absurd h0 (hS.some_ready hd hn),fun i hi=>?_⟩
  obtain ⟨_,o,ho,_⟩:=mem_ready.1 hi
  have hil : i < l.length:=by rw [zG] at ho;exact (List.getElem?_eq_some_iff.1 ho).1
  by_cases e : i < l.length - 1
  ·exact wpOp_head hd e (fun a w h=>ih _ _ a w (hS.step e hi) h) (H.2 i ((hS.ready hd e).1 hi))
  ·obtain rfl : i = l.length - 1:=by omega
   refine last_step hS hs hi hn (H.1 (List.eq_nil_iff_forall_not_mem.2 fun j hj=>?_))
   obtain ⟨h1,o,ho,_⟩:=mem_ready.1 hj
   have hjl : j < l.length - 1:=by rw [zG] at ho;have:=(List.getElem?_eq_some_iff.1 ho).1;rwa [List.length_dropLast] at this
   rw [← hS.same j hjl true,getD_any (by rw [hS.size];omega) true false,hS.all hs hi (l.length - 1) j hjl (by omega)] at h1
   cases h1
theorem tailQ_end {N : Act→World→Prop} {a : Act} {w : World} (h : N a w) : tailQ N Q .normal a w:=h
theorem wp_region_last {id : Nat} {l : List Oper} {a : Act} {w : World} {S : World→Prop} (n : Nat) (hn : l.length = n+1) (hm : P.follows .mixedOrders = true) (hs : lastSink .any l = true) (hd : lastDown .any l = true) (hS : S w.drew)
  (h : S w.drew→wpAnyH P .any l.dropLast.toArray (tailQ (wpOp P l.toArray Q n (Q .normal)) Q) S n (Array.replicate n false) a w.drew) : (Code.region id l.toArray true).wp P Q a w:=by
 obtain rfl : n = l.length - 1:=by omega
 have hH : SameHead .any l (Array.replicate l.length false) (Array.replicate (l.length - 1) false):=by
  refine ⟨by simp,by simp,fun i hi d=>?_,fun j o ho hj=>?_,?_⟩
  ·simp [hi,show i < l.length by omega]
  ·have hl:=(List.getElem?_eq_some_iff.1 ho).1
   simp [hl] at hj
  ·simp [show l.length - 1 < l.length by omega]
 have:=wpAny_last (Q:=Q) hs hd (by omega) (l.length - 1) _ _ a w.drew hH (wpAny_of_held _ _ _ _ (h hS))
 rw [show l.length - 1+1 = l.toArray.size by simp;omega] at this
 refine wp_region_any hm ?_
 rw [show Array.replicate l.toArray.size false = Array.replicate l.length false by simp]
 exact this
end
end
section
theorem runeAt_app : ∀ (p l : List UInt8) (a : Nat),runeAt (bytesOf (p++l)) (p.length+a) = runeAt (bytesOf l) a
 | [],l,a=>by rw [List.nil_append,List.length_nil,Nat.zero_add]
 | c :: p,l,a=>by rw [List.cons_append,List.length_cons,show p.length+1+a = (p.length+a)+1 by omega,runeAt_sh];exact runeAt_app p l a
theorem runeAt_drop (s : ByteArray) (a b : Nat) (h : a≤s.size) : runeAt s (a+b) = runeAt (bytesOf (s.data.toList.drop a)) b:=by
 have h1:=runeAt_app (s.data.toList.take a) (s.data.toList.drop a) b
 rw [List.take_append_drop,bytesOf_data,List.length_take,size_data,Nat.min_eq_left h] at h1
 exact h1
theorem quoted_qt (s : ByteArray) (a : Nat) (h : a≤s.size) : match qtL (s.data.toList.drop a) with
  | some k=>(quotedP s a).2.2 = true∧(quotedP s a).2.1+2 = k
  | none=>(quotedP s a).2.2 = false:=by
 unfold quotedP
 cases hd : s.data.toList.drop a with
 | nil =>
  have : (rest s a).head? = none:=by unfold rest;rw [hd];rfl
  rw [if_neg (by rw [this];simp)];rfl
 | cons c r =>
  have h1:=runeAt_drop s a 1 h
  rw [hd] at h1
  rw [qtS_cons,← h1]
  have h2 : (rest s a).head? = some c:=by unfold rest;rw [hd];rfl
  have h3 : (rest s (a+1+(runeAt s (a+1)).2)).head? = r[(runeAt s (a+1)).2]?:=by
   unfold rest
   rw [Nat.add_assoc,← List.drop_drop,hd,Nat.add_comm 1,List.drop_succ_cons,List.head?_drop]
  rw [h2,h3]
  by_cases hc : c = 39∧(runeAt s (a+1)).2 ≠ 0∧r[(runeAt s (a+1)).2]? = some 39
  ·rw [if_pos hc,if_pos ⟨by rw [hc.1],hc.2⟩]
   exact ⟨rfl,rfl⟩
  ·rw [if_neg hc,if_neg (fun k=>hc ⟨by injection k.1,k.2⟩)]
def cutD (l : List UInt8) (i : Nat) (semi : Option Nat) : Nat × Option Nat:=cutGo l.length l i semi
theorem cutD_fuel {f : Nat} {l : List UInt8} (i : Nat) (semi : Option Nat) (h : l.length≤f) : cutGo f l i semi = cutD l i semi:=by
 unfold cutD
 rw [cutGo_eq f l i semi h,cutGo_eq l.length l i semi (Nat.le_refl _)]
def CutAt (L : List UInt8) (i : Nat) (semi : Option Nat) : Prop:=i≤L.length∧cutD (L.drop i) i semi = cutD L 0 none∧∀ k,semi = some k→k≤i
theorem cutAt_first (L : List UInt8) : CutAt L 0 none:=⟨by omega,by rw [List.drop_zero],fun k h=>by cases h⟩
theorem cutAt_qt {L : List UInt8} {i k : Nat} {semi : Option Nat} (h : CutAt L i semi) (hq : qtL (L.drop i) = some k) : CutAt L (i+k) semi:=by
 have hk:=qtL_some hq
 rw [List.length_drop] at hk
 refine ⟨by omega,?_,fun j hj=>by have:=h.2.2 j hj;omega⟩
 rw [← h.2.1]
 cases hd : L.drop i with
 | nil=>rw [hd] at hq;cases hq
 | cons x r =>
  rw [hd] at hq
  unfold cutD
  rw [List.length_cons,cutGo]
  simp only [hq]
  have h2 : (x :: r).drop k = L.drop (i+k):=by rw [← hd,List.drop_drop]
  rw [h2]
  have h3 : (L.drop (i+k)).length≤r.length:=by
   have : (L.drop i).length = r.length+1:=by rw [hd];rfl
   rw [List.length_drop] at this ⊢;omega
  rw [cutD_fuel (i+k) semi h3];rfl
section
variable {L : List UInt8} {i : Nat} {semi : Option Nat} {x : UInt8} (h : CutAt L i semi) (hx : L[i]? = some x) (hq : qtL (L.drop i) = none)
include h hx hq
theorem cutAt_step : cutD L 0 none = if x = 35 then (i,semi) else if x = 59∧semi = none then cutD (L.drop (i+1)) (i+1) (some i) else cutD (L.drop (i+1)) (i+1) semi:=by
 rw [← h.2.1,drop_at hx]
 rw [drop_at hx] at hq
 unfold cutD
 rw [List.length_cons,cutGo]
 simp only [hq]
theorem cutAt_hash (he : x = 35) : cutD L 0 none = (i,semi):=by rw [cutAt_step h hx hq,if_pos he]
theorem cutAt_semi (he : x = 59) (hs : semi = none) : CutAt L (i+1) (some i) :=
 ⟨(List.getElem?_eq_some_iff.1 hx).1,by rw [cutAt_step h hx hq,if_neg (by rw [he];decide),if_pos ⟨he,hs⟩],fun k hk=>by injection hk with hk;omega⟩
theorem cutAt_go (he : x ≠ 35) (hs : ¬ (x = 59∧semi = none)) : CutAt L (i+1) semi :=
 ⟨(List.getElem?_eq_some_iff.1 hx).1,by rw [cutAt_step h hx hq,if_neg he,if_neg hs],fun k hk=>by have:=h.2.2 k hk;omega⟩
end
theorem cutAt_end {L : List UInt8} {i : Nat} {semi : Option Nat} (h : CutAt L i semi) (hi : ¬ i < L.length) : cutD L 0 none = (L.length,semi):=by
 rw [← h.2.1,List.drop_of_length_le (by omega)]
 have : i = L.length:=by have:=h.1;omega
 rw [← this];rfl
theorem cutD_is (L : List UInt8) : cutD L 0 none = (hashP L,findP 59 (L.take (hashP L))):=by
 unfold cutD
 rw [cutGo_eq L.length L 0 none (Nat.le_refl _),Nat.zero_add]
 congr 1
 cases findP 59 (L.take (hashP L)) <;> rfl
theorem ext_bytes (l : List UInt8) (a : Nat) : (bytesOf l).extract a (bytesOf l).size = bytesOf (l.drop a):=by
 apply ByteArray.ext;apply Array.toList_inj.1
 rw [rest_extract,bytesOf_list];unfold rest;rw [bytesOf_list]
theorem ext_bytes0 (l : List UInt8) (a : Nat) : (bytesOf l).extract 0 a = bytesOf (l.take a):=by
 apply ByteArray.ext;apply Array.toList_inj.1
 rw [Lib.extract_data,bytesOf_list,bytesOf_list];simp
theorem ext_bytes2 (l : List UInt8) (a b : Nat) : (bytesOf l).extract a b = bytesOf ((l.drop a).take (b - a)):=by
 apply ByteArray.ext;apply Array.toList_inj.1
 rw [Lib.extract_data,bytesOf_list,bytesOf_list]
theorem trim_last {l : List UInt8} {c : UInt8} (hl : l.getLast? = some c) : (blkB c = true→trimR l = trimR (l.take (l.length - 1)))∧(blkB c = false→trimR l = l):=by
 have hs : l = l.dropLast++[c]:=by
  rcases List.eq_nil_or_concat l with rfl | ⟨o,y,rfl⟩
  ·cases hl
  ·simp at hl;subst hl;simp
 have hd : l.take (l.length - 1) = l.dropLast:=by rw [List.dropLast_eq_take]
 rw [hd]
 constructor
 ·intro h
  conv=>lhs;rw [hs]
  exact trimR_app (by intro d hd;simp at hd;subst hd;exact h)
 ·intro h
  unfold trimR
  rw [hs,List.reverse_append]
  rw [show [c].reverse++l.dropLast.reverse = c :: l.dropLast.reverse from rfl,dropWhile_stop h]
  simp
theorem drop_blank {c : UInt8} {r : List UInt8} (h : blkB c = true) : (c :: r).dropWhile blkB = r.dropWhile blkB:=by rw [List.dropWhile_cons,if_pos h]
end
section
open Go.RowKit
end
section
open Go.RowKit
end
section
open Go.RowKit
end
section
open Go.RowKit
end
section
open Go.RowKit
end
section
open Go.RowKit
end
section
open Go.RowKit
end
section
open Go.RowKit
end
section
open Go.RowKit Go.Maps
end
section
def offB (x y : Int × Int × Nat) : Bool:=decide (x.2.1 < y.1) || decide (y.2.1 < x.1)
def offAll : List (Int × Int × Nat)→Bool
 | []=>true
 | x :: r=>r.all (offB x) && offAll r
theorem offAll_spec : ∀ {l : List (Int × Int × Nat)},offAll l = true→l.Pairwise Off
 | [],_=>.nil
 | x :: r,h=>by
  simp only [offAll,Bool.and_eq_true,List.all_eq_true] at h
  refine .cons (fun y hy=>?_) (offAll_spec h.2)
  have:=h.1 y hy
  simpa [offB,Off] using this
theorem entG_apart : ∀ {S : List (List (Int × Int))} {c : Nat},(entG c S).Pairwise Off→Apart S
 | [],c,_=>fun i j a b hi=>by simp at hi
 | s :: S,c,h=>by
  unfold entG at h
  rw [List.pairwise_append] at h
  have ih:=entG_apart h.2.1
  have hx : ∀ (j : Nat) (b : List (Int × Int)),S[j]? = some b→∀ r,memR s r→memR b r→False:=fun j b hb r ⟨x,hx,h1,h2⟩ ⟨y,hy,h3,h4⟩=>by
   have:=h.2.2 (x.1,x.2,c) (List.mem_map.2 ⟨x,hx,rfl⟩) (y.1,y.2,c+1+j) (mem_entG.2 ⟨j,b,hb,hy,rfl⟩)
   unfold Off at this;simp only at this;omega
  intro i j a b hi hj hij r ha hb
  cases i with
  | zero =>
   cases j with
   | zero=>omega
   | succ j=>simp at hi hj;subst hi;exact hx j b hj r ha hb
  | succ i =>
   cases j with
   | zero=>simp at hi hj;subst hj;exact hx i a hi r hb ha
   | succ j=>exact ih i j a b (by simpa using hi) (by simpa using hj) (by omega) r ha hb
def nfB : List (Int × Int)→Bool
 | []=>true
 | x :: r=>decide (0≤x.1) && decide (x.1≤x.2) && decide (x.2≤1114111) && r.all (fun y=>decide (x.2+1 < y.1)) && nfB r
theorem nfB_spec : ∀ {l : List (Int × Int)},nfB l = true→NF l
 | [],_=>⟨trivial,by simp⟩
 | x :: r,h=>by
  simp only [nfB,Bool.and_eq_true,List.all_eq_true,decide_eq_true_eq] at h
  obtain ⟨⟨⟨⟨h1,h2⟩,h3⟩,h4⟩,h5⟩:=h
  have ih:=nfB_spec h5
  refine ⟨⟨h2,h4,ih.1⟩,fun y hy=>?_⟩
  rcases List.mem_cons.1 hy with rfl | hy
  ·exact ⟨h1,h3⟩
  ·exact ih.2 y hy
def nodB : List (List UInt8)→Bool
 | []=>true
 | x :: r=>r.all (fun y=>!(y == x)) && nodB r
theorem nodB_spec : ∀ {l : List (List UInt8)},nodB l = true→l.Nodup
 | [],_=>.nil
 | x :: r,h=>by
  simp only [nodB,Bool.and_eq_true,List.all_eq_true] at h
  refine List.nodup_cons.2 ⟨fun hx=>?_,nodB_spec h.2⟩
  have:=h.1 x hx
  simp at this
def DbP.okB (d : DbP) : Bool :=
 decide (d.sets.length = d.names.length) && d.sets.all nfB && nodB d.names && decide (d.names.head? = some otherL) && decide (d.sets.head? = some []) && decide (d.names.length≤64) && offAll (entG 0 d.sets) && d.names.all nameL
theorem DbP.okB_spec {d : DbP} (h : d.okB = true) : d.Ok∧Apart d.sets∧d.Named:=by
 simp only [DbP.okB,Bool.and_eq_true,List.all_eq_true,decide_eq_true_eq] at h
 obtain ⟨⟨⟨⟨⟨⟨⟨h1,h2⟩,h3⟩,h4⟩,h5⟩,h6⟩,h7⟩,h8⟩:=h
 exact ⟨⟨h1,fun l hl=>nfB_spec (h2 l hl),nodB_spec h3,h4,h5,h6⟩,entG_apart (offAll_spec h7),h8⟩
end
section
open Go.RowKit Go.Maps
end
section
open Go.RowKit Go.Maps
theorem blk_true {c : UInt8} (h : (c.toNat : Int) = 32∨(c.toNat : Int) = 9) : blkB c = true:=by
 have h1 : c = 32 ↔ c.toNat = 32:=u8_eq (n:=32) (by omega)
 have h2 : c = 9 ↔ c.toNat = 9:=u8_eq (n:=9) (by omega)
 simp only [blkB,Bool.or_eq_true,beq_iff_eq,h1,h2];omega
theorem blk_false {c : UInt8} (h : ¬ ((c.toNat : Int) = 32∨(c.toNat : Int) = 9)) : blkB c = false:=by
 cases hb : blkB c with
 | false=>rfl
 | true =>
  have h1 : c = 32 ↔ c.toNat = 32:=u8_eq (n:=32) (by omega)
  have h2 : c = 9 ↔ c.toNat = 9:=u8_eq (n:=9) (by omega)
  refine absurd ?_ h
  simp only [blkB,Bool.or_eq_true,beq_iff_eq,h1,h2] at hb;omega
theorem vblank_any (c : UInt8) (w : World) : Calls Tryz.prog 279 #[.int .u8 (c.toNat : Int)] w fun e w'=>e = .returned (.bool (blkB c))∧w = w':=by
 have HT:=Lib.hid (@blk_true c)
 have HF:=Lib.hid (@blk_false c)
 generalize (c.toNat : Int) = z at HT HF
 rcases (by omega : z = 32∨z = 9∨(z ≠ 32∧z ≠ 9)) with h | h | ⟨h,h'⟩
 ·have HV:=Lib.hid (HT.out (.inl h))
  subst h
  go_enter Tryz.func279,Tryz.ntmps279
  go_wp2
  go_ret
  exact ⟨by rw [HV.out];rfl,rfl⟩
 ·have HV:=Lib.hid (HT.out (.inr h))
  subst h
  go_enter Tryz.func279,Tryz.ntmps279
  go_wp2
  go_ret
  exact ⟨by rw [HV.out];rfl,rfl⟩
 ·have HV:=Lib.hid (HF.out (by omega))
  have h1 : (z == 32) = false:=beq_eq_false_iff_ne.2 h
  have h2 : (z == 9) = false:=beq_eq_false_iff_ne.2 h'
  go_enter Tryz.func279,Tryz.ntmps279
  go_wp2
  go_ret
  exact ⟨by rw [HV.out];rfl,rfl⟩
def strSize : Value→Nat
 | .string s=>s.size
 | _=>0
theorem vtrim_any (L : List UInt8) (w : World) (hL : L.length≤1000000) : Calls Tryz.prog 230 #[.string (bytesOf L)] w fun e w'=>e = .returned (.string (bytesOf (trimL L)))∧w = w':=by
 have HTE:=Lib.hid (trimL_eq L)
 go_enter Tryz.func230,Tryz.ntmps230
 go_wp2
 go_loopw [0] (fun v wr=>∃ l : List UInt8,v = .string (bytesOf l)∧l.length≤L.length∧Hid (l.dropWhile blkB = L.dropWhile blkB)∧wr = w) (fun v _=>strSize v)
 case atStart=>exact ⟨L,rfl,by omega,rfl,rfl⟩
 case round =>
  obtain ⟨l,rfl,hl,HD,rfl⟩:=hrel
  have hsz : (bytesOf l).size = l.length:=bytesOf_size l
  by_cases hb : ∃ c r,l = c :: r∧blkB c = true
  ·obtain ⟨c,r,rfl,hc⟩:=hb
   have h0 : 0 < (bytesOf (c :: r)).size:=by rw [hsz];simp
   have hix:=index_at (bytesOf (c :: r)) 0 0 rfl h0
   have hg : (bytesOf (c :: r))[0]'h0 = c:=by have:=get_list h0;rw [bytesOf_list] at this;simpa using this.symm
   rw [hg] at hix
   have hgi : (((bytesOf (c :: r))[0]'h0).toNat : Int) = (c.toNat : Int):=by rw [hg]
   have HX:=Lib.hid (ext_bytes (c :: r) 1)
   rw [hsz] at HX
   have hl2 : (r.length : Int)+1≤1000000:=by simp at hl;omega
   clear hg
   go_wp2_with (go_at_call 279;refine (vblank_any c _).mono ?_;rw [hc];rintro e w' ⟨rfl,rfl⟩)
   go_roundw
   case rel=>exact ⟨r,by first | exact congrArg Value.string HX.out | (rw [← ext_bytes (c :: r) 1];rfl),by simp at hl;omega,Lib.hid (by rw [← HD.out,drop_blank hc]),by first | rfl | trivial⟩
   case measure=>simp only [strSize,ByteArray.size_extract,bytesOf_size,List.length_cons];omega
  ·have HLD : Hid (l = L.dropWhile blkB):=Lib.hid (by
    rw [← HD.out]
    cases l with
    | nil=>rfl
    | cons c r =>
     have : blkB c = false:=by
      cases hq : blkB c with
      | false=>rfl
      | true=>exact absurd ⟨c,r,rfl,hq⟩ hb
     exact (dropWhile_stop this).symm)
   have HTR : Hid (trimL L = trimR l):=Lib.hid (by rw [HTE.out,HLD.out])
   have hstop : l = []∨∃ c r,l = c :: r∧blkB c = false:=by
    cases l with
    | nil=>exact .inl rfl
    | cons c r =>
     refine .inr ⟨c,r,rfl,?_⟩
     cases hq : blkB c with
     | false=>rfl
     | true=>exact absurd ⟨c,r,rfl,hq⟩ hb
   clear hb HD HLD
   rcases hstop with rfl | ⟨c,r,rfl,hc⟩
   ·have HT0 : Hid (trimL L = []):=Lib.hid (by rw [HTR.out];rfl)
    have hz0 : (bytesOf []).size = 0:=rfl
    go_wp2_with fail
    go_loopw [0] (fun v wq=>v = .string (bytesOf [])∧wq = wr) (fun _ _=>0)
    case atStart=>exact ⟨rfl,rfl⟩
    case round =>
     obtain ⟨rfl,rfl⟩:=hrel
     go_wp2
     go_ret
     exact ⟨by rw [HT0.out];rfl,rfl⟩
   ·have h0 : 0 < (bytesOf (c :: r)).size:=by rw [hsz];simp
    have hix:=index_at (bytesOf (c :: r)) 0 0 rfl h0
    have hg : (bytesOf (c :: r))[0]'h0 = c:=by have:=get_list h0;rw [bytesOf_list] at this;simpa using this.symm
    rw [hg] at hix
    have hgi : (((bytesOf (c :: r))[0]'h0).toNat : Int) = (c.toNat : Int):=by rw [hg]
    clear hg
    go_wp2_with (go_at_call 279;refine (vblank_any c _).mono ?_;rw [hc];rintro e w' ⟨rfl,rfl⟩)
    go_loopw [0] (fun v wq=>∃ l : List UInt8,v = .string (bytesOf l)∧l.length≤L.length∧Hid (trimR l = trimL L)∧wq = wr) (fun v _=>strSize v)
    case atStart=>exact ⟨c :: r,rfl,hl,Lib.hid HTR.out.symm,rfl⟩
    case round =>
     clear hix hgi h0
     obtain ⟨l,rfl,hl2,HD,rfl⟩:=hrel
     have hsz2 : (bytesOf l).size = l.length:=bytesOf_size l
     rcases List.eq_nil_or_concat l with rfl | ⟨o,y,rfl⟩
     ·have HT0 : Hid (trimL L = []):=Lib.hid (by rw [← HD.out];rfl)
      have hz0 : (bytesOf []).size = 0:=rfl
      go_wp2
      go_ret
      exact ⟨by rw [HT0.out];rfl,rfl⟩
     ·rw [List.concat_eq_append] at *
      have hlast : (o++[y]).getLast? = some y:=by simp
      have hol : (o++[y]).length = o.length+1:=by simp
      rw [hol] at hsz2 hl2
      have hp : o.length < (bytesOf (o++[y])).size:=by omega
      have hix:=index_at (bytesOf (o++[y])) ((o.length : Int)+1 - 1) o.length (by omega) hp
      have hix2:=index_at (bytesOf (o++[y])) (o.length : Int) o.length rfl hp
      have hg : (bytesOf (o++[y]))[o.length]'hp = y:=by have:=get_list hp;rw [bytesOf_list] at this;simpa using this.symm
      rw [hg] at hix hix2
      have hgi : (((bytesOf (o++[y]))[o.length]'hp).toNat : Int) = (y.toNat : Int):=by rw [hg]
      clear hg
      cases hy : blkB y with
      | true =>
       have HX : Hid ((bytesOf (o++[y])).extract 0 o.length = bytesOf o):=Lib.hid (by rw [ext_bytes0];simp)
       have HD' : Hid (trimR o = trimL L):=Lib.hid (by rw [← HD.out,(trim_last hlast).1 hy,hol,Nat.add_sub_cancel];simp)
       go_wp2_with (go_at_call 279;refine (vblank_any y _).mono ?_;rw [hy];rintro e w' ⟨rfl,rfl⟩)
       go_roundw
       case rel=>exact ⟨o,congrArg Value.string HX.out,by omega,HD',by first | rfl | trivial⟩
       case measure=>simp only [strSize,ByteArray.size_extract,bytesOf_size,List.length_append,List.length_singleton];omega
      | false =>
       have HD' : Hid (trimL L = o++[y]):=Lib.hid (by rw [← HD.out,(trim_last hlast).2 hy])
       go_wp2_with (go_at_call 279;refine (vblank_any y _).mono ?_;rw [hy];rintro e w' ⟨rfl,rfl⟩)
       go_ret
       exact ⟨by rw [HD'.out];rfl,rfl⟩
end
section
open Go.RowKit Go.Maps
theorem Rd.atS {w : World} {A : Option Addr} {l : List (List UInt8)} {k : Nat} {x : List UInt8} (h : Rd w 1 A (l.map encNm)) (hk : l[k]? = some x) : ∃ b off,A = some ⟨b,off,none⟩∧w.cell? ⟨b,off+k,none⟩ = some (.string (bytesOf x)):=by
 obtain ⟨b,off,rfl,hc⟩:=h (by intro e;cases l with | nil=>simp at hk | cons _ _=>simp at e)
 have h0:=hc k 0 (encNm x) (.string (bytesOf x)) (by simp [hk]) rfl
 exact ⟨b,off,rfl,by simpa using h0⟩
end
section
open Go.RowKit Go.Maps
structure RfX (w : World) (base p x : Nat) (An : Option Addr) (nn cn : Nat) (As : Option Addr) (ns cs : Nat) (xs : List (Option Addr × Nat × Nat)) (N : List (List UInt8)) (S : List (List (Int × Int))) : Prop where
 blk : Blk w p 194 #[.slice An nn cn,.slice As ns cs]
 pb : base≤p
 hn : Own w base 9 1 An nn cn (N.map encNm)
 hs : Own w base 218 1 As ns cs (xs.map encSl)
 hx : Sets w base xs S
 xp : x ≠ p
 xn : ∀ a,An = some a→a.block ≠ x
 xs_ : ∀ a,As = some a→a.block ≠ x
structure RfB (w : World) (base p x : Nat) (N : List (List UInt8)) (S : List (List (Int × Int))) : Prop where
 ex : ∃ (An : Option Addr) (nn cn : Nat) (As : Option Addr) (ns cs : Nat) (xs : List (Option Addr × Nat × Nat)),RfX w base p x An nn cn As ns cs xs N S
section
variable {w w' : World} {base p x : Nat} {An : Option Addr} {nn cn : Nat} {As : Option Addr} {ns cs : Nat} {xs : List (Option Addr × Nat × Nat)} {N : List (List UInt8)} {S : List (List (Int × Int))}
theorem RfX.below (h : RfX w base p x An nn cn As ns cs xs N S) (hb : Below w.heap.size w w') : RfX w' base p x An nn cn As ns cs xs N S:=⟨h.blk.below hb,h.pb,h.hn.below hb,h.hs.below hb,h.hx.below hb,h.xp,h.xn,h.xs_⟩
theorem RfB.below (h : RfB w base p x N S) (hb : Below w.heap.size w w') : RfB w' base p x N S:=by
 obtain ⟨a1,a2,a3,a4,a5,a6,a7,h⟩:=h.ex
 exact ⟨a1,a2,a3,a4,a5,a6,a7,h.below hb⟩
theorem RfX.lenN (h : RfX w base p x An nn cn As ns cs xs N S) : N.length = nn:=by simpa using h.hn.len
theorem RfX.lenS (h : RfX w base p x An nn cn As ns cs xs N S) : xs.length = ns∧S.length = ns:=by
 have:=h.hs.len;rw [List.length_map] at this
 exact ⟨this,by rw [← h.hx.len];exact this⟩
theorem types_rf : (9 : TypeId) ≠ 218∧(9 : TypeId) ≠ 194∧(218 : TypeId) ≠ 194∧(9 : TypeId) ≠ 248∧(218 : TypeId) ≠ 248∧(194 : TypeId) ≠ 248:=by decide
theorem RfX.named {w3 : World} {o : Obj} {n : List UInt8} {A3 : Option Addr} {c3 : Nat} (h : RfX w base p x An nn cn As ns cs xs N S) (ho3 : Own w3 base 9 1 A3 (nn+1) c3 ((N++[n]).map encNm))
  (hg3 : (w.alloc o).grownBy w3 (An.map (·.block))) (hA3 : A3 = An∨A3 = some ⟨(w.alloc o).heap.size,0,none⟩) (hx : x < w.heap.size) (hB : base≤w.heap.size) :
  Blk w3 p 194 #[.slice An nn cn,.slice As ns cs]∧RfX (w3.setCell ⟨p,0,none⟩ (.slice A3 (nn+1) c3)) base p x A3 (nn+1) c3 As ns cs xs (N++[n]) S ∧
   KX base x w (w3.setCell ⟨p,0,none⟩ (.slice A3 (nn+1) c3))∧KeepR base w (w3.setCell ⟨p,0,none⟩ (.slice A3 (nn+1) c3)):=by
 obtain ⟨t1,t2,t3,t4,t5,t6⟩:=types_rf
 have hg:=grown_alloc hg3
 have b3 : Blk w3 p 194 #[.slice An nn cn,.slice As ns cs]:=h.blk.grown hg (fun e=>by cases An with | none=>cases e | some a=>simp at e;exact h.hn.off h.blk t2 a rfl e.symm)
 have s3 : Own w3 base 218 1 As ns cs (xs.map encSl):=h.hs.grown hg (fun a ha e=>by cases An with | none=>cases e | some b=>simp at e;exact h.hn.apart h.hs t1 b a rfl ha e.symm)
 have x3 : Sets w3 base xs S:=h.hx.grown hg (fun g q e=>own_not_R h.hn t4 g q e)
 have hxA3 : ∀ a,A3 = some a→a.block ≠ x:=fun a ha=>by
  rcases hA3 with e | e
  ·exact h.xn a (by rw [← e];exact ha)
  ·rw [e] at ha;injection ha with ha;subst ha;simp;omega
 refine ⟨b3,⟨?_,h.pb,?_,?_,?_,h.xp,hxA3,h.xs_⟩,?_,?_⟩
 ·have:=b3.set_ 0 (.slice A3 (nn+1) c3)
  simpa using this
 ·exact ho3.setCell (fun a ha=>ho3.off b3 t2 a ha) _
 ·exact s3.setCell (fun a ha=>s3.off b3 t3 a ha) _
 ·exact x3.setCell (blk_not_R b3 t6) _
 ·refine (KX.grown hg hB (fun k hk=>?_)).trans (KX.setCell w3 h.pb (fun e=>h.xp e.symm) _)
  cases An with
  | none=>cases hk
  | some a=>simp at hk;subst hk;exact ⟨(h.hn.lt a rfl).1,h.xn a rfl⟩
 ·exact (KeepR.grown hg (fun g q e=>own_not_R h.hn t4 g q e)).trans (KeepR.setCell (blk_not_R b3 t6) _)
theorem RfX.moreSet {w3 : World} {o : Obj} {A3 : Option Addr} {c3 : Nat} (h : RfX w base p x An nn cn As ns cs xs N S) (ho3 : Own w3 base 218 1 A3 (ns+1) c3 ((xs++[(none,0,0)]).map encSl))
  (hg3 : (w.alloc o).grownBy w3 (As.map (·.block))) (hA3 : A3 = As∨A3 = some ⟨(w.alloc o).heap.size,0,none⟩) (hx : x < w.heap.size) (hB : base≤w.heap.size) :
  Blk w3 p 194 #[.slice An nn cn,.slice As ns cs]∧RfX (w3.setCell ⟨p,1,none⟩ (.slice A3 (ns+1) c3)) base p x An nn cn A3 (ns+1) c3 (xs++[(none,0,0)]) N (S++[[]]) ∧
   KX base x w (w3.setCell ⟨p,1,none⟩ (.slice A3 (ns+1) c3))∧KeepR base w (w3.setCell ⟨p,1,none⟩ (.slice A3 (ns+1) c3)):=by
 obtain ⟨t1,t2,t3,t4,t5,t6⟩:=types_rf
 have hg:=grown_alloc hg3
 have b3 : Blk w3 p 194 #[.slice An nn cn,.slice As ns cs]:=h.blk.grown hg (fun e=>by cases As with | none=>cases e | some a=>simp at e;exact h.hs.off h.blk t3 a rfl e.symm)
 have n3 : Own w3 base 9 1 An nn cn (N.map encNm):=h.hn.grown hg (fun a ha e=>by cases As with | none=>cases e | some b=>simp at e;exact h.hn.apart h.hs t1 a b ha rfl e)
 have x3 : Sets w3 base xs S:=h.hx.grown hg (fun g q e=>own_not_R h.hs t5 g q e)
 have hxA3 : ∀ a,A3 = some a→a.block ≠ x:=fun a ha=>by
  rcases hA3 with e | e
  ·exact h.xs_ a (by rw [← e];exact ha)
  ·rw [e] at ha;injection ha with ha;subst ha;simp;omega
 refine ⟨b3,⟨?_,h.pb,?_,?_,?_,h.xp,h.xn,hxA3⟩,?_,?_⟩
 ·have:=b3.set_ 1 (.slice A3 (ns+1) c3)
  simpa using this
 ·exact n3.setCell (fun a ha=>n3.off b3 t2 a ha) _
 ·exact ho3.setCell (fun a ha=>ho3.off b3 t3 a ha) _
 ·exact (x3.setCell (blk_not_R b3 t6) _).snoc (Own.nil_ _ _ _ _)
 ·refine (KX.grown hg hB (fun k hk=>?_)).trans (KX.setCell w3 h.pb (fun e=>h.xp e.symm) _)
  cases As with
  | none=>cases hk
  | some a=>simp at hk;subst hk;exact ⟨(h.hs.lt a rfl).1,h.xs_ a rfl⟩
 ·exact (KeepR.grown hg (fun g q e=>own_not_R h.hs t5 g q e)).trans (KeepR.setCell (blk_not_R b3 t6) _)
theorem RfX.storeSet {g k b' : Nat} {y : Option Addr × Nat × Nat} {l : List (Int × Int)} (h : RfX w base p x An nn cn (some ⟨g,0,none⟩) ns cs xs N S) (hk : k < ns) (ho : Own w b' 248 2 y.1 y.2.1 y.2.2 (l.map encR)) (hb : base≤b') :
  RfX (w.setCell ⟨g,k,none⟩ (.slice y.1 y.2.1 y.2.2)) base p x An nn cn (some ⟨g,0,none⟩) ns cs (xs.set k y) N (S.set k l)∧KX base x w (w.setCell ⟨g,k,none⟩ (.slice y.1 y.2.1 y.2.2)):=by
 obtain ⟨t1,t2,t3,t4,t5,t6⟩:=types_rf
 have hgp : g ≠ p:=h.hs.off h.blk t3 _ rfl
 refine ⟨⟨h.blk.far (p:=⟨g,k,none⟩) (Ne.symm hgp) _,h.pb,?_,?_,?_,h.xp,h.xn,h.xs_⟩,KX.setCell w (q:=⟨g,k,none⟩) (h.hs.lt _ rfl).1 (h.xs_ ⟨g,0,none⟩ rfl) _⟩
 ·exact h.hn.setCell (p:=⟨g,k,none⟩) (fun a ha e=>h.hn.apart h.hs t1 a ⟨g,0,none⟩ ha rfl e) _
 ·exact h.hs.storedSl (by rw [h.lenS.1];exact hk) y
 ·refine Sets.set_ (h.hx.setCell (q:=⟨g,k,none⟩) (fun r=>own_not_R h.hs t5 g r rfl) _) ?_
  exact (ho.setCell (p:=⟨g,k,none⟩) (fun a ha e=>ho.apart h.hs (Ne.symm t5) a ⟨g,0,none⟩ ha rfl e) _).more hb
end
theorem bytes_inj {a b : List UInt8} : bytesOf a = bytesOf b ↔ a = b:=⟨fun h=>by rw [← bytesOf_list a,← bytesOf_list b,h],fun h=>by rw [h]⟩
theorem idx_step {N : List (List UInt8)} {n y : List UInt8} {i : Nat} (h : n ∉ N.take i) (hy : N[i]? = some y) : (y = n→N.idxOf? n = some i)∧(y ≠ n→n ∉ N.take (i+1)):=by
 constructor
 ·rintro rfl
  rw [List.idxOf?,List.findIdx?_eq_some_iff_getElem]
  obtain ⟨hlt,e⟩:=List.getElem?_eq_some_iff.1 hy
  refine ⟨hlt,by simp [e],fun j hj=>?_⟩
  simp only [Bool.not_eq_true,beq_eq_false_iff_ne]
  intro hjy
  exact h (List.mem_take_iff_getElem.2 ⟨j,by omega,by simpa using hjy⟩)
 ·intro hne hm
  rw [List.take_add_one,hy] at hm
  simp at hm
  rcases hm with hm | hm
  ·exact h hm
  ·exact hne hm.symm
theorem idx_none {N : List (List UInt8)} {n : List UInt8} (h : n ∉ N) : N.idxOf? n = none:=by
 rw [List.idxOf?,List.findIdx?_eq_none_iff]
 intro x hx
 simp only [beq_eq_false_iff_ne]
 rintro rfl;exact h hx
theorem vClass_any (base p x : Nat) (N : List (List UInt8)) (S : List (List (Int × Int))) (n : List UInt8) (w : World) (h : RfB w base p x N S) (hN : N.length≤1000000) :
  Calls Tryz.prog 234 #[.pointer (some ⟨p,0,none⟩),.string (bytesOf n)] w fun e w'=>e = .returned (.tuple #[.int .i64 (((N.idxOf? n).getD 0 : Nat) : Int),.bool (N.idxOf? n).isSome])∧w = w':=by
 obtain ⟨An,nn,cn,As,ns,cs,xs,hX⟩:=h.ex
 have hl:=hX.lenN
 have Hl:=Lib.hid hl
 have hrd:=hX.hn.rd (by omega)
 have c0:=hX.blk.cell 0
 simp only [zG,zH] at c0
 have hnn : nn≤1000000:=by omega
 clear hl h
 go_enter Tryz.func234,Tryz.ntmps234
 go_wp2
 go_loopw [6] (fun v wr=>∃ i : Nat,v = .int .i64 i∧i≤nn∧Hid (n ∉ N.take i)∧wr = w) (fun v _=>nn - (intOf v).toNat)
 case atStart=>exact ⟨0,rfl,by omega,by simp [Hid],rfl⟩
 case round =>
  obtain ⟨i,rfl,hi,HN,rfl⟩:=hrel
  by_cases hlt : i < nn
  ·obtain ⟨y,Hy⟩ : ∃ y,Hid (N[i]? = some y):=⟨_,Lib.hid (List.getElem?_eq_getElem (show i < N.length by have:=Hl.out;omega))⟩
   obtain ⟨b,off,rfl,hc⟩:=hrd.atS Hy.out
   have HI:=Lib.hid (idx_step HN.out Hy.out)
   by_cases hyn : y = n
   ·have HE:=Lib.hid (HI.out.1 hyn)
    subst hyn
    go_wp2
    go_ret2
    exact ⟨by rw [HE.out];rfl,rfl⟩
   ·have HE:=Lib.hid (HI.out.2 hyn)
    have e1 : ((bytesOf y).toList == (bytesOf n).toList) = false:=by rw [ByteArray.toList_eq,ByteArray.toList_eq,bytesOf_list,bytesOf_list];exact beq_eq_false_iff_ne.2 hyn
    have e3 : decide (bytesOf y = bytesOf n) = false:=decide_eq_false (fun k=>hyn (bytes_inj.1 k))
    clear hyn
    go_wp2
    go_roundw
    case rel=>exact ⟨i+1,by go_num,by omega,HE,by first | rfl | trivial⟩
    case measure=>simp [intOf];omega
  ·have HE:=Lib.hid (idx_none (N:=N) (n:=n) (by have:=HN.out;rwa [List.take_of_length_le (by have:=Hl.out;omega)] at this))
   go_wp2
   go_ret2
   exact ⟨by rw [HE.out];rfl,rfl⟩
end
section
open Go.RowKit
end
section
open Go.RowKit Go.Maps
end
section
open Go.RowKit Go.Maps
theorem getGo_hit {q : Int} {i : Nat} {s : List (Int × Int)} {S : List (List (Int × Int))} (h : hasB s q = true) : getGo q i (s :: S) = i:=by unfold getGo;rw [if_pos h]
theorem getGo_miss {q : Int} {i : Nat} {s : List (Int × Int)} {S : List (List (Int × Int))} (h : hasB s q = false) : getGo q i (s :: S) = getGo q (i+1) S:=by conv=>lhs;unfold getGo;rw [if_neg (by rw [h];simp)]
theorem vGet_any (base p x : Nat) (d : DbP) (r : Int) (w : World) (h : RfB w base p x d.names d.full) (ho : d.Ok) (hap : Apart d.sets) :
  Calls Tryz.prog 132 #[.pointer (some ⟨p,0,none⟩),.int .i32 r] w fun e w'=>e = .returned (.int .i64 (d.get r : Nat))∧w = w':=by
 obtain ⟨An,nn,cn,As,ns,cs,xs,hX⟩:=h.ex
 have hls:=hX.lenS
 have hfl:=full_len ho
 have hn0 : 0 < ns:=by
  have h3:=ho.head
  cases hd : d.names with
  | nil=>rw [hd] at h3;cases h3
  | cons a b=>rw [hd] at hfl;simp at hfl;omega
 have hn64 : ns≤64:=by have:=ho.few;omega
 obtain ⟨g,rfl,_,_⟩:=hX.hs.form hn0
 have c1:=hX.blk.cell 1
 simp only [zG,zH,zI] at c1
 have HF:=Lib.hid (fun i s (hi : d.full[i]? = some s)=>full_small ho hap hi)
 have HG : Hid (d.get r = getGo (askR r) 1 d.full.tail):=rfl
 have Hls:=Lib.hid (show d.full.length = ns from hls.2)
 have hcase : (r < 0∧askR r = 65533)∨(¬ r < 0∧1114111 < r∧askR r = 65533)∨(¬ r < 0∧¬ 1114111 < r∧askR r = r):=by
  unfold askR;split <;> omega
 obtain ⟨q,hq⟩ : ∃ q,askR r = q:=⟨_,rfl⟩
 rw [hq] at HG hcase
 clear ho hap h hfl hq
 rcases hcase with ⟨h1,rfl⟩ | ⟨h1,h2,rfl⟩ | ⟨h1,h2,rfl⟩
 ·go_enter Tryz.func132,Tryz.ntmps132
  go_wp2_with fail
  go_loopw [5] (fun v wr=>∃ k : Nat,v = .int .i64 (k+1 : Nat)∧k+1≤ns∧wr = w∧Hid (d.get r = getGo 65533 (k+1) (d.full.tail.drop k))) (fun v _=>ns - (intOf v).toNat)
  case atStart=>exact ⟨0,rfl,by omega,rfl,by rw [List.drop_zero];exact HG⟩
  case round =>
   obtain ⟨k,rfl,hk,rfl,HK⟩:=hrel
   by_cases hlt : k+1 < ns
   ·obtain ⟨s,Hs⟩ : ∃ s,Hid (d.full[k+1]? = some s):=⟨_,Lib.hid (List.getElem?_eq_getElem (show k+1 < d.full.length by have:=Hls.out;omega))⟩
    obtain ⟨⟨yA,yn,yc⟩,Hy⟩ : ∃ y,Hid (xs[k+1]? = some y):=⟨_,Lib.hid (List.getElem?_eq_getElem (show k+1 < xs.length by omega))⟩
    have hoy : Own wr base 248 2 yA yn yc (s.map encR):=hX.hx.own (k+1) (yA,yn,yc) s Hy.out Hs.out
    have hly : s.length = yn:=by simpa using hoy.len
    have hsm:=HF.out _ s Hs.out
    have hcell:=hX.hs.cell' rfl Hy.out
    have HH:=Lib.hid (sHas_any yA yn yc s 65533 wr (hoy.rd (by omega)) hly (by omega))
    have HD:=Lib.hid (drop_at (show d.full.tail[k]? = some s by rw [List.getElem?_tail];exact Hs.out))
    have hI : (k : Int)+1 < ns:=by omega
    rw [HD.out] at HK
    cases hv : hasB s 65533 with
    | true =>
     have HE:=Lib.hid (HK.out.trans (getGo_hit hv))
     rw [hv] at HH
     clear hv hly
     go_wp2_with (go_at_call 177;refine HH.out.mono ?_;rintro e w2 ⟨rfl,rfl⟩)
     go_ret
     exact ⟨by rw [HE.out];rfl,rfl⟩
    | false =>
     have HE:=Lib.hid (HK.out.trans (getGo_miss hv))
     rw [hv] at HH
     clear hv hly
     go_wp2_with (go_at_call 177;refine HH.out.mono ?_;rintro e w2 ⟨rfl,rfl⟩)
     go_roundw
     case rel=>exact ⟨k+1,by go_num,by omega,by first | rfl | trivial,HE⟩
     case measure=>simp [intOf];omega
   ·have HE : Hid (d.get r = 0):=Lib.hid (by rw [HK.out,List.drop_of_length_le (by rw [List.length_tail];have:=Hls.out;omega)];rfl)
    obtain rfl : k+1 = ns:=by omega
    go_wp2
    go_ret
    exact ⟨by rw [HE.out];rfl,rfl⟩
 ·go_enter Tryz.func132,Tryz.ntmps132
  go_wp2_with fail
  go_loopw [5] (fun v wr=>∃ k : Nat,v = .int .i64 (k+1 : Nat)∧k+1≤ns∧wr = w∧Hid (d.get r = getGo 65533 (k+1) (d.full.tail.drop k))) (fun v _=>ns - (intOf v).toNat)
  case atStart=>exact ⟨0,rfl,by omega,rfl,by rw [List.drop_zero];exact HG⟩
  case round =>
   obtain ⟨k,rfl,hk,rfl,HK⟩:=hrel
   by_cases hlt : k+1 < ns
   ·obtain ⟨s,Hs⟩ : ∃ s,Hid (d.full[k+1]? = some s):=⟨_,Lib.hid (List.getElem?_eq_getElem (show k+1 < d.full.length by have:=Hls.out;omega))⟩
    obtain ⟨⟨yA,yn,yc⟩,Hy⟩ : ∃ y,Hid (xs[k+1]? = some y):=⟨_,Lib.hid (List.getElem?_eq_getElem (show k+1 < xs.length by omega))⟩
    have hoy : Own wr base 248 2 yA yn yc (s.map encR):=hX.hx.own (k+1) (yA,yn,yc) s Hy.out Hs.out
    have hly : s.length = yn:=by simpa using hoy.len
    have hsm:=HF.out _ s Hs.out
    have hcell:=hX.hs.cell' rfl Hy.out
    have HH:=Lib.hid (sHas_any yA yn yc s 65533 wr (hoy.rd (by omega)) hly (by omega))
    have HD:=Lib.hid (drop_at (show d.full.tail[k]? = some s by rw [List.getElem?_tail];exact Hs.out))
    have hI : (k : Int)+1 < ns:=by omega
    rw [HD.out] at HK
    cases hv : hasB s 65533 with
    | true =>
     have HE:=Lib.hid (HK.out.trans (getGo_hit hv))
     rw [hv] at HH
     clear hv hly
     go_wp2_with (go_at_call 177;refine HH.out.mono ?_;rintro e w2 ⟨rfl,rfl⟩)
     go_ret
     exact ⟨by rw [HE.out];rfl,rfl⟩
    | false =>
     have HE:=Lib.hid (HK.out.trans (getGo_miss hv))
     rw [hv] at HH
     clear hv hly
     go_wp2_with (go_at_call 177;refine HH.out.mono ?_;rintro e w2 ⟨rfl,rfl⟩)
     go_roundw
     case rel=>exact ⟨k+1,by go_num,by omega,by first | rfl | trivial,HE⟩
     case measure=>simp [intOf];omega
   ·have HE : Hid (d.get r = 0):=Lib.hid (by rw [HK.out,List.drop_of_length_le (by rw [List.length_tail];have:=Hls.out;omega)];rfl)
    obtain rfl : k+1 = ns:=by omega
    go_wp2
    go_ret
    exact ⟨by rw [HE.out];rfl,rfl⟩
 ·go_enter Tryz.func132,Tryz.ntmps132
  go_wp2_with fail
  go_loopw [5] (fun v wr=>∃ k : Nat,v = .int .i64 (k+1 : Nat)∧k+1≤ns∧wr = w∧Hid (d.get q = getGo q (k+1) (d.full.tail.drop k))) (fun v _=>ns - (intOf v).toNat)
  case atStart=>exact ⟨0,rfl,by omega,rfl,by rw [List.drop_zero];exact HG⟩
  case round =>
   obtain ⟨k,rfl,hk,rfl,HK⟩:=hrel
   by_cases hlt : k+1 < ns
   ·obtain ⟨s,Hs⟩ : ∃ s,Hid (d.full[k+1]? = some s):=⟨_,Lib.hid (List.getElem?_eq_getElem (show k+1 < d.full.length by have:=Hls.out;omega))⟩
    obtain ⟨⟨yA,yn,yc⟩,Hy⟩ : ∃ y,Hid (xs[k+1]? = some y):=⟨_,Lib.hid (List.getElem?_eq_getElem (show k+1 < xs.length by omega))⟩
    have hoy : Own wr base 248 2 yA yn yc (s.map encR):=hX.hx.own (k+1) (yA,yn,yc) s Hy.out Hs.out
    have hly : s.length = yn:=by simpa using hoy.len
    have hsm:=HF.out _ s Hs.out
    have hcell:=hX.hs.cell' rfl Hy.out
    have HH:=Lib.hid (sHas_any yA yn yc s q wr (hoy.rd (by omega)) hly (by omega))
    have HD:=Lib.hid (drop_at (show d.full.tail[k]? = some s by rw [List.getElem?_tail];exact Hs.out))
    have hI : (k : Int)+1 < ns:=by omega
    rw [HD.out] at HK
    cases hv : hasB s q with
    | true =>
     have HE:=Lib.hid (HK.out.trans (getGo_hit hv))
     rw [hv] at HH
     clear hv hly
     go_wp2_with (go_at_call 177;refine HH.out.mono ?_;rintro e w2 ⟨rfl,rfl⟩)
     go_ret
     exact ⟨by rw [HE.out];rfl,rfl⟩
    | false =>
     have HE:=Lib.hid (HK.out.trans (getGo_miss hv))
     rw [hv] at HH
     clear hv hly
     go_wp2_with (go_at_call 177;refine HH.out.mono ?_;rintro e w2 ⟨rfl,rfl⟩)
     go_roundw
     case rel=>exact ⟨k+1,by go_num,by omega,by first | rfl | trivial,HE⟩
     case measure=>simp [intOf];omega
   ·have HE : Hid (d.get q = 0):=Lib.hid (by rw [HK.out,List.drop_of_length_le (by rw [List.length_tail];have:=Hls.out;omega)];rfl)
    obtain rfl : k+1 = ns:=by omega
    go_wp2
    go_ret
    exact ⟨by rw [HE.out];rfl,rfl⟩
end
section
def wEnd (c : Int) : Bool:=c == 3 || c == 1 || c == 2
def wHang (c : Int) : Bool:=c == 4 || c == 6 || c == 5
def wLet (c : Int) : Bool:=c == 10 || c == 9
def wInW (c : Int) : Bool:=c == 14 || c == 13 || c == 11
def wInN (c : Int) : Bool:=c == 15 || c == 13 || c == 11
def wJoin (c : Int) : Bool:=wLet c || c == 16 || c == 8
def wBack (c : List Int) : Nat→Int
 | 0=>-1
 | i+1=>if wHang (c.getD i 0) then wBack c i else i
def wOf (c : List Int) (i : Int) : Int:=if i < 0∨(c.length : Int)≤i then -1 else c.getD i.toNat 0
def wOn (c : List Int) (i : Nat) : Int:=(((c.drop (i+1)).dropWhile wHang).head?).getD (-1)
def wRegGo (c : List Int) : Nat→Nat→Nat
 | 0,_=>0
 | f+1,i=>if wOf c (wBack c i) = 7 then wRegGo c f (wBack c i).toNat+1 else 0
def wReg (c : List Int) (i : Nat) : Nat:=wRegGo c (i+1) i
def wLetters (z a q n : Int) : Bool :=
 (wLet a && wLet q || wLet a && wInW q && wLet n || wLet z && wInW a && wLet q) ||
 (a == 9 && q == 11 || a == 9 && q == 12 && n == 9 || z == 9 && a == 12 && q == 9) ||
 (a == 16 && (q == 16 || wLet q) || wLet a && q == 16) ||
 (z == 16 && wInN a && q == 16 || a == 16 && wInN q && n == 16) ||
 (a == 8 && q == 8 || (wJoin a || a == 17) && q == 17 || a == 17 && wJoin q)
def wCut (c : List Int) (i : Nat) : Bool :=
 let p:=c.getD (i - 1) 0
 let q:=c.getD i 0
 if p = 1∧q = 2 then false
 else if wEnd p || wEnd q then true
 else if (p == 5 && q == 19) || (p == 18 && q == 18) || wHang q then false
 else
  let b:=wBack c i
  if wLetters (wOf c (wBack c b.toNat)) (wOf c b) q (wOn c i) then false
  else !(q == 7) || wReg c i % 2 == 0
theorem wBack_lt (c : List Int) : ∀ i,wBack c i < (i : Int)∧-1≤wBack c i
 | 0=>by simp [wBack]
 | i+1=>by
  have ih:=wBack_lt c i
  unfold wBack
  split <;> omega
theorem wBack_here {c : List Int} {i : Nat} (h : wHang (c.getD i 0) = false) : wBack c (i+1) = i:=by unfold wBack;rw [h];rfl
theorem wOf_nat {c : List Int} {i : Nat} (h : i < c.length) : wOf c (i : Int) = c.getD i 0:=by unfold wOf;rw [if_neg (by omega),Int.toNat_natCast]
end
section
open Go.RowKit
theorem klettered_any (c : Int) (w : World) : Calls Tryz.prog 142 #[.int .i64 c] w fun e w'=>e = .returned (.bool (wLet c))∧w = w':=by
 rcases (by omega : c = 10∨c = 9∨(c ≠ 10∧c ≠ 9)) with rfl | rfl | ⟨h1,h2⟩
 iterate 2
  ·go_enter Tryz.func142,Tryz.ntmps142
   go_wp2
   go_ret
   exact ⟨rfl,rfl⟩
 ·have HV : Hid (wLet c = false):=Lib.hid (by simp [wLet,h1,h2])
  have e1:=beq_eq_false_iff_ne.2 h1
  have e2:=beq_eq_false_iff_ne.2 h2
  clear h1 h2
  go_enter Tryz.func142,Tryz.ntmps142
  go_wp2
  go_ret
  exact ⟨by rw [HV.out];rfl,rfl⟩
theorem kends_any (c : Int) (w : World) : Calls Tryz.prog 143 #[.int .i64 c] w fun e w'=>e = .returned (.bool (wEnd c))∧w = w':=by
 rcases (by omega : c = 3∨c = 1∨c = 2∨(c ≠ 3∧c ≠ 1∧c ≠ 2)) with rfl | rfl | rfl | ⟨h1,h2,h3⟩
 iterate 3
  ·go_enter Tryz.func143,Tryz.ntmps143
   go_wp2
   go_ret
   exact ⟨rfl,rfl⟩
 ·have HV : Hid (wEnd c = false):=Lib.hid (by simp [wEnd,h1,h2,h3])
  have e1:=beq_eq_false_iff_ne.2 h1
  have e2:=beq_eq_false_iff_ne.2 h2
  have e3:=beq_eq_false_iff_ne.2 h3
  clear h1 h2 h3
  go_enter Tryz.func143,Tryz.ntmps143
  go_wp2
  go_ret
  exact ⟨by rw [HV.out];rfl,rfl⟩
theorem khangs_any (c : Int) (w : World) : Calls Tryz.prog 145 #[.int .i64 c] w fun e w'=>e = .returned (.bool (wHang c))∧w = w':=by
 rcases (by omega : c = 4∨c = 6∨c = 5∨(c ≠ 4∧c ≠ 6∧c ≠ 5)) with rfl | rfl | rfl | ⟨h1,h2,h3⟩
 iterate 3
  ·go_enter Tryz.func145,Tryz.ntmps145
   go_wp2
   go_ret
   exact ⟨rfl,rfl⟩
 ·have HV : Hid (wHang c = false):=Lib.hid (by simp [wHang,h1,h2,h3])
  have e1:=beq_eq_false_iff_ne.2 h1
  have e2:=beq_eq_false_iff_ne.2 h2
  have e3:=beq_eq_false_iff_ne.2 h3
  clear h1 h2 h3
  go_enter Tryz.func145,Tryz.ntmps145
  go_wp2
  go_ret
  exact ⟨by rw [HV.out];rfl,rfl⟩
theorem kinWord_any (c : Int) (w : World) : Calls Tryz.prog 238 #[.int .i64 c] w fun e w'=>e = .returned (.bool (wInW c))∧w = w':=by
 rcases (by omega : c = 14∨c = 13∨c = 11∨(c ≠ 14∧c ≠ 13∧c ≠ 11)) with rfl | rfl | rfl | ⟨h1,h2,h3⟩
 iterate 3
  ·go_enter Tryz.func238,Tryz.ntmps238
   go_wp2
   go_ret
   exact ⟨rfl,rfl⟩
 ·have HV : Hid (wInW c = false):=Lib.hid (by simp [wInW,h1,h2,h3])
  have e1:=beq_eq_false_iff_ne.2 h1
  have e2:=beq_eq_false_iff_ne.2 h2
  have e3:=beq_eq_false_iff_ne.2 h3
  clear h1 h2 h3
  go_enter Tryz.func238,Tryz.ntmps238
  go_wp2
  go_ret
  exact ⟨by rw [HV.out];rfl,rfl⟩
theorem kinNumber_any (c : Int) (w : World) : Calls Tryz.prog 239 #[.int .i64 c] w fun e w'=>e = .returned (.bool (wInN c))∧w = w':=by
 rcases (by omega : c = 15∨c = 13∨c = 11∨(c ≠ 15∧c ≠ 13∧c ≠ 11)) with rfl | rfl | rfl | ⟨h1,h2,h3⟩
 iterate 3
  ·go_enter Tryz.func239,Tryz.ntmps239
   go_wp2
   go_ret
   exact ⟨rfl,rfl⟩
 ·have HV : Hid (wInN c = false):=Lib.hid (by simp [wInN,h1,h2,h3])
  have e1:=beq_eq_false_iff_ne.2 h1
  have e2:=beq_eq_false_iff_ne.2 h2
  have e3:=beq_eq_false_iff_ne.2 h3
  clear h1 h2 h3
  go_enter Tryz.func239,Tryz.ntmps239
  go_wp2
  go_ret
  exact ⟨by rw [HV.out];rfl,rfl⟩
theorem kjoined_any (c : Int) (w : World) : Calls Tryz.prog 240 #[.int .i64 c] w fun e w'=>e = .returned (.bool (wJoin c))∧w = w':=by
 rcases (by cases wLet c <;> simp : wLet c = true∨wLet c = false) with h | h
 ·have HV : Hid (wJoin c = true):=Lib.hid (by simp [wJoin,h])
  go_enter Tryz.func240,Tryz.ntmps240
  go_wp2_with (go_at_call 142;refine (klettered_any _ _).mono ?_;rw [h];rintro e w' ⟨rfl,rfl⟩)
  go_ret
  exact ⟨by rw [HV.out];rfl,rfl⟩
 ·rcases (by omega : c = 16∨c = 8∨(c ≠ 16∧c ≠ 8)) with rfl | rfl | ⟨h1,h2⟩
  iterate 2
   ·go_enter Tryz.func240,Tryz.ntmps240
    go_wp2_with (go_at_call 142;refine (klettered_any _ _).mono ?_;rintro e w' ⟨rfl,rfl⟩)
    go_ret
    exact ⟨rfl,rfl⟩
  ·have HV : Hid (wJoin c = false):=Lib.hid (by simp [wJoin,h,h1,h2])
   have e1:=beq_eq_false_iff_ne.2 h1
   have e2:=beq_eq_false_iff_ne.2 h2
   clear h1 h2
   go_enter Tryz.func240,Tryz.ntmps240
   go_wp2_with (go_at_call 142;refine (klettered_any _ _).mono ?_;rw [h];rintro e w' ⟨rfl,rfl⟩)
   go_ret
   exact ⟨by rw [HV.out];rfl,rfl⟩
end
section
open Go.RowKit
def encZ (x : Int) : List Value:=[.int .i64 x]
theorem encZ_ok (l : List Int) : ∀ y ∈ l.map encZ,y.length = 1∧∀ u ∈ y,u.oneCell' = true:=by
 intro y hy;obtain ⟨r,_,rfl⟩:=List.mem_map.1 hy
 exact ⟨rfl,by simp [encZ,Value.oneCell']⟩
theorem Rd.atZ {w : World} {A : Option Addr} {l : List Int} {k : Nat} {x : Int} (h : Rd w 1 A (l.map encZ)) (hk : l[k]? = some x) : ∃ b off,A = some ⟨b,off,none⟩∧w.cell? ⟨b,off+k,none⟩ = some (.int .i64 x):=by
 obtain ⟨b,off,rfl,hc⟩:=h (by intro e;cases l with | nil=>simp at hk | cons _ _=>simp at e)
 have h0:=hc k 0 (encZ x) (.int .i64 x) (by simp [hk]) rfl
 exact ⟨b,off,rfl,by simpa using h0⟩
theorem getD_of {c : List Int} {k : Nat} {x : Int} (h : c[k]? = some x) : c.getD k 0 = x:=by rw [List.getD_eq_getElem?_getD,h];rfl
theorem kback_any (A B : Option Addr) (na ca n cb : Nat) (z : Int) (c : List Int) (i : Nat) (w : World) (hB : Rd w 1 B (c.map encZ)) (hl : c.length = n) (hi : i≤n) (hn : n≤4000000) :
  Calls Tryz.prog 182 #[.agg #[.slice A na ca,.slice B n cb,.int .i64 z],.int .i64 i] w fun e w'=>e = .returned (.int .i64 (wBack c i))∧Below w.heap.size w w':=by
 have Hl:=Lib.hid hl
 clear hl
 have hBz : Below w.heap.size w (w.alloc (.cells #[.slice A na ca,.slice B n cb,.int .i64 z] 181)):=(Below.refl _ _).alloc (Nat.le_refl _) _
 have hK:=Blk.new w 181 #[.slice A na ca,.slice B n cb,.int .i64 z]
 have k1:=hK.cell 1
 simp only [zG,zH,zI] at k1
 go_enter Tryz.func182,Tryz.ntmps182
 go_wp2
 go_loopw [1] (fun v wr=>∃ (j : Nat) (x : Int),v = .int .i64 x∧x = (j : Int) - 1∧j≤i∧Hid (wBack c j = wBack c i)∧wr = w.alloc (.cells #[.slice A na ca,.slice B n cb,.int .i64 z] 181)) (fun v _=>(intOf v+1).toNat)
 case atStart=>exact ⟨i,_,rfl,by go_num,Nat.le_refl _,Lib.hid rfl,rfl⟩
 case round =>
  obtain ⟨j,x,rfl,hx,hj,HW,rfl⟩:=hrel
  cases j with
  | zero =>
   have hx1 : x < 0:=by omega
   have hx0 : ¬ 0≤x:=by omega
   have HV : Hid (wBack c i = x):=Lib.hid (by rw [← HW.out,show x = -1 by omega];rfl)
   clear hx
   go_wp2
   go_ret
   exact ⟨by rw [HV.out];rfl,hBz⟩
  | succ j =>
   obtain rfl : x = (j : Int):=by omega
   clear hx
   obtain ⟨q,Hq⟩ : ∃ q,Hid (c[j]? = some q):=⟨_,Lib.hid (List.getElem?_eq_getElem (by have:=Hl.out;omega))⟩
   obtain ⟨b,off,rfl,hc⟩:=hB.atZ Hq.out
   have hc:=cell_keep hc hBz
   cases hh : wHang q with
   | true =>
    have HW' : Hid (wBack c j = wBack c i):=Lib.hid (by rw [← HW.out,wBack,getD_of Hq.out,hh];rfl)
    go_wp2_with (go_at_call 145;refine (khangs_any _ _).mono ?_;rw [hh];rintro e w' ⟨rfl,rfl⟩)
    go_roundw
    case rel=>exact ⟨j,_,rfl,by go_num,by omega,HW',trivial⟩
    case measure=>simp [intOf]
   | false =>
    have HV : Hid (wBack c i = j):=Lib.hid (by rw [← HW.out];exact wBack_here (by rw [getD_of Hq.out];exact hh))
    go_wp2_with (go_at_call 145;refine (khangs_any _ _).mono ?_;rw [hh];rintro e w' ⟨rfl,rfl⟩)
    go_ret
    exact ⟨by rw [HV.out];rfl,hBz⟩
theorem kof_any (A B : Option Addr) (na ca n cb : Nat) (z : Int) (c : List Int) (i : Int) (w : World) (hB : Rd w 1 B (c.map encZ)) (hl : c.length = n) (_hn : n≤4000000) (hi : -10≤i∧i≤4000000) :
  Calls Tryz.prog 184 #[.agg #[.slice A na ca,.slice B n cb,.int .i64 z],.int .i64 i] w fun e w'=>e = .returned (.int .i64 (wOf c i))∧Below w.heap.size w w':=by
 have hBz : Below w.heap.size w (w.alloc (.cells #[.slice A na ca,.slice B n cb,.int .i64 z] 181)):=(Below.refl _ _).alloc (Nat.le_refl _) _
 have hK:=Blk.new w 181 #[.slice A na ca,.slice B n cb,.int .i64 z]
 have k1:=hK.cell 1
 simp only [zG,zH,zI] at k1
 rcases (by omega : i < 0∨(¬ i < 0∧(n : Int)≤i)∨(0≤i∧i < n)) with h | ⟨h,h2⟩ | ⟨h,h2⟩
 ·have HV : Hid (wOf c i = -1):=Lib.hid (by unfold wOf;rw [if_pos (.inl h)])
  go_enter Tryz.func184,Tryz.ntmps184
  go_wp2
  go_ret
  exact ⟨by rw [HV.out];rfl,hBz⟩
 ·have HV : Hid (wOf c i = -1):=Lib.hid (by unfold wOf;rw [if_pos (.inr (by omega))])
  clear hl
  go_enter Tryz.func184,Tryz.ntmps184
  go_wp2
  go_ret
  exact ⟨by rw [HV.out];rfl,hBz⟩
 ·obtain ⟨k,rfl⟩ : ∃ k : Nat,i = k:=⟨i.toNat,by omega⟩
  have hk : k < n:=by omega
  obtain ⟨q,Hq⟩ : ∃ q,Hid (c[k]? = some q):=⟨_,Lib.hid (List.getElem?_eq_getElem (by omega))⟩
  obtain ⟨b,off,rfl,hc⟩:=hB.atZ Hq.out
  have hc:=cell_keep hc hBz
  have HV : Hid (wOf c (k : Int) = q):=Lib.hid (by rw [wOf_nat (by omega),getD_of Hq.out])
  clear hl
  go_enter Tryz.func184,Tryz.ntmps184
  go_wp2
  go_ret
  exact ⟨by rw [HV.out];rfl,hBz⟩
theorem kon_any (A B : Option Addr) (na ca n cb : Nat) (z : Int) (c : List Int) (i : Nat) (w : World) (hB : Rd w 1 B (c.map encZ)) (hl : c.length = n) (hi : i < n) (hn : n≤3000000) :
  Calls Tryz.prog 185 #[.agg #[.slice A na ca,.slice B n cb,.int .i64 z],.int .i64 i] w fun e w'=>e = .returned (.int .i64 (wOn c i))∧Below w.heap.size w w':=by
 have Hl:=Lib.hid hl
 clear hl
 have hBz : Below w.heap.size w (w.alloc (.cells #[.slice A na ca,.slice B n cb,.int .i64 z] 181)):=(Below.refl _ _).alloc (Nat.le_refl _) _
 have hK:=Blk.new w 181 #[.slice A na ca,.slice B n cb,.int .i64 z]
 have k0:=hK.cell 0
 have k1:=hK.cell 1
 have k2:=hK.cell 2
 simp only [zG,zH,zI] at k0 k1 k2
 have HO:=Lib.hid (fun (j : Nat) (hj : j≤n)=>kof_any A B na ca n cb z c j _ (hB.below hBz) Hl.out (by omega) (by omega))
 go_enter Tryz.func185,Tryz.ntmps185
 go_wp2
 go_loopw [1] (fun v wr=>∃ j : Nat,v = .int .i64 j∧j≤n∧Hid (((c.drop j).dropWhile wHang).head?.getD (-1) = wOn c i)∧wr = w.alloc (.cells #[.slice A na ca,.slice B n cb,.int .i64 z] 181)) (fun v _=>n - (intOf v).toNat)
 case atStart=>exact ⟨i+1,by go_num,by omega,Lib.hid rfl,rfl⟩
 case round =>
  obtain ⟨j,rfl,hj,HW,rfl⟩:=hrel
  by_cases hlt : j < n
  ·obtain ⟨q,Hq⟩ : ∃ q,Hid (c[j]? = some q):=⟨_,Lib.hid (List.getElem?_eq_getElem (by have:=Hl.out;omega))⟩
   have hd : Hid (c.drop j = q :: c.drop (j+1)):=Lib.hid (by
    obtain ⟨h1,h2⟩:=List.getElem?_eq_some_iff.1 Hq.out
    rw [List.drop_eq_getElem_cons h1,h2])
   obtain ⟨b,off,e0,hc⟩:=hB.atZ Hq.out
   have hc:=cell_keep hc hBz
   cases hh : wHang q with
   | true =>
    have HW' : Hid (((c.drop (j+1)).dropWhile wHang).head?.getD (-1) = wOn c i):=Lib.hid (by rw [← HW.out,hd.out,List.dropWhile_cons,hh];rfl)
    subst e0
    go_wp2_with (go_at_call 145;refine (khangs_any _ _).mono ?_;rw [hh];rintro e w' ⟨rfl,rfl⟩)
    go_roundw
    case rel=>exact ⟨j+1,by go_num,by omega,HW',trivial⟩
    case measure=>simp [intOf];omega
   | false =>
    have HV : Hid (wOf c (j : Int) = wOn c i):=Lib.hid (by rw [← HW.out,hd.out,List.dropWhile_cons,hh,wOf_nat (by have:=Hl.out;omega),getD_of Hq.out];rfl)
    have HOj:=Lib.hid (HO.out j hj)
    subst e0
    clear HO
    go_wp2_with (first | (go_at_call 145;refine (khangs_any _ _).mono ?_;rw [hh];rintro e w' ⟨rfl,rfl⟩) | (go_at_call 184;refine HOj.out.mono ?_;rintro e w' ⟨rfl,hb⟩))
    go_ret
    exact ⟨by rw [HV.out];rfl,hBz.trans (hb.mono hBz.size)⟩
  ·obtain rfl : j = n:=by omega
   have HV : Hid (wOf c (j : Int) = wOn c i):=Lib.hid (by
    rw [← HW.out,List.drop_eq_nil_of_le (by have:=Hl.out;omega)]
    unfold wOf
    rw [if_pos (.inr (by have:=Hl.out;omega))];rfl)
   have HOj:=Lib.hid (HO.out j hj)
   clear HO
   go_wp2_with (go_at_call 184;refine HOj.out.mono ?_;rintro e w' ⟨rfl,hb⟩)
   go_ret
   exact ⟨by rw [HV.out];rfl,hBz.trans (hb.mono hBz.size)⟩
def RegAt (c : List Int) (i k : Nat) (x : Int) : Prop:=-1≤x∧(k : Int)+x < i∧∃ f j,x = wBack c j∧j < f∧k+wRegGo c f j = wReg c i
theorem regAt_first (c : List Int) (i : Nat) : RegAt c i 0 (wBack c i):=⟨(wBack_lt c i).2,by have:=(wBack_lt c i).1;omega,i+1,i,rfl,by omega,by rw [Nat.zero_add];rfl⟩
theorem regAt_next {c : List Int} {i k : Nat} {x : Int} (h : RegAt c i k x) (h7 : wOf c x = 7) : ∃ m : Nat,x = m∧m < c.length∧RegAt c i (k+1) (wBack c m):=by
 obtain ⟨h1,h2,f,j,rfl,hf,hk⟩:=h
 have h0 : 0≤wBack c j∧wBack c j < c.length:=by
  unfold wOf at h7
  split at h7
  ·omega
  ·omega
 obtain ⟨m,hm⟩ : ∃ m : Nat,wBack c j = m:=⟨(wBack c j).toNat,by omega⟩
 rw [hm] at h0 h2 h7 ⊢
 cases f with
 | zero=>omega
 | succ f =>
  rw [wRegGo,hm,if_pos h7,Int.toNat_natCast] at hk
  have hl:=(wBack_lt c m)
  have hj:=(wBack_lt c j).1
  exact ⟨m,rfl,by omega,hl.2,by omega,f,m,rfl,by omega,by omega⟩
theorem regAt_end {c : List Int} {i k : Nat} {x : Int} (h : RegAt c i k x) (h7 : wOf c x ≠ 7) : k = wReg c i:=by
 obtain ⟨h1,h2,f,j,rfl,hf,hk⟩:=h
 cases f with
 | zero=>omega
 | succ f=>rw [wRegGo,if_neg h7] at hk;omega
theorem kregions_any (A B : Option Addr) (na ca n cb : Nat) (z : Int) (c : List Int) (i : Nat) (w : World) (hB : Rd w 1 B (c.map encZ)) (hl : c.length = n) (hi : i≤n) (hn : n≤3000000) :
  Calls Tryz.prog 186 #[.agg #[.slice A na ca,.slice B n cb,.int .i64 z],.int .i64 i] w fun e w'=>e = .returned (.int .i64 (wReg c i : Nat))∧Below w.heap.size w w':=by
 have Hl:=Lib.hid hl
 clear hl
 have hBz : Below w.heap.size w (w.alloc (.cells #[.slice A na ca,.slice B n cb,.int .i64 z] 181)):=(Below.refl _ _).alloc (Nat.le_refl _) _
 have hK:=Blk.new w 181 #[.slice A na ca,.slice B n cb,.int .i64 z]
 have HOf:=Lib.hid (fun (j : Int) W (h : Below w.heap.size w W) (hj : -10≤j∧j≤4000000)=>kof_any A B na ca n cb z c j W (hB.below h) Hl.out (by omega) hj)
 have HBk:=Lib.hid (fun (j : Nat) W (h : Below w.heap.size w W) (hj : j≤n)=>kback_any A B na ca n cb z c j W (hB.below h) Hl.out hj (by omega))
 have HR0:=Lib.hid (regAt_first c i)
 have hs0 : w.heap.size < (w.alloc (.cells #[.slice A na ca,.slice B n cb,.int .i64 z] 181)).heap.size:=by simp
 have k0:=hK.cell 0
 have k1:=hK.cell 1
 have k2:=hK.cell 2
 simp only [zG,zH,zI] at k0 k1 k2
 go_enter Tryz.func186,Tryz.ntmps186
 go_wp2_with fail
 refine (HBk.out i _ hBz hi).mono ?_
 generalize wBack c i = x0 at HR0
 rintro e w1 ⟨rfl,hb1⟩
 replace k0:=cell_keep k0 hb1
 replace k1:=cell_keep k1 hb1
 replace k2:=cell_keep k2 hb1
 have hB1:=hBz.trans (hb1.mono hBz.size)
 clear hBz hb1
 go_wp2_with fail
 go_loopw [1,5] (fun u v wr=>∃ (x : Int) (k : Nat),u = .int .i64 x∧v = .int .i64 k∧Hid (RegAt c i k x)∧Below w.heap.size w wr∧wr.cell? ⟨w.heap.size,0,none⟩ = some (.slice A na ca)∧wr.cell? ⟨w.heap.size,1,none⟩ = some (.slice B n cb)∧wr.cell? ⟨w.heap.size,2,none⟩ = some (.int .i64 z)) (fun u _ _=>(intOf u+1).toNat)
 case atStart=>exact ⟨_,0,rfl,rfl,HR0,hB1,k0,k1,k2⟩
 case round =>
  clear k0 k1 k2 hB1
  obtain ⟨x,k,rfl,rfl,HR,hb,k0,k1,k2⟩:=hrel
  have hx1:=HR.out.1
  have hx2:=HR.out.2.1
  have HOx:=Lib.hid (HOf.out x wr hb (by omega))
  by_cases h7 : wOf c x = 7
  ·rw [h7] at HOx
   obtain ⟨m,rfl,hm,hR'⟩:=regAt_next HR.out h7
   have HR':=Lib.hid hR'
   have hm2 : m≤n:=by have:=Hl.out;omega
   clear hR' h7 hm HR
   have hx3:=HR'.out.1
   have hx4:=HR'.out.2.1
   go_wp2_with fail
   refine HOx.out.mono ?_
   rintro e w2 ⟨rfl,hb2⟩
   replace k0:=cell_keep k0 hb2
   replace k1:=cell_keep k1 hb2
   replace k2:=cell_keep k2 hb2
   have hbb:=below_step hb hb2 hb.size
   go_wp2_with fail
   refine (HBk.out m w2 hbb hm2).mono ?_
   have hlt : wBack c m < (m : Int):=(wBack_lt c m).1
   generalize wBack c m = y at HR' hx3 hx4 hlt
   rintro e w3 ⟨rfl,hb3⟩
   replace k0:=cell_keep k0 hb3
   replace k1:=cell_keep k1 hb3
   replace k2:=cell_keep k2 hb3
   have hbc:=below_step hbb hb3 hbb.size
   go_wp2
   go_roundw
   case rel=>exact ⟨y,k+1,rfl,by go_num,HR',hbc,k0,k1,k2⟩
   case measure=>simp [intOf];omega
  ·have HV : Hid (k = wReg c i):=Lib.hid (regAt_end HR.out h7)
   have e7 : (wOf c x == 7) = false:=beq_eq_false_iff_ne.2 h7
   clear h7
   generalize wOf c x = y at HOx e7
   go_wp2_with fail
   refine HOx.out.mono ?_
   rintro e w2 ⟨rfl,hb2⟩
   go_wp2
   go_ret
   exact ⟨by rw [HV.out];rfl,below_step hb hb2 hb.size⟩
end
section
def insK (x : Int × Int) : List (Int × Int)→List (Int × Int)
 | []=>[x]
 | y :: r=>if x.1≤y.1 then x :: y :: r else y :: insK x r
def sortK : List (Int × Int)→List (Int × Int)
 | []=>[]
 | x :: r=>insK x (sortK r)
theorem insK_perm (x : Int × Int) : ∀ (l : List (Int × Int)),(insK x l).Perm (x :: l)
 | []=>.refl _
 | y :: r=>by
  unfold insK
  split
  ·exact .refl _
  ·exact ((insK_perm x r).cons y).trans (List.Perm.swap x y r)
theorem sortK_perm : ∀ (l : List (Int × Int)),(sortK l).Perm l
 | []=>.refl _
 | x :: r=>(insK_perm x (sortK r)).trans ((sortK_perm r).cons x)
theorem insK_rise {x : Int × Int} : ∀ {l : List (Int × Int)},Rise l→Rise (insK x l)
 | [],_=>by unfold insK Rise;simp
 | y :: r,h=>by
  have h':=List.pairwise_cons.1 h
  unfold insK
  split
  ·rename_i hxy
   refine List.pairwise_cons.2 ⟨fun z hz=>?_,h⟩
   rcases List.mem_cons.1 hz with rfl | hz
   ·exact hxy
   ·have:=h'.1 z hz;omega
  ·rename_i hxy
   refine List.pairwise_cons.2 ⟨fun z hz=>?_,insK_rise h'.2⟩
   rcases List.mem_cons.1 ((insK_perm x r).mem_iff.1 hz) with rfl | hz
   ·omega
   ·exact h'.1 z hz
theorem sortK_rise : ∀ (l : List (Int × Int)),Rise (sortK l)
 | []=>.nil
 | _ :: r=>insK_rise (sortK_rise r)
def normK (l : List (Int × Int)) : List (Int × Int):=mergeR (sortK (keepR l))
theorem normK_eq (l : List (Int × Int)) : normK l = normR l:=mergeR_eq (sortK_perm _) (sortK_rise _)
def addK (d : DbP) (name set : List UInt8) : Except Int DbP :=
 if nameL name = false∨name = otherL then .error 40 else
 match parseE (spcL set) with
 | .error e=>.error e
 | .ok l =>
  match d.num name with
  | some c=>if d.clash c (normK l) then .error 41 else .ok ⟨d.names,d.sets.set c (normK ((d.sets.getD c [])++normK l))⟩
  | none=>if 64≤d.names.length then .error 6 else if d.clash d.names.length (normK l) then .error 41 else .ok ⟨d.names++[name],d.sets++[normK l]⟩
theorem addK_eq (d : DbP) (n s : List UInt8) : addK d n s = addL d n s:=by
 have e : ∀ l,normK l = orR [] (normR l):=fun l=>by unfold orR;rw [normK_eq,List.nil_append,normR_of_NF (normR_NF l)]
 have e1 : ∀ a b,normK (a++b) = orR a b:=fun a b=>by rw [normK_eq];rfl
 unfold addK addL
 split
 ·rfl
 ·cases parseE (spcL s) with
  | error e=>rfl
  | ok l =>
   simp only
   cases d.num n with
   | some c=>simp only [e1,normK_eq]
   | none=>simp only;rw [e,show orR [] (normR l) = normR l by rw [← e,normK_eq]]
def stepK (d : DbP) (l : List UInt8) : Except Int DbP :=
 match lineP l with
 | .none_=>.ok d
 | .noLine=>.error 42
 | .says n s=>addK d n s
theorem stepK_eq (d : DbP) (l : List UInt8) : stepK d l = stepL d l:=by
 unfold stepK stepL
 cases lineP l with
 | none_=>rfl
 | noLine=>rfl
 | says n s=>exact addK_eq d n s
def goK (d : DbP) : List (List UInt8)→Nat→Except (Int × Nat) DbP
 | [],_=>.ok d
 | l :: r,i=>match stepK d l with
  | .error e=>.error (e,i+1)
  | .ok d'=>goK d' r (i+1)
theorem goK_eq : ∀ (L : List (List UInt8)) (d : DbP) (i : Nat),goK d L i = linesGo d L i
 | [],_,_=>rfl
 | l :: r,d,i=>by
  unfold goK linesGo
  rw [stepK_eq]
  cases stepL d l with
  | error e=>rfl
  | ok d'=>exact goK_eq r d' (i+1)
theorem new_K {t : List UInt8} {d : DbP} (hl : decide (t.length≤65536) = true) (h : goK DbP.first (splitL t) 0 = .ok d) : newP t = .ok d:=by
 unfold newP
 rw [if_neg (by have:=of_decide_eq_true hl;omega),← goK_eq,h]
end
section
section
variable {A B : List Int}
end
end
section
end
end Go.Proofs.YtglmcknlnoknoaaGreatDoor
/- -/
namespace Go.Proofs.YtglmcknlnoknoaaGreatDoor
set_option maxRecDepth 100000
set_option maxHeartbeats 40000000
section
def wCls (g : Int→Nat) (s : ByteArray) : List Int:=(runesP s).map fun x=>(g x.1 : Int)
def wPick (c : List Int) : Nat→List Nat→List Nat
 | _,[]=>[]
 | i,a :: r=>(if i = 0∨wCut c i = true then [a] else [])++wPick c (i+1) r
def wBounds (g : Int→Nat) (s : ByteArray) : List Nat:=wPick (wCls g s) 0 ((runesP s).map (·.2.1))++(if s.size = 0 then [] else [s.size])
theorem wCls_len (g : Int→Nat) (s : ByteArray) : (wCls g s).length = (runesP s).length:=by simp [wCls]
theorem wPick_append (c : List Int) : ∀ (P Q : List Nat) (i : Nat),wPick c i (P++Q) = wPick c i P++wPick c (i+P.length) Q
 | [],Q,i=>by simp [wPick]
 | a :: P,Q,i=>by
  rw [List.cons_append,wPick,wPick,wPick_append c P Q (i+1),List.append_assoc,List.length_cons,show i+1+P.length = i+(P.length+1) by omega]
end
end Go.Proofs.YtglmcknlnoknoaaGreatDoor
