/-
 Several texts in one,in their build order: Post,PrsP,PrsL,PrsC,UtfP,GraP,PrsG,GraQ,PrsD,PrsE,Fir,Last,HexR,PropsL,WorP,Ka,Kb,DbK,WorQ,UtfJ,WorR,Dw,LinP,LinQ,LinR,Dl,UtfS,UtfI,UtfL,SenP,PrsS,PrsR,PrsW,TrD,PrsT,LinV,Li,Ta,Tb,Tn.
-/
import Derived.Carry
import Derived.ChangeSame
import Derived.OpenShut
import Derived.ProofKit
import Derived.Deep.SlicePairs
import Derived.SizedLaws
import Derived.ChangeSlices
import Derived.Lib.DecodeN
import Derived.Lib.RuneCountTail
import Derived.Deep.RegionHeld3
import Derived.Deep.LoopGhost
import Derived.Deep.DeepMust
import Derived.KernelRfl
import Derived.Lib.SpaceU
import Derived.Laws.BitsAllLaws
import Derived.Laws.Bits
import Derived.Deep.CutRange
import Derived.Test.YtglmcknlnoknoaaGreatDoorV0a
/- -/
namespace Go.Proofs.YtglmcknlnoknoaaGreatDoor
set_option maxRecDepth 100000
set_option maxHeartbeats 40000000
section
open Go.ChangeShapes Go.WideShapes Go.ChangeAt Go.RowKit
section
variable {H : Type} {enc : TypeId × Value→H} {P : Program}
theorem trodAll_stays {W W' : World} {sp' : Nat→Bool} (hl : laidOutB P = true) : ∀ {ts : List TypeId} {vs : List Value} {ds : List (DataW H)} {ps : List MemPlace},(∀ t ∈ ts,P.readableRec t = true∧t < P.types.size) →
  DataW.TrodAll enc P W 0 (fun _=>true) true ts vs ds ps→(∀ p ∈ ps,W.sameAt W' p)→(∀ p ∈ ps,sp' p.block = true)→DataW.TrodAll enc P W' 0 sp' true ts vs ds ps
 | [],vs,ds,ps,_,h,_,_=>by
  obtain ⟨rfl,rfl,rfl⟩:=trodAll_nil h
  exact trodAll_mk0
 | t :: ts,vs,ds,ps,ht,h,h1,h2=>by
  obtain ⟨v,vs',d,ds',p,q,rfl,rfl,rfl,h0,hr⟩:=trodAll_cons h
  exact trodAll_cons_mk (WideElems.Trod_stays hl (ht t (by simp)).1 (ht t (by simp)).2 h0 (fun x hx=>h1 x (by simp [hx])) (fun x hx=>h2 x (by simp [hx])))
   (trodAll_stays hl (fun u hu=>ht u (by simp [hu])) hr (fun x hx=>h1 x (by simp [hx])) (fun x hx=>h2 x (by simp [hx])))
theorem post_law {f : Func} {s : ChangeSpec} {apart fresh handsOn again : Bool} {W W' : World} {args : Array Value} {ds gs : List (DataW H)} {before : List MemPlace} {tb : TypeId}
  (hl : laidOutB P = true) (hps : (f.params.toList.all fun t=>P.readableRec t && decide (t < P.types.size)) = true) (hres : f.resultTypes = #[tb]) (htb : P.underlying tb = some .bool) (hv : s.vars = [])
  (hfn : ∀ (gs' : List (DataW H)),gs' = []→s.fn H (ds++gs') = { results:=[.lit (.bool true)],args:=ds })
  (hW : DataW.Whole enc P f.params.toList s.vars apart W args.toList ds gs before) (hb : Below W.heap.size W W') :
  s.post enc P f apart fresh handsOn again W args (.bool true) W':=by
 have hlt : ∀ p ∈ before,p.block < W.heap.size:=fun p hp=>hW.lt p hp
 have hW':=hW
 obtain ⟨p,q,hA,hV,rfl,hfz,hnd⟩:=hW'
 have hA' : DataW.TrodAll enc P W 0 (fun _=>true) true f.params.toList args.toList ds p:=hA
 rw [hv] at hV
 obtain ⟨rfl,rfl⟩:=trodVars_none hV
 have hpr : ∀ t ∈ f.params.toList,P.readableRec t = true∧t < P.types.size:=fun t ht=>by
  have:=List.all_eq_true.1 hps t ht
  simpa using this
 have hres' : ∀ (b : Nat) (sp : Nat→Bool) (hd : Bool),DataW.TrodAll enc P W' b sp hd f.resultTypes.toList ((Value.bool true).resultList f.resultTypes.size) (s.fn H (ds++[])).results []:=fun b sp hd=>by
  rw [hres,hfn [] rfl]
  exact trodAll_cons_mk (shut_bool htb _) trodAll_mk0
 have hargs : ∀ sp : Nat→Bool,(∀ x ∈ p++[],sp x.block = true)→DataW.TrodAll enc P W' 0 sp true f.params.toList args.toList (s.fn H (ds++[])).args p:=fun sp hsp=>by
  rw [hfn [] rfl]
  exact trodAll_stays hl hpr hA' (fun x hx=>hb.same (hlt x (by simp [hx]))) (fun x hx=>hsp x (by simp [hx]))
 have hvars : ∀ sp : Nat→Bool,DataW.TrodVars enc P W' sp s.vars (s.fn H (ds++[])).vars []:=fun sp=>by
  rw [hv,hfn [] rfl]
  exact rfl
 have hold : ∀ x ∈ p++[],(fun b=>decide (b < W.heap.size)) x.block = true:=fun x hx=>by simpa using hlt x hx
 refine ⟨ds,[],p++[],[],p,[],hW,hres' _ _ _,hargs _ hold,hvars _,World.keptBut_mono (fun x hx=>⟨hx,?_⟩) (hb.frame (· ∈ p++[])),fun _=>?_⟩
 ·simpa using hx
 ·refine ⟨?_,_,_,([]++p)++[],⟨[]++p,[],trodAll_append (hargs _ (fun _ _=>rfl)) (hres' _ _ _),hvars _,rfl,?_,?_⟩,?_⟩
  ·exact ok_one hres rfl (okWide_bool_mk htb _)
  ·intro b off hp
   have hin : MemPlace.cell b off ∈ p++[]:=by simpa using hp
   rw [hb.frozen (hlt _ hin)]
   exact hfz b off hin
  ·intro ha
   simpa using hnd ha
  ·intro x hx _
   simpa using hx
end
end
section
inductive Pat where
 | node (op : Nat) (cs : List Nat) (ks : List Pat)
def pLetter (c : UInt8) : Bool:=(decide (65≤c.toNat) && decide (c.toNat≤90)) || (decide (97≤c.toNat) && decide (c.toNat≤122))
def pPart (c : UInt8) : Bool:=pLetter c || (decide (48≤c.toNat) && decide (c.toNat≤57)) || decide (c.toNat = 95)
def pBlank (c : UInt8) : Bool:=decide (c.toNat = 32) || decide (c.toNat = 9)
def skipB (l : List UInt8) : List UInt8:=l.dropWhile pBlank
def pName (ns : List (List UInt8)) (l : List UInt8) : Option (Nat × List UInt8) :=
 if 32 < (l.takeWhile pPart).length then none else
  match ns.findIdx? (fun x=>x == l.takeWhile pPart) with
  | none=>none
  | some i=>some (i,l.dropWhile pPart)
def listGo (ns : List (List UInt8)) : Nat→List UInt8→List Nat→Option (List Nat × List UInt8)
 | 0,_,_=>none
 | f+1,l,acc=>match skipB l with
  | []=>none
  | c :: r=>if c.toNat = 93 then some (acc,r) else if pLetter c then
    match pName ns (c :: r) with
    | none=>none
    | some (i,r2)=>listGo ns f r2 (i :: acc)
   else none
def fromP (n : Nat) (acc : List Nat) (no : Bool) : Pat:=.node 1 ((List.range n).filter fun i=>acc.contains i != no) []
def pBegins (c : UInt8) : Bool:=decide (c.toNat = 40) || decide (c.toNat = 91) || decide (c.toNat = 46) || pLetter c
def pOper (c : UInt8) : Nat:=if c.toNat = 42 then 4 else if c.toNat = 43 then 5 else if c.toNat = 63 then 6 else 0
def opsGo : Nat→Pat→List UInt8→Nat→Option (Pat × List UInt8 × Nat)
 | 0,_,_,_=>none
 | f+1,p,l,k=>match skipB l with
  | []=>some (p,[],k)
  | c :: r=>if pOper c = 0 then some (p,c :: r,k) else if 512≤k then none else opsGo f (.node (pOper c) [] [p]) r (k+1)
def seqOf : List Pat→Pat
 | []=>.node 0 [] []
 | [p]=>p
 | l=>.node 2 [] l
def altOf : List Pat→Pat
 | [p]=>p
 | l=>.node 3 [] l
mutual
def patP (ns : List (List UInt8)) : Nat→Nat→List UInt8→Nat→Option (Pat × List UInt8 × Nat)
 | 0,_,_,_=>none
 | f+1,d,l,k=>match branchP ns f d l k [] with
  | none=>none
  | some (p,l1,k1)=>altsP ns f d l1 k1 [p]
def altsP (ns : List (List UInt8)) : Nat→Nat→List UInt8→Nat→List Pat→Option (Pat × List UInt8 × Nat)
 | 0,_,_,_,_=>none
 | f+1,d,l,k,acc=>match skipB l with
  | []=>some (altOf acc,[],k)
  | c :: r=>if c.toNat = 124 then (if 512≤k then none else
    match branchP ns f d r (k+1) [] with
    | none=>none
    | some (p,l1,k1)=>altsP ns f d l1 k1 (acc++[p]))
   else if c.toNat = 41∧0 < d then some (altOf acc,c :: r,k) else none
def branchP (ns : List (List UInt8)) : Nat→Nat→List UInt8→Nat→List Pat→Option (Pat × List UInt8 × Nat)
 | 0,_,_,_,_=>none
 | f+1,d,l,k,acc=>match skipB l with
  | []=>some (seqOf acc,[],k)
  | c :: r=>if pBegins c then
    match atomP ns f d c r k with
    | none=>none
    | some (p,l1,k1)=>match opsGo f p l1 k1 with
     | none=>none
     | some (q,l2,k2)=>branchP ns f d l2 k2 (acc++[q])
   else some (seqOf acc,c :: r,k)
def atomP (ns : List (List UInt8)) : Nat→Nat→UInt8→List UInt8→Nat→Option (Pat × List UInt8 × Nat)
 | 0,_,_,_,_=>none
 | f+1,d,c,r,k =>
  if 512≤k then none else
  if c.toNat = 40 then
   (if 32≤d then none else
    match patP ns f (d+1) r (k+1) with
    | none=>none
    | some (_,[],_)=>none
    | some (p,_ :: l1,k1)=>some (p,l1,k1))
  else if c.toNat = 91 then
   (match skipB r with
   | []=>none
   | b :: r1=>match listGo ns f (if b.toNat = 94 then r1 else b :: r1) [] with
    | none=>none
    | some (acc,l1)=>some (fromP ns.length acc (decide (b.toNat = 94)),l1,k+1))
  else if c.toNat = 46 then some (fromP ns.length [] true,r,k+1)
  else match pName ns (c :: r) with
   | none=>none
   | some (i,l1)=>some (.node 1 [i] [],l1,k+1)
end
def patOf (ns : List (List UInt8)) (l : List UInt8) : Option Pat :=
 if 4096 < l.length then none else
  match patP ns (4*l.length+8) 0 l 0 with
  | none=>none
  | some (p,_,_)=>some p
structure RuleP where
 cut : Bool
 start : Bool
 stop : Bool
 left : Pat
 right : Pat
structure RsP where
 rules : List RuleP
 rest : Bool
 rested : Bool
def trimB (l : List UInt8) : List UInt8:=((l.dropWhile pBlank).reverse.dropWhile pBlank).reverse
def plainB (l : List UInt8) : List UInt8:=trimB (l.takeWhile fun c=>decide (c.toNat ≠ 35))
def pSign (c : UInt8) : Bool:=decide (c.toNat = 126) || decide (c.toNat = 47)
def signP (l : List UInt8) : Option (List UInt8 × Bool × List UInt8) :=
 match l.dropWhile (fun c=>!pSign c) with
 | []=>none
 | c :: b=>if b.any pSign then none else some (l.takeWhile (fun c=>!pSign c),decide (c.toNat = 47),b)
def restB : List UInt8:=[114,101,115,116]
def ruleLine (ns : List (List UInt8)) (x : RsP) (l : List UInt8) : Option RsP :=
 match plainB l with
 | []=>some x
 | h :: t=>match signP (h :: t) with
  | none=>none
  | some (a,cut,b)=>if x.rested then none else
   if trimB a == restB then (if trimB b == [] then some { x with rest:=cut,rested:=true } else none) else
   if 64≤x.rules.length then none else
   match patOf ns (if (trimB a).head? == some 94 then (trimB a).drop 1 else trimB a),patOf ns (if (trimB b).getLast? == some 36 then (trimB b).dropLast else trimB b) with
   | some p,some q=>some { x with rules:=x.rules++[⟨cut,(trimB a).head? == some 94,(trimB b).getLast? == some 36,p,q⟩] }
   | _,_=>none
def rulesGo (ns : List (List UInt8)) : List (List UInt8)→RsP→Option RsP
 | [],x=>some x
 | l :: r,x=>match ruleLine ns x l with
  | none=>none
  | some y=>rulesGo ns r y
def linesB : List UInt8→List UInt8→List (List UInt8)
 | [],acc=>[acc.reverse]
 | c :: r,acc=>if c.toNat = 10 then acc.reverse :: linesB r [] else linesB r (c :: acc)
def rulesP (ns : List (List UInt8)) (l : List UInt8) : Option RsP:=if 16384 < l.length then none else rulesGo ns (linesB l []) ⟨[],true,false⟩
end
section
abbrev Mtx:=Nat→Nat→Bool
def ownM : Mtx:=fun i k=>decide (i = k)
def noneM : Mtx:=fun _ _=>false
def bothM (a b : Mtx) : Mtx:=fun i k=>a i k || b i k
def behindM (n : Nat) (a b : Mtx) : Mtx:=fun i j=>(List.range n).any fun k=>a i k && b k j
def warS (k i : Nat) (m : Mtx) : Mtx:=fun x j=>m x j || (decide (x = i) && m i k && m k j)
def warRow (n k : Nat) (m : Mtx) : Mtx:=(List.range n).foldl (fun m i=>warS k i m) m
def moreM (n : Nat) (a : Mtx) : Mtx:=(List.range n).foldl (fun m k=>warRow n k m) (bothM a ownM)
def setM (c cs : List Nat) : Mtx:=fun i k=>decide (k = i+1) && ((c[i]?).map fun x=>cs.contains x).getD false
mutual
def leadsP (c : List Nat) : Pat→Mtx
 | .node op cs ks =>
  if op = 1 then setM c cs
  else if op = 2 then thenP c ks ownM
  else if op = 3 then orP c ks noneM
  else if op = 4 then moreM (c.length+1) (headP c ks)
  else if op = 5 then behindM (c.length+1) (headP c ks) (moreM (c.length+1) (headP c ks))
  else if op = 6 then bothM ownM (headP c ks)
  else ownM
def thenP (c : List Nat) : List Pat→Mtx→Mtx
 | [],m=>m
 | p :: r,m=>thenP c r (behindM (c.length+1) m (leadsP c p))
def orP (c : List Nat) : List Pat→Mtx→Mtx
 | [],m=>m
 | p :: r,m=>orP c r (bothM m (leadsP c p))
def headP (c : List Nat) : List Pat→Mtx
 | []=>ownM
 | p :: _=>leadsP c p
end
theorem warS_eq (k i : Nat) (m : Mtx) (x j : Nat) : warS k i m x j = (m x j || (decide (x = i) && m i k && m k j)):=rfl
theorem warRow_go (k : Nat) (m : Mtx) : ∀ (z : Nat) (x j : Nat),(List.range z).foldl (fun m i=>warS k i m) m x j = (m x j || (decide (x < z) && m x k && m k j))
 | 0,x,j=>by simp
 | z+1,x,j=>by
  rw [List.range_succ,List.foldl_append,List.foldl_cons,List.foldl_nil,warS_eq,warRow_go k m z x j,warRow_go k m z z k,warRow_go k m z k j]
  have e1 : decide (x < z+1) = (decide (x < z) || decide (x = z)):=by
   rw [← Bool.decide_or];congr 1;apply propext;omega
  have e2 : decide (z < z) = false:=by simp
  rw [e1,e2]
  by_cases h : x = z
  ·subst h
   cases m x j <;> cases m x k <;> cases m k j <;> simp
  ·simp [h]
theorem warRow_eq (n k : Nat) (m : Mtx) (x j : Nat) : warRow n k m x j = (m x j || (decide (x < n) && m x k && m k j)):=warRow_go k m n x j
inductive Way (n : Nat) (a : Mtx) : Nat→Nat→Prop
 | here (i : Nat) : Way n a i i
 | on {i k j : Nat} : a i k = true→k < n→Way n a k j→Way n a i j
theorem Way.trans {n : Nat} {a : Mtx} {i k j : Nat} (h : Way n a i k) (g : Way n a k j) : Way n a i j:=by
 induction h with
 | here=>exact g
 | on h1 h2 _ ih=>exact .on h1 h2 (ih g)
inductive WayZ (z : Nat) (a : Mtx) : Nat→Nat→Prop
 | none (i : Nat) : WayZ z a i i
 | one {i j : Nat} : a i j = true→WayZ z a i j
 | on {i k j : Nat} : a i k = true→k < z→WayZ z a k j→WayZ z a i j
theorem WayZ.via {z : Nat} {a : Mtx} {i j : Nat} (h : WayZ (z+1) a i j) : WayZ z a i j∨(WayZ z a i z∧WayZ z a z j):=by
 induction h with
 | none i=>exact .inl (.none i)
 | one h=>exact .inl (.one h)
 | @on i k j h1 h2 _ ih =>
  by_cases hk : k = z
  ·subst hk
   rcases ih with ih | ⟨_,ih⟩
   ·exact .inr ⟨.one h1,ih⟩
   ·exact .inr ⟨.one h1,ih⟩
  ·rcases ih with ih | ⟨ih1,ih2⟩
   ·exact .inl (.on h1 (by omega) ih)
   ·exact .inr ⟨.on h1 (by omega) ih1,ih2⟩
theorem more_go {n : Nat} {a : Mtx} : ∀ (z : Nat),z≤n→∀ (i j : Nat),i < n→j < n →
  ((List.range z).foldl (fun m k=>warRow n k m) (bothM a ownM) i j = true→Way n a i j)∧(WayZ z a i j→(List.range z).foldl (fun m k=>warRow n k m) (bothM a ownM) i j = true)
 | 0,_,i,j,hi,hj=>by
  refine ⟨fun h=>?_,fun h=>?_⟩
  ·simp only [List.range_zero,List.foldl_nil,bothM,ownM,Bool.or_eq_true,decide_eq_true_eq] at h
   rcases h with h | rfl
   ·exact .on h hj (.here _)
   ·exact .here _
  ·simp only [List.range_zero,List.foldl_nil,bothM,ownM,Bool.or_eq_true,decide_eq_true_eq]
   cases h with
   | none=>exact .inr rfl
   | one h=>exact .inl h
   | on _ h _=>exact absurd h (Nat.not_lt_zero _)
 | z+1,hz,i,j,hi,hj=>by
  have ih:=fun i j hi hj=>more_go (n:=n) (a:=a) z (by omega) i j hi hj
  rw [List.range_succ,List.foldl_append,List.foldl_cons,List.foldl_nil,warRow_eq]
  simp only [Bool.or_eq_true,Bool.and_eq_true,decide_eq_true_eq]
  refine ⟨fun h=>?_,fun h=>?_⟩
  ·rcases h with h | ⟨⟨_,h1⟩,h2⟩
   ·exact (ih i j hi hj).1 h
   ·exact ((ih i z hi (by omega)).1 h1).trans ((ih z j (by omega) hj).1 h2)
  ·rcases h.via with h | ⟨h1,h2⟩
   ·exact .inl ((ih i j hi hj).2 h)
   ·exact .inr ⟨⟨hi,(ih i z hi (by omega)).2 h1⟩,(ih z j (by omega) hj).2 h2⟩
theorem Way.z {n : Nat} {a : Mtx} {i j : Nat} (h : Way n a i j) : WayZ n a i j:=by
 induction h with
 | here i=>exact .none i
 | on h1 h2 _ ih=>exact .on h1 h2 ih
theorem more_iff {n : Nat} {a : Mtx} {i j : Nat} (hi : i < n) (hj : j < n) : moreM n a i j = true ↔ Way n a i j :=
 ⟨(more_go n (Nat.le_refl _) i j hi hj).1,fun h=>(more_go n (Nat.le_refl _) i j hi hj).2 h.z⟩
inductive Star (L : List Nat→Prop) : List Nat→Prop
 | nil : Star L []
 | app {u v : List Nat} : L u→Star L v→Star L (u++v)
mutual
def Lang : Pat→List Nat→Prop
 | .node op cs ks=>fun u =>
  if op = 1 then ∃ x,u = [x]∧x ∈ cs
  else if op = 2 then LangT ks u
  else if op = 3 then LangO ks u
  else if op = 4 then Star (LangH ks) u
  else if op = 5 then ∃ v w,u = v++w∧LangH ks v∧Star (LangH ks) w
  else if op = 6 then u = []∨LangH ks u
  else u = []
def LangT : List Pat→List Nat→Prop
 | []=>fun u=>u = []
 | p :: r=>fun u=>∃ v w,u = v++w∧Lang p v∧LangT r w
def LangO : List Pat→List Nat→Prop
 | []=>fun _=>False
 | p :: r=>fun u=>Lang p u∨LangO r u
def LangH : List Pat→List Nat→Prop
 | []=>fun u=>u = []
 | p :: _=>Lang p
end
def part (c : List Nat) (i k : Nat) : List Nat:=(c.drop i).take (k - i)
def Tells (c : List Nat) (m : Mtx) (L : List Nat→Prop) : Prop:=∀ i k,i≤c.length→k≤c.length→(m i k = true ↔ i≤k∧L (part c i k))
theorem part_app (c : List Nat) {i k j : Nat} (h1 : i≤k) (h2 : k≤j) : part c i j = part c i k++part c k j:=by
 unfold part
 rw [show j - i = (k - i)+(j - k) by omega,List.take_add,List.drop_drop,show i+(k - i) = k by omega]
theorem part_len (c : List Nat) {i k : Nat} (h2 : k≤c.length) : (part c i k).length = k - i:=by
 unfold part;rw [List.length_take,List.length_drop];omega
theorem part_nil {c : List Nat} {i k : Nat} (h1 : i≤k) (h2 : k≤c.length) (h : part c i k = []) : i = k:=by
 have:=part_len c (i:=i) h2
 rw [h] at this
 simp at this
 omega
theorem part_split {c : List Nat} {i j : Nat} {u v : List Nat} (h1 : i≤j) (h2 : j≤c.length) (h : part c i j = u++v) : i+u.length≤j∧part c i (i+u.length) = u∧part c (i+u.length) j = v:=by
 have hl:=congrArg List.length h
 rw [part_len c h2,List.length_append] at hl
 have hk : i+u.length≤j:=by omega
 have h3:=part_app c (Nat.le_add_right i u.length) hk
 rw [h] at h3
 have h4:=List.append_inj h3 (by rw [part_len c (by omega)];omega)
 exact ⟨hk,h4.1.symm,h4.2.symm⟩
theorem tells_own (c : List Nat) : Tells c ownM (fun u=>u = []):=fun i k _ hk=>by
 simp only [ownM,decide_eq_true_eq]
 refine ⟨fun h=>?_,fun h=>part_nil h.1 hk h.2⟩
 subst h
 exact ⟨Nat.le_refl _,by simp [part]⟩
theorem tells_none (c : List Nat) : Tells c noneM (fun _=>False):=fun i k _ _=>by simp [noneM]
theorem tells_both {c : List Nat} {a b : Mtx} {L M : List Nat→Prop} (ha : Tells c a L) (hb : Tells c b M) : Tells c (bothM a b) (fun u=>L u∨M u):=fun i k hi hk=>by
 simp only [bothM,Bool.or_eq_true,ha i k hi hk,hb i k hi hk]
 exact ⟨fun h=>h.elim (fun h=>⟨h.1,.inl h.2⟩) (fun h=>⟨h.1,.inr h.2⟩),fun h=>h.2.elim (fun g=>.inl ⟨h.1,g⟩) (fun g=>.inr ⟨h.1,g⟩)⟩
theorem tells_behind {c : List Nat} {a b : Mtx} {L M : List Nat→Prop} (ha : Tells c a L) (hb : Tells c b M) : Tells c (behindM (c.length+1) a b) (fun u=>∃ v w,u = v++w∧L v∧M w):=fun i j hi hj=>by
 simp only [behindM,List.any_eq_true,List.mem_range,Bool.and_eq_true]
 constructor
 ·rintro ⟨k,hk,h1,h2⟩
  have h1:=(ha i k hi (by omega)).1 h1
  have h2:=(hb k j (by omega) hj).1 h2
  exact ⟨Nat.le_trans h1.1 h2.1,_,_,part_app c h1.1 h2.1,h1.2,h2.2⟩
 ·rintro ⟨hij,v,w,h,hv,hw⟩
  obtain ⟨h1,h2,h3⟩:=part_split hij hj h
  exact ⟨i+v.length,by omega,(ha _ _ hi (by omega)).2 ⟨by omega,by rw [h2];exact hv⟩,(hb _ _ (by omega) hj).2 ⟨h1,by rw [h3];exact hw⟩⟩
theorem tells_more {c : List Nat} {a : Mtx} {L : List Nat→Prop} (ha : Tells c a L) : Tells c (moreM (c.length+1) a) (Star L):=fun i j hi hj=>by
 rw [more_iff (by omega) (by omega)]
 constructor
 ·intro h
  induction h with
  | here i=>exact ⟨Nat.le_refl _,by simp only [part,Nat.sub_self,List.take_zero];exact .nil⟩
  | @on i k j h1 h2 _ ih =>
   have h1:=(ha i k hi (by omega)).1 h1
   have ih:=ih (by omega) hj
   exact ⟨Nat.le_trans h1.1 ih.1,by rw [part_app c h1.1 ih.1];exact .app h1.2 ih.2⟩
 ·rintro ⟨hij,h⟩
  generalize hu : part c i j = u at h
  induction h generalizing i with
  | nil=>rw [part_nil hij hj hu];exact .here _
  | @app u v h1 _ ih =>
   obtain ⟨g1,g2,g3⟩:=part_split hij hj hu
   exact .on ((ha _ _ hi (by omega)).2 ⟨by omega,by rw [g2];exact h1⟩) (by omega) (ih (i+u.length) (by omega) g1 g3)
theorem tells_set (c cs : List Nat) : Tells c (setM c cs) (fun u=>∃ x,u = [x]∧x ∈ cs):=fun i k hi hk=>by
 simp only [setM,Bool.and_eq_true,decide_eq_true_eq]
 constructor
 ·rintro ⟨rfl,h⟩
  cases hx : c[i]? with
  | none=>rw [hx] at h;simp at h
  | some x =>
   rw [hx] at h
   refine ⟨by omega,x,?_,by simpa using h⟩
   have hlt:=(List.getElem?_eq_some_iff.1 hx).1
   unfold part
   rw [List.drop_eq_getElem_cons hlt,show i+1 - i = 0+1 by omega,List.take_succ_cons,List.take_zero,(List.getElem?_eq_some_iff.1 hx).2]
 ·rintro ⟨hik,x,h,hx⟩
  have hl:=congrArg List.length h
  rw [part_len c hk] at hl
  simp at hl
  obtain rfl : k = i+1:=by omega
  have hlt : i < c.length:=by omega
  unfold part at h
  rw [List.drop_eq_getElem_cons hlt,show i+1 - i = 0+1 by omega,List.take_succ_cons,List.take_zero] at h
  injection h with h
  refine ⟨rfl,?_⟩
  rw [List.getElem?_eq_getElem hlt,h]
  simpa using hx
theorem Tells.congr {c : List Nat} {m : Mtx} {L M : List Nat→Prop} (h : Tells c m L) (hLM : ∀ u,L u ↔ M u) : Tells c m M:=fun i k hi hk=>by rw [h i k hi hk,hLM]
mutual
theorem leads_tells (c : List Nat) : ∀ (p : Pat),Tells c (leadsP c p) (Lang p)
 | .node op cs ks=>by
  unfold leadsP Lang
  by_cases h1 : op = 1
  ·rw [if_pos h1];simp only [if_pos h1];exact tells_set c cs
  by_cases h2 : op = 2
  ·rw [if_neg h1,if_pos h2];simp only [if_neg h1,if_pos h2]
   exact (thenP_tells c ks (tells_own c)).congr fun u=>⟨fun ⟨v,w,e,hv,hw⟩=>by subst hv;rw [e];exact hw,fun h=>⟨[],u,rfl,rfl,h⟩⟩
  by_cases h3 : op = 3
  ·rw [if_neg h1,if_neg h2,if_pos h3];simp only [if_neg h1,if_neg h2,if_pos h3]
   exact (orP_tells c ks (tells_none c)).congr fun u=>⟨fun h=>h.elim False.elim id,.inr⟩
  by_cases h4 : op = 4
  ·rw [if_neg h1,if_neg h2,if_neg h3,if_pos h4];simp only [if_neg h1,if_neg h2,if_neg h3,if_pos h4]
   exact tells_more (headP_tells c ks)
  by_cases h5 : op = 5
  ·rw [if_neg h1,if_neg h2,if_neg h3,if_neg h4,if_pos h5];simp only [if_neg h1,if_neg h2,if_neg h3,if_neg h4,if_pos h5]
   exact tells_behind (headP_tells c ks) (tells_more (headP_tells c ks))
  by_cases h6 : op = 6
  ·rw [if_neg h1,if_neg h2,if_neg h3,if_neg h4,if_neg h5,if_pos h6];simp only [if_neg h1,if_neg h2,if_neg h3,if_neg h4,if_neg h5,if_pos h6]
   exact tells_both (tells_own c) (headP_tells c ks)
  rw [if_neg h1,if_neg h2,if_neg h3,if_neg h4,if_neg h5,if_neg h6];simp only [if_neg h1,if_neg h2,if_neg h3,if_neg h4,if_neg h5,if_neg h6]
  exact tells_own c
theorem thenP_tells (c : List Nat) : ∀ (ks : List Pat) {m : Mtx} {L : List Nat→Prop},Tells c m L→Tells c (thenP c ks m) (fun u=>∃ v w,u = v++w∧L v∧LangT ks w)
 | [],m,L,h=>by
  unfold thenP LangT
  exact h.congr fun u=>⟨fun hu=>⟨u,[],by simp,hu,rfl⟩,fun ⟨v,w,e,hv,hw⟩=>by subst hw;rw [e,List.append_nil];exact hv⟩
 | p :: r,m,L,h=>by
  unfold thenP LangT
  refine (thenP_tells c r (tells_behind h (leads_tells c p))).congr fun u=>⟨?_,?_⟩
  ·rintro ⟨_,w,rfl,⟨v1,v2,rfl,h1,h2⟩,h3⟩
   exact ⟨v1,v2++w,by simp,h1,v2,w,rfl,h2,h3⟩
  ·rintro ⟨v1,_,rfl,h1,v2,w,rfl,h2,h3⟩
   exact ⟨v1++v2,w,by simp,⟨v1,v2,rfl,h1,h2⟩,h3⟩
theorem orP_tells (c : List Nat) : ∀ (ks : List Pat) {m : Mtx} {L : List Nat→Prop},Tells c m L→Tells c (orP c ks m) (fun u=>L u∨LangO ks u)
 | [],m,L,h=>by
  unfold orP LangO
  exact h.congr fun u=>⟨.inl,fun h=>h.elim id False.elim⟩
 | p :: r,m,L,h=>by
  unfold orP LangO
  refine (orP_tells c r (tells_both h (leads_tells c p))).congr fun u=>⟨?_,?_⟩
  ·rintro ((h | h) | h)
   ·exact .inl h
   ·exact .inr (.inl h)
   ·exact .inr (.inr h)
  ·rintro (h | h | h)
   ·exact .inl (.inl h)
   ·exact .inl (.inr h)
   ·exact .inr h
theorem headP_tells (c : List Nat) : ∀ (ks : List Pat),Tells c (headP c ks) (LangH ks)
 | []=>by unfold headP LangH;exact tells_own c
 | p :: _=>by unfold headP LangH;exact leads_tells c p
end
end
section
def risesB : List Nat→Bool
 | a :: b :: r=>decide (a < b) && risesB (b :: r)
 | _=>true
theorem risesB_at : ∀ {l : List Nat} {i x y : Nat},risesB l = true→l[i]? = some x→l[i+1]? = some y→x < y
 | [],i,x,y,_,hx,_=>by simp at hx
 | [a],i,x,y,_,_,hy=>by simp at hy
 | a :: b :: r,0,x,y,h,hx,hy=>by
  simp at hx hy
  subst hx;subst hy
  unfold risesB at h
  rw [Bool.and_eq_true] at h
  exact of_decide_eq_true h.1
 | a :: b :: r,i+1,x,y,h,hx,hy=>by
  unfold risesB at h
  rw [Bool.and_eq_true] at h
  exact risesB_at h.2 (by simpa using hx) (by simpa using hy)
def formOk (op kn : Nat) : Bool:=if op = 0∨op = 1 then kn == 0 else if op = 2∨op = 3 then decide (2≤kn) else kn == 1
def nodeOk (N op : Nat) (cs : List Nat) (kn : Nat) : Bool:=decide (op≤6) && (op == 1 || cs.isEmpty) && formOk op kn && cs.all (fun c=>decide (c < N)) && risesB cs
mutual
def sizeP : Pat→Nat
 | .node _ _ ks=>1+sizeL ks
def sizeL : List Pat→Nat
 | []=>0
 | p :: r=>sizeP p+sizeL r
end
mutual
def goodP (N : Nat) : Pat→Bool
 | .node op cs ks=>nodeOk N op cs ks.length && goodL N ks
def goodL (N : Nat) : List Pat→Bool
 | []=>true
 | p :: r=>goodP N p && goodL N r
end
theorem sizeP_pos : ∀ p : Pat,1≤sizeP p
 | .node _ _ ks=>by unfold sizeP;omega
theorem sizeL_take : ∀ {ks : List Pat} {i : Nat} {p : Pat},ks[i]? = some p→sizeL (ks.take (i+1)) = sizeL (ks.take i)+sizeP p
 | [],i,p,h=>by simp at h
 | q :: r,0,p,h=>by simp at h;subst h;simp [sizeL]
 | q :: r,i+1,p,h=>by
  have:=sizeL_take (ks:=r) (i:=i) (p:=p) (by simpa using h)
  rw [List.take_succ_cons,List.take_succ_cons,sizeL,sizeL,this];omega
theorem sizeL_le : ∀ (ks : List Pat) (i : Nat),sizeL (ks.take i)≤sizeL ks
 | [],i=>by simp
 | q :: r,0=>by simp [sizeL]
 | q :: r,i+1=>by rw [List.take_succ_cons,sizeL,sizeL];have:=sizeL_le r i;omega
theorem sizeL_at {ks : List Pat} {i : Nat} {p : Pat} (h : ks[i]? = some p) : sizeL (ks.take i)+sizeP p≤sizeL ks:=by
 rw [← sizeL_take h];exact sizeL_le _ _
theorem goodL_at {N : Nat} : ∀ {ks : List Pat} {i : Nat} {p : Pat},goodL N ks = true→ks[i]? = some p→goodP N p = true
 | [],i,p,_,h=>by simp at h
 | q :: r,0,p,g,h=>by simp at h;subst h;unfold goodL at g;rw [Bool.and_eq_true] at g;exact g.1
 | q :: r,i+1,p,g,h=>by unfold goodL at g;rw [Bool.and_eq_true] at g;exact goodL_at g.2 (by simpa using h)
theorem nodeOk_mono {N M op : Nat} {cs : List Nat} {kn : Nat} (hNM : N≤M) (h : nodeOk N op cs kn = true) : nodeOk M op cs kn = true:=by
 unfold nodeOk at h ⊢
 simp only [Bool.and_eq_true,decide_eq_true_eq,Bool.or_eq_true,beq_iff_eq,List.isEmpty_iff,List.all_eq_true] at h ⊢
 obtain ⟨⟨⟨⟨h1,h2⟩,h3⟩,h4⟩,h5⟩:=h
 exact ⟨⟨⟨⟨h1,h2⟩,h3⟩,fun x hx=>Nat.lt_of_lt_of_le (h4 x hx) hNM⟩,h5⟩
mutual
theorem goodP_mono {N M : Nat} (hNM : N≤M) : ∀ {p : Pat},goodP N p = true→goodP M p = true
 | .node op cs ks,h=>by
  unfold goodP at h ⊢
  rw [Bool.and_eq_true] at h ⊢
  exact ⟨nodeOk_mono hNM h.1,goodL_mono hNM h.2⟩
theorem goodL_mono {N M : Nat} (hNM : N≤M) : ∀ {ks : List Pat},goodL N ks = true→goodL M ks = true
 | [],_=>by unfold goodL;rfl
 | p :: r,h=>by
  unfold goodL at h ⊢
  rw [Bool.and_eq_true] at h ⊢
  exact ⟨goodP_mono hNM h.1,goodL_mono hNM h.2⟩
end
theorem node_parts {N op : Nat} {cs : List Nat} {kn : Nat} (h : nodeOk N op cs kn = true) : op≤6∧(op = 1∨cs = [])∧formOk op kn = true∧(∀ (i c : Nat),cs[i]? = some c→c < N)∧risesB cs = true:=by
 unfold nodeOk at h
 simp only [Bool.and_eq_true,decide_eq_true_eq,Bool.or_eq_true,beq_iff_eq,List.isEmpty_iff,List.all_eq_true] at h
 obtain ⟨⟨⟨⟨h1,h2⟩,h3⟩,h4⟩,h5⟩:=h
 exact ⟨h1,h2,h3,fun i c hc=>h4 c (List.mem_of_getElem? hc),h5⟩
end
section
def Contig : Nat→List (Nat × Nat × Nat)→Nat→Prop
 | p,[],z=>p = z
 | p,x :: r,z=>x.2.1 = p∧p < x.2.2∧Contig x.2.2 r z
theorem runesGo_contig {s : ByteArray} : ∀ (f a : Nat),s.size≤a+f→a≤s.size→Contig a (runesGo s f a) s.size
 | 0,a,h,h2=>by simp only [runesGo,Contig];omega
 | f+1,a,h,h2=>by
  rw [runesGo]
  split
  ·rename_i hlt
   have hd:=dec_bd s a hlt
   exact ⟨rfl,by simp only;omega,runesGo_contig f _ (by simp only;omega) (by simp only;omega)⟩
  ·show a = s.size;omega
theorem runesP_contig (s : ByteArray) : Contig 0 (runesP s) s.size:=runesGo_contig _ _ (by omega) (by omega)
theorem runesGo_dec {s : ByteArray} : ∀ (f a : Nat),∀ x ∈ runesGo s f a,Utf8.decode s x.2.1 = (x.1,x.2.2 - x.2.1)
 | 0,a,x,h=>by simp [runesGo] at h
 | f+1,a,x,h=>by
  rw [runesGo] at h
  split at h
  ·rcases List.mem_cons.1 h with rfl | h
   ·simp only;rw [Nat.add_sub_cancel_left]
   ·exact runesGo_dec f _ x h
  ·simp at h
theorem decN_same {n m b0 b1 b2 b3 c1 c2 c3 R W : Nat} (h : Lib.decodeN n b0 b1 b2 b3 = (R,W)) (hv : R ≠ 65533∨W = 3) (hm : W≤m) (h1 : 2≤W→c1 = b1) (h2 : 3≤W→c2 = b2) (h3 : 4≤W→c3 = b3) :
  Lib.decodeN m b0 c1 c2 c3 = (R,W):=by
 unfold Lib.decodeN at h
 split at h
 ·rename_i g0
  injection h with hR hW
  subst hR;subst hW
  unfold Lib.decodeN;rw [if_pos g0]
 ·rename_i g0
  split at h
  ·rename_i g1
   split at h
   ·rename_i g2
    injection h with hR hW
    subst hR;subst hW
    obtain rfl:=h1 (by omega)
    unfold Lib.decodeN;rw [if_neg g0,if_pos ⟨g1.1,by omega,g1.2.2⟩,if_pos g2]
   ·injection h with hR hW
    subst hR;subst hW
    rcases hv with hv | hv <;> omega
  ·rename_i g1
   split at h
   ·rename_i g2
    split at h
    ·rename_i g3
     injection h with hR hW
     subst hR;subst hW
     obtain rfl:=h1 (by omega)
     obtain rfl:=h2 (by omega)
     unfold Lib.decodeN;rw [if_neg g0,if_neg (by omega),if_pos ⟨g2.1,⟨by omega,g2.2.1.2⟩,by omega,g2.2.2.2⟩,if_pos g3]
    ·injection h with hR hW
     subst hR;subst hW
     rcases hv with hv | hv <;> omega
   ·rename_i g2
    split at h
    ·rename_i g3
     split at h
     ·rename_i g4
      injection h with hR hW
      subst hR;subst hW
      obtain rfl:=h1 (by omega)
      obtain rfl:=h2 (by omega)
      obtain rfl:=h3 (by omega)
      unfold Lib.decodeN;rw [if_neg g0,if_neg (by omega),if_neg (by omega),if_pos ⟨g3.1,⟨by omega,g3.2.1.2⟩,⟨by omega,g3.2.2.1.2⟩,by omega,g3.2.2.2.2⟩,if_pos g4]
     ·injection h with hR hW
      subst hR;subst hW
      rcases hv with hv | hv <;> omega
    ·injection h with hR hW
     subst hR;subst hW
     rcases hv with hv | hv <;> omega
theorem decN_bad {n b0 b1 b2 b3 R W : Nat} (h : Lib.decodeN n b0 b1 b2 b3 = (R,W)) (hv : ¬ (R ≠ 65533∨W = 3)) : R = 65533∧W = 1:=by
 have hR : R = 65533:=Classical.byContradiction fun k=>hv (.inl k)
 have hW : W ≠ 3:=fun k=>hv (.inr k)
 refine ⟨hR,?_⟩
 unfold Lib.decodeN at h
 repeat' split at h
 all_goals (injection h with h1 h2;omega)
theorem decN_prefix {n m b0 b1 b2 b3 c1 c2 c3 R W : Nat} (h : Lib.decodeN n b0 b1 b2 b3 = (R,W)) (hmn : m≤n) (hm : W≤m) (h1 : 2≤m→c1 = b1) (h2 : 3≤m→c2 = b2) (h3 : 4≤m→c3 = b3) (hb : ∀ R' W',Lib.decodeN m b0 c1 c2 c3 = (R',W')→W'≤m) :
  Lib.decodeN m b0 c1 c2 c3 = (R,W):=by
 by_cases hv : R ≠ 65533∨W = 3
 ·exact decN_same h hv hm (fun k=>h1 (by omega)) (fun k=>h2 (by omega)) (fun k=>h3 (by omega))
 ·obtain ⟨⟨R',W'⟩,hD⟩ : ∃ d,Lib.decodeN m b0 c1 c2 c3 = d:=⟨_,rfl⟩
  have hw:=hb R' W' hD
  by_cases hv' : R' ≠ 65533∨W' = 3
  ·have:=decN_same (m:=n) (c1:=b1) (c2:=b2) (c3:=b3) hD hv' (by omega) (fun k=>(h1 (by omega)).symm) (fun k=>(h2 (by omega)).symm) (fun k=>(h3 (by omega)).symm)
   rw [hD,← h,this]
  ·obtain ⟨rfl,rfl⟩:=decN_bad h hv
   obtain ⟨rfl,rfl⟩:=decN_bad hD hv'
   exact hD
theorem get_prefix (s : ByteArray) {z k : Nat} (hk : k < z) : (s.extract 0 z).get! k = s.get! k:=by
 rw [← Lib.getD_get!',← Lib.getD_get!',ByteArray.data_extract,Array.toList_extract,List.extract_eq_take_drop,List.getD_eq_getElem?_getD,List.getD_eq_getElem?_getD,List.drop_zero,Nat.sub_zero,List.getElem?_take_of_lt hk]
theorem dec_prefix (s : ByteArray) {z i R W : Nat} (hz : z≤s.size) (h : Utf8.decode s i = (R,W)) (hi : i < z) (hw : i+W≤z) : Utf8.decode (s.extract 0 z) i = (R,W):=by
 have hsz : (s.extract 0 z).size = z:=by rw [ByteArray.size_extract];omega
 have hb:=dec_bd (s.extract 0 z) i (by omega)
 rw [Lib.decode_at] at h hb ⊢
 rw [hsz] at hb ⊢
 have h0:=get_prefix s (k:=i) hi
 rw [h0] at hb ⊢
 refine decN_prefix h (by omega) (by omega) (fun k=>by rw [get_prefix s (by omega)]) (fun k=>by rw [get_prefix s (by omega)]) (fun k=>by rw [get_prefix s (by omega)]) fun R' W' hD=>?_
 rw [hD] at hb
 simp only at hb;omega
theorem runesGo_prefix (s : ByteArray) {z : Nat} (hz : z≤s.size) : ∀ (f g a : Nat),s.size≤a+f→z≤a+g→a≤z→(a = z∨z = s.size∨∃ x ∈ runesGo s f a,x.2.1 = z)→runesGo (s.extract 0 z) g a = (runesGo s f a).takeWhile fun x=>decide (x.2.1 < z)
 | 0,g,a,hf,hg,ha,_=>by
  have hsz : (s.extract 0 z).size = z:=by rw [ByteArray.size_extract];omega
  rw [runesGo_end (by omega)];rfl
 | f+1,g,a,hf,hg,ha,hx=>by
  have hsz : (s.extract 0 z).size = z:=by rw [ByteArray.size_extract];omega
  by_cases haz : a = z
  ·subst haz
   rw [runesGo_end (by omega)]
   rw [runesGo]
   split
   ·rw [List.takeWhile_cons,if_neg (by simp)]
   ·rfl
  ·have hlt : a < s.size:=by omega
   have hd:=dec_bd s a hlt
   obtain ⟨⟨R,W⟩,hD⟩ : ∃ d,Utf8.decode s a = d:=⟨_,rfl⟩
   rw [hD] at hd
   simp only at hd
   have hr : runesGo s (f+1) a = (R,a,a+W) :: runesGo s f (a+W):=by rw [runesGo,if_pos hlt,hD]
   have hle : a+W≤z∧(a+W = z∨z = s.size∨∃ x ∈ runesGo s f (a+W),x.2.1 = z):=by
    rcases hx with h | h | ⟨x,hm,h⟩
    ·omega
    ·exact ⟨by omega,.inr (.inl h)⟩
    ·rw [hr] at hm
     rcases List.mem_cons.1 hm with rfl | hm
     ·simp only at h;omega
     ·have:=runesGo_bd _ _ x hm
      exact ⟨by omega,.inr (.inr ⟨x,hm,h⟩)⟩
   obtain ⟨k,rfl,hk⟩:=runesGo_step (s:=s.extract 0 z) (f:=g) (a:=a) (by omega) (by omega)
   rw [hk,hr,dec_prefix s hz hD (by omega) hle.1,List.takeWhile_cons,if_pos (by simp;omega)]
   simp only
   rw [runesGo_prefix s hz f k (a+W) (by omega) (by omega) hle.1 hle.2]
theorem runesP_prefix (s : ByteArray) {z : Nat} (hz : z≤s.size) (h : z = 0∨z = s.size∨∃ x ∈ runesP s,x.2.1 = z) : runesP (s.extract 0 z) = (runesP s).takeWhile fun x=>decide (x.2.1 < z):=by
 have hsz : (s.extract 0 z).size = z:=by rw [ByteArray.size_extract];omega
 unfold runesP
 rw [hsz]
 exact runesGo_prefix s hz s.size z 0 (by omega) (by omega) (by omega) (by rcases h with h | h;exact .inl h.symm;exact .inr h)
end
section
def pickG : List (Nat × Nat × Nat)→List Bool→List Nat
 | x :: r,b :: t=>(if b then [x.2.1] else [])++pickG r t
 | _,_=>[]
def clsG (g : Int→Nat) (r : List (Nat × Nat × Nat)) : List Nat:=r.map fun x=>g x.1
theorem pickG_snoc : ∀ (r : List (Nat × Nat × Nat)) (t : List Bool) (x : Nat × Nat × Nat) (b : Bool),t.length = r.length→pickG (r++[x]) (t++[b]) = pickG r t++(if b then [x.2.1] else [])
 | [],[],x,b,_=>by simp [pickG]
 | [],_ :: _,_,_,h=>by simp at h
 | _ :: _,[],_,_,h=>by simp at h
 | y :: r,c :: t,x,b,h=>by
  rw [List.cons_append,List.cons_append,pickG,pickG,pickG_snoc r t x b (by simpa using h),List.append_assoc]
theorem pickG_mem : ∀ {r : List (Nat × Nat × Nat)} {t : List Bool} {a : Nat},a ∈ pickG r t ↔ ∃ (k : Nat) (x : Nat × Nat × Nat),r[k]? = some x∧t[k]? = some true∧x.2.1 = a
 | [],t,a=>by simp [pickG]
 | _ :: _,[],a=>by simp [pickG]
 | x :: r,b :: t,a=>by
  rw [pickG,List.mem_append,pickG_mem (r:=r) (t:=t)]
  constructor
  ·rintro (h | ⟨k,y,h1,h2,h3⟩)
   ·cases b with
    | false=>simp at h
    | true=>simp at h;exact ⟨0,x,rfl,rfl,h.symm⟩
   ·exact ⟨k+1,y,by simpa using h1,by simpa using h2,h3⟩
  ·rintro ⟨k,y,h1,h2,h3⟩
   cases k with
   | zero=>simp at h1 h2;subst h1;subst h2;exact .inl (by simp [h3])
   | succ k=>exact .inr ⟨k,y,by simpa using h1,by simpa using h2,h3⟩
theorem runes_rise (s : ByteArray) : (runesP s).Pairwise fun x y=>x.2.1 < y.2.1:=by
 have : ∀ (f a : Nat),(runesGo s f a).Pairwise fun x y=>x.2.1 < y.2.1:=by
  intro f
  induction f with
  | zero=>intro a;exact .nil
  | succ f ih =>
   intro a
   rw [runesGo]
   split
   ·rename_i hlt
    have hd:=dec_bd s a hlt
    refine .cons (fun y hy=>?_) (ih _)
    have:=runesGo_bd _ _ y hy
    simp only;omega
   ·exact .nil
 exact this _ _
theorem clsG_len (g : Int→Nat) (r : List (Nat × Nat × Nat)) : (clsG g r).length = r.length:=by simp [clsG]
theorem pick_rise : ∀ {r : List (Nat × Nat × Nat)} {t : List Bool},(r.Pairwise fun x y=>x.2.1 < y.2.1)→(pickG r t).Pairwise (· < ·)
 | [],t,_=>by cases t <;> exact .nil
 | _ :: _,[],_=>.nil
 | x :: r,b :: t,h=>by
  rw [List.pairwise_cons] at h
  rw [pickG]
  cases b with
  | false=>exact pick_rise h.2
  | true =>
   refine .cons (fun a ha=>?_) (pick_rise h.2)
   obtain ⟨k,y,h1,_,rfl⟩:=pickG_mem.1 ha
   exact h.1 y (List.mem_of_getElem? h1)
end
section
def Ahead (start : Bool) (L : List Nat→Prop) (a : List Nat) : Prop:=∃ u v,a = u++v∧(start = true→u = [])∧L v
def Behind (stop : Bool) (L : List Nat→Prop) (b : List Nat) : Prop:=∃ u v,b = u++v∧(stop = true→v = [])∧L u
def AppliesL (r : RuleP) (a b : List Nat) : Prop:=Ahead r.start (Lang r.left) a∧Behind r.stop (Lang r.right) b
theorem snoc_inj {a b : List Nat} {x y : Nat} (h : a++[x] = b++[y]) : a = b∧x = y:=by
 have:=List.append_inj' h rfl
 exact ⟨this.1,by simpa using this.2⟩
def One (cs : List Nat) (u : List Nat) : Prop:=∃ x,u = [x]∧x ∈ cs
theorem lang_set (cs : List Nat) (ks : List Pat) (u : List Nat) : Lang (.node 1 cs ks) u ↔ One cs u:=by simp [Lang,One]
theorem lang_empty (cs : List Nat) (ks : List Pat) (u : List Nat) : Lang (.node 0 cs ks) u ↔ u = []:=by simp [Lang]
theorem lang_or (cs : List Nat) (ks : List Pat) (u : List Nat) : Lang (.node 3 cs ks) u ↔ LangO ks u:=by simp [Lang]
theorem lang_then (cs : List Nat) (ks : List Pat) (u : List Nat) : Lang (.node 2 cs ks) u ↔ LangT ks u:=by simp [Lang]
theorem lang_many (cs : List Nat) (p : Pat) (ks : List Pat) (u : List Nat) : Lang (.node 4 cs (p :: ks)) u ↔ Star (Lang p) u:=by simp [Lang,LangH]
theorem lang_may (cs : List Nat) (p : Pat) (ks : List Pat) (u : List Nat) : Lang (.node 6 cs (p :: ks)) u ↔ (u = []∨Lang p u):=by simp [Lang,LangH]
theorem Ahead.congr {s : Bool} {L M : List Nat→Prop} (h : ∀ u,L u ↔ M u) (a : List Nat) : Ahead s L a ↔ Ahead s M a :=
 ⟨fun ⟨u,v,e,hs,hl⟩=>⟨u,v,e,hs,(h v).1 hl⟩,fun ⟨u,v,e,hs,hl⟩=>⟨u,v,e,hs,(h v).2 hl⟩⟩
theorem Behind.congr {s : Bool} {L M : List Nat→Prop} (h : ∀ u,L u ↔ M u) (a : List Nat) : Behind s L a ↔ Behind s M a :=
 ⟨fun ⟨u,v,e,hs,hl⟩=>⟨u,v,e,hs,(h u).1 hl⟩,fun ⟨u,v,e,hs,hl⟩=>⟨u,v,e,hs,(h u).2 hl⟩⟩
theorem star_congr {L M : List Nat→Prop} (h : ∀ u,L u ↔ M u) (u : List Nat) : Star L u ↔ Star M u:=by
 constructor
 ·intro g
  induction g with
  | nil=>exact .nil
  | app h1 _ ih=>exact .app ((h _).1 h1) ih
 ·intro g
  induction g with
  | nil=>exact .nil
  | app h1 _ ih=>exact .app ((h _).2 h1) ih
def setQ (c : Nat) : Pat:=.node 1 [c] []
end
section
end
end Go.Proofs.YtglmcknlnoknoaaGreatDoor
/- -/
namespace Go.Proofs.YtglmcknlnoknoaaGreatDoor
set_option maxRecDepth 100000
set_option maxHeartbeats 40000000
section
def startsB (p : Pat) (c : List Nat) : List Nat:=(List.range (c.length+1)).filter fun i=>leadsP c p i c.length
def endsB (p : Pat) (c : List Nat) : List Nat:=(List.range (c.length+1)).filter fun i=>leadsP c p 0 i
def appliesB (r : RuleP) (c : List Nat) (at_ : Nat) : Bool :=
 !(startsB r.left (c.take at_)).isEmpty && !(endsB r.right (c.drop at_)).isEmpty && (!r.start || (startsB r.left (c.take at_)).contains 0) && (!r.stop || (endsB r.right (c.drop at_)).contains (c.length - at_))
theorem mem_starts {p : Pat} {c : List Nat} {i : Nat} : i ∈ startsB p c ↔ i≤c.length∧Lang p (c.drop i):=by
 unfold startsB
 rw [List.mem_filter,List.mem_range]
 constructor
 ·rintro ⟨h1,h2⟩
  have:=((leads_tells c p) i c.length (by omega) (Nat.le_refl _)).1 h2
  refine ⟨by omega,?_⟩
  have h3:=this.2
  unfold part at h3
  rwa [List.take_of_length_le (by rw [List.length_drop];omega)] at h3
 ·rintro ⟨h1,h2⟩
  refine ⟨by omega,((leads_tells c p) i c.length h1 (Nat.le_refl _)).2 ⟨h1,?_⟩⟩
  unfold part
  rwa [List.take_of_length_le (by rw [List.length_drop];omega)]
theorem mem_ends {p : Pat} {c : List Nat} {i : Nat} : i ∈ endsB p c ↔ i≤c.length∧Lang p (c.take i):=by
 unfold endsB
 rw [List.mem_filter,List.mem_range]
 constructor
 ·rintro ⟨h1,h2⟩
  have:=((leads_tells c p) 0 i (Nat.zero_le _) (by omega)).1 h2
  refine ⟨by omega,?_⟩
  have h3:=this.2
  unfold part at h3
  simpa using h3
 ·rintro ⟨h1,h2⟩
  refine ⟨by omega,((leads_tells c p) 0 i (Nat.zero_le _) h1).2 ⟨Nat.zero_le _,?_⟩⟩
  unfold part
  simpa using h2
theorem ahead_iff {p : Pat} {c : List Nat} {s : Bool} : Ahead s (Lang p) c ↔ ∃ i ∈ startsB p c,s = true→i = 0:=by
 constructor
 ·rintro ⟨u,v,rfl,hs,hl⟩
  refine ⟨u.length,mem_starts.2 ⟨by simp,by simpa using hl⟩,fun h=>by rw [hs h];rfl⟩
 ·rintro ⟨i,hi,hs⟩
  obtain ⟨h1,h2⟩:=mem_starts.1 hi
  exact ⟨c.take i,c.drop i,(List.take_append_drop i c).symm,fun h=>by rw [hs h];rfl,h2⟩
theorem behind_iff {p : Pat} {c : List Nat} {s : Bool} : Behind s (Lang p) c ↔ ∃ i ∈ endsB p c,s = true→i = c.length:=by
 constructor
 ·rintro ⟨u,v,rfl,hs,hl⟩
  refine ⟨u.length,mem_ends.2 ⟨by simp,by simpa using hl⟩,fun h=>by rw [hs h];simp⟩
 ·rintro ⟨i,hi,hs⟩
  obtain ⟨h1,h2⟩:=mem_ends.1 hi
  exact ⟨c.take i,c.drop i,(List.take_append_drop i c).symm,fun h=>by rw [hs h];simp,h2⟩
theorem applies_iff (r : RuleP) (c : List Nat) {at_ : Nat} : appliesB r c at_ = true ↔ AppliesL r (c.take at_) (c.drop at_):=by
 unfold AppliesL appliesB
 rw [ahead_iff,behind_iff,List.length_drop]
 have key : ∀ (l : List Nat) (b : Bool) (z : Nat),(∃ i ∈ l,b = true→i = z) ↔ (!l.isEmpty && (!b || l.contains z)) = true:=fun l b z=>by
  cases b with
  | false =>
   cases l with
   | nil=>simp
   | cons a r=>simp
  | true =>
   simp only [forall_const,Bool.not_true,Bool.false_or,Bool.and_eq_true,List.contains_iff_mem]
   constructor
   ·rintro ⟨i,hi,rfl⟩
    exact ⟨by cases l with | nil=>cases hi | cons=>rfl,hi⟩
   ·rintro ⟨_,hi⟩
    exact ⟨z,hi,rfl⟩
 rw [key,key]
 simp only [Bool.and_eq_true]
 exact ⟨fun ⟨⟨⟨a,b⟩,c⟩,d⟩=>⟨⟨a,c⟩,⟨b,d⟩⟩,fun ⟨⟨a,c⟩,⟨b,d⟩⟩=>⟨⟨⟨a,b⟩,c⟩,d⟩⟩
def decideB (rest : Bool) (c : List Nat) (at_ : Nat) : List RuleP→Bool
 | []=>rest
 | r :: l=>if appliesB r c at_ then r.cut else decideB rest c at_ l
end
section
inductive El where
 | one (cs : List Nat)
 | many (cs : List Nat)
 | may (cs : List Nat)
def elL : El→List Nat→Prop
 | .one cs,u=>One cs u
 | .many cs,u=>∀ x ∈ u,x ∈ cs
 | .may cs,u=>u = []∨One cs u
def elsL : List El→List Nat→Prop
 | [],u=>u = []
 | e :: es,u=>∃ v w,u = v++w∧elL e v∧elsL es w
def eat : List El→List Nat→Bool
 | [],_=>true
 | .one _ :: _,[]=>false
 | .one cs :: es,x :: r=>cs.contains x && eat es r
 | .many cs :: es,r=>eat es (r.dropWhile fun x=>cs.contains x)
 | .may _ :: es,[]=>eat es []
 | .may cs :: es,x :: r=>if cs.contains x then eat es r else eat es (x :: r)
def skips : List El→Nat→Bool
 | [],_=>true
 | .one cs :: _,x=>!cs.contains x
 | .many cs :: es,x=>cs.contains x || skips es x
 | .may cs :: es,x=>cs.contains x || skips es x
def okE : List El→Bool
 | []=>true
 | .one _ :: es=>okE es
 | .many cs :: es=>cs.all (skips es) && okE es
 | .may cs :: es=>cs.all (skips es) && okE es
theorem drop_grow {cs : List Nat} {K : List Nat→Bool} (h : ∀ x r,x ∈ cs→K (x :: r) = true→K r = true) : ∀ r,K r = true→K (r.dropWhile fun x=>cs.contains x) = true
 | [],hk=>hk
 | x :: r,hk=>by
  rw [List.dropWhile_cons]
  split
  ·rename_i hx
   exact drop_grow h r (h x r (by simpa using hx) hk)
  ·exact hk
theorem may_grow {cs : List Nat} {es : List El} (h : ∀ x r,x ∈ cs→eat es (x :: r) = true→eat es r = true) : ∀ r,eat es r = true→eat (.may cs :: es) r = true
 | [],hk=>by rw [eat];exact hk
 | x :: r,hk=>by
  rw [eat]
  split
  ·rename_i hx
   exact h x r (by simpa using hx) hk
  ·exact hk
theorem skip_ok : ∀ (es : List El),okE es = true→∀ x r,skips es x = true→eat es (x :: r) = true→eat es r = true
 | [],_,_,_,_,_=>by rw [eat]
 | .one cs :: es,_,x,r,hs,he=>by
  rw [eat] at he
  rw [skips] at hs
  rw [Bool.not_eq_true'] at hs
  rw [hs] at he
  cases he
 | .many cs :: es,ho,x,r,hs,he=>by
  rw [okE,Bool.and_eq_true,List.all_eq_true] at ho
  rw [skips] at hs
  rw [eat] at he ⊢
  rw [List.dropWhile_cons] at he
  cases hx : cs.contains x with
  | true=>rw [if_pos hx] at he;exact he
  | false =>
   rw [if_neg (by rw [hx];simp)] at he
   rw [hx,Bool.false_or] at hs
   exact drop_grow (fun y r hy hk=>skip_ok es ho.2 y r (ho.1 y hy) hk) r (skip_ok es ho.2 x r hs he)
 | .may cs :: es,ho,x,r,hs,he=>by
  rw [okE,Bool.and_eq_true,List.all_eq_true] at ho
  rw [skips] at hs
  rw [eat] at he
  have hg:=may_grow (cs:=cs) (es:=es) (fun y r hy hk=>skip_ok es ho.2 y r (ho.1 y hy) hk)
  cases hx : cs.contains x with
  | true=>rw [if_pos hx] at he;exact hg r he
  | false =>
   rw [if_neg (by rw [hx];simp)] at he
   rw [hx,Bool.false_or] at hs
   exact hg r (skip_ok es ho.2 x r hs he)
theorem drop_run {cs : List Nat} : ∀ (v r : List Nat),(∀ x ∈ v,x ∈ cs)→((v++r).dropWhile fun x=>cs.contains x) = r.dropWhile fun x=>cs.contains x
 | [],_,_=>rfl
 | x :: v,r,h=>by
  rw [List.cons_append,List.dropWhile_cons,if_pos (by simpa using h x (by simp))]
  exact drop_run v r fun y hy=>h y (List.mem_cons_of_mem _ hy)
theorem take_in (cs : List Nat) : ∀ (r : List Nat),∀ x ∈ r.takeWhile (fun x=>cs.contains x),x ∈ cs
 | [],x,h=>by simp at h
 | y :: r,x,h=>by
  rw [List.takeWhile_cons] at h
  split at h
  ·rename_i hy
   rcases List.mem_cons.1 h with rfl | h
   ·simpa using hy
   ·exact take_in cs r x h
  ·simp at h
theorem eat_iff : ∀ (es : List El),okE es = true→∀ r,eat es r = true ↔ ∃ v u,r = v++u∧elsL es v
 | [],_,r=>by rw [eat];exact ⟨fun _=>⟨[],r,rfl,rfl⟩,fun _=>rfl⟩
 | .one cs :: es,ho,r=>by
  rw [okE] at ho
  constructor
  ·intro h
   cases r with
   | nil=>rw [eat] at h;cases h
   | cons x r =>
    rw [eat,Bool.and_eq_true] at h
    obtain ⟨v,u,rfl,hv⟩:=(eat_iff es ho r).1 h.2
    exact ⟨x :: v,u,rfl,[x],v,rfl,⟨x,rfl,by simpa using h.1⟩,hv⟩
  ·rintro ⟨_,u,rfl,_,v,rfl,⟨x,rfl,hx⟩,hv⟩
   rw [List.append_assoc,List.singleton_append,eat,Bool.and_eq_true]
   exact ⟨by simpa using hx,(eat_iff es ho _).2 ⟨v,u,rfl,hv⟩⟩
 | .many cs :: es,ho,r=>by
  rw [okE,Bool.and_eq_true,List.all_eq_true] at ho
  rw [eat]
  constructor
  ·intro h
   obtain ⟨v,u,e,hv⟩:=(eat_iff es ho.2 _).1 h
   refine ⟨r.takeWhile (fun x=>cs.contains x)++v,u,?_,_,v,rfl,take_in cs r,hv⟩
   rw [List.append_assoc,← e,List.takeWhile_append_dropWhile]
  ·rintro ⟨_,u,rfl,w,v,rfl,hw,hv⟩
   rw [List.append_assoc,drop_run w _ hw]
   exact drop_grow (fun y r hy hk=>skip_ok es ho.2 y r (ho.1 y hy) hk) _ ((eat_iff es ho.2 _).2 ⟨v,u,rfl,hv⟩)
 | .may cs :: es,ho,r=>by
  rw [okE,Bool.and_eq_true,List.all_eq_true] at ho
  constructor
  ·intro h
   cases r with
   | nil =>
    rw [eat] at h
    obtain ⟨v,u,e,hv⟩:=(eat_iff es ho.2 _).1 h
    exact ⟨v,u,e,[],v,rfl,.inl rfl,hv⟩
   | cons x r =>
    rw [eat] at h
    split at h
    ·rename_i hx
     obtain ⟨v,u,rfl,hv⟩:=(eat_iff es ho.2 _).1 h
     exact ⟨x :: v,u,rfl,[x],v,rfl,.inr ⟨x,rfl,by simpa using hx⟩,hv⟩
    ·obtain ⟨v,u,e,hv⟩:=(eat_iff es ho.2 _).1 h
     exact ⟨v,u,e,[],v,rfl,.inl rfl,hv⟩
  ·rintro ⟨_,u,rfl,_,v,rfl,rfl | ⟨x,rfl,hx⟩,hv⟩
   ·rw [List.nil_append]
    exact may_grow (fun y r hy hk=>skip_ok es ho.2 y r (ho.1 y hy) hk) _ ((eat_iff es ho.2 _).2 ⟨v,u,rfl,hv⟩)
   ·rw [List.append_assoc,List.singleton_append,eat,if_pos (by simpa using hx)]
    exact (eat_iff es ho.2 _).2 ⟨v,u,rfl,hv⟩
theorem els_app : ∀ (a b : List El) (u : List Nat),elsL (a++b) u ↔ ∃ v w,u = v++w∧elsL a v∧elsL b w
 | [],b,u=>by
  constructor
  ·intro h;exact ⟨[],u,rfl,rfl,h⟩
  ·rintro ⟨_,w,rfl,rfl,h⟩;exact h
 | e :: a,b,u=>by
  rw [List.cons_append,elsL]
  constructor
  ·rintro ⟨v,w,rfl,hv,hw⟩
   obtain ⟨x,y,rfl,hx,hy⟩:=(els_app a b w).1 hw
   exact ⟨v++x,y,by rw [List.append_assoc],⟨v,x,rfl,hv,hx⟩,hy⟩
  ·rintro ⟨_,w,rfl,⟨v,x,rfl,hv,hx⟩,hw⟩
   exact ⟨v,x++w,by rw [List.append_assoc],hv,(els_app a b _).2 ⟨x,w,rfl,hx,hw⟩⟩
theorem el_rev (e : El) (u : List Nat) : elL e u.reverse ↔ elL e u:=by
 cases e with
 | one cs=>simp only [elL,One,List.reverse_eq_iff,List.reverse_singleton]
 | many cs=>simp [elL]
 | may cs=>simp only [elL,One,List.reverse_eq_iff,List.reverse_singleton,List.reverse_nil]
theorem els_rev : ∀ (es : List El) (u : List Nat),elsL es.reverse u.reverse ↔ elsL es u
 | [],u=>by simp [elsL]
 | e :: es,u=>by
  rw [List.reverse_cons,els_app]
  constructor
  ·rintro ⟨v,w,h,hv,x,y,rfl,hx,rfl⟩
   rw [List.append_nil] at h
   have h2 : u = x.reverse++v.reverse:=by rw [← List.reverse_append,← h,List.reverse_reverse]
   exact ⟨x.reverse,v.reverse,h2,(el_rev e x).2 hx,(els_rev es v.reverse).1 (by rw [List.reverse_reverse];exact hv)⟩
  ·rintro ⟨v,w,rfl,hv,hw⟩
   exact ⟨w.reverse,v.reverse,by rw [List.reverse_append],(els_rev es w).2 hw,v.reverse,[],by simp,(el_rev e v).2 hv,rfl⟩
theorem ahead_els {es : List El} (ho : okE es.reverse = true) (a : List Nat) : Ahead false (elsL es) a ↔ eat es.reverse a.reverse = true:=by
 rw [eat_iff _ ho]
 constructor
 ·rintro ⟨u,v,rfl,_,hv⟩
  exact ⟨v.reverse,u.reverse,by rw [List.reverse_append],(els_rev es v).2 hv⟩
 ·rintro ⟨v,u,h,hv⟩
  refine ⟨u.reverse,v.reverse,by rw [← List.reverse_append,← h,List.reverse_reverse],(fun h=>by cases h),(els_rev es v.reverse).1 (by rw [List.reverse_reverse];exact hv)⟩
theorem behind_els {es : List El} (ho : okE es = true) (b : List Nat) : Behind false (elsL es) b ↔ eat es b = true:=by
 rw [eat_iff _ ho]
 exact ⟨fun ⟨u,v,e,_,h⟩=>⟨u,v,e,h⟩,fun ⟨u,v,e,h⟩=>⟨u,v,e,(fun h=>by cases h),h⟩⟩
def oneP : Pat→Option (List Nat)
 | .node 1 cs _=>some cs
 | _=>none
def onesP : List Pat→Option (List Nat)
 | []=>some []
 | p :: r=>match oneP p,onesP r with
  | some a,some b=>some (a++b)
  | _,_=>none
def setP1 : Pat→Option (List Nat)
 | .node 1 cs _=>some cs
 | .node 3 _ ks=>onesP ks
 | _=>none
def elP : Pat→Option El
 | .node 4 _ [p]=>(setP1 p).map .many
 | .node 6 _ [p]=>(setP1 p).map .may
 | p=>(setP1 p).map .one
def elsP1 : List Pat→Option (List El)
 | []=>some []
 | p :: r=>match elP p,elsP1 r with
  | some a,some b=>some (a :: b)
  | _,_=>none
def elsP : Pat→Option (List El)
 | .node 0 _ _=>some []
 | .node 2 _ ks=>elsP1 ks
 | p=>(elP p).map fun e=>[e]
theorem oneP_ok {p : Pat} {cs : List Nat} (h : oneP p = some cs) (u : List Nat) : Lang p u ↔ One cs u:=by
 unfold oneP at h
 split at h
 ·injection h with h;subst h;exact lang_set _ _ u
 ·cases h
theorem onesP_ok : ∀ {l : List Pat} {cs : List Nat},onesP l = some cs→∀ u,LangO l u ↔ One cs u
 | [],cs,h,u=>by
  rw [onesP] at h;injection h with h;subst h
  simp [LangO,One]
 | p :: r,cs,h,u=>by
  rw [onesP] at h
  split at h
  ·rename_i a b ha hb
   injection h with h;subst h
   rw [LangO]
   show (Lang p u∨LangO r u) ↔ _
   rw [oneP_ok ha,onesP_ok hb]
   unfold One
   constructor
   ·rintro (⟨x,e,h⟩ | ⟨x,e,h⟩)
    ·exact ⟨x,e,List.mem_append.2 (.inl h)⟩
    ·exact ⟨x,e,List.mem_append.2 (.inr h)⟩
   ·rintro ⟨x,e,h⟩
    rcases List.mem_append.1 h with h | h
    ·exact .inl ⟨x,e,h⟩
    ·exact .inr ⟨x,e,h⟩
  ·cases h
theorem setP1_ok {p : Pat} {cs : List Nat} (h : setP1 p = some cs) (u : List Nat) : Lang p u ↔ One cs u:=by
 unfold setP1 at h
 split at h
 ·injection h with h;subst h;exact lang_set _ _ u
 ·rw [lang_or];exact onesP_ok h u
 ·cases h
theorem star_set (cs : List Nat) (u : List Nat) : Star (One cs) u ↔ ∀ x ∈ u,x ∈ cs:=by
 constructor
 ·intro h
  induction h with
  | nil=>simp
  | app h1 _ ih =>
   obtain ⟨x,rfl,hx⟩:=h1
   intro y hy
   rcases List.mem_cons.1 hy with rfl | hy
   ·exact hx
   ·exact ih y hy
 ·intro h
  induction u with
  | nil=>exact .nil
  | cons x u ih=>exact .app (u:=[x]) ⟨x,rfl,h x (by simp)⟩ (ih fun y hy=>h y (List.mem_cons_of_mem _ hy))
theorem elP_ok {p : Pat} {e : El} (h : elP p = some e) (u : List Nat) : Lang p u ↔ elL e u:=by
 unfold elP at h
 split at h
 ·obtain ⟨cs,h1,rfl⟩:=Option.map_eq_some_iff.1 h
  rw [lang_many,elL,← star_set]
  exact star_congr (setP1_ok h1) u
 ·obtain ⟨cs,h1,rfl⟩:=Option.map_eq_some_iff.1 h
  rw [lang_may,elL,setP1_ok h1]
 ·obtain ⟨cs,h1,rfl⟩:=Option.map_eq_some_iff.1 h
  rw [elL,setP1_ok h1]
theorem elsP1_ok : ∀ {l : List Pat} {es : List El},elsP1 l = some es→∀ u,LangT l u ↔ elsL es u
 | [],es,h,u=>by rw [elsP1] at h;injection h with h;subst h;simp [LangT,elsL]
 | p :: r,es,h,u=>by
  rw [elsP1] at h
  split at h
  ·rename_i a b ha hb
   injection h with h;subst h
   rw [LangT,elsL]
   constructor
   ·rintro ⟨v,w,e,h1,h2⟩
    exact ⟨v,w,e,(elP_ok ha v).1 h1,(elsP1_ok hb w).1 h2⟩
   ·rintro ⟨v,w,e,h1,h2⟩
    exact ⟨v,w,e,(elP_ok ha v).2 h1,(elsP1_ok hb w).2 h2⟩
  ·cases h
theorem elsP_ok {p : Pat} {es : List El} (h : elsP p = some es) (u : List Nat) : Lang p u ↔ elsL es u:=by
 unfold elsP at h
 split at h
 ·injection h with h;subst h;rw [lang_empty];rfl
 ·rw [lang_then];exact elsP1_ok h u
 ·obtain ⟨e,h1,rfl⟩:=Option.map_eq_some_iff.1 h
  rw [elsL,elP_ok h1]
  constructor
  ·intro h;exact ⟨u,[],by simp,h,rfl⟩
  ·rintro ⟨v,_,rfl,h,rfl⟩;rw [List.append_nil];exact h
theorem behind_pat {p : Pat} {es : List El} (h : elsP p = some es) (ho : okE es = true) (b : List Nat) : Behind false (Lang p) b ↔ eat es b = true:=(Behind.congr (elsP_ok h) b).trans (behind_els ho b)
structure RB where
 cut : Bool
 f : List Nat→Bool
 g : List Nat→Bool
structure Eats (r : RuleP) (x : RB) : Prop where
 cut : r.cut = x.cut
 left : ∀ a,Ahead r.start (Lang r.left) a ↔ x.f a.reverse = true
 right : ∀ b,Behind r.stop (Lang r.right) b ↔ x.g b = true
inductive EatsL : List RuleP→List RB→Prop
 | nil : EatsL [] []
 | cons {r : RuleP} {x : RB} {l : List RuleP} {m : List RB} : Eats r x→EatsL l m→EatsL (r :: l) (x :: m)
def decF (rest : Bool) (r b : List Nat) : List RB→Bool
 | []=>rest
 | x :: l=>if x.f r && x.g b then x.cut else decF rest r b l
theorem decide_F (rest : Bool) (c : List Nat) (i : Nat) {l : List RuleP} {m : List RB} (h : EatsL l m) : decideB rest c i l = decF rest (c.take i).reverse (c.drop i) m:=by
 induction h with
 | nil=>rfl
 | @cons r x l m h1 _ ih =>
  have e : appliesB r c i = (x.f (c.take i).reverse && x.g (c.drop i)):=by
   rw [Bool.eq_iff_iff,applies_iff,Bool.and_eq_true]
   exact and_congr (h1.left _) (h1.right _)
  rw [decideB,decF,e,h1.cut,ih]
theorem Eats.els {r : RuleP} {cut : Bool} {es fs : List El} (hc : r.cut = cut) (hs : r.start = false) (ht : r.stop = false) (h1 : ∀ u,Lang r.left u ↔ elsL es.reverse u) (h2 : ∀ u,Lang r.right u ↔ elsL fs u) (o1 : okE es = true) (o2 : okE fs = true) : Eats r ⟨cut,eat es,eat fs⟩ :=
 ⟨hc,fun a=>by
  rw [hs]
  have:=ahead_els (es:=es.reverse) (by rw [List.reverse_reverse];exact o1) a
  rw [List.reverse_reverse] at this
  exact (Ahead.congr h1 a).trans this,fun b=>by rw [ht];exact (Behind.congr h2 b).trans (behind_els o2 b)⟩
theorem Eats.pat {cut : Bool} {p q : Pat} {es fs : List El} (h1 : elsP p = some es.reverse) (h2 : elsP q = some fs) (o1 : okE es = true) (o2 : okE fs = true) : Eats ⟨cut,false,false,p,q⟩ ⟨cut,eat es,eat fs⟩ :=
 Eats.els rfl rfl rfl (elsP_ok h1) (elsP_ok h2) o1 o2
def boundsX (cut : List Nat→Nat→Bool) (g : Int→Nat) (s : ByteArray) : List Nat :=
 if s.size = 0 then [] else pickG (runesP s) ((List.range (runesP s).length).map fun i=>decide (i = 0) || cut (clsG g (runesP s)) i)++[s.size]
end
section
mutual
def revP : Pat→Pat
 | .node op cs ks=>.node op cs (if op = 2 then (revL ks).reverse else revL ks)
def revL : List Pat→List Pat
 | []=>[]
 | p :: r=>revP p :: revL r
end
mutual
def someB : Pat→Bool
 | .node op cs ks=>if op = 1 then !cs.isEmpty else if op = 2 then someT ks else if op = 3 then someO ks else if op = 5 then someH ks else true
def someT : List Pat→Bool
 | []=>true
 | p :: r=>someB p && someT r
def someO : List Pat→Bool
 | []=>false
 | p :: r=>someB p || someO r
def someH : List Pat→Bool
 | []=>true
 | p :: _=>someB p
end
def emptyB (p : Pat) : Bool:=(endsB p []).contains 0
mutual
def firstsB : Pat→List Nat
 | .node op cs ks=>if op = 0 then [] else if op = 1 then cs else firstsL (decide (op = 2)) ks
def firstsL (t : Bool) : List Pat→List Nat
 | []=>[]
 | p :: r=>(if someB p && (!t || someT r) then firstsB p else [])++(if t && !emptyB p then [] else firstsL t r)
end
def insU (out : List Nat) (x : Nat) : List Nat:=if out[(out.takeWhile fun y=>decide (y < x)).length]? = some x then out else out.take (out.takeWhile fun y=>decide (y < x)).length++x :: out.drop (out.takeWhile fun y=>decide (y < x)).length
def sortU (l : List Nat) : List Nat:=l.foldl insU []
theorem mem_insU {out : List Nat} {x y : Nat} : y ∈ insU out x ↔ y ∈ out∨y = x:=by
 unfold insU
 split
 ·rename_i h
  exact ⟨.inl,fun h'=>h'.elim id fun e=>e ▸ List.mem_of_getElem? h⟩
 ·generalize (out.takeWhile fun y=>decide (y < x)).length = k
  rw [List.mem_append,List.mem_cons]
  conv=>rhs;rw [← List.take_append_drop k out,List.mem_append]
  constructor
  ·rintro (h | h | h)
   ·exact .inl (.inl h)
   ·exact .inr h
   ·exact .inl (.inr h)
  ·rintro ((h | h) | h)
   ·exact .inl h
   ·exact .inr (.inr h)
   ·exact .inr (.inl h)
theorem mem_sort_go : ∀ (l out : List Nat) (y : Nat),y ∈ l.foldl insU out ↔ y ∈ out∨y ∈ l
 | [],out,y=>by simp
 | x :: l,out,y=>by
  rw [List.foldl_cons,mem_sort_go l,mem_insU,List.mem_cons,or_assoc]
theorem mem_sortU {l : List Nat} {y : Nat} : y ∈ sortU l ↔ y ∈ l:=by
 unfold sortU;rw [mem_sort_go];simp
theorem empty_sound {p : Pat} (h : Lang p []) : emptyB p = true:=by
 unfold emptyB
 rw [List.contains_iff_mem,mem_ends]
 exact ⟨Nat.le_refl _,by simpa using h⟩
mutual
theorem some_sound : ∀ (p : Pat) (u : List Nat),Lang p u→someB p = true
 | .node op cs ks,u,h=>by
  unfold Lang at h
  unfold someB
  by_cases h1 : op = 1
  ·rw [if_pos h1]
   simp only [if_pos h1] at h
   obtain ⟨x,_,hx⟩:=h
   cases cs with
   | nil=>cases hx
   | cons=>rfl
  by_cases h2 : op = 2
  ·rw [if_neg h1,if_pos h2]
   simp only [if_neg h1,if_pos h2] at h
   exact someT_sound ks u h
  by_cases h3 : op = 3
  ·rw [if_neg h1,if_neg h2,if_pos h3]
   simp only [if_neg h1,if_neg h2,if_pos h3] at h
   exact someO_sound ks u h
  by_cases h5 : op = 5
  ·rw [if_neg h1,if_neg h2,if_neg h3,if_pos h5]
   simp only [if_neg h1,if_neg h2,if_neg h3,if_neg (show ¬ op = 4 by omega),if_pos h5] at h
   obtain ⟨v,w,_,hv,_⟩:=h
   exact someH_sound ks v hv
  rw [if_neg h1,if_neg h2,if_neg h3,if_neg h5]
theorem someT_sound : ∀ (ks : List Pat) (u : List Nat),LangT ks u→someT ks = true
 | [],_,_=>by unfold someT;rfl
 | p :: r,u,h=>by
  unfold LangT at h
  obtain ⟨v,w,_,hv,hw⟩:=h
  unfold someT
  rw [some_sound p v hv,someT_sound r w hw];rfl
theorem someO_sound : ∀ (ks : List Pat) (u : List Nat),LangO ks u→someO ks = true
 | [],_,h=>by unfold LangO at h;exact h.elim
 | p :: r,u,h=>by
  unfold LangO at h
  unfold someO
  rcases h with h | h
  ·rw [some_sound p u h];rfl
  ·rw [someO_sound r u h,Bool.or_true]
theorem someH_sound : ∀ (ks : List Pat) (u : List Nat),LangH ks u→someH ks = true
 | [],_,_=>by unfold someH;rfl
 | p :: _,u,h=>by
  unfold LangH at h
  unfold someH
  exact some_sound p u h
end
theorem star_cons {L : List Nat→Prop} {x : Nat} {u t : List Nat} (h : Star L t) (e : t = x :: u) : ∃ v,L (x :: v):=by
 induction h with
 | nil=>cases e
 | @app a b h1 _ ih =>
  cases a with
  | nil=>exact ih (by simpa using e)
  | cons y a =>
   rw [List.cons_append] at e
   injection e with e1 _
   subst e1
   exact ⟨a,h1⟩
theorem firsts_or (t : Bool) {p : Pat} {r : List Pat} {x : Nat} (hs : someB p = true) (ht : t = false) (h : x ∈ firstsB p) : x ∈ firstsL t (p :: r):=by
 unfold firstsL
 rw [hs,ht]
 simp [h]
mutual
theorem first_sound : ∀ (p : Pat) (x : Nat) (u : List Nat),Lang p (x :: u)→x ∈ firstsB p
 | .node op cs ks,x,u,h=>by
  unfold Lang at h
  unfold firstsB
  by_cases h1 : op = 1
  ·rw [if_neg (by omega),if_pos h1]
   simp only [if_pos h1] at h
   obtain ⟨y,e,hy⟩:=h
   injection e with e _
   rw [e];exact hy
  by_cases h2 : op = 2
  ·rw [if_neg (by omega),if_neg h1,decide_eq_true h2]
   simp only [if_neg h1,if_pos h2] at h
   exact firstT_sound ks x u h
  have hd : decide (op = 2) = false:=decide_eq_false h2
  by_cases h3 : op = 3
  ·rw [if_neg (by omega),if_neg h1,hd]
   simp only [if_neg h1,if_neg h2,if_pos h3] at h
   exact firstO_sound ks x u h
  by_cases h4 : op = 4
  ·rw [if_neg (by omega),if_neg h1,hd]
   simp only [if_neg h1,if_neg h2,if_neg h3,if_pos h4] at h
   obtain ⟨v,hv⟩:=star_cons h rfl
   exact firstH_sound ks x v hv
  by_cases h5 : op = 5
  ·rw [if_neg (by omega),if_neg h1,hd]
   simp only [if_neg h1,if_neg h2,if_neg h3,if_neg h4,if_pos h5] at h
   obtain ⟨v,w,e,hv,hw⟩:=h
   obtain ⟨z,hz⟩ : ∃ z,LangH ks (x :: z):=by
    cases v with
    | nil=>exact star_cons hw (by simpa using e.symm)
    | cons y v =>
     rw [List.cons_append] at e
     injection e with e1 _
     subst e1
     exact ⟨v,hv⟩
   exact firstH_sound ks x z hz
  by_cases h6 : op = 6
  ·rw [if_neg (by omega),if_neg h1,hd]
   simp only [if_neg h1,if_neg h2,if_neg h3,if_neg h4,if_neg h5,if_pos h6] at h
   rcases h with h | h
   ·cases h
   ·exact firstH_sound ks x u h
  simp only [if_neg h1,if_neg h2,if_neg h3,if_neg h4,if_neg h5,if_neg h6] at h
  cases h
theorem firstT_sound : ∀ (ks : List Pat) (x : Nat) (u : List Nat),LangT ks (x :: u)→x ∈ firstsL true ks
 | [],x,u,h=>by unfold LangT at h;cases h
 | p :: r,x,u,h=>by
  unfold LangT at h
  obtain ⟨v,w,e,hv,hw⟩:=h
  unfold firstsL
  rw [some_sound p v hv,someT_sound r w hw,List.mem_append]
  cases v with
  | nil =>
   right
   rw [empty_sound hv]
   simp only [Bool.not_true,Bool.and_false,Bool.false_eq_true,if_false]
   rw [List.nil_append] at e
   rw [← e] at hw
   exact firstT_sound r x u hw
  | cons y v =>
   left
   rw [List.cons_append] at e
   injection e with e1 _
   subst e1
   simpa using first_sound p x v hv
theorem firstO_sound : ∀ (ks : List Pat) (x : Nat) (u : List Nat),LangO ks (x :: u)→x ∈ firstsL false ks
 | [],x,u,h=>by unfold LangO at h;exact h.elim
 | p :: r,x,u,h=>by
  unfold LangO at h
  rcases h with h | h
  ·exact firsts_or false (some_sound p _ h) rfl (first_sound p x u h)
  ·unfold firstsL
   rw [List.mem_append]
   right
   simpa using firstO_sound r x u h
theorem firstH_sound : ∀ (ks : List Pat) (x : Nat) (u : List Nat),LangH ks (x :: u)→x ∈ firstsL false ks
 | [],x,u,h=>by unfold LangH at h;cases h
 | p :: r,x,u,h=>by
  unfold LangH at h
  exact firsts_or false (some_sound p _ h) rfl (first_sound p x u h)
end
theorem Star.back {L : List Nat→Prop} {u v : List Nat} (h : Star L u) (hv : L v) : Star L (u++v):=by
 induction h with
 | nil=>have:=Star.app hv (.nil);simpa using this
 | app h1 _ ih=>rw [List.append_assoc];exact .app h1 ih
theorem star_turn {L M : List Nat→Prop} (h : ∀ u,M u→L u.reverse) {u : List Nat} (g : Star M u) : Star L u.reverse:=by
 induction g with
 | nil=>exact .nil
 | app h1 _ ih=>rw [List.reverse_append];exact ih.back (h _ h1)
theorem plus_front {L : List Nat→Prop} {u v : List Nat} (h : Star L u) (hv : L v) : ∃ a b,u++v = a++b∧L a∧Star L b:=by
 cases h with
 | nil=>exact ⟨v,[],by simp,hv,.nil⟩
 | @app a b h1 h2=>exact ⟨a,b++v,by rw [List.append_assoc],h1,h2.back hv⟩
theorem langT_app : ∀ (a b : List Pat) (u : List Nat),LangT (a++b) u ↔ ∃ v w,u = v++w∧LangT a v∧LangT b w
 | [],b,u=>by
  constructor
  ·intro h;exact ⟨[],u,rfl,by unfold LangT;rfl,h⟩
  ·rintro ⟨v,w,rfl,h1,h2⟩;unfold LangT at h1;rw [h1];exact h2
 | p :: a,b,u=>by
  rw [List.cons_append]
  constructor
  ·intro h
   unfold LangT at h
   obtain ⟨v,w,rfl,hv,hw⟩:=h
   obtain ⟨x,y,rfl,hx,hy⟩:=(langT_app a b w).1 hw
   exact ⟨v++x,y,by rw [List.append_assoc],by unfold LangT;exact ⟨v,x,rfl,hv,hx⟩,hy⟩
  ·rintro ⟨v,w,rfl,h1,h2⟩
   unfold LangT at h1
   obtain ⟨x,y,rfl,hx,hy⟩:=h1
   unfold LangT
   exact ⟨x,y++w,by rw [List.append_assoc],hx,(langT_app a b _).2 ⟨y,w,rfl,hy,h2⟩⟩
mutual
theorem turn_sound : ∀ (p : Pat) (u : List Nat),Lang p u→Lang (revP p) u.reverse
 | .node op cs ks,u,h=>by
  unfold revP
  unfold Lang at h ⊢
  by_cases h1 : op = 1
  ·simp only [if_pos h1] at h ⊢
   obtain ⟨x,rfl,hx⟩:=h
   exact ⟨x,rfl,hx⟩
  by_cases h2 : op = 2
  ·simp only [if_neg h1,if_pos h2] at h ⊢
   exact turnT_sound ks u h
  by_cases h3 : op = 3
  ·simp only [if_neg h1,if_neg h2,if_pos h3] at h ⊢
   exact turnO_sound ks u h
  by_cases h4 : op = 4
  ·simp only [if_neg h1,if_neg h2,if_neg h3,if_pos h4] at h ⊢
   exact star_turn (fun v hv=>turnH_sound ks v hv) h
  by_cases h5 : op = 5
  ·simp only [if_neg h1,if_neg h2,if_neg h3,if_neg h4,if_pos h5] at h ⊢
   obtain ⟨v,w,rfl,hv,hw⟩:=h
   rw [List.reverse_append]
   exact plus_front (star_turn (fun v hv=>turnH_sound ks v hv) hw) (turnH_sound ks v hv)
  by_cases h6 : op = 6
  ·simp only [if_neg h1,if_neg h2,if_neg h3,if_neg h4,if_neg h5,if_pos h6] at h ⊢
   rcases h with rfl | h
   ·exact .inl rfl
   ·exact .inr (turnH_sound ks u h)
  simp only [if_neg h1,if_neg h2,if_neg h3,if_neg h4,if_neg h5,if_neg h6] at h ⊢
  rw [h];rfl
theorem turnT_sound : ∀ (ks : List Pat) (u : List Nat),LangT ks u→LangT (revL ks).reverse u.reverse
 | [],u,h=>by unfold LangT at h;rw [h];unfold revL;unfold LangT;rfl
 | p :: r,u,h=>by
  unfold LangT at h
  obtain ⟨v,w,rfl,hv,hw⟩:=h
  unfold revL
  rw [List.reverse_cons,List.reverse_append,langT_app]
  exact ⟨w.reverse,v.reverse,rfl,turnT_sound r w hw,by
   unfold LangT
   exact ⟨v.reverse,[],by simp,turn_sound p v hv,by unfold LangT;rfl⟩⟩
theorem turnO_sound : ∀ (ks : List Pat) (u : List Nat),LangO ks u→LangO (revL ks) u.reverse
 | [],u,h=>by unfold LangO at h;exact h.elim
 | p :: r,u,h=>by
  unfold LangO at h
  unfold revL LangO
  rcases h with h | h
  ·exact .inl (turn_sound p u h)
  ·exact .inr (turnO_sound r u h)
theorem turnH_sound : ∀ (ks : List Pat) (u : List Nat),LangH ks u→LangH (revL ks) u.reverse
 | [],u,h=>by unfold LangH at h;rw [h];unfold revL LangH;rfl
 | p :: _,u,h=>by
  unfold LangH at h
  unfold revL LangH
  exact turn_sound p u h
end
structure SideP where
 left : List Nat
 right : List Nat
 noL : Bool
 noR : Bool
def sideP (r : RuleP) : SideP:=⟨sortU (firstsB (revP r.left)),sortU (firstsB r.right),emptyB r.left,emptyB r.right⟩
def mayB (f : SideP) (a b : Nat) : Bool:=(f.noL || f.left.contains a) && (f.noR || f.right.contains b)
theorem may_sound {r : RuleP} {c : List Nat} {i : Nat} (h0 : 0 < i) (hi : i < c.length) (h : appliesB r c i = true) : mayB (sideP r) (c.getD (i - 1) 0) (c.getD i 0) = true:=by
 rw [applies_iff] at h
 obtain ⟨⟨u,v,e,_,hl⟩,⟨u',v',e',_,hr⟩⟩:=h
 unfold mayB sideP
 simp only
 rw [Bool.and_eq_true,Bool.or_eq_true,Bool.or_eq_true,List.contains_iff_mem,List.contains_iff_mem,mem_sortU,mem_sortU]
 constructor
 ·rcases List.eq_nil_or_concat v with rfl | ⟨v1,y,rfl⟩
  ·exact .inl (empty_sound hl)
  ·right
   obtain ⟨k,rfl⟩ : ∃ k,i = k+1:=⟨i - 1,by omega⟩
   rw [List.take_add_one,List.getElem?_eq_getElem (by omega),List.concat_eq_append,← List.append_assoc] at e
   have h2:=(snoc_inj e).2
   have h3:=turn_sound _ _ hl
   rw [List.concat_eq_append,List.reverse_append] at h3
   have h4:=first_sound _ _ _ h3
   rw [Nat.add_sub_cancel,List.getD_eq_getElem?_getD,List.getElem?_eq_getElem (by omega),Option.getD_some,h2]
   exact h4
 ·cases u' with
  | nil=>exact .inl (empty_sound hr)
  | cons y u' =>
   right
   rw [List.drop_eq_getElem_cons hi,List.cons_append] at e'
   injection e' with e1 _
   rw [List.getD_eq_getElem?_getD,List.getElem?_eq_getElem hi,Option.getD_some,e1]
   exact first_sound _ _ _ hr
def decideM (rest : Bool) (c : List Nat) (i : Nat) : List RuleP→Bool
 | []=>rest
 | r :: l=>if mayB (sideP r) (c.getD (i - 1) 0) (c.getD i 0) && appliesB r c i then r.cut else decideM rest c i l
theorem decideM_eq (rest : Bool) {c : List Nat} {i : Nat} (h0 : 0 < i) (hi : i < c.length) : ∀ l,decideM rest c i l = decideB rest c i l
 | []=>rfl
 | r :: l=>by
  rw [decideM,decideB,decideM_eq rest h0 hi l]
  cases ha : appliesB r c i with
  | false=>rw [Bool.and_false]
  | true=>rw [may_sound h0 hi ha];rfl
theorem boundsX_congr {cut cut' : List Nat→Nat→Bool} {g : Int→Nat} {z : Nat} (hg : ∀ r,g r < z) (h : ∀ (c : List Nat) (i : Nat),(∀ x ∈ c,x < z)→0 < i→i < c.length→cut c i = cut' c i) (s : ByteArray) : boundsX cut g s = boundsX cut' g s:=by
 unfold boundsX
 split
 ·rfl
 have hlen:=clsG_len g (runesP s)
 have hcl : ∀ x ∈ clsG g (runesP s),x < z:=fun x hx=>by
  obtain ⟨y,_,rfl⟩:=List.mem_map.1 hx
  exact hg _
 congr 2
 refine List.map_congr_left fun i hi=>?_
 rw [List.mem_range] at hi
 rcases Nat.eq_zero_or_pos i with rfl | h0
 ·rfl
 ·rw [h _ i hcl h0 (by omega)]
def boundsM (rs : List RuleP) (rest : Bool) (g : Int→Nat) (s : ByteArray) : List Nat:=boundsX (fun c i=>decideM rest c i rs) g s
end
section
open Go Go.RowKit
section
variable {P : Program} {Q : Exit→Act→World→Prop} {md : Region.Mode}
def tailQ (N : Act→World→Prop) (Q : Exit→Act→World→Prop) : Exit→Act→World→Prop
 | .normal,a,w=>N a w
 | e,a,w=>Q e a w
theorem wp_tailQ {N : Act→World→Prop} {o : Oper} {a : Act} {w : World} {K : Act→World→Prop} : Oper.wp P o a w K (tailQ N Q) = Oper.wp P o a w K Q:=by
 unfold Oper.wp
 generalize (execOp a.eval o).run P w = r
 cases r with
 | ok n w'=>cases n <;> simp only [Oper.upon] <;> rfl
 | halt x w'=>cases x <;> rfl
theorem lets_tailQ {N : Act→World→Prop} : LetsOut (tailQ N Q) = LetsOut Q:=rfl
def lastSink (md : Region.Mode) (l : List Oper) : Bool :=
 (List.range (l.length - 1)).all fun i=>(List.range l.length).any fun j=>decide (i < j) && ((l[j]?).map fun o=>o.after.any fun e=>Region.binds md e && e.on == i).getD false
def lastDown (md : Region.Mode) (l : List Oper) : Bool :=
 (List.range l.length).all fun j=>((l[j]?).map fun o=>o.guard.isNone && o.after.all fun e=>!Region.binds md e || decide (e.on < j)).getD true
theorem lastSink_spec {l : List Oper} (h : lastSink md l = true) {i : Nat} (hi : i < l.length - 1) : ∃ j o,i < j∧l[j]? = some o∧∃ e ∈ o.after,Region.binds md e = true∧e.on = i:=by
 unfold lastSink at h
 rw [List.all_eq_true] at h
 have h1:=h i (List.mem_range.2 hi)
 rw [List.any_eq_true] at h1
 obtain ⟨j,_,h2⟩:=h1
 rw [Bool.and_eq_true,decide_eq_true_eq] at h2
 obtain ⟨h3,h4⟩:=h2
 cases ho : l[j]? with
 | none=>rw [ho] at h4;cases h4
 | some o =>
  rw [ho] at h4
  simp only [Option.map_some,Option.getD_some,Array.any_eq_true] at h4
  obtain ⟨k,hk,h5⟩:=h4
  simp only [Bool.and_eq_true,beq_iff_eq] at h5
  exact ⟨j,o,h3,ho,_,Array.getElem_mem hk,h5.1,h5.2⟩
theorem lastDown_spec {l : List Oper} (h : lastDown md l = true) {j : Nat} {o : Oper} (hj : l[j]? = some o) : o.guard = none∧∀ e ∈ o.after,Region.binds md e = true→e.on < j:=by
 unfold lastDown at h
 rw [List.all_eq_true] at h
 have h1:=h j (List.mem_range.2 (List.getElem?_eq_some_iff.1 hj).1)
 rw [hj] at h1
 simp only [Option.map_some,Option.getD_some,Bool.and_eq_true,Option.isNone_iff_eq_none] at h1
 refine ⟨h1.1,fun e he hb=>?_⟩
 have h2:=Array.all_eq_true_iff_forall_mem.1 h1.2 e he
 rw [hb] at h2
 simpa using h2
structure SameHead (md : Region.Mode) (l : List Oper) (L L' : Array Bool) : Prop where
 size : L.size = l.length
 size' : L'.size = l.length - 1
 same : ∀ i,i < l.length - 1→∀ d,L.getD i d = L'.getD i d
 inv : ∀ (j : Nat) (o : Oper),l[j]? = some o→L.getD j false = true→∀ e ∈ o.after,Region.binds md e = true→L.getD e.on false = true
 last : L.getD (l.length - 1) false = false
theorem getD_any {L : Array Bool} {i : Nat} (h : i < L.size) (d d' : Bool) : L.getD i d = L.getD i d':=by simp [h]
theorem head_get {l : List Oper} {i : Nat} (h : i < l.length - 1) : (l.dropLast.toArray)[i]? = l[i]?:=by
 rw [zG,List.getElem?_dropLast,if_pos h]
theorem SameHead.ready {l : List Oper} {L L' : Array Bool} (h : SameHead md l L L') (hd : lastDown md l = true) {i : Nat} (hi : i < l.length - 1) : i ∈ Region.ready md l.toArray L ↔ i ∈ Region.ready md l.dropLast.toArray L':=by
 rw [mem_ready,mem_ready,head_get hi,zG,h.same i hi]
 constructor
 ·rintro ⟨h0,o,ho,h1⟩
  exact ⟨h0,o,ho,fun e he hb=>by rw [← h.same e.on (by have:=(lastDown_spec hd ho).2 e he hb;omega)];exact h1 e he hb⟩
 ·rintro ⟨h0,o,ho,h1⟩
  exact ⟨h0,o,ho,fun e he hb=>by rw [h.same e.on (by have:=(lastDown_spec hd ho).2 e he hb;omega)];exact h1 e he hb⟩
theorem SameHead.all {l : List Oper} {L L' : Array Bool} (h : SameHead md l L L') (hs : lastSink md l = true) (hr : l.length - 1 ∈ Region.ready md l.toArray L) : ∀ (k i : Nat),i < l.length - 1→l.length - 1≤i+k→L.getD i false = true
 | 0,i,hi,hk=>by omega
 | k+1,i,hi,hk=>by
  obtain ⟨j,o,hij,ho,e,he,hb,rfl⟩:=lastSink_spec hs hi
  have hjl:=(List.getElem?_eq_some_iff.1 ho).1
  by_cases hj : j = l.length - 1
  ·obtain ⟨_,o',ho',hall⟩:=mem_ready.1 hr
   rw [zG,← hj,ho] at ho'
   injection ho' with ho';subst ho'
   exact hall e he hb
  ·exact h.inv j o ho (h.all hs hr k j (by omega) (by omega)) e he hb
theorem SameHead.some_ready {l : List Oper} {L L' : Array Bool} (h : SameHead md l L L') (hd : lastDown md l = true) (hn : 0 < l.length) : Region.ready md l.toArray L ≠ []:=fun h0=>by
 have key : ∀ k,k < l.length→L.getD k false = true:=by
  intro k
  induction k using Nat.strongRecOn with
  | ind k ih =>
   intro hk
   cases hq : L.getD k false with
   | true=>rfl
   | false =>
    obtain ⟨o,ho⟩ : ∃ o,l[k]? = some o:=⟨_,List.getElem?_eq_getElem hk⟩
    have : k ∈ Region.ready md l.toArray L:=mem_ready.2 ⟨by rw [getD_any (by rw [h.size];exact hk) true false];exact hq,o,by rw [zG];exact ho,fun e he hb=>by
     have:=(lastDown_spec hd ho).2 e he hb
     exact ih e.on this (by omega)⟩
    rw [h0] at this;cases this
 have:=key (l.length - 1) (by omega)
 rw [h.last] at this;cases this
theorem SameHead.step {l : List Oper} {L L' : Array Bool} (h : SameHead md l L L') {i : Nat} (hi : i < l.length - 1) (hr : i ∈ Region.ready md l.toArray L) : SameHead md l (L.setIfInBounds i true) (L'.setIfInBounds i true):=by
 refine ⟨by simpa using h.size,by simpa using h.size',fun k hk d=>?_,fun j o ho hj e he hb=>?_,by rw [getD_set_ne false (by omega)];exact h.last⟩
 ·by_cases e : i = k
  ·subst e;simp [h.size,h.size',hk,show i < l.length by omega]
  ·rw [getD_set_ne d e,getD_set_ne d e];exact h.same k hk d
 ·by_cases e1 : i = j
  ·subst e1
   obtain ⟨_,o',ho',hall⟩:=mem_ready.1 hr
   rw [zG,ho] at ho'
   injection ho' with ho';subst ho'
   exact getD_set_true (hall e he hb)
  ·rw [getD_set_ne false e1] at hj
   exact getD_set_true (h.inv j o ho hj e he hb)
theorem wpOp_head {l : List Oper} (hd : lastDown md l = true) {N : Act→World→Prop} {i : Nat} (hi : i < l.length - 1) {K K' : Act→World→Prop} {a : Act} {w : World} (hK : ∀ a w,K a w→K' a w)
  (h : wpOp P l.dropLast.toArray (tailQ N Q) i K a w) : wpOp P l.toArray Q i K' a w:=by
 refine wpOp_mono hK ?_
 obtain ⟨o,ho⟩ : ∃ o,l[i]? = some o:=⟨_,List.getElem?_eq_getElem (by omega)⟩
 have hg:=(lastDown_spec hd ho).1
 unfold wpOp at h ⊢
 simp only [head_get hi,zG,ho,Region.wanted,hg,if_true,wp_tailQ,lets_tailQ] at h ⊢
 exact h
theorem last_step {l : List Oper} {L L' : Array Bool} (h : SameHead md l L L') (hs : lastSink md l = true) (hr : l.length - 1 ∈ Region.ready md l.toArray L) (hn : 0 < l.length) {fuel : Nat} {a : Act} {w : World}
  (H : wpOp P l.toArray Q (l.length - 1) (Q .normal) a w) : wpOp P l.toArray Q (l.length - 1) (wpAny P md l.toArray Q fuel (L.setIfInBounds (l.length - 1) true)) a w:=by
 have h0 : Region.ready md l.toArray (L.setIfInBounds (l.length - 1) true) = []:=by
  refine List.eq_nil_iff_forall_not_mem.2 fun j hj=>?_
  obtain ⟨h1,o,ho,_⟩:=mem_ready.1 hj
  have hjl : j < l.length:=by rw [zG] at ho;exact (List.getElem?_eq_some_iff.1 ho).1
  by_cases e : l.length - 1 = j
  ·subst e;simp [h.size,hjl] at h1
  ·rw [getD_set_ne true e,getD_any (by rw [h.size];exact hjl) true false,h.all hs hr (l.length - 1) j (by omega) (by omega)] at h1
   cases h1
 refine wpOp_mono (fun a w hq=>?_) H
 cases fuel with
 | zero=>exact ⟨h0,hq⟩
 | succ k=>exact ⟨fun _=>hq,by rw [h0];simp⟩
theorem wpAny_last {l : List Oper} (hs : lastSink md l = true) (hd : lastDown md l = true) (hn : 0 < l.length) :
  ∀ (fuel : Nat) (L L' : Array Bool) (a : Act) (w : World),SameHead md l L L' →
   wpAny P md l.dropLast.toArray (tailQ (wpOp P l.toArray Q (l.length - 1) (Q .normal)) Q) fuel L' a w→wpAny P md l.toArray Q (fuel+1) L a w:=by
 intro fuel
 induction fuel with
 | zero =>
  intro L L' a w hS H
  refine ⟨fun h0=>absurd h0 (hS.some_ready hd hn),fun i hi=>?_⟩
  obtain ⟨_,o,ho,_⟩:=mem_ready.1 hi
  have hil : i < l.length:=by rw [zG] at ho;exact (List.getElem?_eq_some_iff.1 ho).1
  by_cases e : i < l.length - 1
  ·have:=(hS.ready hd e).1 hi
   rw [H.1] at this;cases this
  ·obtain rfl : i = l.length - 1:=by omega
   exact last_step hS hs hi hn H.2
 | succ fuel ih =>
  intro L L' a w hS H
  refine ⟨fun h0=>absurd h0 (hS.some_ready hd hn),fun i hi=>?_⟩
  obtain ⟨_,o,ho,_⟩:=mem_ready.1 hi
  have hil : i < l.length:=by rw [zG] at ho;exact (List.getElem?_eq_some_iff.1 ho).1
  by_cases e : i < l.length - 1
  ·exact wpOp_head hd e (fun a w h=>ih _ _ a w (hS.step e hi) h) (H.2 i ((hS.ready hd e).1 hi))
  ·obtain rfl : i = l.length - 1:=by omega
   refine last_step hS hs hi hn (H.1 (List.eq_nil_iff_forall_not_mem.2 fun j hj=>?_))
   obtain ⟨h1,o,ho,_⟩:=mem_ready.1 hj
   have hjl : j < l.length - 1:=by rw [zG] at ho;have:=(List.getElem?_eq_some_iff.1 ho).1;rwa [List.length_dropLast] at this
   rw [← hS.same j hjl true,getD_any (by rw [hS.size];omega) true false,hS.all hs hi (l.length - 1) j hjl (by omega)] at h1
   cases h1
theorem tailQ_end {N : Act→World→Prop} {a : Act} {w : World} (h : N a w) : tailQ N Q .normal a w:=h
theorem wp_region_last {id : Nat} {l : List Oper} {a : Act} {w : World} {S : World→Prop} (n : Nat) (hn : l.length = n+1) (hm : P.follows .mixedOrders = true) (hs : lastSink .any l = true) (hd : lastDown .any l = true) (hS : S w.drew)
  (h : S w.drew→wpAnyH P .any l.dropLast.toArray (tailQ (wpOp P l.toArray Q n (Q .normal)) Q) S n (Array.replicate n false) a w.drew) : (Code.region id l.toArray true).wp P Q a w:=by
 obtain rfl : n = l.length - 1:=by omega
 have hH : SameHead .any l (Array.replicate l.length false) (Array.replicate (l.length - 1) false):=by
  refine ⟨by simp,by simp,fun i hi d=>?_,fun j o ho hj=>?_,?_⟩
  ·simp [hi,show i < l.length by omega]
  ·have hl:=(List.getElem?_eq_some_iff.1 ho).1
   simp [hl] at hj
  ·simp [show l.length - 1 < l.length by omega]
 have:=wpAny_last (Q:=Q) hs hd (by omega) (l.length - 1) _ _ a w.drew hH (wpAny_of_held _ _ _ _ (h hS))
 rw [show l.length - 1+1 = l.toArray.size by simp;omega] at this
 refine wp_region_any hm ?_
 rw [show Array.replicate l.toArray.size false = Array.replicate l.length false by simp]
 exact this
end
end
section
open Go.RowKit
end
section
def offB (x y : Int × Int × Nat) : Bool:=decide (x.2.1 < y.1) || decide (y.2.1 < x.1)
def offAll : List (Int × Int × Nat)→Bool
 | []=>true
 | x :: r=>r.all (offB x) && offAll r
theorem offAll_spec : ∀ {l : List (Int × Int × Nat)},offAll l = true→l.Pairwise Off
 | [],_=>.nil
 | x :: r,h=>by
  simp only [offAll,Bool.and_eq_true,List.all_eq_true] at h
  refine .cons (fun y hy=>?_) (offAll_spec h.2)
  have:=h.1 y hy
  simpa [offB,Off] using this
theorem entG_apart : ∀ {S : List (List (Int × Int))} {c : Nat},(entG c S).Pairwise Off→Apart S
 | [],c,_=>fun i j a b hi=>by simp at hi
 | s :: S,c,h=>by
  unfold entG at h
  rw [List.pairwise_append] at h
  have ih:=entG_apart h.2.1
  have hx : ∀ (j : Nat) (b : List (Int × Int)),S[j]? = some b→∀ r,memR s r→memR b r→False:=fun j b hb r ⟨x,hx,h1,h2⟩ ⟨y,hy,h3,h4⟩=>by
   have:=h.2.2 (x.1,x.2,c) (List.mem_map.2 ⟨x,hx,rfl⟩) (y.1,y.2,c+1+j) (mem_entG.2 ⟨j,b,hb,hy,rfl⟩)
   unfold Off at this;simp only at this;omega
  intro i j a b hi hj hij r ha hb
  cases i with
  | zero =>
   cases j with
   | zero=>omega
   | succ j=>simp at hi hj;subst hi;exact hx j b hj r ha hb
  | succ i =>
   cases j with
   | zero=>simp at hi hj;subst hj;exact hx i a hi r hb ha
   | succ j=>exact ih i j a b (by simpa using hi) (by simpa using hj) (by omega) r ha hb
def nfB : List (Int × Int)→Bool
 | []=>true
 | x :: r=>decide (0≤x.1) && decide (x.1≤x.2) && decide (x.2≤1114111) && r.all (fun y=>decide (x.2+1 < y.1)) && nfB r
theorem nfB_spec : ∀ {l : List (Int × Int)},nfB l = true→NF l
 | [],_=>⟨trivial,by simp⟩
 | x :: r,h=>by
  simp only [nfB,Bool.and_eq_true,List.all_eq_true,decide_eq_true_eq] at h
  obtain ⟨⟨⟨⟨h1,h2⟩,h3⟩,h4⟩,h5⟩:=h
  have ih:=nfB_spec h5
  refine ⟨⟨h2,h4,ih.1⟩,fun y hy=>?_⟩
  rcases List.mem_cons.1 hy with rfl | hy
  ·exact ⟨h1,h3⟩
  ·exact ih.2 y hy
def nodB : List (List UInt8)→Bool
 | []=>true
 | x :: r=>r.all (fun y=>!(y == x)) && nodB r
theorem nodB_spec : ∀ {l : List (List UInt8)},nodB l = true→l.Nodup
 | [],_=>.nil
 | x :: r,h=>by
  simp only [nodB,Bool.and_eq_true,List.all_eq_true] at h
  refine List.nodup_cons.2 ⟨fun hx=>?_,nodB_spec h.2⟩
  have:=h.1 x hx
  simp at this
def DbP.okB (d : DbP) : Bool :=
 decide (d.sets.length = d.names.length) && d.sets.all nfB && nodB d.names && decide (d.names.head? = some otherL) && decide (d.sets.head? = some []) && decide (d.names.length≤64) && offAll (entG 0 d.sets) && d.names.all nameL
theorem DbP.okB_spec {d : DbP} (h : d.okB = true) : d.Ok∧Apart d.sets∧d.Named:=by
 simp only [DbP.okB,Bool.and_eq_true,List.all_eq_true,decide_eq_true_eq] at h
 obtain ⟨⟨⟨⟨⟨⟨⟨h1,h2⟩,h3⟩,h4⟩,h5⟩,h6⟩,h7⟩,h8⟩:=h
 exact ⟨⟨h1,fun l hl=>nfB_spec (h2 l hl),nodB_spec h3,h4,h5,h6⟩,entG_apart (offAll_spec h7),h8⟩
end
section
end
end Go.Proofs.YtglmcknlnoknoaaGreatDoor
/- -/
namespace Go.Proofs.YtglmcknlnoknoaaGreatDoor
set_option maxRecDepth 100000
set_option maxHeartbeats 40000000
section
open Go.RowKit
end
section
open Go.RowKit
def encZ (x : Int) : List Value:=[.int .i64 x]
theorem encZ_ok (l : List Int) : ∀ y ∈ l.map encZ,y.length = 1∧∀ u ∈ y,u.oneCell' = true:=by
 intro y hy;obtain ⟨r,_,rfl⟩:=List.mem_map.1 hy
 exact ⟨rfl,by simp [encZ,Value.oneCell']⟩
theorem Rd.atZ {w : World} {A : Option Addr} {l : List Int} {k : Nat} {x : Int} (h : Rd w 1 A (l.map encZ)) (hk : l[k]? = some x) : ∃ b off,A = some ⟨b,off,none⟩∧w.cell? ⟨b,off+k,none⟩ = some (.int .i64 x):=by
 obtain ⟨b,off,rfl,hc⟩:=h (by intro e;cases l with | nil=>simp at hk | cons _ _=>simp at e)
 have h0:=hc k 0 (encZ x) (.int .i64 x) (by simp [hk]) rfl
 exact ⟨b,off,rfl,by simpa using h0⟩
theorem getD_of {c : List Int} {k : Nat} {x : Int} (h : c[k]? = some x) : c.getD k 0 = x:=by rw [List.getD_eq_getElem?_getD,h];rfl
end
section
def insK (x : Int × Int) : List (Int × Int)→List (Int × Int)
 | []=>[x]
 | y :: r=>if x.1≤y.1 then x :: y :: r else y :: insK x r
def sortK : List (Int × Int)→List (Int × Int)
 | []=>[]
 | x :: r=>insK x (sortK r)
theorem insK_perm (x : Int × Int) : ∀ (l : List (Int × Int)),(insK x l).Perm (x :: l)
 | []=>.refl _
 | y :: r=>by
  unfold insK
  split
  ·exact .refl _
  ·exact ((insK_perm x r).cons y).trans (List.Perm.swap x y r)
theorem sortK_perm : ∀ (l : List (Int × Int)),(sortK l).Perm l
 | []=>.refl _
 | x :: r=>(insK_perm x (sortK r)).trans ((sortK_perm r).cons x)
theorem insK_rise {x : Int × Int} : ∀ {l : List (Int × Int)},Rise l→Rise (insK x l)
 | [],_=>by unfold insK Rise;simp
 | y :: r,h=>by
  have h':=List.pairwise_cons.1 h
  unfold insK
  split
  ·rename_i hxy
   refine List.pairwise_cons.2 ⟨fun z hz=>?_,h⟩
   rcases List.mem_cons.1 hz with rfl | hz
   ·exact hxy
   ·have:=h'.1 z hz;omega
  ·rename_i hxy
   refine List.pairwise_cons.2 ⟨fun z hz=>?_,insK_rise h'.2⟩
   rcases List.mem_cons.1 ((insK_perm x r).mem_iff.1 hz) with rfl | hz
   ·omega
   ·exact h'.1 z hz
theorem sortK_rise : ∀ (l : List (Int × Int)),Rise (sortK l)
 | []=>.nil
 | _ :: r=>insK_rise (sortK_rise r)
def normK (l : List (Int × Int)) : List (Int × Int):=mergeR (sortK (keepR l))
theorem normK_eq (l : List (Int × Int)) : normK l = normR l:=mergeR_eq (sortK_perm _) (sortK_rise _)
def addK (d : DbP) (name set : List UInt8) : Except Int DbP :=
 if nameL name = false∨name = otherL then .error 40 else
 match parseE (spcL set) with
 | .error e=>.error e
 | .ok l =>
  match d.num name with
  | some c=>if d.clash c (normK l) then .error 41 else .ok ⟨d.names,d.sets.set c (normK ((d.sets.getD c [])++normK l))⟩
  | none=>if 64≤d.names.length then .error 6 else if d.clash d.names.length (normK l) then .error 41 else .ok ⟨d.names++[name],d.sets++[normK l]⟩
theorem addK_eq (d : DbP) (n s : List UInt8) : addK d n s = addL d n s:=by
 have e : ∀ l,normK l = orR [] (normR l):=fun l=>by unfold orR;rw [normK_eq,List.nil_append,normR_of_NF (normR_NF l)]
 have e1 : ∀ a b,normK (a++b) = orR a b:=fun a b=>by rw [normK_eq];rfl
 unfold addK addL
 split
 ·rfl
 ·cases parseE (spcL s) with
  | error e=>rfl
  | ok l =>
   simp only
   cases d.num n with
   | some c=>simp only [e1,normK_eq]
   | none=>simp only;rw [e,show orR [] (normR l) = normR l by rw [← e,normK_eq]]
def stepK (d : DbP) (l : List UInt8) : Except Int DbP :=
 match lineP l with
 | .none_=>.ok d
 | .noLine=>.error 42
 | .says n s=>addK d n s
theorem stepK_eq (d : DbP) (l : List UInt8) : stepK d l = stepL d l:=by
 unfold stepK stepL
 cases lineP l with
 | none_=>rfl
 | noLine=>rfl
 | says n s=>exact addK_eq d n s
def goK (d : DbP) : List (List UInt8)→Nat→Except (Int × Nat) DbP
 | [],_=>.ok d
 | l :: r,i=>match stepK d l with
  | .error e=>.error (e,i+1)
  | .ok d'=>goK d' r (i+1)
theorem goK_eq : ∀ (L : List (List UInt8)) (d : DbP) (i : Nat),goK d L i = linesGo d L i
 | [],_,_=>rfl
 | l :: r,d,i=>by
  unfold goK linesGo
  rw [stepK_eq]
  cases stepL d l with
  | error e=>rfl
  | ok d'=>exact goK_eq r d' (i+1)
theorem new_K {t : List UInt8} {d : DbP} (hl : decide (t.length≤65536) = true) (h : goK DbP.first (splitL t) 0 = .ok d) : newP t = .ok d:=by
 unfold newP
 rw [if_neg (by have:=of_decide_eq_true hl;omega),← goK_eq,h]
end
section
section
variable {A B : List Int}
end
end
section
theorem decN_cont {n b0 b1 b2 b3 R W : Nat} (h : Lib.decodeN n b0 b1 b2 b3 = (R,W)) : (2≤W→128≤b1)∧(3≤W→128≤b2)∧(4≤W→128≤b3)∧W≤4:=by
 unfold Lib.decodeN at h
 repeat' split at h
 all_goals (injection h with _ h;omega)
theorem dec_cont {s : ByteArray} {i k R W : Nat} (h : Utf8.decode s i = (R,W)) (hk : 0 < k) (hW : k < W) : 128≤(s.get! (i+k)).toNat:=by
 rw [Lib.decode_at] at h
 obtain ⟨h1,h2,h3,h4⟩:=decN_cont h
 rcases (show k = 1∨k = 2∨k = 3 by omega) with rfl | rfl | rfl
 ·exact h1 (by omega)
 ·exact h2 (by omega)
 ·exact h3 (by omega)
theorem ascii_at (s : ByteArray) {z : Nat} (hz : z < s.size) (ha : (s.get! z).toNat < 128) : ∀ (f a : Nat),s.size≤a+f→a≤z→∃ x ∈ runesGo s f a,x.2.1 = z
 | 0,a,hf,hle=>by omega
 | f+1,a,hf,hle=>by
  have hlt : a < s.size:=by omega
  have hd:=dec_bd s a hlt
  obtain ⟨⟨R,W⟩,hD⟩ : ∃ d,Utf8.decode s a = d:=⟨_,rfl⟩
  rw [hD] at hd
  simp only at hd
  have hr : runesGo s (f+1) a = (R,a,a+W) :: runesGo s f (a+W):=by rw [runesGo,if_pos hlt,hD]
  rw [hr]
  by_cases haz : a = z
  ·exact ⟨_,List.mem_cons_self,haz⟩
  ·have hle2 : a+W≤z:=by
    rcases Nat.lt_or_ge z (a+W) with h | h
    ·have:=dec_cont hD (k:=z - a) (by omega) (by omega)
     rw [show a+(z - a) = z by omega] at this;omega
    ·exact h
   obtain ⟨x,hx,e⟩:=ascii_at s hz ha f (a+W) (by omega) hle2
   exact ⟨x,List.mem_cons_of_mem _ hx,e⟩
def shR (p : Nat) (x : Nat × Nat × Nat) : Nat × Nat × Nat:=(x.1,x.2.1+p,x.2.2+p)
theorem runes_shift (u t : ByteArray) (p : Nat) (hz : u.size = t.size+p) (hg : ∀ k,u.get! (p+k) = t.get! k) : ∀ (f g a : Nat),t.size≤a+f→t.size≤a+g→runesGo u g (a+p) = (runesGo t f a).map (shR p)
 | 0,g,a,hf,hgf=>by rw [runesGo_end (by omega)];rfl
 | f+1,g,a,hf,hgf=>by
  by_cases hlt : a < t.size
  ·obtain ⟨k,rfl,hk⟩:=runesGo_step (s:=u) (f:=g) (a:=a+p) (by omega) (by omega)
   have hd : Utf8.decode u (a+p) = Utf8.decode t a:=by
    rw [Lib.decode_at,Lib.decode_at,show u.size - (a+p) = t.size - a by omega]
    rw [show a+p = p+a by omega,hg,show p+a+1 = p+(a+1) by omega,show p+a+2 = p+(a+2) by omega,show p+a+3 = p+(a+3) by omega,hg,hg,hg]
   have hb:=dec_bd t a hlt
   rw [hk,hd,runesGo,if_pos hlt,List.map_cons]
   rw [show a+p+(Utf8.decode t a).2 = a+(Utf8.decode t a).2+p by omega,runes_shift u t p hz hg f k _ (by omega) (by omega)];rfl
  ·rw [runesGo_end (by omega),runesGo_end (s:=t) (by omega)];rfl
theorem split_at_place (s : ByteArray) {z : Nat} : ∀ (f a : Nat),s.size≤a+f→(∃ x ∈ runesGo s f a,x.2.1 = z)→runesGo s f a = ((runesGo s f a).takeWhile fun x=>decide (x.2.1 < z))++runesGo s s.size z
 | 0,a,hf,hx=>by simp [runesGo] at hx
 | f+1,a,hf,hx=>by
  have hlt : a < s.size:=by
   rcases Nat.lt_or_ge a s.size with h | h
   ·exact h
   ·rw [runesGo_end h] at hx;simp at hx
  have hd:=dec_bd s a hlt
  have hr : runesGo s (f+1) a = ((Utf8.decode s a).1,a,a+(Utf8.decode s a).2) :: runesGo s f (a+(Utf8.decode s a).2):=by rw [runesGo,if_pos hlt]
  obtain ⟨x,hm,hxz⟩:=hx
  rw [hr] at hm ⊢
  by_cases haz : a = z
  ·subst haz
   rw [List.takeWhile_cons,if_neg (by simp),List.nil_append]
   obtain ⟨k,hk,e⟩:=runesGo_step (s:=s) (f:=s.size) (a:=a) hlt (by omega)
   rw [e]
   congr 1
   have:=runes_shift s s 0 (by omega) (fun k=>by rw [Nat.zero_add]) f k (a+(Utf8.decode s a).2) (by omega) (by omega)
   rw [Nat.add_zero] at this
   rw [this]
   exact (List.map_id'' (fun y=>by simp [shR]) _).symm
  ·rcases List.mem_cons.1 hm with rfl | hm
   ·exact absurd hxz haz
   ·have hb:=runesGo_bd _ _ x hm
    rw [List.takeWhile_cons,if_pos (by simp;omega),List.cons_append]
    congr 1
    exact split_at_place s f _ (by omega) ⟨x,hm,hxz⟩
end
section
def wCls (g : Int→Nat) (s : ByteArray) : List Int:=(runesP s).map fun x=>(g x.1 : Int)
end
section
end
end Go.Proofs.YtglmcknlnoknoaaGreatDoor
/- -/
namespace Go.Proofs.YtglmcknlnoknoaaGreatDoor
set_option maxRecDepth 100000
set_option maxHeartbeats 40000000
section
def lPast (c : List Int) (k : Int) : Nat→Nat
 | 0=>0
 | n+1=>if c.getD n 0 = k then lPast c k n else n+1
def lLast (c : List Int) (n : Nat) : Int:=if n = 0 then -1 else c.getD (n - 1) 0
def lRegGo (c : List Int) : Nat→Nat→Nat
 | 0,_=>0
 | f+1,n=>if lLast c n = 25 then lRegGo c f (lPast c 8 (n - 1))+1 else 0
def lReg (c : List Int) (n : Nat) : Nat:=lRegGo c (n+1) (lPast c 8 n)
def lNum (c : List Int) (n : Nat) : Bool :=
 let n1:=lPast c 8 n
 let n2:=if [11,10].contains (lLast c n1) then lPast c 8 (n1 - 1) else n1
 let n3:=if [14,15].contains (lLast c n2) then lPast c 8 (n2 - 1) else n2
 lLast c n3 == 20
def lPairs (b q : Int) : Bool :=
 (b == 0 && [20,22,21,0,9].contains q || b == 20 && [0,9,20].contains q || b == 22 && [23,0].contains q) ||
 (b == 23 && q == 21 || b == 21 && q == 0 || [16,14,15].contains b && q == 20 || b == 14 && q == 0) ||
 (b == 10 && [0,20].contains q)
def lLetters (c : List Int) (i : Nat) (b q : Int) : Bool :=
 ([12,17,16,24,19].contains q || b == 12 || lPairs b q) || ([21,22].contains q && lNum c i) ||
 ([21,22].contains b && (q == 20 || [9,16].contains q && decide (i+1 < c.length) && c.getD (i+1) 0 == 20)) ||
 (q == 25 && lReg c i % 2 == 1)
def lGlued (p b q : Int) : Bool :=
 (q == 8 && !([1,2,3,4,5].contains p) || q == 6 || b == 6 || b == 7) || (q == 7 && !([4,17,16].contains b) || [11,10,13,14,15].contains q)
def lOver (c : List Int) (i : Nat) (q : Int) : Bool :=
 let a:=lLast c (lPast c 8 (lPast c 4 i))
 a == 9 || a == 12 && q == 9 || [11,10].contains a && q == 24 || a == 18 && q == 18
def lMust (c : Int) : Bool:=[1,2,3].contains c
def lCut (c : List Int) (i : Nat) : Bool :=
 let p:=c.getD (i - 1) 0
 let q:=c.getD i 0
 let b:=lLast c (lPast c 8 i)
 if p = 2∧q = 3 then false
 else if lMust p then true
 else if [1,2,3,4,5].contains q then false
 else if lLast c (lPast c 4 i) = 5 then true
 else if lGlued p b q || lOver c i q then false
 else if p = 4 then true
 else !lLetters c i b q
theorem lPast_le (c : List Int) (k : Int) : ∀ n,lPast c k n≤n
 | 0=>Nat.le_refl _
 | n+1=>by
  have:=lPast_le c k n
  unfold lPast;split <;> omega
theorem lLast_succ (c : List Int) (i : Nat) : lLast c (i+1) = c.getD i 0:=by unfold lLast;rw [if_neg (by omega),Nat.add_sub_cancel]
theorem lCut_end {c : List Int} {i : Nat} (h : lMust (c.getD i 0) = true) : lCut c (i+1) = !decide (c.getD i 0 = 2∧c.getD (i+1) 0 = 3):=by
 unfold lCut
 dsimp only
 rw [show i+1 - 1 = i from rfl]
 by_cases h23 : c.getD i 0 = 2∧c.getD (i+1) 0 = 3
 ·rw [if_pos h23,decide_eq_true h23];rfl
 ·rw [if_neg h23,decide_eq_false h23,if_pos h];rfl
end
section
section
variable {A B : List Int} {e : Int}
end
end
section
theorem decN_tail {n b0 b1 b2 b3 R W : Nat} (h : Lib.decodeN n b0 b1 b2 b3 = (R,W)) : (2≤W→b1 / 64 = 2)∧(3≤W→b2 / 64 = 2)∧(4≤W→b3 / 64 = 2)∧W≤4:=by
 unfold Lib.decodeN at h
 repeat' split at h
 all_goals (injection h with _ h;omega)
theorem dec_tail {s : ByteArray} {i k R W : Nat} (h : Utf8.decode s i = (R,W)) (hk : 0 < k) (hW : k < W) : (s.get! (i+k)).toNat / 64 = 2:=by
 rw [Lib.decode_at] at h
 obtain ⟨h1,h2,h3,h4⟩:=decN_tail h
 rcases (show k = 1∨k = 2∨k = 3 by omega) with rfl | rfl | rfl
 ·exact h1 (by omega)
 ·exact h2 (by omega)
 ·exact h3 (by omega)
theorem lead_at (s : ByteArray) {z : Nat} (hz : z < s.size) (ha : (s.get! z).toNat / 64 ≠ 2) : ∀ (f a : Nat),s.size≤a+f→a≤z→∃ x ∈ runesGo s f a,x.2.1 = z
 | 0,a,hf,hle=>by omega
 | f+1,a,hf,hle=>by
  have hlt : a < s.size:=by omega
  have hd:=dec_bd s a hlt
  obtain ⟨⟨R,W⟩,hD⟩ : ∃ d,Utf8.decode s a = d:=⟨_,rfl⟩
  rw [hD] at hd
  simp only at hd
  have hr : runesGo s (f+1) a = (R,a,a+W) :: runesGo s f (a+W):=by rw [runesGo,if_pos hlt,hD]
  rw [hr]
  by_cases haz : a = z
  ·exact ⟨_,List.mem_cons_self,haz⟩
  ·have hle2 : a+W≤z:=by
    rcases Nat.lt_or_ge z (a+W) with h | h
    ·have:=dec_tail hD (k:=z - a) (by omega) (by omega)
     rw [show a+(z - a) = z by omega] at this;omega
    ·exact h
   obtain ⟨x,hx,e⟩:=lead_at s hz ha f (a+W) (by omega) hle2
   exact ⟨x,List.mem_cons_of_mem _ hx,e⟩
def lCls (g : Int→Nat) (s : ByteArray) : List Int:=(runesP s).map fun x=>(g x.1 : Int)
def lPick (c : List Int) : Nat→List Nat→List (Nat × Bool)
 | _,[]=>[]
 | i,a :: r=>(if i ≠ 0∧lCut c i = true then [(a,lMust (c.getD (i - 1) 0))] else [])++lPick c (i+1) r
def lChances (g : Int→Nat) (s : ByteArray) : List (Nat × Bool):=lPick (lCls g s) 0 ((runesP s).map (·.2.1))++(if s.size = 0 then [] else [(s.size,true)])
theorem lCls_len (g : Int→Nat) (s : ByteArray) : (lCls g s).length = (runesP s).length:=by simp [lCls]
theorem lPick_append (c : List Int) : ∀ (P Q : List Nat) (i : Nat),lPick c i (P++Q) = lPick c i P++lPick c (i+P.length) Q
 | [],Q,i=>by simp [lPick]
 | a :: P,Q,i=>by
  rw [List.cons_append,lPick,lPick,lPick_append c P Q (i+1),List.append_assoc,List.length_cons,show i+1+P.length = i+(P.length+1) by omega]
end
section
def linesD : DbP:=⟨[otherL,[66,107],[67,114],[76,102],[83,112],[90,119],[87,106],[71,108],[67,109],[79,112],[67,112],[67,108],[81,117],[69,120],[73,115],[83,121],[72,121],[66,97],[68,97,115,104],[73,110],[78,117],[80,111],[80,114],[73,100],[78,115],[82,105]],[[],[(11,12),(133,133),(8232,8233)],[(13,13)],[(10,10)],[(32,32)],[(8203,8203)],[(8288,8288),(65279,65279)],[(160,160),(8199,8199),(8239,8239)],[(768,879),(1425,1469),(8204,8205),(12441,12442),(65024,65039),(127995,127999)],[(40,40),(91,91),(123,123),(161,161),(191,191),(8218,8218),(12296,12296),(12298,12298),(12300,12300)],[(41,41),(93,93)],[(125,125),(12289,12290),(12297,12297),(12299,12299),(12301,12301)],[(34,34),(39,39),(171,171),(187,187),(8216,8217),(8220,8221)],[(33,33),(63,63)],[(44,44),(46,46),(58,59)],[(47,47)],[(45,45)],[(9,9),(173,173),(8208,8208),(8211,8211)],[(8212,8212)],[(8230,8230)],[(48,57),(1632,1641)],[(37,37),(162,162),(176,176),(8240,8240)],[(36,36),(43,43),(92,92),(163,165),(177,177),(8364,8364)],[(12353,12438),(12449,12538),(13312,19903),(19968,40959),(127744,127994),(128000,128591)],[(12293,12293),(12316,12316),(12443,12446),(12539,12542)],[(127462,127487)]]⟩
theorem lines_ok : linesD.okB = true:=by kernel_rfl
theorem linesOk : linesD.Ok∧Apart linesD.sets∧linesD.Named:=DbP.okB_spec lines_ok
def gL (r : Int) : Nat:=linesD.get r
theorem gL_lt (r : Int) : gL r < 26:=get_lt linesOk.1 r
end
section
theorem runes_rise' (s : ByteArray) : (runesP s).Pairwise fun x y=>x.2.1 < y.2.1:=by
 have : ∀ (f a : Nat),(runesGo s f a).Pairwise fun x y=>x.2.1 < y.2.1:=by
  intro f
  induction f with
  | zero=>intro a;exact .nil
  | succ f ih =>
   intro a
   rw [runesGo]
   split
   ·rename_i hlt
    have hd:=dec_bd s a hlt
    refine .cons (fun y hy=>?_) (ih _)
    have:=runesGo_bd _ _ y hy
    simp only;omega
   ·exact .nil
 exact this _ _
def PlaceAt (s : ByteArray) (z : Nat) : Prop:=z = s.size∨∃ x ∈ runesP s,x.2.1 = z
theorem PlaceAt.le {s : ByteArray} {z : Nat} (h : PlaceAt s z) : z≤s.size:=by
 rcases h with rfl | ⟨x,hx,rfl⟩
 ·exact Nat.le_refl _
 ·have:=runesP_bd x hx;omega
theorem tw_mem {z : Nat} {x : Nat × Nat × Nat} : ∀ {l : List (Nat × Nat × Nat)},x ∈ l.takeWhile (fun x=>decide (x.2.1 < z))→x.2.1 < z
 | [],h=>by simp at h
 | y :: l,h=>by
  rw [List.takeWhile_cons] at h
  split at h
  ·rename_i hy
   rcases List.mem_cons.1 h with rfl | h
   ·simpa using hy
   ·exact tw_mem h
  ·simp at h
theorem tw_pre (z : Nat) : ∀ (l : List (Nat × Nat × Nat)),(l.Pairwise fun x y=>x.2.1 < y.2.1)→∃ Q,l = (l.takeWhile fun x=>decide (x.2.1 < z))++Q∧∀ x ∈ Q,z≤x.2.1
 | [],_=>⟨[],rfl,by simp⟩
 | y :: l,h=>by
  rw [List.pairwise_cons] at h
  rw [List.takeWhile_cons]
  by_cases hy : y.2.1 < z
  ·obtain ⟨Q,h1,h2⟩:=tw_pre z l h.2
   refine ⟨Q,?_,h2⟩
   rw [if_pos (by simpa using hy),List.cons_append,← h1]
  ·rw [if_neg (by simpa using hy)]
   refine ⟨y :: l,rfl,fun x hx=>?_⟩
   rcases List.mem_cons.1 hx with rfl | hx
   ·omega
   ·have:=h.1 x hx;omega
theorem get_sub (s : ByteArray) {a b : Nat} (hb : b≤s.size) (k : Nat) : (s.extract 0 b).get! (a+k) = (s.extract a b).get! k:=by
 rw [← Lib.getD_get!',← Lib.getD_get!',ByteArray.data_extract,ByteArray.data_extract,Array.toList_extract,Array.toList_extract,List.extract_eq_take_drop,List.extract_eq_take_drop,List.getD_eq_getElem?_getD,List.getD_eq_getElem?_getD,List.drop_zero,Nat.sub_zero]
 by_cases h : a+k < b
 ·rw [List.getElem?_take_of_lt h,List.getElem?_take_of_lt (by omega),List.getElem?_drop]
 ·rw [List.getElem?_eq_none (by rw [List.length_take,size_data];omega),List.getElem?_eq_none (by rw [List.length_take,List.length_drop,size_data];omega)]
theorem runes_sub (s : ByteArray) {a b : Nat} (hab : a≤b) (ha : PlaceAt s a) (hb : PlaceAt s b) : ∃ P Q,runesP s = P++(runesP (s.extract a b)).map (shR a)++Q∧(∀ x ∈ P,x.2.1 < a)∧(∀ x ∈ Q,b≤x.2.1):=by
 have hbz:=hb.le
 have hu : (s.extract 0 b).size = b:=by rw [ByteArray.size_extract];omega
 have ht : (s.extract a b).size = b - a:=by rw [ByteArray.size_extract];omega
 have h1 : runesP (s.extract 0 b) = (runesP s).takeWhile fun x=>decide (x.2.1 < b):=by
  refine runesP_prefix s hbz ?_
  rcases hb with h | h
  ·exact .inr (.inl h)
  ·exact .inr (.inr h)
 obtain ⟨Q,hQ,hQb⟩:=tw_pre b (runesP s) (runes_rise' s)
 have hsh : runesGo (s.extract 0 b) b (0+a) = (runesGo (s.extract a b) (s.extract a b).size 0).map (shR a):=runes_shift _ _ a (by omega) (fun k=>get_sub s hbz k) _ _ 0 (by omega) (by omega)
 rw [Nat.zero_add] at hsh
 by_cases hae : a = b
 ·subst hae
  have : runesP (s.extract a a) = []:=by unfold runesP;rw [ht,Nat.sub_self];rfl
  rw [this]
  exact ⟨_,Q,by rw [List.map_nil,List.append_nil];exact hQ,fun x hx=>tw_mem hx,hQb⟩
 ·have hpl : ∃ x ∈ runesP (s.extract 0 b),x.2.1 = a:=by
   rcases ha with h | ⟨x,hx,e⟩
   ·omega
   ·refine ⟨x,?_,e⟩
    rw [h1]
    have hx':=hx
    rw [hQ] at hx'
    rcases List.mem_append.1 hx' with h | h
    ·exact h
    ·have:=hQb x h;omega
  have h2:=split_at_place (s.extract 0 b) (z:=a) b 0 (by omega) (by unfold runesP at hpl;rw [hu] at hpl;exact hpl)
  rw [hu,hsh] at h2
  refine ⟨(runesGo (s.extract 0 b) b 0).takeWhile fun x=>decide (x.2.1 < a),Q,?_,fun x hx=>tw_mem hx,hQb⟩
  conv=>lhs;rw [hQ,← h1]
  congr 1
  unfold runesP
  rw [hu]
  exact h2
end
section
theorem decN_lead {n b0 b1 b2 b3 R W : Nat} (h : Lib.decodeN n b0 b1 b2 b3 = (R,W)) (hW : 2≤W) (h0 : b0 < 256) : b0 / 64 = 3:=by
 unfold Lib.decodeN at h
 repeat' split at h
 all_goals (injection h with _ h;omega)
theorem dec_lead {s : ByteArray} {i R W : Nat} (h : Utf8.decode s i = (R,W)) (hW : 2≤W) : (s.get! i).toNat / 64 = 3:=by
 rw [Lib.decode_at] at h
 exact decN_lead h hW (s.get! i).toNat_lt
theorem place_gap (s : ByteArray) : ∀ (r : List (Nat × Nat × Nat)) (p z : Nat),Contig p r z→∀ x ∈ r,∀ y ∈ r,¬ (x.2.1 < y.2.1∧y.2.1 < x.2.2)
 | [],_,_,_,x,hx,_,_=>by simp at hx
 | a :: r,p,z,h,x,hx,y,hy=>by
  obtain ⟨h1,h2,h3⟩:=h
  have hle : ∀ {r : List (Nat × Nat × Nat)} {p z : Nat},Contig p r z→∀ x ∈ r,p≤x.2.1:=by
   intro r
   induction r with
   | nil=>intro p z _ x hx;simp at hx
   | cons w r ih =>
    intro p z h x hx
    obtain ⟨k1,k2,k3⟩:=h
    rcases List.mem_cons.1 hx with rfl | hx
    ·omega
    ·have:=ih k3 x hx;omega
  rcases List.mem_cons.1 hx with ex | hx'
  ·rcases List.mem_cons.1 hy with ey | hy'
   ·rw [ex,ey];omega
   ·have:=hle h3 y hy';rw [ex];omega
  ·rcases List.mem_cons.1 hy with ey | hy'
   ·have:=hle h3 x hx';rw [ey];omega
   ·exact place_gap s r _ z h3 x hx' y hy'
end
section
theorem lastStart_eq (l : List UInt8) : Lib.lastStart l = if l.length < 2 then 0 else if Lib.runeStartB (l.getD (l.length - 2) 0) = true then l.length - 2 else if l.length < 3 then 0 else if Lib.runeStartB (l.getD (l.length - 3) 0) = true then l.length - 3 else if l.length < 4 then 0 else if Lib.runeStartB (l.getD (l.length - 4) 0) = true then l.length - 4 else if l.length < 5 then 0 else l.length - 5:=rfl
theorem start_iff (b : UInt8) : Lib.runeStartB b = true ↔ b.toNat / 64 ≠ 2:=by unfold Lib.runeStartB;simp
theorem dec_drop (s : ByteArray) (k : Nat) : Lib.decodeL (s.data.toList.drop k) = Utf8.decode s k:=by
 unfold Lib.decodeL
 have h:=Lib.tail_decode s k 0
 rw [Nat.add_zero] at h
 rw [← h]
 congr 1
 have : (s.extract k s.size).data.toList = s.data.toList.drop k:=by
  rw [ByteArray.data_extract,Array.toList_extract,List.extract_eq_take_drop,List.take_of_length_le (by rw [List.length_drop,size_data];exact Nat.le_refl _)]
 rw [← this]
theorem last_rune (s : ByteArray) {x : Nat × Nat × Nat} (hx : x ∈ runesP s) (he : x.2.2 = s.size) : Lib.decodeLastL s.data.toList = (x.1,x.2.2 - x.2.1):=by
 have hb:=runesP_bd x hx
 have hd:=runesGo_dec _ _ x hx
 have hsz:=size_data s
 have hget : ∀ k,s.data.toList.getD k 0 = s.get! k:=fun k=>Lib.getD_get!' s k
 have hne : s.data.toList ≠ []:=fun h=>by rw [h] at hsz;simp at hsz;omega
 have huniq : ∀ y ∈ runesP s,y.2.1 < s.size→x.2.1≤y.2.1→y.2.1 = x.2.1:=fun y hy h1 h2=>by
  rcases Nat.lt_or_ge x.2.1 y.2.1 with h3 | h3
  ·exact absurd ⟨h3,by omega⟩ (place_gap s _ 0 s.size (runesP_contig s) x hx y hy)
  ·omega
 unfold Lib.decodeLastL
 rw [if_neg hne,hsz,hget]
 by_cases hasc : (s.get! (s.size - 1)).toNat < 128
 ·rw [if_pos hasc]
  obtain ⟨y,hy,e⟩:=ascii_at s (z:=s.size - 1) (by omega) hasc s.size 0 (by omega) (Nat.zero_le _)
  have:=huniq y hy (by omega) (by omega)
  have hp : x.2.1 = s.size - 1:=by omega
  rw [hp,Lib.decode_at] at hd
  unfold Lib.decodeN at hd
  rw [if_pos hasc] at hd
  rw [hp,← hd]
 ·rw [if_neg hasc]
  have hst : Lib.lastStart s.data.toList < s.size∧(Lib.lastStart s.data.toList+1 = s.size→s.size = 1):=by
   rw [lastStart_eq,hsz]
   repeat' split
   all_goals omega
  rw [dec_drop s _]
  simp only
  rcases Nat.lt_or_ge (x.2.2 - x.2.1) 2 with hW | hW
  ·-- one byte
   have hp : x.2.1 = s.size - 1:=by omega
   have hW1 : x.2.2 - x.2.1 = 1:=by omega
   have hR : x.1 = 65533:=by
    rw [hW1,hp,Lib.decode_at] at hd
    unfold Lib.decodeN at hd
    rw [if_neg hasc] at hd
    repeat' split at hd
    all_goals (injection hd with h1 h2;omega)
   obtain ⟨⟨R',W'⟩,hD⟩ : ∃ d,Utf8.decode s (Lib.lastStart s.data.toList) = d:=⟨_,rfl⟩
   have hbd:=dec_bd s _ hst.1
   rw [hD] at hbd ⊢
   simp only at hbd ⊢
   split
   ·rename_i hsum
    rcases Nat.lt_or_ge W' 2 with h1 | h1
    ·have h0 : Lib.lastStart s.data.toList = x.2.1:=by have:=hst.2 (by omega);omega
     rw [h0,hd] at hD
     exact hD.symm
    ·exfalso
     have hl:=dec_lead hD h1
     obtain ⟨y,hy,e⟩:=lead_at s hst.1 (by omega) s.size 0 (by omega) (Nat.zero_le _)
     have hdy:=runesGo_dec _ _ y hy
     rw [e,hD] at hdy
     injection hdy with _ h2
     have hby:=runesP_bd y hy
     exact place_gap s _ 0 s.size (runesP_contig s) y hy x hx (by omega)
   ·rw [hR,hW1];rfl
  ·-- several bytes
   have hl:=dec_lead hd hW
   have htail : ∀ k,0 < k→k < x.2.2 - x.2.1→¬ Lib.runeStartB (s.data.toList.getD (x.2.1+k) 0) = true:=fun k h0 h1=>by
    rw [start_iff,hget]
    have:=dec_tail hd h0 h1
    omega
   have hlead : Lib.runeStartB (s.data.toList.getD x.2.1 0) = true:=by rw [start_iff,hget];omega
   have hls : Lib.lastStart s.data.toList = x.2.1:=by
    rw [lastStart_eq,hsz]
    rcases (show x.2.2 - x.2.1 = 2∨x.2.2 - x.2.1 = 3∨x.2.2 - x.2.1 = 4 by omega) with h | h | h
    ·rw [if_neg (by omega),show s.size - 2 = x.2.1 by omega,if_pos hlead]
    ·rw [if_neg (by omega),show s.size - 2 = x.2.1+1 by omega,if_neg (htail 1 (by omega) (by omega)),if_neg (by omega),show s.size - 3 = x.2.1 by omega,if_pos hlead]
    ·rw [if_neg (by omega),show s.size - 2 = x.2.1+2 by omega,if_neg (htail 2 (by omega) (by omega)),if_neg (by omega),show s.size - 3 = x.2.1+1 by omega,if_neg (htail 1 (by omega) (by omega)),if_neg (by omega),show s.size - 4 = x.2.1 by omega,if_pos hlead]
   rw [hls,hd,if_pos (by simp only;omega)]
end
section
end
end Go.Proofs.YtglmcknlnoknoaaGreatDoor
/- -/
namespace Go.Proofs.YtglmcknlnoknoaaGreatDoor
set_option maxRecDepth 100000
set_option maxHeartbeats 40000000
section
def toI (c : List Nat) : List Int:=c.map fun (x : Nat)=>(x : Int)
theorem toI_get (c : List Nat) (i : Nat) : (toI c).getD i 0 = ((c.getD i 0 : Nat) : Int):=by
 unfold toI
 rw [List.getD_eq_getElem?_getD,List.getD_eq_getElem?_getD,List.getElem?_map]
 cases c[i]? <;> rfl
theorem ahead_succ {c : List Nat} {n : Nat} (h : n < c.length) : (c.take (n+1)).reverse = c.getD n 0 :: (c.take n).reverse:=by
 rw [List.take_add_one,List.getElem?_eq_getElem h,List.reverse_append,List.getD_eq_getElem?_getD,List.getElem?_eq_getElem h];rfl
def tests : List RB:=[
 ⟨false,eat [.one [1]],eat [.one [2]]⟩,
 ⟨true,eat [.one [1,2,3]],eat []⟩,
 ⟨false,eat [],eat [.one [13]]⟩,
 ⟨false,eat [.many [13],.one [9]],eat [.one [8]]⟩,
 ⟨false,eat [.many [13],.one [9],.many [13],.one [6,5]],eat [.one [6]]⟩,
 ⟨false,eat [.many [4,13],.many [11,13],.one [9]],eat [.many [0,4,8,11,12,13],.one [5]]⟩,
 ⟨false,eat [.many [4,13],.many [11,13],.one [9,10]],eat [.one [12,9,10]]⟩,
 ⟨false,eat [.many [11,13],.one [9,10]],eat [.one [11,4,3,1,2]]⟩,
 ⟨false,eat [.many [4,13],.many [11,13],.one [9,10]],eat [.one [4,3,1,2]]⟩,
 ⟨true,eat [.many [4,13],.many [11,13],.one [9,10]],eat []⟩]
end
section
def skH (hs r : List Nat) : List Nat:=r.dropWhile fun x=>hs.contains x
def regR (hs : List Nat) (k : Nat) : List Nat→Nat
 | []=>0
 | x :: r=>if hs.contains x then regR hs k r else if x = k then regR hs k r+1 else 0
theorem regR_drop (hs : List Nat) (k : Nat) : ∀ r,regR hs k r = match skH hs r with | []=>0 | x :: t=>if x = k then regR hs k t+1 else 0
 | []=>rfl
 | x :: r=>by
  unfold skH
  rw [regR,List.dropWhile_cons]
  split
  ·exact regR_drop hs k r
  ·rfl
theorem drop_head {P : Nat→Bool} : ∀ {r : List Nat} {x : Nat} {t : List Nat},r.dropWhile P = x :: t→P x = false
 | [],_,_,h=>by simp at h
 | y :: r,x,t,h=>by
  rw [List.dropWhile_cons] at h
  split at h
  ·exact drop_head h
  ·rename_i hy
   injection h with h1 _
   subst h1
   exact Bool.eq_false_iff.2 hy
theorem count_none {hs : List Nat} {k : Nat} (hk : k ∉ hs) {u : List Nat} (h : ∀ x ∈ u,x ∈ hs) : u.count k = 0:=List.count_eq_zero.2 fun hm=>hk (h k hm)
def pairQ (Hp : Pat) (k : Nat) : Pat:=.node 2 [] [setQ k,Hp,setQ k,Hp]
theorem pair_iff {hs : List Nat} {Hp : Pat} (hH : ∀ u,Lang Hp u ↔ ∀ x ∈ u,x ∈ hs) (k : Nat) (u : List Nat) : Lang (pairQ Hp k) u ↔ ∃ h1 h2,u = k :: (h1++k :: h2)∧(∀ x ∈ h1,x ∈ hs)∧∀ x ∈ h2,x ∈ hs:=by
 unfold pairQ
 rw [lang_then]
 simp only [LangT,setQ,lang_set,One,hH]
 constructor
 ·rintro ⟨_,_,rfl,⟨y,rfl,hy⟩,h1,_,rfl,g1,_,_,rfl,⟨z,rfl,hz⟩,h2,_,rfl,g2,rfl⟩
  have hy : y = k:=by simpa using hy
  have hz : z = k:=by simpa using hz
  rw [hy,hz]
  exact ⟨h1,h2,by simp,g1,g2⟩
 ·rintro ⟨h1,h2,rfl,g1,g2⟩
  exact ⟨[k],h1++k :: h2,rfl,⟨k,rfl,by simp⟩,h1,k :: h2,rfl,g1,[k],h2,rfl,⟨k,rfl,by simp⟩,h2,[],by simp,g2,rfl⟩
theorem odd_go {hs : List Nat} {Hp : Pat} {k : Nat} (hk : k ∉ hs) (hH : ∀ u,Lang Hp u ↔ ∀ x ∈ u,x ∈ hs) : ∀ (z : Nat) (v : List Nat),v.length≤z→(∀ x ∈ v,x ∈ hs∨x = k)→v.count k % 2 = 1→(∀ x r,v = x :: r→x = k)→∃ s h,v = s++k :: h∧Star (Lang (pairQ Hp k)) s∧∀ x ∈ h,x ∈ hs
 | z,[],_,_,hc,_=>by simp at hc
 | 0,x :: t,hz,_,_,_=>by simp at hz
 | z+1,x :: t,hz,hv,hc,hh=>by
  have hx:=hh x t rfl
  subst hx
  have ht : t = t.takeWhile (fun x=>hs.contains x)++t.dropWhile (fun x=>hs.contains x):=List.takeWhile_append_dropWhile.symm
  have hin:=take_in hs t
  generalize t.takeWhile (fun x=>hs.contains x) = h1 at ht hin
  cases hd : t.dropWhile (fun x=>hs.contains x) with
  | nil =>
   rw [hd,List.append_nil] at ht
   rw [ht]
   exact ⟨[],h1,rfl,.nil,hin⟩
  | cons y t2 =>
   rw [hd] at ht
   have hy : y = x:=by
    have h2:=drop_head hd
    rcases hv y (by rw [ht];simp) with h3 | h3
    ·rw [List.contains_iff_mem.2 h3] at h2;cases h2
    ·exact h3
   subst hy
   have ht2 : t2 = t2.takeWhile (fun x=>hs.contains x)++t2.dropWhile (fun x=>hs.contains x):=List.takeWhile_append_dropWhile.symm
   have hin2:=take_in hs t2
   generalize t2.takeWhile (fun x=>hs.contains x) = h2 at ht2 hin2
   cases hd2 : t2.dropWhile (fun x=>hs.contains x) with
   | nil =>
    rw [hd2,List.append_nil] at ht2
    rw [ht,ht2] at hc
    simp [List.count_append,count_none hk hin,count_none hk hin2] at hc
   | cons w t3 =>
    rw [hd2] at ht2
    have hw : w = y:=by
     have h3:=drop_head hd2
     rcases hv w (by rw [ht,ht2];simp) with h4 | h4
     ·rw [List.contains_iff_mem.2 h4] at h3;cases h3
     ·exact h4
    have hl : (w :: t3).length≤z:=by
     have : (y :: t).length≤z+1:=hz
     rw [ht,ht2] at this
     simp at this ⊢
     omega
    obtain ⟨s,h,e,hs1,hs2⟩:=odd_go hk hH z (w :: t3) hl (fun x hx=>hv x (by rw [ht,ht2];simp only [List.mem_cons,List.mem_append] at hx ⊢;exact .inr (.inr (.inr (.inr hx))))) (by
     rw [ht,ht2] at hc
     simp only [List.count_cons_self,List.count_append,count_none hk hin,count_none hk hin2] at hc
     omega) (fun x r hx=>by injection hx with hx _;rw [← hx,hw])
    refine ⟨y :: (h1++y :: h2)++s,h,?_,.app ((pair_iff hH y _).2 ⟨h1,h2,rfl,hin,hin2⟩) hs1,hs2⟩
    rw [ht,ht2,e]
    simp
def flagsQ (Hp : Pat) (k : Nat) : List Pat:=[Hp,.node 4 [] [pairQ Hp k],setQ k,Hp]
theorem flags_iff {hs : List Nat} {Hp : Pat} {k : Nat} (hk : k ∉ hs) (hH : ∀ u,Lang Hp u ↔ ∀ x ∈ u,x ∈ hs) (u : List Nat) : LangT (flagsQ Hp k) u ↔ (∀ x ∈ u,x ∈ hs∨x = k)∧u.count k % 2 = 1:=by
 unfold flagsQ
 simp only [LangT,lang_many,hH]
 constructor
 ·rintro ⟨h0,_,rfl,g0,s,_,rfl,gs,_,_,rfl,gk,h1,_,rfl,g1,rfl⟩
  obtain ⟨y,rfl,hy⟩:=(lang_set [k] [] _).1 gk
  have hy : y = k:=by simpa using hy
  subst hy
  have h : (∀ x ∈ s,x ∈ hs∨x = y)∧s.count y % 2 = 0:=by
   induction gs with
   | nil=>simp
   | app ha _ ih =>
    obtain ⟨a1,a2,rfl,b1,b2⟩:=(pair_iff hH y _).1 ha
    refine ⟨fun x hx=>?_,?_⟩
    ·simp only [List.mem_append,List.mem_cons] at hx
     rcases hx with (h | h | h | h) | h
     ·exact .inr h
     ·exact .inl (b1 x h)
     ·exact .inr h
     ·exact .inl (b2 x h)
     ·exact ih.1 x h
    ·have:=ih.2
     simp only [List.count_append,List.count_cons_self,count_none hk b1,count_none hk b2]
     omega
  refine ⟨fun x hx=>?_,?_⟩
  ·simp only [List.mem_append,List.mem_singleton,List.append_nil] at hx
   rcases hx with h2 | h2 | h2 | h2
   ·exact .inl (g0 x h2)
   ·exact h.1 x h2
   ·exact .inr h2
   ·exact .inl (g1 x h2)
  ·have:=h.2
   simp only [List.append_nil,List.count_append,List.count_cons_self,List.count_nil,count_none hk g0,count_none hk g1]
   omega
 ·rintro ⟨hv,hc⟩
  have ht : u = u.takeWhile (fun x=>hs.contains x)++u.dropWhile (fun x=>hs.contains x):=List.takeWhile_append_dropWhile.symm
  have hin:=take_in hs u
  have hdh:=fun x r (h : u.dropWhile (fun x=>hs.contains x) = x :: r)=>drop_head h
  generalize u.takeWhile (fun x=>hs.contains x) = h0 at ht hin
  generalize u.dropWhile (fun x=>hs.contains x) = d at ht hdh
  have hvd : ∀ x ∈ d,x ∈ hs∨x = k:=fun x hx=>hv x (by rw [ht];simp [hx])
  obtain ⟨s,h,e,hs1,hs2⟩:=odd_go hk hH d.length d (Nat.le_refl _) hvd (by
   rw [ht,List.count_append,count_none hk hin] at hc
   omega) (fun x r h=>by
    have h3:=hdh x r h
    rcases hvd x (by rw [h];simp) with h4 | h4
    ·rw [List.contains_iff_mem.2 h4] at h3;cases h3
    ·exact h4)
  exact ⟨h0,d,ht,hin,s,k :: h,e,hs1,[k],h,rfl,(lang_set [k] [] _).2 ⟨k,rfl,by simp⟩,h,[],by simp,hs2,rfl⟩
def isF (hs : List Nat) (k x : Nat) : Bool:=hs.contains x || x == k
def oddA (hs : List Nat) (k : Nat) (r : List Nat) : Bool:=r.all (isF hs k) && r.count k % 2 == 1
def oddB (hs : List Nat) (k : Nat) (cs r : List Nat) : Bool:=(match r.dropWhile (isF hs k) with | []=>false | y :: _=>cs.contains y) && (r.takeWhile (isF hs k)).count k % 2 == 1
theorem isF_iff {hs : List Nat} {k x : Nat} : isF hs k x = true ↔ x ∈ hs∨x = k:=by unfold isF;simp
theorem eats_oddA {hs : List Nat} {Hp q : Pat} {k : Nat} {fs : List El} (hk : k ∉ hs) (hH : ∀ u,Lang Hp u ↔ ∀ x ∈ u,x ∈ hs) (h2 : elsP q = some fs) (o2 : okE fs = true) : Eats ⟨false,true,false,.node 2 [] (flagsQ Hp k),q⟩ ⟨false,oddA hs k,eat fs⟩ :=
 ⟨rfl,fun a=>by
  have e : Ahead true (Lang (.node 2 [] (flagsQ Hp k))) a ↔ LangT (flagsQ Hp k) a:=by
   constructor
   ·rintro ⟨u,v,rfl,h,hl⟩
    rw [h rfl,List.nil_append]
    exact (lang_then [] _ _).1 hl
   ·intro h
    exact ⟨[],a,rfl,fun _=>rfl,(lang_then [] _ _).2 h⟩
  show Ahead true _ a ↔ _
  rw [e,flags_iff hk hH]
  unfold oddA
  simp only [List.all_reverse,List.count_reverse,Bool.and_eq_true,List.all_eq_true,isF_iff,beq_iff_eq],fun b=>behind_pat h2 o2 b⟩
theorem take_all {P : Nat→Bool} {y : Nat} (hy : P y = false) (r : List Nat) : ∀ (v : List Nat),(∀ x ∈ v,P x = true)→(v++y :: r).takeWhile P = v∧(v++y :: r).dropWhile P = y :: r
 | [],_=>by rw [List.nil_append,List.takeWhile_cons,List.dropWhile_cons,hy];exact ⟨rfl,rfl⟩
 | x :: v,h=>by
  have:=take_all hy r v fun z hz=>h z (List.mem_cons_of_mem _ hz)
  rw [List.cons_append,List.takeWhile_cons,List.dropWhile_cons,h x (by simp),this.1,this.2]
  exact ⟨rfl,rfl⟩
theorem take_allR (P : Nat→Bool) : ∀ (r : List Nat),∀ x ∈ r.takeWhile P,P x = true
 | [],x,h=>by simp at h
 | y :: r,x,h=>by
  rw [List.takeWhile_cons] at h
  split at h
  ·rename_i hy
   rcases List.mem_cons.1 h with rfl | h
   ·exact hy
   ·exact take_allR P r x h
  ·simp at h
theorem eats_oddB {hs cs : List Nat} {Hp q : Pat} {k : Nat} {fs : List El} (hk : k ∉ hs) (hc : ∀ x ∈ cs,isF hs k x = false) (hH : ∀ u,Lang Hp u ↔ ∀ x ∈ u,x ∈ hs) (h2 : elsP q = some fs) (o2 : okE fs = true) : Eats ⟨false,false,false,.node 2 [] (.node 1 cs [] :: flagsQ Hp k),q⟩ ⟨false,oddB hs k cs,eat fs⟩ :=
 ⟨rfl,fun a=>by
  have e : Ahead false (Lang (.node 2 [] (.node 1 cs [] :: flagsQ Hp k))) a ↔ ∃ u y v,a = u++y :: v∧y ∈ cs∧(∀ x ∈ v,x ∈ hs∨x = k)∧v.count k % 2 = 1:=by
   constructor
   ·rintro ⟨u,v,rfl,_,hl⟩
    have hl:=(lang_then [] _ _).1 hl
    unfold LangT at hl
    obtain ⟨_,w,rfl,h1,hw⟩:=hl
    obtain ⟨y,rfl,hy⟩:=(lang_set cs [] _).1 h1
    have:=(flags_iff hk hH w).1 hw
    exact ⟨u,y,w,rfl,hy,this.1,this.2⟩
   ·rintro ⟨u,y,v,rfl,hy,h1,h2⟩
    refine ⟨u,y :: v,rfl,(fun h=>by cases h),(lang_then [] _ _).2 ?_⟩
    unfold LangT
    exact ⟨[y],v,rfl,(lang_set cs [] _).2 ⟨y,rfl,hy⟩,(flags_iff hk hH v).2 ⟨h1,h2⟩⟩
  show Ahead false _ a ↔ _
  rw [e]
  unfold oddB
  rw [Bool.and_eq_true,beq_iff_eq]
  constructor
  ·rintro ⟨u,y,v,rfl,hy,h1,h2⟩
   have e2 : (u++y :: v).reverse = v.reverse++y :: u.reverse:=by simp
   obtain ⟨e3,e4⟩:=take_all (P:=isF hs k) (hc y hy) u.reverse v.reverse (fun x hx=>isF_iff.2 (h1 x (by simpa using hx)))
   rw [e2,e3,e4,List.count_reverse]
   exact ⟨by simpa using hy,h2⟩
  ·rintro ⟨h1,h2⟩
   have h3 : a.reverse = a.reverse.takeWhile (isF hs k)++a.reverse.dropWhile (isF hs k):=List.takeWhile_append_dropWhile.symm
   have h4:=take_allR (isF hs k) a.reverse
   cases hd : a.reverse.dropWhile (isF hs k) with
   | nil=>rw [hd] at h1;cases h1
   | cons y t =>
    rw [hd] at h1 h3
    simp only [List.contains_iff_mem] at h1
    generalize a.reverse.takeWhile (isF hs k) = v at h2 h3 h4
    refine ⟨t.reverse,y,v.reverse,?_,h1,fun x hx=>isF_iff.1 (h4 x (by simpa using hx)),by rw [List.count_reverse];exact h2⟩
    have:=congrArg List.reverse h3
    rw [List.reverse_reverse] at this
    rw [this];simp,fun b=>behind_pat h2 o2 b⟩
theorem reg_count {hs : List Nat} {k : Nat} (hk : k ∉ hs) : ∀ r,regR hs k r = (r.takeWhile (isF hs k)).count k
 | []=>by simp [regR]
 | x :: r=>by
  have ih:=reg_count hk r
  rw [regR,List.takeWhile_cons]
  by_cases h1 : hs.contains x = true
  ·have hx : x ≠ k:=fun e=>hk (by rw [← e];exact List.contains_iff_mem.1 h1)
   rw [if_pos h1,if_pos (isF_iff.2 (.inl (List.contains_iff_mem.1 h1))),ih,List.count_cons_of_ne hx]
  ·by_cases h2 : x = k
   ·subst h2
    rw [if_neg h1,if_pos rfl,if_pos (isF_iff.2 (.inr rfl)),ih,List.count_cons_self]
   ·rw [if_neg h1,if_neg h2,if_neg (fun h=>(isF_iff.1 h).elim (fun h=>h1 (List.contains_iff_mem.2 h)) h2)]
    rfl
theorem odd_both {hs cs : List Nat} {k : Nat} (hk : k ∉ hs) {r : List Nat} (hr : ∀ x ∈ r,x ∈ cs∨isF hs k x = true) : (oddA hs k r || oddB hs k cs r) = (regR hs k r % 2 == 1):=by
 rw [reg_count hk]
 unfold oddA oddB
 have h3 : r = r.takeWhile (isF hs k)++r.dropWhile (isF hs k):=List.takeWhile_append_dropWhile.symm
 have h4:=take_allR (isF hs k) r
 cases hd : r.dropWhile (isF hs k) with
 | nil =>
  rw [hd,List.append_nil] at h3
  have h5 : r.all (isF hs k) = true:=List.all_eq_true.2 (by rw [h3];exact h4)
  rw [h5,← h3]
  simp
 | cons y t =>
  have h5:=drop_head hd
  have hy : y ∈ r:=by rw [h3,hd];simp
  have h6 : r.all (isF hs k) = false:=Bool.eq_false_iff.2 fun h=>by
   rw [List.all_eq_true.1 h y hy] at h5;cases h5
  have h7 : cs.contains y = true:=by
   rcases hr y hy with h | h
   ·exact List.contains_iff_mem.2 h
   ·rw [h] at h5;cases h5
  rw [h6]
  simp only [h7,Bool.false_and,Bool.false_or,Bool.true_and]
def nearH (hs r : List Nat) : Nat:=(skH hs r).head?.getD 99
theorem eat_near1 (hs l r : List Nat) (h99 : l.contains 99 = false) : eat [.many hs,.one l] r = l.contains (nearH hs r):=by
 unfold nearH skH
 rw [eat]
 cases r.dropWhile (fun x=>hs.contains x) with
 | nil=>exact h99.symm
 | cons x t=>simp [eat]
end
section
def setS (l : List Nat) : Pat:=.node 1 l []
def seqQ (l : List Pat) : Pat:=.node 2 [] l
def noneQ : Pat:=.node 0 [] []
def toW (a : Nat) : Int:=if a = 99 then -1 else a
theorem toW_eq (z : Nat) (m : Nat) (hm : m < 99) : (toW z == (m : Int)) = (z == m):=by
 unfold toW
 rw [Bool.eq_iff_iff,beq_iff_eq,beq_iff_eq]
 split <;> omega
theorem toW_iff (z : Nat) (m : Nat) (hm : m < 99) : toW z = (m : Int) ↔ z = m:=by
 have h:=toW_eq z m hm
 rwa [Bool.eq_iff_iff,beq_iff_eq,beq_iff_eq] at h
theorem toI_len (c : List Nat) : (toI c).length = c.length:=by unfold toI;rw [List.length_map]
theorem or_ite (a b : Bool) (e : Bool) : (if a = true then false else if b = true then false else e) = if (a || b) = true then false else e:=by cases a <;> cases b <;> rfl
end
section
open Go.RowKit
section
variable {g : Nat→Nat} {n : Nat}
end
end
section
def marksQ : Pat:=.node 4 [] [setQ 8]
def blanksQ : Pat:=.node 4 [] [setQ 4]
def maybeQ (p : Pat) : Pat:=.node 6 [] [p]
def rulesL : List RuleP:=[
 ⟨false,false,false,setQ 2,setQ 3⟩,
 ⟨true,false,false,setS [1,2,3],noneQ⟩,
 ⟨false,false,false,noneQ,setS [1,2,3,4,5]⟩,
 ⟨true,false,false,seqQ [setQ 5,blanksQ],noneQ⟩,
 ⟨false,false,false,setS [0,6,7,8,9,10,11,12,13,14,15,16,17,18,19,20,21,22,23,24,25],setQ 8⟩,
 ⟨false,false,false,noneQ,setQ 6⟩,
 ⟨false,false,false,seqQ [setQ 6,marksQ],noneQ⟩,
 ⟨false,false,false,seqQ [setQ 7,marksQ],noneQ⟩,
 ⟨false,false,false,seqQ [setS [0,1,2,3,5,6,7,9,10,11,12,13,14,15,18,19,20,21,22,23,24,25],marksQ],setQ 7⟩,
 ⟨false,true,false,seqQ [setQ 8,marksQ],setQ 7⟩,
 ⟨false,false,false,noneQ,setS [10,11,13,14,15]⟩,
 ⟨false,false,false,seqQ [setQ 9,marksQ,blanksQ],noneQ⟩,
 ⟨false,false,false,seqQ [setQ 12,marksQ,blanksQ],setQ 9⟩,
 ⟨false,false,false,seqQ [setS [10,11],marksQ,blanksQ],setQ 24⟩,
 ⟨false,false,false,seqQ [setQ 18,marksQ,blanksQ],setQ 18⟩,
 ⟨true,false,false,setQ 4,noneQ⟩,
 ⟨false,false,false,noneQ,setQ 12⟩,
 ⟨false,false,false,seqQ [setQ 12,marksQ],noneQ⟩,
 ⟨false,false,false,noneQ,setS [16,17,24]⟩,
 ⟨false,false,false,noneQ,setQ 19⟩,
 ⟨false,false,false,seqQ [setQ 0,marksQ],setQ 20⟩,
 ⟨false,false,false,seqQ [setQ 20,marksQ],setQ 0⟩,
 ⟨false,false,false,seqQ [setQ 22,marksQ],setQ 23⟩,
 ⟨false,false,false,seqQ [setQ 23,marksQ],setQ 21⟩,
 ⟨false,false,false,seqQ [setS [21,22],marksQ],setQ 0⟩,
 ⟨false,false,false,seqQ [setQ 0,marksQ],setS [21,22]⟩,
 ⟨false,false,false,seqQ [setQ 20,marksQ,maybeQ (setS [14,15]),marksQ,maybeQ (setS [10,11]),marksQ],setS [21,22]⟩,
 ⟨false,false,false,seqQ [setS [21,22],marksQ],seqQ [maybeQ (.node 3 [] [setQ 9,setQ 16]),setQ 20]⟩,
 ⟨false,false,false,seqQ [setS [14,15,16,20],marksQ],setQ 20⟩,
 ⟨false,false,false,seqQ [setQ 0,marksQ],setQ 0⟩,
 ⟨false,false,false,seqQ [setQ 14,marksQ],setQ 0⟩,
 ⟨false,false,false,seqQ [setS [0,20],marksQ],setQ 9⟩,
 ⟨false,false,false,seqQ [setQ 10,marksQ],setS [0,20]⟩,
 ⟨false,true,false,seqQ (flagsQ marksQ 25),setQ 25⟩,
 ⟨false,false,false,seqQ (setS [0,1,2,3,4,5,6,7,9,10,11,12,13,14,15,16,17,18,19,20,21,22,23,24] :: flagsQ marksQ 25),setQ 25⟩]
def onlyM (r : List Nat) : Bool:=!r.isEmpty && r.all fun x=>x == 8
def numE : List El:=[.many [8],.may [10,11],.many [8],.may [14,15],.many [8],.one [20]]
def testsL : List RB:=[
 ⟨false,eat [.one [2]],eat [.one [3]]⟩,
 ⟨true,eat [.one [1,2,3]],eat []⟩,
 ⟨false,eat [],eat [.one [1,2,3,4,5]]⟩,
 ⟨true,eat [.many [4],.one [5]],eat []⟩,
 ⟨false,eat [.one [0,6,7,8,9,10,11,12,13,14,15,16,17,18,19,20,21,22,23,24,25]],eat [.one [8]]⟩,
 ⟨false,eat [],eat [.one [6]]⟩,
 ⟨false,eat [.many [8],.one [6]],eat []⟩,
 ⟨false,eat [.many [8],.one [7]],eat []⟩,
 ⟨false,eat [.many [8],.one [0,1,2,3,5,6,7,9,10,11,12,13,14,15,18,19,20,21,22,23,24,25]],eat [.one [7]]⟩,
 ⟨false,onlyM,eat [.one [7]]⟩,
 ⟨false,eat [],eat [.one [10,11,13,14,15]]⟩,
 ⟨false,eat [.many [4],.many [8],.one [9]],eat []⟩,
 ⟨false,eat [.many [4],.many [8],.one [12]],eat [.one [9]]⟩,
 ⟨false,eat [.many [4],.many [8],.one [10,11]],eat [.one [24]]⟩,
 ⟨false,eat [.many [4],.many [8],.one [18]],eat [.one [18]]⟩,
 ⟨true,eat [.one [4]],eat []⟩,
 ⟨false,eat [],eat [.one [12]]⟩,
 ⟨false,eat [.many [8],.one [12]],eat []⟩,
 ⟨false,eat [],eat [.one [16,17,24]]⟩,
 ⟨false,eat [],eat [.one [19]]⟩,
 ⟨false,eat [.many [8],.one [0]],eat [.one [20]]⟩,
 ⟨false,eat [.many [8],.one [20]],eat [.one [0]]⟩,
 ⟨false,eat [.many [8],.one [22]],eat [.one [23]]⟩,
 ⟨false,eat [.many [8],.one [23]],eat [.one [21]]⟩,
 ⟨false,eat [.many [8],.one [21,22]],eat [.one [0]]⟩,
 ⟨false,eat [.many [8],.one [0]],eat [.one [21,22]]⟩,
 ⟨false,eat numE,eat [.one [21,22]]⟩,
 ⟨false,eat [.many [8],.one [21,22]],eat [.may [9,16],.one [20]]⟩,
 ⟨false,eat [.many [8],.one [14,15,16,20]],eat [.one [20]]⟩,
 ⟨false,eat [.many [8],.one [0]],eat [.one [0]]⟩,
 ⟨false,eat [.many [8],.one [14]],eat [.one [0]]⟩,
 ⟨false,eat [.many [8],.one [0,20]],eat [.one [9]]⟩,
 ⟨false,eat [.many [8],.one [10]],eat [.one [0,20]]⟩,
 ⟨false,oddA [8] 25,eat [.one [25]]⟩,
 ⟨false,oddB [8] 25 [0,1,2,3,4,5,6,7,9,10,11,12,13,14,15,16,17,18,19,20,21,22,23,24],eat [.one [25]]⟩]
theorem marksQ_iff (u : List Nat) : Lang marksQ u ↔ ∀ x ∈ u,x ∈ [8]:=by
 unfold marksQ setQ
 rw [lang_many,star_congr (lang_set [8] []),star_set]
theorem eats_onlyM {q : Pat} {fs : List El} (h2 : elsP q = some fs) (o2 : okE fs = true) : Eats ⟨false,true,false,seqQ [setQ 8,marksQ],q⟩ ⟨false,onlyM,eat fs⟩ :=
 ⟨rfl,fun a=>by
  have e : Ahead true (Lang (seqQ [setQ 8,marksQ])) a ↔ ∃ v,a = 8 :: v∧∀ x ∈ v,x ∈ [8]:=by
   unfold seqQ
   constructor
   ·rintro ⟨u,v,rfl,h,hl⟩
    have hl:=(lang_then [] _ _).1 hl
    simp only [LangT,marksQ_iff] at hl
    obtain ⟨_,_,rfl,h1,w,_,rfl,h2,rfl⟩:=hl
    obtain ⟨y,rfl,hy⟩:=(lang_set [8] [] _).1 h1
    have hy : y = 8:=by simpa using hy
    subst hy
    rw [h rfl]
    exact ⟨w,by simp,h2⟩
   ·rintro ⟨v,rfl,h⟩
    refine ⟨[],8 :: v,rfl,fun _=>rfl,(lang_then [] _ _).2 ?_⟩
    simp only [LangT,marksQ_iff]
    exact ⟨[8],v,rfl,(lang_set [8] [] _).2 ⟨8,rfl,by simp⟩,v,[],by simp,h,rfl⟩
  show Ahead true _ a ↔ _
  rw [e]
  unfold onlyM
  simp only [List.all_reverse,List.isEmpty_reverse,Bool.and_eq_true,List.all_eq_true,beq_iff_eq]
  constructor
  ·rintro ⟨v,rfl,h⟩
   refine ⟨rfl,fun x hx=>?_⟩
   rcases List.mem_cons.1 hx with rfl | hx
   ·rfl
   ·simpa using h x hx
  ·rintro ⟨h1,h2⟩
   cases a with
   | nil=>cases h1
   | cons x v =>
    rw [h2 x (by simp)]
    exact ⟨v,rfl,fun y hy=>by rw [h2 y (List.mem_cons_of_mem _ hy)];simp⟩,fun b=>behind_pat h2 o2 b⟩
theorem eats_L : EatsL rulesL testsL :=
 .cons (.pat rfl rfl rfl rfl) <| .cons (.pat rfl rfl rfl rfl) <| .cons (.pat rfl rfl rfl rfl) <| .cons (.pat rfl rfl rfl rfl) <| .cons (.pat rfl rfl rfl rfl) <|
 .cons (.pat rfl rfl rfl rfl) <| .cons (.pat rfl rfl rfl rfl) <| .cons (.pat rfl rfl rfl rfl) <| .cons (.pat rfl rfl rfl rfl) <| .cons (eats_onlyM rfl rfl) <|
 .cons (.pat rfl rfl rfl rfl) <| .cons (.pat rfl rfl rfl rfl) <| .cons (.pat rfl rfl rfl rfl) <| .cons (.pat rfl rfl rfl rfl) <| .cons (.pat rfl rfl rfl rfl) <|
 .cons (.pat rfl rfl rfl rfl) <| .cons (.pat rfl rfl rfl rfl) <| .cons (.pat rfl rfl rfl rfl) <| .cons (.pat rfl rfl rfl rfl) <| .cons (.pat rfl rfl rfl rfl) <|
 .cons (.pat rfl rfl rfl rfl) <| .cons (.pat rfl rfl rfl rfl) <| .cons (.pat rfl rfl rfl rfl) <| .cons (.pat rfl rfl rfl rfl) <| .cons (.pat rfl rfl rfl rfl) <|
 .cons (.pat rfl rfl rfl rfl) <| .cons (.pat rfl rfl rfl rfl) <| .cons (.pat rfl rfl rfl rfl) <| .cons (.pat rfl rfl rfl rfl) <| .cons (.pat rfl rfl rfl rfl) <|
 .cons (.pat rfl rfl rfl rfl) <| .cons (.pat rfl rfl rfl rfl) <| .cons (.pat rfl rfl rfl rfl) <|
 .cons (eats_oddA (by decide) marksQ_iff rfl rfl) <| .cons (eats_oddB (by decide) (by decide) marksQ_iff rfl rfl) .nil
def gluT (p a q : Nat) : Bool :=
 ([0,6,7,8,9,10,11,12,13,14,15,16,17,18,19,20,21,22,23,24,25].contains p && [8].contains q) || [6].contains q || [6].contains a || [7].contains a ||
 ([0,1,2,3,5,6,7,9,10,11,12,13,14,15,18,19,20,21,22,23,24,25].contains a && [7].contains q) || (a == 99 && [7].contains q) || [10,11,13,14,15].contains q
def ovrT (w q : Nat) : Bool:=[9].contains w || ([12].contains w && [9].contains q) || ([10,11].contains w && [24].contains q) || ([18].contains w && [18].contains q)
def letT (a q : Nat) (num nx o : Bool) : Bool :=
 [12].contains q || [12].contains a || [16,17,24].contains q || [19].contains q || ([0].contains a && [20].contains q) || ([20].contains a && [0].contains q) ||
 ([22].contains a && [23].contains q) || ([23].contains a && [21].contains q) || ([21,22].contains a && [0].contains q) || ([0].contains a && [21,22].contains q) ||
 (num && [21,22].contains q) || ([21,22].contains a && if [9,16].contains q then nx else [20].contains q) || ([14,15,16,20].contains a && [20].contains q) ||
 ([0].contains a && [0].contains q) || ([14].contains a && [0].contains q) || ([0,20].contains a && [9].contains q) || ([10].contains a && [0,20].contains q) || (o && [25].contains q)
def headL (p q : Nat) (zw g l : Bool) : Bool :=
 if [2].contains p && [3].contains q then false
 else if [1,2,3].contains p then true
 else if [1,2,3,4,5].contains q then false
 else if zw then true
 else if g then false
 else if [4].contains p then true
 else if l then false
 else true
def cutL (p q : Int) (zw g l : Bool) : Bool :=
 if p = 2∧q = 3 then false
 else if lMust p then true
 else if [1,2,3,4,5].contains q then false
 else if zw then true
 else if g then false
 else if p = 4 then true
 else !l
def lettL (b q : Int) (num nx o : Bool) : Bool :=
 ([12,17,16,24,19].contains q || b == 12 || lPairs b q) || ([21,22].contains q && num) || ([21,22].contains b && (q == 20 || [9,16].contains q && nx)) || (q == 25 && o)
def overL (a q : Int) : Bool:=a == 9 || a == 12 && q == 9 || [11,10].contains a && q == 24 || a == 18 && q == 18
def clsL : List Nat:=99 :: List.range 26
theorem headL_all : (List.range 26).all (fun p=>(List.range 26).all fun q=>[false,true].all fun z=>[false,true].all fun g=>[false,true].all fun l=>headL p q z g l == cutL (p : Int) (q : Int) z g l) = true:=by decide +kernel
theorem gluT_all : (List.range 26).all (fun p=>clsL.all fun a=>(List.range 26).all fun q=>(a == 8) || gluT p a q == lGlued (p : Int) (toW a) (q : Int)) = true:=by decide +kernel
theorem ovrT_all : clsL.all (fun w=>(List.range 26).all fun q=>ovrT w q == overL (toW w) (q : Int)) = true:=by decide +kernel
theorem letT_all : clsL.all (fun a=>(List.range 26).all fun q=>[false,true].all fun num=>[false,true].all fun nx=>[false,true].all fun o=>letT a q num nx o == lettL (toW a) (q : Int) num nx o) = true:=by decide +kernel
theorem bools (b : Bool) : b ∈ [false,true]:=by cases b <;> simp
theorem headL_eq {p q : Nat} (hp : p < 26) (hq : q < 26) (z g l : Bool) : headL p q z g l = cutL (p : Int) (q : Int) z g l:=by
 have h:=headL_all
 rw [List.all_eq_true] at h
 have h:=h p (by simpa using hp)
 rw [List.all_eq_true] at h
 have h:=h q (by simpa using hq)
 rw [List.all_eq_true] at h
 have h:=h z (bools z)
 rw [List.all_eq_true] at h
 have h:=h g (bools g)
 rw [List.all_eq_true] at h
 have h:=h l (bools l)
 rwa [beq_iff_eq] at h
theorem gluT_eq {p a q : Nat} (hp : p < 26) (ha : a ∈ clsL) (h8 : a ≠ 8) (hq : q < 26) : gluT p a q = lGlued (p : Int) (toW a) (q : Int):=by
 have h:=gluT_all
 rw [List.all_eq_true] at h
 have h:=h p (by simpa using hp)
 rw [List.all_eq_true] at h
 have h:=h a ha
 rw [List.all_eq_true] at h
 have h:=h q (by simpa using hq)
 rw [Bool.or_eq_true,beq_iff_eq,beq_iff_eq] at h
 exact h.resolve_left h8
theorem ovrT_eq {w q : Nat} (hw : w ∈ clsL) (hq : q < 26) : ovrT w q = overL (toW w) (q : Int):=by
 have h:=ovrT_all
 rw [List.all_eq_true] at h
 have h:=h w hw
 rw [List.all_eq_true] at h
 have h:=h q (by simpa using hq)
 rwa [beq_iff_eq] at h
theorem letT_eq {a q : Nat} (ha : a ∈ clsL) (hq : q < 26) (num nx o : Bool) : letT a q num nx o = lettL (toW a) (q : Int) num nx o:=by
 have h:=letT_all
 rw [List.all_eq_true] at h
 have h:=h a ha
 rw [List.all_eq_true] at h
 have h:=h q (by simpa using hq)
 rw [List.all_eq_true] at h
 have h:=h num (bools num)
 rw [List.all_eq_true] at h
 have h:=h nx (bools nx)
 rw [List.all_eq_true] at h
 have h:=h o (bools o)
 rwa [beq_iff_eq] at h
theorem past_drop (c : List Nat) (k : Nat) : ∀ n,n≤c.length→(c.take (lPast (toI c) (k : Int) n)).reverse = skH [k] (c.take n).reverse
 | 0,_=>by simp [lPast,skH]
 | n+1,h=>by
  have ih:=past_drop c k n (by omega)
  unfold skH at ih ⊢
  rw [ahead_succ (by omega),List.dropWhile_cons,lPast,toI_get]
  by_cases e : c.getD n 0 = k
  ·rw [if_pos (by omega),if_pos (by simpa using e)];exact ih
  ·rw [if_neg (by omega),if_neg (by simpa using e),ahead_succ (by omega)]
theorem last_eq {c : List Nat} (hc : ∀ x ∈ c,x < 26) {n : Nat} (hn : n≤c.length) : lLast (toI c) n = toW ((c.take n).reverse.head?.getD 99):=by
 cases n with
 | zero=>rfl
 | succ n =>
  rw [lLast_succ,toI_get,ahead_succ (by omega),List.head?_cons,Option.getD_some]
  have : c.getD n 0 < 26:=by rw [List.getD_eq_getElem?_getD,List.getElem?_eq_getElem (by omega)];exact hc _ (List.getElem_mem _)
  unfold toW
  rw [if_neg (by omega)]
theorem nearL_eq {c : List Nat} (hc : ∀ x ∈ c,x < 26) (k : Nat) {n : Nat} (hn : n≤c.length) : lLast (toI c) (lPast (toI c) (k : Int) n) = toW (nearH [k] (c.take n).reverse):=by
 rw [last_eq hc (Nat.le_trans (lPast_le _ _ _) hn),past_drop c k n hn];rfl
theorem skH_head {hs r t : List Nat} {x : Nat} (h : skH hs r = x :: t) : hs.contains x = false:=drop_head h
theorem skH_twice (hs r : List Nat) : skH hs (skH hs r) = skH hs r:=by
 cases h : skH hs r with
 | nil=>rfl
 | cons x t =>
  have:=skH_head h
  unfold skH
  rw [List.dropWhile_cons,this];rfl
theorem head_cls {c r : List Nat} (hc : ∀ x ∈ c,x < 26) (hr : ∀ x ∈ r,x ∈ c) (hs : List Nat) : nearH hs r ∈ clsL:=by
 unfold nearH clsL
 cases hd : skH hs r with
 | nil=>simp
 | cons x t =>
  have:=hc x (hr x ((List.dropWhile_suffix _).subset (show x ∈ skH hs r by rw [hd];simp)))
  simp only [List.head?_cons,Option.getD_some,List.mem_cons,List.mem_range]
  exact .inr this
theorem near_not {hs r : List Nat} {x : Nat} (h : hs.contains x = true) (h99 : x ≠ 99) : nearH hs r ≠ x:=by
 unfold nearH
 cases hd : skH hs r with
 | nil=>exact fun e=>h99 e.symm
 | cons y t =>
  intro e
  have e : y = x:=e
  subst e
  rw [skH_head hd] at h;cases h
theorem regL_eq {c : List Nat} (hc : ∀ x ∈ c,x < 26) : ∀ (f n : Nat),n < f→n≤c.length→lRegGo (toI c) f (lPast (toI c) 8 n) = regR [8] 25 (c.take n).reverse
 | 0,n,h,_=>absurd h (Nat.not_lt_zero _)
 | f+1,n,h,hn=>by
  have hp:=past_drop c 8 n hn
  have hl:=lPast_le (toI c) ((8 : Nat) : Int) n
  rw [lRegGo,regR_drop,← hp]
  change (if lLast (toI c) (lPast (toI c) ((8 : Nat) : Int) n) = 25 then lRegGo (toI c) f (lPast (toI c) 8 (lPast (toI c) ((8 : Nat) : Int) n - 1))+1 else 0) = _
  rw [last_eq hc (by omega)]
  cases hm : lPast (toI c) ((8 : Nat) : Int) n with
  | zero=>rfl
  | succ j =>
   rw [hm] at hl
   rw [ahead_succ (by omega),List.head?_cons,Option.getD_some]
   have h7 : toW (c.getD j 0) = 25 ↔ c.getD j 0 = 25:=toW_iff _ 25 (by omega)
   simp only
   by_cases h8 : c.getD j 0 = 25
   ·rw [if_pos (h7.2 h8),if_pos h8,Nat.add_sub_cancel,regL_eq hc f j (by omega) (by omega)]
   ·rw [if_neg (fun e=>h8 (h7.1 e)),if_neg h8]
theorem eat_may8 (A : List Nat) (es : List El) (hA : A.contains 99 = false) {c : List Nat} {m : Nat} (hm : m≤c.length) (h8 : skH [8] (c.take m).reverse = (c.take m).reverse) (m' : Nat) (hm' : m' = if A.contains ((c.take m).reverse.head?.getD 99) then lPast (toI c) ((8 : Nat) : Int) (m - 1) else m) :
  eat (.may A :: .many [8] :: es) (c.take m).reverse = eat es (c.take m').reverse∧skH [8] (c.take m').reverse = (c.take m').reverse∧m'≤c.length:=by
 cases m with
 | zero =>
  rw [show (c.take 0).reverse.head?.getD 99 = 99 by simp,hA] at hm'
  simp only [Bool.false_eq_true,if_false] at hm'
  subst hm'
  refine ⟨?_,h8,hm⟩
  simp only [List.take_zero,List.reverse_nil]
  rw [eat,eat];rfl
 | succ m =>
  rw [ahead_succ (by omega)] at h8 hm' ⊢
  rw [List.head?_cons,Option.getD_some,Nat.add_sub_cancel] at hm'
  rw [eat]
  by_cases hx : A.contains (c.getD m 0) = true
  ·rw [if_pos hx] at hm' ⊢
   have hl:=lPast_le (toI c) ((8 : Nat) : Int) m
   have hp:=past_drop c 8 m (by omega)
   rw [← hm'] at hl hp
   rw [eat]
   rw [hp]
   exact ⟨rfl,skH_twice _ _,by omega⟩
  ·rw [if_neg hx] at hm' ⊢
   subst hm'
   rw [ahead_succ (by omega),eat]
   exact ⟨congrArg (eat es) h8,h8,by omega⟩
theorem toW_in2 (x a b : Nat) (ha : a < 99) (hb : b < 99) : [(a : Int),(b : Int)].contains (toW x) = [b,a].contains x:=by
 have h1:=toW_eq x a ha
 have h2:=toW_eq x b hb
 rw [Bool.eq_iff_iff] at h1 h2
 simp only [beq_iff_eq] at h1 h2
 rw [Bool.eq_iff_iff]
 simp only [List.contains_iff_mem,List.mem_cons,List.not_mem_nil,or_false]
 rw [h1,h2]
 exact or_comm
theorem num_eq {c : List Nat} (hc : ∀ x ∈ c,x < 26) {n : Nat} (hn : n≤c.length) : lNum (toI c) n = eat numE (c.take n).reverse:=by
 have hp:=past_drop c 8 n hn
 have hl:=lPast_le (toI c) ((8 : Nat) : Int) n
 have h1 : ∀ m,m≤c.length→([11,10] : List Int).contains (lLast (toI c) m) = [10,11].contains ((c.take m).reverse.head?.getD 99):=fun m hm=>by
  rw [last_eq hc hm];exact toW_in2 _ 11 10 (by omega) (by omega)
 have h2 : ∀ m,m≤c.length→([14,15] : List Int).contains (lLast (toI c) m) = [14,15].contains ((c.take m).reverse.head?.getD 99):=fun m hm=>by
  rw [last_eq hc hm]
  rw [show ([14,15] : List Int).contains (toW ((c.take m).reverse.head?.getD 99)) = ([15,14] : List Nat).contains ((c.take m).reverse.head?.getD 99) from toW_in2 _ 14 15 (by omega) (by omega)]
  rw [Bool.eq_iff_iff];simp [or_comm]
 unfold lNum numE
 rw [eat]
 rw [show List.dropWhile (fun x=>[8].contains x) (c.take n).reverse = (c.take (lPast (toI c) ((8 : Nat) : Int) n)).reverse from hp.symm]
 have t1 : skH [8] (c.take (lPast (toI c) ((8 : Nat) : Int) n)).reverse = (c.take (lPast (toI c) ((8 : Nat) : Int) n)).reverse:=by rw [hp,skH_twice]
 change (lLast (toI c) (if ([14,15] : List Int).contains (lLast (toI c) (if ([11,10] : List Int).contains (lLast (toI c) (lPast (toI c) ((8 : Nat) : Int) n)) then lPast (toI c) ((8 : Nat) : Int) (lPast (toI c) ((8 : Nat) : Int) n - 1) else lPast (toI c) ((8 : Nat) : Int) n)) then lPast (toI c) ((8 : Nat) : Int) ((if ([11,10] : List Int).contains (lLast (toI c) (lPast (toI c) ((8 : Nat) : Int) n)) then lPast (toI c) ((8 : Nat) : Int) (lPast (toI c) ((8 : Nat) : Int) n - 1) else lPast (toI c) ((8 : Nat) : Int) n) - 1) else (if ([11,10] : List Int).contains (lLast (toI c) (lPast (toI c) ((8 : Nat) : Int) n)) then lPast (toI c) ((8 : Nat) : Int) (lPast (toI c) ((8 : Nat) : Int) n - 1) else lPast (toI c) ((8 : Nat) : Int) n)) == 20) = _
 generalize lPast (toI c) ((8 : Nat) : Int) n = n1 at hl t1 ⊢
 have hn1 : n1≤c.length:=by omega
 rw [h1 n1 hn1]
 obtain ⟨e1,t2,hn2⟩:=eat_may8 [10,11] [.may [14,15],.many [8],.one [20]] rfl hn1 t1 _ rfl
 rw [e1]
 generalize (if [10,11].contains ((c.take n1).reverse.head?.getD 99) = true then lPast (toI c) ((8 : Nat) : Int) (n1 - 1) else n1) = n2 at t2 hn2 ⊢
 rw [h2 n2 hn2]
 obtain ⟨e2,t3,hn3⟩:=eat_may8 [14,15] [.one [20]] rfl hn2 t2 _ rfl
 rw [e2]
 generalize (if [14,15].contains ((c.take n2).reverse.head?.getD 99) = true then lPast (toI c) ((8 : Nat) : Int) (n2 - 1) else n2) = n3 at t3 hn3 ⊢
 rw [last_eq hc hn3]
 have h20:=toW_eq ((c.take n3).reverse.head?.getD 99) 20 (by omega)
 rw [show (toW ((c.take n3).reverse.head?.getD 99) == 20) = (toW ((c.take n3).reverse.head?.getD 99) == ((20 : Nat) : Int)) from rfl,h20]
 cases (c.take n3).reverse with
 | nil=>simp [eat]
 | cons x t=>rw [Bool.eq_iff_iff];simp [eat]
theorem onlyM_near {r : List Nat} (hr : r ≠ []) (h : ∀ x ∈ r,x < 26) : onlyM r = (nearH [8] r == 99):=by
 unfold onlyM nearH
 have h0 : r.isEmpty = false:=by cases r with | nil=>exact absurd rfl hr | cons=>rfl
 rw [h0,Bool.not_false,Bool.true_and]
 cases hd : skH [8] r with
 | nil =>
  have h1 : r.all (fun x=>x == 8) = true:=by
   rw [List.all_eq_true]
   intro x hx
   have h3 : r = r.takeWhile (fun x=>[8].contains x)++r.dropWhile (fun x=>[8].contains x):=List.takeWhile_append_dropWhile.symm
   rw [show r.dropWhile (fun x=>[8].contains x) = [] from hd,List.append_nil] at h3
   rw [h3] at hx
   have:=take_in [8] r x hx
   simpa using this
  rw [h1];rfl
 | cons y t =>
  have hy : y ∈ r:=(List.dropWhile_suffix _).subset (show y ∈ skH [8] r by rw [hd];simp)
  have h1:=skH_head hd
  have h2 : r.all (fun x=>x == 8) = false:=Bool.eq_false_iff.2 fun h=>by
   have:=List.all_eq_true.1 h y hy
   rw [beq_iff_eq] at this
   subst this
   cases h1
  rw [h2]
  have:=h y hy
  simp only [List.head?_cons,Option.getD_some]
  symm
  rw [beq_eq_false_iff_ne]
  omega
def head20 : List Nat→Bool
 | []=>false
 | y :: _=>y == 20
theorem chain_L {r b : List Nat} {p q : Nat} {t : List Nat} {s : List Nat} (hr : r = p :: s) (hb : b = q :: t) (hin : ∀ x ∈ r,x < 26) :
  decF true r b testsL = headL p q ([5].contains (nearH [4] r)) (gluT p (nearH [8] r) q || ovrT (nearH [8] (skH [4] r)) q) (letT (nearH [8] r) q (eat numE r) (head20 t) (regR [8] 25 r % 2 == 1)):=by
 have e1:=fun l (h : l.contains 99 = false)=>eat_near1 [8] l r h
 have e2:=fun l (h : l.contains 99 = false)=>eat_near1 [4] l r h
 have e3 : ∀ l,l.contains 99 = false→eat [.many [4],.many [8],.one l] r = l.contains (nearH [8] (skH [4] r)):=fun l h=>by
  rw [eat];exact eat_near1 [8] l _ h
 have f1 : ∀ l,eat [.one l] r = l.contains p:=fun l=>by rw [hr];simp [eat]
 have g1 : ∀ l,eat [.one l] b = l.contains q:=fun l=>by rw [hb];simp [eat]
 have g2 : eat [.may [9,16],.one [20]] b = if [9,16].contains q then (head20 t) else [20].contains q:=by
  rw [hb,eat]
  split
  ·cases t with
   | nil=>rfl
   | cons y t=>rw [Bool.eq_iff_iff];simp [eat,head20]
  ·simp [eat]
 have z1 : ∀ r,eat [] r = true:=fun r=>by rw [eat]
 have hm:=onlyM_near (r:=r) (by rw [hr];simp) hin
 have ho:=odd_both (hs:=[8]) (cs:=[0,1,2,3,4,5,6,7,9,10,11,12,13,14,15,16,17,18,19,20,21,22,23,24]) (k:=25) (by decide) (r:=r) (fun x hx=>by
  have hx:=hin x hx
  have h : (List.range 26).all (fun x=>[0,1,2,3,4,5,6,7,9,10,11,12,13,14,15,16,17,18,19,20,21,22,23,24].contains x || isF [8] 25 x) = true:=by decide
  rw [List.all_eq_true] at h
  have h:=h x (by simpa using hx)
  rw [Bool.or_eq_true,List.contains_iff_mem] at h
  exact h)
 unfold testsL
 simp only [decF]
 simp only [e1 [6] rfl,e1 [7] rfl,e1 [0,1,2,3,5,6,7,9,10,11,12,13,14,15,18,19,20,21,22,23,24,25] rfl,e1 [12] rfl,e1 [0] rfl,e1 [20] rfl,e1 [22] rfl,e1 [23] rfl,e1 [21,22] rfl,e1 [14,15,16,20] rfl,e1 [14] rfl,e1 [0,20] rfl,e1 [10] rfl]
 simp only [e2 [5] rfl,e3 [9] rfl,e3 [12] rfl,e3 [10,11] rfl,e3 [18] rfl,g2,hm]
 simp only [f1,g1,z1,Bool.and_true,Bool.true_and]
 rw [← ho]
 unfold headL gluT ovrT letT
 generalize nearH [8] r = a
 generalize nearH [8] (skH [4] r) = w
 generalize nearH [4] r = z
 generalize eat numE r = num
 generalize (head20 t) = nx
 generalize oddA [8] 25 r = o1
 generalize oddB [8] 25 _ r = o2
 simp only [or_ite]
 simp only [Bool.or_assoc,Bool.and_or_distrib_right]
theorem rules_line {c : List Nat} (hc : ∀ x ∈ c,x < 26) {i : Nat} (h0 : 0 < i) (hi : i < c.length) : decideB true c i rulesL = lCut (toI c) i:=by
 rw [decide_F true c i eats_L]
 obtain ⟨k,rfl⟩ : ∃ k,i = k+1:=⟨i - 1,by omega⟩
 have e1 : c.getD k 0 = c[k]'(by omega):=by rw [List.getD_eq_getElem?_getD,List.getElem?_eq_getElem (by omega)];rfl
 have e2 : c.getD (k+1) 0 = c[k+1]'hi:=by rw [List.getD_eq_getElem?_getD,List.getElem?_eq_getElem hi];rfl
 have hp : c.getD k 0 < 26:=by rw [e1];exact hc _ (List.getElem_mem _)
 have hq : c.getD (k+1) 0 < 26:=by rw [e2];exact hc _ (List.getElem_mem _)
 have hin : ∀ x ∈ (c.take (k+1)).reverse,x ∈ c:=fun x hx=>List.mem_of_mem_take (by simpa using hx)
 rw [chain_L (ahead_succ (by omega)) (show c.drop (k+1) = c.getD (k+1) 0 :: c.drop (k+2) by rw [List.drop_eq_getElem_cons hi,e2]) (fun x hx=>hc x (hin x hx))]
 rw [headL_eq hp hq,gluT_eq hp (head_cls hc hin _) (near_not rfl (by omega)) hq,ovrT_eq (w:=nearH [8] (skH [4] (c.take (k+1)).reverse)) (head_cls hc (fun x hx=>hin x ((List.dropWhile_suffix _).subset hx)) _) hq,letT_eq (head_cls hc hin _) hq]
 have n8:=nearL_eq hc 8 (n:=k+1) (by omega)
 have n4:=nearL_eq hc 4 (n:=k+1) (by omega)
 have hov : overL (toW (nearH [8] (skH [4] (c.take (k+1)).reverse))) ((c.getD (k+1) 0 : Nat) : Int) = lOver (toI c) (k+1) ((c.getD (k+1) 0 : Nat) : Int):=by
  have hl:=lPast_le (toI c) ((4 : Nat) : Int) (k+1)
  have h1:=nearL_eq hc 8 (n:=lPast (toI c) ((4 : Nat) : Int) (k+1)) (by omega)
  rw [past_drop c 4 (k+1) (by omega)] at h1
  rw [← h1];rfl
 have hzw : [5].contains (nearH [4] (c.take (k+1)).reverse) = decide (lLast (toI c) (lPast (toI c) ((4 : Nat) : Int) (k+1)) = 5):=by
  rw [n4]
  have h5 : toW (nearH [4] (c.take (k+1)).reverse) = 5 ↔ nearH [4] (c.take (k+1)).reverse = 5:=toW_iff _ 5 (by omega)
  rw [Bool.eq_iff_iff,decide_eq_true_iff,List.contains_iff_mem,List.mem_singleton]
  exact h5.symm
 have hnx : head20 (c.drop (k+2)) = (decide (k+1+1 < (toI c).length) && (toI c).getD (k+1+1) 0 == 20):=by
  rw [toI_len,toI_get]
  by_cases h2 : k+2 < c.length
  ·rw [List.drop_eq_getElem_cons h2,decide_eq_true (by omega : k+1+1 < c.length),Bool.true_and,List.getD_eq_getElem?_getD,List.getElem?_eq_getElem h2,Option.getD_some]
   rw [Bool.eq_iff_iff,head20,beq_iff_eq,beq_iff_eq]
   omega
  ·rw [List.drop_eq_nil_of_le (by omega),decide_eq_false (by omega)];rfl
 have hrg : (regR [8] 25 (c.take (k+1)).reverse % 2 == 1) = (lReg (toI c) (k+1) % 2 == 1):=by
  unfold lReg
  rw [regL_eq hc _ _ (by omega) (by omega)]
 rw [hov,hzw,hnx,hrg,← num_eq hc (by omega),← n8]
 unfold lCut cutL lettL lLetters
 simp only [toI_get,Nat.add_sub_cancel]
 generalize lNum (toI c) (k+1) = num
 generalize lReg (toI c) (k+1) = rg
 generalize lOver (toI c) (k+1) _ = ov
 change _ = (if _ then false else if _ then true else if _ then false else if lLast (toI c) (lPast (toI c) ((4 : Nat) : Int) (k+1)) = 5 then true else if lGlued _ (lLast (toI c) (lPast (toI c) ((8 : Nat) : Int) (k+1))) _ || ov then false else if _ then true else _)
 generalize lLast (toI c) (lPast (toI c) ((8 : Nat) : Int) (k+1)) = b
 generalize lLast (toI c) (lPast (toI c) ((4 : Nat) : Int) (k+1)) = z
 simp only [decide_eq_true_eq,Bool.and_assoc,Bool.or_assoc]
end
section
def lineB (s : ByteArray) : List Nat:=boundsX (fun c i=>lCut (toI c) i) gL s
theorem lineB_rules (s : ByteArray) : boundsM rulesL true gL s = lineB s:=by
 unfold boundsM lineB
 exact boundsX_congr (z:=26) gL_lt (fun c i hc h0 hi=>by rw [decideM_eq true h0 hi,rules_line hc h0 hi]) s
theorem contig_at : ∀ {l : List (Nat × Nat × Nat)} {p z : Nat},Contig p l z→∀ {k : Nat} {x : Nat × Nat × Nat},l[k]? = some x→(∃ y,l[k+1]? = some y∧y.2.1 = x.2.2)∨(k+1 = l.length∧x.2.2 = z)
 | [],_,_,_,_,_,h=>by simp at h
 | [a],p,z,hc,k,x,h=>by
  obtain ⟨_,_,hz⟩:=hc
  cases k with
  | zero=>simp at h;subst h;exact .inr ⟨rfl,hz⟩
  | succ k=>simp at h
 | a :: b :: r,p,z,hc,k,x,h=>by
  obtain ⟨_,_,h3⟩:=hc
  cases k with
  | zero=>simp at h;subst h;exact .inl ⟨b,rfl,h3.1⟩
  | succ k =>
   rcases contig_at h3 (k:=k) (x:=x) (by simpa using h) with ⟨y,h1,h2⟩ | ⟨h1,h2⟩
   ·exact .inl ⟨y,by simpa using h1,h2⟩
   ·exact .inr ⟨by simp at h1 ⊢;omega,h2⟩
theorem lineB_rise (s : ByteArray) : (lineB s).Pairwise (· < ·):=by
 unfold lineB boundsX
 split
 ·exact List.Pairwise.nil
 ·rw [List.pairwise_append]
  refine ⟨pick_rise (runes_rise s),List.pairwise_singleton _ _,fun a ha b hb=>?_⟩
  rw [List.mem_singleton] at hb
  subst hb
  obtain ⟨k,x,hx,_,rfl⟩:=pickG_mem.1 ha
  have:=runesP_bd x (List.mem_of_getElem? hx)
  omega
theorem lineB_len (s : ByteArray) : (lineB s).length≤s.size+1:=by
 have h : ∀ (r : List (Nat × Nat × Nat)) (t : List Bool),(pickG r t).length≤r.length:=fun r=>by
  induction r with
  | nil=>intro t;cases t <;> simp [pickG]
  | cons x r ih =>
   intro t
   cases t with
   | nil=>simp [pickG]
   | cons b t=>rw [pickG,List.length_append,List.length_cons];have:=ih t;split <;> simp <;> omega
 unfold lineB boundsX
 split
 ·simp
 ·rw [List.length_append]
  have:=h (runesP s) ((List.range (runesP s).length).map fun i=>decide (i = 0) || lCut (toI (clsG gL (runesP s))) i)
  have:=runesP_len s
  simp only [List.length_singleton]
  omega
theorem lineB_at {s : ByteArray} {k : Nat} {y : Nat × Nat × Nat} (hy : (runesP s)[k+1]? = some y) : y.2.1 ∈ lineB s ↔ lCut (lCls gL s) (k+1) = true:=by
 have hc : lCls gL s = toI (clsG gL (runesP s)):=by unfold lCls toI clsG;rw [List.map_map];rfl
 have hb:=runesP_bd y (List.mem_of_getElem? hy)
 obtain ⟨hk,ey⟩:=List.getElem?_eq_some_iff.1 hy
 have hz : s.size ≠ 0:=by omega
 unfold lineB boundsX
 rw [if_neg hz,List.mem_append,List.mem_singleton,pickG_mem]
 simp only
 rw [← hc]
 constructor
 ·rintro (⟨j,x,hx,ht,e⟩ | h)
  ·have hj : j = k+1:=by
    obtain ⟨hj,ex⟩:=List.getElem?_eq_some_iff.1 hx
    have hp:=List.pairwise_iff_getElem.1 (runes_rise s)
    rcases Nat.lt_trichotomy j (k+1) with h | h | h
    ·have:=hp j (k+1) hj hk h;rw [ex,ey] at this;omega
    ·exact h
    ·have:=hp (k+1) j hk hj h;rw [ex,ey] at this;omega
   subst hj
   rw [List.getElem?_map,List.getElem?_range hk] at ht
   simpa using ht
  ·omega
 ·intro h
  refine .inl ⟨k+1,y,hy,?_,rfl⟩
  rw [List.getElem?_map,List.getElem?_range hk]
  simp [h]
def chD (s : ByteArray) (k : Nat) : List (Nat × Bool):=if k < (runesP s).length then lPick (lCls gL s) 0 (((runesP s).map (·.2.1)).take (k+1)) else lChances gL s
theorem runes_none {s : ByteArray} : (runesP s).length = 0 ↔ s.size = 0:=by
 constructor
 ·intro h
  have:=runesP_contig s
  rw [List.length_eq_zero_iff.1 h] at this
  exact this.symm
 ·intro h
  have:=runesP_len s
  omega
theorem chD_zero (s : ByteArray) : chD s 0 = []:=by
 unfold chD
 by_cases h : 0 < (runesP s).length
 ·rw [if_pos h]
  cases (runesP s).map (·.2.1) with
  | nil=>rfl
  | cons a r=>simp [lPick]
 ·rw [if_neg h]
  have h0 : (runesP s).length = 0:=by omega
  have h1:=runes_none.1 h0
  unfold lChances
  rw [if_pos h1,List.length_eq_zero_iff.1 h0];rfl
theorem chD_step {s : ByteArray} {k : Nat} {x : Nat × Nat × Nat} (hx : (runesP s)[k]? = some x) :
  chD s (k+1) = chD s k++(if x.2.2 ∈ lineB s then [(x.2.2,x.2.2 == s.size || lMust (gL x.1))] else []):=by
 obtain ⟨hk,ex⟩:=List.getElem?_eq_some_iff.1 hx
 have hb:=runesP_bd x (List.mem_of_getElem? hx)
 have e0 : chD s k = lPick (lCls gL s) 0 (((runesP s).map (·.2.1)).take (k+1)):=by unfold chD;rw [if_pos hk]
 rw [e0]
 rcases contig_at (runesP_contig s) hx with ⟨y,hy,e⟩ | ⟨hl,e⟩
 ·obtain ⟨hk1,ey⟩:=List.getElem?_eq_some_iff.1 hy
  have hby:=runesP_bd y (List.mem_of_getElem? hy)
  unfold chD
  rw [if_pos hk1,List.take_add_one,List.getElem?_map,hy]
  simp only [Option.map_some,Option.toList_some]
  rw [lPick_append,Nat.zero_add,List.length_take,List.length_map,Nat.min_eq_left (by omega),lPick,lPick,List.append_nil,← e]
  have hm:=lineB_at hy
  have hg : (lCls gL s).getD (k+1 - 1) 0 = (gL x.1 : Int):=by
   rw [List.getD_eq_getElem?_getD,Nat.add_sub_cancel];unfold lCls;rw [List.getElem?_map,hx];rfl
  have hne : (y.2.1 == s.size) = false:=by rw [beq_eq_false_iff_ne];omega
  rw [hg,hne,Bool.false_or]
  congr 1
  by_cases hc : lCut (lCls gL s) (k+1) = true
  ·rw [if_pos ⟨by omega,hc⟩,if_pos (hm.2 hc)]
  ·rw [if_neg (fun h=>hc h.2),if_neg (fun h=>hc (hm.1 h))]
 ·unfold chD
  have hz : s.size ≠ 0:=by omega
  rw [if_neg (by omega),List.take_of_length_le (by rw [List.length_map];omega),if_pos (by
   unfold lineB boundsX;rw [if_neg hz,e];simp)]
  unfold lChances
  rw [if_neg hz,e]
  simp
theorem chD_end (s : ByteArray) : chD s (runesP s).length = lChances gL s:=by unfold chD;rw [if_neg (by omega)]
theorem chD_len (s : ByteArray) : ∀ k,(chD s k).length≤s.size+1:=fun k=>by
 have h : ∀ (P : List Nat) (i : Nat),(lPick (lCls gL s) i P).length≤P.length:=fun P=>by
  induction P with
  | nil=>intro i;simp [lPick]
  | cons a r ih=>intro i;rw [lPick,List.length_append,List.length_cons];have:=ih (i+1);split <;> simp <;> omega
 have hl:=runesP_len s
 unfold chD
 split
 ·have:=h (((runesP s).map (·.2.1)).take (k+1)) 0
  rw [List.length_take,List.length_map] at this
  omega
 ·unfold lChances
  rw [List.length_append]
  have:=h ((runesP s).map (·.2.1)) 0
  rw [List.length_map] at this
  split <;> simp <;> omega
theorem first_mem {B : List Nat} {z j : Nat} (hB : B.Pairwise (· < ·)) (hlo : ∀ i b,i < j→B[i]? = some b→b < z) (hhi : ∀ b,B[j]? = some b→z≤b) : z ∈ B ↔ B[j]? = some z:=by
 constructor
 ·intro h
  obtain ⟨i,hi⟩:=List.getElem?_of_mem h
  obtain ⟨hi1,ei⟩:=List.getElem?_eq_some_iff.1 hi
  rcases Nat.lt_trichotomy i j with h1 | h1 | h1
  ·have:=hlo i z h1 hi;omega
  ·rw [← h1];exact hi
  ·have hj : j < B.length:=by omega
   have:=hhi B[j] (List.getElem?_eq_getElem hj)
   have:=List.pairwise_iff_getElem.1 hB j i hj hi1 h1
   omega
 ·exact List.mem_of_getElem?
end
section
open Go.RowKit
def NoneTo (p : Int→Bool) (l : List Int) (j : Nat) : Prop:=∀ k x,k < j→l[k]? = some x→p x = false
theorem noneTo_first (p : Int→Bool) (l : List Int) : NoneTo p l 0:=fun k x hk=>by omega
theorem noneTo_next {p : Int→Bool} {l : List Int} {j : Nat} {x : Int} (h : NoneTo p l j) (hx : l[j]? = some x) (hp : p x = false) : NoneTo p l (j+1):=fun k y hk hy=>by
 rcases (by omega : k < j∨k = j) with h1 | rfl
 ·exact h k y h1 hy
 ·rw [hx] at hy;injection hy with hy;rw [← hy];exact hp
theorem noneTo_end {p : Int→Bool} {l : List Int} {j : Nat} (h : NoneTo p l j) (hj : ¬ j < l.length) : l.any p = false:=by
 rw [List.any_eq_false]
 intro x hx
 obtain ⟨k,hk,e⟩:=List.getElem_of_mem hx
 rw [h k x (by omega) (by rw [List.getElem?_eq_getElem hk,e])]
 simp
theorem any_here {p : Int→Bool} {l : List Int} {j : Nat} {x : Int} (hx : l[j]? = some x) (hp : p x = true) : l.any p = true:=List.any_eq_true.2 ⟨x,List.mem_of_getElem? hx,hp⟩
theorem ge_nat (j : Nat) : decide (0≤(j : Int)) = true:=decide_eq_true (by omega)
theorem lIndexI_any (A : Option Addr) (n c : Nat) (l : List Int) (x : Int) (w : World) (hA : Rd w 1 A (l.map encZ)) (hl : l.length = n) (hn : n≤4000000) :
  Calls Tryz.prog 169 #[.slice A n c,.int .i64 x] w fun e w'=>∃ v : Int,e = .returned (.int .i64 v)∧decide (0≤v) = l.any (x == ·)∧w = w':=by
 have Hl:=Lib.hid hl
 clear hl
 go_enter Tryz.func169,Tryz.ntmps169
 go_wp2
 go_loopw [8] (fun v wr=>∃ j : Nat,v = .int .i64 j∧j≤n∧Hid (NoneTo (x == ·) l j)∧wr = w) (fun v _=>n - (intOf v).toNat)
 case atStart=>exact ⟨0,rfl,by omega,Lib.hid (noneTo_first _ l),rfl⟩
 case round =>
  obtain ⟨j,rfl,hj,HN,rfl⟩:=hrel
  by_cases hlt : j < n
  ·obtain ⟨y,Hy⟩ : ∃ y,Hid (l[j]? = some y):=⟨_,Lib.hid (List.getElem?_eq_getElem (by have:=Hl.out;omega))⟩
   obtain ⟨b,off,rfl,hc⟩:=hA.atZ Hy.out
   obtain ⟨q,Hq⟩ : ∃ q,Hid ((x == ·) y = q):=⟨_,Lib.hid rfl⟩
   cases q with
   | true =>
    have HV:=Lib.hid (any_here Hy.out Hq.out)
    have he:=Hq.out
    go_wp2
    go_ret
    exact ⟨j,rfl,by rw [HV.out];exact ge_nat j,rfl⟩
   | false =>
    have HN':=Lib.hid (noneTo_next HN.out Hy.out Hq.out)
    have he:=Hq.out
    go_wp2
    go_roundw
    case rel=>exact ⟨j+1,by go_num,by omega,HN',trivial⟩
    case measure=>simp [intOf];omega
  ·have HV:=Lib.hid (noneTo_end HN.out (by rw [Hl.out];exact hlt))
   go_wp2
   go_ret
   exact ⟨-1,rfl,by rw [HV.out];rfl,rfl⟩
theorem lContains_any (A : Option Addr) (n c : Nat) (l : List Int) (x : Int) (w : World) (hA : Rd w 1 A (l.map encZ)) (hl : l.length = n) (hn : n≤4000000) :
  Calls Tryz.prog 123 #[.slice A n c,.int .i64 x] w fun e w'=>e = .returned (.bool (l.any (x == ·)))∧w = w':=by
 have HI:=Lib.hid (lIndexI_any A n c l x w hA hl hn)
 clear hA hl
 go_enter Tryz.func123,Tryz.ntmps123
 go_wp2_with fail
 refine HI.out.mono ?_
 rintro e w1 ⟨v,rfl,hv,rfl⟩
 have HV:=Lib.hid hv
 clear hv HI
 go_wp2
 go_ret
 exact ⟨by rw [← HV.out];rfl,rfl⟩
end
section
open Go.RowKit
theorem Rd.lits (W : World) (t : TypeId) (xs : List Int) : Rd (W.alloc (.cells (xs.map (Value.int .i64)).toArray t)) 1 (some ⟨W.heap.size,0,none⟩) (xs.map encZ):=fun _ =>
 ⟨W.heap.size,0,rfl,fun k j x u hx hu=>by
  have hb:=(Blk.new W t (xs.map (Value.int .i64)).toArray).cell (0+k*1+j)
  rw [hb]
  rw [List.getElem?_map] at hx
  cases hq : xs[k]? with
  | none=>rw [hq] at hx;cases hx
  | some y =>
   rw [hq] at hx
   simp at hx
   subst hx
   match j,hu with
   | 0,hu=>simp [encZ] at hu;subst hu;simp [hq]
   | j+1,hu=>simp [encZ] at hu⟩
theorem tamong_lit (c : Int) (xs : List Int) (n : Nat) (W : World) (arr : Array Value) (harr : arr = (xs.map (Value.int .i64)).toArray) (hn : xs.length = n) (hz : n≤10) :
  Calls Tryz.prog 192 #[.int .i64 c,.slice (some ⟨W.heap.size,0,none⟩) n n] (W.alloc (.cells arr 3)) fun e w'=>e = .returned (.bool (xs.contains c))∧W.alloc (.cells arr 3) = w':=by
 subst harr
 have HC:=Lib.hid (lContains_any (some ⟨W.heap.size,0,none⟩) n n xs c _ (Rd.lits W 3 xs) hn (by omega))
 rw [show (xs.any fun x=>c == x) = xs.contains c from (List.contains_eq_any_beq).symm] at HC
 generalize W.alloc (.cells (xs.map (Value.int .i64)).toArray 3) = W1 at HC
 generalize xs.contains c = r at HC
 go_enter Tryz.func192,Tryz.ntmps192
 go_wp2_with (go_at_call 123;refine HC.out.mono ?_;rintro e w' ⟨rfl,rfl⟩)
 go_ret
 exact ⟨rfl,rfl⟩
theorem tpast_any (A B : Option Addr) (na ca n cb : Nat) (c : List Int) (i : Nat) (k : Int) (w : World) (hB : Rd w 1 B (c.map encZ)) (hl : c.length = n) (hi : i≤n) (hn : n≤4000000) :
  Calls Tryz.prog 191 #[.agg #[.slice A na ca,.slice B n cb],.int .i64 i,.int .i64 k] w fun e w'=>e = .returned (.int .i64 (lPast c k i : Nat))∧Below w.heap.size w w':=by
 have Hl:=Lib.hid hl
 clear hl
 have hBz : Below w.heap.size w (w.alloc (.cells #[.slice A na ca,.slice B n cb] 186)):=(Below.refl _ _).alloc (Nat.le_refl _) _
 have hK:=Blk.new w 186 #[.slice A na ca,.slice B n cb]
 have k1:=hK.cell 1
 simp only [zG,zH,zI] at k1
 go_enter Tryz.func191,Tryz.ntmps191
 go_wp2
 go_loopw [1] (fun v wr=>∃ j : Nat,v = .int .i64 j∧j≤i∧Hid (lPast c k j = lPast c k i)∧wr = w.alloc (.cells #[.slice A na ca,.slice B n cb] 186)) (fun v _=>(intOf v).toNat)
 case atStart=>exact ⟨i,rfl,Nat.le_refl _,Lib.hid rfl,rfl⟩
 case round =>
  obtain ⟨j,rfl,hj,HW,rfl⟩:=hrel
  by_cases h0 : 0 < j
  ·obtain ⟨j,rfl⟩ : ∃ m,j = m+1:=⟨j - 1,by omega⟩
   obtain ⟨x,Hx⟩ : ∃ x,Hid (c[j]? = some x):=⟨_,Lib.hid (List.getElem?_eq_getElem (by have:=Hl.out;omega))⟩
   obtain ⟨b,off,rfl,hc⟩:=hB.atZ Hx.out
   have hc:=cell_keep hc hBz
   have e1 : ((j+1 : Nat) : Int) - 1 = (j : Int):=by omega
   have HS : Hid (lPast c k (j+1) = if x = k then lPast c k j else j+1):=Lib.hid (by rw [lPast,getD_of Hx.out])
   obtain ⟨q,hq⟩ : ∃ q,(x == k) = q:=⟨_,rfl⟩
   cases q with
   | true =>
    have HW' : Hid (lPast c k j = lPast c k i):=Lib.hid (by rw [← HW.out,HS.out,if_pos (beq_iff_eq.1 hq)])
    go_wp2
    go_roundw
    case rel=>exact ⟨j,by go_num,by omega,HW',trivial⟩
    case measure=>simp [intOf]
   | false =>
    have HV : Hid (lPast c k i = j+1):=Lib.hid (by rw [← HW.out,HS.out,if_neg (beq_eq_false_iff_ne.1 hq)])
    go_wp2
    go_ret
    exact ⟨by rw [HV.out];rfl,hBz⟩
  ·have HV : Hid (lPast c k i = j):=Lib.hid (by rw [← HW.out,show j = 0 by omega];rfl)
   have h1 : ¬ (0 : Int) < (j : Int):=by omega
   go_wp2
   go_ret
   exact ⟨by rw [HV.out];rfl,hBz⟩
theorem tlast_any (A B : Option Addr) (na ca n cb : Nat) (c : List Int) (i : Nat) (w : World) (hB : Rd w 1 B (c.map encZ)) (hl : c.length = n) (hi : i≤n) (hn : n≤4000000) :
  Calls Tryz.prog 190 #[.agg #[.slice A na ca,.slice B n cb],.int .i64 i] w fun e w'=>e = .returned (.int .i64 (lLast c i))∧Below w.heap.size w w':=by
 have hBz : Below w.heap.size w (w.alloc (.cells #[.slice A na ca,.slice B n cb] 186)):=(Below.refl _ _).alloc (Nat.le_refl _) _
 have hK:=Blk.new w 186 #[.slice A na ca,.slice B n cb]
 have k1:=hK.cell 1
 simp only [zG,zH,zI] at k1
 by_cases h : i = 0
 ·have HV : Hid (lLast c i = -1):=Lib.hid (by unfold lLast;rw [if_pos h])
  have e0 : ((i : Int) == 0) = true:=by rw [h];rfl
  clear h
  go_enter Tryz.func190,Tryz.ntmps190
  go_wp2
  go_ret
  exact ⟨by rw [HV.out];rfl,hBz⟩
 ·obtain ⟨j,rfl⟩ : ∃ m,i = m+1:=⟨i - 1,by omega⟩
  obtain ⟨x,Hx⟩ : ∃ x,Hid (c[j]? = some x):=⟨_,Lib.hid (List.getElem?_eq_getElem (by omega))⟩
  obtain ⟨b,off,rfl,hc⟩:=hB.atZ Hx.out
  have hc:=cell_keep hc hBz
  have HV : Hid (lLast c (j+1) = x):=Lib.hid (by rw [lLast_succ,getD_of Hx.out])
  have e1 : ((j+1 : Nat) : Int) - 1 = (j : Int):=by omega
  have e0 : (((j+1 : Nat) : Int) == 0) = false:=beq_eq_false_iff_ne.2 (by omega)
  have e2 : ((j : Int)+1 == 0) = false:=beq_eq_false_iff_ne.2 (by omega)
  clear h hl
  go_enter Tryz.func190,Tryz.ntmps190
  go_wp2
  go_ret
  exact ⟨by rw [HV.out];rfl,hBz⟩
def LegAt (c : List Int) (i k m : Nat) : Prop:=m≤i∧k+m≤i∧∃ f,m < f∧k+lRegGo c f m = lReg c i
theorem legAt_first (c : List Int) (i : Nat) : LegAt c i 0 (lPast c 8 i):=⟨lPast_le c 8 i,by have:=lPast_le c 8 i;omega,i+1,by have:=lPast_le c 8 i;omega,by rw [Nat.zero_add];rfl⟩
theorem lLast_pos {c : List Int} {m : Nat} {x : Int} (h : lLast c m = x) (hx : 0≤x) : 0 < m:=by
 rcases Nat.eq_zero_or_pos m with rfl | h0
 ·unfold lLast at h;rw [if_pos rfl] at h;omega
 ·exact h0
theorem legAt_next {c : List Int} {i k m : Nat} (h : LegAt c i k m) (h7 : lLast c m = 25) : LegAt c i (k+1) (lPast c 8 (m - 1)):=by
 obtain ⟨h1,h2,f,hf,hk⟩:=h
 have h0:=lLast_pos h7 (by omega)
 have hp:=lPast_le c 8 (m - 1)
 cases f with
 | zero=>omega
 | succ f =>
  rw [lRegGo,if_pos h7] at hk
  exact ⟨by omega,by omega,f,by omega,by omega⟩
theorem legAt_end {c : List Int} {i k m : Nat} (h : LegAt c i k m) (h7 : lLast c m ≠ 25) : k = lReg c i:=by
 obtain ⟨h1,h2,f,hf,hk⟩:=h
 cases f with
 | zero=>omega
 | succ f=>rw [lRegGo,if_neg h7] at hk;omega
theorem tregions_any (A B : Option Addr) (na ca n cb : Nat) (c : List Int) (i : Nat) (w : World) (hB : Rd w 1 B (c.map encZ)) (hl : c.length = n) (hi : i≤n) (hn : n≤3000000) :
  Calls Tryz.prog 243 #[.agg #[.slice A na ca,.slice B n cb],.int .i64 i] w fun e w'=>e = .returned (.int .i64 (lReg c i : Nat))∧Below w.heap.size w w':=by
 have Hl:=Lib.hid hl
 clear hl
 have hBz : Below w.heap.size w (w.alloc (.cells #[.slice A na ca,.slice B n cb] 186)):=(Below.refl _ _).alloc (Nat.le_refl _) _
 have hK:=Blk.new w 186 #[.slice A na ca,.slice B n cb]
 have HLs:=Lib.hid (fun (j : Nat) W (h : Below w.heap.size w W) (hj : j≤n)=>tlast_any A B na ca n cb c j W (hB.below h) Hl.out hj (by omega))
 have HPs:=Lib.hid (fun (j : Nat) W (h : Below w.heap.size w W) (hj : j≤n)=>tpast_any A B na ca n cb c j 8 W (hB.below h) Hl.out hj (by omega))
 have HR0:=Lib.hid (legAt_first c i)
 have k0:=hK.cell 0
 have k1:=hK.cell 1
 simp only [zG,zH,zI] at k0 k1
 go_enter Tryz.func243,Tryz.ntmps243
 go_wp2_with fail
 refine (HPs.out i _ hBz hi).mono ?_
 generalize lPast c 8 i = x0 at HR0
 rintro e w1 ⟨rfl,hb1⟩
 replace k0:=cell_keep k0 hb1
 replace k1:=cell_keep k1 hb1
 have hB1:=hBz.trans (hb1.mono hBz.size)
 clear hBz hb1
 go_wp2_with fail
 go_loopw [1,5] (fun u v wr=>∃ m k : Nat,u = .int .i64 m∧v = .int .i64 k∧Hid (LegAt c i k m)∧Below w.heap.size w wr∧wr.cell? ⟨w.heap.size,0,none⟩ = some (.slice A na ca)∧wr.cell? ⟨w.heap.size,1,none⟩ = some (.slice B n cb)) (fun u _ _=>(intOf u).toNat)
 case atStart=>exact ⟨_,0,rfl,rfl,HR0,hB1,k0,k1⟩
 case round =>
  clear k0 k1 hB1
  obtain ⟨m,k,rfl,rfl,HR,hb,k0,k1⟩:=hrel
  have hx1:=HR.out.1
  have hx2:=HR.out.2.1
  have HOx:=Lib.hid (HLs.out m wr hb (by omega))
  by_cases h7 : lLast c m = 25
  ·rw [h7] at HOx
   have HR':=Lib.hid (legAt_next HR.out h7)
   have hm0:=lLast_pos h7 (by omega)
   have hlt:=lPast_le c 8 (m - 1)
   clear h7 HR
   obtain ⟨m,rfl⟩ : ∃ r,m = r+1:=⟨m - 1,by omega⟩
   rw [Nat.add_sub_cancel] at HR' hlt
   have e1 : ((m+1 : Nat) : Int) - 1 = (m : Int):=by omega
   go_wp2_with fail
   refine HOx.out.mono ?_
   rintro e w2 ⟨rfl,hb2⟩
   replace k0:=cell_keep k0 hb2
   replace k1:=cell_keep k1 hb2
   have hbb:=below_step hb hb2 hb.size
   have hx3:=HR'.out.2.1
   go_wp2_with fail
   refine (HPs.out m w2 hbb (by omega)).mono ?_
   generalize lPast c 8 m = y at HR' hlt hx3
   rintro e w3 ⟨rfl,hb3⟩
   replace k0:=cell_keep k0 hb3
   replace k1:=cell_keep k1 hb3
   have hbc:=below_step hbb hb3 hbb.size
   go_wp2
   go_roundw
   case rel=>exact ⟨y,k+1,rfl,by go_num,HR',hbc,k0,k1⟩
   case measure=>simp [intOf];omega
  ·have HV : Hid (k = lReg c i):=Lib.hid (legAt_end HR.out h7)
   have e7 : (lLast c m == 25) = false:=beq_eq_false_iff_ne.2 h7
   clear h7
   generalize lLast c m = y at HOx e7
   go_wp2_with fail
   refine HOx.out.mono ?_
   rintro e w2 ⟨rfl,hb2⟩
   go_wp2
   go_ret
   exact ⟨by rw [HV.out];rfl,below_step hb hb2 hb.size⟩
end
section
open Go.RowKit
theorem tamong_b (c : Int) (xs : List Int) (n : Nat) (W : World) (arr : Array Value) (harr : arr = (xs.map (Value.int .i64)).toArray) (hn : xs.length = n) (hz : n≤10) :
  Calls Tryz.prog 192 #[.int .i64 c,.slice (some ⟨W.heap.size,0,none⟩) n n] (W.alloc (.cells arr 3)) fun e w'=>e = .returned (.bool (xs.contains c))∧Below W.heap.size W w' :=
 (tamong_lit c xs n W arr harr hn hz).mono (by rintro e w' ⟨h1,h2⟩;exact ⟨h1,by rw [← h2];exact (Below.refl _ _).alloc (Nat.le_refl _) _⟩)
theorem tmust_any (c : Int) (w : World) : Calls Tryz.prog 151 #[.int .i64 c] w fun e w'=>e = .returned (.bool (lMust c))∧Below w.heap.size w w':=by
 obtain ⟨r,Hr⟩ : ∃ r,Hid (lMust c = r):=⟨_,Lib.hid rfl⟩
 have h1 : [1,2,3].contains c = r:=Hr.out
 rw [Hr.out]
 go_enter Tryz.func151,Tryz.ntmps151
 go_wp2_with fail
 refine (tamong_b _ [1,2,3] 3 _ _ rfl rfl (by decide)).mono ?_
 rw [h1]
 rintro e wn ⟨rfl,hz⟩
 go_wp2
 go_ret
 exact ⟨rfl,hz⟩
end
section
open Go.RowKit
theorem tnumber_any (A B : Option Addr) (na ca n cb : Nat) (c : List Int) (i : Nat) (w : World) (hB : Rd w 1 B (c.map encZ)) (hl : c.length = n) (hi : i≤n) (hn : n≤3000000) :
  Calls Tryz.prog 242 #[.agg #[.slice A na ca,.slice B n cb],.int .i64 i] w fun e w'=>e = .returned (.bool (lNum c i))∧Below w.heap.size w w':=by
 have hBz : Below w.heap.size w (w.alloc (.cells #[.slice A na ca,.slice B n cb] 186)):=(Below.refl _ _).alloc (Nat.le_refl _) _
 have hK:=Blk.new w 186 #[.slice A na ca,.slice B n cb]
 have k0:=hK.cell 0
 have k1:=hK.cell 1
 simp only [zG,zH,zI] at k0 k1
 have HLs:=Lib.hid (fun (j : Nat) W (h : Below w.heap.size w W) (hj : j≤n)=>tlast_any A B na ca n cb c j W (hB.below h) hl hj (by omega))
 have HPs:=Lib.hid (fun (j : Nat) (k : Int) W (h : Below w.heap.size w W) (hj : j≤n)=>tpast_any A B na ca n cb c j k W (hB.below h) hl hj (by omega))
 obtain ⟨n1,H1⟩ : ∃ x,Hid (lPast c 8 i = x):=⟨_,Lib.hid rfl⟩
 have g1 : n1≤i:=by have:=lPast_le c 8 i;have:=H1.out;omega
 obtain ⟨y1,Y1⟩ : ∃ x,Hid (lLast c n1 = x):=⟨_,Lib.hid rfl⟩
 obtain ⟨n2,H2⟩ : ∃ x,Hid ((if [11,10].contains y1 then lPast c 8 (n1 - 1) else n1) = x):=⟨_,Lib.hid rfl⟩
 obtain ⟨y2,Y2⟩ : ∃ x,Hid (lLast c n2 = x):=⟨_,Lib.hid rfl⟩
 obtain ⟨n3,H3⟩ : ∃ x,Hid ((if [14,15].contains y2 then lPast c 8 (n2 - 1) else n2) = x):=⟨_,Lib.hid rfl⟩
 obtain ⟨y3,Y3⟩ : ∃ x,Hid (lLast c n3 = x):=⟨_,Lib.hid rfl⟩
 have HW : Hid (lNum c i = (y3 == 20)):=Lib.hid (by
  rw [← Y3.out,← H3.out,← Y2.out,← H2.out,← Y1.out,← H1.out];rfl)
 have g2 : n2≤n1:=by
  rw [← H2.out]
  have:=lPast_le c 8 (n1 - 1)
  split
  ·omega
  ·omega
 have g3 : n3≤n2:=by
  rw [← H3.out]
  have:=lPast_le c 8 (n2 - 1)
  split
  ·omega
  ·omega
 have P1 : Hid ([11,10].contains y1 = true→0 < n1):=Lib.hid (fun h=>lLast_pos Y1.out (by simp at h;omega))
 have P2 : Hid ([14,15].contains y2 = true→0 < n2):=Lib.hid (fun h=>lLast_pos Y2.out (by simp at h;omega))
 have hb:=hBz
 clear hBz hB hl hK
 go_enter Tryz.func242,Tryz.ntmps242
 go_wp2_with fail
 refine (HPs.out _ _ _ hb (by omega)).mono ?_
 rw [H1.out]
 rintro e wn ⟨rfl,hz⟩
 replace k0:=cell_keep k0 hz
 replace k1:=cell_keep k1 hz
 replace hb:=below_step hb hz hb.size
 clear hz
 go_wp2_with fail
 refine (HLs.out _ _ hb (by omega)).mono ?_
 rw [Y1.out]
 rintro e wn ⟨rfl,hz⟩
 replace k0:=cell_keep k0 hz
 replace k1:=cell_keep k1 hz
 replace hb:=below_step hb hz hb.size
 clear hz
 cases m1 : ([11,10].contains y1) with
 | true =>
  go_wp2_with fail
  refine (tamong_b _ [11,10] 2 _ _ rfl rfl (by decide)).mono ?_
  rw [m1]
  rintro e wn ⟨rfl,hz⟩
  replace k0:=cell_keep k0 hz
  replace k1:=cell_keep k1 hz
  replace hb:=below_step hb hz hb.size
  clear hz
  have hp:=P1.out m1
  rw [m1,if_pos rfl] at H2
  obtain ⟨r1,rfl⟩ : ∃ r,n1 = r+1:=⟨n1 - 1,by omega⟩
  rw [Nat.add_sub_cancel] at H2
  have e1 : ((r1+1 : Nat) : Int) - 1 = (r1 : Int):=by omega
  go_wp2_with fail
  refine (HPs.out _ _ _ hb (by omega)).mono ?_
  rw [H2.out]
  rintro e wn ⟨rfl,hz⟩
  replace k0:=cell_keep k0 hz
  replace k1:=cell_keep k1 hz
  replace hb:=below_step hb hz hb.size
  clear hz
  go_wp2_with fail
  refine (HLs.out _ _ hb (by omega)).mono ?_
  rw [Y2.out]
  rintro e wn ⟨rfl,hz⟩
  replace k0:=cell_keep k0 hz
  replace k1:=cell_keep k1 hz
  replace hb:=below_step hb hz hb.size
  clear hz
  cases m2 : ([14,15].contains y2) with
  | true =>
   go_wp2_with fail
   refine (tamong_b _ [14,15] 2 _ _ rfl rfl (by decide)).mono ?_
   rw [m2]
   rintro e wn ⟨rfl,hz⟩
   replace k0:=cell_keep k0 hz
   replace k1:=cell_keep k1 hz
   replace hb:=below_step hb hz hb.size
   clear hz
   have hp:=P2.out m2
   rw [m2,if_pos rfl] at H3
   obtain ⟨r2,rfl⟩ : ∃ r,n2 = r+1:=⟨n2 - 1,by omega⟩
   rw [Nat.add_sub_cancel] at H3
   have e2 : ((r2+1 : Nat) : Int) - 1 = (r2 : Int):=by omega
   go_wp2_with fail
   refine (HPs.out _ _ _ hb (by omega)).mono ?_
   rw [H3.out]
   rintro e wn ⟨rfl,hz⟩
   replace k0:=cell_keep k0 hz
   replace k1:=cell_keep k1 hz
   replace hb:=below_step hb hz hb.size
   clear hz
   go_wp2_with fail
   refine (HLs.out _ _ hb (by omega)).mono ?_
   rw [Y3.out]
   rintro e wn ⟨rfl,hz⟩
   replace k0:=cell_keep k0 hz
   replace k1:=cell_keep k1 hz
   replace hb:=below_step hb hz hb.size
   clear hz
   go_wp2
   go_ret
   exact ⟨by rw [HW.out];rfl,hb⟩
  | false =>
   go_wp2_with fail
   refine (tamong_b _ [14,15] 2 _ _ rfl rfl (by decide)).mono ?_
   rw [m2]
   rintro e wn ⟨rfl,hz⟩
   replace k0:=cell_keep k0 hz
   replace k1:=cell_keep k1 hz
   replace hb:=below_step hb hz hb.size
   clear hz
   rw [m2,if_neg (by simp)] at H3
   obtain rfl:=H3.out.symm
   go_wp2_with fail
   refine (HLs.out _ _ hb (by omega)).mono ?_
   rw [Y3.out]
   rintro e wn ⟨rfl,hz⟩
   replace k0:=cell_keep k0 hz
   replace k1:=cell_keep k1 hz
   replace hb:=below_step hb hz hb.size
   clear hz
   go_wp2
   go_ret
   exact ⟨by rw [HW.out];rfl,hb⟩
 | false =>
  go_wp2_with fail
  refine (tamong_b _ [11,10] 2 _ _ rfl rfl (by decide)).mono ?_
  rw [m1]
  rintro e wn ⟨rfl,hz⟩
  replace k0:=cell_keep k0 hz
  replace k1:=cell_keep k1 hz
  replace hb:=below_step hb hz hb.size
  clear hz
  rw [m1,if_neg (by simp)] at H2
  obtain rfl:=H2.out.symm
  go_wp2_with fail
  refine (HLs.out _ _ hb (by omega)).mono ?_
  rw [Y2.out]
  rintro e wn ⟨rfl,hz⟩
  replace k0:=cell_keep k0 hz
  replace k1:=cell_keep k1 hz
  replace hb:=below_step hb hz hb.size
  clear hz
  cases m2 : ([14,15].contains y2) with
  | true =>
   go_wp2_with fail
   refine (tamong_b _ [14,15] 2 _ _ rfl rfl (by decide)).mono ?_
   rw [m2]
   rintro e wn ⟨rfl,hz⟩
   replace k0:=cell_keep k0 hz
   replace k1:=cell_keep k1 hz
   replace hb:=below_step hb hz hb.size
   clear hz
   have hp:=P2.out m2
   rw [m2,if_pos rfl] at H3
   obtain ⟨r2,rfl⟩ : ∃ r,n2 = r+1:=⟨n2 - 1,by omega⟩
   rw [Nat.add_sub_cancel] at H3
   have e2 : ((r2+1 : Nat) : Int) - 1 = (r2 : Int):=by omega
   go_wp2_with fail
   refine (HPs.out _ _ _ hb (by omega)).mono ?_
   rw [H3.out]
   rintro e wn ⟨rfl,hz⟩
   replace k0:=cell_keep k0 hz
   replace k1:=cell_keep k1 hz
   replace hb:=below_step hb hz hb.size
   clear hz
   go_wp2_with fail
   refine (HLs.out _ _ hb (by omega)).mono ?_
   rw [Y3.out]
   rintro e wn ⟨rfl,hz⟩
   replace k0:=cell_keep k0 hz
   replace k1:=cell_keep k1 hz
   replace hb:=below_step hb hz hb.size
   clear hz
   go_wp2
   go_ret
   exact ⟨by rw [HW.out];rfl,hb⟩
  | false =>
   go_wp2_with fail
   refine (tamong_b _ [14,15] 2 _ _ rfl rfl (by decide)).mono ?_
   rw [m2]
   rintro e wn ⟨rfl,hz⟩
   replace k0:=cell_keep k0 hz
   replace k1:=cell_keep k1 hz
   replace hb:=below_step hb hz hb.size
   clear hz
   rw [m2,if_neg (by simp)] at H3
   obtain rfl:=H3.out.symm
   go_wp2_with fail
   refine (HLs.out _ _ hb (by omega)).mono ?_
   rw [Y3.out]
   rintro e wn ⟨rfl,hz⟩
   replace k0:=cell_keep k0 hz
   replace k1:=cell_keep k1 hz
   replace hb:=below_step hb hz hb.size
   clear hz
   go_wp2
   go_ret
   exact ⟨by rw [HW.out];rfl,hb⟩
end
end Go.Proofs.YtglmcknlnoknoaaGreatDoor
