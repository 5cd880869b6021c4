/-
 Several texts in one,in their build order: Ws,Wt.
-/
import Derived.Test.YtglmcknlnoknoaaGreatDoorYWordWordsWr
import Derived.Test.YtglmcknlnoknoaaGreatDoorW0a
/- -/
namespace Go.Proofs.YtglmcknlnoknoaaGreatDoor
set_option maxRecDepth 100000
set_option maxHeartbeats 40000000
section
open Go.RowKit Go.Shelf
attribute [local go_sem] Oper.semAt_some
theorem kCount_any (s : ByteArray) (w : World) (hE : Env w) (hs : s.size≤1000000) : Calls Tryz.prog 25 #[.string s] w fun e w'=>e = .returned (.int .i64 ((wordsP s).length : Nat))∧Below w.heap.size w w':=by
 have hA0 : Below w.heap.size w (w.alloc (.cells #[.int .i64 0] 3)):=(Below.refl _ _).alloc (Nat.le_refl _) _
 have B0 : Blk (w.alloc (.cells #[.int .i64 0] 3)) w.heap.size 3 #[.int .i64 0]:=Blk.new _ _ _
 have hN : (piecesF (wBounds gW s)).length≤1000000:=by rw [piecesF_len];have:=wBounds_len gW s;omega
 refine (callsIn_wide (n:=8)).1 ?_
 refine callsIn_of_wp_marks Tryz.func25 rfl trivial ?_ rfl
 simp only [Tryz.ntmps25,List.size_toArray,List.length_cons,List.length_nil,Nat.reduceAdd,Nat.reduceSub,Array.replicate_succ,Array.replicate_zero,List.push_toArray,List.append_toArray,List.nil_append,List.cons_append]
 refine wpIn_wide.2 ?_
 have c0:=B0.cell 0
 have f0:=B0.frozen 0
 simp only [zG,zH] at c0
 go_wp2_with fail
 clear c0 f0
 generalize (w.alloc (.cells #[.int .i64 0] 3)) = w0 at hA0 B0 ⊢
 have hz0:=B0.lt
 refine (kWords_any s w0).mono ?_
 rintro e w1 ⟨rfl,hS,hb⟩
 have hW1:=below_two hA0 hb
 have B1:=B0.below hb
 have hz1:=B1.lt
 have hz2:=hS.lt
 clear hA0 hb B0
 go_wp2_with fail
 refine (wpIn_wide (n:=8)).1 ?_
 refine rngC rfl (by decide) (gf:=89) (lb:=#[.pointer (some ⟨w0.heap.size,0,none⟩)]) rfl trivial (enters_of Tryz.func89 (by kernel_rfl) rfl)
  (kWords_seq 7 (by decide) w w1 s w0.heap.size (fun b=>b = w.heap.size) hW1 (by rintro b rfl;exact ⟨Nat.le_refl _,hz1⟩) (by omega) hE hs hS) (fun h k=>h.trans k) (KpB.put (by omega)) (Below.refl _ _) (fun _=>rfl)
  (fun (pre : List (Nat × Nat)) W=>Blk W w.heap.size 3 #[.int .i64 (pre.length : Nat)]∧Below w.heap.size w W)
  (fun _ _ _=>False)
  (OwnFrom.and (Go.Own.from (fun s A B row hs hg hr=>hs.kept hg hr) _) (ownFrom_below (Nat.le_refl _) (by omega)))
  (fun _ _ _ _ _ hs _ _=>hs) ⟨B1,hW1⟩
  (fun T (x : Nat × Nat)=>(T.setIfInBounds 6 (.int .i64 ((clP s x).1 : Nat))).setIfInBounds 7 (.string (s.extract (clP s x).1 (clP s x).2))) ?assign ?body ?done ?stop
 case assign =>
  intro l2 x V K hK
  simp only [zD,zF,zE] at hK
  simp only [encWd]
  gi_wp2
  rw [show (#[6,7].zip #[Value.int .i64 ((clP s x).1 : Nat),Value.string (s.extract (clP s x).1 (clP s x).2)]) = #[(6,Value.int .i64 ((clP s x).1 : Nat)),(7,Value.string (s.extract (clP s x).1 (clP s x).2))] from by rw [List.zip_toArray];rfl]
  simp only [List.foldl_toArray,List.foldl_cons,List.foldl_nil,zD,zF,zE]
  exact hK
 case stop =>
  rintro D cc pre W _ hp h _
  exact absurd h id
 case body =>
  rintro l2 pre x W hl2 _ ⟨B,hbW⟩ hlen
  simp only [zD,zF,zE]
  have c1:=B.cell 0
  have f1:=B.frozen 0
  simp only [zG,zH] at c1
  have hpl : pre.length < 1000000:=by omega
  have Hl : Hid ((pre.length : Int)+1 = ((pre++[x]).length : Nat)):=Lib.hid (by rw [List.length_append,List.length_singleton];omega)
  gi_wp2
  refine ⟨(KeepsOthers.setCell W ⟨w.heap.size,0,none⟩ (.int .i64 ((pre.length : Int)+1))).from _,⟨(Below.refl _ _).setCell (p:=⟨w.heap.size,0,none⟩) (Nat.le_refl _) _,kcQ_setCell (X:=fun b=>b = w.heap.size) (KC.refl _ _ _) (p:=⟨w.heap.size,0,none⟩) (.inr rfl) _⟩,?_,hbW.setCell (p:=⟨w.heap.size,0,none⟩) (Nat.le_refl _) _⟩
  exact cast (congrArg (fun z=>Blk _ _ _ #[Value.int .i64 z]) Hl.out) (B.set_ 0 (.int .i64 ((pre.length : Int)+1)))
 case done =>
  rintro D ys V hD hys ⟨B,hbV⟩ hK
  subst hys
  have c1:=B.cell 0
  simp only [zG,zH] at c1
  go_wp2
  refine ⟨by simp,.inl ⟨_,_,rfl,run_takeDeferred hK,?_⟩⟩
  exact ⟨_,results_tmp rfl _ _ _,rfl,hbV.trans (belowK_b (w:=w) (Nat.le_refl _) _ D _ _ (by omega) hK rfl rfl)⟩
def afterP (s : ByteArray) (x : Int) : Option (Nat × Nat):=(wordsP s).find? fun p=>decide (x≤(p.1 : Int))
theorem res_after (w : World) (b4 b5 b6 : Nat) (tmps : Array Value) (h4 : tmps.getD 4 undef = .pointer (some ⟨b4,0,none⟩)) (h5 : tmps.getD 5 undef = .pointer (some ⟨b5,0,none⟩)) (h6 : tmps.getD 6 undef = .pointer (some ⟨b6,0,none⟩)) {x y : Int} {v : Bool}
  (c4 : w.cell? ⟨b4,0,none⟩ = some (.int .i64 x)) (c5 : w.cell? ⟨b5,0,none⟩ = some (.int .i64 y)) (c6 : w.cell? ⟨b6,0,none⟩ = some (.bool v)) : (results Tryz.f26 tmps).run Tryz.prog w = .ok (.tuple #[.int .i64 x,.int .i64 y,.bool v]) w:=by
 have h4' : tmps[4]?.getD undef = .pointer (some ⟨b4,0,none⟩):=by simpa [Array.getD_eq_getD_getElem?] using h4
 have h5' : tmps[5]?.getD undef = .pointer (some ⟨b5,0,none⟩):=by simpa [Array.getD_eq_getD_getElem?] using h5
 have h6' : tmps[6]?.getD undef = .pointer (some ⟨b6,0,none⟩):=by simpa [Array.getD_eq_getD_getElem?] using h6
 simp [results,Tryz.results26,go_sem,h4',h5',h6',c4,c5,c6]
theorem blk_far {V : World} {p : Addr} {u : Value} {k : Nat} {t : TypeId} {cs : Array Value} (h : Blk V k t cs) (hne : k ≠ p.block) : Blk (V.setCell p u) k t cs:=(Below.heap_setCell V p u k hne).trans h
theorem blk_put {V : World} {D : Nat} {o : Obj} {k : Nat} {t : TypeId} {cs : Array Value} (h : Blk V k t cs) (hne : k ≠ D) : Blk (V.putObj D o) k t cs:=(World.putObj_heap_other hne).trans h
def NoW (s : ByteArray) (x : Int) (pre : List (Nat × Nat)) : Prop:=∀ p ∈ pre,¬ x≤((clP s p).1 : Nat)
def AfM (s : ByteArray) (x : Int) (w : World) (pre : List (Nat × Nat)) (W : World) : Prop :=
 ∃ (q : Nat × Nat) (pre0 : List (Nat × Nat)),pre = pre0++[q]∧NoW s x pre0∧x≤((clP s q).1 : Nat)∧Blk W (w.heap.size+1) 3 #[.int .i64 ((clP s q).1 : Nat)]∧Blk W (w.heap.size+1+1) 3 #[.int .i64 ((clP s q).2 : Nat)]∧Blk W (w.heap.size+1+1+1) 4 #[.bool true]∧Below w.heap.size w W
theorem find_prefix {α : Type} {P : α→Bool} : ∀ {pre L : List α} {q : α},pre++[q] <+: L→(∀ p ∈ pre,P p = false)→P q = true→L.find? P = some q
 | [],L,q,⟨t,h⟩,_,hq=>by rw [← h];simp [hq]
 | a :: r,L,q,⟨t,h⟩,hp,hq=>by
  rw [← h,List.cons_append,List.cons_append,List.find?_cons,hp a (by simp)]
  exact find_prefix ⟨t,rfl⟩ (fun p hp'=>hp p (by simp [hp'])) hq
theorem words_cl {s : ByteArray} {p : Nat × Nat} (h : p ∈ wordsP s) : clP s p = p :=
 clP_in (piecesF_le (wBounds_rise gW s) (wBounds_le gW s) p (List.mem_filter.1 h).1)
def afterV (s : ByteArray) (x : Int) : Value:=match afterP s x with
 | some p=>.tuple #[.int .i64 (p.1 : Nat),.int .i64 (p.2 : Nat),.bool true]
 | none=>.tuple #[.int .i64 0,.int .i64 0,.bool false]
theorem kAfter_any (s : ByteArray) (x : Int) (w : World) (hE : Env w) (hs : s.size≤1000000) : Calls Tryz.prog 26 #[.string s,.int .i64 x] w fun e w'=>e = .returned (afterV s x)∧Below w.heap.size w w':=by
 have hA1 : Below w.heap.size w (w.alloc (.cells #[.int .i64 x] 3)):=(Below.refl _ _).alloc (Nat.le_refl _) _
 have hA2:=hA1.alloc hA1.size (.cells #[.int .i64 0] 3)
 have hA3:=hA2.alloc hA2.size (.cells #[.int .i64 0] 3)
 have hA4:=hA3.alloc hA3.size (.cells #[.bool false] 4)
 have B3 : Blk ((((w.alloc (.cells #[.int .i64 x] 3)).alloc (.cells #[.int .i64 0] 3)).alloc (.cells #[.int .i64 0] 3)).alloc (.cells #[.bool false] 4)) w.heap.size 3 #[.int .i64 x]:=((((Blk.new w 3 #[.int .i64 x]).alloc _).alloc _).alloc _)
 have B4 : Blk ((((w.alloc (.cells #[.int .i64 x] 3)).alloc (.cells #[.int .i64 0] 3)).alloc (.cells #[.int .i64 0] 3)).alloc (.cells #[.bool false] 4)) (w.heap.size+1) 3 #[.int .i64 0]:=by
  have:=((Blk.new (w.alloc (.cells #[.int .i64 x] 3)) 3 #[.int .i64 0]).alloc (.cells #[.int .i64 0] 3)).alloc (.cells #[.bool false] 4)
  rw [World.size_alloc] at this
  exact this
 have B5 : Blk ((((w.alloc (.cells #[.int .i64 x] 3)).alloc (.cells #[.int .i64 0] 3)).alloc (.cells #[.int .i64 0] 3)).alloc (.cells #[.bool false] 4)) (w.heap.size+1+1) 3 #[.int .i64 0]:=by
  have:=(Blk.new ((w.alloc (.cells #[.int .i64 x] 3)).alloc (.cells #[.int .i64 0] 3)) 3 #[.int .i64 0]).alloc (.cells #[.bool false] 4)
  rw [World.size_alloc,World.size_alloc] at this
  exact this
 have B6 : Blk ((((w.alloc (.cells #[.int .i64 x] 3)).alloc (.cells #[.int .i64 0] 3)).alloc (.cells #[.int .i64 0] 3)).alloc (.cells #[.bool false] 4)) (w.heap.size+1+1+1) 4 #[.bool false]:=by
  have:=Blk.new (((w.alloc (.cells #[.int .i64 x] 3)).alloc (.cells #[.int .i64 0] 3)).alloc (.cells #[.int .i64 0] 3)) 4 #[.bool false]
  rw [World.size_alloc,World.size_alloc,World.size_alloc] at this
  exact this
 clear hA1 hA2 hA3
 refine (callsIn_wide (n:=8)).1 ?_
 refine callsIn_of_wp_marks Tryz.func26 rfl trivial ?_ rfl
 simp only [Tryz.ntmps26,List.size_toArray,List.length_cons,List.length_nil,Nat.reduceAdd,Nat.reduceSub,Array.replicate_succ,Array.replicate_zero,List.push_toArray,List.append_toArray,List.nil_append,List.cons_append]
 refine wpIn_wide.2 ?_
 go_wp2_with fail
 generalize ((((w.alloc (.cells #[.int .i64 x] 3)).alloc (.cells #[.int .i64 0] 3)).alloc (.cells #[.int .i64 0] 3)).alloc (.cells #[.bool false] 4)) = w0 at hA4 B3 B4 B5 B6 ⊢
 refine (kWords_any s w0).mono ?_
 rintro e w1 ⟨rfl,hS,hb⟩
 have hW1:=below_two hA4 hb
 have C3:=B3.below hb
 have C4:=B4.below hb
 have C5:=B5.below hb
 have C6:=B6.below hb
 have hz6:=C6.lt
 have hz2:=hS.lt
 have hE1:=hE.below hW1
 clear hA4 hb B3 B4 B5 B6 hE
 go_wp2_with fail
 refine (wpIn_wide (n:=8)).1 ?_
 refine rngC rfl (by decide) (gf:=89) (lb:=#[.pointer (some ⟨w0.heap.size,0,none⟩)]) rfl trivial (enters_of Tryz.func89 (by kernel_rfl) rfl)
  (kWords_seq 7 (by decide) w1 w1 s w0.heap.size (fun _=>False) (Below.refl _ _) (fun b h=>h.elim) (fun h=>h) hE1 hs hS) (fun h k=>h.trans k) (KpB.put (Nat.le_refl _)) (Below.refl _ _) (fun _=>rfl)
  (fun (pre : List (Nat × Nat)) W=>NoW s x pre∧Below w1.heap.size w1 W)
  (fun cc pre W=>cc = .ret∧AfM s x w pre W)
  (OwnFrom.and (fun _ _ _ _ hs _ _=>hs) (ownFrom_below (Nat.le_refl _) (Nat.le_refl _)))
  (fun cc pre A B row hs hg hr=>by
   obtain ⟨h1,q,pre0,h2,h3,h4,h5,h6,h7,h8⟩:=hs
   exact ⟨h1,q,pre0,h2,h3,h4,h5.kept hg (fun r e=>(hr r e).2),h6.kept hg (fun r e=>(hr r e).2),h7.kept hg (fun r e=>(hr r e).2),ownFrom_below (β:=Unit) (Nat.le_refl w.heap.size) (by omega : w.heap.size≤w1.heap.size) () A B row h8 hg hr⟩)
  ⟨(fun p hp=>by cases hp),Below.refl _ _⟩
  (fun T (x : Nat × Nat)=>(((T.setIfInBounds 11 (.int .i64 ((clP s x).1 : Nat))).setIfInBounds 12 (.string (s.extract (clP s x).1 (clP s x).2))).setIfInBounds 7 (.int .i64 ((clP s x).1 : Nat))).setIfInBounds 8 (.string (s.extract (clP s x).1 (clP s x).2))) ?assign ?body ?done ?stop
 case assign =>
  intro l2 x V K hK
  simp only [zD,zF,zE] at hK
  simp only [encWd]
  gi_wp2
  exact hK
 case body =>
  rintro l2 pre y W hl2 _ ⟨hno,hbW⟩ hlen
  simp only [zD,zF,zE]
  have hcx:=clP_le s y
  obtain ⟨⟨a,b⟩,hab⟩ : ∃ z,clP s y = z:=⟨_,rfl⟩
  have hes : (s.extract a b).size = b - a:=by rw [hab] at hcx;rw [ByteArray.size_extract];omega
  rw [hab] at hcx ⊢
  simp only at hcx ⊢
  have c3:=(C3.below hbW).cell 0
  have D4:=C4.below hbW
  have D5:=C5.below hbW
  have D6:=C6.below hbW
  have c4:=D4.cell 0
  have c5:=D5.cell 0
  have c6:=D6.cell 0
  have f4:=D4.frozen 0
  have f5:=D5.frozen 0
  have f6:=D6.frozen 0
  simp only [zG,zH] at c3 c4 c5 c6
  by_cases hge : x≤(a : Int)
  ·have g1 : (a : Int)+((b - a : Nat) : Int) = (b : Int):=by omega
   have hq : (a : Int) ≥ x:=hge
   have hz4 : w.heap.size+1+1+1 < w1.heap.size:=hz6
   have HNo:=Lib.hid hno
   have HAB:=Lib.hid hab
   clear hno hab
   gi_wp2
   have E4:=D4.set_ 0 (.int .i64 (a : Nat))
   have E5:=(blk_far (p:=⟨w.heap.size+1,0,none⟩) (u:=.int .i64 (a : Nat)) D5 (by simp)).set_ 0 (.int .i64 (b : Nat))
   have E6:=(blk_far (p:=⟨w.heap.size+1+1,0,none⟩) (u:=.int .i64 (b : Nat)) (blk_far (p:=⟨w.heap.size+1,0,none⟩) (u:=.int .i64 (a : Nat)) D6 (by simp <;> omega)) (by simp)).set_ 0 (.bool true)
   refine ⟨((KeepsOthers.setCell _ _ _).trans ((KeepsOthers.setCell _ _ _).trans (KeepsOthers.setCell _ _ _))).from _,rfl,y,pre,rfl,HNo.out,by rw [HAB.out];exact hge,?_,?_,?_,?_⟩
   ·rw [HAB.out];exact blk_far (blk_far E4 (by simp)) (by simp <;> omega)
   ·rw [HAB.out];exact blk_far E5 (by simp)
   ·exact E6
   ·exact ((((hW1.trans (hbW.mono hW1.size)).setCell (p:=⟨w.heap.size+1,0,none⟩) (by simp only;omega) _).setCell (p:=⟨w.heap.size+1+1,0,none⟩) (by simp only;omega) _).setCell (p:=⟨w.heap.size+1+1+1,0,none⟩) (by simp only;omega) _)
  ·have hq : ¬ (a : Int) ≥ x:=hge
   have HNo : Hid (NoW s x (pre++[y])):=Lib.hid (fun p hp=>by
    rcases List.mem_append.1 hp with h | h
    ·exact hno p h
    ·rw [List.mem_singleton] at h;subst h;rw [hab];exact hge)
   gi_wp2
   exact ⟨KeepsFrom.refl _ _,KpB.refl _ _ _,HNo.out,hbW⟩
 case done =>
  rintro D ys V hD hys ⟨hno,hbV⟩ hK
  subst hys
  have HV : Hid (afterV s x = .tuple #[.int .i64 0,.int .i64 0,.bool false]):=Lib.hid (by
   have : afterP s x = none:=by
    unfold afterP
    rw [List.find?_eq_none]
    intro p hp
    have:=hno p hp
    rw [words_cl hp] at this
    simpa using this
   unfold afterV;rw [this])
  have D4:=C4.below hbV
  have D5:=C5.below hbV
  have D6:=C6.below hbV
  have c4:=D4.cell 0
  have c5:=D5.cell 0
  have c6:=D6.cell 0
  have f4:=D4.frozen 0
  have f5:=D5.frozen 0
  have f6:=D6.frozen 0
  simp only [zG,zH] at c4 c5 c6
  go_wp2
  have hz4 : w.heap.size+1+1+1 < w1.heap.size:=hz6
  have E4:=D4.set_ 0 (.int .i64 0)
  have E5:=(blk_far (p:=⟨w.heap.size+1,0,none⟩) (u:=.int .i64 0) D5 (by simp)).set_ 0 (.int .i64 0)
  have E6:=(blk_far (p:=⟨w.heap.size+1+1,0,none⟩) (u:=.int .i64 0) (blk_far (p:=⟨w.heap.size+1,0,none⟩) (u:=.int .i64 0) D6 (by simp <;> omega)) (by simp)).set_ 0 (.bool false)
  have hK3:=((Below.heap_setCell _ ⟨w.heap.size+1+1+1,0,none⟩ (.bool false) D (by simp only;omega)).trans ((Below.heap_setCell _ ⟨w.heap.size+1+1,0,none⟩ (.int .i64 0) D (by simp only;omega)).trans ((Below.heap_setCell V ⟨w.heap.size+1,0,none⟩ (.int .i64 0) D (by simp only;omega)).trans hK)))
  refine ⟨by simp,.inl ⟨_,_,rfl,run_takeDeferred hK3,?_⟩⟩
  have F4:=blk_put (D:=D) (o:=.deferred none) (blk_far (p:=⟨w.heap.size+1+1+1,0,none⟩) (u:=.bool false) (blk_far (p:=⟨w.heap.size+1+1,0,none⟩) (u:=.int .i64 0) E4 (by simp)) (by simp <;> omega)) (by omega)
  have F5:=blk_put (D:=D) (o:=.deferred none) (blk_far (p:=⟨w.heap.size+1+1+1,0,none⟩) (u:=.bool false) E5 (by simp)) (by omega)
  have F6:=blk_put (D:=D) (o:=.deferred none) E6 (by omega)
  refine ⟨_,res_after _ _ _ _ _ rfl rfl rfl (F4.cell 0) (F5.cell 0) (F6.cell 0),by rw [HV.out],?_⟩
  exact ((((hW1.trans (hbV.mono hW1.size)).setCell (p:=⟨w.heap.size+1,0,none⟩) (by simp only;omega) _).setCell (p:=⟨w.heap.size+1+1,0,none⟩) (by simp only;omega) _).setCell (p:=⟨w.heap.size+1+1+1,0,none⟩) (by simp only;omega) _).trans (belowK_b (w:=w) (Nat.le_refl _) _ D _ _ (by omega) hK3 rfl rfl)
 case stop =>
  rintro D cc pre W hD hp ⟨rfl,q,pre0,rfl,h3,h4,h5,h6,h7,h8⟩ hK
  have hmem : ∀ p ∈ pre0++[q],p ∈ wordsP s:=fun p h=>hp.subset h
  have HV : Hid (afterV s x = .tuple #[.int .i64 ((clP s q).1 : Nat),.int .i64 ((clP s q).2 : Nat),.bool true]):=Lib.hid (by
   have : afterP s x = some q:=by
    unfold afterP
    refine find_prefix hp (fun p hp'=>?_) ?_
    ·have:=h3 p hp'
     rw [words_cl (hmem p (by simp [hp']))] at this
     simpa using this
    ·rw [words_cl (hmem q (by simp))] at h4
     simpa using h4
   unfold afterV;rw [this,words_cl (hmem q (by simp))])
  have c4:=h5.cell 0
  have c5:=h6.cell 0
  have c6:=h7.cell 0
  simp only [zG,zH] at c4 c5 c6
  have hz4 : w.heap.size+1+1+1 < w1.heap.size:=hz6
  gi_wp2
  refine ⟨by simp,.inl ⟨_,_,rfl,run_takeDeferred hK,?_⟩⟩
  have F4:=blk_put (D:=D) (o:=.deferred none) h5 (by omega)
  have F5:=blk_put (D:=D) (o:=.deferred none) h6 (by omega)
  have F6:=blk_put (D:=D) (o:=.deferred none) h7 (by omega)
  exact ⟨_,res_after _ _ _ _ _ rfl rfl rfl (F4.cell 0) (F5.cell 0) (F6.cell 0),by rw [HV.out],h8.trans (belowK_b (w:=w) (Nat.le_refl _) _ D _ _ (by omega) hK rfl rfl)⟩
def nextW (s : ByteArray) (x : Int) : Nat:=((wBounds gW s).find? fun (a : Nat)=>decide (x < (a : Int))).getD s.size
theorem kNext_any (s : ByteArray) (x : Int) (w : World) (hE : Env w) (hs : s.size≤1000000) :
  Calls Tryz.prog 87 #[.string s,.int .i64 x] w fun e w'=>e = .returned (.int .i64 (nextW s x : Nat))∧Below w.heap.size w w':=by
 have HB:=Lib.hid (kBounds_any s w hE hs)
 have HL:=Lib.hid (wBounds_len gW s)
 clear hE
 go_enter Tryz.func87,Tryz.ntmps87
 go_wp2_with fail
 refine HB.out.mono ?_
 rintro e w1 ⟨A,n,c,rfl,ho,hb1⟩
 have hn : (wBounds gW s).length = n:=by have:=ho.len;simpa using this
 have Hn:=Lib.hid hn
 have hz : n≤1000001:=by have:=HL.out;omega
 have rd:=ho.rd (by decide)
 clear hn ho
 go_wp2_with fail
 go_loopw [10] (fun v wr=>∃ i : Nat,v = .int .i64 i∧i≤n∧wr = w1∧Hid (nextW s x = (((wBounds gW s).drop i).find? fun (a : Nat)=>decide (x < (a : Int))).getD s.size)) (fun v _=>n - (intOf v).toNat)
 case atStart=>exact ⟨0,rfl,by omega,rfl,Lib.hid rfl⟩
 case round =>
  obtain ⟨i,rfl,hi,rfl,HN⟩:=hrel
  by_cases hlt : i < n
  ·obtain ⟨y,Hy⟩ : ∃ y,Hid ((wBounds gW s)[i]? = some y):=⟨_,Lib.hid (List.getElem?_eq_getElem (by have:=Hn.out;omega))⟩
   obtain ⟨b,off,rfl,cy⟩:=Rd.atQ rd Hy.out
   have hdr : (wBounds gW s).drop i = y :: (wBounds gW s).drop (i+1):=by rw [List.drop_eq_getElem_cons (by have:=Hn.out;omega)];rw [(List.getElem?_eq_some_iff.1 Hy.out).2]
   have HN2:=HN.out
   rw [hdr,List.find?_cons] at HN2
   clear hdr HN
   cases hq : decide (x < (y : Int)) with
   | true =>
    rw [hq] at HN2
    have HN3 : Hid (nextW s x = y):=Lib.hid HN2
    have hq2 : ((y : Int) > x) = True:=eq_true (of_decide_eq_true hq)
    clear HN2
    go_wp2
    go_ret
    exact ⟨by rw [HN3.out];rfl,hb1⟩
   | false =>
    rw [hq] at HN2
    have HN3:=Lib.hid HN2
    clear HN2
    go_wp2
    go_roundw
    case rel=>exact ⟨i+1,by go_num,by omega,by first | rfl | trivial,HN3⟩
    case measure=>simp [intOf];omega
  ·obtain rfl : i = n:=by omega
   have HN2 : Hid (nextW s x = s.size):=Lib.hid (by rw [HN.out,List.drop_eq_nil_of_le (by have:=Hn.out;omega)];rfl)
   go_wp2
   go_ret
   exact ⟨by rw [HN2.out];rfl,hb1⟩
theorem kints_same (A B : Option Addr) (n c e : Nat) (l : List Nat) (w : World) (hA : Rd w 1 A (l.map encN)) (hB : Rd w 1 B (l.map encN)) (hl : l.length = n) (hn : n≤4000000) :
  Calls Tryz.prog 85 #[.slice A n c,.slice B n e] w fun e w'=>e = .returned (.bool true)∧Below w.heap.size w w':=by
 have Hl:=Lib.hid hl
 clear hl
 go_enter Tryz.func85,Tryz.ntmps85
 go_wp2
 go_loopw [5] (fun v wr=>∃ i k : Nat,v = .int .i64 i∧i≤n∧wr = w.drewN k) (fun v _=>n - (intOf v).toNat)
 case atStart=>exact ⟨0,0,rfl,by omega,rfl⟩
 case round =>
  obtain ⟨i,k,rfl,hi,rfl⟩:=hrel
  by_cases hlt : i < n
  ·obtain ⟨x,Hx⟩ : ∃ x,Hid (l[i]? = some x):=⟨_,Lib.hid (List.getElem?_eq_getElem (by have:=Hl.out;omega))⟩
   obtain ⟨b,off,rfl,h1⟩:=Rd.atQ hA Hx.out
   obtain ⟨b',off',rfl,k1⟩:=Rd.atQ hB Hx.out
   go_wp2_with fail
   go_region
   go_wp2
   go_roundw
   case rel=>exact ⟨i+1,_,by go_num,by omega,by first | rfl | exact World.drewN_drewN _ _ _⟩
   case measure=>simp [intOf];omega
  ·go_wp2
   go_ret
   exact ⟨rfl,below_refl_drewN w k⟩
end
section
open Go.RowKit
theorem klive_bounds : wBounds gW ⟨#[99,97,110,39,116,32,51,46,49,52]⟩ = [0,5,6,10]:=by kernel_rfl
theorem klive_after : afterV ⟨#[97,32,98,99]⟩ 1 = .tuple #[.int .i64 2,.int .i64 4,.bool true]:=by kernel_rfl
theorem klive_count : (wordsP ⟨#[97,44,32,98,33]⟩).length = 2:=by kernel_rfl
theorem klive_kind : kindC (wCls gW ⟨#[51,97]⟩) = 4:=by kernel_rfl
theorem klive_space : kindC (wCls gW ⟨#[32]⟩) = 1:=by kernel_rfl
theorem klive_next : nextW ⟨#[97,98,32,99]⟩ 0 = 2:=by kernel_rfl
theorem klive_any (w : World) (hE : Env w) : Calls Tryz.prog 22 #[] w fun e w'=>e = .returned (.bool true)∧Below w.heap.size w w':=by
 have H1:=Lib.hid (kBounds_any ⟨#[99,97,110,39,116,32,51,46,49,52]⟩ w hE (by decide))
 have H2:=Lib.hid (fun W (h : Env W)=>kAfter_any ⟨#[97,32,98,99]⟩ 1 W h (by decide))
 have H3:=Lib.hid (fun W (h : Env W)=>kCount_any ⟨#[97,44,32,98,33]⟩ W h (by decide))
 have H4:=Lib.hid (fun W (h : Env W)=>kKind_any ⟨#[51,97]⟩ W h (by decide))
 have H5:=Lib.hid (fun W (h : Env W)=>kKind_any ⟨#[32]⟩ W h (by decide))
 have H6:=Lib.hid (fun W (h : Env W)=>kNext_any ⟨#[97,98,32,99]⟩ 0 W h (by decide))
 rw [klive_bounds] at H1
 simp only [klive_after] at H2
 simp only [klive_count] at H3
 simp only [klive_kind] at H4
 simp only [klive_space] at H5
 simp only [klive_next] at H6
 go_enter Tryz.func22,Tryz.ntmps22
 go_wp2_with fail
 refine H1.out.mono ?_
 rintro e w1 ⟨A,n,c,rfl,ho,hb1⟩
 obtain rfl : 4 = n:=ho.len
 go_wp2_with fail
 refine (H2.out _ (hE.below hb1)).mono ?_
 rintro e w2 ⟨rfl,hb2⟩
 have hbb:=below_two hb1 hb2
 have ho:=ho.below hb2
 have hb4 : Below w.heap.size w (w2.alloc (.cells #[.int .i64 0,.int .i64 5,.int .i64 6,.int .i64 10] 3)):=hbb.alloc hbb.size _
 have ho:=ho.alloc (.cells #[.int .i64 0,.int .i64 5,.int .i64 6,.int .i64 10] 3)
 have hr:=Rd.manyQ w2 3 1 ([(0 : Nat),5,6,10].map encN) #[.int .i64 0,.int .i64 5,.int .i64 6,.int .i64 10] rfl (by intro x hx;obtain ⟨y,_,rfl⟩:=List.mem_map.1 hx;rfl)
 have HY:=Lib.hid (kints_same A (some ⟨w2.heap.size,0,none⟩) 4 c 4 [0,5,6,10] _ (ho.rd (by decide)) hr rfl (by omega))
 clear H1 H2 hr ho
 go_wp2_with fail
 refine HY.out.mono ?_
 rintro e w3 ⟨rfl,hb5⟩
 have hb6:=below_step hb4 hb5 hb4.size
 go_wp2_with fail
 refine (H3.out _ (hE.below hb6)).mono ?_
 rintro e w4 ⟨rfl,hb7⟩
 have hb8:=below_step hb6 hb7 hb6.size
 go_wp2_with fail
 refine (H4.out _ (hE.below hb8)).mono ?_
 rintro e w5 ⟨rfl,hb9⟩
 have hb10:=below_step hb8 hb9 hb8.size
 go_wp2_with fail
 refine (H5.out _ (hE.below hb10)).mono ?_
 rintro e w6 ⟨rfl,hb11⟩
 have hb12:=below_step hb10 hb11 hb10.size
 go_wp2_with fail
 refine (H6.out _ (hE.below hb12)).mono ?_
 rintro e w7 ⟨rfl,hb13⟩
 have hb14:=below_step hb12 hb13 hb12.size
 go_wp2
 go_ret
 exact ⟨rfl,hb14⟩
end
end Go.Proofs.YtglmcknlnoknoaaGreatDoor
