/- -/
import Derived.Laws.EntriesVeiled
import Derived.Test.YtdngkienloligaaGreatDoorW11a
import Derived.Test.YtdngkienloligaaGreatDoorW7a
import Derived.Test.YtdngkienloligaaGreatDoorW0c
namespace Go.Proofs.YtdngkienloligaaGreatDoor
open Go.RowKit Go.Shelf
attribute [local go_sem] Oper.semAt_some
theorem KT.setX {t : TypeId} {X : Nat → Prop} {A B : World} (h : KT t X A B) {b : Nat} (hx : X b) (i : Nat) (u : Value) : KT t X A (B.setCell ⟨b,i,none⟩ u) :=
 ⟨by simpa [World.setCell] using h.1,fun k cur fz hk0 hk=>(Below.heap_setCell B ⟨b,i,none⟩ u k (fun e=>by subst e;exact hk0 hx)).trans (h.2 k cur fz hk0 hk)⟩
theorem others_below {A B : World} (h : Below A.heap.size A B) : KeepsOthers A B:=⟨h.size,fun j _ hj _=>(h.block j (Array.getElem?_eq_some_iff.1 hj).1).trans hj⟩
theorem prefix_nextP {α : Type} {R pre : List α} {x : α} (h : pre ++ [x] <+: R) : R[pre.length]? = some x:=by
 obtain ⟨r,rfl⟩:=h
 simp
theorem seqP_nil (fn : Fn) (first captured : Array Value) (W : World) : (binOp .eql 29 (.func fn first captured) .nilFunc).run Tryz.prog W = .ok (.bool false) W:=by kernel_rfl
section
variable {F : Fence} {n : Nat} {P : Program}
theorem rngN2 {α : Type} {g : Operand} {ps : Array Tmp} {assign body : Code} {Q : Exit → Act → World → Prop} {a : Act} {w : World}
  {l₀ : Nat} {r₀ : Loop} (hro : F.round = some l₀) (hl₀ : w.heap[l₀]? = some (.loop r₀)) (h1 : 1 ≤ n) {gf : Nat} {lb : Array Value} (hg : a.eval g = .func (.func gf) #[] lb) (hFg : F.fn gf) (eg : ∀ args w,(callFunc gf args).run P w = .ok (.enter gf args) w)
  {encs : α → Array Value} {Kp : World → World → Prop} {S Sp : List α → Prop} {N : Nat} {w0 : World} (hseq : SeqStopsK F (n - 1) P gf lb encs Kp S Sp N w0)
  (hKt : ∀ {A B C : World},Kp A B → Kp B C → Kp A C) (hKb : ∀ (W : World) (l : Nat) (o o' : Obj),w.heap.size ≤ l → W.heap[l]? = some o → o.isCells = false → o.isWalk = false → Kp W (W.putObj l o')) (hb0 : Below w0.heap.size w0 w) (hps : ∀ x,(encs x).size = ps.size) (hKr : ∀ W,Kp W W)
  (I : List α → World → Prop) (Ix : Code → List α → World → Prop) (hI : OwnFrom w.heap.size I) (hIx : ∀ c,OwnFrom w.heap.size (Ix c)) (h0 : I [] w) (f : Array Value → α → Array Value)
  (hassign : ∀ (l : Nat) (x : α) (W : World) (K : Act → World → Prop),K { tmps:=f a.tmps x,defers:=[] } W →
   assign.wpIn (F.inRound l) (n - 1 - 1) P (Exit.then K (fun _ _ _=>False)) { tmps:=(ps.zip (encs x)).foldl (fun t (p,v)=>t.setIfInBounds p v) a.tmps,defers:=[] } W)
  (hbody : ∀ (l : Nat) (pre : List α) (x : α) (W : World),w.heap.size ≤ l → (∃ r,W.heap[l]? = some (.loop r)) → I pre W → pre.length < N → body.wpIn (F.inRound l) (n - 1 - 1) P (ownPostG w.heap.size Kp I Ix (pre ++ [x]) W) { tmps:=f a.tmps x,defers:=[] } W)
  (hdone : ∀ (xs : List α) (W : World),S xs → I xs W → Q .normal a W)
  (hstop : ∀ (c : Code) (pre : List α) (W : World),Sp pre → Ix c pre W → c.wpIn F n P Q a W) :
  (Code.rangeFunc g ps assign body).wpIn F n P Q a w :=
 wpIn_rangeFunc_ownN hro hl₀ h1 hg hFg eg hseq (fun h k=>hKt h k) hKb hb0 hps I Ix hI hIx h0 (fun x a' _=>a' = { tmps:=f a.tmps x,defers:=[] }) (fun _ _ _ _ _ _ hs _ _=>hs)
  (fun l _ x W K hi hK=>hassign l x W K (hK _ _ (KeepsFrom.refl _ _) (hKr W) hi rfl)) (fun l pre x a' W hl hr hi e=>by subst e;exact hbody l pre x W hl hr hi) hdone hstop
end
structure PcW (w : World) (stop : Int) (A : Option Addr) (c : Nat) (L : List Nat) (g5 g6 be : Nat) (s : ByteArray) (fa : Value) (V : World) : Prop where
 b3 : Blk V w.heap.size 3 #[.int .i64 stop]
 b4 : Blk V (w.heap.size + 1) 4 #[.bool false]
 b5 : Blk V g5 29 #[fa]
 b6 : Blk V g6 40 #[.slice A L.length c]
 rd : Rd V 1 A (L.map encN)
 ce : V.cell? ⟨be,0,none⟩ = some (.string s)
 hb : Below w.heap.size w V
theorem PcW.below {w V V' : World} {stop : Int} {A : Option Addr} {c : Nat} {L : List Nat} {g5 g6 be : Nat} {s : ByteArray} {fa : Value} (h : PcW w stop A c L g5 g6 be s fa V) (hb : Below V.heap.size V V') : PcW w stop A c L g5 g6 be s fa V' :=
 ⟨h.b3.below hb,h.b4.below hb,h.b5.below hb,h.b6.below hb,h.rd.below hb,cell_keep h.ce hb,below_two h.hb hb⟩
theorem wBounds_first (s : ByteArray) : (wBounds gW s).getD 0 0 = 0:=by
 unfold wBounds
 have hc:=runesP_contig s
 cases hr : runesP s with
 | nil =>
  rw [hr] at hc
  have hz : s.size = 0:=Eq.symm hc
  rw [if_pos hz];rfl
 | cons x r =>
  rw [hr] at hc
  rw [List.map_cons,wPick,if_pos (.inl rfl)]
  exact hc.1
theorem wBounds_last (s : ByteArray) : (wBounds gW s).getD ((wBounds gW s).length - 1) 0 = s.size:=by
 unfold wBounds
 by_cases hz : s.size = 0
 ·have hl : (runesP s).length = 0:=by have:=runesP_len s;omega
  rw [if_pos hz,List.length_eq_zero_iff.1 hl]
  exact hz.symm
 ·rw [if_neg hz,List.getD_eq_getElem?_getD,List.length_append,List.length_singleton,Nat.add_sub_cancel,List.getElem?_append_right (Nat.le_refl _),Nat.sub_self]
  rfl
theorem res_wordEach (w : World) (b : Nat) (tmps : Array Value) (ht : tmps.getD 4 undef = .pointer (some ⟨b,0,none⟩)) {v : Bool} (hc : w.cell? ⟨b,0,none⟩ = some (.bool v)) : (results Tryz.f6 tmps).run Tryz.prog w = .ok (.bool v) w:=by
 have ht' : tmps[4]?.getD undef = .pointer (some ⟨b,0,none⟩):=by simpa [Array.getD_eq_getD_getElem?] using ht
 simp [results,Tryz.results6,go_sem,ht',hc]
set_option maxRecDepth 100000 in
set_option maxHeartbeats 8000000 in
theorem pWordEach_any (s : ByteArray) (stop : Int) (w : World) (hE : Env w) (hs : s.size ≤ 140737488355328) :
  Calls Tryz.prog 6 #[.string s,.int .i64 stop] w fun e w'=>e = .returned (.bool true) ∧ Below w.heap.size w w':=by
 have HB : Below w.heap.size w ((w.alloc (.cells #[.int .i64 stop] 3)).alloc (.cells #[.bool false] 4)):=((Below.refl _ _).alloc (Nat.le_refl _) _).alloc (by simp) _
 have B3 : Blk ((w.alloc (.cells #[.int .i64 stop] 3)).alloc (.cells #[.bool false] 4)) w.heap.size 3 #[.int .i64 stop]:=(Blk.new w 3 #[.int .i64 stop]).alloc _
 have B4 : Blk ((w.alloc (.cells #[.int .i64 stop] 3)).alloc (.cells #[.bool false] 4)) (w.heap.size + 1) 4 #[.bool false]:=by
  have:=Blk.new (w.alloc (.cells #[.int .i64 stop] 3)) 4 #[.bool false]
  simpa using this
 have HLv:=Lib.hid (fun W (h : Env W)=>klive_any W h)
 refine (callsIn_wide (n:=6)).1 ?_
 refine callsIn_of_wp_marks Tryz.func6 rfl trivial ?_ rfl
 simp only [Tryz.ntmps6,List.size_toArray,List.length_cons,List.length_nil,Nat.reduceAdd,Nat.reduceSub,Array.replicate_succ,Array.replicate_zero,List.push_toArray,List.append_toArray,List.nil_append,List.cons_append]
 refine wpIn_wide.2 ?_
 by_cases h1 : 70 < s.size
 ·have g1 : (70 : Int) < (s.size : Int):=by omega
  clear hs B3
  go_wp2_with fail
  generalize ((w.alloc (.cells #[.int .i64 stop] 3)).alloc (.cells #[.bool false] 4)) = w0 at HB B4 ⊢
  refine (HLv.out _ (hE.below HB)).mono ?_
  rintro e wz ⟨rfl,hb⟩
  replace B4:=B4.below hb
  replace HB:=below_two HB hb
  have c4:=B4.cell 0
  have f4:=B4.frozen 0
  simp only [List.getElem?_toArray,List.getElem?_cons_zero] at c4
  go_wp2_with fail
  have c7:=(B4.set_ 0 (.bool true)).cell 0
  simp only [List.getElem?_toArray,List.getElem?_cons_zero,List.setIfInBounds_toArray,List.set_cons_zero] at c7
  exact ⟨_,res_wordEach _ (w.heap.size + 1) _ rfl c7,rfl,HB.setCell (p:=⟨w.heap.size + 1,0,none⟩) (by simp only;omega) _⟩
 have g1 : ¬ (70 : Int) < (s.size : Int):=by omega
 have hsz : s.size ≤ 70:=by omega
 have HBd:=Lib.hid (fun W=>vBounds_any s W (by omega))
 have hL:=wBounds_len gW s
 have HEa:=Lib.hid (fun W=>kEach_any s W)
 have HES:=Lib.hid (fun W bs X (hX : ∀ b,X b → b < W.heap.size) (h : Env W) hc=>kEach_seq 5 (by decide) W s bs X hX h (by omega) hc)
 have HES3:=Lib.hid (fun W bs X (hX : ∀ b,X b → b < W.heap.size) (h : Env W) hc=>kEach_seq 3 (by decide) W s bs X hX h (by omega) hc)
 have HL0:=Lib.hid (wBounds_first s)
 have HLz:=Lib.hid (wBounds_last s)
 have HLp:=Lib.hid (wBounds_rise gW s)
 have HF1:=Lib.hid (fun x (h : x ∈ piecesF (wBounds gW s))=>(clP_in (piecesF_le (wBounds_rise gW s) (wBounds_le gW s) x h) : clP s x = x))
 generalize wBounds gW s = L at HBd hL HES HES3 HF1 HL0 HLz HLp
 clear h1 hs
 go_wp2_with fail
 generalize ((w.alloc (.cells #[.int .i64 stop] 3)).alloc (.cells #[.bool false] 4)) = w0 at HB B3 B4 ⊢
 refine (HEa.out w0).mono ?_
 rintro e w1 ⟨be,rfl,hce,hb1⟩
 have hnil1:=seqP_nil (.func 107) #[] #[.pointer (some ⟨be,0,none⟩)]
 have B5:=Blk.new w1 29 #[.func (.func 107) #[] #[.pointer (some ⟨be,0,none⟩)]]
 have hbA : Below w1.heap.size w1 (w1.alloc (.cells #[.func (.func 107) #[] #[.pointer (some ⟨be,0,none⟩)]] 29)):=(Below.refl _ _).alloc (Nat.le_refl _) _
 have c50:=B5.cell 0
 simp only [List.getElem?_toArray,List.getElem?_cons_zero] at c50
 go_wp2_with fail
 refine (HBd.out _).mono ?_
 rintro e w2 ⟨A,n,c,rfl,ho,hb2⟩
 obtain rfl : L.length = n:=by have:=ho.len;simpa using this
 have rd2:=ho.rd (by decide)
 have hbB:=below_two hb1 (below_two hbA hb2)
 have C3:=B3.below hbB
 have C4:=B4.below hbB
 have C5:=B5.below hb2
 have C6:=cell_keep hce (below_two hbA hb2)
 have HC:=below_two HB hbB
 clear ho B3 B4 B5 hce hb1 hbA hb2 hbB HB c50 hnil1
 generalize w1.heap.size = g5 at C5 ⊢
 have B6:=Blk.new w2 40 #[.slice A L.length c]
 have hb6 : Below w2.heap.size w2 (w2.alloc (.cells #[.slice A L.length c] 40)):=(Below.refl _ _).alloc (Nat.le_refl _) _
 have hP3 : PcW w stop A c L g5 w2.heap.size be s (.func (.func 107) #[] #[.pointer (some ⟨be,0,none⟩)]) (w2.alloc (.cells #[.slice A L.length c] 40)):=⟨C3.below hb6,C4.below hb6,C5.below hb6,B6,rd2.below hb6,cell_keep C6 hb6,below_two HC hb6⟩
 clear C3 C4 C5 C6 HC B6 hb6 rd2
 go_upto_region 7 with fail
 generalize w2.alloc (.cells #[.slice A L.length c] 40) = U at hP3 ⊢
 generalize w2.heap.size = g6 at hP3 ⊢
 have B7:=(Blk.new U 3 #[.int .i64 0]).alloc (.cells #[.int .i64 0] 3)
 have B8:=Blk.new (U.alloc (.cells #[.int .i64 0] 3)) 3 #[.int .i64 0]
 rw [World.size_alloc] at B8
 have hbV : Below U.heap.size U ((U.alloc (.cells #[.int .i64 0] 3)).alloc (.cells #[.int .i64 0] 3)):=((Below.refl _ _).alloc (Nat.le_refl _) _).alloc (by simp) _
 have c50:=(hP3.b5.below hbV).cell 0
 simp only [List.getElem?_toArray,List.getElem?_cons_zero] at c50
 go_wp2_with fail
 generalize (U.alloc (.cells #[.int .i64 0] 3)).alloc (.cells #[.int .i64 0] 3) = V at B7 B8 hbV c50 ⊢
 have hz8:=B8.lt
 have hzU:=hbV.size
 have hP5:=hP3.below hbV
 have hz4:=hP3.b4.lt
 have hEV:=hE.below hP5.hb
 clear c50
 refine (wpIn_wide (n:=6)).1 ?_
 refine rngH rfl (by decide) (gf:=107) (lb:=#[.pointer (some ⟨be,0,none⟩)]) rfl trivial (enters_of Tryz.func107 (by kernel_rfl) rfl)
  (HES.out V be (fun b=>b = U.heap.size ∨ b = U.heap.size + 1) (by rintro b (rfl | rfl) <;> omega) hEV hP5.ce) (fun h k=>h.trans k) (fun W l o o' _ h hc _=>KT.put W l o o' h hc) (Below.refl _ _) (fun _=>rfl) (fun W=>KT.refl _ _ W)
  (fun (pre : List (Nat × Nat)) W=>(Blk W U.heap.size 3 #[.int .i64 (pre.length : Nat)] ∧ Blk W (U.heap.size + 1) 3 #[.int .i64 (L.getD pre.length 0 : Nat)]) ∧ Below U.heap.size U W)
  (fun cc pre W=>cc = .ret ∧ ¬ pre <+: piecesF L)
  (OwnFrom.and (OwnFrom.and (Go.Own.from (fun s A B row hs hg hr=>hs.kept hg hr) _) (Go.Own.from (fun s A B row hs hg hr=>hs.kept hg hr) _)) (ownFrom_below (Nat.le_refl _) (by omega)))
  (fun _ _ _ _ _ hs _ _=>hs)
  ⟨⟨B7,by rw [List.length_nil,HL0.out];exact B8⟩,hbV⟩
  (fun T (x : Nat × Nat)=>(((T.setIfInBounds 24 (.int .i64 ((clP s x).1 : Nat))).setIfInBounds 25 (.int .i64 ((clP s x).2 : Nat))).setIfInBounds 9 (.int .i64 ((clP s x).1 : Nat))).setIfInBounds 10 (.int .i64 ((clP s x).2 : Nat)))
  ?assign0 ?body0 ?done0 ?stop0
 case assign0 =>
  intro l2 x W K hK
  simp only [List.setIfInBounds_toArray,List.set_cons_succ,List.set_cons_zero] at hK
  simp only [encCl,encP2]
  gi_wp2
  exact hK
 case stop0 =>
  rintro D cc pre W hD hp ⟨rfl,hnp⟩
  exact absurd hp hnp
 case done0 =>
  rintro D xs W hD rfl ⟨⟨B7W,B8W⟩,hbW⟩ hK
  rw [piecesF_len,HLz.out] at B8W
  have PZ:=hP3.below hbW
  have c8:=B8W.cell 0
  simp only [List.getElem?_toArray,List.getElem?_cons_zero] at c8
  have Hsz:=Lib.hid (And.intro hD (And.intro hz8 hz4))
  have HD:=Lib.hid hK
  clear hK B7W B8W B7 B8
  go_wp2_with fail
  refine (HLv.out W (hE.below PZ.hb)).mono ?_
  rintro e wz ⟨rfl,hbz⟩
  have PZ2:=PZ.below hbz
  have c4:=PZ2.b4.cell 0
  have f4:=PZ2.b4.frozen 0
  simp only [List.getElem?_toArray,List.getElem?_cons_zero] at c4
  clear c8
  go_wp2_with fail
  obtain ⟨s1,s2,s3⟩:=Hsz.out
  have k2 : (wz.setCell ⟨w.heap.size + 1,0,none⟩ (.bool true)).heap[D]? = some (.deferred (some [])):=(Below.heap_setCell wz ⟨w.heap.size + 1,0,none⟩ (.bool true) D (by simp only;omega)).trans ((hbz.block D (Array.getElem?_eq_some_iff.1 HD.out).1).trans HD.out)
  have B4v:=PZ2.b4.set_ 0 (.bool true)
  have c7:=B4v.cell 0
  simp only [List.getElem?_toArray,List.getElem?_cons_zero,List.setIfInBounds_toArray,List.set_cons_zero] at c7
  have HBv:=PZ2.hb.setCell (p:=⟨w.heap.size + 1,0,none⟩) (by simp only;omega) (.bool true)
  generalize wz.setCell ⟨w.heap.size + 1,0,none⟩ (.bool true) = Wv at k2 c7 HBv ⊢
  refine ⟨by simp,.inl ⟨_,_,rfl,run_takeDeferred k2,?_⟩⟩
  refine ⟨_,res_wordEach _ (w.heap.size + 1) _ rfl ((World.cell?_of_block (World.putObj_heap_other (by simp only;omega))).trans c7),rfl,?_⟩
  exact HBv.trans (belowK_b (w:=w) (Nat.le_refl _) _ D _ _ (by omega) k2 rfl rfl)
 case body0 =>
  rintro l2 pre y W hl2 ⟨r0,hr0⟩ ⟨⟨B7W,B8W⟩,hbW⟩ hlen
  simp only [List.setIfInBounds_toArray,List.set_cons_succ,List.set_cons_zero]
  obtain ⟨⟨a,b⟩,hab⟩ : ∃ z,clP s y = z:=⟨_,rfl⟩
  rw [hab]
  simp only
  rw [piecesF_len] at hlen
  obtain ⟨x,hx⟩ : ∃ x,L[pre.length]? = some x:=⟨_,List.getElem?_eq_getElem (by omega)⟩
  obtain ⟨z,hz⟩ : ∃ z,L[pre.length + 1]? = some z:=⟨_,List.getElem?_eq_getElem (by omega)⟩
  have hat:=piecesF_at _ _ x z hx hz
  have hxz : x < z:=by
   obtain ⟨h1,e1⟩:=List.getElem?_eq_some_iff.1 hx
   obtain ⟨h2,e2⟩:=List.getElem?_eq_some_iff.1 hz
   have:=List.pairwise_iff_getElem.1 HLp.out _ _ h1 h2 (Nat.lt_succ_self _)
   rw [e1,e2] at this
   exact this
  have hgx : L.getD pre.length 0 = x:=by rw [List.getD_eq_getElem?_getD,hx];rfl
  have hgz : L.getD (pre.length + 1) 0 = z:=by rw [List.getD_eq_getElem?_getD,hz];rfl
  rw [hgx] at B8W
  have Hne : Hid (¬ (a = x ∧ b = z) → ¬ pre ++ [y] <+: piecesF L):=Lib.hid (fun h hp=>by
   have h2:=prefix_nextP hp
   rw [hat] at h2
   injection h2 with h2
   have hm:=HF1.out (x,z) (List.mem_of_getElem? hat)
   rw [h2,hab] at hm
   rw [← h2] at hm
   injection hm with e1 e2
   exact h ⟨e1,e2⟩)
  have PW:=hP3.below hbW
  obtain ⟨bk,off,rfl,cx⟩:=Rd.atQ PW.rd hx
  obtain ⟨bk',off',e2,cz⟩:=Rd.atQ PW.rd hz
  injection e2 with e2
  injection e2 with e2 e3
  subst e2 e3
  have hzW:=B8W.lt
  have hzVW0 : V.heap.size ≤ W.heap.size:=Nat.le_trans hl2 (Nat.le_of_lt (Array.getElem?_eq_some_iff.1 hr0).1)
  have c7:=B7W.cell 0
  have f7:=B7W.frozen 0
  have c8:=B8W.cell 0
  have f8:=B8W.frozen 0
  have c3:=PW.b3.cell 0
  have c4:=PW.b4.cell 0
  have f4:=PW.b4.frozen 0
  have c5:=PW.b5.cell 0
  have c6:=PW.b6.cell 0
  simp only [List.getElem?_toArray,List.getElem?_cons_zero] at c7 c8 c3 c4 c5 c6
  obtain ⟨k,hk⟩ : ∃ k,k = pre.length:=⟨_,rfl⟩
  rw [← hk] at c7 hlen cx cz B7W hgz
  have hkL : k + 1 < L.length:=by omega
  have hkL0 : k < L.length:=by omega
  have ew : IntKind.i64.wrap ((k : Int) + 1) = (k : Int) + 1:=IntWalk.i64_in _ (by omega)
  have Hk:=Lib.hid hk
  have HgE : Hid (z = L[(pre ++ [y]).length]?.getD 0):=Lib.hid (by rw [List.length_append,List.length_singleton,← hk,← List.getD_eq_getElem?_getD];exact hgz.symm)
  have hzVW : V.heap.size ≤ W.heap.size:=hzVW0
  clear hk hx hz hat hab hgx B7 B8
  by_cases ha : a = x
  ·subst ha
   by_cases hb : b = z
   ·subst hb
    clear Hne
    have l5:=hP3.b5.lt
    have l6:=hP3.b6.lt
    have l3:=hP3.b3.lt
    have hn5 : ¬ g5 = U.heap.size + 1:=by omega
    have hn5' : ¬ U.heap.size + 1 = g5:=by omega
    have hn6 : ¬ g6 = U.heap.size + 1:=by omega
    have hn6' : ¬ U.heap.size + 1 = g6:=by omega
    have hn3 : ¬ w.heap.size = U.heap.size + 1:=by omega
    have hn3' : ¬ U.heap.size + 1 = w.heap.size:=by omega
    have hnle : ¬ (b : Int) ≤ (a : Int):=by omega
    have hnge : ¬ ((k : Int) + 1 ≥ (L.length : Int)):=by omega
    have E8:=B8W.set_ 0 (.int .i64 (b : Nat))
    have E7 : Blk (W.setCell ⟨U.heap.size + 1,0,none⟩ (.int .i64 (b : Nat))) U.heap.size 3 #[.int .i64 (k : Nat)]:=(Below.heap_setCell W ⟨U.heap.size + 1,0,none⟩ (.int .i64 (b : Nat)) U.heap.size (by simp only;omega)).trans B7W
    have hb8:=hbW.setCell (p:=⟨U.heap.size + 1,0,none⟩) (by simp only;omega) (.int .i64 (b : Nat))
    by_cases hst : (k : Int) = stop
    ·have hq : ((k : Int) == stop) = true:=by rw [hst];exact beq_self_eq_true _
     clear hst
     gi_wp2_with fail
     obtain ⟨Wp,hWp⟩ : ∃ Wp,W.setCell ⟨U.heap.size + 1,0,none⟩ (.int .i64 (b : Nat)) = Wp:=⟨_,rfl⟩
     have hrp : Wp.heap[l2]? = some (.loop r0):=by rw [← hWp];exact (Below.heap_setCell W ⟨U.heap.size + 1,0,none⟩ (.int .i64 (b : Nat)) l2 (by simp only;omega)).trans hr0
     rw [hWp] at E7 E8 hb8 ⊢
     have PP:=hP3.below hb8
     have hzp : V.heap.size ≤ Wp.heap.size:=by rw [← hWp,World.size_setCell];exact Nat.le_trans hzVW (Nat.le_refl _)
     refine rngN2 (l₀:=l2) (r₀:=r0) rfl hrp (by decide) (gf:=107) (lb:=#[.pointer (some ⟨be,0,none⟩)]) rfl trivial (enters_of Tryz.func107 (by kernel_rfl) rfl)
      ((HES3.out Wp be (fun _=>False) (fun _ h=>h.elim) (hE.below PP.hb) PP.ce).inRound l2) (fun h k=>h.trans k) (fun W l o o' _ h hc _=>KT.put W l o o' h hc) (Below.refl _ _) (fun _=>rfl) (fun W=>KT.refl _ _ W)
      (fun (pre2 : List (Nat × Nat)) W2=>pre2 = [] ∧ Below Wp.heap.size Wp W2)
      (fun cc pre2 W2=>(cc = .exit 2 ∧ Below Wp.heap.size Wp W2) ∨ (cc = .ret ∧ ¬ pre2 <+: piecesF L))
      (OwnFrom.and (fun _ _ _ _ hs _ _=>hs) (ownFrom_below (Nat.le_refl _) (Nat.le_refl _)))
      (fun cc pre2 A B row hs hg hr=>hs.imp (fun h=>⟨h.1,ownFrom_below (β:=Unit) (Nat.le_refl Wp.heap.size) (Nat.le_refl _) () A B row h.2 hg hr⟩) id)
      ⟨rfl,Below.refl _ _⟩
      (fun T (x : Nat × Nat)=>(((T.setIfInBounds 63 (.int .i64 ((clP s x).1 : Nat))).setIfInBounds 64 (.int .i64 ((clP s x).2 : Nat))).setIfInBounds 11 (.int .i64 ((clP s x).1 : Nat))).setIfInBounds 12 (.int .i64 ((clP s x).2 : Nat))) ?assignI ?bodyI ?doneI ?stopI
     case assignI =>
      intro l3 x W K hK
      simp only [List.setIfInBounds_toArray,List.set_cons_succ,List.set_cons_zero] at hK
      simp only [encCl,encP2]
      gi_wp2
      exact hK
     case doneI =>
      rintro ys W2 _ ⟨_,hb2⟩
      have F7:=E7.below hb2
      have F8:=E8.below hb2
      have e7:=F7.cell 0
      have g7:=F7.frozen 0
      simp only [List.getElem?_toArray,List.getElem?_cons_zero] at e7
      clear f7 f8 f4 c3 c4 c5 c6 c7 c8 cx cz
      gi_wp2
      have hkk:=(KeepsOthers.setCell W ⟨U.heap.size + 1,0,none⟩ (.int .i64 (b : Nat))).trans ((cast (by rw [hWp]) (others_below hb2) : KeepsOthers (W.setCell ⟨U.heap.size + 1,0,none⟩ (.int .i64 (b : Nat))) W2).trans (KeepsOthers.setCell W2 ⟨U.heap.size,0,none⟩ (.int .i64 ((k : Int) + 1))))
      have hkt : KT 3 (fun b=>b = U.heap.size ∨ b = U.heap.size + 1) W W2:=KT.trans (cast (by rw [hWp]) ((KT.refl 3 (fun b=>b = U.heap.size ∨ b = U.heap.size + 1) W).setX (b:=U.heap.size + 1) (.inr rfl) 0 (.int .i64 (b : Nat)))) (KT.below hb2)
      refine ⟨hkk.from _,hkt.setX (.inl rfl) 0 _,⟨?_,?_⟩,(hb8.trans (hb2.mono hb8.size)).setCell (p:=⟨U.heap.size,0,none⟩) (Nat.le_refl _) _⟩
      ·exact cast (congrArg (fun z=>Blk _ _ _ #[Value.int .i64 z]) (by have:=Hk.out;simp only [List.length_append,List.length_singleton];omega : (k : Int) + 1 = ((pre ++ [y]).length : Nat))) (F7.set_ 0 (.int .i64 ((k : Int) + 1)))
      ·exact cast (congrArg (fun z=>Blk _ _ _ #[Value.int .i64 ((z : Nat) : Int)]) HgE.out) ((Below.heap_setCell _ ⟨U.heap.size,0,none⟩ (.int .i64 ((k : Int) + 1)) (U.heap.size + 1) (by simp only;omega)).trans F8)
     case stopI =>
      rintro cc pre2 W2 hp (⟨rfl,hb2⟩ | ⟨rfl,hnp⟩)
      ·skip
       have F7:=E7.below hb2
       have F8:=E8.below hb2
       have e7:=F7.cell 0
       have g7:=F7.frozen 0
       simp only [List.getElem?_toArray,List.getElem?_cons_zero] at e7
       clear f7 f8 f4 c3 c4 c5 c6 c7 c8 cx cz
       gi_wp2
       have hkk:=(KeepsOthers.setCell W ⟨U.heap.size + 1,0,none⟩ (.int .i64 (b : Nat))).trans ((cast (by rw [hWp]) (others_below hb2) : KeepsOthers (W.setCell ⟨U.heap.size + 1,0,none⟩ (.int .i64 (b : Nat))) W2).trans (KeepsOthers.setCell W2 ⟨U.heap.size,0,none⟩ (.int .i64 ((k : Int) + 1))))
       have hkt : KT 3 (fun b=>b = U.heap.size ∨ b = U.heap.size + 1) W W2:=KT.trans (cast (by rw [hWp]) ((KT.refl 3 (fun b=>b = U.heap.size ∨ b = U.heap.size + 1) W).setX (b:=U.heap.size + 1) (.inr rfl) 0 (.int .i64 (b : Nat)))) (KT.below hb2)
       refine ⟨hkk.from _,hkt.setX (.inl rfl) 0 _,⟨?_,?_⟩,(hb8.trans (hb2.mono hb8.size)).setCell (p:=⟨U.heap.size,0,none⟩) (Nat.le_refl _) _⟩
       ·exact cast (congrArg (fun z=>Blk _ _ _ #[Value.int .i64 z]) (by have:=Hk.out;simp only [List.length_append,List.length_singleton];omega : (k : Int) + 1 = ((pre ++ [y]).length : Nat))) (F7.set_ 0 (.int .i64 ((k : Int) + 1)))
       ·exact cast (congrArg (fun z=>Blk _ _ _ #[Value.int .i64 ((z : Nat) : Int)]) HgE.out) ((Below.heap_setCell _ ⟨U.heap.size,0,none⟩ (.int .i64 ((k : Int) + 1)) (U.heap.size + 1) (by simp only;omega)).trans F8)
      ·exact absurd hp hnp
     case bodyI =>
      rintro l3 pre2 y2 W2 hl3 _ ⟨rfl,hb2⟩ hlen2
      simp only [List.setIfInBounds_toArray,List.set_cons_succ,List.set_cons_zero]
      obtain ⟨⟨a2,b2⟩,hab2⟩ : ∃ z,clP s y2 = z:=⟨_,rfl⟩
      rw [hab2]
      simp only
      obtain ⟨z2,hz2⟩ : ∃ z,L[0 + 1]? = some z:=⟨_,List.getElem?_eq_getElem (by omega)⟩
      have hx2 : L[0]? = some 0:=by
       have h:=HL0.out
       rw [List.getD_eq_getElem?_getD,List.getElem?_eq_getElem (by omega)] at h
       rw [List.getElem?_eq_getElem (by omega)]
       exact congrArg some h
      have hat2:=piecesF_at _ _ 0 z2 hx2 hz2
      have Hne2 : Hid (¬ (a2 = 0 ∧ b2 = z2) → ¬ ([] : List (Nat × Nat)) ++ [y2] <+: piecesF L):=Lib.hid (fun h hp=>by
       have h2:=prefix_nextP hp
       rw [List.length_nil,hat2] at h2
       injection h2 with h2
       have hm:=HF1.out (0,z2) (List.mem_of_getElem? hat2)
       rw [h2,hab2] at hm
       rw [← h2] at hm
       injection hm with e1 e2
       exact h ⟨e1,e2⟩)
      have P2:=PP.below hb2
      obtain ⟨bk3,off3,e2,cz2⟩:=Rd.atQ P2.rd hz2
      injection e2 with e2
      injection e2 with e2 e3
      subst e2 e3
      have c42:=P2.b4.cell 0
      have f42:=P2.b4.frozen 0
      have c62:=P2.b6.cell 0
      simp only [List.getElem?_toArray,List.getElem?_cons_zero] at c42 c62
      simp only [Nat.zero_add] at cz2
      have hL1 : (1 : Int) < (L.length : Int):=by omega
      have hL1n : 1 < L.length:=by omega
      clear hat2 hab2 hx2 hz2 f7 f8 f4 c3 c4 c5 c6 c7 c8 cx cz
      by_cases ha : a2 = 0
      ·subst ha
       by_cases hb : b2 = z2
       ·subst hb
        clear Hne2
        gi_wp2
        exact ⟨KeepsFrom.refl _ _,.inl ⟨rfl,hb2⟩⟩
       ·have hne : ((b2 : Int) != (z2 : Int)) = true:=by rw [bne_iff_ne];omega
        have hnp:=Lib.hid (Hne2.out (fun h=>hb h.2))
        clear hb Hne2
        gi_wp2
        exact ⟨(KeepsOthers.setCell _ _ _).from _,.inr ⟨rfl,hnp.out⟩⟩
      ·have hne : ((a2 : Int) != 0) = true:=by rw [bne_iff_ne];omega
       have hnp:=Lib.hid (Hne2.out (fun h=>ha h.1))
       clear ha Hne2
       gi_wp2
       exact ⟨(KeepsOthers.setCell _ _ _).from _,.inr ⟨rfl,hnp.out⟩⟩
    ·have hq : ((k : Int) == stop) = false:=by rw [beq_eq_false_iff_ne];exact hst
     clear hst
     gi_wp2
     have hkk:=(KeepsOthers.setCell W ⟨U.heap.size + 1,0,none⟩ (.int .i64 (b : Nat))).trans (KeepsOthers.setCell (W.setCell ⟨U.heap.size + 1,0,none⟩ (.int .i64 (b : Nat))) ⟨U.heap.size,0,none⟩ (.int .i64 ((k : Int) + 1)))
     refine ⟨hkk.from _,((KT.refl _ (fun b=>b = U.heap.size ∨ b = U.heap.size + 1) _).setX (.inr rfl) 0 _).setX (.inl rfl) 0 _,⟨?_,?_⟩,hb8.setCell (p:=⟨U.heap.size,0,none⟩) (Nat.le_refl _) _⟩
     ·exact cast (congrArg (fun z=>Blk _ _ _ #[Value.int .i64 z]) (by have:=Hk.out;simp only [List.length_append,List.length_singleton];omega : (k : Int) + 1 = ((pre ++ [y]).length : Nat))) (E7.set_ 0 (.int .i64 ((k : Int) + 1)))
     ·refine cast (congrArg (fun z=>Blk _ _ _ #[Value.int .i64 ((z : Nat) : Int)]) HgE.out) ?_
      exact (Below.heap_setCell _ ⟨U.heap.size,0,none⟩ (.int .i64 ((k : Int) + 1)) (U.heap.size + 1) (by simp only;omega)).trans E8
   ·have hne : ((b : Int) != (z : Int)) = true:=by rw [bne_iff_ne];omega
    have hnp:=Lib.hid (Hne.out (fun h=>hb h.2))
    clear hb Hne
    gi_wp2
    exact ⟨(KeepsOthers.setCell _ _ _).from _,rfl,hnp.out⟩
  ·have hne : ((a : Int) != (x : Int)) = true:=by rw [bne_iff_ne];omega
   have hnp:=Lib.hid (Hne.out (fun h=>ha h.1))
   clear ha Hne
   gi_wp2
   exact ⟨(KeepsOthers.setCell _ _ _).from _,rfl,hnp.out⟩
end Go.Proofs.YtdngkienloligaaGreatDoor
