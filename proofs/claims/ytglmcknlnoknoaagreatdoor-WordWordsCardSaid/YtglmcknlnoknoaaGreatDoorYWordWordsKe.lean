/- -/
import Derived.Test.YtglmcknlnoknoaaGreatDoorYWordWords0a
import Derived.Test.YtglmcknlnoknoaaGreatDoorYWordWords0b
import Derived.Test.YtglmcknlnoknoaaGreatDoorW6a
namespace Go.Proofs.YtglmcknlnoknoaaGreatDoor
set_option maxRecDepth 100000
set_option maxHeartbeats 40000000
section
open Go.RowKit
theorem Rd.atP {w : World} {A : Option Addr} {l : List Nat} {k : Nat} {x : Nat} (h : Rd w 1 A (l.map encN)) (hk : l[k]? = some x) : ∃ b off,A = some ⟨b,off,none⟩∧w.cell? ⟨b,off+k,none⟩ = some (.int .i64 (x : Nat)):=by
 obtain ⟨b,off,rfl,hc⟩:=h (by intro e;cases l with | nil=>simp at hk | cons _ _=>simp at e)
 have h0:=hc k 0 (encN x) (.int .i64 (x : Nat)) (by simp [hk]) rfl
 exact ⟨b,off,rfl,by simpa using h0⟩
def ScAt (g : Int→Nat) (s : ByteArray) (f q : Nat) (P : List Nat) (C : List Int) : Prop :=
 P++(runesGo s f q).map (·.2.1) = (runesP s).map (·.2.1)∧C++(runesGo s f q).map (fun x=>(g x.1 : Int)) = wCls g s∧s.size≤q+f∧q≤s.size
theorem scAt_first (g : Int→Nat) (s : ByteArray) : ScAt g s s.size 0 [] []:=⟨rfl,rfl,by omega,by omega⟩
theorem scAt_add {g : Int→Nat} {s : ByteArray} {f q R W : Nat} {P : List Nat} {C : List Int} (h : ScAt g s f q P C) (hp : q < s.size) (hd : Utf8.decode s q = (R,W)) (hw : 1≤W∧q+W≤s.size) :
  ∃ f',ScAt g s f' (q+W) (P++[q]) (C++[(g R : Int)]):=by
 obtain ⟨f',rfl,hg⟩:=runesGo_step (s:=s) (f:=f) hp h.2.2.1
 rw [hd] at hg
 refine ⟨f',?_,?_,by have:=h.2.2.1;omega,hw.2⟩
 ·rw [← h.1,hg];simp
 ·rw [← h.2.1,hg];simp
theorem scAt_end {g : Int→Nat} {s : ByteArray} {f q : Nat} {P : List Nat} {C : List Int} (h : ScAt g s f q P C) (hp : ¬ q < s.size) : P = (runesP s).map (·.2.1)∧C = wCls g s:=by
 have h1:=h.1
 have h2:=h.2.1
 rw [runesGo_end (by omega)] at h1 h2
 exact ⟨by simpa using h1,by simpa using h2⟩
structure ScM (w : World) (t : TypeId) (B base bt bi : Nat) (s : ByteArray) (q : Nat) (tl : List Value) (A1 : Option Addr) (n1 c1 : Nat) (A2 : Option Addr) (n2 c2 : Nat) (P : List Nat) (C : List Int) : Prop where
 blk : Blk w bt t (Value.slice A1 n1 c1 :: Value.slice A2 n2 c2 :: tl).toArray
 it : w.heap[bi]? = some (.stringIter s q)
 o1 : Own w base 3 1 A1 n1 c1 (P.map encN)
 o2 : Own w base 3 1 A2 n2 c2 (C.map encZ)
 ne : ∀ a b,A1 = some a→A2 = some b→a.block ≠ b.block
 lt : B≤bt∧bt < base∧B≤bi∧bi < base∧bt ≠ bi∧base≤w.heap.size
section
variable {w w' : World} {t : TypeId} {B base bt bi : Nat} {s : ByteArray} {q : Nat} {tl : List Value} {A1 : Option Addr} {n1 c1 : Nat} {A2 : Option Addr} {n2 c2 : Nat} {P : List Nat} {C : List Int}
theorem ScM.below (h : ScM w t B base bt bi s q tl A1 n1 c1 A2 n2 c2 P C) (hb : Below w.heap.size w w') : ScM w' t B base bt bi s q tl A1 n1 c1 A2 n2 c2 P C :=
 ⟨h.blk.below hb,(hb.block _ (Array.getElem?_eq_some_iff.1 h.it).1).trans h.it,h.o1.below hb,h.o2.below hb,h.ne,⟨h.lt.1,h.lt.2.1,h.lt.2.2.1,h.lt.2.2.2.1,h.lt.2.2.2.2.1,Nat.le_trans h.lt.2.2.2.2.2 hb.size⟩⟩
theorem ScM.iterAt (h : ScM w t B base bt bi s q tl A1 n1 c1 A2 n2 c2 P C) (k : Nat) : ScM (w.iterAt bi s k) t B base bt bi s k tl A1 n1 c1 A2 n2 c2 P C:=by
 have hl:=h.lt
 have hsame : ∀ b,b ≠ bi→(w.iterAt bi s k).heap[b]? = w.heap[b]?:=fun b hne=>Lib.iterAt_other w bi b s k hne
 refine ⟨(hsame bt hl.2.2.2.2.1).trans h.blk,Lib.iterAt_heap w bi s q k h.it,h.o1.keep fun a ha=>hsame _ ?_,h.o2.keep fun a ha=>hsame _ ?_,h.ne,?_⟩
 ·have:=(h.o1.lt a ha).1;omega
 ·have:=(h.o2.lt a ha).1;omega
 ·rw [Lib.iterAt_size];exact hl
theorem ScM.more1 (h : ScM w t B base bt bi s q tl A1 n1 c1 A2 n2 c2 P C) {o : Obj} {x : Nat} {A3 : Option Addr} {c3 : Nat} {w3 : World} (ho : Own w3 base 3 1 A3 (n1+1) c3 ((P++[x]).map encN)) (hg : (w.alloc o).grownBy w3 (A1.map (·.block))) (hA : A3 = A1∨A3 = some ⟨(w.alloc o).heap.size,0,none⟩) :
  Blk w3 bt t (Value.slice A1 n1 c1 :: Value.slice A2 n2 c2 :: tl).toArray∧ScM (w3.setCell ⟨bt,0,none⟩ (.slice A3 (n1+1) c3)) t B base bt bi s q tl A3 (n1+1) c3 A2 n2 c2 (P++[x]) C∧(∀ (V : World),Below B V w→Below B V (w3.setCell ⟨bt,0,none⟩ (.slice A3 (n1+1) c3))):=by
 have hl:=h.lt
 have hz : (w.alloc o).heap.size = w.heap.size+1:=by simp
 have hne : ∀ b,b < base→some b ≠ A1.map (·.block):=fun b hb e=>by
  cases A1 with
  | none=>cases e
  | some a=>have:=(h.o1.lt a rfl).1;simp at e;omega
 have hsame : ∀ b,b < w.heap.size→some b ≠ A1.map (·.block)→w3.heap[b]? = w.heap[b]?:=fun b hb e=>(hg.block b (by omega) e).trans (Below.heap_alloc w o b hb)
 have hk : Blk w3 bt t (Value.slice A1 n1 c1 :: Value.slice A2 n2 c2 :: tl).toArray:=(hsame bt h.blk.lt (hne bt hl.2.1)).trans h.blk
 have hset : ∀ b,b ≠ bt→(w3.setCell ⟨bt,0,none⟩ (.slice A3 (n1+1) c3)).heap[b]? = w3.heap[b]?:=fun b hb=>Below.heap_setCell w3 ⟨bt,0,none⟩ _ b hb
 refine ⟨hk,⟨by have:=hk.set_ 0 (.slice A3 (n1+1) c3);simpa using this,(hset bi (Ne.symm hl.2.2.2.2.1)).trans ((hsame bi (Array.getElem?_eq_some_iff.1 h.it).1 (hne bi hl.2.2.2.1)).trans h.it),ho.keep fun a ha=>hset _ ?_,(h.o2.keep (w':=w3) fun a ha=>hsame _ (h.o2.lt a ha).2 ?_).keep fun a ha=>hset _ ?_,?_,?_⟩,fun V hV=>?_⟩
 ·have:=(ho.lt a ha).1;omega
 ·intro e
  cases A1 with
  | none=>cases e
  | some b=>simp at e;exact h.ne b a rfl ha e.symm
 ·have:=(h.o2.lt a ha).1;omega
 ·intro a b ha hb
  rcases hA with e | e
  ·exact h.ne a b (by rw [← e];exact ha) hb
  ·rw [e] at ha;injection ha with ha;subst ha
   have:=(h.o2.lt b hb).2
   simp only;omega
 ·have:=hg.size
  simp [World.setCell];omega
 ·refine (below_app (hV.alloc (by have:=hl;omega) o) hg (by have:=hl;omega) (fun a ha=>by have:=(h.o1.lt a ha).1;omega)).setCell (p:=⟨bt,0,none⟩) hl.1 _
theorem ScM.more2 (h : ScM w t B base bt bi s q tl A1 n1 c1 A2 n2 c2 P C) {o : Obj} {x : Int} {A3 : Option Addr} {c3 : Nat} {w3 : World} (ho : Own w3 base 3 1 A3 (n2+1) c3 ((C++[x]).map encZ)) (hg : (w.alloc o).grownBy w3 (A2.map (·.block))) (hA : A3 = A2∨A3 = some ⟨(w.alloc o).heap.size,0,none⟩) :
  Blk w3 bt t (Value.slice A1 n1 c1 :: Value.slice A2 n2 c2 :: tl).toArray∧ScM (w3.setCell ⟨bt,1,none⟩ (.slice A3 (n2+1) c3)) t B base bt bi s q tl A1 n1 c1 A3 (n2+1) c3 P (C++[x])∧(∀ (V : World),Below B V w→Below B V (w3.setCell ⟨bt,1,none⟩ (.slice A3 (n2+1) c3))):=by
 have hl:=h.lt
 have hz : (w.alloc o).heap.size = w.heap.size+1:=by simp
 have hne : ∀ b,b < base→some b ≠ A2.map (·.block):=fun b hb e=>by
  cases A2 with
  | none=>cases e
  | some a=>have:=(h.o2.lt a rfl).1;simp at e;omega
 have hsame : ∀ b,b < w.heap.size→some b ≠ A2.map (·.block)→w3.heap[b]? = w.heap[b]?:=fun b hb e=>(hg.block b (by omega) e).trans (Below.heap_alloc w o b hb)
 have hk : Blk w3 bt t (Value.slice A1 n1 c1 :: Value.slice A2 n2 c2 :: tl).toArray:=(hsame bt h.blk.lt (hne bt hl.2.1)).trans h.blk
 have hset : ∀ b,b ≠ bt→(w3.setCell ⟨bt,1,none⟩ (.slice A3 (n2+1) c3)).heap[b]? = w3.heap[b]?:=fun b hb=>Below.heap_setCell w3 ⟨bt,1,none⟩ _ b hb
 refine ⟨hk,⟨by have:=hk.set_ 1 (.slice A3 (n2+1) c3);simpa using this,(hset bi (Ne.symm hl.2.2.2.2.1)).trans ((hsame bi (Array.getElem?_eq_some_iff.1 h.it).1 (hne bi hl.2.2.2.1)).trans h.it),(h.o1.keep (w':=w3) fun a ha=>hsame _ (h.o1.lt a ha).2 ?_).keep fun a ha=>hset _ ?_,ho.keep fun a ha=>hset _ ?_,?_,?_⟩,fun V hV=>?_⟩
 ·intro e
  cases A2 with
  | none=>cases e
  | some b=>simp at e;exact h.ne a b ha rfl e
 ·have:=(h.o1.lt a ha).1;omega
 ·have:=(ho.lt a ha).1;omega
 ·intro a b ha hb
  rcases hA with e | e
  ·exact h.ne a b ha (by rw [← e];exact hb)
  ·rw [e] at hb;injection hb with hb;subst hb
   have:=(h.o1.lt a ha).2
   simp only;omega
 ·have:=hg.size
  simp [World.setCell];omega
 ·refine (below_app (hV.alloc (by have:=hl;omega) o) hg (by have:=hl;omega) (fun a ha=>by have:=(h.o2.lt a ha).1;omega)).setCell (p:=⟨bt,1,none⟩) hl.1 _
end
theorem res_scan (w : World) (b : Nat) (tmps : Array Value) (ht : tmps.getD 2 undef = .pointer (some ⟨b,0,none⟩)) {A1 A2 : Option Addr} {n1 c1 n2 c2 : Nat} {z : Int} (h : Blk w b 181 #[.slice A1 n1 c1,.slice A2 n2 c2,.int .i64 z]) :
  (results Tryz.f137 tmps).run Tryz.prog w = .ok (.agg #[.slice A1 n1 c1,.slice A2 n2 c2,.int .i64 z]) w:=by
 have ht' : tmps[2]?.getD undef = .pointer (some ⟨b,0,none⟩):=by simpa [Array.getD_eq_getD_getElem?] using ht
 have h0:=h.cell 0
 have h1:=h.cell 1
 have h2:=h.cell 2
 simp only [zG,zH,zI] at h0 h1 h2
 simp [results,Tryz.results137,go_sem,ht',h0,h1,h2]
theorem kscan_any (s : ByteArray) (w : World) (hE : Env w) (hs : s.size≤1000000) :
  Calls Tryz.prog 137 #[.string s] w fun e w'=>∃ A1 n1 c1 A2 n2 c2,e = .returned (.agg #[.slice A1 n1 c1,.slice A2 n2 c2,.int .i64 s.size])∧Own w' w.heap.size 3 1 A1 n1 c1 (((runesP s).map (·.2.1)).map encN) ∧
   Own w' w.heap.size 3 1 A2 n2 c2 ((wCls gW s).map encZ)∧Below w.heap.size w w':=by
 obtain ⟨i0,hi0,hz0,hz1,hz2⟩:=info_parts infoInt
 have hB0 : Below w.heap.size w (w.alloc (.cells #[.slice none 0 0,.slice none 0 0,.int .i64 0] 181)):=(Below.refl _ _).alloc (Nat.le_refl _) _
 have hR0:=Blk.new w 181 #[.slice none 0 0,.slice none 0 0,.int .i64 0]
 have hE0:=hE.below hB0
 go_enter Tryz.func137,Tryz.ntmps137
 generalize hT : ByteArray.mk _ = T
 have HN : newP T.data.toList = .ok wordD:=by rw [← hT];exact new_K (by kernel_rfl) (by kernel_rfl)
 have hTl : T.data.toList.length≤maxLen:=by rw [← hT];exact of_decide_eq_true (by kernel_rfl)
 clear hT
 have HC:=wNew_any T.data.toList _ hE0 hTl
 rw [HN,bytes_is] at HC
 replace HC:=Lib.hid HC
 clear HN hTl
 go_wp2_with fail
 refine HC.out.mono ?_
 rintro e w1 ⟨⟨p,rfl,hd⟩,hb1⟩
 clear HC
 have hR1:=hR0.below hb1
 have hB1 : Below w.heap.size w w1:=hB0.trans (hb1.mono (by simp))
 have hsz1 : w.heap.size < w1.heap.size:=hR1.lt
 clear hR0 hB0 hE0 hb1
 have hM0 : ScM ((w1.alloc (.cells #[.slice none 0 0,.slice none 0 0,.int .i64 s.size] 181)).iter s 0) 181 w1.heap.size (w1.heap.size+2) w1.heap.size (w1.heap.size+1) s 0 [.int .i64 s.size] none 0 0 none 0 0 [] [] :=
  ⟨(Blk.new w1 _ _).alloc _,(by have:=iter_new (w1.alloc (.cells #[.slice none 0 0,.slice none 0 0,.int .i64 s.size] 181)) s 0;simpa using this),Own.nil_ _ _ _ _,Own.nil_ _ _ _ _,fun _ _ h=>(by cases h),(by unfold World.iter;simp)⟩
 have hB2 : Below w1.heap.size w1 ((w1.alloc (.cells #[.slice none 0 0,.slice none 0 0,.int .i64 s.size] 181)).iter s 0):=below_iter ((Below.refl _ _).alloc (Nat.le_refl _) _) (by simp) _ _
 have HA0:=Lib.hid (scAt_first gW s)
 have HD:=Lib.hid hd
 clear hd hE
 go_wp2_with fail
 go_loopw [7] (fun _ wr=>∃ (q f : Nat) (A1 : Option Addr) (n1 c1 : Nat) (A2 : Option Addr) (n2 c2 : Nat) (P : List Nat) (C : List Int),ScM wr 181 w1.heap.size (w1.heap.size+2) w1.heap.size (w1.heap.size+1) s q [.int .i64 s.size] A1 n1 c1 A2 n2 c2 P C ∧
   n1≤q∧n2≤q∧q≤s.size∧Hid (ScAt gW s f q P C)∧Below w1.heap.size w1 wr) (fun _ wr=>s.size - wr.iterPos (w1.heap.size+1))
 case atStart=>exact ⟨0,s.size,none,0,0,none,0,0,[],[],hM0,by omega,by omega,by omega,HA0,hB2⟩
 case round =>
  clear hM0 hB2 HA0
  obtain ⟨q,f,A1,n1,c1,A2,n2,c2,P,C,hM,hn1,hn2,hq,HA,hb⟩:=hrel
  have hit:=hM.it
  have Hpos:=Lib.hid (iterPos_of hit)
  by_cases hp : q < s.size
  ·obtain ⟨⟨R,W⟩,HDc⟩ : ∃ d,Utf8.decode s q = d:=⟨_,rfl⟩
   have hd:=dec_bd s q hp
   have hnx : ∀ ty,(Instr.next (.pointer (some ⟨w1.heap.size+1,0,none⟩)) true ty).run Tryz.prog wr = _:=fun ty=>Lib.run_next_any_at wr (w1.heap.size+1) s q ty hit hp
   have hM2:=hM.iterAt (q+(Utf8.decode s q).2)
   have hb2:=Lib.below_iterAt hb (k:=w1.heap.size+1) (by omega) s (q+(Utf8.decode s q).2)
   rw [HDc] at hd hnx hM2 hb2
   simp only at hd hnx hM2 hb2
   obtain ⟨g,HA'⟩:=scAt_add HA.out hp HDc (by omega)
   have HA':=Lib.hid HA'
   clear HA HDc hM hb hit
   generalize wr.iterAt (w1.heap.size+1) s (q+W) = w2 at hnx hM2 hb2
   have k0:=hM2.blk.cell 0
   simp only [zG,zH] at k0
   have hsz2:=hM2.lt.2.2.2.2.2
   go_upto_region 7 with (at_builtin;go_must (refine wpList_app rfl (.tmp 24) (.tmp 26) _ rfl (w1.heap.size+2) 3 i0 _ 1 8 Tryz.underlying52 hi0 hz0 hz1 hz2 rfl (by omega) A1 n1 c1 (P.map encN) rfl (hM2.o1.alloc _) _ 1 1 [encN q] rfl rfl (Rd.newAt (by simp) rfl) (encN_ok [q]) (by unfold maxLen;omega) (by omega) (by simp;omega) ?_);intro A3 c3 w3 ho3 hg3 hA3;have HM:=hM2.more1 (x:=q) (by rw [List.map_append];exact ho3) hg3 hA3;have k3:=HM.1.cell 0;have f3:=HM.1.frozen 0;simp only [zG,zH] at k3)
   have hM5:=HM.2.1
   have hb5:=HM.2.2 _ hb2
   clear HM k3 f3 hg3 ho3 hA3 hM2 hb2 hnx k0
   generalize w3.setCell ⟨w1.heap.size,0,none⟩ (.slice A3 (n1+1) c3) = w5 at hM5 hb5 ⊢
   have k5:=hM5.blk.cell 1
   simp only [zG,zH,zI] at k5
   have HG:=Lib.hid (wGet_any p wordD R w5.drew ((HD.out.below hb5).drewN 1) wordOk.1 wordOk.2.1)
   have hsz5:=hM5.lt.2.2.2.2.2
   go_wp2_with fail
   refine wp_region_last (S:=fun V=>V.cell? ⟨w1.heap.size,1,none⟩ = some (.slice A2 n2 c2)) 8 rfl (by kernel_rfl) (by kernel_rfl) (by kernel_rfl) k5 (fun hHeld=>?_)
   simp only [List.dropLast_cons_cons,List.dropLast_singleton]
   refine tkH (i:=0) (v:=?_) rfl ?_ ?_;rotate_left;focus ((intro w hSw;(try dsimp only at hSw);go_simp);try with_reducible rfl)
   (try simp only [Act.put,zA,zC,zD,zE,zF])
   refine tkH (i:=1) (v:=?_) rfl ?_ ?_;rotate_left;focus ((intro w hSw;(try dsimp only at hSw);go_simp);try with_reducible rfl)
   (try simp only [Act.put,zA,zB,zC,zD,zE,zF])
   refine tkH (i:=2) (v:=?_) rfl ?_ ?_;rotate_left;focus ((intro w hSw;(try dsimp only at hSw);go_simp);try with_reducible rfl)
   (try simp only [Act.put,zA,zB,zC,zD,zE,zF])
   refine tkH (i:=3) (v:=?_) rfl ?_ ?_;rotate_left;focus ((intro w hSw;(try dsimp only at hSw);go_simp);try with_reducible rfl)
   (try simp only [Act.put,zA,zB,zC,zD,zE,zF])
   refine wpAnyH_ready (rs:=[4]) (by kernel_rfl) (by simp) ?_
   refine AllReadyH.cons rfl (fun K hK=>?_) AllReadyH.nil
   go_simp
   refine HG.out.mono ?_
   rintro e wz ⟨rfl,hbz⟩
   have hMz:=(hM5.below (w':=w5.drew) (Below.refl _ _).drew).below hbz
   have hbbz:=below_step (below_drewN hb5 1) hbz hb5.size
   have kz:=hMz.blk.cell 1
   simp only [zG,zH,zI] at kz
   have hszz:=hMz.lt.2.2.2.2.2
   refine hK.out _ _ kz (fun hHeld=>?_)
   clear hK K
   refine wpAnyH_ready (rs:=[5]) (by kernel_rfl) (by simp) ?_
   refine AllReadyH.cons rfl (fun K hK=>?_) AllReadyH.nil
   go_simp
   refine hK.out _ _ (cell_keep kz ((Below.refl _ _).alloc (Nat.le_refl _) _)) (fun hHeld=>?_)
   clear hK K
   refine wpAnyH_ready (rs:=[6]) (by kernel_rfl) (by simp) ?_
   refine AllReadyH.cons rfl (fun K hK=>?_) AllReadyH.nil
   refine step_app rfl (.tmp 30) (.tmp 34) _ rfl (w1.heap.size+2) 3 i0 _ 1 8 Tryz.underlying52 hi0 hz0 hz1 hz2 rfl (by omega) A2 n2 c2 (C.map encZ) rfl (hMz.o2.alloc _) _ 1 1 [encZ (gW R : Int)] rfl rfl (Rd.newAt (by simp) rfl) (encZ_ok [(gW R : Int)]) (by unfold maxLen;omega) (by omega) (by simp;omega) ?_
   intro A4 c4 w4 ho4 hg4 hA4
   have HM:=hMz.more2 (x:=(gW R : Int)) (by rw [List.map_append];exact ho4) hg4 hA4
   have k4:=HM.1.cell 1
   have f4:=HM.1.frozen 1
   simp only [zG,zH,zI] at k4
   refine hK.out _ _ k4 (fun hHeld=>?_)
   clear hK K
   refine tkH (i:=7) (v:=?_) rfl ?_ ?_;rotate_left;focus ((intro w hSw;(try dsimp only at hSw);go_simp);try with_reducible rfl)
   (try simp only [Act.put,zA,zB,zC,zD,zE,zF])
   refine wpAnyH_done (by kernel_rfl) ?_ _
   refine tailQ_end (wpOp_step (i:=8) rfl (fun K hK=>?_))
   go_simp
   refine hK _ _ ?_
   clear hK K
   have hM6:=HM.2.1
   have hb6:=HM.2.2 _ hbbz
   go_wp2
   go_roundw
   case rel=>exact ⟨q+W,g,_,_,_,_,_,_,P++[q],C++[(gW R : Int)],hM6,by omega,by omega,by omega,HA',hb6⟩
   case measure=>rw [iterPos_of hM6.it,Hpos.out];omega
  ·have hnx : ∀ ty,(Instr.next (.pointer (some ⟨w1.heap.size+1,0,none⟩)) true ty).run Tryz.prog wr = _:=fun ty=>Lib.run_next_end_at wr (w1.heap.size+1) s q ty hit hp
   have HE:=Lib.hid (scAt_end HA.out hp)
   have hRr:=hR1.below hb
   have k0:=hM.blk.cell 0
   have k1:=hM.blk.cell 1
   have k2:=hM.blk.cell 2
   have r0:=hRr.cell 0
   have r1:=hRr.cell 1
   have r2:=hRr.cell 2
   have g0:=hRr.frozen 0
   have g1:=hRr.frozen 1
   have g2:=hRr.frozen 2
   simp only [zG,zH,zI] at k0 k1 k2 r0 r1 r2
   go_wp2
   have hl1 : ∀ a,A1 = some a→a.block ≠ w.heap.size:=fun a ha=>by have:=(hM.o1.lt a ha).1;omega
   have hl2 : ∀ a,A2 = some a→a.block ≠ w.heap.size:=fun a ha=>by have:=(hM.o2.lt a ha).1;omega
   have hBk:=((hRr.set_ 0 (.slice A1 n1 c1)).set_ 1 (.slice A2 n2 c2)).set_ 2 (.int .i64 s.size)
   have ho1:=((((hM.o1.setCell (p:=⟨w.heap.size,0,none⟩) hl1 (.slice A1 n1 c1)).setCell (p:=⟨w.heap.size,1,none⟩) hl1 (.slice A2 n2 c2)).setCell (p:=⟨w.heap.size,2,none⟩) hl1 (.int .i64 s.size)).more (b':=w.heap.size) (by omega))
   have ho2:=((((hM.o2.setCell (p:=⟨w.heap.size,0,none⟩) hl2 (.slice A1 n1 c1)).setCell (p:=⟨w.heap.size,1,none⟩) hl2 (.slice A2 n2 c2)).setCell (p:=⟨w.heap.size,2,none⟩) hl2 (.int .i64 s.size)).more (b':=w.heap.size) (by omega))
   have hbb:=(((below_step hB1 hb hB1.size).setCell (p:=⟨w.heap.size,0,none⟩) (Nat.le_refl _) (.slice A1 n1 c1)).setCell (p:=⟨w.heap.size,1,none⟩) (Nat.le_refl _) (.slice A2 n2 c2)).setCell (p:=⟨w.heap.size,2,none⟩) (Nat.le_refl _) (.int .i64 s.size)
   rw [HE.out.1] at ho1
   rw [HE.out.2] at ho2
   refine bodyPost_ret (res_scan _ w.heap.size _ rfl (by simpa using hBk)) rfl ?_
   exact ⟨_,_,_,_,_,_,rfl,ho1,ho2,hbb⟩
end
end Go.Proofs.YtglmcknlnoknoaaGreatDoor
