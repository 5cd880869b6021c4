/- -/
import Derived.Test.YtglmcknlnoknoaaGreatDoorYWordWordsWq
import Derived.Test.YtglmcknlnoknoaaGreatDoorYWordWords0b
namespace Go.Proofs.YtglmcknlnoknoaaGreatDoor
set_option maxRecDepth 100000
set_option maxHeartbeats 40000000
section
open Go.RowKit Go.Shelf
attribute [local go_sem] Oper.semAt_some
def isWP (s : ByteArray) : Bool:=decide (kindC (wCls gW s) = 4) || decide (kindC (wCls gW s) = 3)
def isWX (s : ByteArray) (x : Nat × Nat) : Bool:=isWP (s.extract (clP s x).1 (clP s x).2)
def wordsP (s : ByteArray) : List (Nat × Nat):=(piecesF (wBounds gW s)).filter (isWX s)
def encWd (s : ByteArray) (x : Nat × Nat) : Array Value:=#[.int .i64 ((clP s x).1 : Nat),.string (s.extract (clP s x).1 (clP s x).2)]
theorem kisWord_any (s : ByteArray) (w : World) (hE : Env w) (hs : s.size≤1000000) : Calls Tryz.prog 91 #[.string s] w fun e w'=>e = .returned (.bool (isWP s))∧Below w.heap.size w w':=by
 have HK:=Lib.hid (kKind_any s w hE hs)
 obtain ⟨k,Hk⟩ : ∃ k,Hid (kindC (wCls gW s) = k):=⟨_,Lib.hid rfl⟩
 have HV : Hid (isWP s = (decide (k = 4) || decide (k = 3))):=Lib.hid (by unfold isWP;rw [Hk.out])
 rw [Hk.out] at HK
 clear Hk hE
 go_enter Tryz.func91,Tryz.ntmps91
 go_wp2_with fail
 refine HK.out.mono ?_
 rintro e w1 ⟨rfl,hb⟩
 by_cases h4 : k = 4
 ·subst h4
  go_wp2
  go_ret
  exact ⟨by rw [HV.out];rfl,hb⟩
 ·have q4 : (k == 4) = false:=by simpa using h4
  by_cases h3 : k = 3
  ·subst h3
   go_wp2
   go_ret
   exact ⟨by rw [HV.out];rfl,hb⟩
  ·have q3 : (k == 3) = false:=by simpa using h3
   go_wp2
   go_ret
   exact ⟨by rw [HV.out];simp [h4,h3],hb⟩
theorem kWords_any (s : ByteArray) (w : World) : Calls Tryz.prog 24 #[.string s] w fun e w'=>e = .returned (.func (.func 89) #[] #[.pointer (some ⟨w.heap.size,0,none⟩)])∧Blk w' w.heap.size 9 #[.string s]∧Below w.heap.size w w':=by
 have hmf : ∀ (fn : Fn) (first cap : Array Value) (w : World),(Instr.makeFunc fn first cap).run Tryz.prog w = .ok (.func fn first cap) w:=fun _ _ _ _=>rfl
 go_enter Tryz.func24,Tryz.ntmps24
 go_wp2
 go_ret
 exact ⟨rfl,Blk.new w 9 #[.string s],(Below.refl _ _).alloc (Nat.le_refl _) _⟩
theorem kWords_seq (n : Nat) (hn : 4≤n) (w w0 : World) (s : ByteArray) (bs : Nat) (X : Nat→Prop) (hw : Below w.heap.size w w0) (hX : ∀ b,X b→w.heap.size≤b∧b < w0.heap.size) (hXb : ¬ X bs) (hE : Env w) (hs : s.size≤1000000) (h : Blk w0 bs 9 #[.string s]) :
  SeqC Fence.wide n Tryz.prog 89 #[.pointer (some ⟨bs,0,none⟩)] (encWd s) (KpB w.heap.size X) (fun ys=>ys = wordsP s) (fun pre=>pre <+: wordsP s) (piecesF (wBounds gW s)).length w0:=by
 intro l J Jx W hW0 hJ hJx hY h0
 have hW : Below w.heap.size w W:=hw.trans (hW0.mono hw.size)
 have hz0:=hW0.size
 have HW:=Lib.hid (fun t V (h : Env V) (ht : t.size≤1000000)=>kisWord_any t V h ht)
 have hbs:=h.lt
 have hS1 : Blk W bs 9 #[.string s]:=h.below hW0
 have hA0 : Below W.heap.size W (W.alloc (.cells #[.func (.yield l) #[] #[]] 116)):=(Below.refl _ _).alloc (Nat.le_refl _) _
 have B0 : Blk (W.alloc (.cells #[.func (.yield l) #[] #[]] 116)) W.heap.size 116 #[.func (.yield l) #[] #[]]:=Blk.new _ _ _
 have hS2:=hS1.below hA0
 have a2:=hS2.cell 0
 simp only [zG,zH] at a2
 refine callsIn_of_wp_marks Tryz.func89 rfl trivial ?_ rfl
 simp only [Tryz.ntmps89,List.size_toArray,List.length_cons,List.length_nil,Nat.reduceAdd,Nat.reduceSub,Array.replicate_succ,Array.replicate_zero,List.push_toArray,List.append_toArray,List.nil_append,List.cons_append]
 refine wpIn_wide.2 ?_
 go_wp2_with fail
 generalize (W.alloc (.cells #[.func (.yield l) #[] #[]] 116)) = W0 at hA0 B0 hS2 a2 ⊢
 refine (kEach_any s W0).mono ?_
 rintro e w1 ⟨bu,rfl,hu,hb⟩
 have hb1:=below_two hA0 hb
 have B1:=B0.below hb
 have hS3:=hS2.below hb
 have hJ1 : J [] w1:=hJ [] W w1 none h0 (grown_of_below hb1) (fun r e=>by cases e)
 have hz1 : W.heap.size < w1.heap.size:=B1.lt
 have hzW:=hW.size
 have hE1 : Env w1:=hE.below (hW.trans (hb1.mono hzW))
 clear hb hA0 B0 a2 hS1 hS2
 go_wp2_with fail
 refine (wpIn_wide (n:=n)).1 ?_
 refine rngH rfl (by omega) (gf:=148) (lb:=#[.pointer (some ⟨bu,0,none⟩)]) rfl trivial (enters_of Tryz.func148 (by kernel_rfl) rfl)
  (kEach_seq (n - 1) (by omega) w1 s bu X (fun b hb=>by have:=(hX b hb).2;omega) hE1 hs hu) (fun h k=>h.trans k) (fun W l o o' _ h hc _=>KT.put W l o o' h hc) (Below.refl _ _) (fun _=>rfl) (fun W=>KT.refl _ _ W)
  (fun pre V=>J (pre.filter (isWX s)) V∧Blk V W.heap.size 116 #[.func (.yield l) #[] #[]]∧Blk V bs 9 #[.string s]∧Below w.heap.size w V)
  (fun c pre V=>c = .ret∧Jx (pre.filter (isWX s)) V)
  (OwnFrom.and (fun pre X Y row hs hg hr=>own_later hJ (by omega) (pre.filter (isWX s)) X Y row hs hg hr) (OwnFrom.and (Go.Own.from (fun s A B row hs hg hr=>hs.kept hg hr) _) (OwnFrom.and (Go.Own.from (fun s A B row hs hg hr=>hs.kept hg hr) _) (ownFrom_below (Nat.le_refl _) (by omega)))))
  (fun c s' X Y row hs hg hr=>⟨hs.1,own_later hJx (by omega) (s'.filter (isWX s)) X Y row hs.2 hg hr⟩) ⟨hJ1,B1,hS3,hW.trans (hb1.mono hzW)⟩
  (fun T x=>((((T.setIfInBounds 7 (.int .i64 ((clP s x).1 : Nat))).setIfInBounds 8 (.int .i64 ((clP s x).2 : Nat))).setIfInBounds 3 (.int .i64 ((clP s x).1 : Nat))).setIfInBounds 4 (.int .i64 ((clP s x).2 : Nat)))) ?assign ?body ?done ?stop
 case assign =>
  intro l2 x V K hK
  simp only [zD,zF,zE] at hK
  simp only [encCl,encP2]
  gi_wp2
  exact hK
 case body =>
  rintro l2 pre x V hl ⟨r,hr⟩ ⟨hj,B,hS,hbV⟩ hlen
  have b0:=B.cell 0
  simp only [zG,zH] at b0
  have b1:=hS.cell 0
  simp only [zG,zH] at b1
  have hmx : Tryz.prog.follows .mixedOrders = true:=by kernel_rfl
  have hcx:=clP_le s x
  have hfl : (pre.filter (isWX s)).length < (piecesF (wBounds gW s)).length:=Nat.lt_of_le_of_lt (List.length_filter_le _ _) hlen
  have hfs : ∀ q,isWX s x = q→(pre++[x]).filter (isWX s) = if q then pre.filter (isWX s)++[x] else pre.filter (isWX s):=fun q hq=>by
   subst hq
   rw [List.filter_append,List.filter_cons,List.filter_nil]
   split <;> simp
  have hYV:=fun V2 (hb2 : Below V.heap.size V V2)=>YieldAt.mono (R':=fun e W'=>∃ b : Bool,e = .returned (.bool b)∧(b = true→J (pre.filter (isWX s)++[x]) W'∧KpB w.heap.size X V2 W'∧KeepsFrom W.heap.size V2 W')∧(b = false→Jx (pre.filter (isWX s)++[x]) W'∧KeepsFrom W.heap.size V2 W'))
   (hY (pre.filter (isWX s)) x V2 (hJ _ V V2 none hj (grown_of_below hb2) (fun r e=>by cases e)) hfl) (by
    rintro e W' (⟨h1,h2,h3,h4⟩ | ⟨h1,h2,h3⟩)
    ·exact ⟨true,h1,fun _=>⟨h2,h3,h4⟩,fun h=>absurd h (by decide)⟩
    ·exact ⟨false,h1,fun h=>absurd h (by decide),fun _=>⟨h2,h3⟩⟩)
  obtain ⟨q,Hq⟩ : ∃ q,Hid (isWX s x = q):=⟨_,Lib.hid rfl⟩
  have hfq:=hfs q Hq.out
  have hqq : isWP (s.extract (clP s x).1 (clP s x).2) = q:=Hq.out
  unfold encWd at hYV
  have hJf : ∀ V2,(q = false→J (pre.filter (isWX s)) V2→J ((pre++[x]).filter (isWX s)) V2):=fun V2 hq h=>by rw [hfq,hq];exact h
  have hJt : ∀ V2,(q = true→J (pre.filter (isWX s)++[x]) V2→J ((pre++[x]).filter (isWX s)) V2):=fun V2 hq h=>by rw [hfq,hq];exact h
  have hJxt : ∀ V2,(q = true→Jx (pre.filter (isWX s)++[x]) V2→Jx ((pre++[x]).filter (isWX s)) V2):=fun V2 hq h=>by rw [hfq,hq];exact h
  clear hfs hfq Hq
  obtain ⟨⟨a,b⟩,hab⟩ : ∃ z,clP s x = z:=⟨_,rfl⟩
  rw [hab] at hcx hqq hYV ⊢
  simp only at hcx hqq hYV ⊢
  simp only [zD,zF,zE]
  have HW2:=Lib.hid (fun V2 h=>HW.out (s.extract a b) V2 h (by rw [ByteArray.size_extract];omega))
  rw [hqq] at HW2
  have ha0 : (0 : Int)≤(a : Int):=by omega
  have ha1 : (a : Int)≤(b : Int):=by omega
  have ha2 : (b : Int)≤(s.size : Int):=by omega
  clear hqq
  cases q with
  | false =>
   gi_wp2_with fail
   refine wpIn_region_wide (by kernel_rfl) (by kernel_rfl) ?_
   refine wpAnyIn_take (i:=1) (v:=?_) rfl rfl (by kernel_rfl) (by kernel_rfl) (by kernel_rfl) (fun _ _ _ h=>h) ⟨Or.inl ⟨by rfl,?_⟩,fun _=>rfl⟩ ?_;rotate_left;focus (intro w;go_simp;try with_reducible rfl)
   (try simp only [Act.put,zA,zB,zC,zD,zE,zF])
   refine wpAnyIn_take (i:=2) (v:=?_) rfl rfl (by kernel_rfl) (by kernel_rfl) (by kernel_rfl) (fun _ _ _ h=>h) ⟨Or.inl ⟨by rfl,?_⟩,fun _=>rfl⟩ ?_;rotate_left;focus (intro w;go_simp;try with_reducible rfl)
   (try simp only [Act.put,zA,zB,zC,zD,zE,zF])
   refine wpAnyIn_all (rs:=[0]) (by kernel_rfl) (by simp) (AllReadyIn.cons rfl (fun K hK=>?_) AllReadyIn.nil)
   go_simp
   refine hK _ _ ?_
   clear hK K
   (try simp only [Act.put,zA,zB,zC,zD,zE,zF])
   refine wpAnyIn_take (i:=3) (v:=?_) rfl rfl (by kernel_rfl) (by kernel_rfl) (by kernel_rfl) (fun _ _ _ h=>h) ⟨Or.inl ⟨by rfl,?_⟩,fun _=>rfl⟩ ?_;rotate_left;focus (intro w;go_simp;try with_reducible rfl)
   (try simp only [Act.put,zA,zB,zC,zD,zE,zF])
   refine wpAnyIn_all (rs:=[4]) (by kernel_rfl) (by simp) (AllReadyIn.cons rfl (fun K hK=>?_) AllReadyIn.nil)
   (try go_simp)
   refine ⟨trivial,fun h=>(by cases h),?_⟩
   gi_at_call 91
   refine (callsIn_wide.2 (HW2.out _ (hE.below hbV.drew))).mono ?_
   rintro e V2 ⟨rfl,hb2⟩
   have hbd:=below_two (Below.refl V.heap.size V).drew hb2
   (try go_simp)
   refine hK _ _ ?_
   clear hK K
   (try simp only [Act.put,zA,zB,zC,zD,zE,zF])
   refine wpAnyIn_take (i:=5) (v:=?_) rfl rfl (by kernel_rfl) (by kernel_rfl) (by kernel_rfl) (fun _ _ _ h=>h) ⟨Or.inl ⟨by rfl,?_⟩,fun _=>rfl⟩ ?_;rotate_left;focus (intro w;go_simp;try with_reducible rfl)
   (try simp only [Act.put,zA,zB,zC,zD,zE,zF])
   refine wpAnyIn_take (i:=6) (v:=undef) rfl rfl (by kernel_rfl) (by kernel_rfl) (by kernel_rfl) (fun _ _ _ h=>h) ⟨Or.inr ⟨by rfl,rfl⟩,fun _=>rfl⟩ ?_
   (try simp only [Act.put,zA,zB,zC,zD,zE,zF])
   refine wpAnyIn_take (i:=7) (v:=undef) rfl rfl (by kernel_rfl) (by kernel_rfl) (by kernel_rfl) (fun _ _ _ h=>h) ⟨Or.inr ⟨by rfl,rfl⟩,fun _=>rfl⟩ ?_
   (try simp only [Act.put,zA,zB,zC,zD,zE,zF])
   refine wpAnyIn_take (i:=8) (v:=undef) rfl rfl (by kernel_rfl) (by kernel_rfl) (by kernel_rfl) (fun _ _ _ h=>h) ⟨Or.inr ⟨by rfl,rfl⟩,fun _=>rfl⟩ ?_
   (try simp only [Act.put,zA,zB,zC,zD,zE,zF])
   refine wpAnyIn_take (i:=9) (v:=undef) rfl rfl (by kernel_rfl) (by kernel_rfl) (by kernel_rfl) (fun _ _ _ h=>h) ⟨Or.inr ⟨by rfl,rfl⟩,fun _=>rfl⟩ ?_
   (try simp only [Act.put,zA,zB,zC,zD,zE,zF])
   refine wpAnyIn_take (i:=10) (v:=undef) rfl rfl (by kernel_rfl) (by kernel_rfl) (by kernel_rfl) (fun _ _ _ h=>h) ⟨Or.inr ⟨by rfl,rfl⟩,fun _=>rfl⟩ ?_
   (try simp only [Act.put,zA,zB,zC,zD,zE,zF])
   refine wpAnyIn_take (i:=11) (v:=undef) rfl rfl (by kernel_rfl) (by kernel_rfl) (by kernel_rfl) (fun _ _ _ h=>h) ⟨Or.inr ⟨by rfl,rfl⟩,fun _=>rfl⟩ ?_
   (try simp only [Act.put,zA,zB,zC,zD,zE,zF])
   refine wpAnyIn_take (i:=12) (v:=undef) rfl rfl (by kernel_rfl) (by kernel_rfl) (by kernel_rfl) (fun _ _ _ h=>h) ⟨Or.inr ⟨by rfl,rfl⟩,fun _=>rfl⟩ ?_
   (try simp only [Act.put,zA,zB,zC,zD,zE,zF])
   refine wpAnyIn_take (i:=13) (v:=undef) rfl rfl (by kernel_rfl) (by kernel_rfl) (by kernel_rfl) (fun _ _ _ h=>h) ⟨Or.inr ⟨by rfl,rfl⟩,fun _=>rfl⟩ ?_
   (try simp only [Act.put,zA,zB,zC,zD,zE,zF])
   refine wpAnyIn_take (i:=14) (v:=?_) rfl rfl (by kernel_rfl) (by kernel_rfl) (by kernel_rfl) (fun _ _ _ h=>h) ⟨Or.inl ⟨by rfl,?_⟩,fun _=>rfl⟩ ?_;rotate_left;focus (intro w;go_simp;try with_reducible rfl)
   (try simp only [Act.put,zA,zB,zC,zD,zE,zF])
   refine wpAnyIn_done (by kernel_rfl) ?_ _
   gi_wp2
   exact ⟨keepsFrom_below hbd,KT.below hbd,hJf _ (by first | rfl | trivial) (hJ _ V _ none hj (grown_of_below hbd) (fun r e=>by cases e)),B.below hbd,hS.below hbd,hbV.trans (hbd.mono hbV.size)⟩
  | true =>
   gi_wp2_with fail
   refine wpIn_region_wide (by kernel_rfl) (by kernel_rfl) ?_
   refine wpAnyIn_take (i:=1) (v:=?_) rfl rfl (by kernel_rfl) (by kernel_rfl) (by kernel_rfl) (fun _ _ _ h=>h) ⟨Or.inl ⟨by rfl,?_⟩,fun _=>rfl⟩ ?_;rotate_left;focus (intro w;go_simp;try with_reducible rfl)
   (try simp only [Act.put,zA,zB,zC,zD,zE,zF])
   refine wpAnyIn_take (i:=2) (v:=?_) rfl rfl (by kernel_rfl) (by kernel_rfl) (by kernel_rfl) (fun _ _ _ h=>h) ⟨Or.inl ⟨by rfl,?_⟩,fun _=>rfl⟩ ?_;rotate_left;focus (intro w;go_simp;try with_reducible rfl)
   (try simp only [Act.put,zA,zB,zC,zD,zE,zF])
   refine wpAnyIn_all (rs:=[0]) (by kernel_rfl) (by simp) (AllReadyIn.cons rfl (fun K hK=>?_) AllReadyIn.nil)
   go_simp
   refine hK _ _ ?_
   clear hK K
   (try simp only [Act.put,zA,zB,zC,zD,zE,zF])
   refine wpAnyIn_take (i:=3) (v:=?_) rfl rfl (by kernel_rfl) (by kernel_rfl) (by kernel_rfl) (fun _ _ _ h=>h) ⟨Or.inl ⟨by rfl,?_⟩,fun _=>rfl⟩ ?_;rotate_left;focus (intro w;go_simp;try with_reducible rfl)
   (try simp only [Act.put,zA,zB,zC,zD,zE,zF])
   refine wpAnyIn_all (rs:=[4]) (by kernel_rfl) (by simp) (AllReadyIn.cons rfl (fun K hK=>?_) AllReadyIn.nil)
   (try go_simp)
   refine ⟨trivial,fun h=>(by cases h),?_⟩
   gi_at_call 91
   refine (callsIn_wide.2 (HW2.out _ (hE.below hbV.drew))).mono ?_
   rintro e V2 ⟨rfl,hb2⟩
   have hbd:=below_two (Below.refl V.heap.size V).drew hb2
   (try go_simp)
   have b02:=cell_keep b0 hbd
   have b12:=cell_keep b1 hbd
   obtain ⟨fn,tmps,assign,body,hy,hR⟩:=hYV V2 hbd
   refine hK _ _ ?_
   clear hK K
   (try simp only [Act.put,zA,zB,zC,zD,zE,zF])
   refine wpAnyIn_take (i:=5) (v:=?_) rfl rfl (by kernel_rfl) (by kernel_rfl) (by kernel_rfl) (fun _ _ _ h=>h) ⟨Or.inl ⟨by rfl,?_⟩,fun _=>rfl⟩ ?_;rotate_left;focus (intro w;go_simp;try with_reducible rfl)
   (try simp only [Act.put,zA,zB,zC,zD,zE,zF])
   refine wpAnyIn_take (i:=7) (v:=?_) rfl rfl (by kernel_rfl) (by kernel_rfl) (by kernel_rfl) (fun _ _ _ h=>h) ⟨Or.inl ⟨by rfl,?_⟩,fun _=>rfl⟩ ?_;rotate_left;focus (intro w;go_simp;try with_reducible rfl)
   (try simp only [Act.put,zA,zB,zC,zD,zE,zF])
   refine wpAnyIn_take (i:=9) (v:=?_) rfl rfl (by kernel_rfl) (by kernel_rfl) (by kernel_rfl) (fun _ _ _ h=>h) ⟨Or.inl ⟨by rfl,?_⟩,fun _=>rfl⟩ ?_;rotate_left;focus (intro w;go_simp;try with_reducible rfl)
   (try simp only [Act.put,zA,zB,zC,zD,zE,zF])
   refine wpAnyIn_take (i:=10) (v:=?_) rfl rfl (by kernel_rfl) (by kernel_rfl) (by kernel_rfl) (fun _ _ _ h=>h) ⟨Or.inl ⟨by rfl,?_⟩,fun _=>rfl⟩ ?_;rotate_left;focus (intro w;go_simp;try with_reducible rfl)
   (try simp only [Act.put,zA,zB,zC,zD,zE,zF])
   refine wpAnyIn_all (rs:=[6,8]) (by kernel_rfl) (by simp) (AllReadyIn.cons rfl (fun K hK=>?_) (AllReadyIn.cons rfl (fun K hK=>?_) AllReadyIn.nil))
   ·go_simp
    refine hK _ _ ?_
    clear hK K
    (try simp only [Act.put,zA,zB,zC,zD,zE,zF])
    refine wpAnyIn_all (rs:=[8]) (by kernel_rfl) (by simp) (AllReadyIn.cons rfl (fun K hK=>?_) AllReadyIn.nil)
    go_simp
    refine hK _ _ ?_
    clear hK K
    (try simp only [Act.put,zA,zB,zC,zD,zE,zF])
    refine wpAnyIn_take (i:=11) (v:=?_) rfl rfl (by kernel_rfl) (by kernel_rfl) (by kernel_rfl) (fun _ _ _ h=>h) ⟨Or.inl ⟨by rfl,?_⟩,fun _=>rfl⟩ ?_;rotate_left;focus (intro w;go_simp;try with_reducible rfl)
    (try simp only [Act.put,zA,zB,zC,zD,zE,zF])
    refine wpAnyIn_all (rs:=[12]) (by kernel_rfl) (by simp) (AllReadyIn.cons rfl (fun K hK=>?_) AllReadyIn.nil)
    go_simp
    first | refine ⟨fun h=>(by cases h),?_⟩ | refine ⟨fun _ h=>(by cases h),fun h=>(by cases h),?_⟩ | skip
    refine (round_deep hR).mono ?_
    rintro e W4 ⟨z,rfl,hbt,hbf⟩
    (try go_simp)
    refine hK _ _ ?_
    clear hK K
    (try simp only [Act.put,zA,zB,zC,zD,zE,zF])
    refine wpAnyIn_take (i:=13) (v:=?_) rfl rfl (by kernel_rfl) (by kernel_rfl) (by kernel_rfl) (fun _ _ _ h=>h) ⟨Or.inl ⟨by rfl,?_⟩,fun _=>rfl⟩ ?_;rotate_left;focus (intro w;go_simp;try with_reducible rfl)
    (try simp only [Act.put,zA,zB,zC,zD,zE,zF])
    refine wpAnyIn_take (i:=14) (v:=?_) rfl rfl (by kernel_rfl) (by kernel_rfl) (by kernel_rfl) (fun _ _ _ h=>h) ⟨Or.inl ⟨by rfl,?_⟩,fun _=>rfl⟩ ?_;rotate_left;focus (intro w;go_simp;try with_reducible rfl)
    (try simp only [Act.put,zA,zB,zC,zD,zE,zF])
    refine wpAnyIn_done (by kernel_rfl) ?_ _
    cases z with
    | true =>
     obtain ⟨hj4,hk4,hf4⟩:=hbt rfl
     gi_wp2
     exact ⟨(keepsFrom_below hbd).trans (keeps_later hf4 (by omega)),(KT.below hbd).trans (KT.of_kc hk4.2),hJt _ (by first | rfl | trivial) hj4,hk4.2.blk (B.below hbd) (Nat.zero_le _) (fun h=>by have:=(hX _ h).2;omega),hk4.2.blk (hS.below hbd) (Nat.zero_le _) hXb,(hbV.trans (hbd.mono hbV.size)).trans hk4.1⟩
    | false =>
     obtain ⟨hj4,hf4⟩:=hbf rfl
     gi_wp2
     exact ⟨(keepsFrom_below hbd).trans (keeps_later hf4 (by omega)),rfl,hJxt _ (by first | rfl | trivial) hj4⟩
   ·go_simp
    refine hK _ _ ?_
    clear hK K
    (try simp only [Act.put,zA,zB,zC,zD,zE,zF])
    refine wpAnyIn_take (i:=11) (v:=?_) rfl rfl (by kernel_rfl) (by kernel_rfl) (by kernel_rfl) (fun _ _ _ h=>h) ⟨Or.inl ⟨by rfl,?_⟩,fun _=>rfl⟩ ?_;rotate_left;focus (intro w;go_simp;try with_reducible rfl)
    (try simp only [Act.put,zA,zB,zC,zD,zE,zF])
    refine wpAnyIn_all (rs:=[6]) (by kernel_rfl) (by simp) (AllReadyIn.cons rfl (fun K hK=>?_) AllReadyIn.nil)
    go_simp
    refine hK _ _ ?_
    clear hK K
    (try simp only [Act.put,zA,zB,zC,zD,zE,zF])
    refine wpAnyIn_all (rs:=[12]) (by kernel_rfl) (by simp) (AllReadyIn.cons rfl (fun K hK=>?_) AllReadyIn.nil)
    go_simp
    first | refine ⟨fun h=>(by cases h),?_⟩ | refine ⟨fun _ h=>(by cases h),fun h=>(by cases h),?_⟩ | skip
    refine (round_deep hR).mono ?_
    rintro e W4 ⟨z,rfl,hbt,hbf⟩
    (try go_simp)
    refine hK _ _ ?_
    clear hK K
    (try simp only [Act.put,zA,zB,zC,zD,zE,zF])
    refine wpAnyIn_take (i:=13) (v:=?_) rfl rfl (by kernel_rfl) (by kernel_rfl) (by kernel_rfl) (fun _ _ _ h=>h) ⟨Or.inl ⟨by rfl,?_⟩,fun _=>rfl⟩ ?_;rotate_left;focus (intro w;go_simp;try with_reducible rfl)
    (try simp only [Act.put,zA,zB,zC,zD,zE,zF])
    refine wpAnyIn_take (i:=14) (v:=?_) rfl rfl (by kernel_rfl) (by kernel_rfl) (by kernel_rfl) (fun _ _ _ h=>h) ⟨Or.inl ⟨by rfl,?_⟩,fun _=>rfl⟩ ?_;rotate_left;focus (intro w;go_simp;try with_reducible rfl)
    (try simp only [Act.put,zA,zB,zC,zD,zE,zF])
    refine wpAnyIn_done (by kernel_rfl) ?_ _
    cases z with
    | true =>
     obtain ⟨hj4,hk4,hf4⟩:=hbt rfl
     gi_wp2
     exact ⟨(keepsFrom_below hbd).trans (keeps_later hf4 (by omega)),(KT.below hbd).trans (KT.of_kc hk4.2),hJt _ (by first | rfl | trivial) hj4,hk4.2.blk (B.below hbd) (Nat.zero_le _) (fun h=>by have:=(hX _ h).2;omega),hk4.2.blk (hS.below hbd) (Nat.zero_le _) hXb,(hbV.trans (hbd.mono hbV.size)).trans hk4.1⟩
    | false =>
     obtain ⟨hj4,hf4⟩:=hbf rfl
     gi_wp2
     exact ⟨(keepsFrom_below hbd).trans (keeps_later hf4 (by omega)),rfl,hJxt _ (by first | rfl | trivial) hj4⟩
 case done =>
  rintro D ys V hD hys ⟨hj,B,_,hbV⟩ hK
  subst hys
  gi_wp2
  refine ⟨by simp,.inl ⟨_,_,rfl,run_takeDeferred hK,?_⟩⟩
  exact ⟨_,results_none rfl _ _ _,⟨_,rfl⟩,.inl ⟨_,rfl,hJ.putObj _ hj (by omega) hK rfl⟩⟩
 case stop =>
  rintro D c pre V hD hp ⟨rfl,hjx⟩ hK
  gi_wp2
  refine ⟨by simp,.inl ⟨_,_,rfl,run_takeDeferred hK,?_⟩⟩
  exact ⟨_,results_none rfl _ _ _,⟨_,rfl⟩,.inr ⟨_,hp.filter _,hJx.putObj _ hjx (by omega) hK rfl⟩⟩
end
end Go.Proofs.YtglmcknlnoknoaaGreatDoor
