/- -/
import Derived.Test.YtlfpdpbbkjnapaaGreatDoorYPlacesTells3a
import Derived.Test.YtlfpdpbbkjnapaaGreatDoorYPlacesTellsPlcL
import Derived.Test.YtlfpdpbbkjnapaaGreatDoorYPlacesTells0b
namespace Go.Proofs.YtlfpdpbbkjnapaaGreatDoor
set_option maxRecDepth 100000
set_option maxHeartbeats 40000000
section
open Go.RowKit Go.Shelf
attribute [local go_sem] Oper.semAt_some
theorem qNew_any (s : ByteArray) (w : World) (hE : Env w) (hs : s.size≤100000) : Calls Tryz.prog 14 #[.string s] w fun e w'=>∃ p,e = .returned (.pointer (some ⟨p,0,none⟩))∧IdxAt w' p s∧Below w.heap.size w w':=by
 have hmm:=@run_makeMap Tryz.prog
 obtain ⟨i0,hi0,hz0,hz1,hz2⟩:=info_parts infoInt
 have hrl:=runesP_len s
 have HM : Below w.heap.size w (w.alloc (.map #[] 0)):=(Below.refl _ _).alloc (Nat.le_refl _) _
 refine (callsIn_wide (n:=6)).1 ?_
 refine callsIn_of_wp_marks Tryz.func14 rfl trivial ?_ rfl
 simp only [Tryz.ntmps14,List.size_toArray,List.length_cons,List.length_nil,Nat.reduceAdd,Nat.reduceSub,Array.replicate_succ,Array.replicate_zero,List.push_toArray,List.append_toArray,List.nil_append,List.cons_append]
 refine wpIn_wide.2 ?_
 go_wp2_with fail
 have hbm0 : (w.alloc (.map #[] 0)).heap[w.heap.size]? = some (.map #[] 0):=(MapKept.heap_alloc w _).1
 have hzm : (w.alloc (.map #[] 0)).heap.size = w.heap.size+1:=World.size_alloc _ _
 generalize (w.alloc (.map #[] 0)) = w0 at HM hbm0 hzm ⊢
 refine (qlines_any s w0 (hE.below HM) hs).mono ?_
 rintro e w1 ⟨A,c,rfl,hLn,hb1⟩
 have hB1:=below_two HM hb1
 have hbm1 : w1.heap[w.heap.size]? = some (.map #[] 0):=(hb1.block _ (by omega)).trans hbm0
 have hz1':=hb1.size
 clear HM hbm0 hb1
 go_wp2_with fail
 have hBp:=(Blk.new w1 93 #[.string s,.map (some w.heap.size),.slice A (lnP s).length c]).alloc (.cells #[.pointer (some ⟨w1.heap.size,0,none⟩)] 23)
 have hBx:=Blk.new (w1.alloc (.cells #[.string s,.map (some w.heap.size),.slice A (lnP s).length c] 93)) 23 #[.pointer (some ⟨w1.heap.size,0,none⟩)]
 have hzx : (w1.alloc (.cells #[.string s,.map (some w.heap.size),.slice A (lnP s).length c] 93)).heap.size = w1.heap.size+1:=World.size_alloc _ _
 rw [hzx] at hBx
 have hb3 : Below w1.heap.size w1 ((w1.alloc (.cells #[.string s,.map (some w.heap.size),.slice A (lnP s).length c] 93)).alloc (.cells #[.pointer (some ⟨w1.heap.size,0,none⟩)] 23)):=((Below.refl _ _).alloc (Nat.le_refl _) _).alloc (by omega) _
 clear hzx
 generalize ((w1.alloc (.cells #[.string s,.map (some w.heap.size),.slice A (lnP s).length c] 93)).alloc (.cells #[.pointer (some ⟨w1.heap.size,0,none⟩)] 23)) = w3 at hBp hBx hb3 ⊢
 refine (uEach_any s w3).mono ?_
 rintro e W2 ⟨bs,rfl,hc,hb2⟩
 have hB2:=below_two (below_two hB1 hb3) hb2
 have hbm2 : W2.heap[w.heap.size]? = some (.map #[] 0):=((below_two hb3 hb2).block _ (by omega)).trans hbm1
 have hLn2:=hLn.below (below_two hb3 hb2)
 have hBp2:=hBp.below hb2
 have hBx2:=hBx.below hb2
 have HBp:=Lib.hid hBp2
 have HLn:=Lib.hid hLn2
 have HM2:=Lib.hid hbm2
 have hN0:=nw_first hbm2
 obtain ⟨bm,hbm⟩ : ∃ b,b = w.heap.size:=⟨_,rfl⟩
 obtain ⟨p,hp⟩ : ∃ b,b = w1.heap.size:=⟨_,rfl⟩
 obtain ⟨bx,hbxe⟩ : ∃ b,b = w1.heap.size+1:=⟨_,rfl⟩
 have hbml : bm < W2.heap.size:=by rw [hbm];exact (Array.getElem?_eq_some_iff.1 hbm2).1
 have hpl : p < W2.heap.size:=by rw [hp];exact hBp2.lt
 have hbxl : bx < W2.heap.size:=by rw [hbxe];exact hBx2.lt
 have hbx : bx ≠ bm:=by omega
 have hpx : p ≠ bm:=by omega
 have cx2:=hBx2.cell 0
 have cp2:=hBp2.cell 1
 simp only [zG,zH,zI] at cx2 cp2
 rw [← hbxe,← hp] at cx2
 rw [← hp,← hbm] at cp2
 rw [← hbm] at hN0
 rw [← hp,← hbm] at HBp
 clear hBp hBx hBp2 hBx2 hLn hLn2 hb3 hb2 hB1 hbm1 hbm2 hz1' hzm
 go_wp2_with fail
 subst hbxe hp hbm
 refine (wpIn_wide (n:=6)).1 ?_
 refine rngH rfl (by decide) (gf:=83) (lb:=#[.pointer (some ⟨bs,0,none⟩)]) rfl trivial (enters_of Tryz.func83 (by kernel_rfl) rfl)
  (uEach_stopsI 5 (by decide) W2 s bs hc) (fun h k=>h.trans k) (fun W l o o' _ h1 _ h3=>KI.put W l o o' h1 h3) (Below.refl _ _) (fun _=>rfl) (fun _=>KI.refl _)
  (fun (pre : List (Nat × Nat × Nat)) W=>Nw W2 w.heap.size (3*pre.length) (gU (pre.map (clR s))) W) (fun _ _ _=>False) (nw_own (n:=fun (pre : List (Nat × Nat × Nat))=>3*pre.length) (g:=fun pre=>gU (pre.map (clR s))) (Nat.le_refl _) hbml) (fun _ _ _ _ _ hs _ _=>hs)
  (hN0.congr (fun k=>by simp [gU]))
  (fun T x=>(((T.setIfInBounds 15 (.int .i64 (min x.2.1 s.size : Nat))).setIfInBounds 16 (.int .i32 (x.1 : Nat))).setIfInBounds 4 (.int .i64 (min x.2.1 s.size : Nat))).setIfInBounds 5 (.int .i32 (x.1 : Nat))) ?assign ?body ?done ?stop
 case assign =>
  intro l2 x V K hK
  simp only [zD,zF,zE] at hK
  simp only [encUc]
  gi_wp2
  exact hK
 case stop =>
  rintro D cc pre W _ hp h _
  exact absurd h id
 case body =>
  rintro l2 pre ⟨R,pp,qq⟩ W hl2 _ hN hlen
  simp only [zD,zF,zE]
  have HE : Hid (∀ a k,a = min pp s.size→gU ((pre++[(R,pp,qq)]).map (clR s)) k = gU (pre.map (clR s)++[(R,a,qq)]) k):=Lib.hid (fun a k e=>by subst e;rw [List.map_append];rfl)
  obtain ⟨a,ha⟩ : ∃ a,a = min pp s.size:=⟨_,rfl⟩
  have hale : a≤100000:=by omega
  rw [← ha]
  replace HE:=Lib.hid (fun k=>HE.out a k ha)
  clear ha
  have HN:=Lib.hid hN
  have HL : Hid (∀ k,∀ x ∈ gU (pre.map (clR s)) k,x≤4294967296):=Lib.hid (fun k x hx=>by have:=gU_le (clR_le s pre) k x hx;omega)
  have HL2 : Hid _:=Lib.hid (addAt_le HL.out 1 (q:=a) (by omega))
  have HL3 : Hid _:=Lib.hid (addAt_le HL2.out 0 (q:=a) (by omega))
  clear hN
  gi_wp2_with fail
  obtain ⟨Aa,ca,hlk,hO,hln,hal,hst,hback⟩:=HN.out.app (by omega) 1 (by decide) (fun x hx=>HL.out 1 x hx)
  have Hback:=Lib.hid hback
  obtain ⟨la,hla⟩ : ∃ z,z = (gU (pre.map (clR s))) 1:=⟨_,rfl⟩
  rw [← hla] at hlk hO hln Hback
  have cx:=HN.out.cell cx2 hbx
  have cp:=HN.out.cell cp2 hpx
  have hszV:=HN.out.2.size
  have HLa:=Lib.hid hla
  clear hback hla
  refine wpIn_region_last (S:=fun U=>U.cell? ⟨w1.heap.size+1,0,none⟩ = some (.pointer (some ⟨w1.heap.size,0,none⟩))∧U.cell? ⟨w1.heap.size,1,none⟩ = some (.map (some w.heap.size))∧U.heap[w.heap.size]? = W.heap[w.heap.size]?) 12 rfl (by kernel_rfl) (by kernel_rfl) (by kernel_rfl) (by kernel_rfl) (fun h=>by obtain ⟨_,_,h⟩:=h;exact h) ⟨cx,cp,rfl⟩ (fun hHeld=>?_)
  simp only [List.dropLast_cons_cons,List.dropLast_singleton]
  refine tkH (i:=0) (v:=?_) rfl ?_ ?_;rotate_left;focus ((intro w hSw;(try dsimp only at hSw);go_simp);try with_reducible rfl)
  (try simp only [Act.put,zA,zC,zD,zE,zF])
  refine tkH (i:=1) (v:=?_) rfl ?_ ?_;rotate_left;focus ((intro w hSw;(try dsimp only at hSw);go_simp);try with_reducible rfl)
  (try simp only [Act.put,zA,zB,zC,zD,zE,zF])
  refine tkH (i:=2) (v:=?_) rfl ?_ ?_;rotate_left;focus ((intro w hSw;(try dsimp only at hSw);go_simp);try with_reducible rfl)
  (try simp only [Act.put,zA,zB,zC,zD,zE,zF])
  refine tkH (i:=3) (v:=?_) rfl ?_ ?_;rotate_left;focus ((intro w hSw;(try dsimp only at hSw);go_simp);try with_reducible rfl)
  (try simp only [Act.put,zA,zB,zC,zD,zE,zF])
  refine tkH (i:=4) (v:=?_) rfl ?_ ?_;rotate_left;focus ((intro w hSw;(try dsimp only at hSw);go_simp);try with_reducible rfl)
  (try simp only [Act.put,zA,zB,zC,zD,zE,zF])
  refine tkH (i:=5) (v:=?_) rfl ?_ ?_;rotate_left;focus ((intro w hSw;(try dsimp only at hSw);go_simp);try with_reducible rfl)
  (try simp only [Act.put,zA,zB,zC,zD,zE,zF])
  refine tkH (i:=6) (v:=?_) rfl ?_ ?_;rotate_left;focus ((intro w hSw;(try dsimp only at hSw);go_simp);try with_reducible rfl)
  (try simp only [Act.put,zA,zB,zC,zD,zE,zF])
  refine tkH (i:=7) (v:=?_) rfl ?_ ?_;rotate_left;focus ((intro w hSw;(try dsimp only at hSw);go_simp);try with_reducible rfl)
  (try simp only [Act.put,zA,zB,zC,zD,zE,zF])
  refine tkH (i:=8) (v:=?_) rfl ?_ ?_;rotate_left;focus ((intro w hSw;(try dsimp only at hSw);have hlk2:=hlk w hSw.2.2;go_simp);try with_reducible rfl)
  (try simp only [Act.put,zA,zB,zC,zD,zE,zF])
  refine tkH (i:=9) (v:=?_) rfl ?_ ?_;rotate_left;focus ((intro w hSw;(try dsimp only at hSw);go_simp);try with_reducible rfl)
  (try simp only [Act.put,zA,zB,zC,zD,zE,zF])
  refine wpAnyH_ready (rs:=[10]) (by kernel_rfl) (by simp) ?_
  refine AllReadyH.cons rfl (fun K hK=>?_) AllReadyH.nil
  go_simp
  refine hK.out _ _ ⟨(World.cell?_of_block (hal _ _ hbxl)).trans cx,(World.cell?_of_block (hal _ _ hpl)).trans cp,hal _ _ hbml⟩ (fun hHeld=>?_)
  clear hK K
  (try simp only [Act.put,zA,zB,zC,zD,zE,zF])
  refine wpAnyH_ready (rs:=[11]) (by kernel_rfl) (by simp) ?_
  refine AllReadyH.cons rfl (fun K hK=>?_) AllReadyH.nil
  refine step_app rfl (.tmp 25) (.tmp 27) _ rfl W2.heap.size 3 i0 _ 1 8 Tryz.underlying65 hi0 hz0 hz1 hz2 rfl (by omega) Aa la.length ca (la.map encN) rfl (hO.drew.alloc _) _ 1 1 [[.int .i64 (a : Nat)]] rfl rfl (Rd.newAt (by simp) (by simp)) (fun y hy=>by rw [List.mem_singleton] at hy;subst hy;exact ⟨rfl,by simp [Value.oneCell']⟩) (by unfold maxLen;omega) (by omega) (by simp;omega) ?_
  intro A3a c3a w7a ho7 hg7 hA7
  obtain ⟨w8a,hrun8,hN8,hk8,hi8⟩:=Hback.out a _ w7a A3a c3a (by omega) hg7 ho7 hA7
  have HN8a:=Lib.hid hN8
  have HK8a:=Lib.hid hk8
  have HI8a:=Lib.hid hi8
  clear hN8 hk8 hi8
  refine hK.out _ _ ⟨(World.cell?_of_block (hst _ _ hg7 _ hbxl)).trans cx,(World.cell?_of_block (hst _ _ hg7 _ hpl)).trans cp,hst _ _ hg7 _ hbml⟩ (fun hHeld=>?_)
  clear hK K
  (try simp only [Act.put,zA,zB,zC,zD,zE,zF])
  refine wpAnyH_done (by kernel_rfl) ?_ _
  refine tailQ_end (wpOp_step (i:=12) rfl (fun K hK=>?_))
  go_simp
  refine hK _ _ ?_
  skip
  clear hK K hlk hO hal hst cx cp Hback ho7 hg7 hA7 hrun8 hHeld hszV hln
  skip
  gi_wp2_with fail
  obtain ⟨Ab,cb,hlk,hO,hln,hal,hst,hback⟩:=HN8a.out.app (by omega) 0 (by decide) (fun x hx=>HL2.out 0 x hx)
  have Hback:=Lib.hid hback
  obtain ⟨lb,hlb⟩ : ∃ z,z = (addAt (gU (pre.map (clR s))) 1 a) 0:=⟨_,rfl⟩
  rw [← hlb] at hlk hO hln Hback
  have cx:=HN8a.out.cell cx2 hbx
  have cp:=HN8a.out.cell cp2 hpx
  have hszV:=HN8a.out.2.size
  have HLb:=Lib.hid hlb
  clear hback hlb
  refine wpIn_region_last (S:=fun U=>U.cell? ⟨w1.heap.size+1,0,none⟩ = some (.pointer (some ⟨w1.heap.size,0,none⟩))∧U.cell? ⟨w1.heap.size,1,none⟩ = some (.map (some w.heap.size))∧U.heap[w.heap.size]? = w8a.heap[w.heap.size]?) 12 rfl (by kernel_rfl) (by kernel_rfl) (by kernel_rfl) (by kernel_rfl) (fun h=>by obtain ⟨_,_,h⟩:=h;exact h) ⟨cx,cp,rfl⟩ (fun hHeld=>?_)
  simp only [List.dropLast_cons_cons,List.dropLast_singleton]
  refine tkH (i:=0) (v:=?_) rfl ?_ ?_;rotate_left;focus ((intro w hSw;(try dsimp only at hSw);go_simp);try with_reducible rfl)
  (try simp only [Act.put,zA,zC,zD,zE,zF])
  refine tkH (i:=1) (v:=?_) rfl ?_ ?_;rotate_left;focus ((intro w hSw;(try dsimp only at hSw);go_simp);try with_reducible rfl)
  (try simp only [Act.put,zA,zB,zC,zD,zE,zF])
  refine tkH (i:=2) (v:=?_) rfl ?_ ?_;rotate_left;focus ((intro w hSw;(try dsimp only at hSw);go_simp);try with_reducible rfl)
  (try simp only [Act.put,zA,zB,zC,zD,zE,zF])
  refine tkH (i:=3) (v:=?_) rfl ?_ ?_;rotate_left;focus ((intro w hSw;(try dsimp only at hSw);go_simp);try with_reducible rfl)
  (try simp only [Act.put,zA,zB,zC,zD,zE,zF])
  refine tkH (i:=4) (v:=?_) rfl ?_ ?_;rotate_left;focus ((intro w hSw;(try dsimp only at hSw);go_simp);try with_reducible rfl)
  (try simp only [Act.put,zA,zB,zC,zD,zE,zF])
  refine tkH (i:=5) (v:=?_) rfl ?_ ?_;rotate_left;focus ((intro w hSw;(try dsimp only at hSw);go_simp);try with_reducible rfl)
  (try simp only [Act.put,zA,zB,zC,zD,zE,zF])
  refine tkH (i:=6) (v:=?_) rfl ?_ ?_;rotate_left;focus ((intro w hSw;(try dsimp only at hSw);go_simp);try with_reducible rfl)
  (try simp only [Act.put,zA,zB,zC,zD,zE,zF])
  refine tkH (i:=7) (v:=?_) rfl ?_ ?_;rotate_left;focus ((intro w hSw;(try dsimp only at hSw);go_simp);try with_reducible rfl)
  (try simp only [Act.put,zA,zB,zC,zD,zE,zF])
  refine tkH (i:=8) (v:=?_) rfl ?_ ?_;rotate_left;focus ((intro w hSw;(try dsimp only at hSw);have hlk2:=hlk w hSw.2.2;go_simp);try with_reducible rfl)
  (try simp only [Act.put,zA,zB,zC,zD,zE,zF])
  refine tkH (i:=9) (v:=?_) rfl ?_ ?_;rotate_left;focus ((intro w hSw;(try dsimp only at hSw);go_simp);try with_reducible rfl)
  (try simp only [Act.put,zA,zB,zC,zD,zE,zF])
  refine wpAnyH_ready (rs:=[10]) (by kernel_rfl) (by simp) ?_
  refine AllReadyH.cons rfl (fun K hK=>?_) AllReadyH.nil
  go_simp
  refine hK.out _ _ ⟨(World.cell?_of_block (hal _ _ hbxl)).trans cx,(World.cell?_of_block (hal _ _ hpl)).trans cp,hal _ _ hbml⟩ (fun hHeld=>?_)
  clear hK K
  (try simp only [Act.put,zA,zB,zC,zD,zE,zF])
  refine wpAnyH_ready (rs:=[11]) (by kernel_rfl) (by simp) ?_
  refine AllReadyH.cons rfl (fun K hK=>?_) AllReadyH.nil
  refine step_app rfl (.tmp 37) (.tmp 39) _ rfl W2.heap.size 3 i0 _ 1 8 Tryz.underlying65 hi0 hz0 hz1 hz2 rfl (by omega) Ab lb.length cb (lb.map encN) rfl (hO.drew.alloc _) _ 1 1 [[.int .i64 (a : Nat)]] rfl rfl (Rd.newAt (by simp) (by simp)) (fun y hy=>by rw [List.mem_singleton] at hy;subst hy;exact ⟨rfl,by simp [Value.oneCell']⟩) (by unfold maxLen;omega) (by omega) (by simp;omega) ?_
  intro A3b c3b w7b ho7 hg7 hA7
  obtain ⟨w8b,hrun8,hN8,hk8,hi8⟩:=Hback.out a _ w7b A3b c3b (by omega) hg7 ho7 hA7
  have HN8b:=Lib.hid hN8
  have HK8b:=Lib.hid hk8
  have HI8b:=Lib.hid hi8
  clear hN8 hk8 hi8
  refine hK.out _ _ ⟨(World.cell?_of_block (hst _ _ hg7 _ hbxl)).trans cx,(World.cell?_of_block (hst _ _ hg7 _ hpl)).trans cp,hst _ _ hg7 _ hbml⟩ (fun hHeld=>?_)
  clear hK K
  (try simp only [Act.put,zA,zB,zC,zD,zE,zF])
  refine wpAnyH_done (by kernel_rfl) ?_ _
  refine tailQ_end (wpOp_step (i:=12) rfl (fun K hK=>?_))
  go_simp
  refine hK _ _ ?_
  skip
  clear hK K hlk hO hal hst cx cp Hback ho7 hg7 hA7 hrun8 hHeld hszV hln
  skip
  by_cases hR : 65535 < R
  ·have HF:=Lib.hid (fun k=>(gU_two (pre:=pre.map (clR s)) (a:=a) (b:=qq) hR k).trans (HE.out k).symm)
   have hRi : (65535 : Int) < (R : Int):=by omega
   have hwr : IntKind.i64.wrap ((a : Int)+1) = (a : Int)+1:=IntWalk.i64_in _ (by omega)
   clear hR
   gi_wp2_with fail
   obtain ⟨Ac,cc,hlk,hO,hln,hal,hst,hback⟩:=HN8b.out.app (by omega) 0 (by decide) (fun x hx=>HL3.out 0 x hx)
   have Hback:=Lib.hid hback
   obtain ⟨lc,hlc⟩ : ∃ z,z = (addAt (addAt (gU (pre.map (clR s))) 1 a) 0 a) 0:=⟨_,rfl⟩
   rw [← hlc] at hlk hO hln Hback
   have cx:=HN8b.out.cell cx2 hbx
   have cp:=HN8b.out.cell cp2 hpx
   have hszV:=HN8b.out.2.size
   have HLc:=Lib.hid hlc
   clear hback hlc
   refine wpIn_region_last (S:=fun U=>U.cell? ⟨w1.heap.size+1,0,none⟩ = some (.pointer (some ⟨w1.heap.size,0,none⟩))∧U.cell? ⟨w1.heap.size,1,none⟩ = some (.map (some w.heap.size))∧U.heap[w.heap.size]? = w8b.heap[w.heap.size]?) 13 rfl (by kernel_rfl) (by kernel_rfl) (by kernel_rfl) (by kernel_rfl) (fun h=>by obtain ⟨_,_,h⟩:=h;exact h) ⟨cx,cp,rfl⟩ (fun hHeld=>?_)
   simp only [List.dropLast_cons_cons,List.dropLast_singleton]
   refine tkH (i:=0) (v:=?_) rfl ?_ ?_;rotate_left;focus ((intro w hSw;(try dsimp only at hSw);go_simp);try with_reducible rfl)
   (try simp only [Act.put,zA,zC,zD,zE,zF])
   refine tkH (i:=1) (v:=?_) rfl ?_ ?_;rotate_left;focus ((intro w hSw;(try dsimp only at hSw);go_simp);try with_reducible rfl)
   (try simp only [Act.put,zA,zB,zC,zD,zE,zF])
   refine tkH (i:=2) (v:=?_) rfl ?_ ?_;rotate_left;focus ((intro w hSw;(try dsimp only at hSw);go_simp);try with_reducible rfl)
   (try simp only [Act.put,zA,zB,zC,zD,zE,zF])
   refine tkH (i:=3) (v:=?_) rfl ?_ ?_;rotate_left;focus ((intro w hSw;(try dsimp only at hSw);go_simp);try with_reducible rfl)
   (try simp only [Act.put,zA,zB,zC,zD,zE,zF])
   refine tkH (i:=4) (v:=?_) rfl ?_ ?_;rotate_left;focus ((intro w hSw;(try dsimp only at hSw);go_simp);try with_reducible rfl)
   (try simp only [Act.put,zA,zB,zC,zD,zE,zF])
   refine tkH (i:=5) (v:=?_) rfl ?_ ?_;rotate_left;focus ((intro w hSw;(try dsimp only at hSw);go_simp);try with_reducible rfl)
   (try simp only [Act.put,zA,zB,zC,zD,zE,zF])
   refine tkH (i:=6) (v:=?_) rfl ?_ ?_;rotate_left;focus ((intro w hSw;(try dsimp only at hSw);go_simp);try with_reducible rfl)
   (try simp only [Act.put,zA,zB,zC,zD,zE,zF])
   refine tkH (i:=7) (v:=?_) rfl ?_ ?_;rotate_left;focus ((intro w hSw;(try dsimp only at hSw);go_simp);try with_reducible rfl)
   (try simp only [Act.put,zA,zB,zC,zD,zE,zF])
   refine tkH (i:=8) (v:=?_) rfl ?_ ?_;rotate_left;focus ((intro w hSw;(try dsimp only at hSw);have hlk2:=hlk w hSw.2.2;go_simp);try with_reducible rfl)
   (try simp only [Act.put,zA,zB,zC,zD,zE,zF])
   refine tkH (i:=9) (v:=?_) rfl ?_ ?_;rotate_left;focus ((intro w hSw;(try dsimp only at hSw);go_simp);try with_reducible rfl)
   (try simp only [Act.put,zA,zB,zC,zD,zE,zF])
   refine tkH (i:=10) (v:=?_) rfl ?_ ?_;rotate_left;focus ((intro w hSw;(try dsimp only at hSw);go_simp);try with_reducible rfl)
   (try simp only [Act.put,zA,zB,zC,zD,zE,zF])
   refine wpAnyH_ready (rs:=[11]) (by kernel_rfl) (by simp) ?_
   refine AllReadyH.cons rfl (fun K hK=>?_) AllReadyH.nil
   go_simp
   refine hK.out _ _ ⟨(World.cell?_of_block (hal _ _ hbxl)).trans cx,(World.cell?_of_block (hal _ _ hpl)).trans cp,hal _ _ hbml⟩ (fun hHeld=>?_)
   clear hK K
   (try simp only [Act.put,zA,zB,zC,zD,zE,zF])
   refine wpAnyH_ready (rs:=[12]) (by kernel_rfl) (by simp) ?_
   refine AllReadyH.cons rfl (fun K hK=>?_) AllReadyH.nil
   refine step_app rfl (.tmp 51) (.tmp 54) _ rfl W2.heap.size 3 i0 _ 1 8 Tryz.underlying65 hi0 hz0 hz1 hz2 rfl (by omega) Ac lc.length cc (lc.map encN) rfl (hO.drew.alloc _) _ 1 1 [[.int .i64 ((a : Int)+1)]] rfl rfl (Rd.newAt (by simp) (by simp)) (fun y hy=>by rw [List.mem_singleton] at hy;subst hy;exact ⟨rfl,by simp [Value.oneCell']⟩) (by unfold maxLen;omega) (by omega) (by simp;omega) ?_
   intro A3c c3c w7c ho7 hg7 hA7
   obtain ⟨w8c,hrun8,hN8,hk8,hi8⟩:=Hback.out (a+1) _ w7c A3c c3c (by omega) hg7 ho7 hA7
   have HN8c:=Lib.hid hN8
   have HK8c:=Lib.hid hk8
   have HI8c:=Lib.hid hi8
   clear hN8 hk8 hi8
   refine hK.out _ _ ⟨(World.cell?_of_block (hst _ _ hg7 _ hbxl)).trans cx,(World.cell?_of_block (hst _ _ hg7 _ hpl)).trans cp,hst _ _ hg7 _ hbml⟩ (fun hHeld=>?_)
   clear hK K
   (try simp only [Act.put,zA,zB,zC,zD,zE,zF])
   refine wpAnyH_done (by kernel_rfl) ?_ _
   refine tailQ_end (wpOp_step (i:=13) rfl (fun K hK=>?_))
   go_simp
   refine hK _ _ ?_
   skip
   clear hK K hlk hO hal hst cx cp Hback ho7 hg7 hA7 hrun8 hHeld hszV hln
   skip
   gi_wp2
   exact ⟨(HK8a.out.trans HK8b.out).trans HK8c.out,(HI8a.out.trans HI8b.out).trans HI8c.out,(HN8c.out.congr HF.out).mono (by simp;omega)⟩
  ·have HF:=Lib.hid (fun k=>(gU_one (pre:=pre.map (clR s)) (a:=a) (b:=qq) hR k).trans (HE.out k).symm)
   have hRi : ¬ (65535 : Int) < (R : Int):=by omega
   clear hR
   gi_wp2
   exact ⟨HK8a.out.trans HK8b.out,HI8a.out.trans HI8b.out,(HN8b.out.congr HF.out).mono (by simp;omega)⟩
 case done =>
  rintro D ys W hD hys hN hK
  have HN : Hid (Nw W2 w.heap.size (3*(runesP s).length) (gB s 0) W):=Lib.hid (by rw [hys,clR_runes] at hN;exact hN.congr (gB_first s))
  clear hN hys
  have hszW:=HN.out.2.size
  obtain ⟨N,HNe⟩ : ∃ N,Hid ((runesP s).length = N):=⟨_,Lib.hid rfl⟩
  rw [HNe.out] at HN hrl
  obtain ⟨Z,HZ⟩ : ∃ Z,Hid (s.size = Z):=⟨_,Lib.hid rfl⟩
  rw [HZ.out] at hrl hs
  have hB2c : Below w.heap.size w W2:=hB2
  have HK:=Lib.hid hK
  clear hK hB2
  go_wp2_with fail
  rw [HZ.out]
  go_loopw [58] (fun u wr=>∃ (i : Nat),u = .int .i64 i∧i≤Z∧Hid (Nw W2 w.heap.size (3*N+i) (gB s i) wr)∧wr.heap[D]? = some (.deferred (some []))) (fun u _=>Z - (intOf u).toNat)
  case atStart=>exact ⟨0,rfl,by omega,HN,HK.out⟩
  case round =>
   obtain ⟨i,rfl,hi,HNi,hKi⟩:=hrel
   have hKd:=Lib.hid hKi
   clear hKi
   by_cases hlt : i < Z
   ·have HG:=Lib.hid (gB_more s i)
    go_wp2_with fail
    obtain ⟨Ad,cd,hlk,hO,hln,hal,hst,hback⟩:=HNi.out.app (by omega) 2 (by decide) (fun x hx=>by have:=gB_le (s:=s) (i:=i) (by rw [HZ.out];omega) 2 x hx;rw [HZ.out] at this;omega)
    have Hback:=Lib.hid hback
    obtain ⟨ld,hld⟩ : ∃ z,z = (gB s i) 2:=⟨_,rfl⟩
    rw [← hld] at hlk hO hln Hback
    have cx:=HNi.out.cell cx2 hbx
    have cp:=HNi.out.cell cp2 hpx
    have hszV:=HNi.out.2.size
    have HLd:=Lib.hid hld
    clear hback hld
    refine wp_region_noPanic ?_
    refine wp_region_last (S:=fun U=>U.cell? ⟨w1.heap.size+1,0,none⟩ = some (.pointer (some ⟨w1.heap.size,0,none⟩))∧U.cell? ⟨w1.heap.size,1,none⟩ = some (.map (some w.heap.size))∧U.heap[w.heap.size]? = wr.heap[w.heap.size]?) 12 rfl (by kernel_rfl) (by kernel_rfl) (by kernel_rfl) ⟨cx,cp,rfl⟩ (fun hHeld=>?_)
    simp only [List.dropLast_cons_cons,List.dropLast_singleton]
    refine tkH (i:=0) (v:=?_) rfl ?_ ?_;rotate_left;focus ((intro w hSw;(try dsimp only at hSw);go_simp);try with_reducible rfl)
    (try simp only [Act.put,zA,zC,zD,zE,zF])
    refine tkH (i:=1) (v:=?_) rfl ?_ ?_;rotate_left;focus ((intro w hSw;(try dsimp only at hSw);go_simp);try with_reducible rfl)
    (try simp only [Act.put,zA,zB,zC,zD,zE,zF])
    refine tkH (i:=2) (v:=?_) rfl ?_ ?_;rotate_left;focus ((intro w hSw;(try dsimp only at hSw);go_simp);try with_reducible rfl)
    (try simp only [Act.put,zA,zB,zC,zD,zE,zF])
    refine tkH (i:=3) (v:=?_) rfl ?_ ?_;rotate_left;focus ((intro w hSw;(try dsimp only at hSw);go_simp);try with_reducible rfl)
    (try simp only [Act.put,zA,zB,zC,zD,zE,zF])
    refine tkH (i:=4) (v:=?_) rfl ?_ ?_;rotate_left;focus ((intro w hSw;(try dsimp only at hSw);go_simp);try with_reducible rfl)
    (try simp only [Act.put,zA,zB,zC,zD,zE,zF])
    refine tkH (i:=5) (v:=?_) rfl ?_ ?_;rotate_left;focus ((intro w hSw;(try dsimp only at hSw);go_simp);try with_reducible rfl)
    (try simp only [Act.put,zA,zB,zC,zD,zE,zF])
    refine tkH (i:=6) (v:=?_) rfl ?_ ?_;rotate_left;focus ((intro w hSw;(try dsimp only at hSw);go_simp);try with_reducible rfl)
    (try simp only [Act.put,zA,zB,zC,zD,zE,zF])
    refine tkH (i:=7) (v:=?_) rfl ?_ ?_;rotate_left;focus ((intro w hSw;(try dsimp only at hSw);go_simp);try with_reducible rfl)
    (try simp only [Act.put,zA,zB,zC,zD,zE,zF])
    refine tkH (i:=8) (v:=?_) rfl ?_ ?_;rotate_left;focus ((intro w hSw;(try dsimp only at hSw);have hlk2:=hlk w hSw.2.2;go_simp);try with_reducible rfl)
    (try simp only [Act.put,zA,zB,zC,zD,zE,zF])
    refine tkH (i:=9) (v:=?_) rfl ?_ ?_;rotate_left;focus ((intro w hSw;(try dsimp only at hSw);go_simp);try with_reducible rfl)
    (try simp only [Act.put,zA,zB,zC,zD,zE,zF])
    refine wpAnyH_ready (rs:=[10]) (by kernel_rfl) (by simp) ?_
    refine AllReadyH.cons rfl (fun K hK=>?_) AllReadyH.nil
    go_simp
    refine hK.out _ _ ⟨(World.cell?_of_block (hal _ _ hbxl)).trans cx,(World.cell?_of_block (hal _ _ hpl)).trans cp,hal _ _ hbml⟩ (fun hHeld=>?_)
    clear hK K
    (try simp only [Act.put,zA,zB,zC,zD,zE,zF])
    refine wpAnyH_ready (rs:=[11]) (by kernel_rfl) (by simp) ?_
    refine AllReadyH.cons rfl (fun K hK=>?_) AllReadyH.nil
    refine step_app rfl (.tmp 69) (.tmp 71) _ rfl W2.heap.size 3 i0 _ 1 8 Tryz.underlying65 hi0 hz0 hz1 hz2 rfl (by omega) Ad ld.length cd (ld.map encN) rfl (hO.drew.alloc _) _ 1 1 [[.int .i64 (i : Nat)]] rfl rfl (Rd.newAt (by simp) (by simp)) (fun y hy=>by rw [List.mem_singleton] at hy;subst hy;exact ⟨rfl,by simp [Value.oneCell']⟩) (by unfold maxLen;omega) (by omega) (by simp;omega) ?_
    intro A3d c3d w7d ho7 hg7 hA7
    obtain ⟨w8d,hrun8,hN8,hk8,hi8⟩:=Hback.out i _ w7d A3d c3d (by omega) hg7 ho7 hA7
    have HN8d:=Lib.hid hN8
    have HK8d:=Lib.hid hk8
    have HI8d:=Lib.hid hi8
    clear hN8 hk8 hi8
    refine hK.out _ _ ⟨(World.cell?_of_block (hst _ _ hg7 _ hbxl)).trans cx,(World.cell?_of_block (hst _ _ hg7 _ hpl)).trans cp,hst _ _ hg7 _ hbml⟩ (fun hHeld=>?_)
    clear hK K
    (try simp only [Act.put,zA,zB,zC,zD,zE,zF])
    refine wpAnyH_done (by kernel_rfl) ?_ _
    refine tailQ_end (wpOp_step (i:=12) rfl (fun K hK=>?_))
    go_simp
    refine hK _ _ ?_
    refine NoPanic.normal ?_
    clear hK K hlk hO hal hst cx cp Hback ho7 hg7 hA7 hrun8 hHeld hszV hln
    skip
    have hK9:=HK8d.out.same D _ hD hKd.out rfl
    go_wp2
    go_roundw
    case rel=>exact ⟨i+1,by go_num,by omega,Lib.hid (HN8d.out.congr HG.out),hK9⟩
    case measure=>simp [intOf];omega
   ·obtain rfl : i = Z:=by omega
    go_wp2_with fail
    obtain ⟨Ae,ce,hlk,hO,hln,h00,hback⟩:=HNi.out.look (by unfold maxLen;omega) 3 (by decide)
    have Hback:=Lib.hid hback
    have H00:=Lib.hid h00
    have cx:=HNi.out.cell cx2 hbx
    have cp:=HNi.out.cell cp2 hpx
    have hszV:=HNi.out.2.size
    have hBV : Below w.heap.size w wr:=hB2c.grown HNi.out.2 (by have:=hB2c.size;omega) (fun k hk=>by injection hk with hk;omega)
    have HB:=Lib.hid (qbegins_any s wr.drew (hE.below (hBV.drew)) (by rw [HZ.out];omega))
    clear hback h00 hlk hO hln
    refine wp_region_noPanic ?_
    refine wp_region_last (S:=fun U=>U.cell? ⟨w1.heap.size+1,0,none⟩ = some (.pointer (some ⟨w1.heap.size,0,none⟩))∧U.cell? ⟨w1.heap.size,1,none⟩ = some (.map (some w.heap.size))∧U.heap[w.heap.size]? = wr.heap[w.heap.size]?) 6 rfl (by kernel_rfl) (by kernel_rfl) (by kernel_rfl) ⟨cx,cp,rfl⟩ (fun hHeld=>?_)
    simp only [List.dropLast_cons_cons,List.dropLast_singleton]
    refine tkH (i:=0) (v:=?_) rfl ?_ ?_;rotate_left;focus ((intro w hSw;(try dsimp only at hSw);go_simp);try with_reducible rfl)
    (try simp only [Act.put,zA,zC,zD,zE,zF])
    refine tkH (i:=1) (v:=?_) rfl ?_ ?_;rotate_left;focus ((intro w hSw;(try dsimp only at hSw);go_simp);try with_reducible rfl)
    (try simp only [Act.put,zA,zB,zC,zD,zE,zF])
    refine tkH (i:=2) (v:=?_) rfl ?_ ?_;rotate_left;focus ((intro w hSw;(try dsimp only at hSw);go_simp);try with_reducible rfl)
    (try simp only [Act.put,zA,zB,zC,zD,zE,zF])
    refine tkH (i:=3) (v:=?_) rfl ?_ ?_;rotate_left;focus ((intro w hSw;(try dsimp only at hSw);go_simp);try with_reducible rfl)
    (try simp only [Act.put,zA,zB,zC,zD,zE,zF])
    refine tkH (i:=4) (v:=?_) rfl ?_ ?_;rotate_left;focus ((intro w hSw;(try dsimp only at hSw);go_simp);try with_reducible rfl)
    (try simp only [Act.put,zA,zB,zC,zD,zE,zF])
    refine wpAnyH_ready (rs:=[5]) (by kernel_rfl) (by simp) ?_
    refine AllReadyH.cons rfl (fun K hK=>?_) AllReadyH.nil
    go_simp
    refine HB.out.mono ?_
    rintro e wz ⟨A',n',c',rfl,ho',hb'⟩
    have hbz : Below wr.heap.size wr wz:=((Below.refl wr.heap.size wr).drew).trans hb'
    have hnl : n' = (letS s).length:=by have:=ho'.len;rwa [List.length_map,eq_comm] at this
    have hll:=letS_len s
    have hlp:=letS_pos (s:=s)
    rw [HZ.out] at hll hlp
    have hpos : 3*N+i = 0∨0 < n':=by omega
    clear hnl hlp
    obtain ⟨w8e,hrun8,hN8,_,hk8,hi8⟩:=Hback.out wz A' n' c' (letS s) ⟨hbz.os,hbz.tape,hbz.output,hbz.size,fun k hk _=>hbz.block k hk⟩ (ho'.more (by exact hszV)) (fun x hx=>by have:=beg_lt s 3 x hx;rw [HZ.out] at this;omega) (by omega) (hloc_of H00.out ho' (by exact Nat.le_refl _) hpos)
    have HN8:=Lib.hid hN8
    have HK8:=Lib.hid hk8
    clear hN8 hk8 hi8 hpos
    refine hK.out _ _ ⟨cell_keep cx hbz,cell_keep cp hbz,hbz.block _ (by have:=hbml;omega)⟩ (fun hHeld=>?_)
    clear hK K
    (try simp only [Act.put,zA,zB,zC,zD,zE,zF])
    refine wpAnyH_done (by kernel_rfl) ?_ _
    refine tailQ_end (wpOp_step (i:=6) rfl (fun K hK=>?_))
    go_simp
    refine hK _ _ ?_
    refine NoPanic.normal ?_
    have hK9:=HK8.out.same D _ hD hKd.out rfl
    have cx9:=HN8.out.cell cx2 hbx
    have hB9 : Below w.heap.size w w8e:=hB2c.grown HN8.out.2 (by have:=hB2c.size;omega) (fun k hk=>by injection hk with hk;omega)
    clear hK K Hback ho' hrun8 hHeld hszV cx cp hb' hbz hBV
    go_wp2
    refine ⟨by simp,.inl ⟨_,_,rfl,run_takeDeferred hK9,?_⟩⟩
    have HNf:=(nw_own (α:=Unit) (n:=fun _=>3*N+i+1) (g:=fun _ k=>if k = 3 then letS s else gB s i k) (Nat.le_refl _) hbml).putObj (s:=[]) (.deferred none) HN8.out hD hK9 rfl
    refine ⟨_,results_tmp rfl _ _ _,w1.heap.size,rfl,idx_of_nw HBp.out hpx HLn.out HM2.out HNf (fun k=>by rw [← HZ.out];exact gB_end s k) (by omega),?_⟩
    exact hB2c.grown HNf.2 (by have:=hB2c.size;omega) (fun k hk=>by injection hk with hk;omega)
end
end Go.Proofs.YtlfpdpbbkjnapaaGreatDoor
