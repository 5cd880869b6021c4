/- -/
import Derived.Deep.CutBlock
import Derived.Deep.CutRange
import Derived.Test.YtglmcknlnoknoaaGreatDoorVFiC
import Derived.Test.YtglmcknlnoknoaaGreatDoorV0b
namespace Go.Proofs.YtglmcknlnoknoaaGreatDoor
set_option maxRecDepth 100000
set_option maxHeartbeats 40000000
section
open Go.RowKit
theorem tw_len {P : Nat→Bool} : ∀ {O : List Nat} {k : Nat},(∀ j y,j < k→O[j]? = some y→P y = true)→k≤O.length→(∀ y,O[k]? = some y→P y = false)→(O.takeWhile P).length = k
 | [],k,_,hk,_=>by simp at hk;subst hk;rfl
 | x :: O,0,_,_,h=>by
  have:=h x rfl
  rw [List.takeWhile_cons,this];rfl
 | x :: O,k+1,h1,hk,h2=>by
  have hx:=h1 0 x (by omega) rfl
  rw [List.takeWhile_cons,if_pos hx,List.length_cons,tw_len (fun j y hj hy=>h1 (j+1) y (Nat.succ_lt_succ hj) (by simpa using hy)) (by simpa using hk) (fun y hy=>h2 y (by simpa using hy))]
theorem insU_len (out : List Nat) (x : Nat) : (insU out x).length≤out.length+1:=by
 unfold insU
 split
 ·omega
 ·generalize (out.takeWhile fun y=>decide (y < x)).length = k
  rw [List.length_append,List.length_cons,List.length_take,List.length_drop];omega
theorem rd_one {W : World} {gb x : Nat} (h : Blk W gb 3 #[.int .i64 (x : Nat)]) : Rd W 1 (some ⟨gb,0,none⟩) ([x].map encN):=fun _ =>
 ⟨gb,0,rfl,fun i j y u hi hj=>by
  cases i with
  | zero =>
   simp only [List.map_cons,List.map_nil,zH,Option.some.injEq] at hi
   subst hi
   cases j with
   | zero=>simp [encN] at hj;subst hj;exact h.cell 0
   | succ j=>simp [encN] at hj
  | succ i=>simp at hi⟩
theorem sl_tail (A : Option Addr) (n c k : Nat) (O : List Nat) (hO : O.length = n) (hk : k≤n) (hc : n≤c) : ∃ (A5 : Option Addr) (c5 : Nat),
  (∀ W,(Instr.sliceAt 52 (.slice A n c) (some (.int .i64 (k : Nat))) none none).run Tryz.prog W = .ok (.slice A5 (n - k) c5) W) ∧
  (∀ W,(Instr.slice 52 (.slice A n c) (some (.int .i64 (k : Nat))) none none).run Tryz.prog W = .ok (.slice A5 (n - k) c5) W) ∧
  ∀ W,Rd W 1 A (O.map encN)→Rd W 1 A5 ((O.drop k).map encN):=by
 have h1 : ∀ W,(Instr.slice 52 (.slice A n c) (some (.int .i64 (k : Nat))) none none).run Tryz.prog W = .ok (.slice (if c = k then A else A.map fun a=>a.add (k*1)) (n - k) (c - k)) W:=fun W=>by
  rw [run_slice_l (P:=Tryz.prog) (w:=W) 52 A n c (by kernel_rfl) .i64 (k : Int) (by omega) (by omega)]
  have hz : (Go.sizeOf (Tryz.prog.elem 52)).run Tryz.prog W = .ok 1 W:=by kernel_rfl
  rw [hz]
  simp [Result.andThen,sliced]
 refine ⟨if c = k then A else A.map fun a=>a.add (k*1),c - k,fun W=>?_,h1,fun W h=>?_⟩
 ·rw [run_sliceAt_slice (P:=Tryz.prog) W 52 _ _ _ _ (by kernel_rfl)]
  exact h1 W
 ·by_cases e : c = k
  ·rw [List.drop_eq_nil_of_le (by omega)];exact Rd.nil_ _ _ _
  ·rw [if_neg e]
   cases A with
   | none =>
    cases O with
    | nil=>simp;exact Rd.nil_ _ _ _
    | cons y r=>obtain ⟨b,off,h2,_⟩:=h (by simp);cases h2
   | some a =>
    cases O with
    | nil=>simp;exact Rd.nil_ _ _ _
    | cons y r =>
     obtain ⟨b,off,h2,_⟩:=h (by simp)
     injection h2 with h2
     subst h2
     have:=h.dropN k
     by_cases hk0 : k = 0
     ·subst hk0
      simpa [Addr.add] using h
     ·simpa [Addr.add,hk0] using this
theorem jFirsts_any (X : Nat→Prop) (p : Pat) (v : Pv) (w : World) (hp : PatX w X p v) (hg : goodP 64 p = true) (hs : sizeP p≤2048) :
  Calls Tryz.prog 201 #[valPt v] w fun e w'=>∃ (A : Option Addr) (n c : Nat),e = .returned (.slice A n c)∧Own w' w.heap.size 3 1 A n c ((sortU (firstsB p)).map encN)∧Below w.heap.size w w':=by
 obtain ⟨i0,hi0,hz0,hz1,hz2⟩:=info_parts infoInt
 have HP:=Lib.hid hp
 have HG:=Lib.hid (fun W (h : PatX W X p v)=>jGood_any X p v W h (goodP_mono (by omega) hg) hs)
 have HF:=Lib.hid (fun W (h : PatX W X p v)=>jfirsts_all (sizeP p) p (Nat.le_refl _) hs X v W h hg)
 have HZ:=Lib.hid (show (firstsB p).length≤131072 by have:=firsts_len p hg;omega)
 generalize firstsB p = L at HF HZ ⊢
 have HV : Hid (sortU L = L.foldl insU []):=Lib.hid rfl
 clear hp hg
 unfold valPt at HG HF ⊢
 have Hz : Below w.heap.size w (w.alloc (.cells #[.int .i64 (v.1 : Int),.slice v.2.1.1 v.2.1.2.1 v.2.1.2.2,.slice v.2.2.1 v.2.2.2.1 v.2.2.2.2] 207)):=(Below.refl _ _).alloc (Nat.le_refl _) _
 have hb0 : Blk (w.alloc (.cells #[.int .i64 (v.1 : Int),.slice v.2.1.1 v.2.1.2.1 v.2.1.2.2,.slice v.2.2.1 v.2.2.2.1 v.2.2.2.2] 207)) w.heap.size 207 _:=Blk.new _ _ _
 go_enter Tryz.func201,Tryz.ntmps201
 go_wp2_with fail
 generalize (w.alloc (.cells #[.int .i64 (v.1 : Int),.slice v.2.1.1 v.2.1.2.1 v.2.1.2.2,.slice v.2.2.1 v.2.2.2.1 v.2.2.2.2] 207)) = w1 at Hz hb0 ⊢
 refine (HG.out w1 (HP.out.below Hz)).mono ?_
 rintro e w2 ⟨rfl,hb2⟩
 have hbw:=below_two Hz hb2
 have hb0':=hb0.below hb2
 have d0:=hb0'.cell 0
 have d1:=hb0'.cell 1
 have d2:=hb0'.cell 2
 simp only [zG,zI,zH] at d0 d1 d2
 have HF2:=Lib.hid (HF.out w2 (HP.out.below hbw))
 clear HG HF hb0 hb0' HP
 go_wp2_with fail
 refine HF2.out.mono ?_
 rintro e w3 ⟨B,N,c,rfl,hr3,hl3,hb3⟩
 have HL:=Lib.hid hl3
 have hbw3:=below_two hbw hb3
 have hN : N≤131072:=by have:=HZ.out;omega
 clear d0 d1 d2 HF2 hl3 HZ
 go_wp2_with fail
 go_loopw [4,5,6] (fun u z _ wr=>∃ (i : Nat) (A : Option Addr) (n c : Nat) (O : List Nat),u = .slice A n c∧z = .int .i64 i∧i≤N∧n≤i∧Hid (O = (L.take i).foldl insU [])∧Own wr w3.heap.size 3 1 A n c (O.map encN)∧Below w3.heap.size w3 wr) (fun _ z _ _=>N - (intOf z).toNat)
 case atStart=>exact ⟨0,none,0,0,[],rfl,rfl,by omega,by omega,Lib.hid rfl,Own.nil_ _ _ _ _,Below.refl _ _⟩
 case round =>
  obtain ⟨i,A,n,c,O,rfl,rfl,hi,hni,HO,ho,hb⟩:=hrel
  by_cases hlt : i < N
  ·obtain ⟨x,Hx⟩ : ∃ x,Hid (L[i]? = some x):=⟨_,Lib.hid (List.getElem?_eq_getElem (by have:=HL.out;omega))⟩
   obtain ⟨b,off,rfl,hcx⟩:=hr3.atNa Hx.out
   have cx:=cell_keep hcx hb
   have hOl:=own_empty ho
   have HOl:=Lib.hid hOl
   have hIl:=insU_len O x
   have HStep : Hid (insU O x = (L.take (i+1)).foldl insU []):=Lib.hid (by rw [take_snoc Hx.out,List.foldl_append,← HO.out];rfl)
   clear hcx hOl
   have hsz:=hb.size
   have hnc:=ho.cap.1
   go_upto_block 2 with fail
   go_cut [6] from 18 to 34 (fun t wx=>∃ k q : Nat,t = .int .i64 k∧k≤n∧Hid ((O.takeWhile fun y=>decide (y < x)).length = k)∧wx = wr.drewN q)
   case first =>
    go_wp2_with fail
    go_loopw [6] (fun t wq=>∃ k q : Nat,t = .int .i64 k∧k≤n∧Hid (∀ j y,j < k→O[j]? = some y→y < x)∧wq = wr.drewN q) (fun t _=>n - (intOf t).toNat)
    case atStart=>exact ⟨0,0,rfl,by omega,Lib.hid (fun j y h=>absurd h (Nat.not_lt_zero _)),rfl⟩
    case round =>
     obtain ⟨k,q,rfl,hk,HK,rfl⟩:=hrel
     by_cases hkn : k < n
     ·obtain ⟨y,hy⟩ : ∃ y,O[k]? = some y:=⟨_,List.getElem?_eq_getElem (by have:=HOl.out;omega)⟩
      obtain ⟨bo,oo,rfl,hco⟩:=(ho.rd (by decide)).atNa hy
      have Hy:=Lib.hid hy
      clear hy
      by_cases hyx : y < x
      ·go_wp2_with fail
       go_quiet (fail)
       go_wp2
       go_roundw
       case rel=>exact ⟨k+1,_,by go_num,by omega,Lib.hid (fun j z hj hz=>by
        rcases Nat.lt_or_ge j k with h | h
        ·exact HK.out j z h hz
        ·obtain rfl : j = k:=by omega
         rw [Hy.out] at hz
         injection hz with hz
         omega),by first | rfl | exact World.drewN_drewN _ _ _⟩
       case measure=>simp [intOf];omega
      ·have HT:=Lib.hid (tw_len (P:=fun y=>decide (y < x)) (O:=O) (k:=k) (fun j z hj hz=>decide_eq_true (HK.out j z hj hz)) (by have:=HOl.out;omega) (fun z hz=>by rw [Hy.out] at hz;injection hz with hz;exact decide_eq_false (by omega)))
       go_wp2_with fail
       go_quiet (fail)
       go_wp2
       go_meet
       exact ⟨k,_,rfl,hk,HT,by first | rfl | exact World.drewN_drewN _ _ _⟩
     ·have HT:=Lib.hid (tw_len (P:=fun y=>decide (y < x)) (O:=O) (k:=k) (fun j z hj hz=>decide_eq_true (HK.out j z hj hz)) (by have:=HOl.out;omega) (fun z hz=>by rw [List.getElem?_eq_none (by have:=HOl.out;omega)] at hz;cases hz))
      go_wp2_with fail
      go_quiet (fail)
      go_wp2
      go_meet
      exact ⟨k,_,rfl,hk,HT,by first | rfl | exact World.drewN_drewN _ _ _⟩
   case rest =>
    obtain ⟨k,q,rfl,hkn,HT,rfl⟩:=hcut
    obtain ⟨bq,Hbq⟩ : ∃ bq,Hid (decide (O[k]? = some x) = bq):=⟨_,Lib.hid rfl⟩
    go_upto_region 11 with fail
    go_cut [49] from 35 to 49 (fun t wx=>t = .bool bq∧∃ q',wx = wr.drewN q')
    case first =>
     by_cases hk : k < n
     ·obtain ⟨y,hy⟩ : ∃ y,O[k]? = some y:=⟨_,List.getElem?_eq_getElem (by have:=HOl.out;omega)⟩
      obtain ⟨bo,oo,rfl,hco⟩:=(ho.rd (by decide)).atNa hy
      have hbq:=Hbq.out
      rw [hy] at hbq
      clear hy
      by_cases hyx : y = x
      ·subst hyx
       have hbt : bq = true:=by rw [← hbq];simp
       subst hbt
       go_quiet (fail)
       go_wp2
       go_meet
       exact ⟨rfl,_,by first | rfl | exact World.drewN_drewN _ _ _⟩
      ·have hbt : bq = false:=by rw [← hbq];simp [hyx]
       subst hbt
       have tne : ((y : Int) == (x : Int)) = false:=beq_eq_false_iff_ne.2 (by omega)
       clear hbq
       go_quiet (fail)
       go_wp2
       go_meet
       exact ⟨rfl,_,by first | rfl | exact World.drewN_drewN _ _ _⟩
     ·have hbt : bq = false:=by
       rw [← Hbq.out,List.getElem?_eq_none (by have:=HOl.out;omega)];simp
      subst hbt
      go_quiet (fail)
      go_wp2
      go_meet
      exact ⟨rfl,_,by first | rfl | exact World.drewN_drewN _ _ _⟩
    case rest =>
     clear q
     obtain ⟨rfl,q,rfl⟩:=hcut
     cases bq with
     | true =>
      have HI : Hid (insU O x = O):=Lib.hid (by unfold insU;rw [HT.out,if_pos (of_decide_eq_true Hbq.out)])
      go_wp2
      go_roundw
      case rel=>exact ⟨i+1,A,n,c,O,rfl,by go_num,by omega,by omega,Lib.hid (by rw [← HStep.out];exact HI.out.symm),ho.drewN q,below_drewN hb q⟩
      case measure=>simp [intOf];omega
     | false =>
     have HFin : Hid ((([]++(O.take k).map encN)++[x].map encN)++(O.drop k).map encN = (insU O x).map encN):=Lib.hid (by unfold insU;rw [HT.out,if_neg (of_decide_eq_false Hbq.out)];simp)
     obtain ⟨A5,c5,hs1,hs2,hr5⟩:=sl_tail A n c k O HOl.out hkn hnc
     have hbU : Below wr.heap.size wr (wr.drewN q).drew:=(below_refl_drewN wr q).drew
     have cxU:=cell_keep cx hbU
     have hkc : (k : Int)≤(c : Int):=by omega
     have hk0 : (0 : Int)≤(k : Int):=by omega
     go_wp2_with fail
     refine wp_region_last (S:=fun V=>V.cell? ⟨b,off+i,none⟩ = some (.int .i64 (x : Nat))) 15 rfl (by kernel_rfl) (by kernel_rfl) (by kernel_rfl) cxU (fun hHeld=>?_)
     simp only [List.dropLast_cons_cons,List.dropLast_singleton]
     refine tkH (i:=1) (v:=?_) rfl ?_ ?_;rotate_left;focus ((intro w hSw;(try dsimp only at hSw);go_simp);try with_reducible rfl)
     (try simp only [Act.put,zA,zB,zC,zD,zE,zF])
     refine tkH (i:=2) (v:=?_) rfl ?_ ?_;rotate_left;focus ((intro w hSw;(try dsimp only at hSw);go_simp);try with_reducible rfl)
     (try simp only [Act.put,zA,zB,zC,zD,zE,zF])
     refine tkH (i:=3) (v:=?_) rfl ?_ ?_;rotate_left;focus ((intro w hSw;(try dsimp only at hSw);go_simp);try with_reducible rfl)
     (try simp only [Act.put,zA,zB,zC,zD,zE,zF])
     refine tkH (i:=5) (v:=?_) rfl ?_ ?_;rotate_left;focus ((intro w hSw;(try dsimp only at hSw);go_simp);try with_reducible rfl)
     (try simp only [Act.put,zA,zB,zC,zD,zE,zF])
     refine tkH (i:=6) (v:=?_) rfl ?_ ?_;rotate_left;focus ((intro w hSw;(try dsimp only at hSw);go_simp);try with_reducible rfl)
     (try simp only [Act.put,zA,zB,zC,zD,zE,zF])
     refine tkH (i:=7) (v:=?_) rfl ?_ ?_;rotate_left;focus ((intro w hSw;(try dsimp only at hSw);go_simp);try with_reducible rfl)
     (try simp only [Act.put,zA,zB,zC,zD,zE,zF])
     refine tkH (i:=8) (v:=?_) rfl ?_ ?_;rotate_left;focus ((intro w hSw;(try dsimp only at hSw);go_simp);try with_reducible rfl)
     (try simp only [Act.put,zA,zB,zC,zD,zE,zF])
     refine tkH (i:=11) (v:=?_) rfl ?_ ?_;rotate_left;focus ((intro w hSw;(try dsimp only at hSw);go_simp);try with_reducible rfl)
     (try simp only [Act.put,zA,zB,zC,zD,zE,zF])
     refine tkH (i:=12) (v:=?_) rfl ?_ ?_;rotate_left;focus ((intro w hSw;(try dsimp only at hSw);go_simp);try with_reducible rfl)
     (try simp only [Act.put,zA,zB,zC,zD,zE,zF])
     refine tkH (i:=13) (v:=?_) rfl ?_ ?_;rotate_left;focus ((intro w hSw;(try dsimp only at hSw);go_simp);try with_reducible rfl)
     (try simp only [Act.put,zA,zB,zC,zD,zE,zF])
     generalize (wr.drewN q).drew = U0 at hbU ⊢
     have hUz:=hbU.size
     refine wpAnyH_ready (rs:=[0,9]) (by kernel_rfl) (by simp) ?_
     refine AllReadyH.cons rfl (fun K hK=>?_) ?_
     ·skip
      go_simp
      have o0:=Own.lit U0 wr.heap.size 3 1 (by omega)
      have hbn:=hbU.alloc hbU.size (.cells #[] 3)
      refine hK.out _ _ (cell_keep cx hbn) (fun hHeld=>?_)
      clear hK K
      generalize U0.alloc (.cells #[] 3) = U1 at o0 hbn ⊢
      generalize U0.heap.size = g0 at o0 ⊢
      (try simp only [Act.put,zA,zB,zC,zD,zE,zF])
      replace hbU:=hbn
      clear hbn
      have hUz:=hbU.size
      refine wpAnyH_ready (rs:=[4,9]) (by kernel_rfl) (by simp) ?_
      refine AllReadyH.cons rfl (fun K hK=>?_) ?_
      ·skip
       refine step_app rfl (.tmp 50) (.tmp 53) _ rfl wr.heap.size 3 i0 _ 1 8 Tryz.underlying52 hi0 hz0 hz1 hz2 rfl (by omega) _ 0 0 _ rfl o0 _ k c ((O.take k).map encN) rfl (by rw [List.length_map,List.length_take];have:=HOl.out;omega) (((ho.below hbU).rd (by decide)).takeN k) (encN_ok' _) (by unfold maxLen;omega) (by omega) (by omega) ?_
       intro A4 c4 U2 ho4 hg4 hA4
       have hbn:=below_app hbU hg4 (by omega) (fun a ha=>(o0.lt a ha).1)
       refine hK.out _ _ (cell_keep cx hbn) (fun hHeld=>?_)
       clear hK K
       replace o0:=ho4
       clear ho4 hg4 hA4
       simp only [Nat.zero_add] at o0 ⊢
       (try simp only [Act.put,zA,zB,zC,zD,zE,zF])
       replace hbU:=hbn
       clear hbn
       have hUz:=hbU.size
       refine wpAnyH_ready (rs:=[9]) (by kernel_rfl) (by simp) ?_
       refine AllReadyH.cons rfl (fun K hK=>?_) AllReadyH.nil
       go_simp
       have bb:=Blk.new U2 3 #[.int .i64 (x : Nat)]
       have hbn:=hbU.alloc hbU.size (.cells #[.int .i64 (x : Nat)] 3)
       refine hK.out _ _ (cell_keep cx hbn) (fun hHeld=>?_)
       replace o0:=o0.alloc (.cells #[.int .i64 (x : Nat)] 3)
       clear hK K
       generalize U2.alloc (.cells #[.int .i64 (x : Nat)] 3) = U3 at bb hbn o0 ⊢
       generalize U2.heap.size = gb at bb ⊢
       (try simp only [Act.put,zA,zB,zC,zD,zE,zF])
       replace hbU:=hbn
       clear hbn
       have hUz:=hbU.size
       refine wpAnyH_ready (rs:=[10]) (by kernel_rfl) (by simp) ?_
       refine AllReadyH.cons rfl (fun K hK=>?_) AllReadyH.nil
       refine step_app rfl (.tmp 54) (.tmp 59) _ rfl wr.heap.size 3 i0 _ 1 8 Tryz.underlying52 hi0 hz0 hz1 hz2 rfl (by omega) _ k _ _ rfl o0 _ 1 1 ([x].map encN) rfl rfl (rd_one bb) (encN_ok' _) (by unfold maxLen;omega) (by omega) (by omega) ?_
       intro A4 c4 U4 ho4 hg4 hA4
       have hbn:=below_app hbU hg4 (by omega) (fun a ha=>(o0.lt a ha).1)
       refine hK.out _ _ (cell_keep cx hbn) (fun hHeld=>?_)
       clear hK K
       replace o0:=ho4
       clear ho4 hg4 hA4
       (try simp only [Act.put,zA,zB,zC,zD,zE,zF])
       replace hbU:=hbn
       clear hbn
       have hUz:=hbU.size
       refine wpAnyH_ready (rs:=[14]) (by kernel_rfl) (by simp) ?_
       refine AllReadyH.cons rfl (fun K hK=>?_) AllReadyH.nil
       refine step_app rfl (.tmp 60) (.tmp 63) _ rfl wr.heap.size 3 i0 _ 1 8 Tryz.underlying52 hi0 hz0 hz1 hz2 rfl (by omega) _ (k+1) _ _ rfl o0 _ (n - k) _ ((O.drop k).map encN) rfl (by rw [List.length_map,List.length_drop,HOl.out]) (hr5 _ ((ho.below hbU).rd (by decide))) (encN_ok' _) (by unfold maxLen;omega) (by omega) (by omega) ?_
       intro A4 c4 U5 ho4 hg4 hA4
       have hbn:=below_app hbU hg4 (by omega) (fun a ha=>(o0.lt a ha).1)
       refine hK.out _ _ (cell_keep cx hbn) (fun hHeld=>?_)
       clear hK K
       replace o0:=ho4
       clear ho4 hg4 hA4
       (try simp only [Act.put,zA,zB,zC,zD,zE,zF])
       replace hbU:=hbn
       clear hbn
       have hUz:=hbU.size
       refine wpAnyH_done (by kernel_rfl) ?_ _
       refine tailQ_end (wpOp_step (i:=15) rfl (fun K hK=>?_))
       go_simp
       refine hK _ _ ?_
       clear hK K
       go_wp2
       go_roundw
       case rel=>exact ⟨i+1,_,_,_,insU O x,rfl,by go_num,by omega,by omega,HStep,by rw [← HFin.out];exact o0.more hsz,below_two hb hbU⟩
       case measure=>simp [intOf];omega
      refine AllReadyH.cons rfl (fun K hK=>?_) AllReadyH.nil
      go_simp
      have bb:=Blk.new U1 3 #[.int .i64 (x : Nat)]
      have hbn:=hbU.alloc hbU.size (.cells #[.int .i64 (x : Nat)] 3)
      refine hK.out _ _ (cell_keep cx hbn) (fun hHeld=>?_)
      have hne:=(o0.lt _ rfl).2
      simp only at hne
      replace o0:=o0.alloc (.cells #[.int .i64 (x : Nat)] 3)
      clear hK K
      generalize U1.alloc (.cells #[.int .i64 (x : Nat)] 3) = U2 at bb hbn o0 ⊢
      generalize U1.heap.size = gb at bb hne ⊢
      (try simp only [Act.put,zA,zB,zC,zD,zE,zF])
      replace hbU:=hbn
      clear hbn
      have hUz:=hbU.size
      refine wpAnyH_ready (rs:=[4]) (by kernel_rfl) (by simp) ?_
      refine AllReadyH.cons rfl (fun K hK=>?_) AllReadyH.nil
      refine step_app rfl (.tmp 50) (.tmp 53) _ rfl wr.heap.size 3 i0 _ 1 8 Tryz.underlying52 hi0 hz0 hz1 hz2 rfl (by omega) _ 0 0 _ rfl o0 _ k c ((O.take k).map encN) rfl (by rw [List.length_map,List.length_take];have:=HOl.out;omega) (((ho.below hbU).rd (by decide)).takeN k) (encN_ok' _) (by unfold maxLen;omega) (by omega) (by omega) ?_
      intro A4 c4 U3 ho4 hg4 hA4
      have hbn:=below_app hbU hg4 (by omega) (fun a ha=>(o0.lt a ha).1)
      refine hK.out _ _ (cell_keep cx hbn) (fun hHeld=>?_)
      replace bb:=bb.grown hg4 (fun e=>by simp at e;omega)
      clear hK K
      replace o0:=ho4
      clear ho4 hg4 hA4
      simp only [Nat.zero_add] at o0 ⊢
      (try simp only [Act.put,zA,zB,zC,zD,zE,zF])
      replace hbU:=hbn
      clear hbn
      have hUz:=hbU.size
      refine wpAnyH_ready (rs:=[10]) (by kernel_rfl) (by simp) ?_
      refine AllReadyH.cons rfl (fun K hK=>?_) AllReadyH.nil
      refine step_app rfl (.tmp 54) (.tmp 59) _ rfl wr.heap.size 3 i0 _ 1 8 Tryz.underlying52 hi0 hz0 hz1 hz2 rfl (by omega) _ k _ _ rfl o0 _ 1 1 ([x].map encN) rfl rfl (rd_one bb) (encN_ok' _) (by unfold maxLen;omega) (by omega) (by omega) ?_
      intro A4 c4 U4 ho4 hg4 hA4
      have hbn:=below_app hbU hg4 (by omega) (fun a ha=>(o0.lt a ha).1)
      refine hK.out _ _ (cell_keep cx hbn) (fun hHeld=>?_)
      clear hK K
      replace o0:=ho4
      clear ho4 hg4 hA4
      (try simp only [Act.put,zA,zB,zC,zD,zE,zF])
      replace hbU:=hbn
      clear hbn
      have hUz:=hbU.size
      refine wpAnyH_ready (rs:=[14]) (by kernel_rfl) (by simp) ?_
      refine AllReadyH.cons rfl (fun K hK=>?_) AllReadyH.nil
      refine step_app rfl (.tmp 60) (.tmp 63) _ rfl wr.heap.size 3 i0 _ 1 8 Tryz.underlying52 hi0 hz0 hz1 hz2 rfl (by omega) _ (k+1) _ _ rfl o0 _ (n - k) _ ((O.drop k).map encN) rfl (by rw [List.length_map,List.length_drop,HOl.out]) (hr5 _ ((ho.below hbU).rd (by decide))) (encN_ok' _) (by unfold maxLen;omega) (by omega) (by omega) ?_
      intro A4 c4 U5 ho4 hg4 hA4
      have hbn:=below_app hbU hg4 (by omega) (fun a ha=>(o0.lt a ha).1)
      refine hK.out _ _ (cell_keep cx hbn) (fun hHeld=>?_)
      clear hK K
      replace o0:=ho4
      clear ho4 hg4 hA4
      (try simp only [Act.put,zA,zB,zC,zD,zE,zF])
      replace hbU:=hbn
      clear hbn
      have hUz:=hbU.size
      refine wpAnyH_done (by kernel_rfl) ?_ _
      refine tailQ_end (wpOp_step (i:=15) rfl (fun K hK=>?_))
      go_simp
      refine hK _ _ ?_
      clear hK K
      go_wp2
      go_roundw
      case rel=>exact ⟨i+1,_,_,_,insU O x,rfl,by go_num,by omega,by omega,HStep,by rw [← HFin.out];exact o0.more hsz,below_two hb hbU⟩
      case measure=>simp [intOf];omega
     refine AllReadyH.cons rfl (fun K hK=>?_) AllReadyH.nil
     go_simp
     have bb:=Blk.new U0 3 #[.int .i64 (x : Nat)]
     have hbn:=hbU.alloc hbU.size (.cells #[.int .i64 (x : Nat)] 3)
     refine hK.out _ _ (cell_keep cx hbn) (fun hHeld=>?_)
     clear hK K
     generalize U0.alloc (.cells #[.int .i64 (x : Nat)] 3) = U1 at bb hbn ⊢
     generalize U0.heap.size = gb at bb ⊢
     (try simp only [Act.put,zA,zB,zC,zD,zE,zF])
     replace hbU:=hbn
     clear hbn
     have hUz:=hbU.size
     refine wpAnyH_ready (rs:=[0]) (by kernel_rfl) (by simp) ?_
     refine AllReadyH.cons rfl (fun K hK=>?_) AllReadyH.nil
     go_simp
     have o0:=Own.lit U1 wr.heap.size 3 1 (by omega)
     have hbn:=hbU.alloc hbU.size (.cells #[] 3)
     refine hK.out _ _ (cell_keep cx hbn) (fun hHeld=>?_)
     have hne:=bb.lt
     replace bb:=bb.alloc (.cells #[] 3)
     clear hK K
     generalize U1.alloc (.cells #[] 3) = U2 at o0 hbn bb ⊢
     generalize U1.heap.size = g0 at o0 hne ⊢
     (try simp only [Act.put,zA,zB,zC,zD,zE,zF])
     replace hbU:=hbn
     clear hbn
     have hUz:=hbU.size
     refine wpAnyH_ready (rs:=[4]) (by kernel_rfl) (by simp) ?_
     refine AllReadyH.cons rfl (fun K hK=>?_) AllReadyH.nil
     refine step_app rfl (.tmp 50) (.tmp 53) _ rfl wr.heap.size 3 i0 _ 1 8 Tryz.underlying52 hi0 hz0 hz1 hz2 rfl (by omega) _ 0 0 _ rfl o0 _ k c ((O.take k).map encN) rfl (by rw [List.length_map,List.length_take];have:=HOl.out;omega) (((ho.below hbU).rd (by decide)).takeN k) (encN_ok' _) (by unfold maxLen;omega) (by omega) (by omega) ?_
     intro A4 c4 U3 ho4 hg4 hA4
     have hbn:=below_app hbU hg4 (by omega) (fun a ha=>(o0.lt a ha).1)
     refine hK.out _ _ (cell_keep cx hbn) (fun hHeld=>?_)
     replace bb:=bb.grown hg4 (fun e=>by simp at e;omega)
     clear hK K
     replace o0:=ho4
     clear ho4 hg4 hA4
     simp only [Nat.zero_add] at o0 ⊢
     (try simp only [Act.put,zA,zB,zC,zD,zE,zF])
     replace hbU:=hbn
     clear hbn
     have hUz:=hbU.size
     refine wpAnyH_ready (rs:=[10]) (by kernel_rfl) (by simp) ?_
     refine AllReadyH.cons rfl (fun K hK=>?_) AllReadyH.nil
     refine step_app rfl (.tmp 54) (.tmp 59) _ rfl wr.heap.size 3 i0 _ 1 8 Tryz.underlying52 hi0 hz0 hz1 hz2 rfl (by omega) _ k _ _ rfl o0 _ 1 1 ([x].map encN) rfl rfl (rd_one bb) (encN_ok' _) (by unfold maxLen;omega) (by omega) (by omega) ?_
     intro A4 c4 U4 ho4 hg4 hA4
     have hbn:=below_app hbU hg4 (by omega) (fun a ha=>(o0.lt a ha).1)
     refine hK.out _ _ (cell_keep cx hbn) (fun hHeld=>?_)
     clear hK K
     replace o0:=ho4
     clear ho4 hg4 hA4
     (try simp only [Act.put,zA,zB,zC,zD,zE,zF])
     replace hbU:=hbn
     clear hbn
     have hUz:=hbU.size
     refine wpAnyH_ready (rs:=[14]) (by kernel_rfl) (by simp) ?_
     refine AllReadyH.cons rfl (fun K hK=>?_) AllReadyH.nil
     refine step_app rfl (.tmp 60) (.tmp 63) _ rfl wr.heap.size 3 i0 _ 1 8 Tryz.underlying52 hi0 hz0 hz1 hz2 rfl (by omega) _ (k+1) _ _ rfl o0 _ (n - k) _ ((O.drop k).map encN) rfl (by rw [List.length_map,List.length_drop,HOl.out]) (hr5 _ ((ho.below hbU).rd (by decide))) (encN_ok' _) (by unfold maxLen;omega) (by omega) (by omega) ?_
     intro A4 c4 U5 ho4 hg4 hA4
     have hbn:=below_app hbU hg4 (by omega) (fun a ha=>(o0.lt a ha).1)
     refine hK.out _ _ (cell_keep cx hbn) (fun hHeld=>?_)
     clear hK K
     replace o0:=ho4
     clear ho4 hg4 hA4
     (try simp only [Act.put,zA,zB,zC,zD,zE,zF])
     replace hbU:=hbn
     clear hbn
     have hUz:=hbU.size
     refine wpAnyH_done (by kernel_rfl) ?_ _
     refine tailQ_end (wpOp_step (i:=15) rfl (fun K hK=>?_))
     go_simp
     refine hK _ _ ?_
     clear hK K
     go_wp2
     go_roundw
     case rel=>exact ⟨i+1,_,_,_,insU O x,rfl,by go_num,by omega,by omega,HStep,by rw [← HFin.out];exact o0.more hsz,below_two hb hbU⟩
     case measure=>simp [intOf];omega
  ·obtain rfl : i = N:=by omega
   have HE : Hid (O = L.foldl insU []):=Lib.hid (by rw [HO.out,List.take_of_length_le (by have:=HL.out;omega)])
   go_wp2
   go_ret
   exact ⟨A,n,c,rfl,by rw [HV.out,← HE.out];exact ho.more hbw3.size,below_two hbw3 hb⟩
end
end Go.Proofs.YtglmcknlnoknoaaGreatDoor
