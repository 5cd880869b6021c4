/- -/
import Derived.OwnWalk
import Derived.Test.YtlfpdpbbkjnapaaGreatDoorYPlacesTells2a
import Derived.Test.YtlfpdpbbkjnapaaGreatDoorYPlacesTells0b
namespace Go.Proofs.YtlfpdpbbkjnapaaGreatDoor
set_option maxRecDepth 100000
set_option maxHeartbeats 40000000
section
open Go.RowKit
theorem step_make {P : Program} {ops : Array Oper} {o : Oper} {a : Act} {w : World} {K : Act→World→Prop} {Q : Exit→Act→World→Prop} {E : Prop} (hgd : o.guard = none) (l c : Operand) (t : TypeId) (hop : o.op = Op.makeSlice t l c)
  (base : Nat) (e : TypeId) (i : TypeInfo) (z : Value) (size : Nat) (h1 : P.underlying t = some (.slice e)) (h2 : P.info? e = some i) (h3 : i.zero = some z) (h4 : i.size = size)
  (kl kc : IntKind) (L C : Int) (n : Nat) (hl : a.eval l = .int kl L) (hc : a.eval c = .int kc C) (hL : L = (n : Int)) (hC : C = (n : Int)) (b2 : i.bytes*n≤281474976710656) (b3 : n≤maxLen) (b4 : base≤w.heap.size)
  (h : ∀ w',w'.ownsRow base e size (.slice (some ⟨w.heap.size,0,none⟩) n n) n (madeCells z.cells (n*size)).toList→w.grownBy w' none→K (a.put o.dst (.slice (some ⟨w.heap.size,0,none⟩) n n)) w') :
  if Region.wanted o (yielded ops a.tmps) = true then Oper.wp P o a w K Q else E:=by
 have hw : Region.wanted o (yielded ops a.tmps) = true:=by simp [Region.wanted,hgd]
 rw [if_pos hw]
 obtain ⟨w',hrun,r1,r2⟩:=run_make_full (P:=P) w base t e i z size h1 h2 h3 h4 kl kc n b2 b3 b4
 subst hL
 subst hC
 unfold Oper.wp
 simp [execOp,hop,hl,hc,hrun,Result.andThen]
 exact h w' r1 r2
theorem jatom_any (p : Nat) (s : ByteArray) (A : Option Addr) (nn cn : Nat) (names : List (List UInt8)) (a d k k' f : Nat) (c : UInt8) (r rest : List UInt8) (pat : Pat) (w : World)
  (HPt : Hid (∀ (d a k k' : Nat) (pat : Pat) (rest : List UInt8) (W : World),RS W p s A nn cn names a d k→a≤s.size→d≤32→k≤512→patP names f d (s.data.toList.drop a) k = some (pat,rest,k')→Calls Tryz.prog 210 #[.pointer (some ⟨p,0,none⟩)] W (RdPost W p s A nn cn names d pat rest k')))
  (h : RS w p s A nn cn names a d k) (ha : a≤s.size) (hs : s.size≤1000000) (hnz : nn≤1000000) (hsk : skipB (s.data.toList.drop a) = c :: r)
  (hP : atomP names (f+1) d c r k = some (pat,rest,k')) :
  Calls Tryz.prog 281 #[.pointer (some ⟨p,0,none⟩)] w (RdPost w p s A nn cn names d pat rest k'):=by
 obtain ⟨hk,hcs⟩:=atomP_cases hP
 have hpw:=h.lt
 have hln:=h.len
 rw [hln] at hcs
 have HAw:=Lib.hid (fun x (hx : A = some x)=>(h.off x hx).2)
 have HC:=Lib.hid (fun x z W (h : RS W p s A nn cn names x d k)=>jcounts_any p s A nn cn names x d k z W h hk)
 have hw0:=h.below ((Below.refl w.heap.size w).alloc (Nat.le_refl _) (.cells #[.int .i64 0,.slice none 0 0,.slice none 0 0] 221))
 have h0:=jsees_any p s A nn cn names a d k _ hw0 ha hs
 rw [hsk,show headN (c :: r) = c.toNat from rfl] at h0
 have HS1:=Lib.hid h0
 have Hcs:=Lib.hid hcs
 clear h0 hcs hP hw0 h hsk
 go_enter Tryz.func281,Tryz.ntmps281
 go_wp2_with fail
 refine HS1.out.mono ?_
 rintro e w1 ⟨rfl,x,hr,hd,hx,hg⟩
 have hxs : x < s.size:=Nat.lt_of_not_le fun hle=>by
  rw [drop_end s (by omega)] at hd
  cases hd
 have Hdr:=Lib.hid (show s.data.toList.drop (x+1) = r by
  obtain ⟨b',h1,_⟩:=byte_at s hxs
  rw [h1] at hd
  injection hd)
 have Hd:=Lib.hid hd
 have hB1 : Blk w1 w.heap.size 221 #[.int .i64 0,.slice none 0 0,.slice none 0 0]:=(Blk.new w _ _).grown hg (fun e=>by injection e with e;omega)
 have hg1 : w.grownBy w1 (some p):=only_trans (only_alloc (only_refl w _) _) hg
 have c1:=hr.c1
 have f1:=hr.f 1
 have ez : ((x+1 : Nat) : Int) = (x : Int)+1:=by omega
 clear HS1 hd hg
 rcases Hcs.out with ⟨hc,hd32,c2,hpt⟩ | ⟨hc,hk1,b,r1,acc,hsk2,hlg,hpe⟩ | ⟨hc,hpe,hre,hk1⟩ | ⟨hc1,hc2,hc3,hk1,i0,hpn,hpe⟩
 ·have t40 : ((c.toNat : Int) == 40) = true:=by rw [beq_iff_eq];omega
  have HC1:=Lib.hid (HC.out x (x : Int) w1 hr)
  clear HC Hcs hc
  go_wp2_with fail
  refine HC1.out.mono ?_
  rintro e w2 ⟨rfl,hr2,hg2⟩
  have hB2:=hB1.grown hg2 (fun e=>by injection e with e;omega)
  have hg12:=only_trans hg1 hg2
  have td : decide (32≤d) = false:=decide_eq_false (by omega)
  have hr3:=hr2.setAt (x+1)
  rw [ez] at hr3
  have hr4:=hr3.setDepth (d+1)
  have ez2 : ((d+1 : Nat) : Int) = (d : Int)+1:=by omega
  rw [ez2] at hr4
  have c1:=hr2.c1
  have c3:=hr2.c3
  have d3:=hr3.c3
  have f1:=hr2.f 1
  have f3:=hr3.f 3
  have HP1:=Lib.hid (HPt.out (d+1) (x+1) (k+1) k' pat (c2 :: rest) _ hr4 (by omega) (by omega) (by omega) (by rw [Hdr.out];exact hpt))
  have hB4:=(hB2.far (p:=⟨p,1,none⟩) (by simp;omega) (.int .i64 ((x : Int)+1))).far (p:=⟨p,3,none⟩) (by simp;omega) (.int .i64 ((d : Int)+1))
  have hg4:=only_setCell (only_setCell hg12 (p:=⟨p,1,none⟩) (.inl rfl) (.int .i64 ((x : Int)+1))) (p:=⟨p,3,none⟩) (.inl rfl) (.int .i64 ((d : Int)+1))
  clear HC1 hpt hr2 hr3 hr4 hg2 hB1 hg1 hB2 hg12 ez
  go_wp2_with fail
  refine HP1.out.mono ?_
  rintro e w5 hq
  obtain ⟨v,x5,rfl,hr5,hd5,hx5,hg5,hp5⟩:=hq
  have hB5:=hB4.grown hg5 (fun e=>by injection e with e;omega)
  have hg15:=only_trans hg4 hg5
  have hxs5 : x5 < s.size:=Nat.lt_of_not_le fun hle=>by
   rw [drop_end s (by omega)] at hd5
   cases hd5
  have hdr5:=Lib.hid (show s.data.toList.drop (x5+1) = rest by
   obtain ⟨b',h1,_⟩:=byte_at s hxs5
   rw [h1] at hd5
   injection hd5)
  obtain ⟨v0,⟨A1,n1,c1'⟩,⟨A2,n2,c2'⟩⟩:=v
  have hpz:=hr5.lt
  have hz2 : w.heap.size < w2.heap.size:=by
   have:=hB4.lt
   simpa using this
  have c3':=hr5.c3
  rw [ez2] at c3'
  have f3':=hr5.f 3
  have hk5 : w5.grownBy (w5.setCell ⟨p,3,none⟩ (.int .i64 (d : Int))) (some p):=only_setCell (only_refl _ _) (p:=⟨p,3,none⟩) (.inl rfl) _
  have hp6 : PatX (w5.setCell ⟨p,3,none⟩ (.int .i64 (d : Int))) (fun b=>w2.heap.size≤b) pat (v0,(A1,n1,c1'),(A2,n2,c2')):=PatX.keep ((KeepX.same (fun b h _=>by simpa using h)).trans (KeepX.grown hk5 (fun r hr h=>by injection hr with hr;subst hr;omega))) hp5
  have hal : Below (w5.setCell ⟨p,3,none⟩ (.int .i64 (d : Int))).heap.size (w5.setCell ⟨p,3,none⟩ (.int .i64 (d : Int))) ((w5.setCell ⟨p,3,none⟩ (.int .i64 (d : Int))).alloc (.cells #[.int .i64 (v0 : Int),.slice A1 n1 c1',.slice A2 n2 c2'] 221)):=(Below.refl _ _).alloc (Nat.le_refl _) _
  have hr7:=(hr5.setDepth d).below hal
  have hB7:=(hB5.far (p:=⟨p,3,none⟩) (by simp;omega) (.int .i64 (d : Int))).below hal
  have hp7:=hp6.below hal
  have hg7:=only_below (only_trans hg15 hk5) hal
  have hN7 : Blk ((w5.setCell ⟨p,3,none⟩ (.int .i64 (d : Int))).alloc (.cells #[.int .i64 (v0 : Int),.slice A1 n1 c1',.slice A2 n2 c2'] 221)) w5.heap.size 221 #[.int .i64 (v0 : Int),.slice A1 n1 c1',.slice A2 n2 c2']:=by
   have h:=Blk.new (w5.setCell ⟨p,3,none⟩ (.int .i64 (d : Int))) 221 #[.int .i64 (v0 : Int),.slice A1 n1 c1',.slice A2 n2 c2']
   simpa using h
  clear HP1 hd5 hr5 hB4 hg4 hg5 hp5 c1 c3 d3 f1 f3 td t40 hk5 hp6 hal hB5 hg15
  simp only [valPt]
  go_wp2_with fail
  clear c3' f3'
  generalize (w5.setCell ⟨p,3,none⟩ (.int .i64 (d : Int))).alloc (.cells #[.int .i64 (v0 : Int),.slice A1 n1 c1',.slice A2 n2 c2'] 221) = V at hr7 hB7 hp7 hg7 hN7 ⊢
  generalize w5.heap.size = g at hN7 hpz ⊢
  have c0:=hr7.c0
  have c1:=hr7.c1
  have c5:=hr7.c5
  have td : decide (s.size≤x5) = false:=decide_eq_false (by omega)
  go_quiet (fail)
  have f1:=hr7.f 1
  have hr8:=(hr7.drewN nq).setAt (x5+1)
  have ez5 : ((x5+1 : Nat) : Int) = (x5 : Int)+1:=by omega
  rw [ez5] at hr8
  have hB8:=(hB7.drewN nq).far (p:=⟨p,1,none⟩) (by simp;omega) (.int .i64 ((x5 : Int)+1))
  have hN8:=(hN7.drewN nq).far (p:=⟨p,1,none⟩) (by simp;omega) (.int .i64 ((x5 : Int)+1))
  have hg8:=only_setCell (only_drewN hg7 nq) (p:=⟨p,1,none⟩) (.inl rfl) (.int .i64 ((x5 : Int)+1))
  have hk8 : V.grownBy ((V.drewN nq).setCell ⟨p,1,none⟩ (.int .i64 ((x5 : Int)+1))) (some p):=only_setCell (only_drewN (only_refl _ _) nq) (p:=⟨p,1,none⟩) (.inl rfl) _
  have hp8 : PatX ((V.drewN nq).setCell ⟨p,1,none⟩ (.int .i64 ((x5 : Int)+1))) (fun b=>w2.heap.size≤b) pat (v0,(A1,n1,c1'),(A2,n2,c2')):=PatX.keep (KeepX.grown hk8 (fun r hr h=>by injection hr with hr;subst hr;omega)) hp7
  have HQ:=Lib.hid (pt_end (v0,(A1,n1,c1'),(A2,n2,c2')) hB8 hr8 hpw HAw.out hg8 hz2 hp8)
  clear hB7 hp7 hg7 hN7 hr7 hp8 hg8 hr8 hk8 ez5
  have z0:=hB8.cell 0
  have z1:=hB8.cell 1
  have z2:=hB8.cell 2
  have n0:=hN8.cell 0
  have n1':=hN8.cell 1
  have n2':=hN8.cell 2
  simp only [zG,zI,zH] at z0 z1 z2 n0 n1' n2'
  have g0:=hB8.frozen 0
  have g1:=hB8.frozen 1
  have g2:=hB8.frozen 2
  clear hB8 hN8
  go_wp2
  obtain ⟨q1,q2,q3,q4⟩:=HQ.out
  refine bodyPost_ret (res_atom _ w.heap.size (v0,(A1,n1,c1'),(A2,n2,c2')) _ rfl (PCell.of_blk q1)) rfl ?_
  exact ⟨_,_,rfl,q2,hdr5.out,by omega,q3,q4⟩
 ·have t40 : ((c.toNat : Int) == 40) = false:=by rw [beq_eq_false_iff_ne];omega
  have t91 : ((c.toNat : Int) == 91) = true:=by rw [beq_iff_eq];omega
  have HL:=Lib.hid (jlist_any p s A nn cn names x d k f b r1 rest acc w1 hr hk hxs hs hnz (by rw [Hdr.out];exact hsk2) hlg)
  clear HC Hcs hc hsk2 hlg c1 f1 ez
  subst hk1 hpe
  go_wp2_with fail
  refine HL.out.mono ?_
  rintro e w7 ⟨v,x7,rfl,hr7,hd7,hx7,hg7,hp7⟩
  have hB7:=hB1.grown hg7 (fun e=>by injection e with e;omega)
  obtain ⟨q1,q2,q3,q4⟩:=pt_end v hB7 hr7 hpw HAw.out (only_trans hg1 hg7) hB1.lt hp7
  have z0:=hB7.cell 0
  have z1:=hB7.cell 1
  have z2:=hB7.cell 2
  simp only [zG,zI,zH] at z0 z1 z2
  have g0:=hB7.frozen 0
  have g1:=hB7.frozen 1
  have g2:=hB7.frozen 2
  have HQ:=Lib.hid (And.intro q1 (And.intro q2 (And.intro q3 q4)))
  clear hr7 hB7 hp7 hg7 q1 q2 q3 q4 HL
  obtain ⟨v0,⟨A1,n1,c1'⟩,⟨A2,n2,c2'⟩⟩:=v
  simp only [valPt]
  go_wp2
  obtain ⟨q1,q2,q3,q4⟩:=HQ.out
  refine bodyPost_ret (res_atom _ w.heap.size (v0,(A1,n1,c1'),(A2,n2,c2')) _ rfl (PCell.of_blk q1)) rfl ?_
  exact ⟨_,x7,rfl,q2,hd7,hx7,q3,q4⟩
 ·have t40 : ((c.toNat : Int) == 40) = false:=by rw [beq_eq_false_iff_ne];omega
  have t91 : ((c.toNat : Int) == 91) = false:=by rw [beq_eq_false_iff_ne];omega
  have t46 : ((c.toNat : Int) == 46) = true:=by rw [beq_iff_eq];omega
  have HC1:=Lib.hid (HC.out x (x : Int) w1 hr)
  clear HC Hcs hc
  subst hk1 hpe
  go_wp2_with fail
  refine HC1.out.mono ?_
  rintro e w2 ⟨rfl,hr2,hg2⟩
  have hB2:=hB1.grown hg2 (fun e=>by injection e with e;omega)
  have hg12:=only_trans hg1 hg2
  have hr3:=hr2.setAt (x+1)
  rw [ez] at hr3
  have c1:=hr2.c1
  have f1:=hr2.f 1
  have hB3:=hB2.far (p:=⟨p,1,none⟩) (by simp;omega) (.int .i64 ((x : Int)+1))
  have hg3:=only_setCell hg12 (p:=⟨p,1,none⟩) (.inl rfl) (.int .i64 ((x : Int)+1))
  clear HC1 hr2 hg2 hB1 hg1 hB2 hg12 ez hr
  go_wp2_with fail
  clear c1 f1
  generalize w2.setCell ⟨p,1,none⟩ (.int .i64 ((x : Int)+1)) = V at hr3 hB3 hg3 ⊢
  have c2:=hr3.c2
  obtain ⟨j0,hj0,hy0,hy1,hy2⟩:=info_parts infoBoD
  refine wp_region_last (S:=fun U=>U.cell? ⟨p,2,none⟩ = some (.slice A nn cn)) 12 rfl (by kernel_rfl) (by kernel_rfl) (by kernel_rfl) hr3.drew.c2 (fun hHeld=>?_)
  simp only [List.dropLast_cons_cons,List.dropLast_singleton]
  refine tkH (i:=0) (v:=?_) rfl ?_ ?_;rotate_left;focus ((intro w hSw;(try dsimp only at hSw);go_simp);try with_reducible rfl)
  (try simp only [Act.put,zA,zC,zD,zE,zF])
  refine tkH (i:=1) (v:=?_) rfl ?_ ?_;rotate_left;focus ((intro w hSw;(try dsimp only at hSw);go_simp);try with_reducible rfl)
  (try simp only [Act.put,zA,zB,zC,zD,zE,zF])
  refine tkH (i:=2) (v:=?_) rfl ?_ ?_;rotate_left;focus ((intro w hSw;(try dsimp only at hSw);go_simp);try with_reducible rfl)
  (try simp only [Act.put,zA,zB,zC,zD,zE,zF])
  refine tkH (i:=3) (v:=?_) rfl ?_ ?_;rotate_left;focus ((intro w hSw;(try dsimp only at hSw);go_simp);try with_reducible rfl)
  (try simp only [Act.put,zA,zB,zC,zD,zE,zF])
  refine tkH (i:=4) (v:=?_) rfl ?_ ?_;rotate_left;focus ((intro w hSw;(try dsimp only at hSw);go_simp);try with_reducible rfl)
  (try simp only [Act.put,zA,zB,zC,zD,zE,zF])
  refine tkH (i:=5) (v:=?_) rfl ?_ ?_;rotate_left;focus ((intro w hSw;(try dsimp only at hSw);go_simp);try with_reducible rfl)
  (try simp only [Act.put,zA,zB,zC,zD,zE,zF])
  refine tkH (i:=6) (v:=?_) rfl ?_ ?_;rotate_left;focus ((intro w hSw;(try dsimp only at hSw);go_simp);try with_reducible rfl)
  (try simp only [Act.put,zA,zB,zC,zD,zE,zF])
  refine tkH (i:=7) (v:=?_) rfl ?_ ?_;rotate_left;focus ((intro w hSw;(try dsimp only at hSw);go_simp);try with_reducible rfl)
  (try simp only [Act.put,zA,zB,zC,zD,zE,zF])
  refine tkH (i:=8) (v:=?_) rfl ?_ ?_;rotate_left;focus ((intro w hSw;(try dsimp only at hSw);go_simp);try with_reducible rfl)
  (try simp only [Act.put,zA,zB,zC,zD,zE,zF])
  refine tkH (i:=9) (v:=?_) rfl ?_ ?_;rotate_left;focus ((intro w hSw;(try dsimp only at hSw);go_simp);try with_reducible rfl)
  (try simp only [Act.put,zA,zB,zC,zD,zE,zF])
  refine wpAnyH_ready (rs:=[10]) (by kernel_rfl) (by simp) ?_
  refine AllReadyH.cons rfl (fun K hK=>?_) AllReadyH.nil
  refine step_make rfl (.tmp 112) (.tmp 112) 346 rfl (w.heap.size+1) 4 j0 (.bool false) 1 Tryz.underlying346 hj0 hy0 hy1 .i64 .i64 _ _ nn rfl rfl (by omega) (by omega) (by rw [hy2];omega) (by unfold maxLen;omega) (by have:=hB3.lt;show w.heap.size+1≤V.heap.size;omega) ?_
  intro w4 ho4 hg4
  have hr4:=(hr3.drew).below (below_new hg4)
  have hB4:=(hB3.drew).below (below_new hg4)
  have hg40:=only_below (only_drew hg3) (below_new hg4)
  have HO : Own w4 (w.heap.size+1) 4 1 (some ⟨V.heap.size,0,none⟩) nn nn ((marksP [] nn).map encBo):=⟨by simp [marks_len],fun y hy=>(encBo_ok _ y hy).1,by rw [marks_nil,← made_noB];exact ho4⟩
  refine hK.out _ _ hr4.c2 (fun hHeld=>?_)
  clear hK K
  (try simp only [Act.put,zA,zB,zC,zD,zE,zF])
  refine wpAnyH_ready (rs:=[11]) (by kernel_rfl) (by simp) ?_
  refine AllReadyH.cons rfl (fun K hK=>?_) AllReadyH.nil
  go_simp
  refine (jfrom_any nn _ nn nn (marksP [] nn) true w4 (HO.rd (by decide)) (marks_len _ _) rfl hnz).mono ?_
  rintro e w7 ⟨v,rfl,hp7,hb7⟩
  rw [pick_marks] at hp7
  have hr7:=hr4.below hb7
  have hB7:=hB4.below hb7
  have hg7:=only_below hg40 hb7
  have hz7:=hB4.lt
  (try go_simp)
  refine hK.out _ _ hr7.c2 (fun hHeld=>?_)
  clear hK K
  (try simp only [Act.put,zA,zB,zC,zD,zE,zF])
  refine wpAnyH_done (by kernel_rfl) ?_ _
  obtain ⟨q1,q2,q3,q4⟩:=pt_end v hB7 hr7 hpw HAw.out hg7 hz7 hp7
  have z0:=hB7.cell 0
  have z1:=hB7.cell 1
  have z2:=hB7.cell 2
  simp only [zG,zI,zH] at z0 z1 z2
  have g0:=hB7.frozen 0
  have g1:=hB7.frozen 1
  have g2:=hB7.frozen 2
  have HQ:=Lib.hid (And.intro q1 (And.intro q2 (And.intro q3 q4)))
  clear hr7 hB7 hp7 hg7 q1 q2 q3 q4 hr3 hB3 hg3 hr4 hB4 hg40 HO
  obtain ⟨v0,⟨A1,n1,c1'⟩,⟨A2,n2,c2'⟩⟩:=v
  simp only [valPt]
  refine tailQ_end (wpOp_step (i:=12) rfl (fun K hK=>?_))
  go_simp
  refine hK _ _ ?_
  clear hK K
  go_wp2
  obtain ⟨q1,q2,q3,q4⟩:=HQ.out
  refine bodyPost_ret (res_atom _ w.heap.size (v0,(A1,n1,c1'),(A2,n2,c2')) _ rfl (PCell.of_blk q1)) rfl ?_
  exact ⟨_,_,rfl,q2,Hdr.out,by omega,q3,q4⟩
 ·have t40 : ((c.toNat : Int) == 40) = false:=by rw [beq_eq_false_iff_ne];omega
  have t91 : ((c.toNat : Int) == 91) = false:=by rw [beq_eq_false_iff_ne];omega
  have t46 : ((c.toNat : Int) == 46) = false:=by rw [beq_eq_false_iff_ne];omega
  have HC1:=Lib.hid (HC.out x (x : Int) w1 hr)
  clear HC Hcs hc1 hc2 hc3
  go_wp2_with fail
  refine HC1.out.mono ?_
  rintro e w2 ⟨rfl,hr2,hg2⟩
  have HN1:=Lib.hid (jname_any p s A nn cn names x d (k+1) i0 rest w2 hr2 hx hs hnz (by rw [Hd.out];exact hpn))
  have hB2:=hB1.grown hg2 (fun e=>by injection e with e;omega)
  have hg12:=only_trans hg1 hg2
  clear HC1 hpn hr2 hg2 hB1 hg1 c1 f1 ez
  subst hk1 hpe
  go_wp2_with fail
  refine HN1.out.mono ?_
  rintro e w3 ⟨rfl,x3,hr3,hd7,hx7,hg3⟩
  have hB3:=hB2.grown hg3 (fun e=>by injection e with e;omega)
  have hg13:=only_trans hg12 hg3
  go_wp2_with fail
  refine (jone_any i0 w3).mono ?_
  rintro e w7 ⟨v,rfl,hp7,hb7⟩
  have hB7:=hB3.below hb7
  have hr7:=hr3.below hb7
  have hg7:=only_below hg13 hb7
  have hz7:=hB3.lt
  clear HN1 hr3 hB3 hg13 hg3 hB2 hg12
  obtain ⟨q1,q2,q3,q4⟩:=pt_end v hB7 hr7 hpw HAw.out hg7 hz7 hp7
  have z0:=hB7.cell 0
  have z1:=hB7.cell 1
  have z2:=hB7.cell 2
  simp only [zG,zI,zH] at z0 z1 z2
  have g0:=hB7.frozen 0
  have g1:=hB7.frozen 1
  have g2:=hB7.frozen 2
  have HQ:=Lib.hid (And.intro q1 (And.intro q2 (And.intro q3 q4)))
  clear hr7 hB7 hp7 hg7 q1 q2 q3 q4
  obtain ⟨v0,⟨A1,n1,c1'⟩,⟨A2,n2,c2'⟩⟩:=v
  simp only [valPt]
  go_wp2
  obtain ⟨q1,q2,q3,q4⟩:=HQ.out
  refine bodyPost_ret (res_atom _ w.heap.size (v0,(A1,n1,c1'),(A2,n2,c2')) _ rfl (PCell.of_blk q1)) rfl ?_
  exact ⟨_,_,rfl,q2,hd7,hx7,q3,q4⟩
end
end Go.Proofs.YtlfpdpbbkjnapaaGreatDoor
