/- -/
import Derived.Test.YtglmcknlnoknoaaGreatDoorV5a
import Derived.Test.YtglmcknlnoknoaaGreatDoorV0a
namespace Go.Proofs.YtglmcknlnoknoaaGreatDoor
set_option maxRecDepth 100000
set_option maxHeartbeats 40000000
section
open Go.RowKit
theorem guardC (op : BinOp) (x y : Operand) (xs ys : Array Value) (w : World) : (eqGuard op 40 x y (.agg xs) (.agg ys)).run Tryz.prog w = .ok () w :=
 run_eqGuard_agg w op _ x y xs ys (by kernel_rfl)
theorem eqlC (a : Int) (m : Bool) (w : World) : (binOp .eql 40 (.agg #[.int .i64 a,.bool m]) (.agg #[.int .i64 a,.bool m])).run Tryz.prog w = .ok (.bool true) w:=by
 have hS : Tryz.prog.underlying 40 = some (.struct (Tryz.prog.fieldsOf 40)):=by kernel_rfl
 have hp : Tryz.prog.stoodInHeld 40 = false:=by kernel_rfl
 have u3:=Tryz.underlying3
 have a3:=Tryz.isAgg3
 have z3:=Tryz.sizeOf3
 have u4:=Tryz.underlying4
 have a4:=Tryz.isAgg4
 have z4:=Tryz.sizeOf4
 rw [run_eql_struct,show (10000 : Nat) = 9999+1 from rfl,run_equalIn_agg w 9999 _ _ _ hS hp]
 simp only [Program.fieldsOf,Tryz.underlying40]
 go_simp
theorem neqC (a : Int) (m : Bool) (w : World) : (binOp .neq 40 (.agg #[.int .i64 a,.bool m]) (.agg #[.int .i64 a,.bool m])).run Tryz.prog w = .ok (.bool false) w:=by
 have h:=eqlC a m w
 rw [run_eql_struct] at h
 rw [run_neq_struct]
 cases hq : (Op.equalIn 10000 40 (.agg #[.int .i64 a,.bool m]) (.agg #[.int .i64 a,.bool m])).run Tryz.prog w with
 | ok b' w'=>rw [hq] at h;simp at h;simp [h]
 | _=>rw [hq] at h;simp at h
theorem ychances_any (A B : Option Addr) (n c e : Nat) (l : List (Nat × Bool)) (w : World) (hA : Rd w 2 A (l.map encC)) (hB : Rd w 2 B (l.map encC)) (hl : l.length = n) (hn : n≤4000000) :
  Calls Tryz.prog 93 #[.slice A n c,.slice B n e] w fun e w'=>e = .returned (.bool true)∧Below w.heap.size w w':=by
 have Hl:=Lib.hid hl
 have hg:=guardC
 clear hl
 go_enter Tryz.func93,Tryz.ntmps93
 go_wp2
 go_loopw [5] (fun v wr=>∃ i k : Nat,v = .int .i64 i∧i≤n∧wr = w.drewN k) (fun v _=>n - (intOf v).toNat)
 case atStart=>exact ⟨0,0,rfl,by omega,rfl⟩
 case round =>
  obtain ⟨i,k,rfl,hi,rfl⟩:=hrel
  by_cases hlt : i < n
  ·obtain ⟨⟨a,m⟩,Hx⟩ : ∃ x,Hid (l[i]? = some x):=⟨_,Lib.hid (List.getElem?_eq_getElem (show i < l.length by have:=Hl.out;omega))⟩
   obtain ⟨b,off,rfl,h1,h2⟩:=hA.atC Hx.out
   obtain ⟨b',off',rfl,k1,k2⟩:=hB.atC Hx.out
   simp only at h1 h2 k1 k2
   have hq:=fun W=>neqC (a : Nat) m W
   go_wp2_with fail
   go_quiet (fail)
   go_wp2
   go_roundw
   case rel=>exact ⟨i+1,_,by go_num,by omega,by first | rfl | exact World.drewN_drewN _ _ _⟩
   case measure=>simp [intOf];omega
  ·go_wp2
   go_ret
   exact ⟨rfl,below_refl_drewN w k⟩
theorem live_chances : lChances gL ⟨#[97,32,98,10,99]⟩ = [(2,false),(4,true),(5,true)]:=by kernel_rfl
theorem live_prev : prevGo 3 (lChances gL ⟨#[97,32,98]⟩) ((0,false),false) = ((2,false),true):=by kernel_rfl
theorem live_kind : kinP (lChances gL ⟨#[97,32,98]⟩) 2 = 1:=by kernel_rfl
theorem live_trail : trailP gL ⟨#[97,98,32,10]⟩ = 2:=by kernel_rfl
theorem ylive_any (w : World) (hE : Env w) : Calls Tryz.prog 30 #[] w fun e w'=>e = .returned (.bool true)∧Below w.heap.size w w':=by
 have H1:=Lib.hid (tChances_any ⟨#[97,32,98,10,99]⟩ w hE (by decide))
 have H2:=Lib.hid (fun W (h : Env W)=>tPrev_any ⟨#[97,32,98]⟩ 3 W h (by decide))
 have H3:=Lib.hid (fun W (h : Env W)=>tKind_any ⟨#[97,32,98]⟩ 2 W h (by decide))
 have H4:=Lib.hid (fun W (h : Env W)=>tTrail_any ⟨#[97,98,32,10]⟩ W h (by decide))
 rw [live_chances] at H1
 simp only [live_prev] at H2
 simp only [live_kind] at H3
 simp only [live_trail] at H4
 go_enter Tryz.func30,Tryz.ntmps30
 go_wp2_with fail
 refine H1.out.mono ?_
 rintro e w1 ⟨A,n,c,rfl,ho,hb1⟩
 obtain rfl : 3 = n:=ho.len
 go_wp2_with fail
 refine (H2.out _ (hE.below hb1)).mono ?_
 rintro e w2 ⟨rfl,hb2⟩
 have hbb:=below_two hb1 hb2
 have ho:=ho.below hb2
 have hB:=Blk.new w2 40 #[.int .i64 2,.bool false]
 have hb3 : Below w.heap.size w (w2.alloc (.cells #[.int .i64 2,.bool false] 40)):=hbb.alloc hbb.size _
 have ho:=ho.alloc (.cells #[.int .i64 2,.bool false] 40)
 have d0:=hB.cell 0
 simp only [zG,zH] at d0
 have hb4 : Below w.heap.size w ((w2.alloc (.cells #[.int .i64 2,.bool false] 40)).alloc (.cells #[.int .i64 2,.bool false,.int .i64 4,.bool true,.int .i64 5,.bool true] 40)):=hb3.alloc hb3.size _
 have ho:=ho.alloc (.cells #[.int .i64 2,.bool false,.int .i64 4,.bool true,.int .i64 5,.bool true] 40)
 have hr:=Rd.many (w2.alloc (.cells #[.int .i64 2,.bool false] 40)) 40 2 ([((2 : Nat),false),(4,true),(5,true)].map encC) #[.int .i64 2,.bool false,.int .i64 4,.bool true,.int .i64 5,.bool true] rfl (by intro x hx;obtain ⟨y,_,rfl⟩:=List.mem_map.1 hx;rfl)
 rw [show (w2.alloc (.cells #[.int .i64 2,.bool false] 40)).heap.size = w2.heap.size+1 by simp] at hr
 have HY:=Lib.hid (ychances_any A (some ⟨w2.heap.size+1,0,none⟩) 3 c 3 [((2 : Nat),false),(4,true),(5,true)] _ (ho.rd (by decide)) hr rfl (by omega))
 have d0:=cell_keep d0 ((Below.refl _ _).alloc (Nat.le_refl _) (.cells #[.int .i64 2,.bool false,.int .i64 4,.bool true,.int .i64 5,.bool true] 40))
 clear H1 H2 hr ho hB hb3 hbb
 go_wp2_with fail
 refine HY.out.mono ?_
 rintro e w3 ⟨rfl,hb5⟩
 have d0:=cell_keep d0 hb5
 have hb6:=below_step hb4 hb5 hb4.size
 go_wp2_with fail
 refine (H3.out _ (hE.below hb6)).mono ?_
 rintro e w4 ⟨rfl,hb7⟩
 have d0:=cell_keep d0 hb7
 have hb8:=below_step hb6 hb7 hb6.size
 go_wp2_with fail
 refine (H4.out _ (hE.below hb8)).mono ?_
 rintro e w5 ⟨rfl,hb9⟩
 have d0:=cell_keep d0 hb9
 have hb10:=below_step hb8 hb9 hb8.size
 go_wp2
 go_ret
 exact ⟨rfl,hb10⟩
end
end Go.Proofs.YtglmcknlnoknoaaGreatDoor
