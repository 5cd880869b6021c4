/- -/
import Derived.Defers
import Derived.Recover
import Derived.RegionTactic
import Derived.ChangeAlike
import Derived.WalkMore
import Derived.RegionDies
import Derived.Deep.RegionHeld3
import Derived.Lib.ByteType
import Derived.Test.YtlfpdpbbkjnapaaGreatDoorPRdr2
import Derived.Test.YtlfpdpbbkjnapaaGreatDoorPRunA
import Derived.Test.YtlfpdpbbkjnapaaGreatDoorPRefX
namespace Go.Proofs.YtlfpdpbbkjnapaaGreatDoor
set_option maxRecDepth 100000
set_option maxHeartbeats 40000000
section
open Go.RowKit
theorem assertFault (e a : Int) (W : World) : (Instr.typeAssert (.iface 290 (.agg #[.int .i64 e,.int .i64 a])) 20 290 true).run Tryz.prog W = .ok (.tuple #[.agg #[.int .i64 e,.int .i64 a],.bool true]) W:=by kernel_rfl
theorem parse_catch (n : Nat) (v0 v1 v2 : Value) (e a : Int) (older : List PanicEntry) (w : World)
  (c0 : w.cell? ⟨n,0,none⟩ = some v0) (c1 : w.cell? ⟨n+1,0,none⟩ = some v1) (c2 : w.cell? ⟨n+2,0,none⟩ = some v2)
  (f0 : w.frozen? ⟨n,0,none⟩ = false) (f1 : w.frozen? ⟨n+1,0,none⟩ = false) (f2 : w.frozen? ⟨n+2,0,none⟩ = false) :
  CallsD Tryz.prog 232 #[.pointer (some ⟨n,0,none⟩),.pointer (some ⟨n+1,0,none⟩),.pointer (some ⟨n+2,0,none⟩)] (.panicking ({ v:=.iface 290 (.agg #[.int .i64 e,.int .i64 a]),recovered:=false } :: older)) w fun en u' w' =>
   en = .returned (.tuple #[])∧u' = .panicking ({ v:=.iface 290 (.agg #[.int .i64 e,.int .i64 a]),recovered:=true } :: older)∧w' = ((((w.alloc (.cells #[.int .i64 e,.int .i64 a] 290)).setCell ⟨n,0,none⟩ (.slice none 0 0)).setCell ⟨n+1,0,none⟩ (.int .i64 e)).setCell ⟨n+2,0,none⟩ (.int .i64 a)).drew:=by
 refine callsD_of_wpS Tryz.func232 rfl fun c₀ cs hu=>?_
 apply wpS_seq
 apply wpS_region
 simp [wpOpsS,go_sem,recoverD,hu,Tryz.ntmps232,Exit.thenS]
 generalize hfr : #[Value.pointer (some ⟨n,0,none⟩),Value.pointer (some ⟨n+1,0,none⟩),Value.pointer (some ⟨n+2,0,none⟩)]++_ = fr
 have hfr2 : fr = #[Value.pointer (some ⟨n,0,none⟩),Value.pointer (some ⟨n+1,0,none⟩),Value.pointer (some ⟨n+2,0,none⟩),.iface 290 (.agg #[.int .i64 e,.int .i64 a]),undef,undef,.iface 290 (.agg #[.int .i64 e,.int .i64 a]),undef,undef,undef,undef,undef,undef,undef,undef,undef,undef,undef,undef,undef,undef]:=by rw [← hfr];rfl
 clear hfr
 subst hfr2
 refine wpS_of_wp ?_
 have Hu:=Lib.hid hu
 have hta:=assertFault e a
 clear hu
 go_wp2_with fail
 have k0 : (w.alloc (.cells #[.int .i64 e,.int .i64 a] 290)).cell? ⟨n,0,none⟩ = some v0:=cell_keep c0 ((Below.refl _ _).alloc (Nat.le_refl _) _)
 have k1 : (w.alloc (.cells #[.int .i64 e,.int .i64 a] 290)).cell? ⟨n+1,0,none⟩ = some v1:=cell_keep c1 ((Below.refl _ _).alloc (Nat.le_refl _) _)
 have k2 : (w.alloc (.cells #[.int .i64 e,.int .i64 a] 290)).cell? ⟨n+2,0,none⟩ = some v2:=cell_keep c2 ((Below.refl _ _).alloc (Nat.le_refl _) _)
 have g0 : (w.alloc (.cells #[.int .i64 e,.int .i64 a] 290)).frozen? ⟨n,0,none⟩ = false:=(((Below.refl w.heap.size w).alloc (Nat.le_refl _) _).frozen (p:=⟨n,0,none⟩) (cell_lt c0)).trans f0
 have g1 : (w.alloc (.cells #[.int .i64 e,.int .i64 a] 290)).frozen? ⟨n+1,0,none⟩ = false:=(((Below.refl w.heap.size w).alloc (Nat.le_refl _) _).frozen (p:=⟨n+1,0,none⟩) (cell_lt c1)).trans f1
 have g2 : (w.alloc (.cells #[.int .i64 e,.int .i64 a] 290)).frozen? ⟨n+2,0,none⟩ = false:=(((Below.refl w.heap.size w).alloc (Nat.le_refl _) _).frozen (p:=⟨n+2,0,none⟩) (cell_lt c2)).trans f2
 have x0 : (w.alloc (.cells #[.int .i64 e,.int .i64 a] 290)).cell? ⟨w.heap.size,0,none⟩ = some (.int .i64 e):=by simp
 have x1 : (w.alloc (.cells #[.int .i64 e,.int .i64 a] 290)).cell? ⟨w.heap.size,1,none⟩ = some (.int .i64 a):=by simp
 have hm : n+2 < w.heap.size:=cell_lt c2
 clear c0 c1 c2 f0 f1 f2 hta
 generalize hwq : w.alloc (.cells #[.int .i64 e,.int .i64 a] 290) = wq at k0 k1 k2 g0 g1 g2 x0 x1 ⊢
 have e0 : ¬ w.heap.size = n:=by omega
 have e1 : ¬ w.heap.size = n+1:=by omega
 generalize w.heap.size = m at x0 x1 hm e0 e1 ⊢
 go_region
 have hu:=Hu.out
 subst hwq
 cases c₀
 simp only at hu
 simp +zetaDelta [bodyPostS,results,Tryz.results232]
theorem parse_idle (n : Nat) (w : World) :
  CallsD Tryz.prog 232 #[.pointer (some ⟨n,0,none⟩),.pointer (some ⟨n+1,0,none⟩),.pointer (some ⟨n+2,0,none⟩)] .returning w fun en u' w' =>
   en = .returned (.tuple #[])∧u' = .returning∧w' = w:=by
 have hnn : ∀ w,(binOp .neq 20 .nilIface .nilIface).run Tryz.prog w = .ok (.bool false) w:=fun w=>Lib.run_neq_nil_nil (ms:=#[]) w (by kernel_rfl)
 refine callsD_of_wpS Tryz.func232 rfl fun c₀ cs hu=>?_
 apply wpS_seq
 apply wpS_region
 simp [wpOpsS,go_sem,recoverD,hu,Tryz.ntmps232,Exit.thenS]
 generalize hfr : #[Value.pointer (some ⟨n,0,none⟩),Value.pointer (some ⟨n+1,0,none⟩),Value.pointer (some ⟨n+2,0,none⟩)]++_ = fr
 have hfr2 : fr = #[Value.pointer (some ⟨n,0,none⟩),Value.pointer (some ⟨n+1,0,none⟩),Value.pointer (some ⟨n+2,0,none⟩),.nilIface,undef,undef,.nilIface,undef,undef,undef,undef,undef,undef,undef,undef,undef,undef,undef,undef,undef,undef]:=by rw [← hfr];rfl
 clear hfr
 subst hfr2
 refine wpS_of_wp ?_
 have Hu:=Lib.hid hu
 clear hu
 go_wp2_with fail
 have hu:=Hu.out
 cases c₀
 simp only at hu
 simp +zetaDelta [bodyPostS,hu,results,Tryz.results232]
theorem rParse_any (s : ByteArray) (w : World) (hT : Tabs w) (hs : s.size≤1000000) :
  Calls Tryz.prog 198 #[.string s] w fun e w'=>Below w.heap.size w w'∧ParseEnd w.heap.size (parseP s) e w':=by
 obtain ⟨i0,hi0,hz0,hz1,hz2⟩:=info_parts infoR
 have hmf : ∀ (fn : Fn) (first cap : Array Value) (w : World),(Instr.makeFunc fn first cap).run Tryz.prog w = .ok (.func fn first cap) w:=fun _ _ _ _=>rfl
 go_enter_defers Tryz.func198,Tryz.ntmps198
 go_wp2
 go_step3
 go_wp2_with fail
 go_step3
 go_wp2_with fail
 have hR0 : Rdr (((((w.alloc (.cells #[.slice none 0 0] 239)).alloc (.cells #[.int .i64 0] 61)).alloc (.cells #[.int .i64 0] 3))).alloc (.cells #[.string s,.int .i64 0] 294)) (w.heap.size+3) s 0:=by
  have:=Blk.new (((w.alloc (.cells #[.slice none 0 0] 239)).alloc (.cells #[.int .i64 0] 61)).alloc (.cells #[.int .i64 0] 3)) 294 #[.string s,.int .i64 0]
  rwa [show (((w.alloc (.cells #[.slice none 0 0] 239)).alloc (.cells #[.int .i64 0] 61)).alloc (.cells #[.int .i64 0] 3)).heap.size = w.heap.size+3 by simp] at this
 have hB0 : Blk (((((w.alloc (.cells #[.slice none 0 0] 239)).alloc (.cells #[.int .i64 0] 61)).alloc (.cells #[.int .i64 0] 3))).alloc (.cells #[.string s,.int .i64 0] 294)) w.heap.size 239 #[.slice none 0 0]:=((((Blk.new w _ _).alloc _).alloc _).alloc _)
 have hB1 : Blk (((((w.alloc (.cells #[.slice none 0 0] 239)).alloc (.cells #[.int .i64 0] 61)).alloc (.cells #[.int .i64 0] 3))).alloc (.cells #[.string s,.int .i64 0] 294)) (w.heap.size+1) 61 #[.int .i64 0]:=by
  have:=((Blk.new (w.alloc (.cells #[.slice none 0 0] 239)) 61 #[.int .i64 0]).alloc (.cells #[.int .i64 0] 3)).alloc (.cells #[.string s,.int .i64 0] 294)
  simpa using this
 have hB2 : Blk (((((w.alloc (.cells #[.slice none 0 0] 239)).alloc (.cells #[.int .i64 0] 61)).alloc (.cells #[.int .i64 0] 3))).alloc (.cells #[.string s,.int .i64 0] 294)) (w.heap.size+2) 3 #[.int .i64 0]:=by
  have:=(Blk.new ((w.alloc (.cells #[.slice none 0 0] 239)).alloc (.cells #[.int .i64 0] 61)) 3 #[.int .i64 0]).alloc (.cells #[.string s,.int .i64 0] 294)
  simpa using this
 have hbw : Below w.heap.size w (((((w.alloc (.cells #[.slice none 0 0] 239)).alloc (.cells #[.int .i64 0] 61)).alloc (.cells #[.int .i64 0] 3))).alloc (.cells #[.string s,.int .i64 0] 294)):=by
  refine ((((Below.refl _ _).alloc (Nat.le_refl _) _).alloc ?_ _).alloc ?_ _).alloc ?_ _ <;> simp <;> omega
 generalize hbx : (((((w.alloc (.cells #[.slice none 0 0] 239)).alloc (.cells #[.int .i64 0] 61)).alloc (.cells #[.int .i64 0] 3))).alloc (.cells #[.string s,.int .i64 0] 294)) = w0 at hR0 hB0 hB1 hB2 hbw ⊢
 clear hbx
 go_loopw [15] (fun _ wr=>∃ (f a : Nat) (l : List (Int × Int)) (A : Option Addr) (n c : Nat),Blk wr w.heap.size 239 #[.slice A n c]∧Blk wr (w.heap.size+1) 61 #[.int .i64 0]∧Blk wr (w.heap.size+2) 3 #[.int .i64 0] ∧
   Rdr wr (w.heap.size+3) s a∧Own wr (w.heap.size+4) 262 2 A n c (l.map encR)∧n≤a∧a≤s.size∧s.size < a+f∧Hid (parseGo s f a l = parseP s)∧Below w.heap.size w wr) (fun _ wr=>s.size - atOf wr (w.heap.size+3))
 case atStart=>exact ⟨s.size+1,0,[],none,0,0,hB0,hB1,hB2,hR0,Own.nil_ _ _ _ _,by omega,by omega,by omega,rfl,hbw⟩
 case round =>
  obtain ⟨f,a,l,A,n,c,b0,b1,b2,hr,ho,hna,has,hf,HP,hb⟩:=hrel
  have hlt0 : w.heap.size+1+1+1 < wr.heap.size:=Blk.lt hr
  have c0 : wr.cell? ⟨w.heap.size+1+1+1,0,none⟩ = some (.string s):=hr.c0
  have c1 : wr.cell? ⟨w.heap.size+1+1+1,1,none⟩ = some (.int .i64 a):=hr.c1
  have f1 : wr.frozen? ⟨w.heap.size+1+1+1,1,none⟩ = false:=hr.f1
  have x0 : wr.cell? ⟨w.heap.size,0,none⟩ = some (.slice A n c):=b0.cell 0
  have y0 : wr.frozen? ⟨w.heap.size,0,none⟩ = false:=b0.frozen 0
  have Hat:=Lib.hid hr.atOf
  by_cases hlt : a < s.size
  ·obtain ⟨f,rfl⟩ : ∃ f',f = f'+1:=⟨f - 1,by omega⟩
   have HU : Hid (parseGo s (f+1) a l = if s[a]'hlt = 32 then parseGo s f (a+1) l else
     match itemP s a with
     | .error e=>.error e
     | .ok (x,q)=>parseGo s f q (l++[x])):=Lib.hid (by rw [parseGo,rest_head hlt];rfl)
   by_cases h32 : s[a]'hlt = 32
   ·have hq : (((s[a]'hlt).toNat : Int) == 32) = true:=by rw [h32];rfl
    have HP2 : Hid (parseGo s f (a+1) l = parseP s):=Lib.hid (by rw [← HP.out,HU.out,if_pos h32])
    clear h32 HU HP
    go_wp2
    have hr2 : Rdr (wr.setCell ⟨w.heap.size+3,1,none⟩ (.int .i64 (a+1 : Nat))) (w.heap.size+3) s (a+1):=Rdr.set hr (a+1)
    refine ⟨⟨f,a+1,l,A,n,c,b0.far (by simp <;> omega) _,b1.far (by simp <;> omega) _,b2.far (by simp <;> omega) _,hr2,ho.setCell (fun g hg=>by have:=(ho.lt g hg).1;simp;omega) _,by omega,by omega,by omega,HP2,hb.setCell (by simp;omega) _⟩,?_⟩
    show s.size - atOf (wr.setCell ⟨w.heap.size+3,1,none⟩ (.int .i64 (a+1 : Nat))) (w.heap.size+3) < s.size - atOf wr (w.heap.size+3)
    rw [hr2.atOf,Hat.out];omega
   ·have hq : (((s[a]'hlt).toNat : Int) == 32) = false:=by
     have:=byte_ne (n:=32) h32
     simpa using this
    have HP2 : Hid (parseP s = match itemP s a with
     | .error e=>.error e
     | .ok (x,q)=>parseGo s f q (l++[x])):=Lib.hid (by rw [← HP.out,HU.out,if_neg h32])
    clear h32 HU HP
    cases hI : itemP s a with
    | error x =>
     rw [hI] at HP2
     have HP:=Lib.hid hI
     clear hI
     go_wp2_with fail
     have hTr : Tabs wr:=hT.below hb
     (first | go_region_dies | fail)
     all_goals (refine (item_any s a (w.heap.size+3) wr.drew hTr hr has hs).mono ?_;rw [HP.out];rintro e w2 ⟨hg,rfl⟩)
     all_goals (dsimp only [faultEnd];go_wp2)
     all_goals refine leaves_cons (f:=232) (args:=#[.pointer (some ⟨w.heap.size,0,none⟩),.pointer (some ⟨w.heap.size+1,0,none⟩),.pointer (some ⟨w.heap.size+2,0,none⟩)]) (by simp) (by simp [go_sem]) ?_
     all_goals
      have b02 : Blk w2 w.heap.size 239 #[.slice A n c]:=Blk.grown (w:=wr.drew) b0 hg (by simp)
      have b12 : Blk w2 (w.heap.size+1) 61 #[.int .i64 0]:=Blk.grown (w:=wr.drew) b1 hg (by simp)
      have b22 : Blk w2 (w.heap.size+2) 3 #[.int .i64 0]:=Blk.grown (w:=wr.drew) b2 hg (by simp)
      have hgs : wr.heap.size≤w2.heap.size:=hg.size
      refine (parse_catch w.heap.size _ _ _ x.1 x.2 [] w2 (b02.cell 0) (b12.cell 0) (b22.cell 0) (b02.frozen 0) (b12.frozen 0) (b22.frozen 0)).mono ?_
      have k0:=(b02.alloc (.cells #[.int .i64 x.1,.int .i64 x.2] 290)).cell 0
      have k1:=(b12.alloc (.cells #[.int .i64 x.1,.int .i64 x.2] 290)).cell 0
      have k2:=(b22.alloc (.cells #[.int .i64 x.1,.int .i64 x.2] 290)).cell 0
      have hbw2 : Below w.heap.size w (w2.alloc (.cells #[.int .i64 x.1,.int .i64 x.2] 290)):=(below_only (only_trans (a:=w) (b:=wr) (row:=some (w.heap.size+3)) ⟨hb.os,hb.tape,hb.output,hb.size,fun i hi _=>hb.block i hi⟩ (only_trans (only_drew (only_refl wr _)) hg)) (Nat.le_refl _) (by omega)).alloc (by omega) _
      rintro en u' w3 ⟨rfl,rfl,rfl⟩
      generalize w2.alloc (.cells #[.int .i64 x.1,.int .i64 x.2] 290) = w4 at k0 k1 k2 hbw2 ⊢
      have hend : Below w.heap.size w (((w4.setCell ⟨w.heap.size,0,none⟩ (.slice none 0 0)).setCell ⟨w.heap.size+1,0,none⟩ (.int .i64 x.1)).setCell ⟨w.heap.size+2,0,none⟩ (.int .i64 x.2)).drew:=below_drewN (((hbw2.setCell (p:=⟨w.heap.size,0,none⟩) (Nat.le_refl _) _).setCell (p:=⟨w.heap.size+1,0,none⟩) (Nat.le_add_right _ 1) _).setCell (p:=⟨w.heap.size+2,0,none⟩) (Nat.le_add_right _ 2) _) 1
      have hpe:=ParseEnd.err (base:=w.heap.size) (w':=(((w4.setCell ⟨w.heap.size,0,none⟩ (.slice none 0 0)).setCell ⟨w.heap.size+1,0,none⟩ (.int .i64 x.1)).setCell ⟨w.heap.size+2,0,none⟩ (.int .i64 x.2)).drew) HP2.out
      simp [Leaves,settle,results,Tryz.results198,go_sem,k0,k1,k2]
      exact ⟨hend,hpe⟩
    | ok y =>
     obtain ⟨⟨lo,hi⟩,q⟩:=y
     rw [hI] at HP2
     have HP:=Lib.hid hI
     clear hI
     have hTr : Tabs wr:=hT.below hb
     go_wp2_with fail
     refine wp_region_noPanic ?_
     go_region_law (first
       | (go_simp;go_at_call 233;refine (item_any s a (w.heap.size+3) wr.drew hTr hr has hs).mono ?_;rw [HP.out];rintro e w2 ⟨hg,rfl,hr2⟩;have hgs : wr.heap.size≤w2.heap.size:=hg.size;have b02 : Blk w2 w.heap.size 239 #[.slice A n c]:=Blk.grown (w:=wr.drew) b0 hg (by simp);have x2:=b02.cell 0;have x2a:=(b02.alloc (.cells #[.int .i32 lo,.int .i32 hi] 262)).cell 0;have ho2:=Own.grown (w:=wr.drew) ho hg (fun g hgA=>by have:=(ho.lt g hgA).1;simp;omega))
       | (refine step_app rfl (.tmp 10) (.tmp 13) _ rfl (w.heap.size+4) 262 i0 _ 2 8 Tryz.underlying239 hi0 hz0 hz1 hz2 rfl (by omega) A n c (l.map encR) rfl (ho2.alloc _) _ 1 1 [encR (lo,hi)] rfl rfl (Rd.newAt (by simp) rfl) (encR_ok [(lo,hi)]) (by unfold maxLen;omega) (by omega) (by simp;omega) ?_;intro A3 c3 w3 ho3 hg3 hA3;have b03 : Blk w3 w.heap.size 239 #[.slice A n c]:=(b02.alloc _).grown hg3 (fun e=>by cases A with | none=>simp at e | some g=>have:=(ho.lt g rfl).1;simp at e;omega);have x3:=b03.cell 0;have y3:=b03.frozen 0))
     all_goals
      obtain ⟨hq1,hq2⟩:=itemP_ok HP.out
      refine NoPanic.normal ?_
      have hfar : ∀ k,k < 4→some (w.heap.size+k) ≠ A.map (·.block):=fun k hk e=>by cases A with | none=>simp at e | some g=>have:=(ho.lt g rfl).1;simp at e;omega
      have b13:=((Blk.grown (w:=wr.drew) b1 hg (by simp)).alloc (.cells #[.int .i32 lo,.int .i32 hi] 262)).grown hg3 (hfar 1 (by omega))
      have b23:=((Blk.grown (w:=wr.drew) b2 hg (by simp)).alloc (.cells #[.int .i32 lo,.int .i32 hi] 262)).grown hg3 (hfar 2 (by omega))
      have hr3:=(Blk.alloc hr2 (.cells #[.int .i32 lo,.int .i32 hi] 262)).grown hg3 (hfar 3 (by omega))
      go_wp2
      have hr4:=Blk.far hr3 (p:=⟨w.heap.size,0,none⟩) (by simp) (.slice A3 (n+1) c3)
      have b04:=b03.set_ 0 (.slice A3 (n+1) c3)
      have hsz3:=hg3.size
      refine ⟨⟨f,q,l++[(lo,hi)],A3,n+1,c3,b04,b13.far (by simp) _,b23.far (by simp) _,hr4,?_,by omega,hq2,by omega,HP2.out.symm,?_⟩,?_⟩
      ·rw [List.map_append]
       exact ho3.setCell (fun g hgA=>by have:=(ho3.lt g hgA).1;show g.block ≠ w.heap.size;omega) _
      ·have h1 : w.grownBy w2 (some (w.heap.size+3)):=only_trans (a:=w) (b:=wr) ⟨hb.os,hb.tape,hb.output,hb.size,fun i hi _=>hb.block i hi⟩ (only_trans (only_drew (only_refl wr _)) hg)
       exact (below_app ((below_only h1 (Nat.le_refl _) (by omega)).alloc (by omega) (.cells #[.int .i32 lo,.int .i32 hi] 262)) hg3 (by simp;omega) (fun g hgA=>by have:=(ho.lt g hgA).1;omega)).setCell (p:=⟨w.heap.size,0,none⟩) (Nat.le_refl _) _
      ·have hr5 : Rdr (w3.setCell ⟨w.heap.size,0,none⟩ (.slice A3 (n+1) c3)) (w.heap.size+3) s q:=hr4
       rw [hr5.atOf,Hat.out];omega
  ·obtain rfl : a = s.size:=by omega
   have HP2 : Hid (parseP s = .ok l):=Lib.hid (by
    rw [← HP.out]
    cases f with
    | zero=>rfl
    | succ f=>rw [parseGo,rest_none (Nat.le_refl _)];rfl)
   clear HP
   go_wp2_with fail
   refine (rNorm_any A n c l _ (ho.rd (by omega)) (by simpa using ho.len) (by omega)).mono ?_
   rintro e w2 ⟨A4,n4,c4,rfl,ho2,hb2⟩
   have b02 : Blk w2 w.heap.size 239 #[.slice A n c]:=b0.below hb2
   have b12 : Blk w2 (w.heap.size+1) 61 #[.int .i64 0]:=b1.below hb2
   have b22 : Blk w2 (w.heap.size+2) 3 #[.int .i64 0]:=b2.below hb2
   have k0:=b02.cell 0
   have k1 : w2.cell? ⟨w.heap.size+1,0,none⟩ = _:=b12.cell 0
   have k2 : w2.cell? ⟨w.heap.size+1+1,0,none⟩ = _:=b22.cell 0
   have g0:=b02.frozen 0
   have g1 : w2.frozen? ⟨w.heap.size+1,0,none⟩ = _:=b12.frozen 0
   have g2 : w2.frozen? ⟨w.heap.size+1+1,0,none⟩ = _:=b22.frozen 0
   have hbs:=hb2.size
   go_wp2
   have hb3 : Below w.heap.size w (((w2.setCell ⟨w.heap.size,0,none⟩ (.slice A4 n4 c4)).setCell ⟨w.heap.size+1,0,none⟩ (.int .i64 0)).setCell ⟨w.heap.size+1+1,0,none⟩ (.int .i64 0)) :=
    (((below_step hb hb2 hb.size).setCell (p:=⟨w.heap.size,0,none⟩) (Nat.le_refl _) _).setCell (p:=⟨w.heap.size+1,0,none⟩) (Nat.le_add_right _ 1) _).setCell (p:=⟨w.heap.size+1+1,0,none⟩) (Nat.le_add_right _ 2) _
   have r0:=(((b02.set_ 0 (.slice A4 n4 c4)).far (p:=⟨w.heap.size+1,0,none⟩) (by simp) (.int .i64 0)).far (p:=⟨w.heap.size+1+1,0,none⟩) (by simp;omega) (.int .i64 0)).cell 0
   have r1:=(((b12.far (p:=⟨w.heap.size,0,none⟩) (by simp) (.slice A4 n4 c4)).set_ 0 (.int .i64 0)).far (p:=⟨w.heap.size+1+1,0,none⟩) (by simp) (.int .i64 0)).cell 0
   have r2 : World.cell? (((w2.setCell ⟨w.heap.size,0,none⟩ (.slice A4 n4 c4)).setCell ⟨w.heap.size+1,0,none⟩ (.int .i64 0)).setCell ⟨w.heap.size+1+1,0,none⟩ (.int .i64 0)) ⟨w.heap.size+1+1,0,none⟩ = _:=(((b22.far (p:=⟨w.heap.size,0,none⟩) (by simp <;> omega) (.slice A4 n4 c4)).far (p:=⟨w.heap.size+1,0,none⟩) (by simp) (.int .i64 0)).set_ 0 (.int .i64 0)).cell 0
   have ho3 : Own (((w2.setCell ⟨w.heap.size,0,none⟩ (.slice A4 n4 c4)).setCell ⟨w.heap.size+1,0,none⟩ (.int .i64 0)).setCell ⟨w.heap.size+1+1,0,none⟩ (.int .i64 0)) wr.heap.size 262 2 A4 n4 c4 ((normR l).map encR) :=
    ((ho2.setCell (fun g hg=>by have:=(ho2.lt g hg).1;show g.block ≠ w.heap.size;omega) _).setCell (fun g hg=>by have:=(ho2.lt g hg).1;show g.block ≠ w.heap.size+1;omega) _).setCell (fun g hg=>by have:=(ho2.lt g hg).1;show g.block ≠ w.heap.size+1+1;omega) _
   clear ho2 b02 b12 b22 k0 k1 k2 g0 g1 g2
   generalize (((w2.setCell ⟨w.heap.size,0,none⟩ (.slice A4 n4 c4)).setCell ⟨w.heap.size+1,0,none⟩ (.int .i64 0)).setCell ⟨w.heap.size+1+1,0,none⟩ (.int .i64 0)) = w4 at hb3 r0 r1 r2 ho3 ⊢
   rw [Exit.noGoto_ret]
   refine leaves_cons (f:=232) (args:=#[.pointer (some ⟨w.heap.size,0,none⟩),.pointer (some ⟨w.heap.size+1,0,none⟩),.pointer (some ⟨w.heap.size+2,0,none⟩)]) (by simp) (by simp [go_sem]) ?_
   refine (parse_idle w.heap.size _).mono ?_
   rintro en u' w5 ⟨rfl,rfl,rfl⟩
   have hpe:=ParseEnd.fine HP2.out (ho3.more hb.size)
   simp at r0 r1 r2
   simp [Leaves,settle,results,Tryz.results198,go_sem,r0,r1,r2]
   exact ⟨hb3,hpe⟩
end
end Go.Proofs.YtlfpdpbbkjnapaaGreatDoor
