/- -/
import Derived.Test.YtlfpdpbbkjnapaaGreatDoorPRdr
namespace Go.Proofs.YtlfpdpbbkjnapaaGreatDoor
set_option maxRecDepth 100000
set_option maxHeartbeats 40000000
section
open Go.RowKit
def ItemEnd (b : Nat) (s : ByteArray) (r : Except (Int × Nat) ((Int × Int) × Nat)) (e : Ending) (w' : World) : Prop :=
 match r with
 | .error x=>e = faultEnd x
 | .ok (x,q)=>e = .returned (.agg #[.int .i32 x.1,.int .i32 x.2])∧Rdr w' b s q
theorem ItemEnd.err {b : Nat} {s : ByteArray} {r : Except (Int × Nat) ((Int × Int) × Nat)} {x : Int × Nat} {w' : World} (h : r = .error x) : ItemEnd b s r (faultEnd x) w':=by rw [h];exact rfl
theorem ItemEnd.fine {b : Nat} {s : ByteArray} {r : Except (Int × Nat) ((Int × Int) × Nat)} {x y : Int} {q : Nat} {w' : World} (h : r = .ok ((x,y),q)) (hr : Rdr w' b s q) : ItemEnd b s r (.returned (.agg #[.int .i32 x,.int .i32 y])) w':=by rw [h];exact ⟨rfl,hr⟩
theorem Tabs.grown {w w' : World} {b a : Nat} {s : ByteArray} (h : Tabs w) (hr : Rdr w b s a) (hg : w.grownBy w' (some b)) : Tabs w':=by
 have h0:=hr.c0
 have n1 : 1 ≠ b:=fun e=>by subst e;have:=h.1 0 (by omega);rw [h0] at this;cases this
 have n2 : 2 ≠ b:=fun e=>by subst e;have:=(h.2 0 (by omega)).1;rw [show 2*0 = 0 from rfl,h0] at this;cases this
 exact ⟨fun c hc=>hg.cell (h.1 c hc) (fun e=>n1 (by simpa using e)),fun i hi=>⟨hg.cell (h.2 i hi).1 (fun e=>n2 (by simpa using e)),hg.cell (h.2 i hi).2 (fun e=>n2 (by simpa using e))⟩⟩
theorem item_any (s : ByteArray) (a b : Nat) (w : World) (hT : Tabs w) (hR : Rdr w b s a) (ha : a≤s.size) (hs : s.size≤1000000) :
  Calls Tryz.prog 233 #[.pointer (some ⟨b,0,none⟩)] w fun e w'=>w.grownBy w' (some b)∧ItemEnd b s (itemP s a) e w':=by
 have c0:=hR.c0
 have c1:=hR.c1
 have hlt : b < w.heap.size:=hR.lt
 have HR1:=Lib.hid (fun W hW hr=>rune_any s a b W hW hr ha hs)
 have Hunf : Hid (itemP s a = _):=Lib.hid (show itemP s a = (match runeP s a with
  | .error e=>.error e
  | .ok (lo,p) =>
   match (if (rest s p).head? = some 45 then runeP s (p+1) else .ok (lo,p)) with
   | .error e=>.error e
   | .ok (hi,q)=>if hi < lo then .error (20,a) else if (rest s q).head? ≠ none∧(rest s q).head? ≠ some 32 then .error (21,q) else .ok ((lo,hi),q)) from rfl)
 have Hok : Hid (∀ (q : Nat) (r : Int),runeP s a = .ok (r,q)→a < q∧q≤s.size∧0≤r∧r≤1114111):=Lib.hid (fun q r h=>runeP_ok h)
 have Hbox : Hid (∀ W : World,Rdr W b s a→Rdr (W.alloc (.cells #[.int .i32 0,.int .i32 0] 262)) b s a):=Lib.hid (fun W h=>Blk.alloc h _)
 generalize runeP s a = Q at HR1 Hunf Hok
 cases Q with
 | error x =>
  go_enter Tryz.func233,Tryz.ntmps233
  go_wp2_with fail
  refine (HR1.out _ (hT.below ((Below.refl _ _).alloc (Nat.le_refl _) _)) (Hbox.out _ hR)).mono ?_
  rintro e w2 ⟨hg,rfl⟩
  exact ⟨rfl,only_trans (only_alloc (only_refl _ _) _) hg,ItemEnd.err (x:=x) Hunf.out⟩
 | ok y =>
  obtain ⟨lo,p⟩:=y
  obtain ⟨hp1,hp2,hl0,hl1⟩:=Hok.out _ _ rfl
  clear Hok
  go_enter Tryz.func233,Tryz.ntmps233
  go_wp2_with fail
  refine (HR1.out _ (hT.below ((Below.refl _ _).alloc (Nat.le_refl _) _)) (Hbox.out _ hR)).mono ?_
  rintro e w2 ⟨hg,rfl,hr2⟩
  have hne : b ≠ w.heap.size:=by omega
  have hbox2 : Blk w2 w.heap.size 262 #[.int .i32 0,.int .i32 0]:=(Blk.new w 262 _).grown hg (by simp;omega)
  have hg2 : w.grownBy w2 (some b):=only_trans (only_alloc (only_refl _ _) _) hg
  have hT2 : Tabs w2:=hT.grown hR hg2
  clear hg c0 c1
  have r0 : w2.cell? ⟨w.heap.size,0,none⟩ = some (.int .i32 0):=hbox2.cell 0
  have r1 : w2.cell? ⟨w.heap.size,1,none⟩ = some (.int .i32 0):=hbox2.cell 1
  have q0:=hbox2.frozen 0
  have q1:=hbox2.frozen 1
  have c0:=hr2.c0
  have c1:=hr2.c1
  have f1:=hr2.f1
  by_cases hdash : (rest s p).head? = some 45
  ·have HI2 : Hid (itemP s a = (match runeP s (p+1) with
    | .error e=>.error e
    | .ok (hi,q)=>if hi < lo then .error (20,a) else if (rest s q).head? ≠ none∧(rest s q).head? ≠ some 32 then .error (21,q) else .ok ((lo,hi),q))):=Lib.hid (Hunf.out.trans (by simp only [if_pos hdash]))
   have hps : p < s.size:=by
    rcases Nat.lt_or_ge p s.size with h | h
    ·exact h
    ·rw [rest_none h] at hdash;simp at hdash
   have hdb : (((s[p]'hps).toNat : Int) == 45) = true:=by
    rw [rest_head hps] at hdash;injection hdash with e;rw [e];rfl
   have HR3:=Lib.hid (fun W hW hr=>rune_any s (p+1) b W hW hr (by omega) hs)
   have Hok2 : Hid (∀ (q : Nat) (r : Int),runeP s (p+1) = .ok (r,q)→p+1 < q∧q≤s.size∧0≤r∧r≤1114111):=Lib.hid (fun q r h=>runeP_ok h)
   clear hdash
   generalize runeP s (p+1) = Q2 at HI2 HR3 Hok2
   cases Q2 with
   | error x =>
    go_wp2_with fail
    go_quiet (fail)
    go_wp2_with fail
    have hg3 : w.grownBy ((w2.drewN nq).setCell ⟨b,1,none⟩ (.int .i64 ((p : Int)+1))) (some b):=only_setCell (only_drewN hg2 _) (.inl rfl) _
    refine (HR3.out _ (hT.grown hR hg3) ((hr2.drewN _).set' _ _ (by omega))).mono ?_
    rintro e w3 ⟨hg,rfl⟩
    exact ⟨rfl,only_trans hg3 hg,ItemEnd.err (x:=x) HI2.out⟩
   | ok y =>
    obtain ⟨hi,q⟩:=y
    obtain ⟨hq1,hq2,hh0,hh1⟩:=Hok2.out _ _ rfl
    clear Hok2
    have HI : Hid (itemP s a = if hi < lo then .error (20,a) else if (rest s q).head? ≠ none∧(rest s q).head? ≠ some 32 then .error (21,q) else .ok ((lo,hi),q)):=Lib.hid HI2.out
    clear HI2
    go_wp2_with fail
    go_quiet (fail)
    clear hdb
    go_wp2_with fail
    have hg3 : w.grownBy ((w2.drewN nq).setCell ⟨b,1,none⟩ (.int .i64 ((p : Int)+1))) (some b):=only_setCell (only_drewN hg2 _) (.inl rfl) _
    have hbx3 : Blk ((w2.drewN nq).setCell ⟨b,1,none⟩ (.int .i64 ((p : Int)+1))) w.heap.size 262 #[.int .i32 0,.int .i32 0]:=Blk.far (hbox2.drewN _) (fun e=>hne e.symm) _
    refine (HR3.out _ (hT.grown hR hg3) ((hr2.drewN _).set' _ _ (by omega))).mono ?_
    rintro e w3 ⟨hg,rfl,hr3⟩
    have hbx:=hbx3.grown hg (fun e=>hne (by simpa using e.symm))
    have hg4:=only_trans hg3 hg
    clear hg3 hg hbx3 hr2 hg2 hbox2 r0 r1 q0 q1 c0 c1 f1 hT2
    have hr2:=hr3
    have hg2:=hg4
    clear hr3 hg4
    have r0 : w3.cell? ⟨w.heap.size,0,none⟩ = some (.int .i32 0):=hbx.cell 0
    have r1 : w3.cell? ⟨w.heap.size,1,none⟩ = some (.int .i32 0):=hbx.cell 1
    have q0:=hbx.frozen 0
    have q1:=hbx.frozen 1
    have c0:=hr2.c0
    have c1:=hr2.c1
    by_cases hlo : hi < lo
    ·have HE : Hid (itemP s a = .error (20,a)):=Lib.hid (by rw [HI.out,if_pos hlo])
     go_wp2
     exact ⟨rfl,hg2,ItemEnd.err (x:=(20,a)) HE.out⟩
    ·have hlo' : lo≤hi:=by omega
     clear hlo
     by_cases hq : q < s.size
     ·by_cases hb32 : s[q]'hq = 32
      ·have HE : Hid (itemP s a = .ok ((lo,hi),q)):=Lib.hid (by rw [HI.out,if_neg (by omega),rest_head hq,hb32,if_neg (by simp)])
       have hqb : (((s[q]'hq).toNat : Int) != 32) = false:=by rw [hb32];rfl
       clear hb32
       go_wp2_with fail
       go_quiet (fail)
       go_wp2
       refine bodyPost_ret (v:=.agg #[.int .i32 lo,.int .i32 hi]) (by simp [results,Tryz.results233,go_sem,r0,r1]) rfl ⟨only_setCell (only_setCell (only_drewN hg2 _) (.inr (Nat.le_refl _)) _) (.inr (Nat.le_refl _)) _,ItemEnd.fine HE.out ?_⟩
       exact Blk.far (Blk.far (hr2.drewN _) hne _) hne _
      ·have HE : Hid (itemP s a = .error (21,q)):=Lib.hid (by rw [HI.out,if_neg (by omega),rest_head hq,if_pos ⟨by simp,by simpa using hb32⟩])
       have hqb : (((s[q]'hq).toNat : Int) != 32) = true:=byte_ne hb32
       clear hb32
       go_wp2_with fail
       go_quiet (fail)
       go_wp2
       exact ⟨rfl,only_drewN hg2 _,ItemEnd.err (x:=(21,q)) HE.out⟩
     ·have HE : Hid (itemP s a = .ok ((lo,hi),q)):=Lib.hid (by rw [HI.out,if_neg (by omega),rest_none (by omega),if_neg (by simp)])
      have hd : decide (q < s.size) = false:=decide_eq_false hq
      clear hq
      go_wp2_with fail
      go_quiet (fail)
      go_wp2
      refine bodyPost_ret (v:=.agg #[.int .i32 lo,.int .i32 hi]) (by simp [results,Tryz.results233,go_sem,r0,r1]) rfl ⟨only_setCell (only_setCell (only_drewN hg2 _) (.inr (Nat.le_refl _)) _) (.inr (Nat.le_refl _)) _,ItemEnd.fine HE.out ?_⟩
      exact Blk.far (Blk.far (hr2.drewN _) hne _) hne _
  ·have HI : Hid (itemP s a = if lo < lo then .error (20,a) else if (rest s p).head? ≠ none∧(rest s p).head? ≠ some 32 then .error (21,p) else .ok ((lo,lo),p)):=Lib.hid (Hunf.out.trans (by simp only [if_neg hdash]))
   by_cases hps : p < s.size
   ·have hdb : (((s[p]'hps).toNat : Int) == 45) = false:=by rw [beq_eq_false_iff_ne,← bne_iff_ne];exact byte_ne (fun e=>hdash (by rw [rest_head hps,e];rfl))
    clear hdash
    go_wp2_with fail
    go_quiet (fail)
    clear hdb
    have hg9:=only_drewN hg2 nq
    have hr9:=hr2.drewN nq
    by_cases hb32 : s[p]'hps = 32
    ·have HE : Hid (itemP s a = .ok ((lo,lo),p)):=Lib.hid (by rw [HI.out,if_neg (by omega),rest_head hps,hb32,if_neg (by simp)])
     have hpsb : (((s[p]'hps).toNat : Int) != 32) = false:=by rw [hb32];rfl
     clear hb32
     go_wp2_with fail
     go_quiet (fail)
     go_wp2
     refine bodyPost_ret (v:=.agg #[.int .i32 lo,.int .i32 lo]) (by simp [results,Tryz.results233,go_sem,r0,r1]) rfl ⟨only_setCell (only_setCell (only_drewN hg2 _) (.inr (Nat.le_refl _)) _) (.inr (Nat.le_refl _)) _,ItemEnd.fine HE.out ?_⟩
     exact Blk.far (Blk.far (hr2.drewN _) hne _) hne _
    ·have HE : Hid (itemP s a = .error (21,p)):=Lib.hid (by rw [HI.out,if_neg (by omega),rest_head hps,if_pos ⟨by simp,by simpa using hb32⟩])
     have hpsb : (((s[p]'hps).toNat : Int) != 32) = true:=byte_ne hb32
     clear hb32
     go_wp2_with fail
     go_quiet (fail)
     go_wp2
     exact ⟨rfl,only_drewN hg2 _,ItemEnd.err (x:=(21,p)) HE.out⟩
   ·have hd : decide (p < s.size) = false:=decide_eq_false hps
    have HE : Hid (itemP s a = .ok ((lo,lo),p)):=Lib.hid (by rw [HI.out,if_neg (by omega),rest_none (by omega),if_neg (by simp)])
    clear hdash hps
    go_wp2_with fail
    go_quiet (fail)
    go_wp2_with fail
    go_quiet (fail)
    go_wp2
    refine bodyPost_ret (v:=.agg #[.int .i32 lo,.int .i32 lo]) (by simp [results,Tryz.results233,go_sem,r0,r1]) rfl ⟨only_setCell (only_setCell (only_drewN hg2 _) (.inr (Nat.le_refl _)) _) (.inr (Nat.le_refl _)) _,ItemEnd.fine HE.out ?_⟩
    exact Blk.far (Blk.far (hr2.drewN _) hne _) hne _
end
end Go.Proofs.YtlfpdpbbkjnapaaGreatDoor
