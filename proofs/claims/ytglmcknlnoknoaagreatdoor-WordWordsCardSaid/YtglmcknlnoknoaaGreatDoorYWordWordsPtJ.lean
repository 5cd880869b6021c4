/- -/
import Derived.Test.YtglmcknlnoknoaaGreatDoorYWordWords1a
namespace Go.Proofs.YtglmcknlnoknoaaGreatDoor
set_option maxRecDepth 100000
set_option maxHeartbeats 40000000
section
open Go.RowKit
section
variable {cl : List Nat} {C0 : Option Addr} {n c0 : Nat}
theorem jleads_empty (hn : n≤100000) (X : Nat→Prop) (cs : List Nat) (ks : List Pat) (v : Pv) (w : World) (hp : PatX w X (.node 0 cs ks) v) :
  Calls Tryz.prog 252 #[valPt v,.slice C0 n c0] w (MtEnd w (n+1) ownM):=by
 obtain ⟨o,⟨A,nc,c⟩,⟨B,m,d⟩⟩:=v
 simp only [PatX] at hp
 obtain ⟨rfl,hA,vs,hB,hK⟩:=hp
 unfold valPt
 simp only
 have Hz : Below w.heap.size w (w.alloc (.cells #[.int .i64 ((0 : Nat) : Int),.slice A nc c,.slice B m d] 207)):=(Below.refl _ _).alloc (Nat.le_refl _) _
 have HN:=Lib.hid (fun W=>jown_any (n+1) W (by omega))
 obtain ⟨n1,Hn1⟩ : ∃ n1,Hid (n+1 = n1):=⟨_,Lib.hid rfl⟩
 have e1 : (n : Int)+1 = (n1 : Int):=by have:=Hn1.out;omega
 simp only [Hn1.out] at HN ⊢
 clear hA hB hK
 go_enter Tryz.func252,Tryz.ntmps252
 go_wp2_with fail
 refine (HN.out _).mono ?_
 rintro e w2 ⟨A2,c2,rows2,C2,rfl,ho2,hBt2,hb2⟩
 go_wp2
 go_ret
 exact ⟨A2,c2,rows2,C2,rfl,ho2.more Hz.size,hBt2,below_two Hz hb2⟩
theorem jleads_many (hl : cl.length = n) (hn : n≤100000) (X : Nat→Prop) (cs : List Nat) (p : Pat) (v : Pv) (w : World) (hp : PatX w X (.node 4 cs [p]) v) (hC : Rd w 1 C0 (cl.map encN)) (HK : KidLeads cl C0 n c0 p) (hg : goodP 64 p = true) :
  Calls Tryz.prog 252 #[valPt v,.slice C0 n c0] w (MtEnd w (n+1) (moreM (n+1) (leadsP cl p))):=by
 obtain ⟨o,⟨A,nc,c⟩,⟨B,m,d⟩⟩:=v
 simp only [PatX,PatsX] at hp
 obtain ⟨rfl,hA,vs,hB,u,r,rfl,hpu,rfl⟩:=hp
 have hm : 1 = m:=by have:=hB.len;simpa using this
 subst hm
 unfold valPt
 show Calls Tryz.prog 252 #[.agg #[.int .i64 4,.slice A nc c,.slice B 1 d],.slice C0 n c0] w _
 have hb0 : Blk (w.alloc (.cells #[.int .i64 4,.slice A nc c,.slice B 1 d] 207)) w.heap.size 207 _:=Blk.new _ _ _
 have Hz : Below w.heap.size w (w.alloc (.cells #[.int .i64 4,.slice A nc c,.slice B 1 d] 207)):=(Below.refl _ _).alloc (Nat.le_refl _) _
 obtain ⟨b,off,e,x0,x1,x2⟩:=hB.atPt (k:=0) (x:=u) rfl
 simp only at e
 subst e
 replace x0:=cell_keep x0 Hz
 replace x1:=cell_keep x1 Hz
 replace x2:=cell_keep x2 Hz
 simp only [Nat.zero_mul,Nat.add_zero] at x0 x1 x2
 unfold KidLeads at HK
 have hN1 : cl.length+1 = n+1:=by omega
 rw [hN1] at HK
 have HKk:=Lib.hid (HK X u _ (hpu.below Hz) hg (hC.below Hz))
 have HM:=Lib.hid (fun A1 c1 CA a W h1 h2=>jmore_any A1 (n+1) c1 CA a W h1 h2 (by omega))
 obtain ⟨n1,Hn1⟩ : ∃ n1,Hid (n+1 = n1):=⟨_,Lib.hid rfl⟩
 simp only [Hn1.out] at HKk HM ⊢
 unfold valPt at HKk
 clear hA hB hpu HK hl hN1
 go_enter Tryz.func252,Tryz.ntmps252
 go_wp2_with fail
 generalize (w.alloc (.cells #[.int .i64 4,.slice A nc c,.slice (some ⟨b,off,none⟩) 1 d] 207)) = w1 at *
 refine HKk.out.mono ?_
 rintro e w2 he
 obtain ⟨A2,c2,C2,rfl,hr2,hBt2,hb2⟩:=he.rd
 have HM2:=Lib.hid (HM.out A2 c2 C2 _ w2 hr2 hBt2)
 clear he hr2 hBt2 HKk HM
 go_wp2_with fail
 refine HM2.out.mono ?_
 rintro e w3 ⟨A3,c3,rows3,C3,rfl,ho3,hBt3,hb3⟩
 go_wp2
 go_ret
 exact ⟨A3,c3,rows3,C3,rfl,ho3.more (below_two Hz hb2).size,hBt3,below_two (below_two Hz hb2) hb3⟩
theorem jleads_some (hl : cl.length = n) (hn : n≤100000) (X : Nat→Prop) (cs : List Nat) (p : Pat) (v : Pv) (w : World) (hp : PatX w X (.node 5 cs [p]) v) (hC : Rd w 1 C0 (cl.map encN)) (HK : KidLeads cl C0 n c0 p) (hg : goodP 64 p = true) :
  Calls Tryz.prog 252 #[valPt v,.slice C0 n c0] w (MtEnd w (n+1) (behindM (n+1) (leadsP cl p) (moreM (n+1) (leadsP cl p)))):=by
 obtain ⟨o,⟨A,nc,c⟩,⟨B,m,d⟩⟩:=v
 simp only [PatX,PatsX] at hp
 obtain ⟨rfl,hA,vs,hB,u,r,rfl,hpu,rfl⟩:=hp
 have hm : 1 = m:=by have:=hB.len;simpa using this
 subst hm
 unfold valPt
 show Calls Tryz.prog 252 #[.agg #[.int .i64 5,.slice A nc c,.slice B 1 d],.slice C0 n c0] w _
 have hb0 : Blk (w.alloc (.cells #[.int .i64 5,.slice A nc c,.slice B 1 d] 207)) w.heap.size 207 _:=Blk.new _ _ _
 have Hz : Below w.heap.size w (w.alloc (.cells #[.int .i64 5,.slice A nc c,.slice B 1 d] 207)):=(Below.refl _ _).alloc (Nat.le_refl _) _
 obtain ⟨b,off,e,x0,x1,x2⟩:=hB.atPt (k:=0) (x:=u) rfl
 simp only at e
 subst e
 replace x0:=cell_keep x0 Hz
 replace x1:=cell_keep x1 Hz
 replace x2:=cell_keep x2 Hz
 simp only [Nat.zero_mul,Nat.add_zero] at x0 x1 x2
 unfold KidLeads at HK
 have hN1 : cl.length+1 = n+1:=by omega
 rw [hN1] at HK
 have HKk:=Lib.hid (HK X u _ (hpu.below Hz) hg (hC.below Hz))
 have HM:=Lib.hid (fun A1 c1 CA a W h1 h2=>jmore_any A1 (n+1) c1 CA a W h1 h2 (by omega))
 have HBe:=Lib.hid (fun A1 A2 c1 c2 CA CB a b W h1 h2 h3 h4=>jbehind_any A1 A2 (n+1) c1 c2 CA CB a b W h1 h2 h3 h4 (by omega))
 obtain ⟨n1,Hn1⟩ : ∃ n1,Hid (n+1 = n1):=⟨_,Lib.hid rfl⟩
 simp only [Hn1.out] at HKk HM HBe ⊢
 unfold valPt at HKk
 clear hA hB hpu HK hl hN1
 go_enter Tryz.func252,Tryz.ntmps252
 go_wp2_with fail
 generalize (w.alloc (.cells #[.int .i64 5,.slice A nc c,.slice (some ⟨b,off,none⟩) 1 d] 207)) = w1 at *
 refine HKk.out.mono ?_
 rintro e w2 he
 obtain ⟨A2,c2,C2,rfl,hr2,hBt2,hb2⟩:=he.rd
 have HM2:=Lib.hid (HM.out A2 c2 C2 _ w2 hr2 hBt2)
 have Hr2:=Lib.hid hr2
 have HB2:=Lib.hid hBt2
 clear he hr2 hBt2 HKk HM
 go_wp2_with fail
 refine HM2.out.mono ?_
 rintro e w3 he3
 obtain ⟨A3,c3,C3,rfl,hr3,hBt3,hb3⟩:=he3.rd
 have HE:=Lib.hid (HBe.out A2 A3 c2 c3 C2 C3 _ _ w3 (Hr2.out.below hb3) HB2.out hr3 hBt3)
 clear he3 hr3 hBt3 HM2 HBe
 go_wp2_with fail
 refine HE.out.mono ?_
 rintro e w4 ⟨A4,c4,rows4,C4,rfl,ho4,hBt4,hb4⟩
 go_wp2
 go_ret
 exact ⟨A4,c4,rows4,C4,rfl,ho4.more (below_two (below_two Hz hb2) hb3).size,hBt4,below_two (below_two (below_two Hz hb2) hb3) hb4⟩
theorem jleads_may (hl : cl.length = n) (hn : n≤100000) (X : Nat→Prop) (cs : List Nat) (p : Pat) (v : Pv) (w : World) (hp : PatX w X (.node 6 cs [p]) v) (hC : Rd w 1 C0 (cl.map encN)) (HK : KidLeads cl C0 n c0 p) (hg : goodP 64 p = true) :
  Calls Tryz.prog 252 #[valPt v,.slice C0 n c0] w (MtEnd w (n+1) (bothM ownM (leadsP cl p))):=by
 obtain ⟨o,⟨A,nc,c⟩,⟨B,m,d⟩⟩:=v
 simp only [PatX,PatsX] at hp
 obtain ⟨rfl,hA,vs,hB,u,r,rfl,hpu,rfl⟩:=hp
 have hm : 1 = m:=by have:=hB.len;simpa using this
 subst hm
 unfold valPt
 show Calls Tryz.prog 252 #[.agg #[.int .i64 6,.slice A nc c,.slice B 1 d],.slice C0 n c0] w _
 have hb0 : Blk (w.alloc (.cells #[.int .i64 6,.slice A nc c,.slice B 1 d] 207)) w.heap.size 207 _:=Blk.new _ _ _
 have Hz : Below w.heap.size w (w.alloc (.cells #[.int .i64 6,.slice A nc c,.slice B 1 d] 207)):=(Below.refl _ _).alloc (Nat.le_refl _) _
 obtain ⟨b,off,e,x0,x1,x2⟩:=hB.atPt (k:=0) (x:=u) rfl
 simp only at e
 subst e
 replace x0:=cell_keep x0 Hz
 replace x1:=cell_keep x1 Hz
 replace x2:=cell_keep x2 Hz
 simp only [Nat.zero_mul,Nat.add_zero] at x0 x1 x2
 unfold KidLeads at HK
 have hN1 : cl.length+1 = n+1:=by omega
 rw [hN1] at HK
 have HPu:=Lib.hid (And.intro (hpu.below Hz) (And.intro hg (hC.below Hz)))
 have HKk:=Lib.hid (fun W h1 h2 h3=>HK X u W h1 h2 h3)
 have HO:=Lib.hid (fun W=>jown_any (n+1) W (by omega))
 have HBe:=Lib.hid (fun A1 A2 c1 c2 CA CB a b W h1 h2 h3 h4=>jboth_any A1 A2 (n+1) c1 c2 CA CB a b W h1 h2 h3 h4 (by omega))
 obtain ⟨n1,Hn1⟩ : ∃ n1,Hid (n+1 = n1):=⟨_,Lib.hid rfl⟩
 have e1 : (n : Int)+1 = (n1 : Int):=by have:=Hn1.out;omega
 simp only [Hn1.out] at HKk HO HBe ⊢
 unfold valPt at HKk
 have k2:=hb0.cell 2
 simp only [zG,zI,zH] at k2
 clear hA hB hpu HK hl hN1 hb0
 go_enter Tryz.func252,Tryz.ntmps252
 go_wp2_with fail
 generalize (w.alloc (.cells #[.int .i64 6,.slice A nc c,.slice (some ⟨b,off,none⟩) 1 d] 207)) = w1 at *
 have HKk2:=Lib.hid (fun W (h : Below w1.heap.size w1 W)=>HKk.out W (HPu.out.1.below h) HPu.out.2.1 (HPu.out.2.2.below h))
 have hbW : Below w1.heap.size w1 w1.drew:=(Below.refl _ _).drew
 have d2 : w1.drew.cell? ⟨w.heap.size,2,none⟩ = some (.slice (some ⟨b,off,none⟩) 1 d):=k2
 have d4 : w1.drew.cell? ⟨b,off,none⟩ = some (.int .i64 (u.1 : Int)):=x0
 have d5 : w1.drew.cell? ⟨b,off+1,none⟩ = some (.slice u.2.1.1 u.2.1.2.1 u.2.1.2.2):=x1
 have d6 : w1.drew.cell? ⟨b,off+2,none⟩ = some (.slice u.2.2.1 u.2.2.2.1 u.2.2.2.2):=x2
 clear HKk HPu
 refine wp_region_noPanic ?_
 go_region_law (first
  | (go_simp;go_at_call 292;refine (HO.out _).mono ?_;rintro e wz ⟨A9,c9,rows9,C9,rfl,ho9,hB9,hb9⟩;have hM1:=ho9.rd;have hbW:=below_step hbW hb9 hbW.size;have d2:=cell_keep d2 hb9;have d4:=cell_keep d4 hb9;have d5:=cell_keep d5 hb9;have d6:=cell_keep d6 hb9;try have hM2:=hM2.below hb9)
  | (go_simp;go_at_call 252;refine (HKk2.out _ hbW).mono ?_;rintro e wz hz;obtain ⟨A8,c8,C8,rfl,hM2,hB8,hb8⟩:=hz.rd;have hbW:=below_step hbW hb8 hbW.size;have d2:=cell_keep d2 hb8;have d4:=cell_keep d4 hb8;have d5:=cell_keep d5 hb8;have d6:=cell_keep d6 hb8;try have hM1:=hM1.below hb8)
  | (go_simp;go_at_call 294;refine (HBe.out _ _ _ _ _ _ _ _ _ hM1 hB9 hM2 hB8).mono ?_;rintro e wz ⟨A7,c7,rows7,C7,rfl,ho7,hB7,hb7⟩;have hbX:=hbW;have hbW:=below_step hbW hb7 hbW.size))
 all_goals
  refine NoPanic.normal ?_
  go_wp2
  go_ret
  exact ⟨A7,c7,rows7,C7,rfl,ho7.more (below_two Hz hbX).size,hB7,below_two Hz hbW⟩
end
end
end Go.Proofs.YtglmcknlnoknoaaGreatDoor
