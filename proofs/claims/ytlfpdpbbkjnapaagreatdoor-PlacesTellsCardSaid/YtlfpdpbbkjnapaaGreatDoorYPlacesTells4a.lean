/- -/
import Derived.Test.YtlfpdpbbkjnapaaGreatDoorYPlacesTellsPrI
import Derived.Test.YtlfpdpbbkjnapaaGreatDoorYPlacesTells2a
namespace Go.Proofs.YtlfpdpbbkjnapaaGreatDoor
set_option maxRecDepth 100000
set_option maxHeartbeats 40000000
section
open Go.RowKit
theorem nms_len {ns : List (List UInt8)} (h : nmsOk ns = true) : ns.length≤64:=by
 unfold nmsOk at h
 simp only [Bool.and_eq_true,decide_eq_true_iff] at h
 exact h.1.1
theorem patOf_some {ns : List (List UInt8)} {l : List UInt8} {pat : Pat} (h : patOf ns l = some pat) : l.length≤4096∧∃ rest k',patP ns (4*l.length+8) 0 l 0 = some (pat,rest,k'):=by
 unfold patOf at h
 split at h
 ·cases h
 ·rename_i hl
  split at h
  ·cases h
  ·rename_i p rest k' hp
   injection h with h
   subst h
   exact ⟨by omega,rest,k',hp⟩
theorem res_parse5 (w : World) (b : Nat) (v : Pv) (tmps : Array Value) (h4 : tmps.getD 4 undef = .pointer (some ⟨b,0,none⟩)) (h5 : tmps.getD 5 undef = .int .i64 0) (h6 : tmps.getD 6 undef = .int .i64 0) (hc : PCell w b v) : (results Tryz.f176 tmps).run Tryz.prog w = .ok (.tuple #[valPt v,.int .i64 0,.int .i64 0]) w:=by
 have h4' : tmps[4]?.getD undef = .pointer (some ⟨b,0,none⟩):=by simpa [Array.getD_eq_getD_getElem?] using h4
 have h5' : tmps[5]?.getD undef = .int .i64 0:=by simpa [Array.getD_eq_getD_getElem?] using h5
 have h6' : tmps[6]?.getD undef = .int .i64 0:=by simpa [Array.getD_eq_getD_getElem?] using h6
 obtain ⟨h0,h1,h2⟩:=hc
 simp [results,Tryz.results176,go_sem,h4',h5',h6',h0,h1,h2,valPt]
theorem jParse_any (s : ByteArray) (A : Option Addr) (nn cn : Nat) (names : List (List UInt8)) (pat : Pat) (w : World) (hA : Rd w 1 A (names.map encNm)) (hAl : ∀ x,A = some x→x.block < w.heap.size) (hl : names.length = nn) (hn : nmsOk names = true) (hP : patOf names s.data.toList = some pat) :
  Calls Tryz.prog 176 #[.string s,.slice A nn cn] w fun e w'=>∃ v,e = .returned (.tuple #[valPt v,.int .i64 0,.int .i64 0])∧PatX w' (fun b=>w.heap.size≤b) pat v∧Below w.heap.size w w':=by
 obtain ⟨hsz,rest,k',hp⟩:=patOf_some hP
 generalize 4*s.data.toList.length+8 = F at hp
 rw [size_data] at hsz
 have hnz:=nms_len hn
 rw [hl] at hnz
 have hs6 : s.size≤1000000:=by omega
 have hn6 : nn≤1000000:=by omega
 have HN:=Lib.hid (jNames_ok A nn cn names (w.alloc (.cells #[.int .i64 0,.slice none 0 0,.slice none 0 0] 221)) (hA.alloc _) hl hn)
 have HP:=Lib.hid (fun q W (h : RS W q s A nn cn names 0 0 0)=>jpat_all q s A nn cn names hs6 hn6 F F 0 0 0 k' pat rest W (Nat.le_refl F) h (Nat.zero_le _) (Nat.zero_le _) (Nat.zero_le _) hp)
 have HA:=Lib.hid hA
 have HAl:=Lib.hid hAl
 have Hl:=Lib.hid hl
 have h4096 : ¬ 4096 < s.size:=by omega
 clear hA hAl hl hn hP hp hsz hs6 hn6
 go_enter Tryz.func176,Tryz.ntmps176
 go_wp2_with fail
 refine HN.out.mono ?_
 rintro e w1 ⟨rfl,q,rfl⟩
 have hB1 : Blk ((w.alloc (.cells #[.int .i64 0,.slice none 0 0,.slice none 0 0] 221)).drewN q) w.heap.size 221 #[.int .i64 0,.slice none 0 0,.slice none 0 0]:=(Blk.new w _ _).drewN q
 have hb1 : Below w.heap.size w ((w.alloc (.cells #[.int .i64 0,.slice none 0 0,.slice none 0 0] 221)).drewN q):=below_drewN ((Below.refl w.heap.size w).alloc (Nat.le_refl _) _) q
 have hz1 : ((w.alloc (.cells #[.int .i64 0,.slice none 0 0,.slice none 0 0] 221)).drewN q).heap.size = w.heap.size+1:=by simp
 generalize (w.alloc (.cells #[.int .i64 0,.slice none 0 0,.slice none 0 0] 221)).drewN q = V at hB1 hb1 hz1 ⊢
 have hR2 : RS (V.alloc (.cells #[.string s,.int .i64 0,.slice A nn cn,.int .i64 0,.int .i64 0,.int .i64 0,.int .i64 0] 268)) V.heap.size s A nn cn names 0 0 0:=⟨Blk.new V _ _,(HA.out.belowB hb1 HAl.out).alloc _,Hl.out,fun x hx=>by have:=HAl.out x hx;constructor <;> (simp;omega)⟩
 have hB2:=hB1.alloc (.cells #[.string s,.int .i64 0,.slice A nn cn,.int .i64 0,.int .i64 0,.int .i64 0,.int .i64 0] 268)
 have hb2:=hb1.alloc (by omega) (.cells #[.string s,.int .i64 0,.slice A nn cn,.int .i64 0,.int .i64 0,.int .i64 0,.int .i64 0] 268)
 have hz2 : (V.alloc (.cells #[.string s,.int .i64 0,.slice A nn cn,.int .i64 0,.int .i64 0,.int .i64 0,.int .i64 0] 268)).heap.size = w.heap.size+2:=by simp;omega
 rw [hz1] at hR2
 have HP2:=Lib.hid (HP.out _ _ hR2)
 clear HN HP hB1 hb1 hR2
 go_wp2_with fail
 refine HP2.out.mono ?_
 rintro e w5 hq
 obtain ⟨v,x5,rfl,hr5,_,_,hg5,hp5⟩:=hq
 have hB5:=hB2.grown hg5 (fun e=>by injection e with e;omega)
 have hb5 : Below w.heap.size w w5:=hb2.trans (below_only hg5 (by omega) (by omega))
 have c5:=hr5.c5
 obtain ⟨v0,⟨A1,n1,c1'⟩,⟨A2,n2,c2'⟩⟩:=v
 simp only [valPt]
 have hal : Below w5.heap.size w5 (w5.alloc (.cells #[.int .i64 (v0 : Int),.slice A1 n1 c1',.slice A2 n2 c2'] 221)):=(Below.refl w5.heap.size w5).alloc (Nat.le_refl _) _
 have hz5:=hg5.size
 have hB6:=hB5.below hal
 have hp6 : PatX (w5.alloc (.cells #[.int .i64 (v0 : Int),.slice A1 n1 c1',.slice A2 n2 c2'] 221)) (fun b=>w.heap.size+1≤b) pat (v0,(A1,n1,c1'),(A2,n2,c2')):=(hp5.keep (KeepX.same (fun b h _=>by omega))).below hal
 have hb6 : Below w.heap.size w (w5.alloc (.cells #[.int .i64 (v0 : Int),.slice A1 n1 c1',.slice A2 n2 c2'] 221)):=hb5.alloc (by omega) _
 have hr6:=hr5.below hal
 have hN6 : Blk (w5.alloc (.cells #[.int .i64 (v0 : Int),.slice A1 n1 c1',.slice A2 n2 c2'] 221)) w5.heap.size 221 #[.int .i64 (v0 : Int),.slice A1 n1 c1',.slice A2 n2 c2']:=Blk.new _ _ _
 clear hB5 hp5 hb5 hr5 hB2 hb2 hg5 c5 HP2
 go_upto_region 7 with fail
 generalize w5.alloc (.cells #[.int .i64 (v0 : Int),.slice A1 n1 c1',.slice A2 n2 c2'] 221) = U at hB6 hp6 hb6 hr6 hN6 ⊢
 generalize w5.heap.size = g at hN6 ⊢
 clear hal
 have c5:=hr6.c5
 have z0:=hB6.cell 0
 have z1:=hB6.cell 1
 have z2:=hB6.cell 2
 have m0:=hN6.cell 0
 have m1:=hN6.cell 1
 have m2:=hN6.cell 2
 simp only [zG,zI,zH] at z0 z1 z2 m0 m1 m2
 have g0:=hB6.frozen 0
 have g1:=hB6.frozen 1
 have g2:=hB6.frozen 2
 have hf:=((hB6.set_ 0 (.int .i64 (v0 : Int))).set_ 1 (.slice A1 n1 c1')).set_ 2 (.slice A2 n2 c2')
 have hg8 : U.grownBy (((U.setCell ⟨w.heap.size,0,none⟩ (.int .i64 (v0 : Int))).setCell ⟨w.heap.size,1,none⟩ (.slice A1 n1 c1')).setCell ⟨w.heap.size,2,none⟩ (.slice A2 n2 c2')) (some w.heap.size):=only_setCell (only_setCell (only_setCell (only_refl _ _) (p:=⟨w.heap.size,0,none⟩) (.inl rfl) _) (p:=⟨w.heap.size,1,none⟩) (.inl rfl) _) (p:=⟨w.heap.size,2,none⟩) (.inl rfl) _
 have HF:=Lib.hid hf
 have HX:=Lib.hid (hp6.keep ((KeepX.grown hg8 (fun r hr h=>by injection hr with hr;subst hr;omega)).trans (KeepX.same (X':=fun b=>w.heap.size≤b) (fun b h _=>by omega))))
 have HB:=Lib.hid (hb6.trans (below_only hg8 (by have:=hB6.lt;omega) (Nat.le_refl _)))
 clear hf hg8 hp6 hb6 hr6 hB6 hN6
 go_wp2
 have hf:=HF.out
 simp only [zD,zE,zF] at hf
 refine bodyPost_ret (res_parse5 _ w.heap.size (v0,(A1,n1,c1'),(A2,n2,c2')) _ rfl rfl rfl (PCell.of_blk hf)) rfl ?_
 exact ⟨_,rfl,HX.out,HB.out⟩
end
end Go.Proofs.YtlfpdpbbkjnapaaGreatDoor
