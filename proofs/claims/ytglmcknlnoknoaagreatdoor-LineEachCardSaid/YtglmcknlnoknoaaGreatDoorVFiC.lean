/- -/
import Derived.Test.YtglmcknlnoknoaaGreatDoorV3a
namespace Go.Proofs.YtglmcknlnoknoaaGreatDoor
set_option maxRecDepth 100000
set_option maxHeartbeats 40000000
section
open Go.RowKit
theorem jfirsts_alt3 (X : Nat→Prop) (cs : List Nat) (ks : List Pat) (v : Pv) (w : World) (hp : PatX w X (.node 3 cs ks) v) (hg : goodL 64 ks = true) (hz : sizeL ks≤2048) (HK : ∀ p ∈ ks,KidFirsts p) (HS : ∀ p ∈ ks,KidSome p) :
  Calls Tryz.prog 248 #[valPt v] w (FirstsEnd w (firstsL false ks)):=by
 obtain ⟨i0,hi0,hz0,hz1,hz2⟩:=info_parts infoInt
 obtain ⟨o,⟨A,nc,c⟩,⟨B,m,d⟩⟩:=v
 simp only [PatX] at hp
 obtain ⟨rfl,hA,vs,hB,hKs⟩:=hp
 have hm : vs.length = m:=by have:=hB.len;rwa [List.length_map] at this
 have hk2:=hKs.len
 rw [hm] at hk2
 have hkl:=sizeL_len ks
 have hmz : m≤2048:=by omega
 have hmd : m≤d:=hB.cap
 have HTot:=Lib.hid (show (firstsL false ks).length≤131072 by have:=firstsL_len false ks hg;omega)
 have HF:=Lib.hid HK
 have HSo:=Lib.hid HS
 have Hg:=Lib.hid hg
 have HB:=Lib.hid hB
 have HKs:=Lib.hid hKs
 have Hk2:=Lib.hid hk2
 have Hkz:=Lib.hid (show ks.length≤2048 by omega)
 have Hsz:=Lib.hid (fun (i : Nat) (p : Pat) (h : ks[i]? = some p)=>show sizeP p≤2048 by have:=sizeL_at h;omega)
 unfold valPt
 show Calls Tryz.prog 248 #[.agg #[.int .i64 3,.slice A nc c,.slice B m d]] w _
 have hb0 : Blk (w.alloc (.cells #[.int .i64 3,.slice A nc c,.slice B m d] 207)) w.heap.size 207 _:=Blk.new _ _ _
 have Hz : Below w.heap.size w (w.alloc (.cells #[.int .i64 3,.slice A nc c,.slice B m d] 207)):=(Below.refl _ _).alloc (Nat.le_refl _) _
 clear hA hB hKs hk2 hkl hg hz HK HS hm
 unfold FirstsEnd
 go_enter Tryz.func248,Tryz.ntmps248
 go_wp2_with fail
 generalize (w.alloc (.cells #[.int .i64 3,.slice A nc c,.slice B m d] 207)) = w1 at Hz hb0 ⊢
 have k00:=hb0.cell 0
 have k20:=hb0.cell 2
 simp only [zG,zI,zH] at k00 k20
 clear hb0
 go_loopw [3,4] (fun u z wr=>∃ (i : Nat) (A3 : Option Addr) (k3 c3 : Nat) (L : List Nat),u = .slice A3 k3 c3∧z = .int .i64 i∧i≤m∧L.length = k3∧Hid (firstsL false ks = L++firstsL false (ks.drop i))∧Own wr w1.heap.size 3 1 A3 k3 c3 (L.map encN)∧Below w1.heap.size w1 wr) (fun _ z _=>m - (intOf z).toNat)
 case atStart=>exact ⟨0,none,0,0,[],rfl,rfl,by omega,rfl,Lib.hid (by simp),Own.nil_ _ _ _ _,Below.refl _ _⟩
 case round =>
  obtain ⟨i,A3,k3,c3,L,rfl,rfl,hi,hL,HL,ho,hb⟩:=hrel
  have hbw:=below_two Hz hb
  have k0:=cell_keep k00 hb
  have k2:=cell_keep k20 hb
  have hsz:=hb.size
  have hL3 : k3≤131072:=by
   have:=HTot.out
   rw [HL.out,List.length_append] at this
   omega
  by_cases hlt : i < m
  ·obtain ⟨q,hq⟩ : ∃ q,ks[i]? = some q:=⟨_,List.getElem?_eq_getElem (by have:=Hk2.out;omega)⟩
   obtain ⟨u,hu,hp⟩:=HKs.out.at_ hq
   obtain ⟨b,off,e,x0,x1,x2⟩:=HB.out.atPt hu
   simp only at e
   subst e
   have hqm:=List.mem_of_getElem? hq
   have hgq:=goodL_at Hg.out hq
   have hqz:=Hsz.out i q hq
   have HC1:=Lib.hid (fun W (h : Below w.heap.size w W)=>HSo.out q hqm X u W (hp.below h) hgq)
   have HC3:=Lib.hid (fun W (h : Below w.heap.size w W)=>HF.out q hqm X u W (hp.below h) hgq)
   have HX:=Lib.hid (fun W (h : Below w.heap.size w W)=>And.intro (cell_keep x0 h) (And.intro (cell_keep x1 h) (cell_keep x2 h)))
   obtain ⟨i1,Hi1⟩ : ∃ i1,Hid (i+1 = i1):=⟨_,Lib.hid rfl⟩
   have e1 : (i : Int)+1 = (i1 : Int):=by have:=Hi1.out;omega
   have hi1m : i1≤m:=by have:=Hi1.out;omega
   have HD : Hid (firstsL false ks = L++stepF false q (ks.drop i1)++firstsL false (ks.drop i1)):=Lib.hid (by
    rw [HL.out,drop_hd hq,firstsL_step,List.append_assoc,Hi1.out]
    rfl)
   have HSt : Hid (stepF false q (ks.drop i1) = if someB q then firstsB q else []):=Lib.hid (by unfold stepF;simp)
   have HFl:=Lib.hid (firsts_len q hgq)
   generalize someB q = s1 at HC1 HSt
   generalize stepF false q (ks.drop i1) = st at HD HSt
   unfold valPt at HC1 HC3
   clear hq hp hu hqm hgq x0 x1 x2
   go_upto_region 10 with fail
   go_cut [38] from 13 to 38 (fun t wx=>t = .bool s1∧Below wr.heap.size wr wx)
   case first =>
    obtain ⟨x0,x1,x2⟩:=HX.out wr hbw
    have h1:=Lib.hid (HC1.out wr hbw)
    cases s1 with
    | false =>
     go_wp2_with fail
     refine h1.out.mono ?_
     rintro e w3 ⟨rfl,hb3⟩
     go_wp2
     go_meet
     exact ⟨rfl,hb3⟩
    | true =>
     go_wp2_with fail
     refine h1.out.mono ?_
     rintro e w3 ⟨rfl,hb3⟩
     have k0':=cell_keep k0 hb3
     go_wp2
     go_meet
     exact ⟨rfl,hb3⟩
   case rest =>
    obtain ⟨rfl,hbc⟩:=hcut
    have hbw2:=below_two hbw hbc
    have hb1:=below_two hb hbc
    have ho2:=ho.below hbc
    have k0':=cell_keep k0 hbc
    have k2':=cell_keep k2 hbc
    have hsz2:=hb1.size
    generalize firstsB q = F at HC3 HFl HSt
    clear k0 k2 ho hb hbw hbc hsz HC1
    go_upto_if 38 with fail
    go_cut [3] from 13 to 46 (fun v wx=>∃ (A4 : Option Addr) (k4 c4 : Nat),v = .slice A4 k4 c4∧(L++st).length = k4∧Own wx w1.heap.size 3 1 A4 k4 c4 ((L++st).map encN)∧Below w1.heap.size w1 wx)
    case first =>
     cases s1 with
     | false =>
      have hst : st = []:=HSt.out
      subst hst
      go_wp2
      go_meet
      exact ⟨A3,k3,c3,rfl,by simpa using hL,by simpa using ho2,hb1⟩
     | true =>
      have hst : st = F:=HSt.out
      subst hst
      have hFz : st.length≤131072:=by have:=HFl.out;have:=Hsz.out;omega
      obtain ⟨x0,x1,x2⟩:=HX.out wc hbw2
      have h3:=Lib.hid (HC3.out wc hbw2)
      go_wp2_with fail
      refine h3.out.mono ?_
      rintro e w5 ⟨A5,n5,c5,rfl,hr5,hl5,hb5⟩
      have ho5:=ho2.below hb5
      have hb15:=below_two hb1 hb5
      have hsz5:=hb15.size
      go_wp2_with (at_builtin;go_must (refine wpList_app rfl (.tmp 39) (.tmp 45) _ rfl w1.heap.size 3 i0 _ 1 8 Tryz.underlying52 hi0 hz0 hz1 hz2 rfl (by omega) A3 k3 c3 _ rfl ho5 A5 n5 c5 (st.map encN) rfl (by simpa using hl5) hr5 (encN_ok' _) (by unfold maxLen;omega) (by omega) (by omega) ?_);intro A6 c6 w6 ho6 hg6 hA6)
      have hb6:=below_app hb15 hg6 hsz5 (fun a ha=>(ho5.lt a ha).1)
      go_meet
      exact ⟨A6,k3+n5,c6,rfl,by rw [List.length_append,hL,hl5],by rw [List.map_append];exact ho6,hb6⟩
    case rest =>
     obtain ⟨A4,k4,c4,rfl,hL4,ho4,hb4⟩:=hcut
     have hbw4:=below_two Hz hb4
     have q0:=cell_keep k00 hb4
     have q2:=cell_keep k20 hb4
     clear k0' k2' ho2 hb1
     go_wp2
     go_roundw
     case rel=>exact ⟨i1,A4,k4,c4,L++st,rfl,by have:=Hi1.out;first | rfl | go_num,hi1m,hL4,HD,ho4,hb4⟩
     case measure=>simp [intOf];have:=Hi1.out;omega
  ·obtain rfl : i = m:=by omega
   have HV:=Lib.hid (show firstsL false ks = L by
    have:=HL.out
    rw [List.drop_eq_nil_of_le (by have:=Hk2.out;omega)] at this
    rw [firstsL_nil,List.append_nil] at this
    exact this)
   rw [← HV.out] at ho hL
   go_wp2
   go_ret
   exact ⟨A3,k3,c3,rfl,ho.rd (by decide),hL,hbw⟩
theorem jfirsts_alt4 (X : Nat→Prop) (cs : List Nat) (ks : List Pat) (v : Pv) (w : World) (hp : PatX w X (.node 4 cs ks) v) (hg : goodL 64 ks = true) (hz : sizeL ks≤2048) (HK : ∀ p ∈ ks,KidFirsts p) (HS : ∀ p ∈ ks,KidSome p) :
  Calls Tryz.prog 248 #[valPt v] w (FirstsEnd w (firstsL false ks)):=by
 obtain ⟨i0,hi0,hz0,hz1,hz2⟩:=info_parts infoInt
 obtain ⟨o,⟨A,nc,c⟩,⟨B,m,d⟩⟩:=v
 simp only [PatX] at hp
 obtain ⟨rfl,hA,vs,hB,hKs⟩:=hp
 have hm : vs.length = m:=by have:=hB.len;rwa [List.length_map] at this
 have hk2:=hKs.len
 rw [hm] at hk2
 have hkl:=sizeL_len ks
 have hmz : m≤2048:=by omega
 have hmd : m≤d:=hB.cap
 have HTot:=Lib.hid (show (firstsL false ks).length≤131072 by have:=firstsL_len false ks hg;omega)
 have HF:=Lib.hid HK
 have HSo:=Lib.hid HS
 have Hg:=Lib.hid hg
 have HB:=Lib.hid hB
 have HKs:=Lib.hid hKs
 have Hk2:=Lib.hid hk2
 have Hkz:=Lib.hid (show ks.length≤2048 by omega)
 have Hsz:=Lib.hid (fun (i : Nat) (p : Pat) (h : ks[i]? = some p)=>show sizeP p≤2048 by have:=sizeL_at h;omega)
 unfold valPt
 show Calls Tryz.prog 248 #[.agg #[.int .i64 4,.slice A nc c,.slice B m d]] w _
 have hb0 : Blk (w.alloc (.cells #[.int .i64 4,.slice A nc c,.slice B m d] 207)) w.heap.size 207 _:=Blk.new _ _ _
 have Hz : Below w.heap.size w (w.alloc (.cells #[.int .i64 4,.slice A nc c,.slice B m d] 207)):=(Below.refl _ _).alloc (Nat.le_refl _) _
 clear hA hB hKs hk2 hkl hg hz HK HS hm
 unfold FirstsEnd
 go_enter Tryz.func248,Tryz.ntmps248
 go_wp2_with fail
 generalize (w.alloc (.cells #[.int .i64 4,.slice A nc c,.slice B m d] 207)) = w1 at Hz hb0 ⊢
 have k00:=hb0.cell 0
 have k20:=hb0.cell 2
 simp only [zG,zI,zH] at k00 k20
 clear hb0
 go_loopw [3,4] (fun u z wr=>∃ (i : Nat) (A3 : Option Addr) (k3 c3 : Nat) (L : List Nat),u = .slice A3 k3 c3∧z = .int .i64 i∧i≤m∧L.length = k3∧Hid (firstsL false ks = L++firstsL false (ks.drop i))∧Own wr w1.heap.size 3 1 A3 k3 c3 (L.map encN)∧Below w1.heap.size w1 wr) (fun _ z _=>m - (intOf z).toNat)
 case atStart=>exact ⟨0,none,0,0,[],rfl,rfl,by omega,rfl,Lib.hid (by simp),Own.nil_ _ _ _ _,Below.refl _ _⟩
 case round =>
  obtain ⟨i,A3,k3,c3,L,rfl,rfl,hi,hL,HL,ho,hb⟩:=hrel
  have hbw:=below_two Hz hb
  have k0:=cell_keep k00 hb
  have k2:=cell_keep k20 hb
  have hsz:=hb.size
  have hL3 : k3≤131072:=by
   have:=HTot.out
   rw [HL.out,List.length_append] at this
   omega
  by_cases hlt : i < m
  ·obtain ⟨q,hq⟩ : ∃ q,ks[i]? = some q:=⟨_,List.getElem?_eq_getElem (by have:=Hk2.out;omega)⟩
   obtain ⟨u,hu,hp⟩:=HKs.out.at_ hq
   obtain ⟨b,off,e,x0,x1,x2⟩:=HB.out.atPt hu
   simp only at e
   subst e
   have hqm:=List.mem_of_getElem? hq
   have hgq:=goodL_at Hg.out hq
   have hqz:=Hsz.out i q hq
   have HC1:=Lib.hid (fun W (h : Below w.heap.size w W)=>HSo.out q hqm X u W (hp.below h) hgq)
   have HC3:=Lib.hid (fun W (h : Below w.heap.size w W)=>HF.out q hqm X u W (hp.below h) hgq)
   have HX:=Lib.hid (fun W (h : Below w.heap.size w W)=>And.intro (cell_keep x0 h) (And.intro (cell_keep x1 h) (cell_keep x2 h)))
   obtain ⟨i1,Hi1⟩ : ∃ i1,Hid (i+1 = i1):=⟨_,Lib.hid rfl⟩
   have e1 : (i : Int)+1 = (i1 : Int):=by have:=Hi1.out;omega
   have hi1m : i1≤m:=by have:=Hi1.out;omega
   have HD : Hid (firstsL false ks = L++stepF false q (ks.drop i1)++firstsL false (ks.drop i1)):=Lib.hid (by
    rw [HL.out,drop_hd hq,firstsL_step,List.append_assoc,Hi1.out]
    rfl)
   have HSt : Hid (stepF false q (ks.drop i1) = if someB q then firstsB q else []):=Lib.hid (by unfold stepF;simp)
   have HFl:=Lib.hid (firsts_len q hgq)
   generalize someB q = s1 at HC1 HSt
   generalize stepF false q (ks.drop i1) = st at HD HSt
   unfold valPt at HC1 HC3
   clear hq hp hu hqm hgq x0 x1 x2
   go_upto_region 10 with fail
   go_cut [38] from 13 to 38 (fun t wx=>t = .bool s1∧Below wr.heap.size wr wx)
   case first =>
    obtain ⟨x0,x1,x2⟩:=HX.out wr hbw
    have h1:=Lib.hid (HC1.out wr hbw)
    cases s1 with
    | false =>
     go_wp2_with fail
     refine h1.out.mono ?_
     rintro e w3 ⟨rfl,hb3⟩
     go_wp2
     go_meet
     exact ⟨rfl,hb3⟩
    | true =>
     go_wp2_with fail
     refine h1.out.mono ?_
     rintro e w3 ⟨rfl,hb3⟩
     have k0':=cell_keep k0 hb3
     go_wp2
     go_meet
     exact ⟨rfl,hb3⟩
   case rest =>
    obtain ⟨rfl,hbc⟩:=hcut
    have hbw2:=below_two hbw hbc
    have hb1:=below_two hb hbc
    have ho2:=ho.below hbc
    have k0':=cell_keep k0 hbc
    have k2':=cell_keep k2 hbc
    have hsz2:=hb1.size
    generalize firstsB q = F at HC3 HFl HSt
    clear k0 k2 ho hb hbw hbc hsz HC1
    go_upto_if 38 with fail
    go_cut [3] from 13 to 46 (fun v wx=>∃ (A4 : Option Addr) (k4 c4 : Nat),v = .slice A4 k4 c4∧(L++st).length = k4∧Own wx w1.heap.size 3 1 A4 k4 c4 ((L++st).map encN)∧Below w1.heap.size w1 wx)
    case first =>
     cases s1 with
     | false =>
      have hst : st = []:=HSt.out
      subst hst
      go_wp2
      go_meet
      exact ⟨A3,k3,c3,rfl,by simpa using hL,by simpa using ho2,hb1⟩
     | true =>
      have hst : st = F:=HSt.out
      subst hst
      have hFz : st.length≤131072:=by have:=HFl.out;have:=Hsz.out;omega
      obtain ⟨x0,x1,x2⟩:=HX.out wc hbw2
      have h3:=Lib.hid (HC3.out wc hbw2)
      go_wp2_with fail
      refine h3.out.mono ?_
      rintro e w5 ⟨A5,n5,c5,rfl,hr5,hl5,hb5⟩
      have ho5:=ho2.below hb5
      have hb15:=below_two hb1 hb5
      have hsz5:=hb15.size
      go_wp2_with (at_builtin;go_must (refine wpList_app rfl (.tmp 39) (.tmp 45) _ rfl w1.heap.size 3 i0 _ 1 8 Tryz.underlying52 hi0 hz0 hz1 hz2 rfl (by omega) A3 k3 c3 _ rfl ho5 A5 n5 c5 (st.map encN) rfl (by simpa using hl5) hr5 (encN_ok' _) (by unfold maxLen;omega) (by omega) (by omega) ?_);intro A6 c6 w6 ho6 hg6 hA6)
      have hb6:=below_app hb15 hg6 hsz5 (fun a ha=>(ho5.lt a ha).1)
      go_meet
      exact ⟨A6,k3+n5,c6,rfl,by rw [List.length_append,hL,hl5],by rw [List.map_append];exact ho6,hb6⟩
    case rest =>
     obtain ⟨A4,k4,c4,rfl,hL4,ho4,hb4⟩:=hcut
     have hbw4:=below_two Hz hb4
     have q0:=cell_keep k00 hb4
     have q2:=cell_keep k20 hb4
     clear k0' k2' ho2 hb1
     go_wp2
     go_roundw
     case rel=>exact ⟨i1,A4,k4,c4,L++st,rfl,by have:=Hi1.out;first | rfl | go_num,hi1m,hL4,HD,ho4,hb4⟩
     case measure=>simp [intOf];have:=Hi1.out;omega
  ·obtain rfl : i = m:=by omega
   have HV:=Lib.hid (show firstsL false ks = L by
    have:=HL.out
    rw [List.drop_eq_nil_of_le (by have:=Hk2.out;omega)] at this
    rw [firstsL_nil,List.append_nil] at this
    exact this)
   rw [← HV.out] at ho hL
   go_wp2
   go_ret
   exact ⟨A3,k3,c3,rfl,ho.rd (by decide),hL,hbw⟩
theorem jfirsts_alt5 (X : Nat→Prop) (cs : List Nat) (ks : List Pat) (v : Pv) (w : World) (hp : PatX w X (.node 5 cs ks) v) (hg : goodL 64 ks = true) (hz : sizeL ks≤2048) (HK : ∀ p ∈ ks,KidFirsts p) (HS : ∀ p ∈ ks,KidSome p) :
  Calls Tryz.prog 248 #[valPt v] w (FirstsEnd w (firstsL false ks)):=by
 obtain ⟨i0,hi0,hz0,hz1,hz2⟩:=info_parts infoInt
 obtain ⟨o,⟨A,nc,c⟩,⟨B,m,d⟩⟩:=v
 simp only [PatX] at hp
 obtain ⟨rfl,hA,vs,hB,hKs⟩:=hp
 have hm : vs.length = m:=by have:=hB.len;rwa [List.length_map] at this
 have hk2:=hKs.len
 rw [hm] at hk2
 have hkl:=sizeL_len ks
 have hmz : m≤2048:=by omega
 have hmd : m≤d:=hB.cap
 have HTot:=Lib.hid (show (firstsL false ks).length≤131072 by have:=firstsL_len false ks hg;omega)
 have HF:=Lib.hid HK
 have HSo:=Lib.hid HS
 have Hg:=Lib.hid hg
 have HB:=Lib.hid hB
 have HKs:=Lib.hid hKs
 have Hk2:=Lib.hid hk2
 have Hkz:=Lib.hid (show ks.length≤2048 by omega)
 have Hsz:=Lib.hid (fun (i : Nat) (p : Pat) (h : ks[i]? = some p)=>show sizeP p≤2048 by have:=sizeL_at h;omega)
 unfold valPt
 show Calls Tryz.prog 248 #[.agg #[.int .i64 5,.slice A nc c,.slice B m d]] w _
 have hb0 : Blk (w.alloc (.cells #[.int .i64 5,.slice A nc c,.slice B m d] 207)) w.heap.size 207 _:=Blk.new _ _ _
 have Hz : Below w.heap.size w (w.alloc (.cells #[.int .i64 5,.slice A nc c,.slice B m d] 207)):=(Below.refl _ _).alloc (Nat.le_refl _) _
 clear hA hB hKs hk2 hkl hg hz HK HS hm
 unfold FirstsEnd
 go_enter Tryz.func248,Tryz.ntmps248
 go_wp2_with fail
 generalize (w.alloc (.cells #[.int .i64 5,.slice A nc c,.slice B m d] 207)) = w1 at Hz hb0 ⊢
 have k00:=hb0.cell 0
 have k20:=hb0.cell 2
 simp only [zG,zI,zH] at k00 k20
 clear hb0
 go_loopw [3,4] (fun u z wr=>∃ (i : Nat) (A3 : Option Addr) (k3 c3 : Nat) (L : List Nat),u = .slice A3 k3 c3∧z = .int .i64 i∧i≤m∧L.length = k3∧Hid (firstsL false ks = L++firstsL false (ks.drop i))∧Own wr w1.heap.size 3 1 A3 k3 c3 (L.map encN)∧Below w1.heap.size w1 wr) (fun _ z _=>m - (intOf z).toNat)
 case atStart=>exact ⟨0,none,0,0,[],rfl,rfl,by omega,rfl,Lib.hid (by simp),Own.nil_ _ _ _ _,Below.refl _ _⟩
 case round =>
  obtain ⟨i,A3,k3,c3,L,rfl,rfl,hi,hL,HL,ho,hb⟩:=hrel
  have hbw:=below_two Hz hb
  have k0:=cell_keep k00 hb
  have k2:=cell_keep k20 hb
  have hsz:=hb.size
  have hL3 : k3≤131072:=by
   have:=HTot.out
   rw [HL.out,List.length_append] at this
   omega
  by_cases hlt : i < m
  ·obtain ⟨q,hq⟩ : ∃ q,ks[i]? = some q:=⟨_,List.getElem?_eq_getElem (by have:=Hk2.out;omega)⟩
   obtain ⟨u,hu,hp⟩:=HKs.out.at_ hq
   obtain ⟨b,off,e,x0,x1,x2⟩:=HB.out.atPt hu
   simp only at e
   subst e
   have hqm:=List.mem_of_getElem? hq
   have hgq:=goodL_at Hg.out hq
   have hqz:=Hsz.out i q hq
   have HC1:=Lib.hid (fun W (h : Below w.heap.size w W)=>HSo.out q hqm X u W (hp.below h) hgq)
   have HC3:=Lib.hid (fun W (h : Below w.heap.size w W)=>HF.out q hqm X u W (hp.below h) hgq)
   have HX:=Lib.hid (fun W (h : Below w.heap.size w W)=>And.intro (cell_keep x0 h) (And.intro (cell_keep x1 h) (cell_keep x2 h)))
   obtain ⟨i1,Hi1⟩ : ∃ i1,Hid (i+1 = i1):=⟨_,Lib.hid rfl⟩
   have e1 : (i : Int)+1 = (i1 : Int):=by have:=Hi1.out;omega
   have hi1m : i1≤m:=by have:=Hi1.out;omega
   have HD : Hid (firstsL false ks = L++stepF false q (ks.drop i1)++firstsL false (ks.drop i1)):=Lib.hid (by
    rw [HL.out,drop_hd hq,firstsL_step,List.append_assoc,Hi1.out]
    rfl)
   have HSt : Hid (stepF false q (ks.drop i1) = if someB q then firstsB q else []):=Lib.hid (by unfold stepF;simp)
   have HFl:=Lib.hid (firsts_len q hgq)
   generalize someB q = s1 at HC1 HSt
   generalize stepF false q (ks.drop i1) = st at HD HSt
   unfold valPt at HC1 HC3
   clear hq hp hu hqm hgq x0 x1 x2
   go_upto_region 10 with fail
   go_cut [38] from 13 to 38 (fun t wx=>t = .bool s1∧Below wr.heap.size wr wx)
   case first =>
    obtain ⟨x0,x1,x2⟩:=HX.out wr hbw
    have h1:=Lib.hid (HC1.out wr hbw)
    cases s1 with
    | false =>
     go_wp2_with fail
     refine h1.out.mono ?_
     rintro e w3 ⟨rfl,hb3⟩
     go_wp2
     go_meet
     exact ⟨rfl,hb3⟩
    | true =>
     go_wp2_with fail
     refine h1.out.mono ?_
     rintro e w3 ⟨rfl,hb3⟩
     have k0':=cell_keep k0 hb3
     go_wp2
     go_meet
     exact ⟨rfl,hb3⟩
   case rest =>
    obtain ⟨rfl,hbc⟩:=hcut
    have hbw2:=below_two hbw hbc
    have hb1:=below_two hb hbc
    have ho2:=ho.below hbc
    have k0':=cell_keep k0 hbc
    have k2':=cell_keep k2 hbc
    have hsz2:=hb1.size
    generalize firstsB q = F at HC3 HFl HSt
    clear k0 k2 ho hb hbw hbc hsz HC1
    go_upto_if 38 with fail
    go_cut [3] from 13 to 46 (fun v wx=>∃ (A4 : Option Addr) (k4 c4 : Nat),v = .slice A4 k4 c4∧(L++st).length = k4∧Own wx w1.heap.size 3 1 A4 k4 c4 ((L++st).map encN)∧Below w1.heap.size w1 wx)
    case first =>
     cases s1 with
     | false =>
      have hst : st = []:=HSt.out
      subst hst
      go_wp2
      go_meet
      exact ⟨A3,k3,c3,rfl,by simpa using hL,by simpa using ho2,hb1⟩
     | true =>
      have hst : st = F:=HSt.out
      subst hst
      have hFz : st.length≤131072:=by have:=HFl.out;have:=Hsz.out;omega
      obtain ⟨x0,x1,x2⟩:=HX.out wc hbw2
      have h3:=Lib.hid (HC3.out wc hbw2)
      go_wp2_with fail
      refine h3.out.mono ?_
      rintro e w5 ⟨A5,n5,c5,rfl,hr5,hl5,hb5⟩
      have ho5:=ho2.below hb5
      have hb15:=below_two hb1 hb5
      have hsz5:=hb15.size
      go_wp2_with (at_builtin;go_must (refine wpList_app rfl (.tmp 39) (.tmp 45) _ rfl w1.heap.size 3 i0 _ 1 8 Tryz.underlying52 hi0 hz0 hz1 hz2 rfl (by omega) A3 k3 c3 _ rfl ho5 A5 n5 c5 (st.map encN) rfl (by simpa using hl5) hr5 (encN_ok' _) (by unfold maxLen;omega) (by omega) (by omega) ?_);intro A6 c6 w6 ho6 hg6 hA6)
      have hb6:=below_app hb15 hg6 hsz5 (fun a ha=>(ho5.lt a ha).1)
      go_meet
      exact ⟨A6,k3+n5,c6,rfl,by rw [List.length_append,hL,hl5],by rw [List.map_append];exact ho6,hb6⟩
    case rest =>
     obtain ⟨A4,k4,c4,rfl,hL4,ho4,hb4⟩:=hcut
     have hbw4:=below_two Hz hb4
     have q0:=cell_keep k00 hb4
     have q2:=cell_keep k20 hb4
     clear k0' k2' ho2 hb1
     go_wp2
     go_roundw
     case rel=>exact ⟨i1,A4,k4,c4,L++st,rfl,by have:=Hi1.out;first | rfl | go_num,hi1m,hL4,HD,ho4,hb4⟩
     case measure=>simp [intOf];have:=Hi1.out;omega
  ·obtain rfl : i = m:=by omega
   have HV:=Lib.hid (show firstsL false ks = L by
    have:=HL.out
    rw [List.drop_eq_nil_of_le (by have:=Hk2.out;omega)] at this
    rw [firstsL_nil,List.append_nil] at this
    exact this)
   rw [← HV.out] at ho hL
   go_wp2
   go_ret
   exact ⟨A3,k3,c3,rfl,ho.rd (by decide),hL,hbw⟩
theorem jfirsts_alt6 (X : Nat→Prop) (cs : List Nat) (ks : List Pat) (v : Pv) (w : World) (hp : PatX w X (.node 6 cs ks) v) (hg : goodL 64 ks = true) (hz : sizeL ks≤2048) (HK : ∀ p ∈ ks,KidFirsts p) (HS : ∀ p ∈ ks,KidSome p) :
  Calls Tryz.prog 248 #[valPt v] w (FirstsEnd w (firstsL false ks)):=by
 obtain ⟨i0,hi0,hz0,hz1,hz2⟩:=info_parts infoInt
 obtain ⟨o,⟨A,nc,c⟩,⟨B,m,d⟩⟩:=v
 simp only [PatX] at hp
 obtain ⟨rfl,hA,vs,hB,hKs⟩:=hp
 have hm : vs.length = m:=by have:=hB.len;rwa [List.length_map] at this
 have hk2:=hKs.len
 rw [hm] at hk2
 have hkl:=sizeL_len ks
 have hmz : m≤2048:=by omega
 have hmd : m≤d:=hB.cap
 have HTot:=Lib.hid (show (firstsL false ks).length≤131072 by have:=firstsL_len false ks hg;omega)
 have HF:=Lib.hid HK
 have HSo:=Lib.hid HS
 have Hg:=Lib.hid hg
 have HB:=Lib.hid hB
 have HKs:=Lib.hid hKs
 have Hk2:=Lib.hid hk2
 have Hkz:=Lib.hid (show ks.length≤2048 by omega)
 have Hsz:=Lib.hid (fun (i : Nat) (p : Pat) (h : ks[i]? = some p)=>show sizeP p≤2048 by have:=sizeL_at h;omega)
 unfold valPt
 show Calls Tryz.prog 248 #[.agg #[.int .i64 6,.slice A nc c,.slice B m d]] w _
 have hb0 : Blk (w.alloc (.cells #[.int .i64 6,.slice A nc c,.slice B m d] 207)) w.heap.size 207 _:=Blk.new _ _ _
 have Hz : Below w.heap.size w (w.alloc (.cells #[.int .i64 6,.slice A nc c,.slice B m d] 207)):=(Below.refl _ _).alloc (Nat.le_refl _) _
 clear hA hB hKs hk2 hkl hg hz HK HS hm
 unfold FirstsEnd
 go_enter Tryz.func248,Tryz.ntmps248
 go_wp2_with fail
 generalize (w.alloc (.cells #[.int .i64 6,.slice A nc c,.slice B m d] 207)) = w1 at Hz hb0 ⊢
 have k00:=hb0.cell 0
 have k20:=hb0.cell 2
 simp only [zG,zI,zH] at k00 k20
 clear hb0
 go_loopw [3,4] (fun u z wr=>∃ (i : Nat) (A3 : Option Addr) (k3 c3 : Nat) (L : List Nat),u = .slice A3 k3 c3∧z = .int .i64 i∧i≤m∧L.length = k3∧Hid (firstsL false ks = L++firstsL false (ks.drop i))∧Own wr w1.heap.size 3 1 A3 k3 c3 (L.map encN)∧Below w1.heap.size w1 wr) (fun _ z _=>m - (intOf z).toNat)
 case atStart=>exact ⟨0,none,0,0,[],rfl,rfl,by omega,rfl,Lib.hid (by simp),Own.nil_ _ _ _ _,Below.refl _ _⟩
 case round =>
  obtain ⟨i,A3,k3,c3,L,rfl,rfl,hi,hL,HL,ho,hb⟩:=hrel
  have hbw:=below_two Hz hb
  have k0:=cell_keep k00 hb
  have k2:=cell_keep k20 hb
  have hsz:=hb.size
  have hL3 : k3≤131072:=by
   have:=HTot.out
   rw [HL.out,List.length_append] at this
   omega
  by_cases hlt : i < m
  ·obtain ⟨q,hq⟩ : ∃ q,ks[i]? = some q:=⟨_,List.getElem?_eq_getElem (by have:=Hk2.out;omega)⟩
   obtain ⟨u,hu,hp⟩:=HKs.out.at_ hq
   obtain ⟨b,off,e,x0,x1,x2⟩:=HB.out.atPt hu
   simp only at e
   subst e
   have hqm:=List.mem_of_getElem? hq
   have hgq:=goodL_at Hg.out hq
   have hqz:=Hsz.out i q hq
   have HC1:=Lib.hid (fun W (h : Below w.heap.size w W)=>HSo.out q hqm X u W (hp.below h) hgq)
   have HC3:=Lib.hid (fun W (h : Below w.heap.size w W)=>HF.out q hqm X u W (hp.below h) hgq)
   have HX:=Lib.hid (fun W (h : Below w.heap.size w W)=>And.intro (cell_keep x0 h) (And.intro (cell_keep x1 h) (cell_keep x2 h)))
   obtain ⟨i1,Hi1⟩ : ∃ i1,Hid (i+1 = i1):=⟨_,Lib.hid rfl⟩
   have e1 : (i : Int)+1 = (i1 : Int):=by have:=Hi1.out;omega
   have hi1m : i1≤m:=by have:=Hi1.out;omega
   have HD : Hid (firstsL false ks = L++stepF false q (ks.drop i1)++firstsL false (ks.drop i1)):=Lib.hid (by
    rw [HL.out,drop_hd hq,firstsL_step,List.append_assoc,Hi1.out]
    rfl)
   have HSt : Hid (stepF false q (ks.drop i1) = if someB q then firstsB q else []):=Lib.hid (by unfold stepF;simp)
   have HFl:=Lib.hid (firsts_len q hgq)
   generalize someB q = s1 at HC1 HSt
   generalize stepF false q (ks.drop i1) = st at HD HSt
   unfold valPt at HC1 HC3
   clear hq hp hu hqm hgq x0 x1 x2
   go_upto_region 10 with fail
   go_cut [38] from 13 to 38 (fun t wx=>t = .bool s1∧Below wr.heap.size wr wx)
   case first =>
    obtain ⟨x0,x1,x2⟩:=HX.out wr hbw
    have h1:=Lib.hid (HC1.out wr hbw)
    cases s1 with
    | false =>
     go_wp2_with fail
     refine h1.out.mono ?_
     rintro e w3 ⟨rfl,hb3⟩
     go_wp2
     go_meet
     exact ⟨rfl,hb3⟩
    | true =>
     go_wp2_with fail
     refine h1.out.mono ?_
     rintro e w3 ⟨rfl,hb3⟩
     have k0':=cell_keep k0 hb3
     go_wp2
     go_meet
     exact ⟨rfl,hb3⟩
   case rest =>
    obtain ⟨rfl,hbc⟩:=hcut
    have hbw2:=below_two hbw hbc
    have hb1:=below_two hb hbc
    have ho2:=ho.below hbc
    have k0':=cell_keep k0 hbc
    have k2':=cell_keep k2 hbc
    have hsz2:=hb1.size
    generalize firstsB q = F at HC3 HFl HSt
    clear k0 k2 ho hb hbw hbc hsz HC1
    go_upto_if 38 with fail
    go_cut [3] from 13 to 46 (fun v wx=>∃ (A4 : Option Addr) (k4 c4 : Nat),v = .slice A4 k4 c4∧(L++st).length = k4∧Own wx w1.heap.size 3 1 A4 k4 c4 ((L++st).map encN)∧Below w1.heap.size w1 wx)
    case first =>
     cases s1 with
     | false =>
      have hst : st = []:=HSt.out
      subst hst
      go_wp2
      go_meet
      exact ⟨A3,k3,c3,rfl,by simpa using hL,by simpa using ho2,hb1⟩
     | true =>
      have hst : st = F:=HSt.out
      subst hst
      have hFz : st.length≤131072:=by have:=HFl.out;have:=Hsz.out;omega
      obtain ⟨x0,x1,x2⟩:=HX.out wc hbw2
      have h3:=Lib.hid (HC3.out wc hbw2)
      go_wp2_with fail
      refine h3.out.mono ?_
      rintro e w5 ⟨A5,n5,c5,rfl,hr5,hl5,hb5⟩
      have ho5:=ho2.below hb5
      have hb15:=below_two hb1 hb5
      have hsz5:=hb15.size
      go_wp2_with (at_builtin;go_must (refine wpList_app rfl (.tmp 39) (.tmp 45) _ rfl w1.heap.size 3 i0 _ 1 8 Tryz.underlying52 hi0 hz0 hz1 hz2 rfl (by omega) A3 k3 c3 _ rfl ho5 A5 n5 c5 (st.map encN) rfl (by simpa using hl5) hr5 (encN_ok' _) (by unfold maxLen;omega) (by omega) (by omega) ?_);intro A6 c6 w6 ho6 hg6 hA6)
      have hb6:=below_app hb15 hg6 hsz5 (fun a ha=>(ho5.lt a ha).1)
      go_meet
      exact ⟨A6,k3+n5,c6,rfl,by rw [List.length_append,hL,hl5],by rw [List.map_append];exact ho6,hb6⟩
    case rest =>
     obtain ⟨A4,k4,c4,rfl,hL4,ho4,hb4⟩:=hcut
     have hbw4:=below_two Hz hb4
     have q0:=cell_keep k00 hb4
     have q2:=cell_keep k20 hb4
     clear k0' k2' ho2 hb1
     go_wp2
     go_roundw
     case rel=>exact ⟨i1,A4,k4,c4,L++st,rfl,by have:=Hi1.out;first | rfl | go_num,hi1m,hL4,HD,ho4,hb4⟩
     case measure=>simp [intOf];have:=Hi1.out;omega
  ·obtain rfl : i = m:=by omega
   have HV:=Lib.hid (show firstsL false ks = L by
    have:=HL.out
    rw [List.drop_eq_nil_of_le (by have:=Hk2.out;omega)] at this
    rw [firstsL_nil,List.append_nil] at this
    exact this)
   rw [← HV.out] at ho hL
   go_wp2
   go_ret
   exact ⟨A3,k3,c3,rfl,ho.rd (by decide),hL,hbw⟩
theorem jfirsts_all : ∀ (z : Nat) (p : Pat),sizeP p≤z→sizeP p≤2048→KidFirsts p:=by
 intro z
 induction z with
 | zero=>intro p hz;have:=sizeP_pos p;omega
 | succ z ih =>
  intro p hz hs X v w hp hg
  obtain ⟨op,cs,ks⟩:=p
  have hg':=hg
  unfold goodP at hg
  rw [Bool.and_eq_true] at hg
  obtain ⟨h1,h2,h3,h4,h5⟩:=node_parts hg.1
  have hzl : sizeL ks≤z:=by unfold sizeP at hz;omega
  have hsl : sizeL ks≤2047:=by unfold sizeP at hs;omega
  have hk : ∀ p ∈ ks,KidFirsts p:=fun p hp=>by
   obtain ⟨i,hi,e⟩:=List.getElem_of_mem hp
   have h6:=sizeL_at (ks:=ks) (i:=i) (p:=p) (by rw [List.getElem?_eq_getElem hi,e])
   exact ih p (by omega) (by omega)
  have hko : ∀ p ∈ ks,KidSome p:=fun p hp=>by
   obtain ⟨i,hi,e⟩:=List.getElem_of_mem hp
   have h6:=sizeL_at (ks:=ks) (i:=i) (p:=p) (by rw [List.getElem?_eq_getElem hi,e])
   exact jsome_all _ p (Nat.le_refl _) (by omega)
  rcases (by omega : op = 0∨op = 1∨op = 2∨op = 3∨op = 4∨op = 5∨op = 6) with rfl | rfl | rfl | rfl | rfl | rfl | rfl
  ·have e : firstsB (.node 0 cs ks) = []:=by unfold firstsB;rfl
   rw [e]
   obtain ⟨o,⟨A,n,c⟩,⟨B,m,d⟩⟩:=v
   simp only [PatX] at hp
   obtain ⟨rfl,-⟩:=hp
   unfold valPt FirstsEnd
   have Hz : Below w.heap.size w (w.alloc (.cells #[.int .i64 ((0 : Nat) : Int),.slice A n c,.slice B m d] 207)):=(Below.refl _ _).alloc (Nat.le_refl _) _
   clear h1 h2 h3 h4 h5 hk hko ih hg hg'
   go_enter Tryz.func248,Tryz.ntmps248
   go_wp2
   go_ret
   exact ⟨none,0,0,rfl,Rd.nil_ _ _ _,rfl,Hz⟩
  ·have e : firstsB (.node 1 cs ks) = cs:=by unfold firstsB;rfl
   rw [e]
   obtain ⟨o,⟨A,n,c⟩,⟨B,m,d⟩⟩:=v
   simp only [PatX] at hp
   obtain ⟨rfl,hA,-⟩:=hp
   unfold valPt FirstsEnd
   have Hz : Below w.heap.size w (w.alloc (.cells #[.int .i64 ((1 : Nat) : Int),.slice A n c,.slice B m d] 207)):=(Below.refl _ _).alloc (Nat.le_refl _) _
   have hl : cs.length = n:=by have:=hA.len;rwa [List.length_map] at this
   have hr:=hA.rd.below Hz
   simp only at hr
   clear h1 h2 h3 h4 h5 hk hko ih hg hg' hA
   go_enter Tryz.func248,Tryz.ntmps248
   go_wp2
   go_ret
   exact ⟨A,n,c,rfl,hr,hl,Hz⟩
  ·have e : firstsB (.node 2 cs ks) = firstsL true ks:=by (conv=>lhs;unfold firstsB);rfl
   rw [e]
   exact jfirsts_then X cs ks v w hp hg.2 (by omega) hk hko
  ·have e : firstsB (.node 3 cs ks) = firstsL false ks:=by (conv=>lhs;unfold firstsB);rfl
   rw [e]
   exact jfirsts_alt3 X cs ks v w hp hg.2 (by omega) hk hko
  ·have e : firstsB (.node 4 cs ks) = firstsL false ks:=by (conv=>lhs;unfold firstsB);rfl
   rw [e]
   exact jfirsts_alt4 X cs ks v w hp hg.2 (by omega) hk hko
  ·have e : firstsB (.node 5 cs ks) = firstsL false ks:=by (conv=>lhs;unfold firstsB);rfl
   rw [e]
   exact jfirsts_alt5 X cs ks v w hp hg.2 (by omega) hk hko
  ·have e : firstsB (.node 6 cs ks) = firstsL false ks:=by (conv=>lhs;unfold firstsB);rfl
   rw [e]
   exact jfirsts_alt6 X cs ks v w hp hg.2 (by omega) hk hko
end
end Go.Proofs.YtglmcknlnoknoaaGreatDoor
