/- -/
import Derived.ScopeJumps
import Derived.WalkMore
import Derived.Test.YtlfpdpbbkjnapaaGreatDoorYPlacesTells0b
namespace Go.Proofs.YtlfpdpbbkjnapaaGreatDoor
set_option maxRecDepth 100000
set_option maxHeartbeats 40000000
section
open Go.RowKit
theorem wp_scope_on {P : Program} {c rest : Code} {a : Act} {w : World} {Q : Exit→Act→World→Prop} (l : Nat) (hf : findLabel c l = some rest)
  (first : c.wp P (Exit.jump l (fun a w=>rest.wp P (Exit.jump l (fun _ _=>False) Q) a w) Q) a w) : (Code.scope c).wp P Q a w :=
 wp_scope_jumps l _ (fun _ _=>0) hf first fun a w h=>wp_mono h fun e a' w' hq=>by
  cases e with
  | goto l'=>exact ⟨hq.1,hq.2.elim⟩
  | _=>exact hq
def GbAt (g : Int→Nat) (s : ByteArray) (f q i : Nat) (pict joined : Bool) (flags : Nat) (O : List Nat) : Prop :=
 ∃ R,R++runesGo s f q = runesP s∧R.length = i∧s.size≤q+f∧q≤s.size∧(i = 0→q = 0) ∧
  (i = 0→O = [0]∧pict = false∧joined = false∧flags = 0) ∧
  (∀ y r,clsG g R = y :: r→O = pickG R (cutsG (clsG g R))∧stOf (GS.first y) r = ⟨(clsG g R).getLastD 0,pict,joined,flags⟩)
theorem gbAt_first (g : Int→Nat) (s : ByteArray) : GbAt g s s.size 0 0 false false 0 [0]:=⟨[],rfl,rfl,by omega,by omega,fun _=>rfl,fun _=>⟨rfl,rfl,rfl,rfl⟩,fun y r h=>by simp [clsG] at h⟩
theorem clsG_snoc (g : Int→Nat) (R : List (Nat × Nat × Nat)) (x : Nat × Nat × Nat) : clsG g (R++[x]) = clsG g R++[g (x.1 : Int)]:=by unfold clsG;rw [List.map_append];rfl
theorem gbAt_one {g : Int→Nat} {s : ByteArray} {f q W R : Nat} {p j : Bool} {fl : Nat} {O : List Nat} (h : GbAt g s f q 0 p j fl O) (hp : q < s.size) (hd : Utf8.decode s q = (R,W)) (hw : 1≤W∧q+W≤s.size) :
  ∃ f',GbAt g s f' (q+W) 1 (g (R : Int) == 12) false (if g (R : Int) = 13 then 1 else 0) O:=by
 obtain ⟨L,h1,h2,h3,h4,h5,h6,h7⟩:=h
 have hL : L = []:=List.eq_nil_of_length_eq_zero h2
 subst hL
 obtain ⟨f',rfl,hg⟩:=runesGo_step (s:=s) (f:=f) hp h3
 rw [hd] at hg
 have hq:=h5 rfl
 refine ⟨f',[(R,q,q+W)],by rw [← h1,hg];rfl,rfl,by omega,hw.2,fun h=>by omega,fun h=>by omega,fun y r hy=>?_⟩
 simp [clsG] at hy
 obtain ⟨rfl,rfl⟩:=hy
 refine ⟨?_,rfl⟩
 rw [(h6 rfl).1,hq]
 rfl
theorem gbAt_next {g : Int→Nat} {s : ByteArray} {f q i W R : Nat} {p j : Bool} {fl : Nat} {O : List Nat} (h : GbAt g s f q (i+1) p j fl O) (hp : q < s.size) (hd : Utf8.decode s q = (R,W)) (hw : 1≤W∧q+W≤s.size)
  {z : Nat} (hz : (clsG g (runesP s))[i]? = some z) :
  ∃ f',GbAt g s f' (q+W) (i+1+1) (g (R : Int) == 12 || p && g (R : Int) == 4) (p && g (R : Int) == 5) (if g (R : Int) = 13 then fl+1 else 0)
   (O++(if joinG z (g (R : Int)) || j && g (R : Int) == 12 || g (R : Int) == 13 && fl % 2 == 1 then [] else [q])):=by
 obtain ⟨L,h1,h2,h3,h4,h5,h6,h7⟩:=h
 obtain ⟨f',rfl,hg⟩:=runesGo_step (s:=s) (f:=f) hp h3
 rw [hd] at hg
 refine ⟨f',L++[(R,q,q+W)],by rw [← h1,hg];simp,by simp [h2],by omega,hw.2,fun h=>by omega,fun h=>by omega,fun y r hy=>?_⟩
 cases hc : clsG g L with
 | nil=>have:=congrArg List.length hc;simp [clsG,h2] at this
 | cons y0 r0 =>
  obtain ⟨e1,e2⟩:=h7 y0 r0 hc
  rw [clsG_snoc,hc,List.cons_append] at hy
  injection hy with hy1 hy2
  subst hy1;subst hy2
  have hlast : (clsG g L).getLastD 0 = z:=by
   have hl : (clsG g L).length = i+1:=by simp [clsG,h2]
   rw [List.getLastD_eq_getLast?,List.getLast?_eq_getElem?,hl,Nat.add_sub_cancel]
   have : (clsG g (runesP s))[i]? = (clsG g L)[i]?:=by
    rw [← h1];unfold clsG
    rw [List.map_append,List.getElem?_append_left (by simp;omega)]
   rw [← this,hz];rfl
  rw [hlast] at e2
  constructor
  ·rw [clsG_snoc,hc,List.cons_append,cutsG,cutSt_snoc,← List.cons_append,pickG_snoc _ _ _ _ (by rw [List.length_cons,cutSt_len];have:=congrArg List.length hc;simp [clsG] at this;omega),e1,hc,e2]
   congr 1
   unfold GS.cut
   simp only
   generalize (joinG z (g (R : Int)) || j && g (R : Int) == 12 || g (R : Int) == 13 && fl % 2 == 1) = b
   cases b <;> rfl
  ·rw [stOf_snoc,e2,clsG_snoc]
   unfold GS.next
   simp
theorem gbAt_end {g : Int→Nat} {s : ByteArray} {f q i : Nat} {p j : Bool} {fl : Nat} {O : List Nat} (h : GbAt g s f q i p j fl O) (hp : ¬ q < s.size) (hs : 0 < s.size) : O++[s.size] = boundsG g s:=by
 obtain ⟨L,h1,h2,h3,h4,h5,h6,h7⟩:=h
 rw [runesGo_end (by omega),List.append_nil] at h1
 subst h1
 unfold boundsG startsG
 rw [if_neg (by omega)]
 cases hc : clsG g (runesP s) with
 | nil =>
  have h0 : i = 0:=by rw [← h2];have:=congrArg List.length hc;simpa [clsG] using this
  have:=h5 h0
  omega
 | cons y r=>rw [(h7 y r hc).1,hc]
theorem gbAt_zero {g : Int→Nat} {s : ByteArray} {f q : Nat} {p j : Bool} {fl : Nat} {O : List Nat} (h : GbAt g s f q 0 p j fl O) : p = false∧j = false∧fl = 0:=by
 obtain ⟨_,_,_,_,_,_,h6,_⟩:=h
 exact (h6 rfl).2
theorem gbAt_here {g : Int→Nat} {s : ByteArray} {f q i W R : Nat} {p j : Bool} {fl : Nat} {O : List Nat} (h : GbAt g s f q i p j fl O) (hp : q < s.size) (hd : Utf8.decode s q = (R,W)) : (clsG g (runesP s))[i]? = some (g (R : Int)):=by
 obtain ⟨L,h1,h2,h3,h4,h5,h6,h7⟩:=h
 obtain ⟨f',rfl,hg⟩:=runesGo_step (s:=s) (f:=f) hp h3
 rw [hd] at hg
 rw [← h1,hg]
 unfold clsG
 rw [List.map_append,List.getElem?_append_right (by simp;omega)]
 simp [h2]
theorem Rd.atP' {w : World} {A : Option Addr} {l : List Nat} {k : Nat} {x : Nat} (h : Rd w 1 A (l.map encN)) (hk : l[k]? = some x) : ∃ b off,A = some ⟨b,off,none⟩∧w.cell? ⟨b,off+k,none⟩ = some (.int .i64 (x : Nat)):=by
 obtain ⟨b,off,rfl,hc⟩:=h (by intro e;cases l with | nil=>simp at hk | cons _ _=>simp at e)
 have h0:=hc k 0 (encN x) (.int .i64 (x : Nat)) (by simp [hk]) rfl
 exact ⟨b,off,rfl,by simpa using h0⟩
theorem gBounds_any (s : ByteArray) (w : World) (hE : Env w) (hs : s.size≤1000000) :
  Calls Tryz.prog 91 #[.string s] w fun e w'=>∃ A n c,e = .returned (.slice A n c)∧Own w' w.heap.size 3 1 A n c ((boundsG gG s).map encN)∧Below w.heap.size w w':=by
 obtain ⟨i0,hi0,hz0,hz1,hz2⟩:=info_parts infoInt
 by_cases h0 : 0 < s.size
 ·have hem : s.toList.isEmpty = false:=by
   rw [ByteArray.toList_eq]
   cases hq : s.data.toList with
   | nil=>rw [← size_data,hq] at h0;simp at h0
   | cons a b=>rfl
  have HD:=Lib.hid (gdb_any w hE)
  obtain ⟨L,HL⟩ : ∃ L,Hid (clsG gG (runesP s) = L):=⟨_,Lib.hid rfl⟩
  have hLz : L.length≤s.size:=by rw [← HL.out];unfold clsG;rw [List.length_map];exact runesP_len s
  clear hE
  go_enter Tryz.func91,Tryz.ntmps91
  go_wp2_with fail
  refine HD.out.mono ?_
  rintro e w1 ⟨p,rfl,hd,hb1⟩
  have HO:=Lib.hid (wOf_any p graphsD s w1 hd graphsOk.1 graphsOk.2.1 hs)
  rw [show ofC graphsD s = L from HL.out] at HO
  go_wp2_with fail
  refine HO.out.mono ?_
  rintro e w2 ⟨B,nb,cb,rfl,hob,hb2⟩
  have hnb : L.length = nb:=by have:=hob.len;simpa using this
  have Hnb:=Lib.hid hnb
  have hnz : nb≤1000000:=by omega
  have rd:=hob.rd (by decide)
  have hb3:=below_two hb1 hb2
  have hsz3:=hb3.size
  clear HD HO hd hob hb1 hb2 hnb hLz
  have ho0 : Own ((w2.alloc (.cells #[.int .i64 0] 3)).iter s 0) w2.heap.size 3 1 (some ⟨w2.heap.size,0,none⟩) 1 1 ([0].map encN):=(own_one (u:=.int .i64 0) (t:=3) (w:=w2) (Nat.le_refl _)).alloc _
  have hbz : Below w2.heap.size w2 ((w2.alloc (.cells #[.int .i64 0] 3)).iter s 0):=below_iter ((Below.refl _ _).alloc (Nat.le_refl _) _) (by simp) _ _
  have hit0 : ((w2.alloc (.cells #[.int .i64 0] 3)).iter s 0).heap[w2.heap.size+1]? = some (.stringIter s 0):=by have:=iter_new (w2.alloc (.cells #[.int .i64 0] 3)) s 0;simpa using this
  have HG0:=Lib.hid (gbAt_first gG s)
  go_wp2_with fail
  go_loopw [4,5,6,7,8] (fun v4 v5 v6 v7 v8 wr=>∃ (q f i : Nat) (x : Int) (pc jn : Bool) (fl : Nat) (A : Option Addr) (n c : Nat) (O : List Nat),v4 = .slice A n c∧v5 = .int .i64 x∧x = (i : Int) - 1∧v6 = .bool pc∧v7 = .bool jn∧v8 = .int .i64 fl ∧
   wr.heap[w2.heap.size+1]? = some (.stringIter s q)∧Own wr w2.heap.size 3 1 A n c (O.map encN)∧(∀ a,A = some a→a.block ≠ w2.heap.size+1)∧n≤i+1∧i≤q∧fl≤i∧q≤s.size∧Hid (GbAt gG s f q i pc jn fl O)∧Below w2.heap.size w2 wr) (fun _ _ _ _ _ wr=>s.size - wr.iterPos (w2.heap.size+1))
  case atStart=>exact ⟨0,s.size,0,-1,false,false,0,_,_,_,[0],rfl,rfl,by omega,rfl,rfl,rfl,hit0,ho0,fun a ha=>by injection ha with ha;subst ha;simp,by omega,by omega,by omega,by omega,HG0,hbz⟩
  case round =>
   clear hit0 ho0 hbz HG0
   obtain ⟨q,f,i,x,pc,jn,fl,A,n,c,O,rfl,rfl,hxi,rfl,rfl,rfl,hit,ho,hA,hni,hiq,hfi,hqs,HG,hb⟩:=hrel
   have Hpos:=Lib.hid (iterPos_of hit)
   by_cases hp : q < s.size
   ·obtain ⟨⟨R,W⟩,HDc⟩ : ∃ d,Utf8.decode s q = d:=⟨_,rfl⟩
    have hd:=dec_bd s q hp
    have hnx : ∀ ty,(Instr.next (.pointer (some ⟨w2.heap.size+1,0,none⟩)) true ty).run Tryz.prog wr = _:=fun ty=>Lib.run_next_any_at wr (w2.heap.size+1) s q ty hit hp
    have hit2:=Lib.iterAt_heap wr (w2.heap.size+1) s q (q+(Utf8.decode s q).2) hit
    have hb2:=Lib.below_iterAt hb (k:=w2.heap.size+1) (by omega) s (q+(Utf8.decode s q).2)
    have ho2:=ho.keep (w':=wr.iterAt (w2.heap.size+1) s (q+(Utf8.decode s q).2)) fun a ha=>Lib.iterAt_other wr (w2.heap.size+1) a.block s _ (hA a ha)
    have hsz2 : w2.heap.size+1 < (wr.iterAt (w2.heap.size+1) s (q+(Utf8.decode s q).2)).heap.size:=(Array.getElem?_eq_some_iff.1 hit2).1
    rw [HDc] at hd hnx hit2 hb2 ho2 hsz2
    simp only at hd hnx hit2 hb2 ho2 hsz2
    have hhere:=gbAt_here HG.out hp HDc
    rw [HL.out] at hhere
    have hy14:=gG_lt (R : Int)
    obtain ⟨y,hy⟩ : ∃ y,gG (R : Int) = y:=⟨_,rfl⟩
    rw [hy] at hhere hy14
    have Hhere:=Lib.hid hhere
    obtain ⟨bb,off,rfl,cy⟩:=rd.atP' Hhere.out
    replace cy:=cell_keep cy hb2
    have HY:=Lib.hid hy
    have hin : i < nb:=by have:=(List.getElem?_eq_some_iff.1 hhere).1;have:=Hnb.out;omega
    clear hy hhere ho hit hb
    generalize wr.iterAt (w2.heap.size+1) s (q+W) = w4 at hnx hit2 hb2 ho2 hsz2 cy
    have e1 : IntKind.i64.wrap (x+1) = (i : Int):=by rw [show x+1 = (i : Int) by omega];exact IntWalk.i64_in _ (by omega)
    have e2 : x+1 = (i : Int):=by omega
    by_cases hi0 : i = 0
    ·have f0 : ((i : Int) == 0) = true:=by rw [hi0];rfl
     have HI:=Lib.hid hi0
     have hG0:=HG.out
     rw [hi0] at hG0
     obtain ⟨g,hN⟩:=gbAt_one hG0 hp HDc (by omega)
     have HN:=Lib.hid hN
     obtain ⟨hpc,hjn,hfl⟩:=gbAt_zero hG0
     subst hpc
     subst hjn
     have Hfl:=Lib.hid hfl
     clear hi0 hG0 hN HDc HG hfl
     rcases (by omega : y = 12∨y = 13∨(y ≠ 12∧y ≠ 13)) with hc | hc | ⟨hc1,hc2⟩
     ·have HYc:=Lib.hid HY.out
      have c12 : (((y : Nat) : Int) == 12) = true:=by rw [hc];rfl
      have c13 : (((y : Nat) : Int) == 13) = false:=by rw [hc];rfl
      have HN2 : Hid (GbAt gG s g (q+W) (i+1) true false 0 O):=Lib.hid (by have h:=HN.out;rw [HY.out,hc] at h;rw [HI.out];exact h)
      clear hc
      go_wp2_with fail
      refine wp_scope_on 0 rfl ?_
      go_wp2_with fail
      go_step3
      refine (⟨rfl,?_⟩ : _∧_)
      show Code.wp _ _ _ _ _
      go_wp2_with fail
      refine (show Exit.inBlock 1 _ Exit.normal _ _ from ?_)
      try go_wp2
      go_roundw
      case rel=>exact ⟨q+W,g,i+1,(i : Int),true,false,0,A,n,c,O,rfl,rfl,by omega,rfl,rfl,rfl,hit2,ho2,hA,by omega,by omega,by omega,by omega,HN2,hb2⟩
      case measure=>rw [iterPos_of hit2,Hpos.out];omega
     ·have HYc:=Lib.hid HY.out
      have c12 : (((y : Nat) : Int) == 12) = false:=by rw [hc];rfl
      have c13 : (((y : Nat) : Int) == 13) = true:=by rw [hc];rfl
      have HN2 : Hid (GbAt gG s g (q+W) (i+1) false false 1 O):=Lib.hid (by have h:=HN.out;rw [HY.out,hc] at h;rw [HI.out];exact h)
      clear hc
      go_wp2_with fail
      refine wp_scope_on 0 rfl ?_
      go_wp2_with fail
      go_step3
      refine (⟨rfl,?_⟩ : _∧_)
      show Code.wp _ _ _ _ _
      go_wp2_with fail
      refine (show Exit.inBlock 1 _ Exit.normal _ _ from ?_)
      try go_wp2
      go_roundw
      case rel=>exact ⟨q+W,g,i+1,(i : Int),false,false,1,A,n,c,O,rfl,rfl,by omega,rfl,rfl,(by rw [Hfl.out];rfl),hit2,ho2,hA,by omega,by omega,by omega,by omega,HN2,hb2⟩
      case measure=>rw [iterPos_of hit2,Hpos.out];omega
     ·have HYc:=Lib.hid HY.out
      have c12 : (((y : Nat) : Int) == 12) = false:=beq_eq_false_iff_ne.2 (by omega)
      have c13 : (((y : Nat) : Int) == 13) = false:=beq_eq_false_iff_ne.2 (by omega)
      have HN2 : Hid (GbAt gG s g (q+W) (i+1) false false 0 O):=Lib.hid (by have h:=HN.out;rw [HY.out,beq_eq_false_iff_ne.2 hc1,if_neg hc2] at h;rw [HI.out];exact h)
      clear hc1 hc2
      go_wp2_with fail
      refine wp_scope_on 0 rfl ?_
      go_wp2_with fail
      go_step3
      refine (⟨rfl,?_⟩ : _∧_)
      show Code.wp _ _ _ _ _
      go_wp2_with fail
      refine (show Exit.inBlock 1 _ Exit.normal _ _ from ?_)
      try go_wp2
      go_roundw
      case rel=>exact ⟨q+W,g,i+1,(i : Int),false,false,0,A,n,c,O,rfl,rfl,by omega,rfl,rfl,rfl,hit2,ho2,hA,by omega,by omega,by omega,by omega,HN2,hb2⟩
      case measure=>rw [iterPos_of hit2,Hpos.out];omega
    ·have f0 : ((i : Int) == 0) = false:=beq_eq_false_iff_ne.2 (by omega)
     obtain ⟨i,rfl⟩ : ∃ k,i = k+1:=⟨i - 1,by omega⟩
     obtain ⟨z,Hz⟩ : ∃ z,Hid (L[i]? = some z):=⟨_,Lib.hid (List.getElem?_eq_getElem (by have:=Hnb.out;omega))⟩
     obtain ⟨bb2,off2,eB,cz⟩:=rd.atP' Hz.out
     obtain ⟨rfl,rfl⟩ : bb = bb2∧off = off2:=by injection eB with e;injection e with e1 e2;exact ⟨e1,e2⟩
     replace cz:=cell_keep cz hb2
     have hz14 : z < 14:=by
      have:=List.mem_of_getElem? Hz.out
      rw [← HL.out] at this
      unfold clsG at this
      obtain ⟨u,_,e⟩:=List.mem_map.1 this
      rw [← e];exact gG_lt _
     obtain ⟨g,hN⟩:=gbAt_next HG.out hp HDc (by omega) (by rw [HL.out];exact Hz.out)
     have HN:=Lib.hid hN
     have e3 : ((i+1 : Nat) : Int) - 1 = (i : Int):=by omega
     have e4 : ((i : Int)+1) - 1 = (i : Int):=by omega
     have f1 : ((i : Int)+1 == 0) = false:=beq_eq_false_iff_ne.2 (by omega)
     obtain ⟨jz,hjz⟩ : ∃ b,joinG z y = b:=⟨_,rfl⟩
     have HJ:=Lib.hid (gjoins_any (z : Int) (y : Int) w4)
     rw [joinZ_eq z hz14 y hy14,hjz] at HJ
     clear hi0 hN HDc HG eB Hz hz14
     rcases (by omega : y = 12∨y = 13∨y = 5∨y = 4∨(y ≠ 12∧y ≠ 13∧y ≠ 5∧y ≠ 4)) with hc | hc | hc | hc | ⟨k12,k13,k5,k4⟩
     ·skip
      have c12 : (((y : Nat) : Int) == 12) = true:=by rw [hc];rfl
      have d12 : (y == 12) = true:=by rw [hc];rfl
      have c13 : (((y : Nat) : Int) == 13) = false:=by rw [hc];rfl
      have d13 : (y == 13) = false:=by rw [hc];rfl
      have c5 : (((y : Nat) : Int) == 5) = false:=by rw [hc];rfl
      have d5 : (y == 5) = false:=by rw [hc];rfl
      have c4 : (((y : Nat) : Int) == 4) = false:=by rw [hc];rfl
      have d4 : (y == 4) = false:=by rw [hc];rfl
      have d13p : (y = 13) = False:=by simp [hc]
      have Hd:=Lib.hid (And.intro d12 (And.intro d13 (And.intro d5 (And.intro d4 d13p))))
      clear d12 d13 d5 d4 d13p hc
      cases jz with
      | true =>
       cases pc with
       | true =>
        have HN2 : Hid (GbAt gG s g (q+W) (i+1+1) true false 0 O):=Lib.hid (by
         have h:=HN.out
         rw [HY.out,Hd.out.1,Hd.out.2.1,Hd.out.2.2.1,Hd.out.2.2.2.1,hjz] at h
         simpa [Hd.out.2.2.2.2] using h)
        clear HN
        go_wp2_with fail
        refine wp_scope_on 0 rfl ?_
        go_wp2_with fail
        refine HJ.out.mono ?_
        rintro e wj ⟨rfl,rfl⟩
        go_wp2_with fail
        go_step3
        refine (⟨rfl,?_⟩ : _∧_)
        show Code.wp _ _ _ _ _
        go_wp2_with fail
        refine (show Exit.inBlock 1 _ Exit.normal _ _ from ?_)
        try go_wp2
        go_roundw
        case rel=>exact ⟨q+W,g,i+1+1,((i+1 : Nat) : Int),true,false,0,A,n,c,O,rfl,by first | rfl | (push_cast;rfl),by omega,rfl,rfl,rfl,hit2,ho2,hA,by omega,by omega,by omega,by omega,HN2,hb2⟩
        case measure=>rw [iterPos_of hit2,Hpos.out];omega
       | false =>
        have HN2 : Hid (GbAt gG s g (q+W) (i+1+1) true false 0 O):=Lib.hid (by
         have h:=HN.out
         rw [HY.out,Hd.out.1,Hd.out.2.1,Hd.out.2.2.1,Hd.out.2.2.2.1,hjz] at h
         simpa [Hd.out.2.2.2.2] using h)
        clear HN
        go_wp2_with fail
        refine wp_scope_on 0 rfl ?_
        go_wp2_with fail
        refine HJ.out.mono ?_
        rintro e wj ⟨rfl,rfl⟩
        go_wp2_with fail
        go_step3
        refine (⟨rfl,?_⟩ : _∧_)
        show Code.wp _ _ _ _ _
        go_wp2_with fail
        refine (show Exit.inBlock 1 _ Exit.normal _ _ from ?_)
        try go_wp2
        go_roundw
        case rel=>exact ⟨q+W,g,i+1+1,((i+1 : Nat) : Int),true,false,0,A,n,c,O,rfl,by first | rfl | (push_cast;rfl),by omega,rfl,rfl,rfl,hit2,ho2,hA,by omega,by omega,by omega,by omega,HN2,hb2⟩
        case measure=>rw [iterPos_of hit2,Hpos.out];omega
      | false =>
       cases jn with
       | true =>
        cases pc with
        | true =>
         have HN2 : Hid (GbAt gG s g (q+W) (i+1+1) true false 0 O):=Lib.hid (by
          have h:=HN.out
          rw [HY.out,Hd.out.1,Hd.out.2.1,Hd.out.2.2.1,Hd.out.2.2.2.1,hjz] at h
          simpa [Hd.out.2.2.2.2] using h)
         clear HN
         go_wp2_with fail
         refine wp_scope_on 0 rfl ?_
         go_wp2_with fail
         refine HJ.out.mono ?_
         rintro e wj ⟨rfl,rfl⟩
         go_wp2_with fail
         go_step3
         refine (⟨rfl,?_⟩ : _∧_)
         show Code.wp _ _ _ _ _
         go_wp2_with fail
         refine (show Exit.inBlock 1 _ Exit.normal _ _ from ?_)
         try go_wp2
         go_roundw
         case rel=>exact ⟨q+W,g,i+1+1,((i+1 : Nat) : Int),true,false,0,A,n,c,O,rfl,by first | rfl | (push_cast;rfl),by omega,rfl,rfl,rfl,hit2,ho2,hA,by omega,by omega,by omega,by omega,HN2,hb2⟩
         case measure=>rw [iterPos_of hit2,Hpos.out];omega
        | false =>
         have HN2 : Hid (GbAt gG s g (q+W) (i+1+1) true false 0 O):=Lib.hid (by
          have h:=HN.out
          rw [HY.out,Hd.out.1,Hd.out.2.1,Hd.out.2.2.1,Hd.out.2.2.2.1,hjz] at h
          simpa [Hd.out.2.2.2.2] using h)
         clear HN
         go_wp2_with fail
         refine wp_scope_on 0 rfl ?_
         go_wp2_with fail
         refine HJ.out.mono ?_
         rintro e wj ⟨rfl,rfl⟩
         go_wp2_with fail
         go_step3
         refine (⟨rfl,?_⟩ : _∧_)
         show Code.wp _ _ _ _ _
         go_wp2_with fail
         refine (show Exit.inBlock 1 _ Exit.normal _ _ from ?_)
         try go_wp2
         go_roundw
         case rel=>exact ⟨q+W,g,i+1+1,((i+1 : Nat) : Int),true,false,0,A,n,c,O,rfl,by first | rfl | (push_cast;rfl),by omega,rfl,rfl,rfl,hit2,ho2,hA,by omega,by omega,by omega,by omega,HN2,hb2⟩
         case measure=>rw [iterPos_of hit2,Hpos.out];omega
       | false =>
        cases pc with
        | true =>
         have HN2 : Hid (GbAt gG s g (q+W) (i+1+1) true false 0 (O++[q])):=Lib.hid (by
          have h:=HN.out
          rw [HY.out,Hd.out.1,Hd.out.2.1,Hd.out.2.2.1,Hd.out.2.2.2.1,hjz] at h
          simpa [Hd.out.2.2.2.2] using h)
         clear HN
         go_wp2_with fail
         refine wp_scope_on 0 rfl ?_
         go_wp2_with fail
         refine HJ.out.mono ?_
         rintro e wj ⟨rfl,rfl⟩
         go_wp2_with (at_builtin;go_must (refine wpList_app rfl (.tmp 53) (.tmp 55) _ rfl w2.heap.size 3 i0 _ 1 8 Tryz.underlying65 hi0 hz0 hz1 hz2 rfl (by omega) A n c (O.map encN) rfl (ho2.alloc _) _ 1 1 [encN q] rfl rfl (Rd.newAt (by simp) rfl) (encN_ok [q]) (by unfold maxLen;omega) (by omega) (by simp;omega) ?_);intro A3 c3 w5 ho5 hg5 hA5)
         go_step3
         go_wp2_with fail
         have hb5:=below_app (hb2.alloc (by omega) _) hg5 (by simp;omega) (fun a ha=>(ho2.lt a ha).1)
         have hit5 : w5.heap[w2.heap.size+1]? = some (.stringIter s (q+W)):=(hg5.block (w2.heap.size+1) (by simp;omega) (fun e=>by cases A with | none=>cases e | some a=>simp at e;exact hA a rfl e.symm)).trans ((Below.heap_alloc _ _ _ hsz2).trans hit2)
         have hA6 : ∀ a,A3 = some a→a.block ≠ w2.heap.size+1:=fun a ha=>by
          rcases hA5 with e | e
          ·exact hA a (by rw [← e];exact ha)
          ·rw [e] at ha;injection ha with ha;subst ha;simp;omega
         refine (show Exit.inBlock 1 _ Exit.normal _ _ from ?_)
         try go_wp2
         go_roundw
         case rel=>exact ⟨q+W,g,i+1+1,((i+1 : Nat) : Int),true,false,0,A3,n+1,c3,O++[q],rfl,by first | rfl | (push_cast;rfl),by omega,rfl,rfl,rfl,hit5,by rw [List.map_append];exact ho5,hA6,by omega,by omega,by omega,by omega,HN2,hb5⟩
         case measure=>rw [iterPos_of hit5,Hpos.out];omega
        | false =>
         have HN2 : Hid (GbAt gG s g (q+W) (i+1+1) true false 0 (O++[q])):=Lib.hid (by
          have h:=HN.out
          rw [HY.out,Hd.out.1,Hd.out.2.1,Hd.out.2.2.1,Hd.out.2.2.2.1,hjz] at h
          simpa [Hd.out.2.2.2.2] using h)
         clear HN
         go_wp2_with fail
         refine wp_scope_on 0 rfl ?_
         go_wp2_with fail
         refine HJ.out.mono ?_
         rintro e wj ⟨rfl,rfl⟩
         go_wp2_with (at_builtin;go_must (refine wpList_app rfl (.tmp 53) (.tmp 55) _ rfl w2.heap.size 3 i0 _ 1 8 Tryz.underlying65 hi0 hz0 hz1 hz2 rfl (by omega) A n c (O.map encN) rfl (ho2.alloc _) _ 1 1 [encN q] rfl rfl (Rd.newAt (by simp) rfl) (encN_ok [q]) (by unfold maxLen;omega) (by omega) (by simp;omega) ?_);intro A3 c3 w5 ho5 hg5 hA5)
         go_step3
         go_wp2_with fail
         have hb5:=below_app (hb2.alloc (by omega) _) hg5 (by simp;omega) (fun a ha=>(ho2.lt a ha).1)
         have hit5 : w5.heap[w2.heap.size+1]? = some (.stringIter s (q+W)):=(hg5.block (w2.heap.size+1) (by simp;omega) (fun e=>by cases A with | none=>cases e | some a=>simp at e;exact hA a rfl e.symm)).trans ((Below.heap_alloc _ _ _ hsz2).trans hit2)
         have hA6 : ∀ a,A3 = some a→a.block ≠ w2.heap.size+1:=fun a ha=>by
          rcases hA5 with e | e
          ·exact hA a (by rw [← e];exact ha)
          ·rw [e] at ha;injection ha with ha;subst ha;simp;omega
         refine (show Exit.inBlock 1 _ Exit.normal _ _ from ?_)
         try go_wp2
         go_roundw
         case rel=>exact ⟨q+W,g,i+1+1,((i+1 : Nat) : Int),true,false,0,A3,n+1,c3,O++[q],rfl,by first | rfl | (push_cast;rfl),by omega,rfl,rfl,rfl,hit5,by rw [List.map_append];exact ho5,hA6,by omega,by omega,by omega,by omega,HN2,hb5⟩
         case measure=>rw [iterPos_of hit5,Hpos.out];omega
     ·skip
      have c12 : (((y : Nat) : Int) == 12) = false:=by rw [hc];rfl
      have d12 : (y == 12) = false:=by rw [hc];rfl
      have c13 : (((y : Nat) : Int) == 13) = true:=by rw [hc];rfl
      have d13 : (y == 13) = true:=by rw [hc];rfl
      have c5 : (((y : Nat) : Int) == 5) = false:=by rw [hc];rfl
      have d5 : (y == 5) = false:=by rw [hc];rfl
      have c4 : (((y : Nat) : Int) == 4) = false:=by rw [hc];rfl
      have d4 : (y == 4) = false:=by rw [hc];rfl
      have d13p : (y = 13) = True:=by simp [hc]
      have Hd:=Lib.hid (And.intro d12 (And.intro d13 (And.intro d5 (And.intro d4 d13p))))
      clear d12 d13 d5 d4 d13p hc
      cases jz with
      | true =>
       cases pc with
       | true =>
        have HN2 : Hid (GbAt gG s g (q+W) (i+1+1) false false (fl+1) O):=Lib.hid (by
         have h:=HN.out
         rw [HY.out,Hd.out.1,Hd.out.2.1,Hd.out.2.2.1,Hd.out.2.2.2.1,hjz] at h
         simpa [Hd.out.2.2.2.2] using h)
        clear HN
        go_wp2_with fail
        refine wp_scope_on 0 rfl ?_
        go_wp2_with fail
        refine HJ.out.mono ?_
        rintro e wj ⟨rfl,rfl⟩
        go_wp2_with fail
        go_step3
        refine (⟨rfl,?_⟩ : _∧_)
        show Code.wp _ _ _ _ _
        go_wp2_with fail
        refine (show Exit.inBlock 1 _ Exit.normal _ _ from ?_)
        try go_wp2
        go_roundw
        case rel=>exact ⟨q+W,g,i+1+1,((i+1 : Nat) : Int),false,false,fl+1,A,n,c,O,rfl,by first | rfl | (push_cast;rfl),by omega,rfl,rfl,by go_num,hit2,ho2,hA,by omega,by omega,by omega,by omega,HN2,hb2⟩
        case measure=>rw [iterPos_of hit2,Hpos.out];omega
       | false =>
        have HN2 : Hid (GbAt gG s g (q+W) (i+1+1) false false (fl+1) O):=Lib.hid (by
         have h:=HN.out
         rw [HY.out,Hd.out.1,Hd.out.2.1,Hd.out.2.2.1,Hd.out.2.2.2.1,hjz] at h
         simpa [Hd.out.2.2.2.2] using h)
        clear HN
        go_wp2_with fail
        refine wp_scope_on 0 rfl ?_
        go_wp2_with fail
        refine HJ.out.mono ?_
        rintro e wj ⟨rfl,rfl⟩
        go_wp2_with fail
        go_step3
        refine (⟨rfl,?_⟩ : _∧_)
        show Code.wp _ _ _ _ _
        go_wp2_with fail
        refine (show Exit.inBlock 1 _ Exit.normal _ _ from ?_)
        try go_wp2
        go_roundw
        case rel=>exact ⟨q+W,g,i+1+1,((i+1 : Nat) : Int),false,false,fl+1,A,n,c,O,rfl,by first | rfl | (push_cast;rfl),by omega,rfl,rfl,by go_num,hit2,ho2,hA,by omega,by omega,by omega,by omega,HN2,hb2⟩
        case measure=>rw [iterPos_of hit2,Hpos.out];omega
      | false =>
       cases jn with
       | true =>
        rcases (by omega : fl % 2 = 1∨fl % 2 = 0) with hm | hm
        ·have hpar : (fl % 2 == 1) = true:=by rw [hm];rfl
         have hparI : ((fl : Int) % 2 == 1) = true:=by rw [show (fl : Int) % 2 = 1 by omega];rfl
         clear hm
         cases pc with
         | true =>
          have HN2 : Hid (GbAt gG s g (q+W) (i+1+1) false false (fl+1) O):=Lib.hid (by
           have h:=HN.out
           rw [HY.out,Hd.out.1,Hd.out.2.1,Hd.out.2.2.1,Hd.out.2.2.2.1,hjz,hpar] at h
           simpa [Hd.out.2.2.2.2] using h)
          clear HN
          go_wp2_with fail
          refine wp_scope_on 0 rfl ?_
          go_wp2_with fail
          refine HJ.out.mono ?_
          rintro e wj ⟨rfl,rfl⟩
          go_wp2_with fail
          go_step3
          refine (⟨rfl,?_⟩ : _∧_)
          show Code.wp _ _ _ _ _
          go_wp2_with fail
          refine (show Exit.inBlock 1 _ Exit.normal _ _ from ?_)
          try go_wp2
          go_roundw
          case rel=>exact ⟨q+W,g,i+1+1,((i+1 : Nat) : Int),false,false,fl+1,A,n,c,O,rfl,by first | rfl | (push_cast;rfl),by omega,rfl,rfl,by go_num,hit2,ho2,hA,by omega,by omega,by omega,by omega,HN2,hb2⟩
          case measure=>rw [iterPos_of hit2,Hpos.out];omega
         | false =>
          have HN2 : Hid (GbAt gG s g (q+W) (i+1+1) false false (fl+1) O):=Lib.hid (by
           have h:=HN.out
           rw [HY.out,Hd.out.1,Hd.out.2.1,Hd.out.2.2.1,Hd.out.2.2.2.1,hjz,hpar] at h
           simpa [Hd.out.2.2.2.2] using h)
          clear HN
          go_wp2_with fail
          refine wp_scope_on 0 rfl ?_
          go_wp2_with fail
          refine HJ.out.mono ?_
          rintro e wj ⟨rfl,rfl⟩
          go_wp2_with fail
          go_step3
          refine (⟨rfl,?_⟩ : _∧_)
          show Code.wp _ _ _ _ _
          go_wp2_with fail
          refine (show Exit.inBlock 1 _ Exit.normal _ _ from ?_)
          try go_wp2
          go_roundw
          case rel=>exact ⟨q+W,g,i+1+1,((i+1 : Nat) : Int),false,false,fl+1,A,n,c,O,rfl,by first | rfl | (push_cast;rfl),by omega,rfl,rfl,by go_num,hit2,ho2,hA,by omega,by omega,by omega,by omega,HN2,hb2⟩
          case measure=>rw [iterPos_of hit2,Hpos.out];omega
        ·have hpar : (fl % 2 == 1) = false:=by rw [hm];rfl
         have hparI : ((fl : Int) % 2 == 1) = false:=by rw [show (fl : Int) % 2 = 0 by omega];rfl
         clear hm
         cases pc with
         | true =>
          have HN2 : Hid (GbAt gG s g (q+W) (i+1+1) false false (fl+1) (O++[q])):=Lib.hid (by
           have h:=HN.out
           rw [HY.out,Hd.out.1,Hd.out.2.1,Hd.out.2.2.1,Hd.out.2.2.2.1,hjz,hpar] at h
           simpa [Hd.out.2.2.2.2] using h)
          clear HN
          go_wp2_with fail
          refine wp_scope_on 0 rfl ?_
          go_wp2_with fail
          refine HJ.out.mono ?_
          rintro e wj ⟨rfl,rfl⟩
          go_wp2_with (at_builtin;go_must (refine wpList_app rfl (.tmp 53) (.tmp 55) _ rfl w2.heap.size 3 i0 _ 1 8 Tryz.underlying65 hi0 hz0 hz1 hz2 rfl (by omega) A n c (O.map encN) rfl (ho2.alloc _) _ 1 1 [encN q] rfl rfl (Rd.newAt (by simp) rfl) (encN_ok [q]) (by unfold maxLen;omega) (by omega) (by simp;omega) ?_);intro A3 c3 w5 ho5 hg5 hA5)
          go_step3
          go_wp2_with fail
          have hb5:=below_app (hb2.alloc (by omega) _) hg5 (by simp;omega) (fun a ha=>(ho2.lt a ha).1)
          have hit5 : w5.heap[w2.heap.size+1]? = some (.stringIter s (q+W)):=(hg5.block (w2.heap.size+1) (by simp;omega) (fun e=>by cases A with | none=>cases e | some a=>simp at e;exact hA a rfl e.symm)).trans ((Below.heap_alloc _ _ _ hsz2).trans hit2)
          have hA6 : ∀ a,A3 = some a→a.block ≠ w2.heap.size+1:=fun a ha=>by
           rcases hA5 with e | e
           ·exact hA a (by rw [← e];exact ha)
           ·rw [e] at ha;injection ha with ha;subst ha;simp;omega
          refine (show Exit.inBlock 1 _ Exit.normal _ _ from ?_)
          try go_wp2
          go_roundw
          case rel=>exact ⟨q+W,g,i+1+1,((i+1 : Nat) : Int),false,false,fl+1,A3,n+1,c3,O++[q],rfl,by first | rfl | (push_cast;rfl),by omega,rfl,rfl,by go_num,hit5,by rw [List.map_append];exact ho5,hA6,by omega,by omega,by omega,by omega,HN2,hb5⟩
          case measure=>rw [iterPos_of hit5,Hpos.out];omega
         | false =>
          have HN2 : Hid (GbAt gG s g (q+W) (i+1+1) false false (fl+1) (O++[q])):=Lib.hid (by
           have h:=HN.out
           rw [HY.out,Hd.out.1,Hd.out.2.1,Hd.out.2.2.1,Hd.out.2.2.2.1,hjz,hpar] at h
           simpa [Hd.out.2.2.2.2] using h)
          clear HN
          go_wp2_with fail
          refine wp_scope_on 0 rfl ?_
          go_wp2_with fail
          refine HJ.out.mono ?_
          rintro e wj ⟨rfl,rfl⟩
          go_wp2_with (at_builtin;go_must (refine wpList_app rfl (.tmp 53) (.tmp 55) _ rfl w2.heap.size 3 i0 _ 1 8 Tryz.underlying65 hi0 hz0 hz1 hz2 rfl (by omega) A n c (O.map encN) rfl (ho2.alloc _) _ 1 1 [encN q] rfl rfl (Rd.newAt (by simp) rfl) (encN_ok [q]) (by unfold maxLen;omega) (by omega) (by simp;omega) ?_);intro A3 c3 w5 ho5 hg5 hA5)
          go_step3
          go_wp2_with fail
          have hb5:=below_app (hb2.alloc (by omega) _) hg5 (by simp;omega) (fun a ha=>(ho2.lt a ha).1)
          have hit5 : w5.heap[w2.heap.size+1]? = some (.stringIter s (q+W)):=(hg5.block (w2.heap.size+1) (by simp;omega) (fun e=>by cases A with | none=>cases e | some a=>simp at e;exact hA a rfl e.symm)).trans ((Below.heap_alloc _ _ _ hsz2).trans hit2)
          have hA6 : ∀ a,A3 = some a→a.block ≠ w2.heap.size+1:=fun a ha=>by
           rcases hA5 with e | e
           ·exact hA a (by rw [← e];exact ha)
           ·rw [e] at ha;injection ha with ha;subst ha;simp;omega
          refine (show Exit.inBlock 1 _ Exit.normal _ _ from ?_)
          try go_wp2
          go_roundw
          case rel=>exact ⟨q+W,g,i+1+1,((i+1 : Nat) : Int),false,false,fl+1,A3,n+1,c3,O++[q],rfl,by first | rfl | (push_cast;rfl),by omega,rfl,rfl,by go_num,hit5,by rw [List.map_append];exact ho5,hA6,by omega,by omega,by omega,by omega,HN2,hb5⟩
          case measure=>rw [iterPos_of hit5,Hpos.out];omega
       | false =>
        rcases (by omega : fl % 2 = 1∨fl % 2 = 0) with hm | hm
        ·have hpar : (fl % 2 == 1) = true:=by rw [hm];rfl
         have hparI : ((fl : Int) % 2 == 1) = true:=by rw [show (fl : Int) % 2 = 1 by omega];rfl
         clear hm
         cases pc with
         | true =>
          have HN2 : Hid (GbAt gG s g (q+W) (i+1+1) false false (fl+1) O):=Lib.hid (by
           have h:=HN.out
           rw [HY.out,Hd.out.1,Hd.out.2.1,Hd.out.2.2.1,Hd.out.2.2.2.1,hjz,hpar] at h
           simpa [Hd.out.2.2.2.2] using h)
          clear HN
          go_wp2_with fail
          refine wp_scope_on 0 rfl ?_
          go_wp2_with fail
          refine HJ.out.mono ?_
          rintro e wj ⟨rfl,rfl⟩
          go_wp2_with fail
          go_step3
          refine (⟨rfl,?_⟩ : _∧_)
          show Code.wp _ _ _ _ _
          go_wp2_with fail
          refine (show Exit.inBlock 1 _ Exit.normal _ _ from ?_)
          try go_wp2
          go_roundw
          case rel=>exact ⟨q+W,g,i+1+1,((i+1 : Nat) : Int),false,false,fl+1,A,n,c,O,rfl,by first | rfl | (push_cast;rfl),by omega,rfl,rfl,by go_num,hit2,ho2,hA,by omega,by omega,by omega,by omega,HN2,hb2⟩
          case measure=>rw [iterPos_of hit2,Hpos.out];omega
         | false =>
          have HN2 : Hid (GbAt gG s g (q+W) (i+1+1) false false (fl+1) O):=Lib.hid (by
           have h:=HN.out
           rw [HY.out,Hd.out.1,Hd.out.2.1,Hd.out.2.2.1,Hd.out.2.2.2.1,hjz,hpar] at h
           simpa [Hd.out.2.2.2.2] using h)
          clear HN
          go_wp2_with fail
          refine wp_scope_on 0 rfl ?_
          go_wp2_with fail
          refine HJ.out.mono ?_
          rintro e wj ⟨rfl,rfl⟩
          go_wp2_with fail
          go_step3
          refine (⟨rfl,?_⟩ : _∧_)
          show Code.wp _ _ _ _ _
          go_wp2_with fail
          refine (show Exit.inBlock 1 _ Exit.normal _ _ from ?_)
          try go_wp2
          go_roundw
          case rel=>exact ⟨q+W,g,i+1+1,((i+1 : Nat) : Int),false,false,fl+1,A,n,c,O,rfl,by first | rfl | (push_cast;rfl),by omega,rfl,rfl,by go_num,hit2,ho2,hA,by omega,by omega,by omega,by omega,HN2,hb2⟩
          case measure=>rw [iterPos_of hit2,Hpos.out];omega
        ·have hpar : (fl % 2 == 1) = false:=by rw [hm];rfl
         have hparI : ((fl : Int) % 2 == 1) = false:=by rw [show (fl : Int) % 2 = 0 by omega];rfl
         clear hm
         cases pc with
         | true =>
          have HN2 : Hid (GbAt gG s g (q+W) (i+1+1) false false (fl+1) (O++[q])):=Lib.hid (by
           have h:=HN.out
           rw [HY.out,Hd.out.1,Hd.out.2.1,Hd.out.2.2.1,Hd.out.2.2.2.1,hjz,hpar] at h
           simpa [Hd.out.2.2.2.2] using h)
          clear HN
          go_wp2_with fail
          refine wp_scope_on 0 rfl ?_
          go_wp2_with fail
          refine HJ.out.mono ?_
          rintro e wj ⟨rfl,rfl⟩
          go_wp2_with (at_builtin;go_must (refine wpList_app rfl (.tmp 53) (.tmp 55) _ rfl w2.heap.size 3 i0 _ 1 8 Tryz.underlying65 hi0 hz0 hz1 hz2 rfl (by omega) A n c (O.map encN) rfl (ho2.alloc _) _ 1 1 [encN q] rfl rfl (Rd.newAt (by simp) rfl) (encN_ok [q]) (by unfold maxLen;omega) (by omega) (by simp;omega) ?_);intro A3 c3 w5 ho5 hg5 hA5)
          go_step3
          go_wp2_with fail
          have hb5:=below_app (hb2.alloc (by omega) _) hg5 (by simp;omega) (fun a ha=>(ho2.lt a ha).1)
          have hit5 : w5.heap[w2.heap.size+1]? = some (.stringIter s (q+W)):=(hg5.block (w2.heap.size+1) (by simp;omega) (fun e=>by cases A with | none=>cases e | some a=>simp at e;exact hA a rfl e.symm)).trans ((Below.heap_alloc _ _ _ hsz2).trans hit2)
          have hA6 : ∀ a,A3 = some a→a.block ≠ w2.heap.size+1:=fun a ha=>by
           rcases hA5 with e | e
           ·exact hA a (by rw [← e];exact ha)
           ·rw [e] at ha;injection ha with ha;subst ha;simp;omega
          refine (show Exit.inBlock 1 _ Exit.normal _ _ from ?_)
          try go_wp2
          go_roundw
          case rel=>exact ⟨q+W,g,i+1+1,((i+1 : Nat) : Int),false,false,fl+1,A3,n+1,c3,O++[q],rfl,by first | rfl | (push_cast;rfl),by omega,rfl,rfl,by go_num,hit5,by rw [List.map_append];exact ho5,hA6,by omega,by omega,by omega,by omega,HN2,hb5⟩
          case measure=>rw [iterPos_of hit5,Hpos.out];omega
         | false =>
          have HN2 : Hid (GbAt gG s g (q+W) (i+1+1) false false (fl+1) (O++[q])):=Lib.hid (by
           have h:=HN.out
           rw [HY.out,Hd.out.1,Hd.out.2.1,Hd.out.2.2.1,Hd.out.2.2.2.1,hjz,hpar] at h
           simpa [Hd.out.2.2.2.2] using h)
          clear HN
          go_wp2_with fail
          refine wp_scope_on 0 rfl ?_
          go_wp2_with fail
          refine HJ.out.mono ?_
          rintro e wj ⟨rfl,rfl⟩
          go_wp2_with (at_builtin;go_must (refine wpList_app rfl (.tmp 53) (.tmp 55) _ rfl w2.heap.size 3 i0 _ 1 8 Tryz.underlying65 hi0 hz0 hz1 hz2 rfl (by omega) A n c (O.map encN) rfl (ho2.alloc _) _ 1 1 [encN q] rfl rfl (Rd.newAt (by simp) rfl) (encN_ok [q]) (by unfold maxLen;omega) (by omega) (by simp;omega) ?_);intro A3 c3 w5 ho5 hg5 hA5)
          go_step3
          go_wp2_with fail
          have hb5:=below_app (hb2.alloc (by omega) _) hg5 (by simp;omega) (fun a ha=>(ho2.lt a ha).1)
          have hit5 : w5.heap[w2.heap.size+1]? = some (.stringIter s (q+W)):=(hg5.block (w2.heap.size+1) (by simp;omega) (fun e=>by cases A with | none=>cases e | some a=>simp at e;exact hA a rfl e.symm)).trans ((Below.heap_alloc _ _ _ hsz2).trans hit2)
          have hA6 : ∀ a,A3 = some a→a.block ≠ w2.heap.size+1:=fun a ha=>by
           rcases hA5 with e | e
           ·exact hA a (by rw [← e];exact ha)
           ·rw [e] at ha;injection ha with ha;subst ha;simp;omega
          refine (show Exit.inBlock 1 _ Exit.normal _ _ from ?_)
          try go_wp2
          go_roundw
          case rel=>exact ⟨q+W,g,i+1+1,((i+1 : Nat) : Int),false,false,fl+1,A3,n+1,c3,O++[q],rfl,by first | rfl | (push_cast;rfl),by omega,rfl,rfl,by go_num,hit5,by rw [List.map_append];exact ho5,hA6,by omega,by omega,by omega,by omega,HN2,hb5⟩
          case measure=>rw [iterPos_of hit5,Hpos.out];omega
     ·skip
      have c12 : (((y : Nat) : Int) == 12) = false:=by rw [hc];rfl
      have d12 : (y == 12) = false:=by rw [hc];rfl
      have c13 : (((y : Nat) : Int) == 13) = false:=by rw [hc];rfl
      have d13 : (y == 13) = false:=by rw [hc];rfl
      have c5 : (((y : Nat) : Int) == 5) = true:=by rw [hc];rfl
      have d5 : (y == 5) = true:=by rw [hc];rfl
      have c4 : (((y : Nat) : Int) == 4) = false:=by rw [hc];rfl
      have d4 : (y == 4) = false:=by rw [hc];rfl
      have d13p : (y = 13) = False:=by simp [hc]
      have Hd:=Lib.hid (And.intro d12 (And.intro d13 (And.intro d5 (And.intro d4 d13p))))
      clear d12 d13 d5 d4 d13p hc
      cases jz with
      | true =>
       cases pc with
       | true =>
        have HN2 : Hid (GbAt gG s g (q+W) (i+1+1) false true 0 O):=Lib.hid (by
         have h:=HN.out
         rw [HY.out,Hd.out.1,Hd.out.2.1,Hd.out.2.2.1,Hd.out.2.2.2.1,hjz] at h
         simpa [Hd.out.2.2.2.2] using h)
        clear HN
        go_wp2_with fail
        refine wp_scope_on 0 rfl ?_
        go_wp2_with fail
        refine HJ.out.mono ?_
        rintro e wj ⟨rfl,rfl⟩
        go_wp2_with fail
        go_step3
        refine (⟨rfl,?_⟩ : _∧_)
        show Code.wp _ _ _ _ _
        go_wp2_with fail
        refine (show Exit.inBlock 1 _ Exit.normal _ _ from ?_)
        try go_wp2
        go_roundw
        case rel=>exact ⟨q+W,g,i+1+1,((i+1 : Nat) : Int),false,true,0,A,n,c,O,rfl,by first | rfl | (push_cast;rfl),by omega,rfl,rfl,rfl,hit2,ho2,hA,by omega,by omega,by omega,by omega,HN2,hb2⟩
        case measure=>rw [iterPos_of hit2,Hpos.out];omega
       | false =>
        have HN2 : Hid (GbAt gG s g (q+W) (i+1+1) false false 0 O):=Lib.hid (by
         have h:=HN.out
         rw [HY.out,Hd.out.1,Hd.out.2.1,Hd.out.2.2.1,Hd.out.2.2.2.1,hjz] at h
         simpa [Hd.out.2.2.2.2] using h)
        clear HN
        go_wp2_with fail
        refine wp_scope_on 0 rfl ?_
        go_wp2_with fail
        refine HJ.out.mono ?_
        rintro e wj ⟨rfl,rfl⟩
        go_wp2_with fail
        go_step3
        refine (⟨rfl,?_⟩ : _∧_)
        show Code.wp _ _ _ _ _
        go_wp2_with fail
        refine (show Exit.inBlock 1 _ Exit.normal _ _ from ?_)
        try go_wp2
        go_roundw
        case rel=>exact ⟨q+W,g,i+1+1,((i+1 : Nat) : Int),false,false,0,A,n,c,O,rfl,by first | rfl | (push_cast;rfl),by omega,rfl,rfl,rfl,hit2,ho2,hA,by omega,by omega,by omega,by omega,HN2,hb2⟩
        case measure=>rw [iterPos_of hit2,Hpos.out];omega
      | false =>
       cases jn with
       | true =>
        cases pc with
        | true =>
         have HN2 : Hid (GbAt gG s g (q+W) (i+1+1) false true 0 (O++[q])):=Lib.hid (by
          have h:=HN.out
          rw [HY.out,Hd.out.1,Hd.out.2.1,Hd.out.2.2.1,Hd.out.2.2.2.1,hjz] at h
          simpa [Hd.out.2.2.2.2] using h)
         clear HN
         go_wp2_with fail
         refine wp_scope_on 0 rfl ?_
         go_wp2_with fail
         refine HJ.out.mono ?_
         rintro e wj ⟨rfl,rfl⟩
         go_wp2_with (at_builtin;go_must (refine wpList_app rfl (.tmp 53) (.tmp 55) _ rfl w2.heap.size 3 i0 _ 1 8 Tryz.underlying65 hi0 hz0 hz1 hz2 rfl (by omega) A n c (O.map encN) rfl (ho2.alloc _) _ 1 1 [encN q] rfl rfl (Rd.newAt (by simp) rfl) (encN_ok [q]) (by unfold maxLen;omega) (by omega) (by simp;omega) ?_);intro A3 c3 w5 ho5 hg5 hA5)
         go_step3
         go_wp2_with fail
         have hb5:=below_app (hb2.alloc (by omega) _) hg5 (by simp;omega) (fun a ha=>(ho2.lt a ha).1)
         have hit5 : w5.heap[w2.heap.size+1]? = some (.stringIter s (q+W)):=(hg5.block (w2.heap.size+1) (by simp;omega) (fun e=>by cases A with | none=>cases e | some a=>simp at e;exact hA a rfl e.symm)).trans ((Below.heap_alloc _ _ _ hsz2).trans hit2)
         have hA6 : ∀ a,A3 = some a→a.block ≠ w2.heap.size+1:=fun a ha=>by
          rcases hA5 with e | e
          ·exact hA a (by rw [← e];exact ha)
          ·rw [e] at ha;injection ha with ha;subst ha;simp;omega
         refine (show Exit.inBlock 1 _ Exit.normal _ _ from ?_)
         try go_wp2
         go_roundw
         case rel=>exact ⟨q+W,g,i+1+1,((i+1 : Nat) : Int),false,true,0,A3,n+1,c3,O++[q],rfl,by first | rfl | (push_cast;rfl),by omega,rfl,rfl,rfl,hit5,by rw [List.map_append];exact ho5,hA6,by omega,by omega,by omega,by omega,HN2,hb5⟩
         case measure=>rw [iterPos_of hit5,Hpos.out];omega
        | false =>
         have HN2 : Hid (GbAt gG s g (q+W) (i+1+1) false false 0 (O++[q])):=Lib.hid (by
          have h:=HN.out
          rw [HY.out,Hd.out.1,Hd.out.2.1,Hd.out.2.2.1,Hd.out.2.2.2.1,hjz] at h
          simpa [Hd.out.2.2.2.2] using h)
         clear HN
         go_wp2_with fail
         refine wp_scope_on 0 rfl ?_
         go_wp2_with fail
         refine HJ.out.mono ?_
         rintro e wj ⟨rfl,rfl⟩
         go_wp2_with (at_builtin;go_must (refine wpList_app rfl (.tmp 53) (.tmp 55) _ rfl w2.heap.size 3 i0 _ 1 8 Tryz.underlying65 hi0 hz0 hz1 hz2 rfl (by omega) A n c (O.map encN) rfl (ho2.alloc _) _ 1 1 [encN q] rfl rfl (Rd.newAt (by simp) rfl) (encN_ok [q]) (by unfold maxLen;omega) (by omega) (by simp;omega) ?_);intro A3 c3 w5 ho5 hg5 hA5)
         go_step3
         go_wp2_with fail
         have hb5:=below_app (hb2.alloc (by omega) _) hg5 (by simp;omega) (fun a ha=>(ho2.lt a ha).1)
         have hit5 : w5.heap[w2.heap.size+1]? = some (.stringIter s (q+W)):=(hg5.block (w2.heap.size+1) (by simp;omega) (fun e=>by cases A with | none=>cases e | some a=>simp at e;exact hA a rfl e.symm)).trans ((Below.heap_alloc _ _ _ hsz2).trans hit2)
         have hA6 : ∀ a,A3 = some a→a.block ≠ w2.heap.size+1:=fun a ha=>by
          rcases hA5 with e | e
          ·exact hA a (by rw [← e];exact ha)
          ·rw [e] at ha;injection ha with ha;subst ha;simp;omega
         refine (show Exit.inBlock 1 _ Exit.normal _ _ from ?_)
         try go_wp2
         go_roundw
         case rel=>exact ⟨q+W,g,i+1+1,((i+1 : Nat) : Int),false,false,0,A3,n+1,c3,O++[q],rfl,by first | rfl | (push_cast;rfl),by omega,rfl,rfl,rfl,hit5,by rw [List.map_append];exact ho5,hA6,by omega,by omega,by omega,by omega,HN2,hb5⟩
         case measure=>rw [iterPos_of hit5,Hpos.out];omega
       | false =>
        cases pc with
        | true =>
         have HN2 : Hid (GbAt gG s g (q+W) (i+1+1) false true 0 (O++[q])):=Lib.hid (by
          have h:=HN.out
          rw [HY.out,Hd.out.1,Hd.out.2.1,Hd.out.2.2.1,Hd.out.2.2.2.1,hjz] at h
          simpa [Hd.out.2.2.2.2] using h)
         clear HN
         go_wp2_with fail
         refine wp_scope_on 0 rfl ?_
         go_wp2_with fail
         refine HJ.out.mono ?_
         rintro e wj ⟨rfl,rfl⟩
         go_wp2_with (at_builtin;go_must (refine wpList_app rfl (.tmp 53) (.tmp 55) _ rfl w2.heap.size 3 i0 _ 1 8 Tryz.underlying65 hi0 hz0 hz1 hz2 rfl (by omega) A n c (O.map encN) rfl (ho2.alloc _) _ 1 1 [encN q] rfl rfl (Rd.newAt (by simp) rfl) (encN_ok [q]) (by unfold maxLen;omega) (by omega) (by simp;omega) ?_);intro A3 c3 w5 ho5 hg5 hA5)
         go_step3
         go_wp2_with fail
         have hb5:=below_app (hb2.alloc (by omega) _) hg5 (by simp;omega) (fun a ha=>(ho2.lt a ha).1)
         have hit5 : w5.heap[w2.heap.size+1]? = some (.stringIter s (q+W)):=(hg5.block (w2.heap.size+1) (by simp;omega) (fun e=>by cases A with | none=>cases e | some a=>simp at e;exact hA a rfl e.symm)).trans ((Below.heap_alloc _ _ _ hsz2).trans hit2)
         have hA6 : ∀ a,A3 = some a→a.block ≠ w2.heap.size+1:=fun a ha=>by
          rcases hA5 with e | e
          ·exact hA a (by rw [← e];exact ha)
          ·rw [e] at ha;injection ha with ha;subst ha;simp;omega
         refine (show Exit.inBlock 1 _ Exit.normal _ _ from ?_)
         try go_wp2
         go_roundw
         case rel=>exact ⟨q+W,g,i+1+1,((i+1 : Nat) : Int),false,true,0,A3,n+1,c3,O++[q],rfl,by first | rfl | (push_cast;rfl),by omega,rfl,rfl,rfl,hit5,by rw [List.map_append];exact ho5,hA6,by omega,by omega,by omega,by omega,HN2,hb5⟩
         case measure=>rw [iterPos_of hit5,Hpos.out];omega
        | false =>
         have HN2 : Hid (GbAt gG s g (q+W) (i+1+1) false false 0 (O++[q])):=Lib.hid (by
          have h:=HN.out
          rw [HY.out,Hd.out.1,Hd.out.2.1,Hd.out.2.2.1,Hd.out.2.2.2.1,hjz] at h
          simpa [Hd.out.2.2.2.2] using h)
         clear HN
         go_wp2_with fail
         refine wp_scope_on 0 rfl ?_
         go_wp2_with fail
         refine HJ.out.mono ?_
         rintro e wj ⟨rfl,rfl⟩
         go_wp2_with (at_builtin;go_must (refine wpList_app rfl (.tmp 53) (.tmp 55) _ rfl w2.heap.size 3 i0 _ 1 8 Tryz.underlying65 hi0 hz0 hz1 hz2 rfl (by omega) A n c (O.map encN) rfl (ho2.alloc _) _ 1 1 [encN q] rfl rfl (Rd.newAt (by simp) rfl) (encN_ok [q]) (by unfold maxLen;omega) (by omega) (by simp;omega) ?_);intro A3 c3 w5 ho5 hg5 hA5)
         go_step3
         go_wp2_with fail
         have hb5:=below_app (hb2.alloc (by omega) _) hg5 (by simp;omega) (fun a ha=>(ho2.lt a ha).1)
         have hit5 : w5.heap[w2.heap.size+1]? = some (.stringIter s (q+W)):=(hg5.block (w2.heap.size+1) (by simp;omega) (fun e=>by cases A with | none=>cases e | some a=>simp at e;exact hA a rfl e.symm)).trans ((Below.heap_alloc _ _ _ hsz2).trans hit2)
         have hA6 : ∀ a,A3 = some a→a.block ≠ w2.heap.size+1:=fun a ha=>by
          rcases hA5 with e | e
          ·exact hA a (by rw [← e];exact ha)
          ·rw [e] at ha;injection ha with ha;subst ha;simp;omega
         refine (show Exit.inBlock 1 _ Exit.normal _ _ from ?_)
         try go_wp2
         go_roundw
         case rel=>exact ⟨q+W,g,i+1+1,((i+1 : Nat) : Int),false,false,0,A3,n+1,c3,O++[q],rfl,by first | rfl | (push_cast;rfl),by omega,rfl,rfl,rfl,hit5,by rw [List.map_append];exact ho5,hA6,by omega,by omega,by omega,by omega,HN2,hb5⟩
         case measure=>rw [iterPos_of hit5,Hpos.out];omega
     ·skip
      have c12 : (((y : Nat) : Int) == 12) = false:=by rw [hc];rfl
      have d12 : (y == 12) = false:=by rw [hc];rfl
      have c13 : (((y : Nat) : Int) == 13) = false:=by rw [hc];rfl
      have d13 : (y == 13) = false:=by rw [hc];rfl
      have c5 : (((y : Nat) : Int) == 5) = false:=by rw [hc];rfl
      have d5 : (y == 5) = false:=by rw [hc];rfl
      have c4 : (((y : Nat) : Int) == 4) = true:=by rw [hc];rfl
      have d4 : (y == 4) = true:=by rw [hc];rfl
      have d13p : (y = 13) = False:=by simp [hc]
      have Hd:=Lib.hid (And.intro d12 (And.intro d13 (And.intro d5 (And.intro d4 d13p))))
      clear d12 d13 d5 d4 d13p hc
      cases jz with
      | true =>
       cases pc with
       | true =>
        have HN2 : Hid (GbAt gG s g (q+W) (i+1+1) true false 0 O):=Lib.hid (by
         have h:=HN.out
         rw [HY.out,Hd.out.1,Hd.out.2.1,Hd.out.2.2.1,Hd.out.2.2.2.1,hjz] at h
         simpa [Hd.out.2.2.2.2] using h)
        clear HN
        go_wp2_with fail
        refine wp_scope_on 0 rfl ?_
        go_wp2_with fail
        refine HJ.out.mono ?_
        rintro e wj ⟨rfl,rfl⟩
        go_wp2_with fail
        go_step3
        refine (⟨rfl,?_⟩ : _∧_)
        show Code.wp _ _ _ _ _
        go_wp2_with fail
        refine (show Exit.inBlock 1 _ Exit.normal _ _ from ?_)
        try go_wp2
        go_roundw
        case rel=>exact ⟨q+W,g,i+1+1,((i+1 : Nat) : Int),true,false,0,A,n,c,O,rfl,by first | rfl | (push_cast;rfl),by omega,rfl,rfl,rfl,hit2,ho2,hA,by omega,by omega,by omega,by omega,HN2,hb2⟩
        case measure=>rw [iterPos_of hit2,Hpos.out];omega
       | false =>
        have HN2 : Hid (GbAt gG s g (q+W) (i+1+1) false false 0 O):=Lib.hid (by
         have h:=HN.out
         rw [HY.out,Hd.out.1,Hd.out.2.1,Hd.out.2.2.1,Hd.out.2.2.2.1,hjz] at h
         simpa [Hd.out.2.2.2.2] using h)
        clear HN
        go_wp2_with fail
        refine wp_scope_on 0 rfl ?_
        go_wp2_with fail
        refine HJ.out.mono ?_
        rintro e wj ⟨rfl,rfl⟩
        go_wp2_with fail
        go_step3
        refine (⟨rfl,?_⟩ : _∧_)
        show Code.wp _ _ _ _ _
        go_wp2_with fail
        refine (show Exit.inBlock 1 _ Exit.normal _ _ from ?_)
        try go_wp2
        go_roundw
        case rel=>exact ⟨q+W,g,i+1+1,((i+1 : Nat) : Int),false,false,0,A,n,c,O,rfl,by first | rfl | (push_cast;rfl),by omega,rfl,rfl,rfl,hit2,ho2,hA,by omega,by omega,by omega,by omega,HN2,hb2⟩
        case measure=>rw [iterPos_of hit2,Hpos.out];omega
      | false =>
       cases jn with
       | true =>
        cases pc with
        | true =>
         have HN2 : Hid (GbAt gG s g (q+W) (i+1+1) true false 0 (O++[q])):=Lib.hid (by
          have h:=HN.out
          rw [HY.out,Hd.out.1,Hd.out.2.1,Hd.out.2.2.1,Hd.out.2.2.2.1,hjz] at h
          simpa [Hd.out.2.2.2.2] using h)
         clear HN
         go_wp2_with fail
         refine wp_scope_on 0 rfl ?_
         go_wp2_with fail
         refine HJ.out.mono ?_
         rintro e wj ⟨rfl,rfl⟩
         go_wp2_with (at_builtin;go_must (refine wpList_app rfl (.tmp 53) (.tmp 55) _ rfl w2.heap.size 3 i0 _ 1 8 Tryz.underlying65 hi0 hz0 hz1 hz2 rfl (by omega) A n c (O.map encN) rfl (ho2.alloc _) _ 1 1 [encN q] rfl rfl (Rd.newAt (by simp) rfl) (encN_ok [q]) (by unfold maxLen;omega) (by omega) (by simp;omega) ?_);intro A3 c3 w5 ho5 hg5 hA5)
         go_step3
         go_wp2_with fail
         have hb5:=below_app (hb2.alloc (by omega) _) hg5 (by simp;omega) (fun a ha=>(ho2.lt a ha).1)
         have hit5 : w5.heap[w2.heap.size+1]? = some (.stringIter s (q+W)):=(hg5.block (w2.heap.size+1) (by simp;omega) (fun e=>by cases A with | none=>cases e | some a=>simp at e;exact hA a rfl e.symm)).trans ((Below.heap_alloc _ _ _ hsz2).trans hit2)
         have hA6 : ∀ a,A3 = some a→a.block ≠ w2.heap.size+1:=fun a ha=>by
          rcases hA5 with e | e
          ·exact hA a (by rw [← e];exact ha)
          ·rw [e] at ha;injection ha with ha;subst ha;simp;omega
         refine (show Exit.inBlock 1 _ Exit.normal _ _ from ?_)
         try go_wp2
         go_roundw
         case rel=>exact ⟨q+W,g,i+1+1,((i+1 : Nat) : Int),true,false,0,A3,n+1,c3,O++[q],rfl,by first | rfl | (push_cast;rfl),by omega,rfl,rfl,rfl,hit5,by rw [List.map_append];exact ho5,hA6,by omega,by omega,by omega,by omega,HN2,hb5⟩
         case measure=>rw [iterPos_of hit5,Hpos.out];omega
        | false =>
         have HN2 : Hid (GbAt gG s g (q+W) (i+1+1) false false 0 (O++[q])):=Lib.hid (by
          have h:=HN.out
          rw [HY.out,Hd.out.1,Hd.out.2.1,Hd.out.2.2.1,Hd.out.2.2.2.1,hjz] at h
          simpa [Hd.out.2.2.2.2] using h)
         clear HN
         go_wp2_with fail
         refine wp_scope_on 0 rfl ?_
         go_wp2_with fail
         refine HJ.out.mono ?_
         rintro e wj ⟨rfl,rfl⟩
         go_wp2_with (at_builtin;go_must (refine wpList_app rfl (.tmp 53) (.tmp 55) _ rfl w2.heap.size 3 i0 _ 1 8 Tryz.underlying65 hi0 hz0 hz1 hz2 rfl (by omega) A n c (O.map encN) rfl (ho2.alloc _) _ 1 1 [encN q] rfl rfl (Rd.newAt (by simp) rfl) (encN_ok [q]) (by unfold maxLen;omega) (by omega) (by simp;omega) ?_);intro A3 c3 w5 ho5 hg5 hA5)
         go_step3
         go_wp2_with fail
         have hb5:=below_app (hb2.alloc (by omega) _) hg5 (by simp;omega) (fun a ha=>(ho2.lt a ha).1)
         have hit5 : w5.heap[w2.heap.size+1]? = some (.stringIter s (q+W)):=(hg5.block (w2.heap.size+1) (by simp;omega) (fun e=>by cases A with | none=>cases e | some a=>simp at e;exact hA a rfl e.symm)).trans ((Below.heap_alloc _ _ _ hsz2).trans hit2)
         have hA6 : ∀ a,A3 = some a→a.block ≠ w2.heap.size+1:=fun a ha=>by
          rcases hA5 with e | e
          ·exact hA a (by rw [← e];exact ha)
          ·rw [e] at ha;injection ha with ha;subst ha;simp;omega
         refine (show Exit.inBlock 1 _ Exit.normal _ _ from ?_)
         try go_wp2
         go_roundw
         case rel=>exact ⟨q+W,g,i+1+1,((i+1 : Nat) : Int),false,false,0,A3,n+1,c3,O++[q],rfl,by first | rfl | (push_cast;rfl),by omega,rfl,rfl,rfl,hit5,by rw [List.map_append];exact ho5,hA6,by omega,by omega,by omega,by omega,HN2,hb5⟩
         case measure=>rw [iterPos_of hit5,Hpos.out];omega
       | false =>
        cases pc with
        | true =>
         have HN2 : Hid (GbAt gG s g (q+W) (i+1+1) true false 0 (O++[q])):=Lib.hid (by
          have h:=HN.out
          rw [HY.out,Hd.out.1,Hd.out.2.1,Hd.out.2.2.1,Hd.out.2.2.2.1,hjz] at h
          simpa [Hd.out.2.2.2.2] using h)
         clear HN
         go_wp2_with fail
         refine wp_scope_on 0 rfl ?_
         go_wp2_with fail
         refine HJ.out.mono ?_
         rintro e wj ⟨rfl,rfl⟩
         go_wp2_with (at_builtin;go_must (refine wpList_app rfl (.tmp 53) (.tmp 55) _ rfl w2.heap.size 3 i0 _ 1 8 Tryz.underlying65 hi0 hz0 hz1 hz2 rfl (by omega) A n c (O.map encN) rfl (ho2.alloc _) _ 1 1 [encN q] rfl rfl (Rd.newAt (by simp) rfl) (encN_ok [q]) (by unfold maxLen;omega) (by omega) (by simp;omega) ?_);intro A3 c3 w5 ho5 hg5 hA5)
         go_step3
         go_wp2_with fail
         have hb5:=below_app (hb2.alloc (by omega) _) hg5 (by simp;omega) (fun a ha=>(ho2.lt a ha).1)
         have hit5 : w5.heap[w2.heap.size+1]? = some (.stringIter s (q+W)):=(hg5.block (w2.heap.size+1) (by simp;omega) (fun e=>by cases A with | none=>cases e | some a=>simp at e;exact hA a rfl e.symm)).trans ((Below.heap_alloc _ _ _ hsz2).trans hit2)
         have hA6 : ∀ a,A3 = some a→a.block ≠ w2.heap.size+1:=fun a ha=>by
          rcases hA5 with e | e
          ·exact hA a (by rw [← e];exact ha)
          ·rw [e] at ha;injection ha with ha;subst ha;simp;omega
         refine (show Exit.inBlock 1 _ Exit.normal _ _ from ?_)
         try go_wp2
         go_roundw
         case rel=>exact ⟨q+W,g,i+1+1,((i+1 : Nat) : Int),true,false,0,A3,n+1,c3,O++[q],rfl,by first | rfl | (push_cast;rfl),by omega,rfl,rfl,rfl,hit5,by rw [List.map_append];exact ho5,hA6,by omega,by omega,by omega,by omega,HN2,hb5⟩
         case measure=>rw [iterPos_of hit5,Hpos.out];omega
        | false =>
         have HN2 : Hid (GbAt gG s g (q+W) (i+1+1) false false 0 (O++[q])):=Lib.hid (by
          have h:=HN.out
          rw [HY.out,Hd.out.1,Hd.out.2.1,Hd.out.2.2.1,Hd.out.2.2.2.1,hjz] at h
          simpa [Hd.out.2.2.2.2] using h)
         clear HN
         go_wp2_with fail
         refine wp_scope_on 0 rfl ?_
         go_wp2_with fail
         refine HJ.out.mono ?_
         rintro e wj ⟨rfl,rfl⟩
         go_wp2_with (at_builtin;go_must (refine wpList_app rfl (.tmp 53) (.tmp 55) _ rfl w2.heap.size 3 i0 _ 1 8 Tryz.underlying65 hi0 hz0 hz1 hz2 rfl (by omega) A n c (O.map encN) rfl (ho2.alloc _) _ 1 1 [encN q] rfl rfl (Rd.newAt (by simp) rfl) (encN_ok [q]) (by unfold maxLen;omega) (by omega) (by simp;omega) ?_);intro A3 c3 w5 ho5 hg5 hA5)
         go_step3
         go_wp2_with fail
         have hb5:=below_app (hb2.alloc (by omega) _) hg5 (by simp;omega) (fun a ha=>(ho2.lt a ha).1)
         have hit5 : w5.heap[w2.heap.size+1]? = some (.stringIter s (q+W)):=(hg5.block (w2.heap.size+1) (by simp;omega) (fun e=>by cases A with | none=>cases e | some a=>simp at e;exact hA a rfl e.symm)).trans ((Below.heap_alloc _ _ _ hsz2).trans hit2)
         have hA6 : ∀ a,A3 = some a→a.block ≠ w2.heap.size+1:=fun a ha=>by
          rcases hA5 with e | e
          ·exact hA a (by rw [← e];exact ha)
          ·rw [e] at ha;injection ha with ha;subst ha;simp;omega
         refine (show Exit.inBlock 1 _ Exit.normal _ _ from ?_)
         try go_wp2
         go_roundw
         case rel=>exact ⟨q+W,g,i+1+1,((i+1 : Nat) : Int),false,false,0,A3,n+1,c3,O++[q],rfl,by first | rfl | (push_cast;rfl),by omega,rfl,rfl,rfl,hit5,by rw [List.map_append];exact ho5,hA6,by omega,by omega,by omega,by omega,HN2,hb5⟩
         case measure=>rw [iterPos_of hit5,Hpos.out];omega
     ·skip
      have c12 : (((y : Nat) : Int) == 12) = false:=beq_eq_false_iff_ne.2 (by omega)
      have d12 : (y == 12) = false:=beq_eq_false_iff_ne.2 k12
      have c13 : (((y : Nat) : Int) == 13) = false:=beq_eq_false_iff_ne.2 (by omega)
      have d13 : (y == 13) = false:=beq_eq_false_iff_ne.2 k13
      have c5 : (((y : Nat) : Int) == 5) = false:=beq_eq_false_iff_ne.2 (by omega)
      have d5 : (y == 5) = false:=beq_eq_false_iff_ne.2 k5
      have c4 : (((y : Nat) : Int) == 4) = false:=beq_eq_false_iff_ne.2 (by omega)
      have d4 : (y == 4) = false:=beq_eq_false_iff_ne.2 k4
      have d13p : (y = 13) = False:=by simp [k13]
      have Hd:=Lib.hid (And.intro d12 (And.intro d13 (And.intro d5 (And.intro d4 d13p))))
      clear d12 d13 d5 d4 d13p k12 k13 k5 k4
      cases jz with
      | true =>
       cases pc with
       | true =>
        have HN2 : Hid (GbAt gG s g (q+W) (i+1+1) false false 0 O):=Lib.hid (by
         have h:=HN.out
         rw [HY.out,Hd.out.1,Hd.out.2.1,Hd.out.2.2.1,Hd.out.2.2.2.1,hjz] at h
         simpa [Hd.out.2.2.2.2] using h)
        clear HN
        go_wp2_with fail
        refine wp_scope_on 0 rfl ?_
        go_wp2_with fail
        refine HJ.out.mono ?_
        rintro e wj ⟨rfl,rfl⟩
        go_wp2_with fail
        go_step3
        refine (⟨rfl,?_⟩ : _∧_)
        show Code.wp _ _ _ _ _
        go_wp2_with fail
        refine (show Exit.inBlock 1 _ Exit.normal _ _ from ?_)
        try go_wp2
        go_roundw
        case rel=>exact ⟨q+W,g,i+1+1,((i+1 : Nat) : Int),false,false,0,A,n,c,O,rfl,by first | rfl | (push_cast;rfl),by omega,rfl,rfl,rfl,hit2,ho2,hA,by omega,by omega,by omega,by omega,HN2,hb2⟩
        case measure=>rw [iterPos_of hit2,Hpos.out];omega
       | false =>
        have HN2 : Hid (GbAt gG s g (q+W) (i+1+1) false false 0 O):=Lib.hid (by
         have h:=HN.out
         rw [HY.out,Hd.out.1,Hd.out.2.1,Hd.out.2.2.1,Hd.out.2.2.2.1,hjz] at h
         simpa [Hd.out.2.2.2.2] using h)
        clear HN
        go_wp2_with fail
        refine wp_scope_on 0 rfl ?_
        go_wp2_with fail
        refine HJ.out.mono ?_
        rintro e wj ⟨rfl,rfl⟩
        go_wp2_with fail
        go_step3
        refine (⟨rfl,?_⟩ : _∧_)
        show Code.wp _ _ _ _ _
        go_wp2_with fail
        refine (show Exit.inBlock 1 _ Exit.normal _ _ from ?_)
        try go_wp2
        go_roundw
        case rel=>exact ⟨q+W,g,i+1+1,((i+1 : Nat) : Int),false,false,0,A,n,c,O,rfl,by first | rfl | (push_cast;rfl),by omega,rfl,rfl,rfl,hit2,ho2,hA,by omega,by omega,by omega,by omega,HN2,hb2⟩
        case measure=>rw [iterPos_of hit2,Hpos.out];omega
      | false =>
       cases jn with
       | true =>
        cases pc with
        | true =>
         have HN2 : Hid (GbAt gG s g (q+W) (i+1+1) false false 0 (O++[q])):=Lib.hid (by
          have h:=HN.out
          rw [HY.out,Hd.out.1,Hd.out.2.1,Hd.out.2.2.1,Hd.out.2.2.2.1,hjz] at h
          simpa [Hd.out.2.2.2.2] using h)
         clear HN
         go_wp2_with fail
         refine wp_scope_on 0 rfl ?_
         go_wp2_with fail
         refine HJ.out.mono ?_
         rintro e wj ⟨rfl,rfl⟩
         go_wp2_with (at_builtin;go_must (refine wpList_app rfl (.tmp 53) (.tmp 55) _ rfl w2.heap.size 3 i0 _ 1 8 Tryz.underlying65 hi0 hz0 hz1 hz2 rfl (by omega) A n c (O.map encN) rfl (ho2.alloc _) _ 1 1 [encN q] rfl rfl (Rd.newAt (by simp) rfl) (encN_ok [q]) (by unfold maxLen;omega) (by omega) (by simp;omega) ?_);intro A3 c3 w5 ho5 hg5 hA5)
         go_step3
         go_wp2_with fail
         have hb5:=below_app (hb2.alloc (by omega) _) hg5 (by simp;omega) (fun a ha=>(ho2.lt a ha).1)
         have hit5 : w5.heap[w2.heap.size+1]? = some (.stringIter s (q+W)):=(hg5.block (w2.heap.size+1) (by simp;omega) (fun e=>by cases A with | none=>cases e | some a=>simp at e;exact hA a rfl e.symm)).trans ((Below.heap_alloc _ _ _ hsz2).trans hit2)
         have hA6 : ∀ a,A3 = some a→a.block ≠ w2.heap.size+1:=fun a ha=>by
          rcases hA5 with e | e
          ·exact hA a (by rw [← e];exact ha)
          ·rw [e] at ha;injection ha with ha;subst ha;simp;omega
         refine (show Exit.inBlock 1 _ Exit.normal _ _ from ?_)
         try go_wp2
         go_roundw
         case rel=>exact ⟨q+W,g,i+1+1,((i+1 : Nat) : Int),false,false,0,A3,n+1,c3,O++[q],rfl,by first | rfl | (push_cast;rfl),by omega,rfl,rfl,rfl,hit5,by rw [List.map_append];exact ho5,hA6,by omega,by omega,by omega,by omega,HN2,hb5⟩
         case measure=>rw [iterPos_of hit5,Hpos.out];omega
        | false =>
         have HN2 : Hid (GbAt gG s g (q+W) (i+1+1) false false 0 (O++[q])):=Lib.hid (by
          have h:=HN.out
          rw [HY.out,Hd.out.1,Hd.out.2.1,Hd.out.2.2.1,Hd.out.2.2.2.1,hjz] at h
          simpa [Hd.out.2.2.2.2] using h)
         clear HN
         go_wp2_with fail
         refine wp_scope_on 0 rfl ?_
         go_wp2_with fail
         refine HJ.out.mono ?_
         rintro e wj ⟨rfl,rfl⟩
         go_wp2_with (at_builtin;go_must (refine wpList_app rfl (.tmp 53) (.tmp 55) _ rfl w2.heap.size 3 i0 _ 1 8 Tryz.underlying65 hi0 hz0 hz1 hz2 rfl (by omega) A n c (O.map encN) rfl (ho2.alloc _) _ 1 1 [encN q] rfl rfl (Rd.newAt (by simp) rfl) (encN_ok [q]) (by unfold maxLen;omega) (by omega) (by simp;omega) ?_);intro A3 c3 w5 ho5 hg5 hA5)
         go_step3
         go_wp2_with fail
         have hb5:=below_app (hb2.alloc (by omega) _) hg5 (by simp;omega) (fun a ha=>(ho2.lt a ha).1)
         have hit5 : w5.heap[w2.heap.size+1]? = some (.stringIter s (q+W)):=(hg5.block (w2.heap.size+1) (by simp;omega) (fun e=>by cases A with | none=>cases e | some a=>simp at e;exact hA a rfl e.symm)).trans ((Below.heap_alloc _ _ _ hsz2).trans hit2)
         have hA6 : ∀ a,A3 = some a→a.block ≠ w2.heap.size+1:=fun a ha=>by
          rcases hA5 with e | e
          ·exact hA a (by rw [← e];exact ha)
          ·rw [e] at ha;injection ha with ha;subst ha;simp;omega
         refine (show Exit.inBlock 1 _ Exit.normal _ _ from ?_)
         try go_wp2
         go_roundw
         case rel=>exact ⟨q+W,g,i+1+1,((i+1 : Nat) : Int),false,false,0,A3,n+1,c3,O++[q],rfl,by first | rfl | (push_cast;rfl),by omega,rfl,rfl,rfl,hit5,by rw [List.map_append];exact ho5,hA6,by omega,by omega,by omega,by omega,HN2,hb5⟩
         case measure=>rw [iterPos_of hit5,Hpos.out];omega
       | false =>
        cases pc with
        | true =>
         have HN2 : Hid (GbAt gG s g (q+W) (i+1+1) false false 0 (O++[q])):=Lib.hid (by
          have h:=HN.out
          rw [HY.out,Hd.out.1,Hd.out.2.1,Hd.out.2.2.1,Hd.out.2.2.2.1,hjz] at h
          simpa [Hd.out.2.2.2.2] using h)
         clear HN
         go_wp2_with fail
         refine wp_scope_on 0 rfl ?_
         go_wp2_with fail
         refine HJ.out.mono ?_
         rintro e wj ⟨rfl,rfl⟩
         go_wp2_with (at_builtin;go_must (refine wpList_app rfl (.tmp 53) (.tmp 55) _ rfl w2.heap.size 3 i0 _ 1 8 Tryz.underlying65 hi0 hz0 hz1 hz2 rfl (by omega) A n c (O.map encN) rfl (ho2.alloc _) _ 1 1 [encN q] rfl rfl (Rd.newAt (by simp) rfl) (encN_ok [q]) (by unfold maxLen;omega) (by omega) (by simp;omega) ?_);intro A3 c3 w5 ho5 hg5 hA5)
         go_step3
         go_wp2_with fail
         have hb5:=below_app (hb2.alloc (by omega) _) hg5 (by simp;omega) (fun a ha=>(ho2.lt a ha).1)
         have hit5 : w5.heap[w2.heap.size+1]? = some (.stringIter s (q+W)):=(hg5.block (w2.heap.size+1) (by simp;omega) (fun e=>by cases A with | none=>cases e | some a=>simp at e;exact hA a rfl e.symm)).trans ((Below.heap_alloc _ _ _ hsz2).trans hit2)
         have hA6 : ∀ a,A3 = some a→a.block ≠ w2.heap.size+1:=fun a ha=>by
          rcases hA5 with e | e
          ·exact hA a (by rw [← e];exact ha)
          ·rw [e] at ha;injection ha with ha;subst ha;simp;omega
         refine (show Exit.inBlock 1 _ Exit.normal _ _ from ?_)
         try go_wp2
         go_roundw
         case rel=>exact ⟨q+W,g,i+1+1,((i+1 : Nat) : Int),false,false,0,A3,n+1,c3,O++[q],rfl,by first | rfl | (push_cast;rfl),by omega,rfl,rfl,rfl,hit5,by rw [List.map_append];exact ho5,hA6,by omega,by omega,by omega,by omega,HN2,hb5⟩
         case measure=>rw [iterPos_of hit5,Hpos.out];omega
        | false =>
         have HN2 : Hid (GbAt gG s g (q+W) (i+1+1) false false 0 (O++[q])):=Lib.hid (by
          have h:=HN.out
          rw [HY.out,Hd.out.1,Hd.out.2.1,Hd.out.2.2.1,Hd.out.2.2.2.1,hjz] at h
          simpa [Hd.out.2.2.2.2] using h)
         clear HN
         go_wp2_with fail
         refine wp_scope_on 0 rfl ?_
         go_wp2_with fail
         refine HJ.out.mono ?_
         rintro e wj ⟨rfl,rfl⟩
         go_wp2_with (at_builtin;go_must (refine wpList_app rfl (.tmp 53) (.tmp 55) _ rfl w2.heap.size 3 i0 _ 1 8 Tryz.underlying65 hi0 hz0 hz1 hz2 rfl (by omega) A n c (O.map encN) rfl (ho2.alloc _) _ 1 1 [encN q] rfl rfl (Rd.newAt (by simp) rfl) (encN_ok [q]) (by unfold maxLen;omega) (by omega) (by simp;omega) ?_);intro A3 c3 w5 ho5 hg5 hA5)
         go_step3
         go_wp2_with fail
         have hb5:=below_app (hb2.alloc (by omega) _) hg5 (by simp;omega) (fun a ha=>(ho2.lt a ha).1)
         have hit5 : w5.heap[w2.heap.size+1]? = some (.stringIter s (q+W)):=(hg5.block (w2.heap.size+1) (by simp;omega) (fun e=>by cases A with | none=>cases e | some a=>simp at e;exact hA a rfl e.symm)).trans ((Below.heap_alloc _ _ _ hsz2).trans hit2)
         have hA6 : ∀ a,A3 = some a→a.block ≠ w2.heap.size+1:=fun a ha=>by
          rcases hA5 with e | e
          ·exact hA a (by rw [← e];exact ha)
          ·rw [e] at ha;injection ha with ha;subst ha;simp;omega
         refine (show Exit.inBlock 1 _ Exit.normal _ _ from ?_)
         try go_wp2
         go_roundw
         case rel=>exact ⟨q+W,g,i+1+1,((i+1 : Nat) : Int),false,false,0,A3,n+1,c3,O++[q],rfl,by first | rfl | (push_cast;rfl),by omega,rfl,rfl,rfl,hit5,by rw [List.map_append];exact ho5,hA6,by omega,by omega,by omega,by omega,HN2,hb5⟩
         case measure=>rw [iterPos_of hit5,Hpos.out];omega
   ·have hnx : ∀ ty,(Instr.next (.pointer (some ⟨w2.heap.size+1,0,none⟩)) true ty).run Tryz.prog wr = _:=fun ty=>Lib.run_next_end_at wr (w2.heap.size+1) s q ty hit hp
    have HE:=Lib.hid (gbAt_end HG.out hp h0)
    have hszr:=hb.size
    go_wp2_with (at_builtin;go_must (refine wpList_app rfl (.tmp 75) (.tmp 78) _ rfl w2.heap.size 3 i0 _ 1 8 Tryz.underlying65 hi0 hz0 hz1 hz2 rfl (by omega) A n c (O.map encN) rfl (ho.alloc _) _ 1 1 [encN s.size] rfl rfl (Rd.newAt (by simp) rfl) (encN_ok [s.size]) (by unfold maxLen;omega) (by omega) (by simp;omega) ?_);intro A3 c3 w5 ho5 hg5 hA5)
    have hb5:=below_app (hb.alloc (by omega) _) hg5 (by simp;omega) (fun a ha=>(ho.lt a ha).1)
    go_ret
    exact ⟨A3,n+1,c3,rfl,by rw [← HE.out,List.map_append];exact ho5.more hsz3,below_step hb3 hb5 hsz3⟩
 ·have hem : s.toList.isEmpty = true:=by
   rw [ByteArray.toList_eq]
   have : s.data.toList.length = 0:=by rw [size_data];omega
   rw [List.length_eq_zero_iff.1 this];rfl
  have HV : Hid (boundsG gG s = []):=Lib.hid (by unfold boundsG;rw [if_pos (by omega)])
  go_enter Tryz.func91,Tryz.ntmps91
  go_wp2
  go_ret
  exact ⟨none,0,0,rfl,by rw [HV.out];exact Own.nil_ _ _ _ _,Below.refl _ _⟩
end
end Go.Proofs.YtlfpdpbbkjnapaaGreatDoor
