/-
 Several texts in one,in their build order: Nb0,Nc,AgP,AgA,AgB,AgC0,AgC,AgD.
-/
import Derived.Deep.QuietTactic
import Derived.BigQuiet
import Derived.Deep.RegionHeld3
import Derived.Test.YtlfpdpbbkjnapaaGreatDoorRNa
import Derived.Test.YtlfpdpbbkjnapaaGreatDoorR6a
import Derived.Test.YtlfpdpbbkjnapaaGreatDoorR7a
import Derived.Test.YtlfpdpbbkjnapaaGreatDoorR0b
import Derived.Test.YtlfpdpbbkjnapaaGreatDoorRGb
import Derived.Test.YtlfpdpbbkjnapaaGreatDoorR2a
/- -/
namespace Go.Proofs.YtlfpdpbbkjnapaaGreatDoor
set_option maxRecDepth 100000
set_option maxHeartbeats 40000000
section
open Go.RowKit
def NbAt (s : ByteArray) (f q i : Nat) (O : List Nat) : Prop :=
 ∃ R,R++runesGo s f q = runesP s∧R.length = i∧s.size≤q+f∧q≤s.size∧(i = 0→q = 0∧O = [0])∧(0 < i→O = pickG R ((List.range i).map fun j=>decide (j = 0) || sCuts (toI (clsG gS (runesP s))) j))
theorem nbAt_first (s : ByteArray) : NbAt s s.size 0 0 [0]:=⟨[],rfl,rfl,by omega,by omega,fun _=>⟨rfl,rfl⟩,fun h=>absurd h (by omega)⟩
theorem nbAt_next {s : ByteArray} {f q i W R : Nat} {O : List Nat} (h : NbAt s f q i O) (hp : q < s.size) (hd : Utf8.decode s q = (R,W)) (hw : 1≤W∧q+W≤s.size) :
  ∃ f',NbAt s f' (q+W) (i+1) (if i = 0 then O else O++(if sCuts (toI (clsG gS (runesP s))) i then [q] else [])):=by
 obtain ⟨L,h1,h2,h3,h4,h5,h6⟩:=h
 obtain ⟨f',rfl,hg⟩:=runesGo_step (s:=s) (f:=f) hp h3
 rw [hd] at hg
 refine ⟨f',L++[(R,q,q+W)],by rw [← h1,hg];simp,by simp [h2],by omega,hw.2,fun h=>by omega,fun _=>?_⟩
 rw [List.range_succ,List.map_append,List.map_cons,List.map_nil,pickG_snoc _ _ _ _ (by simp [h2])]
 rcases Nat.eq_zero_or_pos i with h0 | h0
 ·subst h0
  have hL : L = []:=List.eq_nil_of_length_eq_zero h2
  subst hL
  obtain ⟨hq,hO⟩:=h5 rfl
  rw [if_pos rfl,hO,hq]
  rfl
 ·rw [if_neg (by omega),← h6 h0,decide_eq_false (by omega),Bool.false_or]
theorem nbAt_end {s : ByteArray} {f q i : Nat} {O : List Nat} (h : NbAt s f q i O) (hp : ¬ q < s.size) (hs : 0 < s.size) : O++[s.size] = boundsS s:=by
 obtain ⟨L,h1,h2,h3,h4,h5,h6⟩:=h
 rw [runesGo_end (by omega),List.append_nil] at h1
 subst h1
 unfold boundsS boundsX
 rw [if_neg (by omega)]
 rcases Nat.eq_zero_or_pos i with h0 | h0
 ·have:=(h5 h0).1;omega
 ·rw [h6 h0,h2]
theorem nbAt_lt {s : ByteArray} {f q i : Nat} {O : List Nat} (h : NbAt s f q i O) (hp : q < s.size) : i < (runesP s).length:=by
 obtain ⟨L,h1,h2,h3,h4,h5,h6⟩:=h
 obtain ⟨f',rfl,hg⟩:=runesGo_step (s:=s) (f:=f) hp h3
 rw [← h1,hg,List.length_append,h2]
 simp
theorem nBounds_any (s : ByteArray) (w : World) (hE : Env w) (hs : s.size≤1000000) :
  Calls Tryz.prog 93 #[.string s] w fun e w'=>∃ A n c,e = .returned (.slice A n c)∧Own w' w.heap.size 3 1 A n c ((boundsS s).map encN)∧Below w.heap.size w w':=by
 obtain ⟨i0,hi0,hz0,hz1,hz2⟩:=info_parts infoInt
 by_cases h0 : 0 < s.size
 ·have hem : s.toList.isEmpty = false:=by
   rw [ByteArray.toList_eq]
   cases hq : s.data.toList with
   | nil=>rw [← size_data,hq] at h0;simp at h0
   | cons a b=>rfl
  have HD:=Lib.hid (ndb_any w hE)
  obtain ⟨L,HL⟩ : ∃ L,Hid (clsG gS (runesP s) = L):=⟨_,Lib.hid rfl⟩
  have hLz : L.length≤s.size:=by rw [← HL.out];unfold clsG;rw [List.length_map];exact runesP_len s
  have HLr : Hid (L.length = (runesP s).length):=Lib.hid (by rw [← HL.out];unfold clsG;rw [List.length_map])
  have HL14 : Hid (∀ x ∈ L,x < 14):=Lib.hid (fun x hx=>by
   rw [← HL.out] at hx
   obtain ⟨u,_,rfl⟩:=List.mem_map.1 hx
   exact gS_lt _)
  clear hE
  go_enter Tryz.func93,Tryz.ntmps93
  go_wp2_with fail
  refine HD.out.mono ?_
  rintro e w1 ⟨p,rfl,hd,hb1⟩
  have HO:=Lib.hid (wOf_any p sentsD s w1 hd sentsOk.1 sentsOk.2.1 hs)
  rw [show ofC sentsD s = L from HL.out] at HO
  go_wp2_with fail
  refine HO.out.mono ?_
  rintro e w2 ⟨B,nb,cb,rfl,hob,hb2⟩
  have hnb : L.length = nb:=by have:=hob.len;simpa using this
  have Hnb:=Lib.hid hnb
  have hnz : nb≤1000000:=by omega
  have rd:=hob.rd (by decide)
  have hb3:=below_two hb1 hb2
  have hsz3:=hb3.size
  have HCt:=Lib.hid (fun i W (hi0 : 0 < i) (hi : i < nb) (hb : Below w2.heap.size w2 W)=>ncuts_any B nb cb L i W (rd.below hb) Hnb.out hi0 hi (by omega) HL14.out)
  clear HD HO hd hob hb1 hb2 hnb hLz rd
  have ho0 : Own ((w2.alloc (.cells #[.int .i64 0] 3)).iter s 0) w2.heap.size 3 1 (some ⟨w2.heap.size,0,none⟩) 1 1 ([0].map encN):=(own_one (u:=.int .i64 0) (t:=3) (w:=w2) (Nat.le_refl _)).alloc _
  have hbz : Below w2.heap.size w2 ((w2.alloc (.cells #[.int .i64 0] 3)).iter s 0):=below_iter ((Below.refl _ _).alloc (Nat.le_refl _) _) (by simp) _ _
  have hit0 : ((w2.alloc (.cells #[.int .i64 0] 3)).iter s 0).heap[w2.heap.size+1]? = some (.stringIter s 0):=by have:=iter_new (w2.alloc (.cells #[.int .i64 0] 3)) s 0;simpa using this
  have HG0:=Lib.hid (nbAt_first s)
  go_wp2_with fail
  go_loopw [4,5,6] (fun v4 v5 v6 wr=>∃ (q f i : Nat) (A : Option Addr) (n c : Nat) (O : List Nat),v4 = .slice A n c∧v5 = .int .i64 i ∧
   wr.heap[w2.heap.size+1]? = some (.stringIter s q)∧Own wr w2.heap.size 3 1 A n c (O.map encN)∧(∀ a,A = some a→a.block ≠ w2.heap.size+1)∧n≤i+1∧i≤q∧q≤s.size∧Hid (NbAt s f q i O)∧Below w2.heap.size w2 wr) (fun _ _ _ wr=>s.size - wr.iterPos (w2.heap.size+1))
  case atStart=>exact ⟨0,s.size,0,_,_,_,[0],rfl,rfl,hit0,ho0,fun a ha=>by injection ha with ha;subst ha;simp,by omega,by omega,by omega,HG0,hbz⟩
  case round =>
   clear hit0 ho0 hbz HG0
   obtain ⟨q,f,i,A,n,c,O,rfl,rfl,hit,ho,hA,hni,hiq,hqs,HG,hb⟩:=hrel
   have Hpos:=Lib.hid (iterPos_of hit)
   by_cases hp : q < s.size
   ·obtain ⟨⟨R,W⟩,HDc⟩ : ∃ d,Utf8.decode s q = d:=⟨_,rfl⟩
    have hd:=dec_bd s q hp
    have hnx : ∀ ty,(Instr.next (.pointer (some ⟨w2.heap.size+1,0,none⟩)) true ty).run Tryz.prog wr = _:=fun ty=>Lib.run_next_any_at wr (w2.heap.size+1) s q ty hit hp
    have hit2:=Lib.iterAt_heap wr (w2.heap.size+1) s q (q+(Utf8.decode s q).2) hit
    have hb2:=Lib.below_iterAt hb (k:=w2.heap.size+1) (by omega) s (q+(Utf8.decode s q).2)
    have ho2:=ho.keep (w':=wr.iterAt (w2.heap.size+1) s (q+(Utf8.decode s q).2)) fun a ha=>Lib.iterAt_other wr (w2.heap.size+1) a.block s _ (hA a ha)
    have hsz2 : w2.heap.size+1 < (wr.iterAt (w2.heap.size+1) s (q+(Utf8.decode s q).2)).heap.size:=(Array.getElem?_eq_some_iff.1 hit2).1
    rw [HDc] at hd hnx hit2 hb2 ho2 hsz2
    simp only at hd hnx hit2 hb2 ho2 hsz2
    have hin : i < nb:=by have:=nbAt_lt HG.out hp;have:=Hnb.out;have:=HLr.out;omega
    obtain ⟨g,hN⟩:=nbAt_next HG.out hp HDc (by omega)
    rw [HL.out] at hN
    have HN:=Lib.hid hN
    clear hN HDc HG ho hit hb
    generalize wr.iterAt (w2.heap.size+1) s (q+W) = w4 at hnx hit2 hb2 ho2 hsz2
    by_cases hiz : i = 0
    ·subst hiz
     have HN2 : Hid (NbAt s g (q+W) 1 O):=HN
     go_wp2
     go_roundw
     case rel=>exact ⟨q+W,g,1,A,n,c,O,rfl,rfl,hit2,ho2,hA,by omega,by omega,by omega,HN2,hb2⟩
     case measure=>rw [iterPos_of hit2,Hpos.out];omega
    ·have hi1 : 0 < i:=by omega
     have hi1' : (0 : Int) < (i : Int):=by omega
     have hi1'' : (i : Int) > 0:=by omega
     have HC:=Lib.hid (HCt.out i w4 hi1 hin hb2)
     have hN:=HN.out
     rw [if_neg hiz] at hN
     clear HN
     cases hc : sCuts (toI L) i with
     | false =>
      rw [hc] at HC hN
      have HN2 : Hid (NbAt s g (q+W) (i+1) O):=Lib.hid (by simpa using hN)
      clear hN hc
      go_wp2_with fail
      refine HC.out.mono ?_
      rintro e w5 ⟨rfl,hb5⟩
      have hit5 : w5.heap[w2.heap.size+1]? = some (.stringIter s (q+W)):=(hb5.block _ hsz2).trans hit2
      have ho5:=ho2.below hb5
      have hb25:=below_step hb2 hb5 (by omega)
      go_wp2
      go_roundw
      case rel=>exact ⟨q+W,g,i+1,A,n,c,O,rfl,by go_num,hit5,ho5,hA,by omega,by omega,by omega,HN2,hb25⟩
      case measure=>rw [iterPos_of hit5,Hpos.out];omega
     | true =>
      rw [hc] at HC hN
      have HN2 : Hid (NbAt s g (q+W) (i+1) (O++[q])):=Lib.hid (by simpa using hN)
      clear hN hc
      go_wp2_with fail
      refine HC.out.mono ?_
      rintro e w5 ⟨rfl,hb5⟩
      have hit5 : w5.heap[w2.heap.size+1]? = some (.stringIter s (q+W)):=(hb5.block _ hsz2).trans hit2
      have ho5:=ho2.below hb5
      have hb25:=below_step hb2 hb5 (by omega)
      have hsz5 : w2.heap.size+1 < w5.heap.size:=Nat.lt_of_lt_of_le hsz2 hb5.size
      go_wp2_with (at_builtin;go_must (refine wpList_app rfl (.tmp 25) (.tmp 27) _ rfl w2.heap.size 3 i0 _ 1 8 Tryz.underlying65 hi0 hz0 hz1 hz2 rfl (by omega) A n c (O.map encN) rfl (ho5.alloc _) _ 1 1 [encN q] rfl rfl (Rd.newAt (by simp) rfl) (encN_ok [q]) (by unfold maxLen;omega) (by omega) (by simp;omega) ?_);intro A3 c3 w6 ho6 hg6 hA6)
      have hb6:=below_app (hb25.alloc (by omega) _) hg6 (by simp;omega) (fun a ha=>(ho5.lt a ha).1)
      have hit6 : w6.heap[w2.heap.size+1]? = some (.stringIter s (q+W)):=(hg6.block (w2.heap.size+1) (by simp;omega) (fun e=>by cases A with | none=>cases e | some a=>simp at e;exact hA a rfl e.symm)).trans ((Below.heap_alloc _ _ _ hsz5).trans hit5)
      have hA7 : ∀ a,A3 = some a→a.block ≠ w2.heap.size+1:=fun a ha=>by
       rcases hA6 with e | e
       ·exact hA a (by rw [← e];exact ha)
       ·rw [e] at ha;injection ha with ha;subst ha;simp;omega
      go_roundw
      case rel=>exact ⟨q+W,g,i+1,A3,n+1,c3,O++[q],rfl,by go_num,hit6,by rw [List.map_append];exact ho6,hA7,by omega,by omega,by omega,HN2,hb6⟩
      case measure=>rw [iterPos_of hit6,Hpos.out];omega
   ·have hnx : ∀ ty,(Instr.next (.pointer (some ⟨w2.heap.size+1,0,none⟩)) true ty).run Tryz.prog wr = _:=fun ty=>Lib.run_next_end_at wr (w2.heap.size+1) s q ty hit hp
    have HE:=Lib.hid (nbAt_end HG.out hp h0)
    have hszr:=hb.size
    go_wp2_with (at_builtin;go_must (refine wpList_app rfl (.tmp 31) (.tmp 34) _ rfl w2.heap.size 3 i0 _ 1 8 Tryz.underlying65 hi0 hz0 hz1 hz2 rfl (by omega) A n c (O.map encN) rfl (ho.alloc _) _ 1 1 [encN s.size] rfl rfl (Rd.newAt (by simp) rfl) (encN_ok [s.size]) (by unfold maxLen;omega) (by omega) (by simp;omega) ?_);intro A3 c3 w5 ho5 hg5 hA5)
    have hb5:=below_app (hb.alloc (by omega) _) hg5 (by simp;omega) (fun a ha=>(ho.lt a ha).1)
    go_ret
    exact ⟨A3,n+1,c3,rfl,by rw [← HE.out,List.map_append];exact ho5.more hsz3,below_step hb3 hb5 hsz3⟩
 ·have hem : s.toList.isEmpty = true:=by
   rw [ByteArray.toList_eq]
   have : s.data.toList.length = 0:=by rw [size_data];omega
   rw [List.length_eq_zero_iff.1 this];rfl
  have HV : Hid (boundsS s = []):=Lib.hid (by unfold boundsS boundsX;rw [if_pos (by omega)])
  go_enter Tryz.func93,Tryz.ntmps93
  go_wp2
  go_ret
  exact ⟨none,0,0,rfl,by rw [HV.out];exact Own.nil_ _ _ _ _,Below.refl _ _⟩
theorem boundsS_len (s : ByteArray) : (boundsS s).length≤s.size+1:=by
 unfold boundsS boundsX
 split
 ·simp
 ·rw [List.length_append,pick_filter (runesP s).length (runesP s) _ rfl (by simp),List.length_map]
  have h1:=List.length_filter_le (fun i=>((List.range (runesP s).length).map fun i=>decide (i = 0) || sCuts (toI (clsG gS (runesP s))) i).getD i false) (List.range (runesP s).length)
  rw [List.length_range] at h1
  have h2:=runesP_len s
  simp only [List.length_singleton]
  omega
end
section
open Go.RowKit Go.Shelf
attribute [local go_sem] Oper.semAt_some
theorem boundsX_mem {s : ByteArray} {a : Nat} {t : List Bool} (h : a ∈ pickG (runesP s) t) : a < s.size:=by
 obtain ⟨k,y,h1,_,rfl⟩:=pickG_mem.1 h
 have:=runesP_bd y (List.mem_of_getElem? h1);omega
theorem boundsS_le (s : ByteArray) : ∀ a ∈ boundsS s,a≤s.size:=fun a ha=>by
 unfold boundsS boundsX at ha
 split at ha
 ·cases ha
 ·rcases List.mem_append.1 ha with h | h
  ·exact Nat.le_of_lt (boundsX_mem h)
  ·rw [List.mem_singleton] at h;omega
end
section
open Go.RowKit
def cutZ (k : Int) (s : ByteArray) : List Nat:=if k = 0 then boundsG gG s else if k = 1 then wBounds gW s else boundsS s
theorem cutZ_le (k : Int) (s : ByteArray) : ∀ a ∈ cutZ k s,a≤s.size:=by
 unfold cutZ
 split
 ·exact bounds_le gG s
 ·split
  ·exact wBounds_le gW s
  ·exact boundsS_le s
theorem cutZ_len (k : Int) (s : ByteArray) : (cutZ k s).length≤s.size+1:=by
 unfold cutZ
 split
 ·exact bounds_len s
 ·split
  ·exact wBounds_len gW s
  ·exact boundsS_len s
def sameP {α : Type} [DecidableEq α] : List α→List α→Nat
 | x :: a,y :: b=>if x = y then sameP a b+1 else 0
 | _,_=>0
theorem sameP_le {α : Type} [DecidableEq α] : ∀ (a b : List α),sameP a b≤a.length∧sameP a b≤b.length
 | [],b=>by simp [sameP]
 | x :: a,[]=>by simp [sameP]
 | x :: a,y :: b=>by
  have:=sameP_le a b
  unfold sameP
  split <;> simp <;> omega
theorem sameP_step {α : Type} [DecidableEq α] : ∀ {a b : List α} {i : Nat} {x y : α},i≤sameP a b→a[i]? = some x→b[i]? = some y→(x = y→i+1≤sameP a b)∧(x ≠ y→sameP a b = i)
 | [],b,i,x,y,_,h,_=>by simp at h
 | u :: a,[],i,x,y,_,_,h=>by simp at h
 | u :: a,v :: b,0,x,y,_,h1,h2=>by
  obtain rfl : u = x:=by simpa using h1
  obtain rfl : v = y:=by simpa using h2
  unfold sameP
  exact ⟨fun e=>by rw [if_pos e];omega,fun e=>by rw [if_neg e]⟩
 | u :: a,v :: b,i+1,x,y,hi,h1,h2=>by
  unfold sameP at hi ⊢
  split at hi
  ·rename_i e
   rw [if_pos e]
   have:=sameP_step (a:=a) (b:=b) (i:=i) (x:=x) (y:=y) (by omega) (by simpa using h1) (by simpa using h2)
   exact ⟨fun e=>by have:=this.1 e;omega,fun e=>by have:=this.2 e;omega⟩
  ·omega
theorem sameP_end {α : Type} [DecidableEq α] {a b : List α} {i : Nat} (h : i≤sameP a b) (he : ¬ i < min a.length b.length) : sameP a b = i:=by
 have:=sameP_le a b
 omega
def backI (m : Int) (l : List Nat) : List Int:=l.reverse.map fun (x : Nat)=>(x : Int)+m
def behP (a b : List Nat) (m : Int) : Nat:=sameP (backI m a) (backI 0 b)
theorem backI_len (m : Int) (l : List Nat) : (backI m l).length = l.length:=by unfold backI;simp
theorem backI_get {m : Int} {l : List Nat} {i x : Nat} (hi : i < l.length) (h : l[l.length - 1 - i]? = some x) : (backI m l)[i]? = some ((x : Int)+m):=by
 unfold backI
 rw [List.getElem?_map,List.getElem?_reverse hi,h]
 rfl
def frP (l : List Nat) (f : Nat) : Nat:=l.foldl (fun v x=>if x≤f then x else v) 0
theorem frP_snoc (l : List Nat) (f x : Nat) : frP (l++[x]) f = if x≤f then x else frP l f:=by unfold frP;rw [List.foldl_append];rfl
def waP (t : Nat) : List Nat→Nat→Nat
 | [],v=>v
 | x :: r,v=>if x < t then v else waP t r x
theorem waP_or (t : Nat) : ∀ (l : List Nat) (v : Nat),waP t l v = v∨(waP t l v ∈ l∧t≤waP t l v)
 | [],v=>.inl rfl
 | x :: r,v=>by
  unfold waP
  split
  ·exact .inl rfl
  ·rcases waP_or t r x with h | ⟨h1,h2⟩
   ·exact .inr ⟨by rw [h];simp,by rw [h];omega⟩
   ·exact .inr ⟨by simp [h1],h2⟩
def eFrom (a b : List Nat) (f : Nat) : Nat:=frP (a.take (sameP a b)) f
def eWas (a b : List Nat) (m : Int) (t z : Nat) : Nat:=waP t (a.drop (a.length - behP a b m)).reverse z
theorem eWas_le {a b : List Nat} {m : Int} {t z : Nat} (hz : ∀ y ∈ a,y≤z) : eWas a b m t z≤z:=by
 unfold eWas
 rcases waP_or t (a.drop (a.length - behP a b m)).reverse z with h | ⟨h,_⟩
 ·omega
 ·exact hz _ (List.mem_of_mem_drop (List.mem_reverse.1 h))
end
section
open Go.RowKit
def DocAt (w : World) (base p : Nat) (k : Int) (s : ByteArray) (l : List Nat) : Prop :=
 ∃ (A : Option Addr) (c : Nat),Blk w p 118 #[.int .i64 k,.string s,.slice A l.length c]∧base≤p∧Own w base 3 1 A l.length c (l.map encN)∧∀ a,A = some a→a.block ≠ p
section
variable {w w' : World} {base p : Nat} {k : Int} {s : ByteArray} {l : List Nat}
theorem DocAt.below (h : DocAt w base p k s l) (hb : Below w.heap.size w w') : DocAt w' base p k s l:=by
 obtain ⟨A,c,h1,h2,h3,h4⟩:=h
 exact ⟨A,c,h1.below hb,h2,h3.below hb,h4⟩
theorem DocAt.lt (h : DocAt w base p k s l) : p < w.heap.size:=let ⟨_,_,h1,_⟩:=h;h1.lt
end
theorem agcut_any (s : ByteArray) (k : Int) (w : World) (hE : Env w) (hs : s.size≤1000000) (hk : 0≤k∧k≤2) :
  Calls Tryz.prog 65 #[.string s,.int .i64 k] w fun e w'=>∃ A n c,e = .returned (.tuple #[.slice A n c,.bool true])∧Own w' w.heap.size 3 1 A n c ((cutZ k s).map encN)∧Below w.heap.size w w':=by
 rcases (by omega : k = 0∨k = 1∨k = 2) with rfl | rfl | rfl
 ·have H:=Lib.hid (gBounds_any s w hE hs)
  have HV:=Lib.hid (show cutZ 0 s = boundsG gG s from if_pos rfl)
  clear hk hE hs
  go_enter Tryz.func65,Tryz.ntmps65
  go_wp2_with fail
  refine H.out.mono ?_
  rintro e w1 ⟨A,n,c,rfl,ho,hb⟩
  go_wp2
  go_ret2
  exact ⟨A,n,c,rfl,by rw [HV.out];exact ho,hb⟩
 ·have H:=Lib.hid (kBounds_any s w hE hs)
  have HV:=Lib.hid (show cutZ 1 s = wBounds gW s from by unfold cutZ;rw [if_neg (by omega),if_pos rfl])
  clear hk hE hs
  go_enter Tryz.func65,Tryz.ntmps65
  go_wp2_with fail
  refine H.out.mono ?_
  rintro e w1 ⟨A,n,c,rfl,ho,hb⟩
  go_wp2
  go_ret2
  exact ⟨A,n,c,rfl,by rw [HV.out];exact ho,hb⟩
 ·have H:=Lib.hid (nBounds_any s w hE hs)
  have HV:=Lib.hid (show cutZ 2 s = boundsS s from by unfold cutZ;rw [if_neg (by omega),if_neg (by omega)])
  clear hk hE hs
  go_enter Tryz.func65,Tryz.ntmps65
  go_wp2_with fail
  refine H.out.mono ?_
  rintro e w1 ⟨A,n,c,rfl,ho,hb⟩
  go_wp2
  go_ret2
  exact ⟨A,n,c,rfl,by rw [HV.out];exact ho,hb⟩
theorem agNew_any (s : ByteArray) (k : Int) (w : World) (hE : Env w) (hs : s.size≤1000000) (hk : 0≤k∧k≤2) :
  Calls Tryz.prog 32 #[.string s,.int .i64 k] w fun e w'=>∃ p,e = .returned (.tuple #[.pointer (some ⟨p,0,none⟩),.int .i64 0])∧DocAt w' w.heap.size p k s (cutZ k s)∧Below w.heap.size w w':=by
 have H:=Lib.hid (agcut_any s k w hE hs hk)
 generalize cutZ k s = L at H ⊢
 clear hk hE hs
 go_enter Tryz.func32,Tryz.ntmps32
 go_wp2_with fail
 refine H.out.mono ?_
 rintro e w1 ⟨A,n,c,rfl,ho,hb⟩
 obtain rfl : L.length = n:=by have:=ho.len;simpa using this
 go_wp2
 go_ret2
 have hB:=Blk.new w1 118 #[.int .i64 k,.string s,.slice A L.length c]
 exact ⟨_,rfl,⟨A,c,hB,hb.size,ho.alloc _,fun a ha=>by have:=(ho.lt a ha).2;omega⟩,hb.alloc hb.size _⟩
theorem agText_any (base p : Nat) (k : Int) (s : ByteArray) (l : List Nat) (w : World) (h : DocAt w base p k s l) : Calls Tryz.prog 36 #[.pointer (some ⟨p,0,none⟩)] w fun e w'=>e = .returned (.string s)∧w = w':=by
 obtain ⟨A,c,h1,_⟩:=h
 have c0:=h1.cell 1
 simp only [zG,zH,zI] at c0
 clear h1
 go_enter Tryz.func36,Tryz.ntmps36
 go_wp2
 go_ret
 exact ⟨rfl,rfl⟩
theorem cloneI_any (A : Option Addr) (n c : Nat) (l : List Nat) (w : World) (hA : Rd w 1 A (l.map encN)) (hl : l.length = n) (hn : n≤4000000) :
  Calls Tryz.prog 66 #[.slice A n c] w fun e w'=>∃ A' c',e = .returned (.slice A' n c')∧Own w' w.heap.size 3 1 A' n c' (l.map encN)∧Below w.heap.size w w':=by
 obtain ⟨i0,hi0,hz0,hz1,hz2⟩:=info_parts infoInt
 have q:=fun (w : World) (a : Option Addr) (n c n' c' : Nat)=>Lib.run_eql_slice_nil (P:=Tryz.prog) w 65 _ a n c n' c' Tryz.underlying65
 cases A with
 | none =>
  have h0 : l = []:=by
   cases l with
   | nil=>rfl
   | cons x r=>obtain ⟨b,off,e,_⟩:=hA (by simp);cases e
  subst h0
  simp at hl;subst hl
  go_enter Tryz.func66,Tryz.ntmps66
  go_wp2
  go_ret
  exact ⟨none,0,rfl,Own.nil_ _ _ _ _,Below.refl _ _⟩
 | some a =>
  have Hl:=Lib.hid hl
  go_enter Tryz.func66,Tryz.ntmps66
  go_wp2_with (at_builtin;go_must (refine wpList_app rfl (.tmp 5) (.tmp 6) _ rfl w.heap.size 3 i0 _ 1 8 Tryz.underlying65 hi0 hz0 hz1 hz2 rfl (by omega) (some ⟨w.heap.size,0,none⟩) 0 0 [] rfl (Own.lit w w.heap.size 3 1 (Nat.le_refl _)) (some a) n c (l.map encN) rfl (by rw [List.length_map];exact Hl.out) (hA.alloc _) (encN_ok' l) (by unfold maxLen;omega) (by omega) (by simp) ?_);intro A3 c3 w3 ho3 hg3 hA3)
  go_ret
  rw [Nat.zero_add] at ho3
  exact ⟨A3,c3,rfl,by simpa using ho3,below_app ((Below.refl _ _).alloc (Nat.le_refl _) _) hg3 (by simp) (fun a ha=>by injection ha with ha;subst ha;exact Nat.le_refl _)⟩
theorem agBounds_any (base p : Nat) (k : Int) (s : ByteArray) (l : List Nat) (w : World) (h : DocAt w base p k s l) (hl : l.length≤4000000) :
  Calls Tryz.prog 34 #[.pointer (some ⟨p,0,none⟩)] w fun e w'=>∃ A c,e = .returned (.slice A l.length c)∧Own w' w.heap.size 3 1 A l.length c (l.map encN)∧Below w.heap.size w w':=by
 obtain ⟨A,c,h1,_,h3,_⟩:=h
 have c0:=h1.cell 2
 simp only [zG,zH,zI] at c0
 have H:=Lib.hid (cloneI_any A l.length c l w (h3.rd (by decide)) rfl hl)
 generalize l.length = n at H c0 ⊢
 clear h1 h3 hl
 go_enter Tryz.func34,Tryz.ntmps34
 go_wp2_with fail
 refine H.out.mono ?_
 rintro e w1 ⟨A',c',rfl,ho,hb⟩
 go_wp2
 go_ret
 exact ⟨A',c',rfl,ho,hb⟩
theorem agCount_any (base p : Nat) (k : Int) (s : ByteArray) (l : List Nat) (w : World) (h : DocAt w base p k s l) (hl : l.length≤4000000) :
  Calls Tryz.prog 43 #[.pointer (some ⟨p,0,none⟩)] w fun e w'=>e = .returned (.int .i64 ((l.length - 1 : Nat) : Int))∧Below w.heap.size w w':=by
 have H:=Lib.hid (agBounds_any base p k s l w h hl)
 obtain ⟨v,Hv⟩ : ∃ v : Nat,Hid (l.length - 1 = v):=⟨_,Lib.hid rfl⟩
 have hv : max ((l.length : Int) - 1) 0 = (v : Int):=by have:=Hv.out;omega
 rw [Hv.out]
 have hn : (l.length : Int)≤4000000:=by omega
 generalize l.length = n at H hv hn
 clear h hl Hv
 go_enter Tryz.func43,Tryz.ntmps43
 go_wp2_with fail
 refine H.out.mono ?_
 rintro e w1 ⟨A',c',rfl,ho,hb⟩
 go_wp2
 go_ret
 exact ⟨rfl,hb⟩
theorem agsame_any (A B : Option Addr) (n m c d : Nat) (a b : List Nat) (w : World) (rA : Rd w 1 A (a.map encN)) (rB : Rd w 1 B (b.map encN)) (ha : a.length = n) (hb : b.length = m) (hn : n≤4000000) (hm : m≤4000000) :
  Calls Tryz.prog 67 #[.slice A n c,.slice B m d] w fun e w'=>e = .returned (.int .i64 (sameP a b : Nat))∧Below w.heap.size w w':=by
 have Ha:=Lib.hid ha
 have Hb:=Lib.hid hb
 clear ha hb
 go_enter Tryz.func67,Tryz.ntmps67
 go_wp2_with fail
 go_loopw [5] (fun v wr=>∃ i : Nat,v = .int .i64 i∧i≤n∧i≤m∧Hid (i≤sameP a b)∧Below w.heap.size w wr) (fun v _=>n - (intOf v).toNat)
 case atStart=>exact ⟨0,rfl,by omega,by omega,Lib.hid (Nat.zero_le _),Below.refl _ _⟩
 case round =>
  obtain ⟨i,rfl,hin,him,HI,hbr⟩:=hrel
  by_cases hlt : i < n∧i < m
  ·obtain ⟨h1,h2⟩:=hlt
   obtain ⟨x,hx⟩ : ∃ x,a[i]? = some x:=⟨_,List.getElem?_eq_getElem (by have:=Ha.out;omega)⟩
   obtain ⟨y,hy⟩ : ∃ y,b[i]? = some y:=⟨_,List.getElem?_eq_getElem (by have:=Hb.out;omega)⟩
   have HS:=Lib.hid (sameP_step HI.out hx hy)
   obtain ⟨ba,oa,rfl,ca⟩:=rA (by intro e;rw [List.map_eq_nil_iff] at e;subst e;simp at hx)
   obtain ⟨bb,ob,rfl,cb⟩:=rB (by intro e;rw [List.map_eq_nil_iff] at e;subst e;simp at hy)
   have x0:=cell_keep (ca i 0 (encN x) (.int .i64 (x : Nat)) (by rw [List.getElem?_map,hx];rfl) rfl) hbr
   have y0:=cell_keep (cb i 0 (encN y) (.int .i64 (y : Nat)) (by rw [List.getElem?_map,hy];rfl) rfl) hbr
   simp only [Nat.mul_one,Nat.add_zero] at x0 y0
   have hmin : (i : Int) < min (n : Int) (m : Int):=by omega
   have h1' : (i : Int) < (n : Int):=by omega
   have h2' : (i : Int) < (m : Int):=by omega
   clear hx hy ca cb
   by_cases hxy : x = y
   ·have HS1:=Lib.hid (HS.out.1 hxy)
    subst hxy
    clear HS
    go_wp2_with fail
    go_quiet (fail)
    go_wp2
    go_roundw
    case rel=>exact ⟨i+1,by go_num,by omega,by omega,HS1,below_drewN hbr _⟩
    case measure=>simp [intOf];omega
   ·have HS2:=Lib.hid (HS.out.2 hxy)
    have tne : ((x : Int) == (y : Int)) = false:=beq_eq_false_iff_ne.2 (by omega)
    clear hxy HS
    go_wp2_with fail
    go_quiet (fail)
    go_wp2
    go_ret
    exact ⟨by rw [HS2.out];rfl,below_drewN hbr _⟩
  ·have HS:=Lib.hid (sameP_end HI.out (by rw [Ha.out,Hb.out];omega))
   obtain ⟨z,hz⟩ : ∃ z,min (n : Int) (m : Int) = z:=⟨_,rfl⟩
   have hmin : ¬ (i : Int) < z:=by omega
   have hminb : decide ((i : Int) < z) = false:=decide_eq_false hmin
   clear hlt
   go_wp2_with fail
   go_quiet (fail)
   go_wp2
   go_ret
   exact ⟨by rw [HS.out];rfl,below_drewN hbr _⟩
end
section
open Go.RowKit Go.Shelf
attribute [local go_sem] Oper.semAt_some
def KY (Y : Nat→Prop) (A B : World) : Prop:=A.heap.size≤B.heap.size∧∀ k,Y k→B.heap[k]? = A.heap[k]?
section
variable {Y : Nat→Prop} {A B C : World}
theorem KY.refl (Y : Nat→Prop) (W : World) : KY Y W W:=⟨Nat.le_refl _,fun _ _=>rfl⟩
theorem KY.trans (h : KY Y A B) (k : KY Y B C) : KY Y A C:=⟨Nat.le_trans h.1 k.1,fun i hi=>(k.2 i hi).trans (h.2 i hi)⟩
theorem KY.put {w : World} (hlt : ∀ k,Y k→k < w.heap.size) (W : World) (l : Nat) (o' : Obj) (hl : w.heap.size≤l) : KY Y W (W.putObj l o') :=
 ⟨by simp,fun k hk=>World.putObj_heap_other (by have:=hlt k hk;omega)⟩
theorem KY.below (h : Below A.heap.size A B) (hlt : ∀ k,Y k→k < A.heap.size) : KY Y A B:=⟨h.size,fun k hk=>h.block k (hlt k hk)⟩
theorem KY.setCell (W : World) {p : Addr} (hp : ¬ Y p.block) (u : Value) : KY Y W (W.setCell p u):=⟨by simp [World.setCell],fun k hk=>Below.heap_setCell W p u k (fun e=>hp (e ▸ hk))⟩
theorem KY.cell (h : KY Y A B) {p : Addr} (hp : Y p.block) : B.cell? p = A.cell? p:=World.cell?_of_block (h.2 _ hp)
theorem KY.rd (h : KY Y A B) {s : Nat} {P : Option Addr} {cs : List (List Value)} (hr : Rd A s P cs) (hP : ∀ a,P = some a→Y a.block) : Rd B s P cs :=
 hr.keep fun b off i _ ha hc=>(h.cell (p:=⟨b,i,none⟩) (show Y b from hP ⟨b,off,none⟩ ha)).trans hc
end
def bkL (L : List Nat) : List (Nat × Nat):=((List.range L.length).map fun i=>(i,L.getD i 0)).reverse
theorem bkL_len (L : List Nat) : (bkL L).length = L.length:=by unfold bkL;simp
theorem bkL_at {L : List Nat} {i x : Nat} (h : L[i]? = some x) : (bkL L)[L.length - 1 - i]? = some (i,x):=by
 have hi:=(List.getElem?_eq_some_iff.1 h).1
 unfold bkL
 rw [List.getElem?_reverse (by simp;omega),List.length_map,List.length_range,List.getElem?_map,List.getElem?_range (by omega),show L.length - 1 - (L.length - 1 - i) = i by omega,Option.map_some,List.getD_eq_getElem?_getD,h]
 rfl
theorem bkL_snd (L : List Nat) : (bkL L).map (·.2) = L.reverse:=by
 unfold bkL
 rw [List.map_reverse,List.map_map]
 congr 1
 refine List.ext_getElem? fun i=>?_
 by_cases hi : i < L.length
 ·rw [List.getElem?_map,List.getElem?_range hi,Option.map_some]
  simp [List.getD_eq_getElem?_getD,List.getElem?_eq_getElem hi]
 ·rw [List.getElem?_eq_none (by simp;omega),List.getElem?_eq_none (by omega)]
def encBk (x : Nat × Nat) : Array Value:=#[.int .i64 (x.1 : Nat),.int .i64 (x.2 : Nat)]
theorem lBackI_any (A : Option Addr) (n c : Nat) (w : World) : Calls Tryz.prog 68 #[.slice A n c] w fun e w'=>e = .returned (.func (.func 94) #[] #[.pointer (some ⟨w.heap.size,0,none⟩)])∧Blk w' w.heap.size 65 #[.slice A n c]∧Below w.heap.size w w':=by
 have hmf : ∀ (fn : Fn) (first cap : Array Value) (w : World),(Instr.makeFunc fn first cap).run Tryz.prog w = .ok (.func fn first cap) w:=fun _ _ _ _=>rfl
 go_enter Tryz.func68,Tryz.ntmps68
 go_wp2
 go_ret
 exact ⟨rfl,Blk.new w 65 #[.slice A n c],(Below.refl _ _).alloc (Nat.le_refl _) _⟩
theorem lBackI_seq (n : Nat) (hn : 1≤n) (w : World) (A : Option Addr) (m c : Nat) (L : List Nat) (bs : Nat) (Y : Nat→Prop) (hY1 : Y bs) (hY2 : ∀ a,A = some a→Y a.block) (rd0 : Rd w 1 A (L.map encN)) (hl : L.length = m) (hm : m≤4000000) (h : w.cell? ⟨bs,0,none⟩ = some (.slice A m c)) (hlt0 : ∀ k,Y k→k < w.heap.size) :
  SeqStopsK Fence.wide n Tryz.prog 94 #[.pointer (some ⟨bs,0,none⟩)] encBk (KY Y) (fun ys=>ys = bkL L) (fun pre=>pre <+: bkL L) L.length w:=by
 intro l J Jx W hW hJ _ hY h0
 have hWz:=hW.size
 have hK0 : KY Y w W:=KY.below hW hlt0
 have Hm:=Lib.hid hl
 have hc1:=(hK0.cell (p:=⟨bs,0,none⟩) hY1).trans h
 clear h hl
 refine callsIn_of_wp Tryz.func94 rfl trivial ?_ rfl
 simp only [Tryz.ntmps94,List.size_toArray,List.length_cons,List.length_nil,Nat.reduceAdd,Nat.reduceSub,Array.replicate_succ,Array.replicate_zero,List.push_toArray,List.append_toArray,List.nil_append,List.cons_append]
 gi_wp2_with fail
 gi_loopw [3] (fun v wr=>∃ i : Nat,v = .int .i64 ((i : Int) - 1)∧i≤m∧J ((bkL L).take (m - i)) wr∧KY Y w wr) (fun v _=>((intOf v)+1).toNat)
 case atStart=>exact ⟨m,rfl,Nat.le_refl _,by rw [Nat.sub_self];exact h0,hK0⟩
 case round =>
  obtain ⟨i,rfl,hi,hJr,hKr⟩:=hrel
  have hcb : wr.cell? ⟨bs,0,none⟩ = some (.slice A m c):=(hKr.cell (p:=⟨bs,0,none⟩) hY1).trans ((hK0.cell (p:=⟨bs,0,none⟩) hY1).symm.trans hc1)
  by_cases hlt : 0 < i
  ·obtain ⟨k,hk⟩ : ∃ k,i = k+1:=⟨i - 1,by omega⟩
   have rd:=hKr.rd rd0 hY2
   obtain ⟨x,Hx⟩ : ∃ x,Hid (L[k]? = some x):=⟨_,Lib.hid (List.getElem?_eq_getElem (by have:=Hm.out;omega))⟩
   obtain ⟨b,off,rfl,cx⟩:=Rd.atQ rd Hx.out
   have hat:=bkL_at Hx.out
   rw [Hm.out] at hat
   have hp : (bkL L).take (m - i)++[(k,x)] = (bkL L).take (m - k):=by
    rw [show m - k = m - i+1 by omega,List.take_add_one,show m - i = m - 1 - k by omega,hat]
    rfl
   have hlen : ((bkL L).take (m - i)).length < L.length:=by rw [List.length_take,bkL_len,Hm.out];omega
   have e1 : (i : Int) - 1 = (k : Int):=by omega
   rw [e1]
   have hk0 : (0 : Int)≤(k : Int):=by omega
   have hk1 : (k : Int) ≥ 0:=by omega
   have hkm : (k : Int) < (m : Int):=by omega
   have hkN : k < m:=by omega
   have hYW:=YieldAt.mono (R':=fun e W'=>∃ q : Bool,e = .returned (.bool q)∧(q = true→J ((bkL L).take (m - k)) W'∧KY Y wr W')∧(q = false→Jx ((bkL L).take (m - k)) W')) (hY _ (k,x) wr hJr hlen) (by
    rw [hp]
    rintro e W' (⟨h1,h2,h3⟩ | ⟨h1,h2⟩)
    ·exact ⟨true,h1,fun _=>⟨h2,h3⟩,fun h=>absurd h (by decide)⟩
    ·exact ⟨false,h1,fun h=>absurd h (by decide),fun _=>h2⟩)
   obtain ⟨fn,tmps,assign,body,hy,hR⟩:=hYW
   dsimp only [encBk] at hy
   clear hp hlen rd hat e1 hk
   gi_wp2_with fail
   refine hR.mono ?_
   rintro e W4 ⟨t,rfl,ht1,ht2⟩
   cases t with
   | true =>
    obtain ⟨hJ4,hk4⟩:=ht1 rfl
    have hK4:=hKr.trans hk4
    gi_wp2_with fail
    go_roundw
    case rel=>exact ⟨k,by go_num,by omega,hJ4,hK4⟩
    case measure=>simp [intOf] <;> omega
   | false =>
    have hJ4:=ht2 rfl
    gi_wp2
    refine bodyPost_ret (results_none rfl _ _ _) rfl ?_
    exact ⟨⟨_,rfl⟩,.inr ⟨_,List.take_prefix _ _,hJ4⟩⟩
  ·obtain rfl : i = 0:=by omega
   have hend : (bkL L).take (m - 0) = bkL L:=List.take_of_length_le (by rw [bkL_len,Hm.out];omega)
   rw [hend] at hJr
   gi_wp2
   go_end0
   first | exact ⟨⟨_,rfl⟩,.inl ⟨_,rfl,hJr⟩⟩ | exact ⟨⟨_,rfl⟩,.inl hJr⟩
theorem agbeh_any (A B : Option Addr) (n m c d : Nat) (a b : List Nat) (mo : Int) (w : World) (rA : Rd w 1 A (a.map encN)) (rB : Rd w 1 B (b.map encN)) (ha : a.length = n) (hb : b.length = m) (hn : n≤4000000) (hm : m≤4000000) (hx0 : ∀ x ∈ a,x≤4000000) (hmo : -4000000≤mo∧mo≤4000000) :
  Calls Tryz.prog 69 #[.slice A n c,.slice B m d,.int .i64 mo] w fun e w'=>e = .returned (.int .i64 (behP a b mo : Nat))∧Below w.heap.size w w':=by
 have Ha:=Lib.hid ha
 have Hb:=Lib.hid hb
 have HX:=Lib.hid hx0
 obtain ⟨mo1,mo2⟩:=hmo
 unfold behP
 clear ha hb hx0
 go_enter Tryz.func69,Tryz.ntmps69
 go_wp2_with fail
 go_loopw [7] (fun v wr=>∃ i : Nat,v = .int .i64 i∧i≤n∧i≤m∧Hid (i≤sameP (backI mo a) (backI 0 b))∧Below w.heap.size w wr) (fun v _=>n - (intOf v).toNat)
 case atStart=>exact ⟨0,rfl,by omega,by omega,Lib.hid (Nat.zero_le _),Below.refl _ _⟩
 case round =>
  obtain ⟨i,rfl,hin,him,HI,hbr⟩:=hrel
  by_cases hlt : i < n∧i < m
  ·obtain ⟨h1,h2⟩:=hlt
   obtain ⟨n1,hn1⟩ : ∃ k,k+1 = n:=⟨n - 1,by omega⟩
   obtain ⟨m1,hm1⟩ : ∃ k,k+1 = m:=⟨m - 1,by omega⟩
   obtain ⟨ia,hia⟩ : ∃ k,k+i = n1:=⟨n1 - i,by omega⟩
   obtain ⟨ib,hib⟩ : ∃ k,k+i = m1:=⟨m1 - i,by omega⟩
   obtain ⟨x,hx⟩ : ∃ x,a[ia]? = some x:=⟨_,List.getElem?_eq_getElem (by have:=Ha.out;omega)⟩
   obtain ⟨y,hy⟩ : ∃ y,b[ib]? = some y:=⟨_,List.getElem?_eq_getElem (by have:=Hb.out;omega)⟩
   have hxz:=HX.out x (List.mem_of_getElem? hx)
   have hbx:=backI_get (m:=mo) (l:=a) (i:=i) (x:=x) (by rw [Ha.out];omega) (by rw [Ha.out,show n - 1 - i = ia by omega];exact hx)
   have hby:=backI_get (m:=0) (l:=b) (i:=i) (x:=y) (by rw [Hb.out];omega) (by rw [Hb.out,show m - 1 - i = ib by omega];exact hy)
   have HS:=Lib.hid (sameP_step HI.out hbx hby)
   obtain ⟨ba,oa,rfl,ca⟩:=Rd.atQ rA hx
   obtain ⟨bb,ob,rfl,cb⟩:=Rd.atQ rB hy
   have x0:=cell_keep ca hbr
   have y0:=cell_keep cb hbr
   have f1 : (n : Int) - 1 = (n1 : Int):=by omega
   have f2 : (n1 : Int) - (i : Int) = (ia : Int):=by omega
   have f3 : (m : Int) - 1 = (m1 : Int):=by omega
   have f4 : (m1 : Int) - (i : Int) = (ib : Int):=by omega
   have w1 : IntKind.i64.wrap ((n : Int) - 1) = (n1 : Int):=by rw [f1];exact IntWalk.i64_in _ (by omega)
   have w2 : IntKind.i64.wrap ((n1 : Int) - (i : Int)) = (ia : Int):=by rw [f2];exact IntWalk.i64_in _ (by omega)
   have w3 : IntKind.i64.wrap ((m : Int) - 1) = (m1 : Int):=by rw [f3];exact IntWalk.i64_in _ (by omega)
   have w4 : IntKind.i64.wrap ((m1 : Int) - (i : Int)) = (ib : Int):=by rw [f4];exact IntWalk.i64_in _ (by omega)
   have w5 : IntKind.i64.wrap ((x : Int)+mo) = (x : Int)+mo:=IntWalk.i64_in _ (by omega)
   have hmin : (i : Int) < min (n : Int) (m : Int):=by omega
   have g1 : (0 : Int)≤(ia : Int):=by omega
   have g2 : (ia : Int) < (n : Int):=by omega
   have g3 : (0 : Int)≤(ib : Int):=by omega
   have g4 : (ib : Int) < (m : Int):=by omega
   have g5 : ia < n:=by omega
   have g6 : ib < m:=by omega
   clear hx hy ca cb hbx hby hn1 hm1 hia hib
   by_cases hxy : (x : Int)+mo = (y : Int)
   ·have HS1:=Lib.hid (HS.out.1 (by omega))
    have te : ((x : Int)+mo == (y : Int)) = true:=beq_iff_eq.2 hxy
    clear HS hxy
    go_wp2_with fail
    go_quiet (fail)
    go_wp2
    go_roundw
    case rel=>exact ⟨i+1,by go_num,by omega,by omega,HS1,below_drewN hbr _⟩
    case measure=>simp [intOf];omega
   ·have HS2:=Lib.hid (HS.out.2 (by omega))
    have te : ((x : Int)+mo == (y : Int)) = false:=beq_eq_false_iff_ne.2 hxy
    clear HS hxy
    go_wp2_with fail
    go_quiet (fail)
    go_wp2
    go_ret
    exact ⟨by rw [HS2.out];rfl,below_drewN hbr _⟩
  ·have HS:=Lib.hid (sameP_end HI.out (by rw [backI_len,backI_len,Ha.out,Hb.out];omega))
   obtain ⟨z,hz⟩ : ∃ z,min (n : Int) (m : Int) = z:=⟨_,rfl⟩
   have hmin : ¬ (i : Int) < z:=by omega
   have hminb : decide ((i : Int) < z) = false:=decide_eq_false hmin
   clear hlt
   go_wp2_with fail
   go_quiet (fail)
   go_wp2
   go_ret
   exact ⟨by rw [HS.out];rfl,below_drewN hbr _⟩
end
section
open Go.RowKit Go.Shelf
attribute [local go_sem] Oper.semAt_some
structure EdA (w W : World) (p : Nat) (k : Int) (s1 : ByteArray) (A : Option Addr) (n c : Nat) (T : Int) : Prop where
 bp : Blk W p 118 #[.int .i64 k,.string s1,.slice A n c]
 b6 : Blk W w.heap.size 3 #[.int .i64 T]
 b8 : Blk W (w.heap.size+1) 68 #[.int .i64 0,.int .i64 0,.int .i64 0]
 hg : w.grownBy W (some p)
section
variable {w W W' : World} {p : Nat} {k : Int} {s1 : ByteArray} {A : Option Addr} {n c : Nat} {T : Int}
theorem EdA.below (h : EdA w W p k s1 A n c T) (hb : Below W.heap.size W W') : EdA w W' p k s1 A n c T:=⟨h.bp.below hb,h.b6.below hb,h.b8.below hb,only_below h.hg hb⟩
theorem EdA.set6 (h : EdA w W p k s1 A n c T) (hp : p < w.heap.size) (T' : Int) : EdA w (W.setCell ⟨w.heap.size,0,none⟩ (.int .i64 T')) p k s1 A n c T' :=
 ⟨h.bp.far (by simp only;omega) _,h.b6.set_ 0 (.int .i64 T'),h.b8.far (by simp only;omega) _,only_setCell h.hg (.inr (Nat.le_refl _)) _⟩
theorem EdA.set1 (h : EdA w W p k s1 A n c T) (hp : p < w.heap.size) (s' : ByteArray) : EdA w (W.setCell ⟨p,1,none⟩ (.string s')) p k s' A n c T :=
 ⟨h.bp.set_ 1 (.string s'),h.b6.far (by simp only;omega) _,h.b8.far (by simp only;omega) _,only_setCell h.hg (.inl rfl) _⟩
theorem EdA.set2 (h : EdA w W p k s1 A n c T) (hp : p < w.heap.size) (A' : Option Addr) (n' c' : Nat) : EdA w (W.setCell ⟨p,2,none⟩ (.slice A' n' c')) p k s1 A' n' c' T :=
 ⟨h.bp.set_ 2 (.slice A' n' c'),h.b6.far (by simp only;omega) _,h.b8.far (by simp only;omega) _,only_setCell h.hg (.inl rfl) _⟩
theorem EdA.grown {g : Nat} (h : EdA w W p k s1 A n c T) (hg : W.grownBy W' (some g)) (hgw : w.heap.size+1 < g) (hp : p < w.heap.size) : EdA w W' p k s1 A n c T :=
 ⟨h.bp.grown hg (by intro e;injection e;omega),h.b6.grown hg (by intro e;injection e;omega),h.b8.grown hg (by intro e;injection e;omega),
  ⟨hg.os.trans h.hg.os,hg.tape.trans h.hg.tape,hg.output.trans h.hg.output,Nat.le_trans h.hg.size hg.size,fun i hi hne=>(hg.block i (Nat.lt_of_lt_of_le hi h.hg.size) (by intro e;injection e;omega)).trans (h.hg.block i hi hne)⟩⟩
end
theorem below_edit {w0 w W : World} {p : Nat} (h : Below w0.heap.size w0 w) (hg : w.grownBy W (some p)) (hp : w0.heap.size≤p) : Below w0.heap.size w0 W :=
 h.grown hg h.size (fun k e=>by injection e;omega)
theorem rd_dropN {w : World} {A : Option Addr} {l : List Nat} (h : Rd w 1 A (l.map encN)) (k : Nat) : Rd w 1 (A.map fun x=>x.add k) ((l.drop k).map encN):=fun hn=>by
 have hl : l.map encN ≠ []:=by
  intro e
  rw [List.map_eq_nil_iff] at e
  subst e
  simp at hn
 obtain ⟨b,off,rfl,_⟩:=h hl
 have ea : (⟨b,off,none⟩ : Addr).add k = ⟨b,off+k,none⟩:=by
  unfold Addr.add;split
  ·rename_i hq;subst hq;rfl
  ·rfl
 obtain ⟨b',off',e,hc⟩:=h.dropN k hn
 exact ⟨b',off',by rw [← e,Option.map_some,ea],hc⟩
def vP (z : Nat) (pre : List (Nat × Nat)) : Nat:=(pre.map (·.2)).getLastD z
theorem vP_snoc (z : Nat) (pre : List (Nat × Nat)) (x : Nat × Nat) : vP z (pre++[x]) = x.2:=by unfold vP;simp [List.getLastD_eq_getLast?]
theorem waP_pre (T : Nat) : ∀ (p : List (Nat × Nat)) (r : List Nat) (z : Nat),(∀ x ∈ p,T≤x.2)→waP T (p.map (·.2)++r) z = waP T r (vP z p)
 | [],r,z,_=>rfl
 | x :: p,r,z,h=>by
  rw [List.map_cons,List.cons_append,waP,if_neg (by have:=h x (by simp);omega),waP_pre T p r x.2 (fun y hy=>h y (by simp [hy]))]
  congr 1
  unfold vP
  cases p with
  | nil=>rfl
  | cons y p=>simp [List.getLastD_eq_getLast?,List.getLast?_cons]
def RgI (w10 : World) (gx X z T : Nat) (pre : List (Nat × Nat)) (W : World) : Prop:=(∀ x ∈ pre,T≤x.2)∧(∃ V : Nat,vP z pre = V∧Blk W gx 68 #[.int .i64 (X : Nat),.int .i64 (V : Nat),.int .i64 0])∧w10.grownBy W (some gx)
def RgX (w10 : World) (gx X z T : Nat) (cc : Code) (pre : List (Nat × Nat)) (W : World) : Prop:=cc = .exit 2∧∃ p1 x,pre = p1++[x]∧x.2 < T∧RgI w10 gx X z T p1 W
theorem rgI_own {w10 : World} {gx X z T B : Nat} (hB : w10.heap.size≤B) (hg : gx < B) : OwnFrom B (fun (pre : List (Nat × Nat)) W=>RgI w10 gx X z T pre W):=fun pre W V row hs hgr hr=>by
 obtain ⟨h1,⟨v,hv,hb⟩,h2⟩:=hs
 refine ⟨h1,⟨v,hv,hb.grown hgr (fun e=>by have:=(hr gx e.symm).1;omega)⟩,⟨hgr.os.trans h2.os,hgr.tape.trans h2.tape,hgr.output.trans h2.output,Nat.le_trans h2.size hgr.size,fun k hk hne=>?_⟩⟩
 exact (hgr.block k (Nat.lt_of_lt_of_le hk h2.size) (fun e=>by have:=(hr k e.symm).1;omega)).trans (h2.block k hk hne)
theorem rgX_own {w10 : World} {gx X z T B : Nat} (hB : w10.heap.size≤B) (hg : gx < B) (cc : Code) : OwnFrom B (fun (pre : List (Nat × Nat)) W=>RgX w10 gx X z T cc pre W):=fun pre W V row hs hgr hr=>by
 obtain ⟨h1,p1,x,h2,h3,h4⟩:=hs
 exact ⟨h1,p1,x,h2,h3,rgI_own hB hg p1 W V row h4 hgr hr⟩
theorem res_agEdit (w : World) (b : Nat) (tmps : Array Value) (ht : tmps.getD 8 undef = .pointer (some ⟨b,0,none⟩)) {x y z : Int} (h : Blk w b 68 #[.int .i64 x,.int .i64 y,.int .i64 z]) : (results Tryz.f35 tmps).run Tryz.prog w = .ok (.agg #[.int .i64 x,.int .i64 y,.int .i64 z]) w:=by
 have ht' : tmps[8]?.getD undef = .pointer (some ⟨b,0,none⟩):=by simpa [Array.getD_eq_getD_getElem?] using ht
 have c0:=h.cell 0
 have c1:=h.cell 1
 have c2:=h.cell 2
 simp only [zG,zH,zI] at c0 c1 c2
 simp [results,Tryz.results35,go_sem,ht',c0,c1,c2]
theorem keep_put {W : World} {l g : Nat} {o : Obj} {t : TypeId} {cs : Array Value} (h : Blk W g t cs) (hl : g ≠ l) : Blk (W.putObj l o) g t cs:=(World.putObj_heap_other hl).trans h
theorem ed_fin {w W : World} {p gx Dd b1 : Nat} {k : Int} {C : ByteArray} {A7 : Option Addr} {m c7 : Nat} {T X V Z : Int} {cs : List (List Value)} (hI : EdA w W p k C A7 m c7 T) (hp : p < w.heap.size) (hgx : w.heap.size+1 < gx) (hD : gx < Dd) (hK : W.heap[Dd]? = some (.deferred (some [])))
  (ho : Own W b1 3 1 A7 m c7 cs) (hb1 : w.heap.size+1 < b1) (hA : ∀ a,A7 = some a→a.block < gx) :
  ((((W.setCell ⟨gx,2,none⟩ (.int .i64 Z)).setCell ⟨w.heap.size+1,0,none⟩ (.int .i64 X)).setCell ⟨w.heap.size+1,1,none⟩ (.int .i64 V)).setCell ⟨w.heap.size+1,2,none⟩ (.int .i64 Z)).heap[Dd]? = some (.deferred (some [])) ∧
  Blk (((((W.setCell ⟨gx,2,none⟩ (.int .i64 Z)).setCell ⟨w.heap.size+1,0,none⟩ (.int .i64 X)).setCell ⟨w.heap.size+1,1,none⟩ (.int .i64 V)).setCell ⟨w.heap.size+1,2,none⟩ (.int .i64 Z)).putObj Dd (.deferred none)) (w.heap.size+1) 68 #[.int .i64 X,.int .i64 V,.int .i64 Z] ∧
  w.grownBy (((((W.setCell ⟨gx,2,none⟩ (.int .i64 Z)).setCell ⟨w.heap.size+1,0,none⟩ (.int .i64 X)).setCell ⟨w.heap.size+1,1,none⟩ (.int .i64 V)).setCell ⟨w.heap.size+1,2,none⟩ (.int .i64 Z)).putObj Dd (.deferred none)) (some p) ∧
  Blk (((((W.setCell ⟨gx,2,none⟩ (.int .i64 Z)).setCell ⟨w.heap.size+1,0,none⟩ (.int .i64 X)).setCell ⟨w.heap.size+1,1,none⟩ (.int .i64 V)).setCell ⟨w.heap.size+1,2,none⟩ (.int .i64 Z)).putObj Dd (.deferred none)) p 118 #[.int .i64 k,.string C,.slice A7 m c7] ∧
  Own (((((W.setCell ⟨gx,2,none⟩ (.int .i64 Z)).setCell ⟨w.heap.size+1,0,none⟩ (.int .i64 X)).setCell ⟨w.heap.size+1,1,none⟩ (.int .i64 V)).setCell ⟨w.heap.size+1,2,none⟩ (.int .i64 Z)).putObj Dd (.deferred none)) b1 3 1 A7 m c7 cs:=by
 have e8 : Blk (((W.setCell ⟨gx,2,none⟩ (.int .i64 Z)).setCell ⟨w.heap.size+1,0,none⟩ (.int .i64 X)).setCell ⟨w.heap.size+1,1,none⟩ (.int .i64 V) |>.setCell ⟨w.heap.size+1,2,none⟩ (.int .i64 Z)) (w.heap.size+1) 68 #[.int .i64 X,.int .i64 V,.int .i64 Z]:=by
  have:=(((hI.b8.far (p:=⟨gx,2,none⟩) (by simp only;omega) (.int .i64 Z)).set_ 0 (.int .i64 X)).set_ 1 (.int .i64 V)).set_ 2 (.int .i64 Z)
  simpa using this
 have ep:=(((hI.bp.far (p:=⟨gx,2,none⟩) (by simp only;omega) (.int .i64 Z)).far (p:=⟨w.heap.size+1,0,none⟩) (by simp only;omega) (.int .i64 X)).far (p:=⟨w.heap.size+1,1,none⟩) (by simp only;omega) (.int .i64 V)).far (p:=⟨w.heap.size+1,2,none⟩) (by simp only;omega) (.int .i64 Z)
 have hAb : ∀ a,A7 = some a→b1≤a.block:=fun a ha=>(ho.lt a ha).1
 have eo:=(((ho.setCell (p:=⟨gx,2,none⟩) (fun a ha=>by have:=hA a ha;simp only;omega) (.int .i64 Z)).setCell (p:=⟨w.heap.size+1,0,none⟩) (fun a ha=>by have:=hAb a ha;simp only;omega) (.int .i64 X)).setCell (p:=⟨w.heap.size+1,1,none⟩) (fun a ha=>by have:=hAb a ha;simp only;omega) (.int .i64 V)).setCell (p:=⟨w.heap.size+1,2,none⟩) (fun a ha=>by have:=hAb a ha;simp only;omega) (.int .i64 Z)
 have eg:=only_setCell (only_setCell (only_setCell (only_setCell hI.hg (p:=⟨gx,2,none⟩) (.inr (by simp only;omega)) (.int .i64 Z)) (p:=⟨w.heap.size+1,0,none⟩) (.inr (by simp only;omega)) (.int .i64 X)) (p:=⟨w.heap.size+1,1,none⟩) (.inr (by simp only;omega)) (.int .i64 V)) (p:=⟨w.heap.size+1,2,none⟩) (.inr (by simp only;omega)) (.int .i64 Z)
 have eK : ((((W.setCell ⟨gx,2,none⟩ (.int .i64 Z)).setCell ⟨w.heap.size+1,0,none⟩ (.int .i64 X)).setCell ⟨w.heap.size+1,1,none⟩ (.int .i64 V)).setCell ⟨w.heap.size+1,2,none⟩ (.int .i64 Z)).heap[Dd]? = some (.deferred (some [])) :=
  (Below.heap_setCell _ ⟨w.heap.size+1,2,none⟩ _ Dd (by simp only;omega)).trans ((Below.heap_setCell _ ⟨w.heap.size+1,1,none⟩ _ Dd (by simp only;omega)).trans ((Below.heap_setCell _ ⟨w.heap.size+1,0,none⟩ _ Dd (by simp only;omega)).trans ((Below.heap_setCell _ ⟨gx,2,none⟩ _ Dd (by simp only;omega)).trans hK)))
 generalize ((((W.setCell ⟨gx,2,none⟩ (.int .i64 Z)).setCell ⟨w.heap.size+1,0,none⟩ (.int .i64 X)).setCell ⟨w.heap.size+1,1,none⟩ (.int .i64 V)).setCell ⟨w.heap.size+1,2,none⟩ (.int .i64 Z)) = Wv at e8 ep eo eg eK ⊢
 refine ⟨eK,keep_put e8 (by omega),⟨eg.os,eg.tape,eg.output,by simpa using eg.size,fun i hi hne=>(World.putObj_heap_other (by omega)).trans (eg.block i hi hne)⟩,keep_put ep (by omega),eo.keep fun a ha=>World.putObj_heap_other (by have:=hA a ha;omega)⟩
end
section
open Go.RowKit Go.Shelf
attribute [local go_sem] Oper.semAt_some
theorem agEdit_any (w0 : World) (base p : Nat) (k : Int) (s x : ByteArray) (f t : Int) (w : World) (hE : Env w0) (hb0 : Below w0.heap.size w0 w) (hB : w0.heap.size≤base) (h : DocAt w base p k s (cutZ k s)) (hk : 0≤k∧k≤2) (hs : s.size+x.size≤1000000) :
  Calls Tryz.prog 35 #[.pointer (some ⟨p,0,none⟩),.int .i64 f,.int .i64 t,.string x] w fun e w'=>∃ F V : Nat,F = eFrom (cutZ k s) (cutZ k (chP s f t x)) (chF s f)∧V = eWas (cutZ k s) (cutZ k (chP s f t x)) (((chP s f t x).size : Int) - (s.size : Int)) (chT s f t) s.size ∧
   e = .returned (.agg #[.int .i64 (F : Nat),.int .i64 (V : Nat),.int .i64 ((V : Int)+(((chP s f t x).size : Int) - (s.size : Int)))])∧w.grownBy w' (some p)∧DocAt w' base p k (chP s f t x) (cutZ k (chP s f t x)):=by
 have hp:=h.lt
 obtain ⟨A,c,h1,hbp,h3,hAp⟩:=h
 have hcap:=h3.cap.1
 have hAw : ∀ a,A = some a→a.block < w.heap.size:=fun a ha=>(h3.lt a ha).2
 have HC:=Lib.hid (fun W (h : Env W)=>agcut_any (chP s f t x) k W h (by have:=chP_size s x f t;omega) hk)
 have hZ:=chP_size s x f t
 have HLe:=Lib.hid (cutZ_le k s)
 have HLl:=cutZ_len k s
 have HMl:=cutZ_len k (chP s f t x)
 have HF:=Lib.hid (chF_eq s f)
 have HT:=Lib.hid (chT_eq s f t)
 have h1':=chF_le s f
 obtain ⟨h2',h3'⟩:=chT_le s f t
 have HV : Hid (chP s f t x = s.extract 0 (chF s f)++x++s.extract (chT s f t) s.size):=Lib.hid rfl
 generalize cutZ k (chP s f t x) = M at HC HMl ⊢
 generalize chP s f t x = C at HC hZ HV HMl ⊢
 generalize cutZ k s = L at h1 h3 HLe HLl hcap ⊢
 generalize chF s f = F at h1' h2' HF HT HV ⊢
 generalize chT s f t = T at h2' h3' HT HV ⊢
 replace HF:=HF.out
 replace HT:=HT.out
 have g0 : (0 : Int)≤(F : Int):=by omega
 have g1 : (F : Int)≤(s.size : Int):=by omega
 have g2 : (0 : Int)≤(T : Int):=by omega
 have g3 : (T : Int)≤(s.size : Int):=by omega
 have z1 : ¬ 9223372036854775807 < F+x.size:=by omega
 have z2 : ¬ 9223372036854775807 < F+x.size+(s.size - T):=by omega
 have hI0 : EdA w ((w.alloc (.cells #[.int .i64 t] 3)).alloc (.cells #[.int .i64 0,.int .i64 0,.int .i64 0] 68)) p k s A L.length c t :=
  ⟨(h1.alloc _).alloc _,(Blk.new w 3 #[.int .i64 t]).alloc _,by have:=Blk.new (w.alloc (.cells #[.int .i64 t] 3)) 68 #[.int .i64 0,.int .i64 0,.int .i64 0];simpa using this,only_alloc (only_alloc (only_refl w (some p)) _) _⟩
 obtain ⟨n,hn⟩ : ∃ n,L.length = n:=⟨_,rfl⟩
 rw [hn] at hI0 h3 HLl hcap
 have Hn:=Lib.hid hn
 have rd:=h3.rd (by decide)
 clear hn h1
 refine (callsIn_wide (n:=6)).1 ?_
 refine callsIn_of_wp_marks Tryz.func35 rfl trivial ?_ rfl
 simp only [Tryz.ntmps35,List.size_toArray,List.length_cons,List.length_nil,Nat.reduceAdd,Nat.reduceSub,Array.replicate_succ,Array.replicate_zero,List.push_toArray,List.append_toArray,List.nil_append,List.cons_append]
 refine wpIn_wide.2 ?_
 generalize hQ : bodyPostM _ _ _ _ _ = QQ
 have HQQ:=Lib.hid hQ
 clear hQ
 go_wp2_with fail
 generalize ((w.alloc (.cells #[.int .i64 t] 3)).alloc (.cells #[.int .i64 0,.int .i64 0,.int .i64 0] 68)) = W at hI0 ⊢
 have c1:=hI0.bp.cell 1
 have c2:=hI0.bp.cell 2
 simp only [zG,zH,zI] at c1 c2
 go_step3
 go_wp2_with fail
 go_quiet (fail)
 have hI1:=fun q=>hI0.below (W':=W.drewN q) (below_refl_drewN W q)
 generalize hw1 : W.drewN _ = W1
 replace hI1 : EdA w W1 p k s A n c t:=by rw [← hw1];exact hI1 _
 have c6:=hI1.b6.cell 0
 have f6:=hI1.b6.frozen 0
 simp only [zG,zH] at c6
 clear c1 c2 hI0 hw1
 go_wp2_with fail
 have hI2:=hI1.set6 hp T
 generalize W1.setCell ⟨w.heap.size,0,none⟩ (.int .i64 (T : Int)) = W2 at hI2 ⊢
 have d6:=hI2.b6.cell 0
 have p1:=hI2.bp.cell 1
 have fp1:=hI2.bp.frozen 1
 simp only [zG,zH,zI] at d6 p1
 clear c6 f6 hI1
 refine wp_region_noPanic ?_
 go_region
 all_goals refine NoPanic.normal ?_
 have hI3:=(hI2.set1 hp (s.extract 0 F++x++s.extract T s.size)).below ((Below.refl _ _).drew)
 rw [← HV.out] at hI3 ⊢
 generalize (W2.setCell ⟨p,1,none⟩ (.string C)).drew = W3 at hI3 ⊢
 have hI4:=hI3.below (W':=W3.drew) ((Below.refl _ _).drew)
 have H7:=Lib.hid (HC.out W3.drew (hE.below (below_edit hb0 hI4.hg (by omega))))
 have q0:=hI3.bp.cell 0
 have q1:=hI3.bp.cell 1
 have q2:=hI4.bp.cell 2
 simp only [zG,zH,zI] at q0 q1 q2
 clear d6 p1 fp1 hI2 HF HT z1 z2
 go_wp2_with fail
 refine wp_region_noPanic ?_
 go_region_law (go_simp;go_at_call 65;refine H7.out.mono ?_;rintro e wz ⟨A7,n7,c7,rfl,ho7,hb7⟩;have kz2:=cell_keep q2 hb7;have fz2:=(hI4.below hb7).bp.frozen 2)
 all_goals
  refine NoPanic.normal ?_
  obtain rfl : M.length = n7:=by have:=ho7.len;simpa using this
  have hI5:=(hI4.below hb7).set2 hp A7 M.length c7
  have hzW : w.heap.size+1 < W3.drew.heap.size:=hI4.b8.lt
  have hA7 : ∀ a,A7 = some a→w.heap.size≤a.block:=fun a ha=>by have:=(ho7.lt a ha).1;omega
  have ho5:=ho7.setCell (p:=⟨p,2,none⟩) (fun a ha=>by have:=hA7 a ha;simp only;omega) (.slice A7 M.length c7)
  have rd5 : Rd _ 1 A (L.map encN):=rd_grown rd hI5.hg hAp
  generalize (wz.setCell ⟨p,2,none⟩ (.slice A7 M.length c7)) = W5 at hI5 ho5 rd5 ⊢
  have e1:=hI5.bp.cell 1
  have e2:=hI5.bp.cell 2
  simp only [zG,zH,zI] at e1 e2
  obtain ⟨mo,hmo⟩ : ∃ mo,(C.size : Int) - (s.size : Int) = mo:=⟨_,rfl⟩
  have Hmo:=Lib.hid hmo
  have hmw : IntKind.i64.wrap ((C.size : Int) - (s.size : Int)) = mo:=by rw [hmo];exact IntWalk.i64_in _ (by omega)
  have hmz : -1000000≤mo∧mo≤1000000:=by omega
  clear q0 q1 q2 kz2 fz2 hI3 hI4 hb7 ho7 H7
  go_wp2_with fail
  have hBx:=Blk.new W5 68 #[.int .i64 0,.int .i64 s.size,.int .i64 0]
  have hbx : Below W5.heap.size W5 (W5.alloc (.cells #[.int .i64 0,.int .i64 s.size,.int .i64 0] 68)):=(Below.refl _ _).alloc (Nat.le_refl _) _
  have hI6:=hI5.below hbx
  have ho6:=ho5.below hbx
  have rd6:=rd5.below hbx
  have hgx : w.heap.size+1 < W5.heap.size:=hI5.b8.lt
  have hA7x : ∀ a,A7 = some a→a.block < W5.heap.size:=fun a ha=>(ho5.lt a ha).2
  generalize (W5.alloc (.cells #[.int .i64 0,.int .i64 s.size,.int .i64 0] 68)) = W6 at hBx hI6 ho6 rd6 ⊢
  generalize W5.heap.size = gx at hBx hgx hA7x ⊢
  clear hI5 ho5 rd5 e1 e2 hbx
  refine (agsame_any A A7 n M.length c c7 L M W6 rd6 (ho6.rd (by decide)) Hn.out rfl (by omega) (by omega)).mono ?_
  rintro e w7 ⟨rfl,hb7⟩
  have hI7:=hI6.below hb7
  have ho7:=ho6.below hb7
  have rd7:=rd6.below hb7
  have hB7:=hBx.below hb7
  have hK1:=(sameP_le L M).1
  rw [Hn.out] at hK1
  obtain ⟨K1,HK1⟩ : ∃ K,Hid (sameP L M = K):=⟨_,Lib.hid rfl⟩
  rw [HK1.out] at hK1 ⊢
  have kk1 : (K1 : Int)≤(c : Int):=by omega
  have kk2 : K1≤c:=by omega
  have kk3 : IntKind.i64.wrap (K1 : Int) = (K1 : Int):=IntWalk.i64_in _ (by omega)
  have kk4 : wrap64 (K1 : Int) = (K1 : Int):=IntWalk.wrap64_in _ (by omega)
  clear hI6 ho6 rd6 hBx
  go_wp2_with fail
  clear kk1 kk2 kk3 kk4 hmw
  have hF0 : Hid (frP (L.take 0) F = 0):=Lib.hid (by simp [frP])
  go_loopw [89] (fun v wr=>∃ i X : Nat,v = .int .i64 i∧i≤K1∧Hid (frP (L.take i) F = X)∧Blk wr gx 68 #[.int .i64 (X : Nat),.int .i64 s.size,.int .i64 0]∧w7.grownBy wr (some gx)) (fun v _=>K1 - (intOf v).toNat)
  case atStart=>exact ⟨0,0,rfl,Nat.zero_le _,hF0,hB7,only_refl _ _⟩
  case round =>
   obtain ⟨i,X,rfl,hi,HX,hBr,hgr⟩:=hrel
   have hIr:=hI7.grown hgr hgx hp
   have rdr:=rd_grown rd7 hgr (fun a ha=>by have:=hAw a ha;omega)
   by_cases hlt : i < K1
   ·obtain ⟨y,hy⟩ : ∃ y,L[i]? = some y:=⟨_,List.getElem?_eq_getElem (by have:=Hn.out;omega)⟩
    obtain ⟨ba,oa,rfl,ca⟩:=Rd.atQ rdr hy
    have hsn:=frP_snoc (L.take i) F y
    have htk : L.take (i+1) = L.take i++[y]:=by rw [List.take_add_one,hy];rfl
    rw [← htk] at hsn
    have hltI : (i : Int) < (K1 : Int):=by omega
    have hin : i < n:=by omega
    have fx:=hBr.frozen 0
    have cx:=hBr.cell 0
    simp only [zG,zH] at cx
    clear hy htk
    by_cases hyF : y≤F
    ·have HS : Hid (frP (L.take (i+1)) F = y):=Lib.hid (by rw [hsn,if_pos hyF])
     have hyI : (y : Int)≤(F : Int):=by omega
     have hBs:=hBr.set_ 0 (.int .i64 (y : Int))
     simp only [zD,zE] at hBs
     have hgs:=only_setCell hgr (p:=⟨gx,0,none⟩) (.inl rfl) (.int .i64 (y : Int))
     clear hsn
     go_wp2
     go_roundw
     case rel=>exact ⟨i+1,y,by go_num,by omega,HS,hBs,hgs⟩
     case measure=>simp [intOf];omega
    ·have HS : Hid (frP (L.take (i+1)) F = X):=Lib.hid (by rw [hsn,if_neg hyF];exact HX.out)
     have hyI : ¬ (y : Int)≤(F : Int):=by omega
     clear hsn
     go_wp2
     go_roundw
     case rel=>exact ⟨i+1,X,by go_num,by omega,HS,hBr,hgr⟩
     case measure=>simp [intOf];omega
   ·obtain rfl : i = K1:=by omega
    have ho8:=ho7.grown hgr (fun a ha=>by intro e;injection e with e;have:=hA7x a ha;omega)
    clear hI7 rd7 ho7 hB7 hgr
    go_wp2_with fail
    go_step3
    go_wp2_with fail
    refine (agbeh_any A A7 n M.length c c7 L M mo wr rdr (ho8.rd (by decide)) Hn.out rfl (by omega) (by omega) (fun y hy=>by have:=HLe.out y hy;omega) (by omega)).mono ?_
    rintro e w9 ⟨rfl,hb9⟩
    have hI9:=hIr.below hb9
    have ho9:=ho8.below hb9
    have rd9:=rdr.below hb9
    have hB9:=hBr.below hb9
    have hK2:=(sameP_le (backI mo L) (backI 0 M)).1
    rw [backI_len,Hn.out] at hK2
    obtain ⟨K2,HK2⟩ : ∃ K,Hid (behP L M mo = K):=⟨_,Lib.hid rfl⟩
    rw [show sameP (backI mo L) (backI 0 M) = K2 from HK2.out] at hK2
    rw [HK2.out]
    obtain ⟨D,hD⟩ : ∃ D,D+K2 = n:=⟨n - K2,by omega⟩
    have HD:=Lib.hid hD
    have dd1 : (n : Int) - (K2 : Int) = (D : Int):=by omega
    have dd5 : (D : Int)≤(n : Int):=by omega
    have dd6 : D≤n:=by omega
    have dd7 : (D : Int)≤(c : Int):=by omega
    have dd8 : D≤c:=by omega
    have dd2 : IntKind.i64.wrap ((n : Int) - (K2 : Int)) = (D : Int):=by rw [dd1];exact IntWalk.i64_in _ (by omega)
    have dd3 : IntKind.i64.wrap (D : Int) = (D : Int):=IntWalk.i64_in _ (by omega)
    have dd4 : wrap64 (D : Int) = (D : Int):=IntWalk.wrap64_in _ (by omega)
    clear hIr ho8 rdr hBr
    go_wp2_with fail
    ·clear dd2 dd3 dd4
     have hnD : n≤D:=by omega
     have HR : Hid (Rd w9 1 A ((L.drop D).map encN)):=Lib.hid (by rw [List.drop_eq_nil_of_le (by rw [Hn.out];exact hnD)];exact Rd.nil_ _ _ _)
     have HB : Hid (∀ a : Addr,A = some a→a.block < w.heap.size):=Lib.hid hAw
     refine (lBackI_any A (n - D) 0 w9).mono ?_
     rintro e w10 ⟨rfl,hbk,hb10⟩
     have hI10:=hI9.below hb10
     have ho10:=ho9.below hb10
     have hB10:=hB9.below hb10
     have hR10:=HR.out.below hb10
     have hgb : gx < w9.heap.size:=hB9.lt
     have hbz:=hbk.lt
     have cbs:=hbk.cell 0
     simp only [zG,zH] at cbs
     have hnd : (L.drop D).length = n - D:=by rw [List.length_drop,Hn.out]
     have hlt : ∀ k,(k = w9.heap.size∨∃ a : Addr,A = some a∧k = a.block)→k < w10.heap.size:=by
      rintro k (rfl | ⟨a,ha,rfl⟩)
      ·exact hbz
      ·have:=HB.out a ha;omega
     have hYg : ¬ (gx = w9.heap.size∨∃ a : Addr,A = some a∧gx = a.block):=by
      rintro (h | ⟨a,ha,h⟩)
      ·omega
      ·have:=HB.out a ha;omega
     generalize w9.heap.size = bs at hbk hgb hbz cbs hlt hYg ⊢
     have HQ:=Lib.hid (lBackI_seq 5 (by decide) w10 A (n - D) 0 (L.drop D) bs (fun k=>k = bs∨∃ a : Addr,A = some a∧k = a.block) (.inl rfl) (fun a ha=>.inr ⟨a,ha,rfl⟩) hR10 hnd (by omega) cbs hlt)
     have Hlt:=Lib.hid hlt
     have HYg:=Lib.hid hYg
     have hgx10 : gx < w10.heap.size:=hB10.lt
     clear hI9 ho9 rd9 hB9 hb10 cbs hlt hYg hbk hR10
     go_wp2_with fail
     refine (wpIn_wide (n:=6)).1 ?_
     refine rngH rfl (by decide) (gf:=94) (lb:=#[.pointer (some ⟨bs,0,none⟩)]) rfl trivial (enters_of Tryz.func94 (by kernel_rfl) rfl)
      HQ.out (fun h k=>h.trans k) (fun W l o o' hl _ _ _=>KY.put (w:=w10) Hlt.out W l o' hl) (Below.refl _ _) (fun _=>rfl) (fun W=>KY.refl _ W)
      (fun (pre : List (Nat × Nat)) W=>RgI w10 gx X s.size T pre W) (fun cc pre W=>RgX w10 gx X s.size T cc pre W) (rgI_own (Nat.le_refl _) hgx10) (rgX_own (Nat.le_refl _) hgx10)
      ⟨by simp,⟨s.size,rfl,hB10⟩,only_refl _ _⟩
      (fun U (x : Nat × Nat)=>((U.setIfInBounds 109 (.int .i64 (x.1 : Nat))).setIfInBounds 110 (.int .i64 (x.2 : Nat))).setIfInBounds 17 (.int .i64 (x.2 : Nat))) ?assign ?body ?done ?stop
     case assign =>
      intro l2 x V K hK
      simp only [zD,zF,zE] at hK
      simp only [encBk]
      gi_wp2
      exact hK
     case body =>
      rintro l2 pre ⟨xi,y⟩ Wb hl2 _ hI hlen
      simp only [zD,zF,zE]
      obtain ⟨hall,⟨V,hV,hBW⟩,hgW⟩:=hI
      have Hall:=Lib.hid hall
      have hIW:=hI10.grown hgW hgx hp
      have c6:=hIW.b6.cell 0
      have cx0:=hBW.cell 0
      have cx:=hBW.cell 1
      have fx:=hBW.frozen 1
      simp only [zG,zH,zI] at c6 cx0 cx
      clear hall
      by_cases hyT : y < T
      ·have hyI : (y : Int) < (T : Int):=by omega
       gi_wp2
       exact ⟨KeepsFrom.refl _ _,rfl,pre,(xi,y),rfl,hyT,Hall.out,⟨V,hV,hBW⟩,hgW⟩
      ·have hyI : ¬ (y : Int) < (T : Int):=by omega
       have hBs:=hBW.set_ 1 (.int .i64 (y : Int))
       simp only [zD,zE,zF] at hBs
       clear hZ HMl h1' h2' h3' hi hlt hnd hlen hl2 hzW hK1 hgb hbz hgx10 hgx
       try clear hnD
       gi_wp2
       exact ⟨(KeepsOthers.setCell _ _ _).from _,KY.setCell _ HYg.out _,fun z hz=>by
        rcases List.mem_append.1 hz with h | h
        ·exact Hall.out z h
        ·rw [List.mem_singleton.1 h];simp only;omega,⟨y,vP_snoc _ _ _,hBs⟩,only_setCell hgW (.inl rfl) _⟩
     case done =>
      rintro Dd xs W hDd hxs ⟨hall,⟨V,hV,hBW⟩,hgW⟩ hK
      have HWas : Hid (eWas L M mo T s.size = V):=Lib.hid (by
       unfold eWas
       rw [HK2.out,Hn.out,show n - K2 = D by have:=HD.out;omega,← bkL_snd,← hxs,← hV]
       have:=waP_pre T xs [] s.size hall
       rw [List.append_nil] at this
       exact this)
      have hVz : V≤s.size:=by
       rw [← HWas.out]
       exact eWas_le HLe.out
      have hIW:=hI10.grown hgW hgx hp
      have ho11:=ho10.grown hgW (fun a ha=>by intro e;injection e with e;have:=hA7x a ha;omega)
      have x0:=hBW.cell 0
      have x1:=hBW.cell 1
      have x2:=hBW.cell 2
      have fx2:=hBW.frozen 2
      have r0:=hIW.b8.cell 0
      have r1:=hIW.b8.cell 1
      have r2:=hIW.b8.cell 2
      have fr0:=hIW.b8.frozen 0
      have fr1:=hIW.b8.frozen 1
      have fr2:=hIW.b8.frozen 2
      simp only [zG,zH,zI] at x0 x1 x2 r0 r1 r2
      have hne1 : ¬ gx = w.heap.size+1:=by omega
      have HFin:=Lib.hid (ed_fin (X:=(X : Int)) (V:=(V : Int)) (Z:=(V : Int)+mo) hIW hp hgx (Nat.lt_of_lt_of_le hgx10 hDd) hK ho11 hzW hA7x)
      have HApp : Hid (∀ a : Addr,A7 = some a→a.block ≠ p):=Lib.hid (fun a ha e=>by have:=(ho11.lt a ha).1;omega)
      have Hzb : Hid (base≤W3.drew.heap.size):=Lib.hid (by omega)
      have hvm : IntKind.i64.wrap ((V : Int)+mo) = (V : Int)+mo:=IntWalk.i64_in _ (by omega)
      have HFr : Hid ((X : Nat) = eFrom L M F):=Lib.hid (by unfold eFrom;rw [HK1.out];exact HX.out.symm)
      clear hZ HMl h1' h2' h3' hi hlt hnd hzW hK1 hgb hbz hgx10 hgx hDd hVz hK hp
      try clear hnD
      go_wp2_with fail
      obtain ⟨f1,f2,f3,f4,f5⟩:=HFin.out
      show QQ Exit.ret _ _
      rw [← HQQ.out]
      refine ⟨by simp,.inl ⟨_,_,rfl,run_takeDeferred f1,?_⟩⟩
      exact ⟨_,res_agEdit _ (w.heap.size+1) _ rfl f2,X,V,HFr.out,by rw [Hmo.out];exact HWas.out.symm,by rw [Hmo.out],f3,A7,c7,f4,hbp,f5.more Hzb.out,HApp.out⟩
     case stop =>
      rintro Dd cc pre W hDd hpre ⟨rfl,p1,⟨xi,y⟩,rfl,hyT,hall,⟨V,hV,hBW⟩,hgW⟩ hK
      have HWas : Hid (eWas L M mo T s.size = V):=Lib.hid (by
       unfold eWas
       obtain ⟨q,hq⟩:=hpre
       rw [HK2.out,Hn.out,show n - K2 = D by have:=HD.out;omega,← bkL_snd,← hq,← hV,List.map_append,List.map_append,List.append_assoc,waP_pre T p1 _ s.size hall]
       show waP T (y :: _) _ = _
       rw [waP,if_pos hyT])
      have hVz : V≤s.size:=by
       rw [← HWas.out]
       exact eWas_le HLe.out
      refine wpIn_wide.2 ?_
      have hIW:=hI10.grown hgW hgx hp
      have ho11:=ho10.grown hgW (fun a ha=>by intro e;injection e with e;have:=hA7x a ha;omega)
      have x0:=hBW.cell 0
      have x1:=hBW.cell 1
      have x2:=hBW.cell 2
      have fx2:=hBW.frozen 2
      have r0:=hIW.b8.cell 0
      have r1:=hIW.b8.cell 1
      have r2:=hIW.b8.cell 2
      have fr0:=hIW.b8.frozen 0
      have fr1:=hIW.b8.frozen 1
      have fr2:=hIW.b8.frozen 2
      simp only [zG,zH,zI] at x0 x1 x2 r0 r1 r2
      have hne1 : ¬ gx = w.heap.size+1:=by omega
      have HFin:=Lib.hid (ed_fin (X:=(X : Int)) (V:=(V : Int)) (Z:=(V : Int)+mo) hIW hp hgx (Nat.lt_of_lt_of_le hgx10 hDd) hK ho11 hzW hA7x)
      have HApp : Hid (∀ a : Addr,A7 = some a→a.block ≠ p):=Lib.hid (fun a ha e=>by have:=(ho11.lt a ha).1;omega)
      have Hzb : Hid (base≤W3.drew.heap.size):=Lib.hid (by omega)
      have hvm : IntKind.i64.wrap ((V : Int)+mo) = (V : Int)+mo:=IntWalk.i64_in _ (by omega)
      have HFr : Hid ((X : Nat) = eFrom L M F):=Lib.hid (by unfold eFrom;rw [HK1.out];exact HX.out.symm)
      clear hZ HMl h1' h2' h3' hi hlt hnd hzW hK1 hgb hbz hgx10 hgx hDd hVz hK hp
      try clear hnD
      go_wp2_with fail
      obtain ⟨f1,f2,f3,f4,f5⟩:=HFin.out
      show QQ Exit.ret _ _
      rw [← HQQ.out]
      refine ⟨by simp,.inl ⟨_,_,rfl,run_takeDeferred f1,?_⟩⟩
      exact ⟨_,res_agEdit _ (w.heap.size+1) _ rfl f2,X,V,HFr.out,by rw [Hmo.out];exact HWas.out.symm,by rw [Hmo.out],f3,A7,c7,f4,hbp,f5.more Hzb.out,HApp.out⟩
    ·have HR : Hid (Rd w9 1 (Option.map (fun x=>x.add D) A) ((L.drop D).map encN)):=Lib.hid (rd_dropN rd9 D)
     have HB : Hid (∀ a : Addr,Option.map (fun x=>x.add D) A = some a→a.block < w.heap.size):=Lib.hid (fun a ha=>by
      obtain ⟨b,hb,rfl⟩:=Option.map_eq_some_iff.1 ha
      have:=hAw b hb
      rw [show (b.add D).block = b.block by unfold Addr.add;split <;> rfl];exact this)
     clear dd2 dd3 dd4
     generalize (Option.map (fun x=>x.add D) A) = B at HR HB ⊢
     refine (lBackI_any B (n - D) (c - D) w9).mono ?_
     rintro e w10 ⟨rfl,hbk,hb10⟩
     have hI10:=hI9.below hb10
     have ho10:=ho9.below hb10
     have hB10:=hB9.below hb10
     have hR10:=HR.out.below hb10
     have hgb : gx < w9.heap.size:=hB9.lt
     have hbz:=hbk.lt
     have cbs:=hbk.cell 0
     simp only [zG,zH] at cbs
     have hnd : (L.drop D).length = n - D:=by rw [List.length_drop,Hn.out]
     have hlt : ∀ k,(k = w9.heap.size∨∃ a : Addr,B = some a∧k = a.block)→k < w10.heap.size:=by
      rintro k (rfl | ⟨a,ha,rfl⟩)
      ·exact hbz
      ·have:=HB.out a ha;omega
     have hYg : ¬ (gx = w9.heap.size∨∃ a : Addr,B = some a∧gx = a.block):=by
      rintro (h | ⟨a,ha,h⟩)
      ·omega
      ·have:=HB.out a ha;omega
     generalize w9.heap.size = bs at hbk hgb hbz cbs hlt hYg ⊢
     have HQ:=Lib.hid (lBackI_seq 5 (by decide) w10 B (n - D) (c - D) (L.drop D) bs (fun k=>k = bs∨∃ a : Addr,B = some a∧k = a.block) (.inl rfl) (fun a ha=>.inr ⟨a,ha,rfl⟩) hR10 hnd (by omega) cbs hlt)
     have Hlt:=Lib.hid hlt
     have HYg:=Lib.hid hYg
     have hgx10 : gx < w10.heap.size:=hB10.lt
     clear hI9 ho9 rd9 hB9 hb10 cbs hlt hYg hbk hR10
     go_wp2_with fail
     refine (wpIn_wide (n:=6)).1 ?_
     refine rngH rfl (by decide) (gf:=94) (lb:=#[.pointer (some ⟨bs,0,none⟩)]) rfl trivial (enters_of Tryz.func94 (by kernel_rfl) rfl)
      HQ.out (fun h k=>h.trans k) (fun W l o o' hl _ _ _=>KY.put (w:=w10) Hlt.out W l o' hl) (Below.refl _ _) (fun _=>rfl) (fun W=>KY.refl _ W)
      (fun (pre : List (Nat × Nat)) W=>RgI w10 gx X s.size T pre W) (fun cc pre W=>RgX w10 gx X s.size T cc pre W) (rgI_own (Nat.le_refl _) hgx10) (rgX_own (Nat.le_refl _) hgx10)
      ⟨by simp,⟨s.size,rfl,hB10⟩,only_refl _ _⟩
      (fun U (x : Nat × Nat)=>((U.setIfInBounds 109 (.int .i64 (x.1 : Nat))).setIfInBounds 110 (.int .i64 (x.2 : Nat))).setIfInBounds 17 (.int .i64 (x.2 : Nat))) ?assign ?body ?done ?stop
     case assign =>
      intro l2 x V K hK
      simp only [zD,zF,zE] at hK
      simp only [encBk]
      gi_wp2
      exact hK
     case body =>
      rintro l2 pre ⟨xi,y⟩ Wb hl2 _ hI hlen
      simp only [zD,zF,zE]
      obtain ⟨hall,⟨V,hV,hBW⟩,hgW⟩:=hI
      have Hall:=Lib.hid hall
      have hIW:=hI10.grown hgW hgx hp
      have c6:=hIW.b6.cell 0
      have cx0:=hBW.cell 0
      have cx:=hBW.cell 1
      have fx:=hBW.frozen 1
      simp only [zG,zH,zI] at c6 cx0 cx
      clear hall
      by_cases hyT : y < T
      ·have hyI : (y : Int) < (T : Int):=by omega
       gi_wp2
       exact ⟨KeepsFrom.refl _ _,rfl,pre,(xi,y),rfl,hyT,Hall.out,⟨V,hV,hBW⟩,hgW⟩
      ·have hyI : ¬ (y : Int) < (T : Int):=by omega
       have hBs:=hBW.set_ 1 (.int .i64 (y : Int))
       simp only [zD,zE,zF] at hBs
       clear hZ HMl h1' h2' h3' hi hlt hnd hlen hl2 hzW hK1 hgb hbz hgx10 hgx
       try clear hnD
       gi_wp2
       exact ⟨(KeepsOthers.setCell _ _ _).from _,KY.setCell _ HYg.out _,fun z hz=>by
        rcases List.mem_append.1 hz with h | h
        ·exact Hall.out z h
        ·rw [List.mem_singleton.1 h];simp only;omega,⟨y,vP_snoc _ _ _,hBs⟩,only_setCell hgW (.inl rfl) _⟩
     case done =>
      rintro Dd xs W hDd hxs ⟨hall,⟨V,hV,hBW⟩,hgW⟩ hK
      have HWas : Hid (eWas L M mo T s.size = V):=Lib.hid (by
       unfold eWas
       rw [HK2.out,Hn.out,show n - K2 = D by have:=HD.out;omega,← bkL_snd,← hxs,← hV]
       have:=waP_pre T xs [] s.size hall
       rw [List.append_nil] at this
       exact this)
      have hVz : V≤s.size:=by
       rw [← HWas.out]
       exact eWas_le HLe.out
      have hIW:=hI10.grown hgW hgx hp
      have ho11:=ho10.grown hgW (fun a ha=>by intro e;injection e with e;have:=hA7x a ha;omega)
      have x0:=hBW.cell 0
      have x1:=hBW.cell 1
      have x2:=hBW.cell 2
      have fx2:=hBW.frozen 2
      have r0:=hIW.b8.cell 0
      have r1:=hIW.b8.cell 1
      have r2:=hIW.b8.cell 2
      have fr0:=hIW.b8.frozen 0
      have fr1:=hIW.b8.frozen 1
      have fr2:=hIW.b8.frozen 2
      simp only [zG,zH,zI] at x0 x1 x2 r0 r1 r2
      have hne1 : ¬ gx = w.heap.size+1:=by omega
      have HFin:=Lib.hid (ed_fin (X:=(X : Int)) (V:=(V : Int)) (Z:=(V : Int)+mo) hIW hp hgx (Nat.lt_of_lt_of_le hgx10 hDd) hK ho11 hzW hA7x)
      have HApp : Hid (∀ a : Addr,A7 = some a→a.block ≠ p):=Lib.hid (fun a ha e=>by have:=(ho11.lt a ha).1;omega)
      have Hzb : Hid (base≤W3.drew.heap.size):=Lib.hid (by omega)
      have hvm : IntKind.i64.wrap ((V : Int)+mo) = (V : Int)+mo:=IntWalk.i64_in _ (by omega)
      have HFr : Hid ((X : Nat) = eFrom L M F):=Lib.hid (by unfold eFrom;rw [HK1.out];exact HX.out.symm)
      clear hZ HMl h1' h2' h3' hi hlt hnd hzW hK1 hgb hbz hgx10 hgx hDd hVz hK hp
      try clear hnD
      go_wp2_with fail
      obtain ⟨f1,f2,f3,f4,f5⟩:=HFin.out
      show QQ Exit.ret _ _
      rw [← HQQ.out]
      refine ⟨by simp,.inl ⟨_,_,rfl,run_takeDeferred f1,?_⟩⟩
      exact ⟨_,res_agEdit _ (w.heap.size+1) _ rfl f2,X,V,HFr.out,by rw [Hmo.out];exact HWas.out.symm,by rw [Hmo.out],f3,A7,c7,f4,hbp,f5.more Hzb.out,HApp.out⟩
     case stop =>
      rintro Dd cc pre W hDd hpre ⟨rfl,p1,⟨xi,y⟩,rfl,hyT,hall,⟨V,hV,hBW⟩,hgW⟩ hK
      have HWas : Hid (eWas L M mo T s.size = V):=Lib.hid (by
       unfold eWas
       obtain ⟨q,hq⟩:=hpre
       rw [HK2.out,Hn.out,show n - K2 = D by have:=HD.out;omega,← bkL_snd,← hq,← hV,List.map_append,List.map_append,List.append_assoc,waP_pre T p1 _ s.size hall]
       show waP T (y :: _) _ = _
       rw [waP,if_pos hyT])
      have hVz : V≤s.size:=by
       rw [← HWas.out]
       exact eWas_le HLe.out
      refine wpIn_wide.2 ?_
      have hIW:=hI10.grown hgW hgx hp
      have ho11:=ho10.grown hgW (fun a ha=>by intro e;injection e with e;have:=hA7x a ha;omega)
      have x0:=hBW.cell 0
      have x1:=hBW.cell 1
      have x2:=hBW.cell 2
      have fx2:=hBW.frozen 2
      have r0:=hIW.b8.cell 0
      have r1:=hIW.b8.cell 1
      have r2:=hIW.b8.cell 2
      have fr0:=hIW.b8.frozen 0
      have fr1:=hIW.b8.frozen 1
      have fr2:=hIW.b8.frozen 2
      simp only [zG,zH,zI] at x0 x1 x2 r0 r1 r2
      have hne1 : ¬ gx = w.heap.size+1:=by omega
      have HFin:=Lib.hid (ed_fin (X:=(X : Int)) (V:=(V : Int)) (Z:=(V : Int)+mo) hIW hp hgx (Nat.lt_of_lt_of_le hgx10 hDd) hK ho11 hzW hA7x)
      have HApp : Hid (∀ a : Addr,A7 = some a→a.block ≠ p):=Lib.hid (fun a ha e=>by have:=(ho11.lt a ha).1;omega)
      have Hzb : Hid (base≤W3.drew.heap.size):=Lib.hid (by omega)
      have hvm : IntKind.i64.wrap ((V : Int)+mo) = (V : Int)+mo:=IntWalk.i64_in _ (by omega)
      have HFr : Hid ((X : Nat) = eFrom L M F):=Lib.hid (by unfold eFrom;rw [HK1.out];exact HX.out.symm)
      clear hZ HMl h1' h2' h3' hi hlt hnd hzW hK1 hgb hbz hgx10 hgx hDd hVz hK hp
      try clear hnD
      go_wp2_with fail
      obtain ⟨f1,f2,f3,f4,f5⟩:=HFin.out
      show QQ Exit.ret _ _
      rw [← HQQ.out]
      refine ⟨by simp,.inl ⟨_,_,rfl,run_takeDeferred f1,?_⟩⟩
      exact ⟨_,res_agEdit _ (w.heap.size+1) _ rfl f2,X,V,HFr.out,by rw [Hmo.out];exact HWas.out.symm,by rw [Hmo.out],f3,A7,c7,f4,hbp,f5.more Hzb.out,HApp.out⟩
end
section
open Go.RowKit
def abcT : ByteArray:=⟨#[97,98,99]⟩
def accT : ByteArray:=⟨#[204,129]⟩
def abxT : ByteArray:=⟨#[97,98,204,129,99]⟩
theorem live_cut : cutZ 0 abcT = [0,1,2,3]:=by kernel_rfl
theorem live_ch : chP abcT 2 2 accT = abxT:=by kernel_rfl
theorem live_cut2 : cutZ 0 abxT = [0,1,4,5]:=by kernel_rfl
theorem live_from : eFrom [0,1,2,3] [0,1,4,5] (chF abcT 2) = 1:=by kernel_rfl
theorem live_was : eWas [0,1,2,3] [0,1,4,5] ((abxT.size : Int) - (abcT.size : Int)) (chT abcT 2 2) abcT.size = 2:=by kernel_rfl
theorem liveEdit (w W : World) (p : Nat) (hE : Env w) (hb : Below w.heap.size w W) (h : DocAt W w.heap.size p 0 abcT [0,1,2,3]) :
  Calls Tryz.prog 35 #[.pointer (some ⟨p,0,none⟩),.int .i64 2,.int .i64 2,.string accT] W fun e w'=>e = .returned (.agg #[.int .i64 1,.int .i64 2,.int .i64 4])∧W.grownBy w' (some p)∧DocAt w' w.heap.size p 0 abxT [0,1,4,5]:=by
 have h' : DocAt W w.heap.size p 0 abcT (cutZ 0 abcT):=by rw [live_cut];exact h
 refine (agEdit_any w w.heap.size p 0 abcT accT 2 2 W hE hb (Nat.le_refl _) h' (by omega) (by decide)).mono ?_
 rintro e w' ⟨F,V,hF,hV,rfl,hg,hd⟩
 rw [live_ch,live_cut,live_cut2] at hF hV
 rw [live_ch,live_cut2] at hd
 rw [live_from] at hF
 rw [live_was] at hV
 subst hF hV
 exact ⟨by rw [live_ch];rfl,hg,hd⟩
theorem agnum_any (x : Int) (w : World) : Calls Tryz.prog 33 #[.int .i64 x] w fun e w'=>e = .returned (.int .i64 x)∧w = w':=by
 go_enter Tryz.func33,Tryz.ntmps33
 go_wp2
 go_ret
 exact ⟨rfl,rfl⟩
theorem DocAt.pge {w : World} {base p : Nat} {k : Int} {s : ByteArray} {l : List Nat} (h : DocAt w base p k s l) : base≤p:=let ⟨_,_,_,h2,_⟩:=h;h2
theorem aglive_any (w : World) (hE : Env w) : Calls Tryz.prog 30 #[] w fun e w'=>e = .returned (.bool true)∧Below w.heap.size w w':=by
 have H1:=Lib.hid (agNew_any abcT 0 w hE (by decide) (by omega))
 rw [live_cut] at H1
 have H2:=Lib.hid (fun W p hb h=>liveEdit w W p hE hb h)
 have H3:=Lib.hid (fun W p (h : DocAt W w.heap.size p 0 abxT [0,1,4,5])=>agText_any w.heap.size p 0 abxT [0,1,4,5] W h)
 have H4:=Lib.hid (fun W p (h : DocAt W w.heap.size p 0 abxT [0,1,4,5])=>agBounds_any w.heap.size p 0 abxT [0,1,4,5] W h (by decide))
 have H5:=Lib.hid (fun W p (h : DocAt W w.heap.size p 0 abxT [0,1,4,5])=>agCount_any w.heap.size p 0 abxT [0,1,4,5] W h (by decide))
 have HN:=Lib.hid (fun W=>agnum_any 0 W)
 replace H1:=H1.out
 replace H2:=H2.out
 replace H3:=H3.out
 unfold abcT at H1
 unfold accT at H2
 unfold abxT at H3
 have H1:=Lib.hid H1
 have H2:=Lib.hid H2
 have H3:=Lib.hid H3
 go_enter Tryz.func30,Tryz.ntmps30
 go_wp2_with fail
 refine H1.out.mono ?_
 rintro e w1 ⟨p,rfl,hd1,hb1⟩
 go_wp2_with fail
 refine (HN.out w1).mono ?_
 rintro e wn ⟨rfl,rfl⟩
 go_wp2_with fail
 refine (H2.out w1 p hb1 hd1).mono ?_
 rintro e w2 ⟨rfl,hg2,hd2⟩
 have hB2 : Below w.heap.size w w2:=hb1.grown hg2 hb1.size (fun k e=>by injection e with e;have:=hd1.pge;omega)
 have hd3:=hd2.below (w':=w2.alloc (.cells #[.int .i64 1,.int .i64 2,.int .i64 4] 68)) ((Below.refl _ _).alloc (Nat.le_refl _) _)
 have hB3:=hB2.alloc hB2.size (.cells #[.int .i64 1,.int .i64 2,.int .i64 4] 68)
 have hz3:=hB3.size
 clear hd1 hb1 hg2 hd2 hB2
 go_wp2_with fail
 generalize w2.alloc (.cells #[.int .i64 1,.int .i64 2,.int .i64 4] 68) = w3 at hd3 hB3 hz3 ⊢
 refine (H3.out w3 p hd3).mono ?_
 rintro e w4 ⟨rfl,rfl⟩
 go_wp2_with fail
 refine (H4.out w3 p hd3).mono ?_
 rintro e w4 ⟨A,c,rfl,ho,hb4⟩
 have hd4:=hd3.below hb4
 have hB4:=below_step hB3 hb4 hz3
 have hb5 : Below w4.heap.size w4 (w4.alloc (.cells #[.int .i64 0,.int .i64 1,.int .i64 4,.int .i64 5] 3)):=(Below.refl _ _).alloc (Nat.le_refl _) _
 have hd5:=hd4.below hb5
 have hB5:=below_step hB4 hb5 hB4.size
 have ho5:=ho.below hb5
 have hr:=Rd.manyQ w4 3 1 ([(0 : Nat),1,4,5].map encN) #[.int .i64 0,.int .i64 1,.int .i64 4,.int .i64 5] rfl (by intro x hx;obtain ⟨y,_,rfl⟩:=List.mem_map.1 hx;rfl)
 have HY:=Lib.hid (zPlaces_same A (some ⟨w4.heap.size,0,none⟩) 4 c 4 [0,1,4,5] _ (ho5.rd (by decide)) hr rfl (by omega))
 clear hr ho ho5 hd3 hB3 hb4 hd4 hB4 hb5
 go_wp2_with fail
 refine HY.out.mono ?_
 rintro e w6 ⟨rfl,hb6⟩
 have hB6:=below_step hB5 hb6 hB5.size
 have hd6:=hd5.below hb6
 go_wp2_with fail
 refine (H5.out _ p hd6).mono ?_
 rintro e w7 ⟨rfl,hb7⟩
 have hB7:=below_step hB6 hb7 hB6.size
 go_wp2
 go_ret
 exact ⟨rfl,hB7⟩
theorem aAgainNames_any (w : World) (hE : Env w) : Calls Tryz.prog 8 #[] w fun e w'=>e = .returned (.bool true)∧Below w.heap.size w w':=by
 have HL:=Lib.hid (aglive_any w hE)
 go_enter Tryz.func8,Tryz.ntmps8
 go_wp2_with fail
 refine HL.out.mono ?_
 rintro e w1 ⟨rfl,hb⟩
 go_wp2
 go_ret
 exact ⟨rfl,hb⟩
end
end Go.Proofs.YtlfpdpbbkjnapaaGreatDoor
