/-
 Several texts in one,in their build order: RefB,RefC,RefD,RefT,Bld,Grow,Upper,Repeat,Spell,Join,PrintS.
-/
import Derived.Lib.OthersKept
import Derived.Deep.DeepMust
import Derived.Shelf.Strings.BuilderK
import Derived.RangeFuncOwn
import Derived.Lib.Builder
import Derived.Lib.FrozenHead2
import Derived.Lib.AppendStr
import Derived.Lib.BufferRead
import Derived.Test.YtglmcknlnoknoaaGreatDoorVRefA
import Derived.Test.YtglmcknlnoknoaaGreatDoorV0a
import Derived.Test.YtglmcknlnoknoaaGreatDoorVShelf
import Derived.Test.YtglmcknlnoknoaaGreatDoorV0b
/- -/
namespace Go.Proofs.YtglmcknlnoknoaaGreatDoor
set_option maxRecDepth 100000
set_option maxHeartbeats 40000000
section
open Go.RowKit
theorem sHas_any (A : Option Addr) (n c : Nat) (l : List (Int × Int)) (r : Int) (w : World) (hA : Rd w 2 A (l.map encR)) (hl : l.length = n) (hn : n ≤ 4000000) :
    Calls Tryz.prog 177 #[.slice A n c, .int .i32 r] w fun e w' => e = .returned (.bool (hasB l r)) ∧ w = w' := by
  have Hl := Lib.hid hl
  clear hl
  by_cases h0 : 0 ≤ r ∧ r ≤ 1114111
  · obtain ⟨h0, h1⟩ := h0
    go_enter Tryz.func177, Tryz.ntmps177
    go_wp2
    go_loop [5] (fun i => ∃ k : Nat, k ≤ n ∧ i = .int .i64 k ∧ Hid (∀ x ∈ l.take k, ¬ (x.1 ≤ r ∧ r ≤ x.2))) (fun i => n - (intOf i).toNat)
    case atStart => exact ⟨0, by omega, rfl, by simp [Hid]⟩
    case round =>
      obtain ⟨k, hk, rfl, HE⟩ := hrel
      by_cases hlt : k < n
      · obtain ⟨b, off, lo, hi, rfl, Hx, hx1, hx2⟩ := hA.atR (k := k) (by have := Hl.out; omega)
        by_cases hlo : lo ≤ r <;> by_cases hhi : r ≤ hi
        · have HT : Hid (hasB l r = true) := hasB_true ⟨h0, h1, (lo, hi), List.mem_of_getElem? Hx.out, hlo, hhi⟩
          go_wp2
          go_ret
          exact ⟨ret_bool HT.out.symm, rfl⟩
        all_goals
          have HE' : Hid (∀ x ∈ l.take (k + 1), ¬ (x.1 ≤ r ∧ r ≤ x.2)) := Lib.hid (fun x hx => by
            rw [List.take_add_one, Hx.out] at hx
            rcases List.mem_append.1 hx with hx | hx
            · exact HE.out x hx
            · simp at hx; subst hx; simp only; omega)
          go_wp2
          go_round
          case rel => exact ⟨k + 1, by omega, by go_num, HE'⟩
          case measure => simp [intOf]; omega
      · have HF : Hid (hasB l r = false) := hasB_false (fun ⟨_, _, x, hx, h⟩ => HE.out x (by rw [List.take_of_length_le (by have := Hl.out; omega)]; exact hx) h)
        go_wp2
        go_ret
        exact ⟨ret_bool HF.out.symm, rfl⟩
  · have HF : Hid (hasB l r = false) := hasB_false (fun h => h0 ⟨h.1, h.2.1⟩)
    by_cases h1 : 0 ≤ r
    all_goals
      go_enter Tryz.func177, Tryz.ntmps177
      go_wp2
      go_loop [5] (fun i => ∃ k : Nat, k ≤ n ∧ i = .int .i64 k) (fun i => n - (intOf i).toNat)
      case atStart => exact ⟨0, by omega, rfl⟩
      case round =>
        obtain ⟨k, hk, rfl⟩ := hrel
        by_cases hlt : k < n
        · have h2 : ¬ r ≤ 1114111 ∨ ¬ 0 ≤ r := by omega
          first
            | (have h3 : 1114111 < r := by omega
               clear h2 h0
               go_wp2
               go_round
               case rel => exact ⟨k + 1, by omega, by go_num⟩
               case measure => simp [intOf]; omega)
            | (have h3 : r < 0 := by omega
               clear h2 h0
               go_wp2
               go_round
               case rel => exact ⟨k + 1, by omega, by go_num⟩
               case measure => simp [intOf]; omega)
        · clear h0
          go_wp2
          go_ret
          exact ⟨ret_bool HF.out.symm, rfl⟩
theorem sOr_any (A A2 : Option Addr) (n c n2 c2 : Nat) (a b : List (Int × Int)) (w : World) (hA : Rd w 2 A (a.map encR)) (hB : Rd w 2 A2 (b.map encR)) (ha : a.length = n) (hb : b.length = n2) (hn : n+n2≤4000000) :
  Calls Tryz.prog 236 #[.slice A n c,.slice A2 n2 c2] w fun e w'=>∃ A' n' c',e = .returned (.slice A' n' c')∧Own w' w.heap.size 248 2 A' n' c' ((orR a b).map encR)∧Below w.heap.size w w':=by
 obtain ⟨i0,hi0,hz0,hz1,hz2⟩:=info_parts infoR
 have Ha:=Lib.hid ha
 have Hb:=Lib.hid hb
 clear ha hb
 go_enter Tryz.func236,Tryz.ntmps236
 go_wp2_with (first
  | (at_builtin;refine wpList_app rfl (.tmp 5) (.tmp 6) _ rfl w.heap.size 248 i0 _ 2 8 Tryz.underlying218 hi0 hz0 hz1 hz2 rfl (by omega) (some ⟨w.heap.size,0,none⟩) 0 0 [] rfl (Own.lit w _ _ _ (Nat.le_refl _)) A n c (a.map encR) rfl (by simpa using Ha.out) (hA.alloc _) (encR_ok a) (by unfold maxLen;omega) (by omega) (by simp) ?_;intro A3 c3 w3 ho3' hg3 _;have ho3 : Own w3 w.heap.size 248 2 A3 n c3 (a.map encR):=(by simpa using ho3');clear ho3';have hb3:=below_app ((Below.refl _ w).alloc (Nat.le_refl _) (.cells #[] 248)) hg3 (by simp) (fun a ha=>by cases ha;exact Nat.le_refl _);clear hg3)
  | (at_builtin;refine wpList_app rfl (.tmp 7) (.tmp 8) _ rfl w.heap.size 248 i0 _ 2 8 Tryz.underlying218 hi0 hz0 hz1 hz2 rfl (by omega) A3 n c3 (a.map encR) rfl ho3 A2 n2 c2 (b.map encR) rfl (by simpa using Hb.out) (hB.below hb3) (encR_ok b) (by unfold maxLen;omega) (by omega) hb3.size ?_;intro A4 c4 w4 ho4 hg4 _;have hb4:=below_app hb3 hg4 hb3.size (fun a ha=>(ho3.lt a ha).1);clear hg4)
  | (go_at_call 280;refine (sNorm_any A4 (n+n2) c4 (a++b) _ (by simpa using ho4.rd (by omega)) (by simp;have:=Ha.out;have:=Hb.out;omega) (by omega)).mono ?_;rintro e w5 ⟨A5,n5,c5,rfl,ho5,hb5⟩))
 go_ret
 exact ⟨_,_,_,rfl,ho5.more hb4.size,below_step hb4 hb5 hb4.size⟩
end
section
open Go.RowKit
theorem own_nf_len {w : World} {base : Nat} {e : TypeId} {A : Option Addr} {n c : Nat} {l : List (Int × Int)} (h : Own w base e 2 A n c (l.map encR)) (hl : NF l) : n≤557056:=by
 have:=h.len;simp at this;have:=hl.len;omega
theorem sNot_any (A : Option Addr) (n c : Nat) (l : List (Int × Int)) (w : World) (hA : Rd w 2 A (l.map encR)) (hl : l.length = n) (hn : n≤4000000) :
  Calls Tryz.prog 237 #[.slice A n c] w fun e w'=>∃ A' n' c',e = .returned (.slice A' n' c')∧Own w' w.heap.size 248 2 A' n' c' ((notR l).map encR)∧Below w.heap.size w w':=by
 obtain ⟨i0,hi0,hz0,hz1,hz2⟩:=info_parts infoR
 have Hl:=Lib.hid hl
 clear hl
 have HNF:=Lib.hid (normR_NF l)
 go_enter Tryz.func237,Tryz.ntmps237
 go_wp2_with (go_at_call 280;go_must (refine (sNorm_any A n c l _ hA Hl.out hn).mono ?_);rintro e w1 ⟨A1,n1,c1,rfl,ho1,hb1⟩)
 have hn1:=own_nf_len ho1 HNF.out
 have hrd:=ho1.rd (by omega)
 have Hn1 : Hid ((normR l).length = n1):=Lib.hid (by simpa using ho1.len)
 have hbs1:=hb1.size
 clear ho1
 go_loopw [4,5,6] (fun v x i wr=>∃ (k : Nat) (A2 : Option Addr) (n2 c2 : Nat) (o : List (Int × Int)) (next : Int),k≤n1∧n2≤k∧v = .slice A2 n2 c2∧x = .int .i32 next∧i = .int .i64 k∧0≤next∧next≤1114112 ∧
   Own wr w1.heap.size 248 2 A2 n2 c2 (o.map encR)∧Hid (o++notGo next ((normR l).drop k) = notR l)∧Below w1.heap.size w1 wr) (fun _ _ i _=>n1 - (intOf i).toNat)
 case atStart=>exact ⟨0,none,0,0,[],0,by omega,by omega,rfl,rfl,rfl,by omega,by omega,Own.nil_ _ _ _ _,rfl,Below.refl _ _⟩
 case round =>
  obtain ⟨k,A2,n2,c2,o,next,hk,hn2,rfl,rfl,rfl,hx0,hx1,ho,HO,hb⟩:=hrel
  have hbs:=hb.size
  by_cases hlt : k < n1
  ·obtain ⟨b,off,lo,hi,rfl,Hx,hc1,hc2⟩:=hrd.atR (k:=k) (by have:=Hn1.out;omega)
   have hr1:=cell_keep hc1 hb
   have hr2:=cell_keep hc2 hb
   obtain ⟨hb0,hb1',hb2⟩ : 0≤lo∧lo≤hi∧hi≤1114111:=by
    have hm:=List.mem_of_getElem? Hx.out
    have:=HNF.out.2 _ hm;have:=Nf_le HNF.out.1 _ hm;simp only at *;omega
   have HD:=Lib.hid (drop_cons_of Hx.out)
   by_cases hc : next < lo
   ·go_wp2_with (at_builtin;go_must (refine wpList_app rfl (.tmp 22) (.tmp 31) _ rfl w1.heap.size 248 i0 _ 2 8 Tryz.underlying218 hi0 hz0 hz1 hz2 rfl (by omega) A2 n2 c2 (o.map encR) rfl (ho.alloc _) _ 1 1 [encR (next,lo - 1)] rfl rfl (Rd.newAt (by simp) rfl) (encR_ok [(next,lo - 1)]) (by unfold maxLen;omega) (by omega) (by simp;omega) ?_);intro A3 c3 w3 ho3 hg3 hA3;have hb3:=below_app (hb.alloc hbs (.cells #[.int .i32 next,.int .i32 (lo - 1)] 248)) hg3 (by simp;omega) (fun a ha=>(ho.lt a ha).1);clear hg3;have h3:=cell_keep hc2 hb3)
    have Ho3 : Own w3 w1.heap.size 248 2 A3 (n2+1) c3 ((o++[(next,lo - 1)]).map encR):=by rw [List.map_append];exact ho3
    clear ho3
    go_roundw
    case rel=>exact ⟨k+1,A3,n2+1,c3,o++[(next,lo - 1)],hi+1,by omega,by omega,rfl,rfl,by go_num,by omega,by omega,Ho3,Lib.hid (by rw [← HO.out,HD.out,notGo_cons,if_pos hc,List.append_assoc]),hb3⟩
    case measure=>simp [intOf];omega
   ·have hge : lo≤next:=by omega
    go_wp2
    go_roundw
    case rel=>exact ⟨k+1,A2,n2,c2,o,hi+1,by omega,by omega,rfl,rfl,by go_num,by omega,by omega,ho,Lib.hid (by rw [← HO.out,HD.out,notGo_cons,if_neg hc,List.nil_append]),hb⟩
    case measure=>simp [intOf];omega
  ·have Hdr : Hid ((normR l).drop k = []):=Lib.hid (List.drop_of_length_le (by have:=Hn1.out;omega))
   by_cases hc : next≤1114111
   ·go_wp2_with (at_builtin;go_must (refine wpList_app rfl (.tmp 41) (.tmp 44) _ rfl w1.heap.size 248 i0 _ 2 8 Tryz.underlying218 hi0 hz0 hz1 hz2 rfl (by omega) A2 n2 c2 (o.map encR) rfl (ho.alloc _) _ 1 1 [encR (next,1114111)] rfl rfl (Rd.newAt (by simp) rfl) (encR_ok [(next,1114111)]) (by unfold maxLen;omega) (by omega) (by simp;omega) ?_);intro A3 c3 w3 ho3 hg3 hA3;have hb3:=below_app (hb.alloc hbs (.cells #[.int .i32 next,.int .i32 1114111] 248)) hg3 (by simp;omega) (fun a ha=>(ho.lt a ha).1);clear hg3)
    have Ho3 : Own w3 w1.heap.size 248 2 A3 (n2+1) c3 ((o++[(next,1114111)]).map encR):=by rw [List.map_append];exact ho3
    clear ho3
    go_ret
    exact ⟨_,_,_,rfl,by have:=HO.out;rw [Hdr.out,notGo_nil,if_pos hc] at this;rw [← this];exact Ho3.more hbs1,below_step hb1 hb3 hbs1⟩
   ·have hgt : 1114111 < next:=by omega
    have HE : Hid (o = notR l):=Lib.hid (by have:=HO.out;rw [Hdr.out,notGo_nil,if_neg hc,List.append_nil] at this;exact this)
    obtain rfl : next = 1114112:=by omega
    clear hc hx1 hx0 hgt
    go_wp2
    go_ret
    exact ⟨_,_,_,rfl,by rw [← HE.out];exact ho.more hbs1,below_step hb1 hb hbs1⟩
end
section
open Go.RowKit
end
section
open Go.RowKit
def encRn (x : Nat × Nat × Nat) : List Value:=[.int .i32 x.1,.int .i64 x.2.1,.int .i64 x.2.2]
theorem encRn_ok (l : List (Nat × Nat × Nat)) : ∀ y ∈ l.map encRn,y.length = 3∧∀ u ∈ y,u.oneCell' = true:=by
 intro y hy;obtain ⟨r,_,rfl⟩:=List.mem_map.1 hy
 exact ⟨rfl,by simp [encRn,Value.oneCell']⟩
theorem infoRR : (Tryz.prog.info? 128).map (fun i=>(i.zero,i.size,i.bytes)) = some (some (.agg #[.int .i32 0,.int .i64 0,.int .i64 0]),3,24):=by kernel_rfl
theorem Own.iterAt {w : World} {base : Nat} {e : TypeId} {s : Nat} {A : Option Addr} {n c : Nat} {cs : List (List Value)} (h : Own w base e s A n c cs) {k : Nat} (hk : k < base) (t : ByteArray) (p : Nat) : Own (w.iterAt k t p) base e s A n c cs :=
 h.keep fun a ha=>Lib.iterAt_other w k a.block t p (by have:=(h.lt a ha).1;omega)
theorem iter_new (w : World) (s : ByteArray) (p : Nat) : (w.iter s p).heap[w.heap.size]? = some (.stringIter s p):=World.iter_heap w s p
theorem below_iter {B : Nat} {a w : World} (h : Below B a w) (hB : B≤w.heap.size) (s : ByteArray) (p : Nat) : Below B a (w.iter s p):=h.alloc hB _
theorem iterPos_of {w : World} {k p : Nat} {s : ByteArray} (h : w.heap[k]? = some (.stringIter s p)) : w.iterPos k = p:=by unfold World.iterPos;rw [h]
def RunesAt (s : ByteArray) (p f : Nat) (o : List (Nat × Nat × Nat)) : Prop :=
 (o = []∧p = 0∧runesGo s f 0 = runesP s)∨∃ o' r a,o = o'++[(r,a,s.size)]∧o'++(r,a,p) :: runesGo s f p = runesP s
theorem runesAt_first {s : ByteArray} {f : Nat} (h : runesGo s (f+1) 0 = runesP s) (h0 : 0 < s.size) {R W : Nat} (hd : Utf8.decode s 0 = (R,W)) : RunesAt s (0+W) f ([]++[(R,0,s.size)]):=by
 refine .inr ⟨[],R,0,rfl,?_⟩
 rw [← h,runesGo,if_pos h0,hd];rfl
theorem runesAt_next {s : ByteArray} {f p r a : Nat} {o' : List (Nat × Nat × Nat)} (h : o'++(r,a,p) :: runesGo s (f+1) p = runesP s) (hp : p < s.size) {R W : Nat} (hd : Utf8.decode s p = (R,W)) :
  RunesAt s (p+W) f (o'++[(r,a,p)]++[(R,p,s.size)]):=by
 refine .inr ⟨o'++[(r,a,p)],R,p,rfl,?_⟩
 rw [← h,runesGo,if_pos hp,hd];simp
theorem runesAt_end {s : ByteArray} {f p : Nat} {o : List (Nat × Nat × Nat)} (h : RunesAt s p f o) (hp : p = s.size) : o = runesP s:=by
 subst hp
 rcases h with ⟨rfl,h0,h⟩ | ⟨o',r,a,rfl,h⟩
 ·rw [← h,runesGo_end (by omega)]
 ·rw [← h,runesGo_end (Nat.le_refl _)]
theorem sRunes_any (s : ByteArray) (w : World) (hs : s.size≤1000000) :
  Calls Tryz.prog 101 #[.string s] w fun e w'=>∃ A n c,e = .returned (.slice A n c)∧Own w' w.heap.size 128 3 A n c ((runesP s).map encRn)∧Below w.heap.size w w':=by
 obtain ⟨i0,hi0,hz0,hz1,hz2⟩:=info_parts infoRR
 go_enter Tryz.func101,Tryz.ntmps101
 go_wp2
 go_loopw [3] (fun v wr=>∃ (p f : Nat) (A1 : Option Addr) (n1 c1 : Nat) (o : List (Nat × Nat × Nat)),v = .slice A1 n1 c1∧wr.heap[w.heap.size]? = some (.stringIter s p)∧Own wr (w.heap.size+1) 128 3 A1 n1 c1 (o.map encRn) ∧
   n1≤p∧p≤s.size∧s.size≤p+f∧Hid (RunesAt s p f o)∧Below w.heap.size w wr) (fun _ wr=>s.size - wr.iterPos w.heap.size)
 case atStart=>exact ⟨0,s.size,none,0,0,[],rfl,iter_new _ _ _,Own.nil_ _ _ _ _,by omega,by omega,by omega,.inl ⟨rfl,rfl,rfl⟩,below_iter (Below.refl _ _) (Nat.le_refl _) _ _⟩
 case round =>
  obtain ⟨p,f,A1,n1,c1,o,rfl,hit,ho,hn1,hps,hf,HR,hb⟩:=hrel
  have hsz : w.heap.size < wr.heap.size:=(Array.getElem?_eq_some_iff.1 hit).1
  have Hpos:=Lib.hid (iterPos_of hit)
  by_cases hp : p < s.size
  ·obtain ⟨⟨R,W⟩,HD⟩ : ∃ d,Utf8.decode s p = d:=⟨_,rfl⟩
   have hd:=dec_bd s p hp
   have hnx : ∀ ty,(Instr.next (.pointer (some ⟨w.heap.size,0,none⟩)) true ty).run Tryz.prog wr = _:=fun ty=>Lib.run_next_any_at wr w.heap.size s p ty hit hp
   have hit2:=Lib.iterAt_heap wr w.heap.size s p (p+(Utf8.decode s p).2) hit
   have hb2:=Lib.below_iterAt hb (k:=w.heap.size) (Nat.le_refl _) s (p+(Utf8.decode s p).2)
   have ho2:=ho.iterAt (k:=w.heap.size) (by omega) s (p+(Utf8.decode s p).2)
   have hsz2 : w.heap.size < (wr.iterAt w.heap.size s (p+(Utf8.decode s p).2)).heap.size:=by rw [Lib.iterAt_size];exact hsz
   rw [HD] at hd hnx hit2 hb2 ho2 hsz2
   simp only at hd hnx hit2 hb2 ho2 hsz2
   have HD:=Lib.hid HD
   obtain ⟨f,rfl⟩ : ∃ f',f = f'+1:=⟨f - 1,by omega⟩
   generalize wr.iterAt w.heap.size s (p+W) = w2 at hnx hit2 hb2 ho2 hsz2
   clear ho hb hit hsz
   rcases HR.out with ⟨rfl,rfl,hrun⟩ | ⟨o',r,a,rfl,hrun⟩
   ·have HA:=Lib.hid (runesAt_first hrun hp HD.out)
    obtain rfl : n1 = 0:=by omega
    clear hrun HR
    go_wp2_with (at_builtin;go_must (refine wpList_app rfl (.tmp 22) (.tmp 28) _ rfl (w.heap.size+1) 128 i0 _ 3 24 Tryz.underlying125 hi0 hz0 hz1 hz2 rfl (by omega) A1 0 c1 ([].map encRn) rfl (ho2.alloc _) _ 1 1 [encRn (R,0,s.size)] rfl rfl (Rd.newAt (by simp) rfl) (encRn_ok [(R,0,s.size)]) (by unfold maxLen;omega) (by omega) (by simp;omega) ?_);intro A3 c3 w3 ho3 hg3 hA3;have hit3:=hg3.block w.heap.size (by simp;omega) (fun e=>by cases A1 with | none=>simp at e | some a=>have:=(ho2.lt a rfl).1;simp at e;omega);have hb3:=below_app (hb2.alloc (by omega) _) hg3 (by simp;omega) (fun a ha=>by have:=(ho2.lt a ha).1;omega);clear hg3)
    have hit4 : w3.heap[w.heap.size]? = some (.stringIter s (0+W)):=hit3.trans ((Below.heap_alloc _ _ _ hsz2).trans hit2)
    have Ho3 : Own w3 (w.heap.size+1) 128 3 A3 1 c3 (([]++[(R,0,s.size)]).map encRn):=by rw [List.map_append];exact ho3
    clear hit3 ho3
    go_roundw
    case rel=>exact ⟨0+W,f,A3,1,c3,[]++[(R,0,s.size)],rfl,hit4,Ho3,by omega,by omega,by omega,HA,hb3⟩
    case measure=>rw [iterPos_of hit4,Hpos.out];omega
   ·have HA:=Lib.hid (runesAt_next hrun hp HD.out)
    obtain ⟨j,rfl⟩ : ∃ j,n1 = j+1:=⟨n1 - 1,by have:=ho2.len;simp at this;omega⟩
    obtain ⟨g,rfl,hgB,hgl⟩:=ho2.form (by omega)
    have Hj : Hid (o'.length = j):=Lib.hid (by have:=ho2.len;simpa using this)
    have hx : ((o'++[(r,a,s.size)]).map encRn)[j]? = some (encRn (r,a,s.size)):=by have:=Hj.out;subst this;simp
    have hc:=ho2.cell (k:=j) (j:=2) (u:=.int .i64 s.size) hx rfl
    have hfz:=ho2.frozen (j*3+2)
    have ho4:=ho2.stored (k:=j) (j:=2) hx (by omega) (.int .i64 p)
    have he : ((o'++[(r,a,s.size)]).map encRn).set j ((encRn (r,a,s.size)).set 2 (.int .i64 p)) = (o'++[(r,a,p)]).map encRn:=by
     rw [List.map_append,List.map_append]
     have:=set_mid (o'.map encRn) (encRn (r,a,s.size)) ((encRn (r,a,s.size)).set 2 (.int .i64 p)) []
     rw [List.length_map,Hj.out] at this
     exact this
    rw [he] at ho4
    have hb4:=hb2.setCell (p:=⟨g,j*3+2,none⟩) (by simp only;omega) (.int .i64 p)
    have hit4 : (w2.setCell ⟨g,j*3+2,none⟩ (.int .i64 p)).heap[w.heap.size]? = some (.stringIter s (p+W)):=(Below.heap_setCell w2 ⟨g,j*3+2,none⟩ _ w.heap.size (by simp only;omega)).trans hit2
    have hw1 : IntKind.i64.wrap (j : Int) = j:=IntWalk.i64_in _ (by omega)
    clear hrun HR hx he hit2 hb2
    go_wp2_with (at_builtin;go_must (refine wpList_app rfl (.tmp 22) (.tmp 28) _ rfl (w.heap.size+1) 128 i0 _ 3 24 Tryz.underlying125 hi0 hz0 hz1 hz2 rfl (by omega) (some ⟨g,0,none⟩) (j+1) c1 ((o'++[(r,a,p)]).map encRn) rfl (ho4.alloc _) _ 1 1 [encRn (R,p,s.size)] rfl rfl (Rd.newAt (by simp) rfl) (encRn_ok [(R,p,s.size)]) (by unfold maxLen;omega) (by omega) (by simp;omega) ?_);intro A3 c3 w3 ho3 hg3 hA3;have hit3:=hg3.block w.heap.size (by simp;omega) (fun e=>by simp at e;omega);have hb3:=below_app (hb4.alloc (by simp;omega) _) hg3 (by simp;omega) (fun a ha=>by cases ha;simp only;omega);clear hg3)
    have hit5 : w3.heap[w.heap.size]? = some (.stringIter s (p+W)):=hit3.trans ((Below.heap_alloc _ _ _ (by simpa using hsz2)).trans hit4)
    have Ho3 : Own w3 (w.heap.size+1) 128 3 A3 (j+1+1) c3 ((o'++[(r,a,p)]++[(R,p,s.size)]).map encRn):=by rw [List.map_append];exact ho3
    clear hit3 ho3
    go_roundw
    case rel=>exact ⟨p+W,f,A3,j+1+1,c3,o'++[(r,a,p)]++[(R,p,s.size)],rfl,hit5,Ho3,by omega,by omega,by omega,HA,hb3⟩
    case measure=>rw [iterPos_of hit5,Hpos.out];omega
  ·have hnx : ∀ ty,(Instr.next (.pointer (some ⟨w.heap.size,0,none⟩)) true ty).run Tryz.prog wr = _:=fun ty=>Lib.run_next_end_at wr w.heap.size s p ty hit hp
   have HE:=Lib.hid (runesAt_end HR.out (by omega))
   go_wp2
   go_ret
   exact ⟨_,_,_,rfl,by rw [← HE.out];exact ho.more (by omega),hb⟩
end
section
open Go.RowKit
end
section
open Go.RowKit
end
section
open Go.RowKit
end
section
open Go.RowKit
end
section
open Go.RowKit
end
section
open Go.RowKit
end
section
open Go.RowKit
end
end Go.Proofs.YtglmcknlnoknoaaGreatDoor
