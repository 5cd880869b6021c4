/- -/
import Derived.Test.YtglmcknlnoknoaaGreatDoorV2a
import Derived.Test.YtglmcknlnoknoaaGreatDoorV0a
namespace Go.Proofs.YtglmcknlnoknoaaGreatDoor
set_option maxRecDepth 100000
set_option maxHeartbeats 40000000
section
open Go.RowKit
theorem itemP_of {s : ByteArray} {a p : Nat} {lo : Int} (h : runeP s a = .ok (lo,p)) : itemP s a =
  match (if (rest s p).head? = some 45 then runeP s (p+1) else .ok (lo,p)) with
  | .error e=>.error e
  | .ok (hi,q)=>if hi < lo then .error (20,a) else if (rest s q).head? ≠ none∧(rest s q).head? ≠ some 32 then .error (21,q) else .ok ((lo,hi),q):=by
 unfold itemP;rw [h];rfl
theorem itemP_bad {s : ByteArray} {a : Nat} {x : Int × Nat} (h : runeP s a = .error x) : itemP s a = .error x:=by
 unfold itemP;rw [h]
theorem parseGo_blank {s : ByteArray} {f a : Nat} {l : List (Int × Int)} (h : a < s.size) (h32 : s[a]'h = 32) : parseGo s (f+1) a l = parseGo s f (a+1) l:=by
 rw [parseGo,rest_head h];simp only [h32,if_true]
theorem parseGo_item {s : ByteArray} {f a : Nat} {l : List (Int × Int)} (h : a < s.size) (h32 : ¬ s[a]'h = 32) : parseGo s (f + 1) a l = match itemP s a with
      | .error e => .error e
      | .ok (x, q) => parseGo s f q (l ++ [x]) := by
  rw [parseGo, rest_head h]; simp only [h32, if_false]; rfl
theorem parseGo_done {s : ByteArray} {f : Nat} {l : List (Int × Int)} : parseGo s f s.size l = .ok l:=by
 cases f with
 | zero=>rfl
 | succ f=>rw [parseGo,rest_none (Nat.le_refl _)];rfl
def ParseAt (s : ByteArray) (f a : Nat) (l : List (Int × Int)) : Prop:=parseGo s f a l = parseP s∧s.size < a+f∧a≤s.size
theorem sParse_any (s : ByteArray) (w : World) (hs : s.size≤1000000) :
  Calls Tryz.prog 232 #[.string s] w fun e w'=>Below w.heap.size w w'∧ParseEnd w.heap.size (parseP s) e w':=by
 obtain ⟨i0,hi0,hz0,hz1,hz2⟩:=info_parts infoR
 go_enter Tryz.func232,Tryz.ntmps232
 go_wp2
 go_loopw [5,6] (fun v i wr=>∃ (a : Nat) (l : List (Int × Int)) (A : Option Addr) (n c : Nat),v = .slice A n c∧i = .int .i64 a∧a≤s.size∧n≤a∧Hid (∃ f,ParseAt s f a l)∧Own wr w.heap.size 248 2 A n c (l.map encR)∧Below w.heap.size w wr) (fun _ i _=>s.size - (intOf i).toNat)
 case atStart=>exact ⟨0,[],none,0,0,rfl,rfl,by omega,by omega,Lib.hid ⟨s.size+1,rfl,by omega,by omega⟩,Own.nil_ _ _ _ _,Below.refl _ _⟩
 case round =>
  obtain ⟨a0,l,A,n,c,rfl,rfl,ha0,hna0,HP0,ho,hb⟩:=hrel
  obtain ⟨wo,rfl⟩ : ∃ wo : World,wo = wr:=⟨_,rfl⟩
  have hbs:=hb.size
  go_wp2_with fail
  go_loop [6] (fun i=>∃ a : Nat,i = .int .i64 a∧a0≤a∧a≤s.size∧n≤a∧Hid (∃ f,ParseAt s f a l)) (fun i=>s.size - (intOf i).toNat)
  case atStart=>exact ⟨a0,rfl,by omega,ha0,hna0,HP0⟩
  case round =>
   clear HP0 hna0
   obtain ⟨a,rfl,ha0a,has,hna,HP⟩:=hrel
   by_cases hlt : a < s.size
   ·by_cases h32 : s[a]'hlt = 32
    ·have hq : (((s[a]'hlt).toNat : Int) == 32) = true:=by rw [h32];rfl
     have HP2 : Hid (∃ f,ParseAt s f (a+1) l):=Lib.hid (by
      obtain ⟨f,h1,h2,h3⟩:=HP.out
      obtain ⟨f,rfl⟩ : ∃ f',f = f'+1:=⟨f - 1,by omega⟩
      exact ⟨f,by rw [← h1,parseGo_blank hlt h32],by omega,by omega⟩)
     clear h32 HP
     go_wp2_with fail
     go_round
     case rel=>exact ⟨a+1,by go_num,by omega,by omega,by omega,HP2⟩
     case measure=>simp [intOf];omega
    ·have hq : (((s[a]'hlt).toNat : Int) == 32) = false:=by
      have:=byte_ne (n:=32) h32
      simpa using this
     have HI : Hid (∃ f,s.size < a+(f+1)∧parseP s = match itemP s a with
       | .error e=>.error e
       | .ok (x,q)=>parseGo s f q (l++[x])):=Lib.hid (by
      obtain ⟨f,h1,h2,h3⟩:=HP.out
      obtain ⟨f,rfl⟩ : ∃ f',f = f'+1:=⟨f - 1,by omega⟩
      exact ⟨f,by omega,by rw [← h1,parseGo_item hlt h32]⟩)
     have hne : ((a : Int) == (s.size : Int)) = false:=by rw [beq_eq_false_iff_ne];omega
     clear h32 HP
     go_wp2_with fail
     clear hq hne
     refine (sspelling_any s a _ has hs).mono ?_
     rintro e w1 ⟨rfl,hb1⟩
     have ho1:=ho.below hb1
     have hB1:=below_step hb hb1 hbs
     have hbs1:=hB1.size
     clear ho hb hb1
     cases hr : runeP s a with
     | error x =>
      obtain ⟨e,p⟩:=x
      have hE:=runeP_err hr
      have HF : Hid (parseP s = .error (e,p)):=Lib.hid (by obtain ⟨f,_,h⟩:=HI.out;rw [h,itemP_bad hr])
      have hne : ((e : Int) != 0) = true:=by rw [bne_iff_ne];omega
      clear hr
      simp only [spellV]
      go_wp2
      go_ret3
      exact ⟨hB1,ParseEnd.err HF.out⟩
     | ok y =>
      obtain ⟨lo,p⟩:=y
      obtain ⟨hp1,hp2,hl0,hl1⟩:=runeP_ok hr
      have HU:=Lib.hid (itemP_of hr)
      clear hr
      simp only [spellV]
      by_cases hps : p < s.size
      ·by_cases h45 : s[p]'hps = 45
       ·have hq : (((s[p]'hps).toNat : Int) == 45) = true:=by rw [h45];rfl
        have HU2 : Hid (itemP s a = match runeP s (p+1) with
          | .error e=>.error e
          | .ok (hi,q)=>if hi < lo then .error (20,a) else if (rest s q).head? ≠ none∧(rest s q).head? ≠ some 32 then .error (21,q) else .ok ((lo,hi),q)):=Lib.hid (by rw [HU.out,rest_head hps,h45];rfl)
        clear h45 HU
        go_wp2_with fail
        clear hq
        refine (sspelling_any s (p+1) _ (by omega) hs).mono ?_
        rintro e w2 ⟨rfl,hb2⟩
        have ho2:=ho1.below hb2
        have hB2:=below_step hB1 hb2 hbs1
        have hbs2:=hB2.size
        clear ho1 hB1 hb2 hbs1
        cases hr : runeP s (p+1) with
        | error x =>
         obtain ⟨e,p'⟩:=x
         have hE:=runeP_err hr
         have HF : Hid (parseP s = .error (e,p')):=Lib.hid (by obtain ⟨f,_,h⟩:=HI.out;rw [h,HU2.out,hr])
         have hne : ((e : Int) != 0) = true:=by rw [bne_iff_ne];omega
         clear hr
         simp only [spellV]
         go_wp2
         go_ret3
         exact ⟨hB2,ParseEnd.err HF.out⟩
        | ok y =>
         obtain ⟨hi,q⟩:=y
         obtain ⟨hq1,hq2,hh0,hh1⟩:=runeP_ok hr
         have HU3 : Hid (itemP s a = if hi < lo then .error (20,a) else if (rest s q).head? ≠ none∧(rest s q).head? ≠ some 32 then .error (21,q) else .ok ((lo,hi),q)):=Lib.hid (by rw [HU2.out,hr])
         clear hr HU2
         simp only [spellV]
         by_cases hlo : hi < lo
         ·have HF : Hid (parseP s = .error (20,a)):=Lib.hid (by obtain ⟨f,_,h⟩:=HI.out;rw [h,HU3.out,if_pos hlo])
          clear HI HU3
          go_wp2
          go_ret3
          exact ⟨hB2,ParseEnd.err HF.out⟩
         ·have hlo' : lo≤hi:=by omega
          clear hlo
          by_cases hqs : q < s.size
          ·by_cases h32 : s[q]'hqs = 32
           ·have hq2 : (((s[q]'hqs).toNat : Int) != 32) = false:=by rw [h32];rfl
            have HF : Hid (∃ f,ParseAt s f q (l++[(lo,hi)])):=Lib.hid (by
             obtain ⟨f,h0,h⟩:=HI.out
             refine ⟨f,?_,by omega,by omega⟩
             rw [h,HU3.out,if_neg (by omega),if_neg (by rw [rest_head hqs,h32];simp)])
            clear h32 HI HU3
            go_wp2_with (at_builtin;go_must (refine wpList_app rfl (.tmp 83) (.tmp 87) _ rfl w.heap.size 248 i0 _ 2 8 Tryz.underlying218 hi0 hz0 hz1 hz2 rfl (by omega) A n c (l.map encR) rfl (ho2.alloc _) _ 1 1 [encR (lo,hi)] rfl rfl (Rd.newAt (by simp) rfl) (encR_ok [(lo,hi)]) (by unfold maxLen;omega) (by omega) (by simp;omega) ?_);intro A3 c3 w3 ho3 hg3 hA3;have hb3:=below_app (hB2.alloc hbs2 (.cells #[.int .i32 lo,.int .i32 hi] 248)) hg3 (by simp;omega) (fun a ha=>(ho2.lt a ha).1);clear hg3)
            have Ho3 : Own w3 w.heap.size 248 2 A3 (n+1) c3 ((l++[(lo,hi)]).map encR):=by rw [List.map_append];exact ho3
            clear ho3
            go_roundw
            case rel=>exact ⟨q,l++[(lo,hi)],A3,n+1,c3,rfl,rfl,by omega,by omega,HF,Ho3,hb3⟩
            case measure=>simp [intOf];omega
           ·have hq2 : (((s[q]'hqs).toNat : Int) != 32) = true:=byte_ne (n:=32) h32
            have HF : Hid (parseP s = .error (21,q)):=Lib.hid (by obtain ⟨f,_,h⟩:=HI.out;rw [h,HU3.out,if_neg (by omega),if_pos (by rw [rest_head hqs];simpa using h32)])
            clear h32 HI HU3
            go_wp2
            go_ret3
            exact ⟨hB2,ParseEnd.err HF.out⟩
          ·have HF : Hid (∃ f,ParseAt s f q (l++[(lo,hi)])):=Lib.hid (by
            obtain ⟨f,h0,h⟩:=HI.out
            refine ⟨f,?_,by omega,by omega⟩
            rw [h,HU3.out,if_neg (by omega),if_neg (by rw [rest_none (by omega)];simp)])
           clear HI HU3
           go_wp2_with (at_builtin;go_must (refine wpList_app rfl (.tmp 83) (.tmp 87) _ rfl w.heap.size 248 i0 _ 2 8 Tryz.underlying218 hi0 hz0 hz1 hz2 rfl (by omega) A n c (l.map encR) rfl (ho2.alloc _) _ 1 1 [encR (lo,hi)] rfl rfl (Rd.newAt (by simp) rfl) (encR_ok [(lo,hi)]) (by unfold maxLen;omega) (by omega) (by simp;omega) ?_);intro A3 c3 w3 ho3 hg3 hA3;have hb3:=below_app (hB2.alloc hbs2 (.cells #[.int .i32 lo,.int .i32 hi] 248)) hg3 (by simp;omega) (fun a ha=>(ho2.lt a ha).1);clear hg3)
           have Ho3 : Own w3 w.heap.size 248 2 A3 (n+1) c3 ((l++[(lo,hi)]).map encR):=by rw [List.map_append];exact ho3
           clear ho3
           go_roundw
           case rel=>exact ⟨q,l++[(lo,hi)],A3,n+1,c3,rfl,rfl,by omega,by omega,HF,Ho3,hb3⟩
           case measure=>simp [intOf];omega
       ·have hq : (((s[p]'hps).toNat : Int) == 45) = false:=by
         have:=byte_ne (n:=45) h45
         simpa using this
        have HU3 : Hid (itemP s a = if lo < lo then .error (20,a) else if (rest s p).head? ≠ none∧(rest s p).head? ≠ some 32 then .error (21,p) else .ok ((lo,lo),p)):=Lib.hid (HU.out.trans (by simp only [if_neg (show ¬ (rest s p).head? = some 45 by rw [rest_head hps];simpa using h45)]))
        clear h45 HU
        by_cases h32 : s[p]'hps = 32
        ·have hq2 : (((s[p]'hps).toNat : Int) != 32) = false:=by rw [h32];rfl
         have HF : Hid (∃ f,ParseAt s f p (l++[(lo,lo)])):=Lib.hid (by
          obtain ⟨f,h0,h⟩:=HI.out
          refine ⟨f,?_,by omega,by omega⟩
          rw [h,HU3.out,if_neg (by omega),if_neg (by rw [rest_head hps,h32];simp)])
         clear h32 HI HU3
         go_wp2_with (at_builtin;go_must (refine wpList_app rfl (.tmp 83) (.tmp 87) _ rfl w.heap.size 248 i0 _ 2 8 Tryz.underlying218 hi0 hz0 hz1 hz2 rfl (by omega) A n c (l.map encR) rfl (ho1.alloc _) _ 1 1 [encR (lo,lo)] rfl rfl (Rd.newAt (by simp) rfl) (encR_ok [(lo,lo)]) (by unfold maxLen;omega) (by omega) (by simp;omega) ?_);intro A3 c3 w3 ho3 hg3 hA3;have hb3:=below_app (hB1.alloc hbs1 (.cells #[.int .i32 lo,.int .i32 lo] 248)) hg3 (by simp;omega) (fun a ha=>(ho1.lt a ha).1);clear hg3)
         have Ho3 : Own w3 w.heap.size 248 2 A3 (n+1) c3 ((l++[(lo,lo)]).map encR):=by rw [List.map_append];exact ho3
         clear ho3
         go_roundw
         case rel=>exact ⟨p,l++[(lo,lo)],A3,n+1,c3,rfl,rfl,by omega,by omega,HF,Ho3,hb3⟩
         case measure=>simp [intOf];omega
        ·have hq2 : (((s[p]'hps).toNat : Int) != 32) = true:=byte_ne (n:=32) h32
         have HF : Hid (parseP s = .error (21,p)):=Lib.hid (by obtain ⟨f,_,h⟩:=HI.out;rw [h,HU3.out,if_neg (by omega),if_pos (by rw [rest_head hps];simpa using h32)])
         clear h32 HI HU3
         go_wp2
         go_ret3
         exact ⟨hB1,ParseEnd.err HF.out⟩
      ·have HU3 : Hid (itemP s a = if lo < lo then .error (20,a) else if (rest s p).head? ≠ none∧(rest s p).head? ≠ some 32 then .error (21,p) else .ok ((lo,lo),p)):=Lib.hid (HU.out.trans (by simp only [if_neg (show ¬ (rest s p).head? = some 45 by rw [rest_none (by omega)];simp)]))
       clear HU
       have HF : Hid (∃ f,ParseAt s f p (l++[(lo,lo)])):=Lib.hid (by
        obtain ⟨f,h0,h⟩:=HI.out
        refine ⟨f,?_,by omega,by omega⟩
        rw [h,HU3.out,if_neg (by omega),if_neg (by rw [rest_none (by omega)];simp)])
       clear HI HU3
       go_wp2_with (at_builtin;go_must (refine wpList_app rfl (.tmp 83) (.tmp 87) _ rfl w.heap.size 248 i0 _ 2 8 Tryz.underlying218 hi0 hz0 hz1 hz2 rfl (by omega) A n c (l.map encR) rfl (ho1.alloc _) _ 1 1 [encR (lo,lo)] rfl rfl (Rd.newAt (by simp) rfl) (encR_ok [(lo,lo)]) (by unfold maxLen;omega) (by omega) (by simp;omega) ?_);intro A3 c3 w3 ho3 hg3 hA3;have hb3:=below_app (hB1.alloc hbs1 (.cells #[.int .i32 lo,.int .i32 lo] 248)) hg3 (by simp;omega) (fun a ha=>(ho1.lt a ha).1);clear hg3)
       have Ho3 : Own w3 w.heap.size 248 2 A3 (n+1) c3 ((l++[(lo,lo)]).map encR):=by rw [List.map_append];exact ho3
       clear ho3
       go_roundw
       case rel=>exact ⟨p,l++[(lo,lo)],A3,n+1,c3,rfl,rfl,by omega,by omega,HF,Ho3,hb3⟩
       case measure=>simp [intOf];omega
   ·obtain rfl : a = s.size:=by omega
    have HF : Hid (parseP s = .ok l):=Lib.hid (by obtain ⟨f,h1,_,_⟩:=HP.out;rw [← h1,parseGo_done])
    clear HP
    go_wp2_with fail
    refine (sNorm_any A n c l _ (ho.rd (by omega)) (by simpa using ho.len) (by omega)).mono ?_
    rintro e w2 ⟨A4,n4,c4,rfl,ho2,hb2⟩
    go_wp2
    go_ret3
    exact ⟨below_step hb hb2 hbs,ParseEnd.fine HF.out (ho2.more hbs)⟩
end
end Go.Proofs.YtglmcknlnoknoaaGreatDoor
