/- -/
import Derived.Lib.RuneCountTail
import Derived.Test.YtlfpdpbbkjnapaaGreatDoorP0a
import Derived.Test.YtlfpdpbbkjnapaaGreatDoorPShelf
namespace Go.Proofs.YtlfpdpbbkjnapaaGreatDoor
set_option maxRecDepth 100000
set_option maxHeartbeats 40000000
section
open Go.RowKit
def faultEnd (e : Int × Nat) : Ending:=.panicked [{ v:=.iface 290 (.agg #[.int .i64 e.1,.int .i64 e.2]),recovered:=false }]
def atOf (w : World) (b : Nat) : Nat:=match w.cell? ⟨b,1,none⟩ with | some v=>(intOf v).toNat | none=>0
def Rdr (w : World) (b : Nat) (s : ByteArray) (a : Nat) : Prop:=Blk w b 294 #[.string s,.int .i64 a]
section
variable {w w' : World} {b : Nat} {s : ByteArray} {a : Nat}
theorem Rdr.c0 (h : Rdr w b s a) : w.cell? ⟨b,0,none⟩ = some (.string s):=h.cell 0
theorem Rdr.c1 (h : Rdr w b s a) : w.cell? ⟨b,1,none⟩ = some (.int .i64 a):=h.cell 1
theorem Rdr.f1 (h : Rdr w b s a) : w.frozen? ⟨b,1,none⟩ = false:=h.frozen 1
theorem Rdr.set (h : Rdr w b s a) (a' : Nat) : Rdr (w.setCell ⟨b,1,none⟩ (.int .i64 a')) b s a':=h.set_ 1 _
theorem Rdr.set' (h : Rdr w b s a) (v : Int) (a' : Nat) (hv : v = a') : Rdr (w.setCell ⟨b,1,none⟩ (.int .i64 v)) b s a':=by subst hv;exact h.set a'
theorem Rdr.drewN (h : Rdr w b s a) (q : Nat) : Rdr (w.drewN q) b s a:=h
theorem Rdr.atOf (h : Rdr w b s a) : atOf w b = a:=by unfold YtlfpdpbbkjnapaaGreatDoor.atOf;rw [h.c1];simp [intOf]
end
def RuneEnd (b : Nat) (s : ByteArray) (r : Except (Int × Nat) (Int × Nat)) (e : Ending) (w' : World) : Prop :=
 match r with
 | .error x=>e = faultEnd x
 | .ok (r,q)=>e = .returned (.int .i32 r)∧Rdr w' b s q
theorem RuneEnd.err {b : Nat} {s : ByteArray} {r : Except (Int × Nat) (Int × Nat)} {x : Int × Nat} {w' : World} (h : r = .error x) : RuneEnd b s r (faultEnd x) w':=by rw [h];exact rfl
theorem RuneEnd.fine {b : Nat} {s : ByteArray} {r : Except (Int × Nat) (Int × Nat)} {n : Int} {q : Nat} {w' : World} (h : r = .ok (n,q)) (hr : Rdr w' b s q) : RuneEnd b s r (.returned (.int .i32 n)) w':=by rw [h];exact ⟨rfl,hr⟩
theorem number_any (s : ByteArray) (a b : Nat) (w : World) (hR : Rdr w b s a) (ha : a+2≤s.size) (hs : s.size≤1000000) :
  Calls Tryz.prog 294 #[.pointer (some ⟨b,0,none⟩)] w fun e w'=>w.grownBy w' (some b)∧RuneEnd b s (numP s a) e w':=by
 have c0:=hR.c0
 have c1:=hR.c1
 have f1:=hR.f1
 go_enter Tryz.func294,Tryz.ntmps294
 go_wp2
 go_loopw [18] (fun _ wr=>∃ p : Nat,Rdr wr b s p∧Hid (p+(hexRun s p).length = a+2+(hexRun s (a+2)).length)∧a+2≤p∧p≤s.size∧w.grownBy wr (some b)) (fun _ wr=>s.size - atOf wr b)
 case atStart=>exact ⟨a+2,hR.set (a+2),by simp [Hid],by omega,by omega,only_setCell (only_refl _ _) (.inl rfl) _⟩
 case round =>
  clear c0 c1 f1
  obtain ⟨p,hr,HK,hge,hle,hg⟩:=hrel
  have c0:=hr.c0
  have c1:=hr.c1
  have f1:=hr.f1
  have Hat:=Lib.hid hr.atOf
  have hstop : ¬ (∃ h : p < s.size,isHexN ((s[p]'h).toNat : Int) = true)→hexRun s p = []:=fun hn=>by
   by_cases hlt : p < s.size
   ·rw [hexRun_cons hlt,if_neg (fun h=>hn ⟨hlt,h⟩)]
   ·exact hexRun_none (by omega)
  by_cases hlt : p < s.size∧∃ h : p < s.size,isHexN ((s[p]'h).toNat : Int) = true
  ·obtain ⟨hlt,_,hx⟩:=hlt
   have HK' : Hid (p+1+(hexRun s (p+1)).length = a+2+(hexRun s (a+2)).length):=Lib.hid (by rw [← HK.out,hexRun_cons hlt,if_pos hx,List.length_cons];omega)
   have hcb : ((s[p]'hlt).toNat : Int)≤255:=by have:=(s[p]'hlt).toNat_lt;omega
   have hcz : 0≤((s[p]'hlt).toNat : Int):=by omega
   clear hstop
   go_wp2_with fail
   go_quiet ((go_at_call 313;exact quiet_left (rhex_any _ _ hcz hcb)))
   go_wp2
   have hr2 : Rdr ((wr.drewN nq).setCell ⟨b,1,none⟩ (.int .i64 (p+1 : Nat))) b s (p+1):=Rdr.set (w:=wr.drewN nq) hr (p+1)
   refine ⟨⟨p+1,hr2,HK',by omega,by omega,only_setCell (only_drewN hg _) (.inl rfl) _⟩,?_⟩
   show s.size - atOf ((wr.drewN nq).setCell ⟨b,1,none⟩ (.int .i64 (p+1 : Nat))) b < s.size - atOf wr b
   rw [hr2.atOf,Hat.out];omega
  ·have hnil : hexRun s p = []:=hstop (fun h=>by obtain ⟨h1,h2⟩:=h;exact hlt ⟨h1,h1,h2⟩)
   have HN : Hid ((hexRun s (a+2)).length = p - (a+2)):=Lib.hid (by have:=HK.out;rw [hnil] at this;simp at this;omega)
   have HX : Hid ((s.extract (a+2) p).data.toList = hexRun s (a+2)):=Lib.hid (by have:=hexRun_extract s (a+2);rwa [HN.out,show a+2+(p - (a+2)) = p by omega] at this)
   clear hstop hnil
   obtain ⟨n,Hn,hn⟩ : ∃ n,Hid (n = p - (a+2))∧n+(a+2) = p:=⟨p - (a+2),rfl,by omega⟩
   have hout : (s.size≤p)∨(∃ h : p < s.size,isHexN ((s[p]'h).toNat : Int) = false):=by
    by_cases h : p < s.size
    ·exact .inr ⟨h,by cases hq : isHexN ((s[p]'h).toNat : Int) with
      | false=>rfl
      | true=>exact absurd ⟨h,h,hq⟩ hlt⟩
    ·exact .inl (by omega)
   clear hlt
   rcases hout with hsz | ⟨hlt,hx⟩
   ·have hd : decide (p < s.size) = false:=decide_eq_false (by omega)
    go_wp2_with fail
    go_quiet (fail)
    clear hd
    go_wp2_with fail
    have hwa : IntKind.i64.wrap ((a : Int)+2) = (a : Int)+2:=IntWalk.i64_in _ (by omega)
    have hwb : ((a : Int)+2).toNat = a+2:=by omega
    go_quiet (fail)
    clear hwa hwb
    go_wp2_with fail
    all_goals first
     | exact ⟨rfl,only_drewN hg _,RuneEnd.err (x:=(21,a)) (by unfold numP;rw [if_pos (by rw [HN.out];omega)])⟩
     | skip
    have hsx : (s.extract (a+2) p).size = p - (a+2):=by rw [← size_data,HX.out,HN.out]
    refine (lParseInt_any (s.extract (a+2) p) _ (by omega) (by omega) (by rw [HX.out];exact hexRun_all s _)).mono ?_
    clear hsx
    rw [HX.out]
    rintro e w2 ⟨rfl,hb2⟩
    have hc0 : ¬ ((hexRun s (a+2)).length < 4∨6 < (hexRun s (a+2)).length):=by rw [HN.out];omega
    have HP : Hid (numP s a = if 1114111 < hexVal (hexRun s (a+2)) then .error (22,a) else .ok (hexVal (hexRun s (a+2)),p)):=Lib.hid (by unfold numP;rw [if_neg hc0,HN.out,show a+2+(p - (a+2)) = p by omega])
    have hg2 : w.grownBy w2 (some b):=only_below (only_drewN hg _) hb2
    have hr2 : Rdr w2 b s p:=Blk.below (w:=wr.drewN _) hr hb2
    have hV0:=(hexVal_bd _ (hexRun s (a+2)) rfl (hexRun_all s _)).1
    generalize hexVal (hexRun s (a+2)) = V at HP hV0 ⊢
    clear hc0 hb2
    by_cases hV : 1114111 < V
    ·go_wp2
     exact ⟨rfl,hg2,RuneEnd.err (x:=(22,a)) (by rw [HP.out,if_pos hV])⟩
    ·have hV' : V≤1114111:=by omega
     have HP' : Hid (numP s a = .ok (V,p)):=Lib.hid (by rw [HP.out,if_neg hV])
     clear hV
     go_wp2
     go_ret
     exact ⟨hg2,RuneEnd.fine HP'.out hr2⟩
   ·have hcb : ((s[p]'hlt).toNat : Int)≤255:=by have:=(s[p]'hlt).toNat_lt;omega
    have hcz : 0≤((s[p]'hlt).toNat : Int):=by omega
    go_wp2_with fail
    go_quiet ((go_at_call 313;exact quiet_left (rhex_any _ _ hcz hcb)))
    go_wp2_with fail
    have hwa : IntKind.i64.wrap ((a : Int)+2) = (a : Int)+2:=IntWalk.i64_in _ (by omega)
    have hwb : ((a : Int)+2).toNat = a+2:=by omega
    go_quiet (fail)
    clear hwa hwb
    go_wp2_with fail
    all_goals first
     | exact ⟨rfl,only_drewN hg _,RuneEnd.err (x:=(21,a)) (by unfold numP;rw [if_pos (by rw [HN.out];omega)])⟩
     | skip
    have hsx : (s.extract (a+2) p).size = p - (a+2):=by rw [← size_data,HX.out,HN.out]
    refine (lParseInt_any (s.extract (a+2) p) _ (by omega) (by omega) (by rw [HX.out];exact hexRun_all s _)).mono ?_
    clear hsx
    rw [HX.out]
    rintro e w2 ⟨rfl,hb2⟩
    have hc0 : ¬ ((hexRun s (a+2)).length < 4∨6 < (hexRun s (a+2)).length):=by rw [HN.out];omega
    have HP : Hid (numP s a = if 1114111 < hexVal (hexRun s (a+2)) then .error (22,a) else .ok (hexVal (hexRun s (a+2)),p)):=Lib.hid (by unfold numP;rw [if_neg hc0,HN.out,show a+2+(p - (a+2)) = p by omega])
    have hg2 : w.grownBy w2 (some b):=only_below (only_drewN hg _) hb2
    have hr2 : Rdr w2 b s p:=Blk.below (w:=wr.drewN _) hr hb2
    have hV0:=(hexVal_bd _ (hexRun s (a+2)) rfl (hexRun_all s _)).1
    generalize hexVal (hexRun s (a+2)) = V at HP hV0 ⊢
    clear hc0 hb2
    by_cases hV : 1114111 < V
    ·go_wp2
     exact ⟨rfl,hg2,RuneEnd.err (x:=(22,a)) (by rw [HP.out,if_pos hV])⟩
    ·have hV' : V≤1114111:=by omega
     have HP' : Hid (numP s a = .ok (V,p)):=Lib.hid (by rw [HP.out,if_neg hV])
     clear hV
     go_wp2
     go_ret
     exact ⟨hg2,RuneEnd.fine HP'.out hr2⟩
def Tabs (w : World) : Prop:=Lib.Utf8Tabs 1 2 w
theorem Tabs.below {w w' : World} (h : Tabs w) (hb : Below w.heap.size w w') : Tabs w':=Utf8Tabs_below h hb
theorem lDecode_any (s : ByteArray) (a : Nat) (w : World) (hT : Tabs w) (ha : a≤s.size) :
  Calls Tryz.prog 257 #[.string (s.extract a s.size)] w fun e w'=>e = .returned (.tuple #[.int .i32 (runeAt s a).1,.int .i64 (runeAt s a).2])∧Below w.heap.size w w':=by
 have h:=Tryz.utf8_DecodeRuneInString (s.extract a s.size) w hT
 have e : Lib.decodeGo (s.extract a s.size) = runeAt s a:=by
  unfold runeAt
  split
  ·rename_i h
   unfold Lib.decodeGo
   rw [if_neg (by rw [Lib.tail_size];omega),Lib.tail_decode,Nat.add_zero]
  ·unfold Lib.decodeGo
   rw [if_pos (by rw [ByteArray.size_extract];omega)]
 rw [e] at h
 exact h
theorem quoP_none {s : ByteArray} {a : Nat} (h : (runeAt s (a+1)).2 = 0) : quoP s a = .error (21,a):=if_pos h
theorem quoP_open {s : ByteArray} {a : Nat} (h : (runeAt s (a+1)).2 ≠ 0) (h2 : (rest s (a+1+(runeAt s (a+1)).2)).head? ≠ some 39) : quoP s a = .error (21,a):=by unfold quoP;rw [if_neg h,if_pos h2]
theorem quoP_bad {s : ByteArray} {a : Nat} (h : (runeAt s (a+1)).2 ≠ 0) (h2 : (rest s (a+1+(runeAt s (a+1)).2)).head? = some 39) (h3 : (runeAt s (a+1)).1 = 65533∧(runeAt s (a+1)).2 = 1) : quoP s a = .error (23,a+1):=by
 unfold quoP;rw [if_neg h,if_neg (fun k=>k h2),if_pos h3]
theorem quoP_ok {s : ByteArray} {a : Nat} (h : (runeAt s (a+1)).2 ≠ 0) (h2 : (rest s (a+1+(runeAt s (a+1)).2)).head? = some 39) (h3 : ¬ ((runeAt s (a+1)).1 = 65533∧(runeAt s (a+1)).2 = 1)) : quoP s a = .ok ((runeAt s (a+1)).1,a+2+(runeAt s (a+1)).2):=by
 unfold quoP;rw [if_neg h,if_neg (fun k=>k h2),if_neg h3]
theorem quoted_any (s : ByteArray) (a b : Nat) (w : World) (hT : Tabs w) (hR : Rdr w b s a) (ha : a + 1 ≤ s.size) (hs : s.size ≤ 1000000) :
    Calls Tryz.prog 295 #[.pointer (some ⟨b, 0, none⟩)] w fun e w' => w.grownBy w' (some b) ∧ RuneEnd b s (quoP s a) e w' := by
  have c0 := hR.c0
  have c1 := hR.c1
  have HD := Lib.hid (lDecode_any s (a + 1) w hT ha)
  obtain ⟨hb1, hb2, hb3⟩ := runeAt_bd s (a + 1) ha
  have HN := Lib.hid (@quoP_none s a)
  have HO := Lib.hid (@quoP_open s a)
  have HB := Lib.hid (@quoP_bad s a)
  have HG := Lib.hid (@quoP_ok s a)
  generalize (runeAt s (a + 1)).2 = n at HD HN HO HB HG hb1 hb2
  generalize (runeAt s (a + 1)).1 = r at HD HB HG hb3
  generalize quoP s a = Q at HN HO HB HG ⊢
  go_enter Tryz.func295, Tryz.ntmps295
  go_wp2_with fail
  refine HD.out.mono ?_
  rintro e w2 ⟨rfl, hbw⟩
  have hr2 : Rdr w2 b s a := Blk.below hR hbw
  have hg2 : w.grownBy w2 (some b) := only_below (only_refl _ _) hbw
  clear c0 c1
  have c0 := hr2.c0
  have c1 := hr2.c1
  have f1 := hr2.f1
  by_cases hn : n = 0
  · have HE := Lib.hid (HN.out hn)
    have hz : ((n : Int) == 0) = true := by simp [hn]
    clear hn
    go_wp2
    exact ⟨rfl, hg2, RuneEnd.err (x := (21, a)) HE.out⟩
  · have hz : ((n : Int) == 0) = false := by simp [hn]
    have HNz := Lib.hid hn
    have hn1 : 1 ≤ n := by omega
    clear hn
    have hr3 : Rdr (w2.setCell ⟨b, 1, none⟩ (.int .i64 ((a : Int) + 1 + n))) b s (a + 1 + n) := hr2.set' _ _ (by omega)
    have hg3 : w.grownBy (w2.setCell ⟨b, 1, none⟩ (.int .i64 ((a : Int) + 1 + n))) (some b) := only_setCell hg2 (.inl rfl) _
    by_cases hp : a + 1 + n < s.size
    · have hix := index_at s ((a : Int) + 1 + n) (a + 1 + n) (by omega) hp
      by_cases hq : s[a + 1 + n]'hp = 39
      · have HQ : Hid ((rest s (a + 1 + n)).head? = some 39) := Lib.hid (by rw [rest_head hp, hq])
        have hqb : (((s[a + 1 + n]'hp).toNat : Int) != 39) = false := by rw [hq]; rfl
        clear hq
        have hd : decide ((s.size : Int) ≤ (a : Int) + 1 + n) = false := decide_eq_false (by omega)
        by_cases h3 : r = 65533 ∧ n = 1
        · have HE := Lib.hid (HB.out HNz.out HQ.out h3)
          have hra : ((r : Int) == 65533) = true := by simp [h3.1]
          have hna : ((n : Int) == 1) = true := by simp [h3.2]
          clear h3
          go_wp2_with fail
          go_quiet (fail)
          clear hd
          go_wp2
          exact ⟨rfl, only_drewN hg3 _, RuneEnd.err (x := (23, a + 1)) HE.out⟩
        · have HE := Lib.hid (HG.out HNz.out HQ.out h3)
          by_cases hr65 : r = 65533
          · have hra : ((r : Int) == 65533) = true := by simp [hr65]
            have hna : ((n : Int) == 1) = false := by simp; omega
            clear h3 hr65
            go_wp2_with fail
            go_quiet (fail)
            clear hd
            go_wp2
            go_ret
            exact ⟨only_setCell (only_drewN hg3 _) (.inl rfl) _, RuneEnd.fine HE.out ((hr3.drewN _).set' _ _ (by omega))⟩
          · have hra : ((r : Int) == 65533) = false := by simp; omega
            clear h3 hr65
            go_wp2_with fail
            go_quiet (fail)
            clear hd
            go_wp2
            go_ret
            exact ⟨only_setCell (only_drewN hg3 _) (.inl rfl) _, RuneEnd.fine HE.out ((hr3.drewN _).set' _ _ (by omega))⟩
      · have HE := Lib.hid (HO.out HNz.out (by rw [rest_head hp]; simpa using hq))
        have hqb : (((s[a + 1 + n]'hp).toNat : Int) != 39) = true := by
          rw [bne_iff_ne]; intro e
          exact hq (UInt8.toNat_inj.1 (by have : (s[a + 1 + n]'hp).toNat = 39 := by omega
                                          rw [this]; rfl))
        clear hq
        have hd : decide ((s.size : Int) ≤ (a : Int) + 1 + n) = false := decide_eq_false (by omega)
        go_wp2_with fail
        go_quiet (fail)
        clear hd
        go_wp2
        exact ⟨rfl, only_drewN hg3 _, RuneEnd.err (x := (21, a)) HE.out⟩
    · have HE := Lib.hid (HO.out HNz.out (by rw [rest_none (by omega)]; simp))
      have hd : decide ((s.size : Int) ≤ (a : Int) + 1 + n) = true := decide_eq_true (by omega)
      clear hp
      go_wp2_with fail
      go_quiet (fail)
      clear hd
      go_wp2
      exact ⟨rfl, only_drewN hg3 _, RuneEnd.err (x := (21, a)) HE.out⟩
theorem rest_extract (s : ByteArray) (a : Nat) : (s.extract a s.size).data.toList = rest s a:=by
 rw [Lib.extract_data];unfold rest
 rw [List.take_of_length_le (by rw [List.length_drop,size_data];omega)]
theorem lHasPrefix_any (s : ByteArray) (a : Nat) (p : ByteArray) (w : World) :
  Calls Tryz.prog 293 #[.string (s.extract a s.size),.string p] w fun e w'=>e = .returned (.bool (p.data.toList.isPrefixOf (rest s a)))∧w = w':=by
 have h:=Tryz.strings_HasPrefix (s.extract a s.size) p w
 refine h.mono ?_
 rintro e w' ⟨rfl,rfl⟩
 exact ⟨by rw [rest_extract];rfl,rfl⟩
theorem lHasPrefix_is (s : ByteArray) (a : Nat) (p : ByteArray) (v : Bool) (h : p.data.toList.isPrefixOf (rest s a) = v) (w : World) :
  Calls Tryz.prog 293 #[.string (s.extract a s.size),.string p] w fun e w'=>e = .returned (.bool v)∧w = w' :=
 (lHasPrefix_any s a p w).mono fun _ _ ⟨he,hw⟩=>⟨by rw [he,h],hw⟩
theorem rune_any (s : ByteArray) (a b : Nat) (w : World) (hT : Tabs w) (hR : Rdr w b s a) (ha : a≤s.size) (hs : s.size≤1000000) :
  Calls Tryz.prog 263 #[.pointer (some ⟨b,0,none⟩)] w fun e w'=>w.grownBy w' (some b)∧RuneEnd b s (runeP s a) e w':=by
 have c0:=hR.c0
 have c1:=hR.c1
 cases h1 : [85,43].isPrefixOf (rest s a) with
 | true =>
  have HE : Hid (runeP s a = numP s a):=Lib.hid (by unfold runeP;rw [h1];rfl)
  have hl : a+2≤s.size:=by
   have:=(List.isPrefixOf_iff_prefix.1 h1).length_le
   rw [rest_len] at this;simp at this;omega
  have HP:=Lib.hid (fun W=>lHasPrefix_is s a ⟨#[85,43]⟩ true h1 W)
  have HN:=Lib.hid (fun W hr=>number_any s a b W hr hl hs)
  clear h1
  rw [HE.out]
  generalize numP s a = Q at HN ⊢
  cases Q with
  | error x =>
   go_enter Tryz.func263,Tryz.ntmps263
   go_wp2_with fail
   go_quiet (fail)
   go_wp2_with fail
   refine (HP.out _).mono ?_
   rintro e w' ⟨rfl,rfl⟩
   go_wp2_with fail
   refine (HN.out _ (hR.drewN _)).mono ?_
   rintro e w2 ⟨hg,rfl⟩
   exact ⟨rfl,only_trans (only_drewN (only_refl _ _) _) hg,RuneEnd.err (x:=x) rfl⟩
  | ok y =>
   obtain ⟨r,q⟩:=y
   go_enter Tryz.func263,Tryz.ntmps263
   go_wp2_with fail
   go_quiet (fail)
   go_wp2_with fail
   refine (HP.out _).mono ?_
   rintro e w' ⟨rfl,rfl⟩
   go_wp2_with fail
   refine (HN.out _ (hR.drewN _)).mono ?_
   rintro e w2 ⟨hg,rfl,hr2⟩
   go_wp2
   go_ret
   exact ⟨only_trans (only_drewN (only_refl _ _) _) hg,RuneEnd.fine rfl hr2⟩
 | false =>
  have HP:=Lib.hid (fun W=>lHasPrefix_is s a ⟨#[85,43]⟩ false h1 W)
  cases h2 : [39].isPrefixOf (rest s a) with
  | true =>
   have HE : Hid (runeP s a = quoP s a):=Lib.hid (by unfold runeP;rw [h1,h2];rfl)
   have hl : a+1≤s.size:=by
    have:=(List.isPrefixOf_iff_prefix.1 h2).length_le
    rw [rest_len] at this;simp at this;omega
   have HP2:=Lib.hid (fun W=>lHasPrefix_is s a ⟨#[39]⟩ true h2 W)
   have HN:=Lib.hid (fun W hW hr=>quoted_any s a b W hW hr hl hs)
   clear h1 h2
   rw [HE.out]
   generalize quoP s a = Q at HN ⊢
   cases Q with
   | error x =>
    go_enter Tryz.func263,Tryz.ntmps263
    go_wp2_with fail
    go_quiet (fail)
    go_wp2_with fail
    refine (HP.out _).mono ?_
    rintro e w' ⟨rfl,rfl⟩
    go_wp2_with fail
    refine (HP2.out _).mono ?_
    rintro e w' ⟨rfl,rfl⟩
    go_wp2_with fail
    refine (HN.out _ (hT.below (below_refl_drewN _ _)) (hR.drewN _)).mono ?_
    rintro e w2 ⟨hg,rfl⟩
    exact ⟨rfl,only_trans (only_drewN (only_refl _ _) _) hg,RuneEnd.err (x:=x) rfl⟩
   | ok y =>
    obtain ⟨r,q⟩:=y
    go_enter Tryz.func263,Tryz.ntmps263
    go_wp2_with fail
    go_quiet (fail)
    go_wp2_with fail
    refine (HP.out _).mono ?_
    rintro e w' ⟨rfl,rfl⟩
    go_wp2_with fail
    refine (HP2.out _).mono ?_
    rintro e w' ⟨rfl,rfl⟩
    go_wp2_with fail
    refine (HN.out _ (hT.below (below_refl_drewN _ _)) (hR.drewN _)).mono ?_
    rintro e w2 ⟨hg,rfl,hr2⟩
    go_wp2
    go_ret
    exact ⟨only_trans (only_drewN (only_refl _ _) _) hg,RuneEnd.fine rfl hr2⟩
  | false =>
   have HE : Hid (runeP s a = .error (21,a)):=Lib.hid (by unfold runeP;rw [h1,h2];rfl)
   have HP2:=Lib.hid (fun W=>lHasPrefix_is s a ⟨#[39]⟩ false h2 W)
   clear h1 h2
   go_enter Tryz.func263,Tryz.ntmps263
   go_wp2_with fail
   go_quiet (fail)
   go_wp2_with fail
   refine (HP.out _).mono ?_
   rintro e w' ⟨rfl,rfl⟩
   go_wp2_with fail
   refine (HP2.out _).mono ?_
   rintro e w' ⟨rfl,rfl⟩
   go_wp2
   exact ⟨rfl,only_drewN (only_refl _ _) _,RuneEnd.err (x:=(21,a)) HE.out⟩
end
end Go.Proofs.YtlfpdpbbkjnapaaGreatDoor
