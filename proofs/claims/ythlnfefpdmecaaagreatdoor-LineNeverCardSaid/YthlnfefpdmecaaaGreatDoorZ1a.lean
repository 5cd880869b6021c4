/-
  Several texts in one, in their build order: Par, Par2, Rdr, PropsP, PropsQ, PropsR, PropsS, PropsT, PrintP, PropsU, PropsV, PropsW, PropsX, DbM, WP, WP2, WP3.
-/
import Derived.Lib.Strings
import Derived.Lib.RuneCountTail
import Derived.Lib.DecodeN
import Derived.Lib.SlTrimSet
import Derived.Maps.OwnSet
import Derived.Maps.OwnOps
import Derived.Test.YthlnfefpdmecaaaGreatDoorZHex
import Derived.Test.YthlnfefpdmecaaaGreatDoorZ0a
/-
  PLAIN: what a spelling of a rune, an item, a whole text says: or the error and its place. No walk.
-/
namespace Go.Proofs.YthlnfefpdmecaaaGreatDoor

/-- A text's bytes from a place on. -/
def rest (s : ByteArray) (a : Nat) : List UInt8 := s.data.toList.drop a
def hexRun (s : ByteArray) (a : Nat) : List UInt8 := (rest s a).takeWhile fun c => isHexN (c.toNat : Int)
/-- The first rune from a place on, and its width (0: there is none). -/
def runeAt (s : ByteArray) (a : Nat) : Nat × Nat := if a < s.size then Utf8.decode s a else (65533, 0)

def numP (s : ByteArray) (a : Nat) : Except (Int × Nat) (Int × Nat) :=
  if (hexRun s (a + 2)).length < 4 ∨ 6 < (hexRun s (a + 2)).length then .error (21, a)
  else if 1114111 < hexVal (hexRun s (a + 2)) then .error (22, a)
  else .ok (hexVal (hexRun s (a + 2)), a + 2 + (hexRun s (a + 2)).length)
def quoP (s : ByteArray) (a : Nat) : Except (Int × Nat) (Int × Nat) :=
  if (runeAt s (a + 1)).2 = 0 then .error (21, a)
  else if (rest s (a + 1 + (runeAt s (a + 1)).2)).head? ≠ some 39 then .error (21, a)
  else if (runeAt s (a + 1)).1 = 65533 ∧ (runeAt s (a + 1)).2 = 1 then .error (23, a + 1)
  else .ok ((runeAt s (a + 1)).1, a + 2 + (runeAt s (a + 1)).2)
def runeP (s : ByteArray) (a : Nat) : Except (Int × Nat) (Int × Nat) :=
  if [85, 43].isPrefixOf (rest s a) then numP s a else if [39].isPrefixOf (rest s a) then quoP s a else .error (21, a)
def itemP (s : ByteArray) (a : Nat) : Except (Int × Nat) ((Int × Int) × Nat) :=
  match runeP s a with
  | .error e => .error e
  | .ok (lo, p) =>
    match (if (rest s p).head? = some 45 then runeP s (p + 1) else .ok (lo, p)) with
    | .error e => .error e
    | .ok (hi, q) => if hi < lo then .error (20, a) else if (rest s q).head? ≠ none ∧ (rest s q).head? ≠ some 32 then .error (21, q) else .ok ((lo, hi), q)
def parseGo (s : ByteArray) : Nat → Nat → List (Int × Int) → Except (Int × Nat) (List (Int × Int))
  | 0, _, l => .ok l
  | f + 1, a, l =>
    match (rest s a).head? with
    | none => .ok l
    | some c => if c = 32 then parseGo s f (a + 1) l else
      match itemP s a with
      | .error e => .error e
      | .ok (x, q) => parseGo s f q (l ++ [x])
def parseP (s : ByteArray) : Except (Int × Nat) (List (Int × Int)) := parseGo s (s.size + 1) 0 []

theorem size_data (s : ByteArray) : s.data.toList.length = s.size := by rw [Array.length_toList]; rfl
theorem rest_head {s : ByteArray} {a : Nat} (h : a < s.size) : (rest s a).head? = some (s[a]'h) := by
  unfold rest; rw [List.head?_drop, List.getElem?_eq_getElem (by rw [size_data]; exact h)]; rfl
theorem rest_none {s : ByteArray} {a : Nat} (h : s.size ≤ a) : rest s a = [] := List.drop_of_length_le (by rw [size_data]; exact h)
theorem rest_cons {s : ByteArray} {a : Nat} (h : a < s.size) : rest s a = s[a]'h :: rest s (a + 1) := by
  unfold rest; rw [List.drop_eq_getElem_cons (by rw [size_data]; exact h)]; rfl
theorem hexRun_cons {s : ByteArray} {a : Nat} (h : a < s.size) : hexRun s a = if isHexN ((s[a]'h).toNat : Int) then s[a]'h :: hexRun s (a + 1) else [] := by
  unfold hexRun; rw [rest_cons h, List.takeWhile_cons]
theorem hexRun_none {s : ByteArray} {a : Nat} (h : s.size ≤ a) : hexRun s a = [] := by unfold hexRun; rw [rest_none h]; rfl
theorem hexRun_all (s : ByteArray) (a : Nat) : allHex (hexRun s a) := fun c hc => by
  unfold hexRun at hc
  generalize rest s a = l at hc
  induction l with
  | nil => simp at hc
  | cons x l ih =>
    rw [List.takeWhile_cons] at hc
    split at hc
    · rename_i hx
      rcases List.mem_cons.1 hc with rfl | hc
      · exact hx
      · exact ih hc
    · simp at hc
theorem hexRun_le (s : ByteArray) (a : Nat) (h : a ≤ s.size) : a + (hexRun s a).length ≤ s.size := by
  have h1 : (hexRun s a).length ≤ (rest s a).length := (List.takeWhile_sublist _).length_le
  unfold rest at h1; rw [List.length_drop, size_data] at h1; omega
theorem hexRun_extract (s : ByteArray) (a : Nat) : (s.extract a (a + (hexRun s a).length)).data.toList = hexRun s a := by
  rw [Lib.extract_data, Nat.add_sub_cancel_left]
  exact (List.prefix_iff_eq_take.1 (List.takeWhile_prefix _)).symm

/-- The decoder's width and rune. -/
theorem dec_bd (s : ByteArray) (i : Nat) (h : i < s.size) : 1 ≤ (Utf8.decode s i).2 ∧ (Utf8.decode s i).2 ≤ 4 ∧ i + (Utf8.decode s i).2 ≤ s.size ∧ (Utf8.decode s i).1 ≤ 1114111 := by
  unfold Utf8.decode
  simp only [Bool.and_eq_true, beq_iff_eq, decide_eq_true_eq]
  have hb : ∀ k, (s.get! (i + k)).toNat < 256 := fun k => (s.get! (i + k)).toNat_lt
  have h0 := hb 0; have h1 := hb 1; have h2 := hb 2; have h3 := hb 3
  generalize (s.get! (i + 0)).toNat = b0 at *
  generalize (s.get! (i + 1)).toNat = b1 at *
  generalize (s.get! (i + 2)).toNat = b2 at *
  generalize (s.get! (i + 3)).toNat = b3 at *
  split
  · simp only; omega
  · split
    · split <;> simp only [Utf8.runeError] <;> omega
    · split
      · split <;> simp only [Utf8.runeError] <;> omega
      · split
        · split
          · rename_i hv
            have : Utf8.valid (b0 % 8 * 262144 + b1 % 64 * 4096 + b2 % 64 * 64 + b3 % 64) = true := hv.2
            unfold Utf8.valid at this
            simp at this
            simp only; omega
          · simp only [Utf8.runeError]; omega
        · simp only [Utf8.runeError]; omega
theorem runeAt_bd (s : ByteArray) (a : Nat) (h : a ≤ s.size) : (runeAt s a).2 ≤ 4 ∧ a + (runeAt s a).2 ≤ s.size ∧ (runeAt s a).1 ≤ 1114111 := by
  unfold runeAt
  split
  · rename_i h; have := dec_bd s a h; omega
  · simp only; omega
end Go.Proofs.YthlnfefpdmecaaaGreatDoor

/-
  PLAIN: what a spelling that is read leaves behind it; what Parse hands back.
-/
namespace Go.Proofs.YthlnfefpdmecaaaGreatDoor

theorem rest_len (s : ByteArray) (a : Nat) : (rest s a).length = s.size - a := by unfold rest; rw [List.length_drop, size_data]
theorem byte_ne {x : UInt8} {n : Nat} (h : ¬ x = UInt8.ofNat n) (hn : n < 256 := by decide) : ((x.toNat : Int) != (n : Int)) = true := by
  rw [bne_iff_ne]; intro e
  exact h (UInt8.toNat_inj.1 (by rw [show x.toNat = n by omega]; exact (UInt8.toNat_ofNat_of_lt' hn).symm))
theorem numP_ok {s : ByteArray} {a q : Nat} {r : Int} (ha : a + 2 ≤ s.size) (h : numP s a = .ok (r, q)) : a < q ∧ q ≤ s.size ∧ 0 ≤ r ∧ r ≤ 1114111 := by
  unfold numP at h
  have h1 := hexRun_le s (a + 2) ha
  have h2 := (hexVal_bd _ (hexRun s (a + 2)) rfl (hexRun_all s _)).1
  split at h
  · cases h
  · split at h
    · cases h
    · injection h with h; injection h with h3 h4; subst h3; subst h4; omega
theorem quoP_ok' {s : ByteArray} {a q : Nat} {r : Int} (ha : a + 1 ≤ s.size) (h : quoP s a = .ok (r, q)) : a < q ∧ q ≤ s.size ∧ 0 ≤ r ∧ r ≤ 1114111 := by
  unfold quoP at h
  obtain ⟨h1, h2, h3⟩ := runeAt_bd s (a + 1) ha
  split at h
  · cases h
  · split at h
    · cases h
    · rename_i hq
      split at h
      · cases h
      · injection h with h; injection h with h4 h5; subst h4; subst h5
        have : a + 1 + (runeAt s (a + 1)).2 < s.size := by
          rcases Nat.lt_or_ge (a + 1 + (runeAt s (a + 1)).2) s.size with hlt | hge
          · exact hlt
          · rw [rest_none hge] at hq; simp at hq
        omega
theorem runeP_ok {s : ByteArray} {a q : Nat} {r : Int} (h : runeP s a = .ok (r, q)) : a < q ∧ q ≤ s.size ∧ 0 ≤ r ∧ r ≤ 1114111 := by
  unfold runeP at h
  split at h
  · rename_i h1
    have := (List.isPrefixOf_iff_prefix.1 h1).length_le
    rw [rest_len] at this; simp at this
    exact numP_ok (by omega) h
  · split at h
    · rename_i h1
      have := (List.isPrefixOf_iff_prefix.1 h1).length_le
      rw [rest_len] at this; simp at this
      exact quoP_ok' (by omega) h
    · cases h

/-- What Parse hands back. -/
def ParseEnd (base : Nat) (r : Except (Int × Nat) (List (Int × Int))) (e : Ending) (w' : World) : Prop :=
  match r with
  | .error x => e = .returned (.tuple #[.slice none 0 0, .int .i64 x.1, .int .i64 x.2])
  | .ok l => ∃ A n c, e = .returned (.tuple #[.slice A n c, .int .i64 0, .int .i64 0]) ∧ Own w' base 146 2 A n c ((normR l).map encR)
theorem ParseEnd.err {base : Nat} {r : Except (Int × Nat) (List (Int × Int))} {x : Int × Nat} {w' : World} (h : r = .error x) :
    ParseEnd base r (.returned (.tuple #[.slice none 0 0, .int .i64 x.1, .int .i64 x.2])) w' := by rw [h]; exact rfl
theorem ParseEnd.fine {base : Nat} {r : Except (Int × Nat) (List (Int × Int))} {l : List (Int × Int)} {w' : World} {A : Option Addr} {n c : Nat} (h : r = .ok l) (ho : Own w' base 146 2 A n c ((normR l).map encR)) :
    ParseEnd base r (.returned (.tuple #[.slice A n c, .int .i64 0, .int .i64 0])) w' := by rw [h]; exact ⟨_, _, _, rfl, ho⟩

theorem itemP_ok {s : ByteArray} {a q : Nat} {x : Int × Int} (h : itemP s a = .ok (x, q)) : a < q ∧ q ≤ s.size := by
  unfold itemP at h
  cases h1 : runeP s a with
  | error e => rw [h1] at h; cases h
  | ok y =>
    obtain ⟨lo, p⟩ := y
    have b1 := runeP_ok h1
    rw [h1] at h
    by_cases h45 : (rest s p).head? = some 45
    · simp only [h45, if_true] at h
      cases h2 : runeP s (p + 1) with
      | error e => rw [h2] at h; cases h
      | ok z =>
        obtain ⟨hi, q'⟩ := z
        have b2 := runeP_ok h2
        rw [h2] at h
        simp only at h
        split at h
        · cases h
        · split at h
          · cases h
          · cases h; omega
    · simp only [h45, if_false] at h
      split at h
      · cases h
      · split at h
        · cases h
        · cases h; omega
theorem runeP_err {s : ByteArray} {a p : Nat} {e : Int} (h : runeP s a = .error (e, p)) : 21 ≤ e ∧ e ≤ 23 ∧ p ≤ a + 1 := by
  unfold runeP numP quoP at h
  repeat' split at h
  all_goals first
    | (injection h with h; injection h with h1 h2; subst h1; subst h2; omega)
    | cases h
end Go.Proofs.YthlnfefpdmecaaaGreatDoor

/-
  runes.(*reader).number, quoted, rune, item: a rune of a spelling, or the panic with its error and place.
-/
namespace Go.Proofs.YthlnfefpdmecaaaGreatDoor
open Go.RowKit

/-- The panic with an error and its place. -/
def faultEnd (e : Int × Nat) : Ending := .panicked [{ v := .iface 206 (.agg #[.int .i64 e.1, .int .i64 e.2]), recovered := false }]
/-- The place that a reader is at. -/
def atOf (w : World) (b : Nat) : Nat := match w.cell? ⟨b, 1, none⟩ with | some v => (intOf v).toNat | none => 0
/-- The reader at block b goes through s and is at place a. -/
def Rdr (w : World) (b : Nat) (s : ByteArray) (a : Nat) : Prop := Blk w b 210 #[.string s, .int .i64 a]
section
variable {w w' : World} {b : Nat} {s : ByteArray} {a : Nat}
theorem Rdr.c0 (h : Rdr w b s a) : w.cell? ⟨b, 0, none⟩ = some (.string s) := h.cell 0
theorem Rdr.c1 (h : Rdr w b s a) : w.cell? ⟨b, 1, none⟩ = some (.int .i64 a) := h.cell 1
theorem Rdr.f1 (h : Rdr w b s a) : w.frozen? ⟨b, 1, none⟩ = false := h.frozen 1
theorem Rdr.set (h : Rdr w b s a) (a' : Nat) : Rdr (w.setCell ⟨b, 1, none⟩ (.int .i64 a')) b s a' := h.set_ 1 _
theorem Rdr.set' (h : Rdr w b s a) (v : Int) (a' : Nat) (hv : v = a') : Rdr (w.setCell ⟨b, 1, none⟩ (.int .i64 v)) b s a' := by subst hv; exact h.set a'
theorem Rdr.drewN (h : Rdr w b s a) (q : Nat) : Rdr (w.drewN q) b s a := h
theorem Rdr.below (h : Rdr w b s a) (hb : Below w.heap.size w w') : Rdr w' b s a := Blk.below h hb
theorem Rdr.atOf (h : Rdr w b s a) : atOf w b = a := by unfold YthlnfefpdmecaaaGreatDoor.atOf; rw [h.c1]; simp [intOf]
end

/-- What a method that reads a rune leaves. -/
def RuneEnd (b : Nat) (s : ByteArray) (r : Except (Int × Nat) (Int × Nat)) (e : Ending) (w' : World) : Prop :=
  match r with
  | .error x => e = faultEnd x
  | .ok (r, q) => e = .returned (.int .i32 r) ∧ Rdr w' b s q
theorem RuneEnd.err {b : Nat} {s : ByteArray} {r : Except (Int × Nat) (Int × Nat)} {x : Int × Nat} {w' : World} (h : r = .error x) : RuneEnd b s r (faultEnd x) w' := by rw [h]; exact rfl
theorem RuneEnd.fine {b : Nat} {s : ByteArray} {r : Except (Int × Nat) (Int × Nat)} {n : Int} {q : Nat} {w' : World} (h : r = .ok (n, q)) (hr : Rdr w' b s q) : RuneEnd b s r (.returned (.int .i32 n)) w' := by rw [h]; exact ⟨rfl, hr⟩

set_option maxRecDepth 100000 in
set_option maxHeartbeats 1000000 in
theorem number_any (s : ByteArray) (a b : Nat) (w : World) (hR : Rdr w b s a) (ha : a + 2 ≤ s.size) (hs : s.size ≤ 1000000) :
    Calls Tryz.prog 275 #[.pointer (some ⟨b, 0, none⟩)] w fun e w' => w.grownBy w' (some b) ∧ RuneEnd b s (numP s a) e w' := by
  have c0 := hR.c0
  have c1 := hR.c1
  have f1 := hR.f1
  go_enter Tryz.func275, Tryz.ntmps275
  go_wp2
  go_loopw [18] (fun _ wr => ∃ p : Nat, Rdr wr b s p ∧ Hid (p + (hexRun s p).length = a + 2 + (hexRun s (a + 2)).length) ∧ a + 2 ≤ p ∧ p ≤ s.size ∧ w.grownBy wr (some b)) (fun _ wr => s.size - atOf wr b)
  case atStart => exact ⟨a + 2, hR.set (a + 2), by simp [Hid], by omega, by omega, only_setCell (only_refl _ _) (.inl rfl) _⟩
  case round =>
    clear c0 c1 f1
    obtain ⟨p, hr, HK, hge, hle, hg⟩ := hrel
    have c0 := hr.c0
    have c1 := hr.c1
    have f1 := hr.f1
    have Hat := Lib.hid hr.atOf
    have hstop : ¬ (∃ h : p < s.size, isHexN ((s[p]'h).toNat : Int) = true) → hexRun s p = [] := fun hn => by
      by_cases hlt : p < s.size
      · rw [hexRun_cons hlt, if_neg (fun h => hn ⟨hlt, h⟩)]
      · exact hexRun_none (by omega)
    by_cases hlt : p < s.size ∧ ∃ h : p < s.size, isHexN ((s[p]'h).toNat : Int) = true
    · obtain ⟨hlt, _, hx⟩ := hlt
      have HK' : Hid (p + 1 + (hexRun s (p + 1)).length = a + 2 + (hexRun s (a + 2)).length) := Lib.hid (by rw [← HK.out, hexRun_cons hlt, if_pos hx, List.length_cons]; omega)
      have hcb : ((s[p]'hlt).toNat : Int) ≤ 255 := by have := (s[p]'hlt).toNat_lt; omega
      have hcz : 0 ≤ ((s[p]'hlt).toNat : Int) := by omega
      clear hstop
      go_wp2_with fail
      go_quiet ((go_at_call 296; exact quiet_left (rhex_any _ _ hcz hcb)))
      go_wp2
      have hr2 : Rdr ((wr.drewN nq).setCell ⟨b, 1, none⟩ (.int .i64 (p + 1 : Nat))) b s (p + 1) := Rdr.set (w := wr.drewN nq) hr (p + 1)
      refine ⟨⟨p + 1, hr2, HK', by omega, by omega, only_setCell (only_drewN hg _) (.inl rfl) _⟩, ?_⟩
      show s.size - atOf ((wr.drewN nq).setCell ⟨b, 1, none⟩ (.int .i64 (p + 1 : Nat))) b < s.size - atOf wr b
      rw [hr2.atOf, Hat.out]; omega
    · have hnil : hexRun s p = [] := hstop (fun h => by obtain ⟨h1, h2⟩ := h; exact hlt ⟨h1, h1, h2⟩)
      have HN : Hid ((hexRun s (a + 2)).length = p - (a + 2)) := Lib.hid (by have := HK.out; rw [hnil] at this; simp at this; omega)
      have HX : Hid ((s.extract (a + 2) p).data.toList = hexRun s (a + 2)) := Lib.hid (by have := hexRun_extract s (a + 2); rwa [HN.out, show a + 2 + (p - (a + 2)) = p by omega] at this)
      clear hstop hnil
      obtain ⟨n, Hn, hn⟩ : ∃ n, Hid (n = p - (a + 2)) ∧ n + (a + 2) = p := ⟨p - (a + 2), rfl, by omega⟩
      have hout : (s.size ≤ p) ∨ (∃ h : p < s.size, isHexN ((s[p]'h).toNat : Int) = false) := by
        by_cases h : p < s.size
        · exact .inr ⟨h, by cases hq : isHexN ((s[p]'h).toNat : Int) with
            | false => rfl
            | true => exact absurd ⟨h, h, hq⟩ hlt⟩
        · exact .inl (by omega)
      clear hlt
      rcases hout with hsz | ⟨hlt, hx⟩
      · have hd : decide (p < s.size) = false := decide_eq_false (by omega)
        go_wp2_with fail
        go_quiet (fail)
        clear hd
        go_wp2_with fail
        have hwa : IntKind.i64.wrap ((a : Int) + 2) = (a : Int) + 2 := IntWalk.i64_in _ (by omega)
        have hwb : ((a : Int) + 2).toNat = a + 2 := by omega
        go_quiet (fail)
        clear hwa hwb
        go_wp2_with fail
        all_goals first
          | exact ⟨rfl, only_drewN hg _, RuneEnd.err (x := (21, a)) (by unfold numP; rw [if_pos (by rw [HN.out]; omega)])⟩
          | skip
        have hsx : (s.extract (a + 2) p).size = p - (a + 2) := by rw [← size_data, HX.out, HN.out]
        refine (lParseInt_any (s.extract (a + 2) p) _ (by omega) (by omega) (by rw [HX.out]; exact hexRun_all s _)).mono ?_
        clear hsx
        rw [HX.out]
        rintro e w2 ⟨rfl, hb2⟩
        have hc0 : ¬ ((hexRun s (a + 2)).length < 4 ∨ 6 < (hexRun s (a + 2)).length) := by rw [HN.out]; omega
        have HP : Hid (numP s a = if 1114111 < hexVal (hexRun s (a + 2)) then .error (22, a) else .ok (hexVal (hexRun s (a + 2)), p)) := Lib.hid (by unfold numP; rw [if_neg hc0, HN.out, show a + 2 + (p - (a + 2)) = p by omega])
        have hg2 : w.grownBy w2 (some b) := only_below (only_drewN hg _) hb2
        have hr2 : Rdr w2 b s p := Blk.below (w := wr.drewN _) hr hb2
        have hV0 := (hexVal_bd _ (hexRun s (a + 2)) rfl (hexRun_all s _)).1
        generalize hexVal (hexRun s (a + 2)) = V at HP hV0 ⊢
        clear hc0 hb2
        by_cases hV : 1114111 < V
        · go_wp2
          exact ⟨rfl, hg2, RuneEnd.err (x := (22, a)) (by rw [HP.out, if_pos hV])⟩
        · have hV' : V ≤ 1114111 := by omega
          have HP' : Hid (numP s a = .ok (V, p)) := Lib.hid (by rw [HP.out, if_neg hV])
          clear hV
          go_wp2
          go_ret
          exact ⟨hg2, RuneEnd.fine HP'.out hr2⟩
      · have hcb : ((s[p]'hlt).toNat : Int) ≤ 255 := by have := (s[p]'hlt).toNat_lt; omega
        have hcz : 0 ≤ ((s[p]'hlt).toNat : Int) := by omega
        go_wp2_with fail
        go_quiet ((go_at_call 296; exact quiet_left (rhex_any _ _ hcz hcb)))
        go_wp2_with fail
        have hwa : IntKind.i64.wrap ((a : Int) + 2) = (a : Int) + 2 := IntWalk.i64_in _ (by omega)
        have hwb : ((a : Int) + 2).toNat = a + 2 := by omega
        go_quiet (fail)
        clear hwa hwb
        go_wp2_with fail
        all_goals first
          | exact ⟨rfl, only_drewN hg _, RuneEnd.err (x := (21, a)) (by unfold numP; rw [if_pos (by rw [HN.out]; omega)])⟩
          | skip
        have hsx : (s.extract (a + 2) p).size = p - (a + 2) := by rw [← size_data, HX.out, HN.out]
        refine (lParseInt_any (s.extract (a + 2) p) _ (by omega) (by omega) (by rw [HX.out]; exact hexRun_all s _)).mono ?_
        clear hsx
        rw [HX.out]
        rintro e w2 ⟨rfl, hb2⟩
        have hc0 : ¬ ((hexRun s (a + 2)).length < 4 ∨ 6 < (hexRun s (a + 2)).length) := by rw [HN.out]; omega
        have HP : Hid (numP s a = if 1114111 < hexVal (hexRun s (a + 2)) then .error (22, a) else .ok (hexVal (hexRun s (a + 2)), p)) := Lib.hid (by unfold numP; rw [if_neg hc0, HN.out, show a + 2 + (p - (a + 2)) = p by omega])
        have hg2 : w.grownBy w2 (some b) := only_below (only_drewN hg _) hb2
        have hr2 : Rdr w2 b s p := Blk.below (w := wr.drewN _) hr hb2
        have hV0 := (hexVal_bd _ (hexRun s (a + 2)) rfl (hexRun_all s _)).1
        generalize hexVal (hexRun s (a + 2)) = V at HP hV0 ⊢
        clear hc0 hb2
        by_cases hV : 1114111 < V
        · go_wp2
          exact ⟨rfl, hg2, RuneEnd.err (x := (22, a)) (by rw [HP.out, if_pos hV])⟩
        · have hV' : V ≤ 1114111 := by omega
          have HP' : Hid (numP s a = .ok (V, p)) := Lib.hid (by rw [HP.out, if_neg hV])
          clear hV
          go_wp2
          go_ret
          exact ⟨hg2, RuneEnd.fine HP'.out hr2⟩

/-- The tables that the library's decoder reads. -/
def Tabs (w : World) : Prop := Lib.Utf8Tabs 0 1 w
theorem Tabs.below {w w' : World} (h : Tabs w) (hb : Below w.heap.size w w') : Tabs w' := Utf8Tabs_below h hb
theorem lDecode_any (s : ByteArray) (a : Nat) (w : World) (hT : Tabs w) (ha : a ≤ s.size) :
    Calls Tryz.prog 113 #[.string (s.extract a s.size)] w fun e w' => e = .returned (.tuple #[.int .i32 (runeAt s a).1, .int .i64 (runeAt s a).2]) ∧ Below w.heap.size w w' := by
  have h := Tryz.utf8_DecodeRuneInString (s.extract a s.size) w hT
  have e : Lib.decodeGo (s.extract a s.size) = runeAt s a := by
    unfold runeAt
    split
    · rename_i h
      unfold Lib.decodeGo
      rw [if_neg (by rw [Lib.tail_size]; omega), Lib.tail_decode, Nat.add_zero]
    · unfold Lib.decodeGo
      rw [if_pos (by rw [ByteArray.size_extract]; omega)]
  rw [e] at h
  exact h

theorem quoP_none {s : ByteArray} {a : Nat} (h : (runeAt s (a + 1)).2 = 0) : quoP s a = .error (21, a) := if_pos h
theorem quoP_open {s : ByteArray} {a : Nat} (h : (runeAt s (a + 1)).2 ≠ 0) (h2 : (rest s (a + 1 + (runeAt s (a + 1)).2)).head? ≠ some 39) : quoP s a = .error (21, a) := by unfold quoP; rw [if_neg h, if_pos h2]
theorem quoP_bad {s : ByteArray} {a : Nat} (h : (runeAt s (a + 1)).2 ≠ 0) (h2 : (rest s (a + 1 + (runeAt s (a + 1)).2)).head? = some 39) (h3 : (runeAt s (a + 1)).1 = 65533 ∧ (runeAt s (a + 1)).2 = 1) : quoP s a = .error (23, a + 1) := by
  unfold quoP; rw [if_neg h, if_neg (fun k => k h2), if_pos h3]
theorem quoP_ok {s : ByteArray} {a : Nat} (h : (runeAt s (a + 1)).2 ≠ 0) (h2 : (rest s (a + 1 + (runeAt s (a + 1)).2)).head? = some 39) (h3 : ¬ ((runeAt s (a + 1)).1 = 65533 ∧ (runeAt s (a + 1)).2 = 1)) : quoP s a = .ok ((runeAt s (a + 1)).1, a + 2 + (runeAt s (a + 1)).2) := by
  unfold quoP; rw [if_neg h, if_neg (fun k => k h2), if_neg h3]

set_option maxRecDepth 100000 in
set_option maxHeartbeats 1000000 in
theorem quoted_any (s : ByteArray) (a b : Nat) (w : World) (hT : Tabs w) (hR : Rdr w b s a) (ha : a + 1 ≤ s.size) (hs : s.size ≤ 1000000) :
    Calls Tryz.prog 276 #[.pointer (some ⟨b, 0, none⟩)] w fun e w' => w.grownBy w' (some b) ∧ RuneEnd b s (quoP s a) e w' := by
  have c0 := hR.c0
  have c1 := hR.c1
  have HD := Lib.hid (lDecode_any s (a + 1) w hT ha)
  obtain ⟨hb1, hb2, hb3⟩ := runeAt_bd s (a + 1) ha
  have HN := Lib.hid (@quoP_none s a)
  have HO := Lib.hid (@quoP_open s a)
  have HB := Lib.hid (@quoP_bad s a)
  have HG := Lib.hid (@quoP_ok s a)
  generalize (runeAt s (a + 1)).2 = n at HD HN HO HB HG hb1 hb2
  generalize (runeAt s (a + 1)).1 = r at HD HB HG hb3
  generalize quoP s a = Q at HN HO HB HG ⊢
  go_enter Tryz.func276, Tryz.ntmps276
  go_wp2_with fail
  refine HD.out.mono ?_
  rintro e w2 ⟨rfl, hbw⟩
  have hr2 : Rdr w2 b s a := Blk.below hR hbw
  have hg2 : w.grownBy w2 (some b) := only_below (only_refl _ _) hbw
  clear c0 c1
  have c0 := hr2.c0
  have c1 := hr2.c1
  have f1 := hr2.f1
  by_cases hn : n = 0
  · have HE := Lib.hid (HN.out hn)
    have hz : ((n : Int) == 0) = true := by simp [hn]
    clear hn
    go_wp2
    exact ⟨rfl, hg2, RuneEnd.err (x := (21, a)) HE.out⟩
  · have hz : ((n : Int) == 0) = false := by simp [hn]
    have HNz := Lib.hid hn
    have hn1 : 1 ≤ n := by omega
    clear hn
    have hr3 : Rdr (w2.setCell ⟨b, 1, none⟩ (.int .i64 ((a : Int) + 1 + n))) b s (a + 1 + n) := hr2.set' _ _ (by omega)
    have hg3 : w.grownBy (w2.setCell ⟨b, 1, none⟩ (.int .i64 ((a : Int) + 1 + n))) (some b) := only_setCell hg2 (.inl rfl) _
    by_cases hp : a + 1 + n < s.size
    · have hix := index_at s ((a : Int) + 1 + n) (a + 1 + n) (by omega) hp
      by_cases hq : s[a + 1 + n]'hp = 39
      · have HQ : Hid ((rest s (a + 1 + n)).head? = some 39) := Lib.hid (by rw [rest_head hp, hq])
        have hqb : (((s[a + 1 + n]'hp).toNat : Int) != 39) = false := by rw [hq]; rfl
        clear hq
        have hd : decide ((s.size : Int) ≤ (a : Int) + 1 + n) = false := decide_eq_false (by omega)
        by_cases h3 : r = 65533 ∧ n = 1
        · have HE := Lib.hid (HB.out HNz.out HQ.out h3)
          have hra : ((r : Int) == 65533) = true := by simp [h3.1]
          have hna : ((n : Int) == 1) = true := by simp [h3.2]
          clear h3
          go_wp2_with fail
          go_quiet (fail)
          clear hd
          go_wp2
          exact ⟨rfl, only_drewN hg3 _, RuneEnd.err (x := (23, a + 1)) HE.out⟩
        · have HE := Lib.hid (HG.out HNz.out HQ.out h3)
          by_cases hr65 : r = 65533
          · have hra : ((r : Int) == 65533) = true := by simp [hr65]
            have hna : ((n : Int) == 1) = false := by simp; omega
            clear h3 hr65
            go_wp2_with fail
            go_quiet (fail)
            clear hd
            go_wp2
            go_ret
            exact ⟨only_setCell (only_drewN hg3 _) (.inl rfl) _, RuneEnd.fine HE.out ((hr3.drewN _).set' _ _ (by omega))⟩
          · have hra : ((r : Int) == 65533) = false := by simp; omega
            clear h3 hr65
            go_wp2_with fail
            go_quiet (fail)
            clear hd
            go_wp2
            go_ret
            exact ⟨only_setCell (only_drewN hg3 _) (.inl rfl) _, RuneEnd.fine HE.out ((hr3.drewN _).set' _ _ (by omega))⟩
      · have HE := Lib.hid (HO.out HNz.out (by rw [rest_head hp]; simpa using hq))
        have hqb : (((s[a + 1 + n]'hp).toNat : Int) != 39) = true := by
          rw [bne_iff_ne]; intro e
          exact hq (UInt8.toNat_inj.1 (by have : (s[a + 1 + n]'hp).toNat = 39 := by omega
                                          rw [this]; rfl))
        clear hq
        have hd : decide ((s.size : Int) ≤ (a : Int) + 1 + n) = false := decide_eq_false (by omega)
        go_wp2_with fail
        go_quiet (fail)
        clear hd
        go_wp2
        exact ⟨rfl, only_drewN hg3 _, RuneEnd.err (x := (21, a)) HE.out⟩
    · have HE := Lib.hid (HO.out HNz.out (by rw [rest_none (by omega)]; simp))
      have hd : decide ((s.size : Int) ≤ (a : Int) + 1 + n) = true := decide_eq_true (by omega)
      clear hp
      go_wp2_with fail
      go_quiet (fail)
      clear hd
      go_wp2
      exact ⟨rfl, only_drewN hg3 _, RuneEnd.err (x := (21, a)) HE.out⟩

theorem rest_extract (s : ByteArray) (a : Nat) : (s.extract a s.size).data.toList = rest s a := by
  rw [Lib.extract_data]; unfold rest
  rw [List.take_of_length_le (by rw [List.length_drop, size_data]; omega)]
theorem lHasPrefix_any (s : ByteArray) (a : Nat) (p : ByteArray) (w : World) :
    Calls Tryz.prog 274 #[.string (s.extract a s.size), .string p] w fun e w' => e = .returned (.bool (p.data.toList.isPrefixOf (rest s a))) ∧ w = w' := by
  have h := Tryz.strings_HasPrefix (s.extract a s.size) p w
  refine h.mono ?_
  rintro e w' ⟨rfl, rfl⟩
  exact ⟨by rw [rest_extract]; rfl, rfl⟩
theorem lHasPrefix_is (s : ByteArray) (a : Nat) (p : ByteArray) (v : Bool) (h : p.data.toList.isPrefixOf (rest s a) = v) (w : World) :
    Calls Tryz.prog 274 #[.string (s.extract a s.size), .string p] w fun e w' => e = .returned (.bool v) ∧ w = w' :=
  (lHasPrefix_any s a p w).mono fun _ _ ⟨he, hw⟩ => ⟨by rw [he, h], hw⟩

set_option maxHeartbeats 1000000 in
theorem rune_any (s : ByteArray) (a b : Nat) (w : World) (hT : Tabs w) (hR : Rdr w b s a) (ha : a ≤ s.size) (hs : s.size ≤ 1000000) :
    Calls Tryz.prog 240 #[.pointer (some ⟨b, 0, none⟩)] w fun e w' => w.grownBy w' (some b) ∧ RuneEnd b s (runeP s a) e w' := by
  have c0 := hR.c0
  have c1 := hR.c1
  cases h1 : [85, 43].isPrefixOf (rest s a) with
  | true =>
    have HE : Hid (runeP s a = numP s a) := Lib.hid (by unfold runeP; rw [h1]; rfl)
    have hl : a + 2 ≤ s.size := by
      have := (List.isPrefixOf_iff_prefix.1 h1).length_le
      rw [rest_len] at this; simp at this; omega
    have HP := Lib.hid (fun W => lHasPrefix_is s a ⟨#[85, 43]⟩ true h1 W)
    have HN := Lib.hid (fun W hr => number_any s a b W hr hl hs)
    clear h1
    rw [HE.out]
    generalize numP s a = Q at HN ⊢
    cases Q with
    | error x =>
      go_enter Tryz.func240, Tryz.ntmps240
      go_wp2_with fail
      go_quiet (fail)
      go_wp2_with fail
      refine (HP.out _).mono ?_
      rintro e w' ⟨rfl, rfl⟩
      go_wp2_with fail
      refine (HN.out _ (hR.drewN _)).mono ?_
      rintro e w2 ⟨hg, rfl⟩
      exact ⟨rfl, only_trans (only_drewN (only_refl _ _) _) hg, RuneEnd.err (x := x) rfl⟩
    | ok y =>
      obtain ⟨r, q⟩ := y
      go_enter Tryz.func240, Tryz.ntmps240
      go_wp2_with fail
      go_quiet (fail)
      go_wp2_with fail
      refine (HP.out _).mono ?_
      rintro e w' ⟨rfl, rfl⟩
      go_wp2_with fail
      refine (HN.out _ (hR.drewN _)).mono ?_
      rintro e w2 ⟨hg, rfl, hr2⟩
      go_wp2
      go_ret
      exact ⟨only_trans (only_drewN (only_refl _ _) _) hg, RuneEnd.fine rfl hr2⟩
  | false =>
    have HP := Lib.hid (fun W => lHasPrefix_is s a ⟨#[85, 43]⟩ false h1 W)
    cases h2 : [39].isPrefixOf (rest s a) with
    | true =>
      have HE : Hid (runeP s a = quoP s a) := Lib.hid (by unfold runeP; rw [h1, h2]; rfl)
      have hl : a + 1 ≤ s.size := by
        have := (List.isPrefixOf_iff_prefix.1 h2).length_le
        rw [rest_len] at this; simp at this; omega
      have HP2 := Lib.hid (fun W => lHasPrefix_is s a ⟨#[39]⟩ true h2 W)
      have HN := Lib.hid (fun W hW hr => quoted_any s a b W hW hr hl hs)
      clear h1 h2
      rw [HE.out]
      generalize quoP s a = Q at HN ⊢
      cases Q with
      | error x =>
        go_enter Tryz.func240, Tryz.ntmps240
        go_wp2_with fail
        go_quiet (fail)
        go_wp2_with fail
        refine (HP.out _).mono ?_
        rintro e w' ⟨rfl, rfl⟩
        go_wp2_with fail
        refine (HP2.out _).mono ?_
        rintro e w' ⟨rfl, rfl⟩
        go_wp2_with fail
        refine (HN.out _ (hT.below (below_refl_drewN _ _)) (hR.drewN _)).mono ?_
        rintro e w2 ⟨hg, rfl⟩
        exact ⟨rfl, only_trans (only_drewN (only_refl _ _) _) hg, RuneEnd.err (x := x) rfl⟩
      | ok y =>
        obtain ⟨r, q⟩ := y
        go_enter Tryz.func240, Tryz.ntmps240
        go_wp2_with fail
        go_quiet (fail)
        go_wp2_with fail
        refine (HP.out _).mono ?_
        rintro e w' ⟨rfl, rfl⟩
        go_wp2_with fail
        refine (HP2.out _).mono ?_
        rintro e w' ⟨rfl, rfl⟩
        go_wp2_with fail
        refine (HN.out _ (hT.below (below_refl_drewN _ _)) (hR.drewN _)).mono ?_
        rintro e w2 ⟨hg, rfl, hr2⟩
        go_wp2
        go_ret
        exact ⟨only_trans (only_drewN (only_refl _ _) _) hg, RuneEnd.fine rfl hr2⟩
    | false =>
      have HE : Hid (runeP s a = .error (21, a)) := Lib.hid (by unfold runeP; rw [h1, h2]; rfl)
      have HP2 := Lib.hid (fun W => lHasPrefix_is s a ⟨#[39]⟩ false h2 W)
      clear h1 h2
      go_enter Tryz.func240, Tryz.ntmps240
      go_wp2_with fail
      go_quiet (fail)
      go_wp2_with fail
      refine (HP.out _).mono ?_
      rintro e w' ⟨rfl, rfl⟩
      go_wp2_with fail
      refine (HP2.out _).mono ?_
      rintro e w' ⟨rfl, rfl⟩
      go_wp2
      exact ⟨rfl, only_drewN (only_refl _ _) _, RuneEnd.err (x := (21, a)) HE.out⟩
end Go.Proofs.YthlnfefpdmecaaaGreatDoor

/-
  PLAIN: lines of a database: where a remark begins, where a line is parted; blanks at both ends. No walk.
-/
namespace Go.Proofs.YthlnfefpdmecaaaGreatDoor

def bytesOf (l : List UInt8) : ByteArray := ⟨l.toArray⟩
theorem bytesOf_list (l : List UInt8) : (bytesOf l).data.toList = l := by simp [bytesOf]
theorem bytesOf_size (l : List UInt8) : (bytesOf l).size = l.length := by rw [← size_data, bytesOf_list]
theorem bytesOf_get (l : List UInt8) (k : Nat) : (bytesOf l).get! k = l.getD k 0 := by rw [← Lib.getD_get!', bytesOf_list]
theorem bytesOf_data (s : ByteArray) : bytesOf s.data.toList = s := by simp [bytesOf]

/-- How many bytes a rune in quotes has at the beginning. -/
def qtL : List UInt8 → Option Nat
  | [] => none
  | c :: r => if c = 39 ∧ r ≠ [] ∧ r[(Utf8.decode (bytesOf r) 0).2]? = some 39 then some ((Utf8.decode (bytesOf r) 0).2 + 2) else none
theorem qtL_cons (c : UInt8) (r : List UInt8) : qtL (c :: r) = if c = 39 ∧ r ≠ [] ∧ r[(Utf8.decode (bytesOf r) 0).2]? = some 39 then some ((Utf8.decode (bytesOf r) 0).2 + 2) else none := rfl
theorem decL_bd {r : List UInt8} (h : r ≠ []) : 1 ≤ (Utf8.decode (bytesOf r) 0).2 ∧ (Utf8.decode (bytesOf r) 0).2 ≤ 4 ∧ (Utf8.decode (bytesOf r) 0).2 ≤ r.length := by
  have hl : 0 < (bytesOf r).size := by rw [bytesOf_size]; exact List.length_pos_iff.2 h
  have := dec_bd (bytesOf r) 0 hl
  rw [bytesOf_size] at this
  omega
theorem qtL_some {l : List UInt8} {k : Nat} (h : qtL l = some k) : 3 ≤ k ∧ k ≤ 6 ∧ k ≤ l.length ∧ l[0]? = some 39 ∧ l[k - 1]? = some 39 := by
  cases l with
  | nil => simp [qtL] at h
  | cons c r =>
    rw [qtL_cons] at h
    split at h
    · rename_i hc
      obtain ⟨rfl, h2, h3⟩ := hc
      injection h with h
      have hd := decL_bd h2
      have hlt := (List.getElem?_eq_some_iff.1 h3).1
      refine ⟨by omega, by omega, by simp only [List.length_cons]; omega, rfl, ?_⟩
      rw [← h, show (Utf8.decode (bytesOf r) 0).2 + 2 - 1 = (Utf8.decode (bytesOf r) 0).2 + 1 by omega, List.getElem?_cons_succ]
      exact h3
    · cases h
theorem decN_39 {n m b0 b1 b2 b3 c1 c2 c3 R W : Nat} (h : Lib.decodeN n b0 b1 b2 b3 = (R, W)) (hn : W + 1 ≤ n) (hm : W + 1 ≤ m) (hW : 1 ≤ W) (h1 : c1 = b1) (h2 : 2 ≤ W → c2 = b2) (h3 : 3 ≤ W → c3 = b3) (q1 : W = 1 → b1 = 39) :
    Lib.decodeN m b0 c1 c2 c3 = (R, W) := by
  subst h1
  unfold Lib.decodeN at h
  split at h
  · rename_i g0
    injection h with hR hW'
    subst hR; subst hW'
    unfold Lib.decodeN; rw [if_pos g0]
  · rename_i g0
    split at h
    · rename_i g1
      split at h
      · rename_i g2
        injection h with hR hW'
        subst hR; subst hW'
        unfold Lib.decodeN; rw [if_neg g0, if_pos ⟨g1.1, by omega, g1.2.2⟩, if_pos g2]
      · injection h with hR hW'
        subst hW'
        have := q1 rfl
        omega
    · rename_i g1
      split at h
      · rename_i g2
        split at h
        · rename_i g3
          injection h with hR hW'
          subst hR; subst hW'
          obtain rfl := h2 (by omega)
          unfold Lib.decodeN; rw [if_neg g0, if_neg (by omega), if_pos ⟨g2.1, ⟨by omega, g2.2.1.2⟩, by omega, g2.2.2.2⟩, if_pos g3]
        · injection h with hR hW'
          subst hW'
          have := q1 rfl
          omega
      · rename_i g2
        split at h
        · rename_i g3
          split at h
          · rename_i g4
            injection h with hR hW'
            subst hR; subst hW'
            obtain rfl := h2 (by omega)
            obtain rfl := h3 (by omega)
            unfold Lib.decodeN; rw [if_neg g0, if_neg (by omega), if_neg (by omega), if_pos ⟨g3.1, ⟨by omega, g3.2.1.2⟩, ⟨by omega, g3.2.2.1.2⟩, by omega, g3.2.2.2.2⟩, if_pos g4]
          · injection h with hR hW'
            subst hW'
            have := q1 rfl
            omega
        · injection h with hR hW'
          subst hR; subst hW'
          have := q1 rfl
          subst this
          unfold Lib.decodeN; rw [if_neg g0, if_neg (by omega), if_neg (by omega), if_neg (by omega)]
/-- Whether a rune in quotes stands at the beginning hangs on its own bytes alone. -/
theorem qtL_same {l m : List UInt8} {k : Nat} (h : qtL l = some k) (hm : l.take k = m.take k) : qtL m = some k := by
  have hq := qtL_some h
  have hml : k ≤ m.length := by
    have := congrArg List.length hm
    rw [List.length_take, List.length_take] at this; omega
  have hg : ∀ i, i < k → m[i]? = l[i]? := fun i hi => by
    have := congrArg (·[i]?) hm
    simp only [List.getElem?_take_of_lt hi] at this
    exact this.symm
  cases l with
  | nil => simp [qtL] at h
  | cons c r =>
    cases m with
    | nil => simp at hml; omega
    | cons d q =>
      have h0 := hg 0 (by omega)
      simp only [List.getElem?_cons_zero, Option.some.injEq] at h0
      subst h0
      rw [qtL_cons] at h ⊢
      split at h
      · rename_i hc
        obtain ⟨rfl, h2, h3⟩ := hc
        injection h with h
        have hd := decL_bd h2
        have hr : ∀ i, i + 1 < k → q[i]? = r[i]? := fun i hi => by
          have := hg (i + 1) hi
          rwa [List.getElem?_cons_succ, List.getElem?_cons_succ] at this
        have hgd : ∀ i, i + 1 < k → q.getD i 0 = r.getD i 0 := fun i hi => by
          rw [List.getD_eq_getElem?_getD, List.getD_eq_getElem?_getD, hr i hi]
        have hlr := (List.getElem?_eq_some_iff.1 h3).1
        have hlq : k ≤ q.length + 1 := by simpa using hml
        have hqne : q ≠ [] := by intro e; subst e; simp at hlq; omega
        have hsame : Utf8.decode (bytesOf q) 0 = Utf8.decode (bytesOf r) 0 := by
          obtain ⟨⟨R, W⟩, hD⟩ : ∃ d, Utf8.decode (bytesOf r) 0 = d := ⟨_, rfl⟩
          rw [hD] at hd h h3 hlr ⊢
          simp only at hd h h3 hlr
          rw [Lib.decode_at] at hD ⊢
          simp only [bytesOf_get, bytesOf_size, Nat.zero_add, Nat.sub_zero] at hD ⊢
          rw [hgd 0 (by omega)]
          refine decN_39 hD (by omega) (by omega) hd.1 (by rw [hgd 1 (by omega)]) (fun h => by rw [hgd 2 (by omega)]) (fun h => by rw [hgd 3 (by omega)]) (fun h1 => ?_)
          subst h1
          rw [List.getD_eq_getElem?_getD, h3]; rfl
        rw [hsame, if_pos ⟨rfl, hqne, by rw [hr _ (by omega)]; exact h3⟩, h]
      · cases h
theorem qtL_take {l : List UInt8} {k h : Nat} (hq : qtL l = some k) (hk : k ≤ h) : qtL (l.take h) = some k := qtL_same hq (by rw [List.take_take, Nat.min_eq_left hk])
theorem qtL_of_take {l : List UInt8} {k h : Nat} (hq : qtL (l.take h) = some k) : qtL l = some k := by
  have h1 := (qtL_some hq).2.2.1
  refine qtL_same hq ?_
  rw [List.take_take, Nat.min_eq_left]
  rw [List.length_take] at h1; omega
theorem qtL_append {l m : List UInt8} {k : Nat} (hq : qtL l = some k) : qtL (l ++ m) = some k :=
  qtL_same hq (by rw [List.take_append_of_le_length (qtL_some hq).2.2.1])

/-- The first of a byte that stands in no quotes. -/
def findL (c : UInt8) : Nat → List UInt8 → Option Nat
  | 0, _ => none
  | _ + 1, [] => none
  | f + 1, x :: r => match qtL (x :: r) with
    | some k => (findL c f ((x :: r).drop k)).map (· + k)
    | none => if x = c then some 0 else (findL c f r).map (· + 1)
def findP (c : UInt8) (l : List UInt8) : Option Nat := findL c l.length l
theorem findL_fuel (c : UInt8) : ∀ (f g : Nat) (l : List UInt8), l.length ≤ f → l.length ≤ g → findL c f l = findL c g l
  | 0, g, l, hf, _ => by
    have : l = [] := List.eq_nil_of_length_eq_zero (by omega)
    subst this
    cases g <;> rfl
  | f + 1, 0, l, _, hg => by
    have : l = [] := List.eq_nil_of_length_eq_zero (by omega)
    subst this; rfl
  | f + 1, g + 1, [], _, _ => rfl
  | f + 1, g + 1, x :: r, hf, hg => by
    simp only [List.length_cons] at hf hg
    unfold findL
    cases hq : qtL (x :: r) with
    | some k =>
      have := qtL_some hq
      simp only
      rw [findL_fuel c f g _ (by rw [List.length_drop, List.length_cons]; omega) (by rw [List.length_drop, List.length_cons]; omega)]
    | none => simp only; rw [findL_fuel c f g r (by omega) (by omega)]
theorem findP_nil (c : UInt8) : findP c [] = none := rfl
theorem findP_qt {c : UInt8} {l : List UInt8} {k : Nat} (h : qtL l = some k) : findP c l = (findP c (l.drop k)).map (· + k) := by
  cases l with
  | nil => simp [qtL] at h
  | cons x r =>
    have := qtL_some h
    unfold findP
    rw [List.length_cons]
    show (match qtL (x :: r) with | some k => _ | none => _) = _
    rw [h]
    simp only
    rw [findL_fuel c r.length ((x :: r).drop k).length _ (by rw [List.length_drop, List.length_cons]; omega) (Nat.le_refl _)]
theorem findP_cons {c x : UInt8} {r : List UInt8} (h : qtL (x :: r) = none) : findP c (x :: r) = if x = c then some 0 else (findP c r).map (· + 1) := by
  unfold findP
  rw [List.length_cons]
  show (match qtL (x :: r) with | some k => _ | none => _) = _
  rw [h]
theorem findP_lt {c : UInt8} : ∀ (n : Nat) (l : List UInt8), l.length ≤ n → ∀ i, findP c l = some i → l[i]? = some c
  | 0, l, hn, i, h => by
    have : l = [] := List.eq_nil_of_length_eq_zero (by omega)
    subst this; simp [findP_nil] at h
  | n + 1, [], _, i, h => by simp [findP_nil] at h
  | n + 1, x :: r, hn, i, h => by
    cases hq : qtL (x :: r) with
    | some k =>
      have := qtL_some hq
      rw [findP_qt hq] at h
      obtain ⟨j, hj, rfl⟩ := Option.map_eq_some_iff.1 h
      have ih := findP_lt n _ (by rw [List.length_drop, List.length_cons]; simp at hn; omega) j hj
      rw [List.getElem?_drop] at ih
      rw [Nat.add_comm]; exact ih
    | none =>
      rw [findP_cons hq] at h
      split at h
      · rename_i hx
        injection h with h; subst h; subst hx; rfl
      · obtain ⟨j, hj, rfl⟩ := Option.map_eq_some_iff.1 h
        rw [List.getElem?_cons_succ]
        exact findP_lt n r (by simpa using hn) j hj

def blkB (c : UInt8) : Bool := c == 32 || c == 9
/-- Without blanks at both ends. -/
def trimL (l : List UInt8) : List UInt8 := ((l.dropWhile blkB).reverse.dropWhile blkB).reverse
theorem qtL_blank {x : UInt8} {r : List UInt8} (h : blkB x = true) : qtL (x :: r) = none := by
  rw [qtL_cons, if_neg]
  rintro ⟨rfl, _⟩
  simp [blkB] at h
theorem qtL_blanks : ∀ {l : List UInt8}, (∀ c ∈ l, blkB c = true) → qtL l = none
  | [], _ => rfl
  | x :: _, h => qtL_blank (h x (by simp))
theorem findP_blanks {c : UInt8} (hc : blkB c = false) : ∀ {l : List UInt8}, (∀ d ∈ l, blkB d = true) → findP c l = none
  | [], _ => rfl
  | x :: r, h => by
    rw [findP_cons (qtL_blank (h x (by simp))), if_neg (by rintro rfl; rw [h x (by simp)] at hc; cases hc), findP_blanks hc (fun d hd => h d (by simp [hd]))]; rfl
/-- Blanks ahead move the place alone. -/
theorem findP_lead {c : UInt8} (hc : blkB c = false) : ∀ (b l : List UInt8), (∀ d ∈ b, blkB d = true) → findP c (b ++ l) = (findP c l).map (· + b.length)
  | [], l, _ => by simp
  | x :: b, l, h => by
    rw [List.cons_append, findP_cons (qtL_blank (h x (by simp))), if_neg (by rintro rfl; rw [h x (by simp)] at hc; cases hc), findP_lead hc b l (fun d hd => h d (by simp [hd])), Option.map_map]
    congr 1
theorem qtL_tail {l b : List UInt8} (hb : ∀ d ∈ b, blkB d = true) (hl : qtL l = none) : qtL (l ++ b) = none := by
  cases hq : qtL (l ++ b) with
  | none => rfl
  | some k =>
    have h1 := qtL_some hq
    have hk : k ≤ l.length := by
      rcases Nat.lt_or_ge (k - 1) l.length with h | h
      · omega
      · have h2 := h1.2.2.2.2
        rw [List.getElem?_append_right h] at h2
        have := hb _ (List.mem_of_getElem? h2)
        simp [blkB] at this
    have : qtL l = some k := qtL_same hq (by rw [List.take_append_of_le_length hk])
    rw [hl] at this; cases this
/-- Blanks behind change nothing. -/
theorem findP_trail {c : UInt8} (hc : blkB c = false) : ∀ (n : Nat) (l b : List UInt8), l.length ≤ n → (∀ d ∈ b, blkB d = true) → findP c (l ++ b) = findP c l
  | _, [], b, _, hb => by rw [List.nil_append, findP_blanks hc hb]; rfl
  | 0, x :: r, _, h, _ => by simp at h
  | n + 1, x :: r, b, hn, hb => by
    cases hq : qtL (x :: r) with
    | some k =>
      have h1 := qtL_some hq
      rw [findP_qt (qtL_append hq), findP_qt hq, List.drop_append_of_le_length h1.2.2.1, findP_trail hc n _ b (by rw [List.length_drop]; simp only [List.length_cons] at hn ⊢; omega) hb]
    | none =>
      have h1 := qtL_tail hb hq
      rw [List.cons_append] at h1 ⊢
      rw [findP_cons h1, findP_cons hq, findP_trail hc n r b (by simpa using hn) hb]
end Go.Proofs.YthlnfefpdmecaaaGreatDoor

/-
  PLAIN: a line of a database as the document parts it, and as the program does: the same. No walk.
-/
namespace Go.Proofs.YthlnfefpdmecaaaGreatDoor

/- Blanks at both ends. -/
def trimR (l : List UInt8) : List UInt8 := (l.reverse.dropWhile blkB).reverse
theorem trimL_eq (l : List UInt8) : trimL l = trimR (l.dropWhile blkB) := rfl
theorem dropWhile_all {p : UInt8 → Bool} : ∀ {l : List UInt8}, (∀ c ∈ l, p c = true) → l.dropWhile p = []
  | [], _ => rfl
  | x :: r, h => by rw [List.dropWhile_cons, if_pos (h x (by simp)), dropWhile_all (fun c hc => h c (by simp [hc]))]
theorem dropWhile_app {p : UInt8 → Bool} : ∀ {b l : List UInt8}, (∀ c ∈ b, p c = true) → (b ++ l).dropWhile p = l.dropWhile p
  | [], _, _ => rfl
  | x :: b, l, h => by rw [List.cons_append, List.dropWhile_cons, if_pos (h x (by simp)), dropWhile_app (fun c hc => h c (by simp [hc]))]
theorem dropWhile_stop {p : UInt8 → Bool} {x : UInt8} {r : List UInt8} (h : p x = false) : (x :: r).dropWhile p = x :: r := by
  rw [List.dropWhile_cons, if_neg (by rw [h]; decide)]
/-- Neither its first byte nor its last one is a blank. -/
def Bare (u : List UInt8) : Prop := u = [] ∨ (∃ x, u.head? = some x ∧ blkB x = false) ∧ ∃ y, u.getLast? = some y ∧ blkB y = false
theorem bare_head {u : List UInt8} (h : Bare u) : u.dropWhile blkB = u := by
  rcases h with rfl | ⟨⟨x, hx, hb⟩, _⟩
  · rfl
  · cases u with
    | nil => simp at hx
    | cons y r => simp at hx; subst hx; exact dropWhile_stop hb
theorem bare_last {u : List UInt8} (h : Bare u) : trimR u = u := by
  unfold trimR
  have : u.reverse.dropWhile blkB = u.reverse := by
    rcases h with rfl | ⟨_, ⟨y, hy, hb⟩⟩
    · rfl
    · rcases List.eq_nil_or_concat u with rfl | ⟨o, z, rfl⟩
      · simp at hy
      · rw [List.concat_eq_append] at hy ⊢
        simp at hy; subst hy
        rw [List.reverse_append, List.reverse_singleton, List.singleton_append]
        exact dropWhile_stop hb
  rw [this, List.reverse_reverse]
theorem trimR_app {l e : List UInt8} (he : ∀ c ∈ e, blkB c = true) : trimR (l ++ e) = trimR l := by
  unfold trimR
  rw [List.reverse_append, dropWhile_app (fun c hc => he c (List.mem_reverse.1 hc))]
theorem trim_unique {b u e : List UInt8} (hb : ∀ c ∈ b, blkB c = true) (he : ∀ c ∈ e, blkB c = true) (hu : Bare u) : trimL (b ++ u ++ e) = u := by
  rw [trimL_eq, List.append_assoc, dropWhile_app hb]
  by_cases h0 : u = []
  · subst h0
    rw [List.nil_append, dropWhile_all he]; rfl
  · have hne : (u ++ e).dropWhile blkB = u ++ e := by
      rcases hu with h | ⟨⟨x, hx, hb⟩, _⟩
      · exact absurd h h0
      · cases u with
        | nil => simp at hx
        | cons y r => simp at hx; subst hx; rw [List.cons_append]; exact dropWhile_stop hb
    rw [hne, trimR_app he, bare_last hu]
theorem takeWhile_all {p : UInt8 → Bool} : ∀ (l : List UInt8), ∀ c ∈ l.takeWhile p, p c = true
  | [], c, h => by simp at h
  | x :: r, c, h => by
    rw [List.takeWhile_cons] at h
    split at h
    · rename_i hx
      rcases List.mem_cons.1 h with rfl | h
      · exact hx
      · exact takeWhile_all r c h
    · simp at h
theorem dropWhile_head {p : UInt8 → Bool} : ∀ (l : List UInt8), l.dropWhile p = [] ∨ ∃ x, (l.dropWhile p).head? = some x ∧ p x = false
  | [] => .inl rfl
  | x :: r => by
    rw [List.dropWhile_cons]
    cases hx : p x with
    | true => rw [if_pos rfl]; exact dropWhile_head r
    | false => rw [if_neg (by decide)]; exact .inr ⟨x, rfl, hx⟩
theorem trimR_parts (l : List UInt8) : ∃ e, l = trimR l ++ e ∧ (∀ c ∈ e, blkB c = true) ∧ (trimR l = [] ∨ ∃ y, (trimR l).getLast? = some y ∧ blkB y = false) := by
  refine ⟨(l.reverse.takeWhile blkB).reverse, ?_, fun c hc => takeWhile_all _ c (List.mem_reverse.1 hc), ?_⟩
  · unfold trimR
    rw [← List.reverse_append, List.takeWhile_append_dropWhile, List.reverse_reverse]
  · unfold trimR
    rcases dropWhile_head (p := blkB) l.reverse with h | ⟨x, h1, h2⟩
    · rw [h]; exact .inl rfl
    · exact .inr ⟨x, by rw [List.getLast?_reverse]; exact h1, h2⟩
theorem trimL_parts (l : List UInt8) : ∃ b e, l = b ++ trimL l ++ e ∧ (∀ c ∈ b, blkB c = true) ∧ (∀ c ∈ e, blkB c = true) ∧ Bare (trimL l) := by
  obtain ⟨e, h1, h2, h3⟩ := trimR_parts (l.dropWhile blkB)
  refine ⟨l.takeWhile blkB, e, ?_, takeWhile_all l, h2, ?_⟩
  · rw [List.append_assoc, trimL_eq, ← h1, List.takeWhile_append_dropWhile]
  · rw [trimL_eq]
    rcases h3 with h3 | h3
    · exact .inl h3
    · refine .inr ⟨?_, h3⟩
      rcases dropWhile_head (p := blkB) l with h | ⟨x, hx, hb⟩
      · rw [h] at h3; obtain ⟨y, hy, _⟩ := h3; simp [trimR] at hy
      · refine ⟨x, ?_, hb⟩
        have hne : trimR (l.dropWhile blkB) ≠ [] := by intro e0; obtain ⟨y, hy, _⟩ := h3; rw [e0] at hy; simp at hy
        rw [h1] at hx
        cases hz : trimR (l.dropWhile blkB) with
        | nil => exact absurd hz hne
        | cons z zs => rw [hz, List.cons_append, List.head?_cons] at hx; rw [List.head?_cons]; exact hx
theorem trimL_bare (l : List UInt8) : Bare (trimL l) := by obtain ⟨_, _, _, _, _, h⟩ := trimL_parts l; exact h
theorem trimL_trail {l e : List UInt8} (he : ∀ c ∈ e, blkB c = true) : trimL (l ++ e) = trimL l := by
  obtain ⟨b, f, h1, h2, h3, h4⟩ := trimL_parts l
  have : l ++ e = b ++ trimL l ++ (f ++ e) := by conv => lhs; rw [h1]
                                                 simp
  rw [this]
  exact trim_unique h2 (fun c hc => (List.mem_append.1 hc).elim (h3 c) (he c)) h4
/-- The library's Trim at the two blanks. -/
theorem trimS_eq (l : List UInt8) : Lib.trimS l [32, 9] = trimL l := by
  have hp : (fun c => ([32, 9] : List UInt8).contains c) = blkB := by
    funext c
    simp only [blkB, List.contains_cons, List.contains_nil, Bool.or_false]
  unfold Lib.trimS Lib.trimLeftS Lib.trimRightS
  rw [hp]
  show (trimR l).dropWhile blkB = trimL l
  obtain ⟨e, h1, h2, h3⟩ := trimR_parts l
  have hb : Bare ((trimR l).dropWhile blkB) := by
    rcases dropWhile_head (p := blkB) (trimR l) with h | h
    · exact .inl h
    · refine .inr ⟨h, ?_⟩
      obtain ⟨x, hx, _⟩ := h
      rcases h3 with h3 | ⟨y, hy, hyb⟩
      · rw [h3] at hx; simp at hx
      · refine ⟨y, ?_, hyb⟩
        have hne : (trimR l).dropWhile blkB ≠ [] := by intro e0; rw [e0] at hx; simp at hx
        have h5 := List.takeWhile_append_dropWhile (p := blkB) (l := trimR l)
        rw [← h5, List.getLast?_append] at hy
        cases hz : ((trimR l).dropWhile blkB).getLast? with
        | none => exact absurd (List.getLast?_eq_none_iff.1 hz) hne
        | some z => rw [hz] at hy; simpa using hy
  have h5 := List.takeWhile_append_dropWhile (p := blkB) (l := trimR l)
  have h6 : l = (trimR l).takeWhile blkB ++ (trimR l).dropWhile blkB ++ e := by rw [h5]; exact h1
  conv => rhs; rw [h6]
  exact (trim_unique (takeWhile_all _) h2 hb).symm

/- The document's scan of a line: where the remark begins, where the line is parted. -/
def cutGo : Nat → List UInt8 → Nat → Option Nat → Nat × Option Nat
  | 0, _, i, semi => (i, semi)
  | _ + 1, [], i, semi => (i, semi)
  | f + 1, x :: r, i, semi => match qtL (x :: r) with
    | some k => cutGo f ((x :: r).drop k) (i + k) semi
    | none => if x = 35 then (i, semi) else if x = 59 ∧ semi = none then cutGo f r (i + 1) (some i) else cutGo f r (i + 1) semi
/-- How much of a line stands ahead of its remark. -/
def hashP (l : List UInt8) : Nat := (findP 35 l).getD l.length
theorem cutGo_eq : ∀ (f : Nat) (l : List UInt8) (i : Nat) (semi : Option Nat), l.length ≤ f →
    cutGo f l i semi = (i + hashP l, match semi with | some k => some k | none => (findP 59 (l.take (hashP l))).map (· + i))
  | 0, l, i, semi, h => by
    have : l = [] := List.eq_nil_of_length_eq_zero (by omega)
    subst this
    cases semi <;> simp [cutGo, hashP, findP_nil]
  | f + 1, [], i, semi, _ => by cases semi <;> simp [cutGo, hashP, findP_nil]
  | f + 1, x :: r, i, semi, h => by
    simp only [List.length_cons] at h
    unfold cutGo
    cases hq : qtL (x :: r) with
    | some k =>
      have h1 := qtL_some hq
      simp only [List.length_cons] at h1
      have hh : hashP (x :: r) = k + hashP ((x :: r).drop k) := by
        unfold hashP
        rw [findP_qt hq]
        cases findP 35 ((x :: r).drop k) with
        | some j => simp; omega
        | none => simp; omega
      have ih := cutGo_eq f ((x :: r).drop k) (i + k) semi (by rw [List.length_drop, List.length_cons]; omega)
      simp only
      rw [ih, hh]
      refine Prod.ext (by simp only; omega) ?_
      cases semi with
      | some m => rfl
      | none =>
        simp only
        rw [findP_qt (qtL_take hq (Nat.le_add_right _ _)), List.drop_take, Nat.add_sub_cancel_left, Option.map_map]
        congr 1
        funext m; simp only [Function.comp]; omega
    | none =>
      simp only
      by_cases hx : x = 35
      · subst hx
        have hh : hashP (35 :: r) = 0 := by unfold hashP; rw [findP_cons hq, if_pos rfl]; rfl
        rw [if_pos rfl, hh]
        cases semi <;> simp [findP_nil]
      · have hh : hashP (x :: r) = hashP r + 1 := by
          unfold hashP
          rw [findP_cons hq, if_neg hx]
          cases findP 35 r with
          | some j => rfl
          | none => rfl
        have hq2 : qtL (x :: r.take (hashP r)) = none := by
          cases h2 : qtL (x :: r.take (hashP r)) with
          | none => rfl
          | some k =>
            have : qtL ((x :: r).take (hashP r + 1)) = some k := h2
            rw [qtL_of_take this] at hq; cases hq
        rw [if_neg hx, hh, List.take_succ_cons, findP_cons hq2]
        by_cases h59 : x = 59
        · subst h59
          cases semi with
          | some m =>
            rw [if_neg (by simp)]
            rw [cutGo_eq f r (i + 1) _ (by omega)]
            exact Prod.ext (by simp only; omega) rfl
          | none =>
            rw [if_pos ⟨rfl, rfl⟩, cutGo_eq f r (i + 1) _ (by omega), if_pos rfl]
            exact Prod.ext (by simp only; omega) (by simp)
        · rw [if_neg (fun h => h59 h.1), cutGo_eq f r (i + 1) _ (by omega), if_neg h59]
          refine Prod.ext (by simp only; omega) ?_
          cases semi with
          | some m => rfl
          | none =>
            simp only
            rw [Option.map_map]
            congr 1
            funext m; simp only [Function.comp]; omega

/- A spelling with blanks ahead. -/
def spcL (l : List UInt8) : List UInt8 := l.map fun c => if c = 9 then 32 else c
def parseE (l : List UInt8) : Except Int (List (Int × Int)) := match parseP (bytesOf l) with | .error x => .error x.1 | .ok l => .ok l
def shE {α : Type} : Except (Int × Nat) (α × Nat) → Except (Int × Nat) (α × Nat)
  | .error (e, p) => .error (e, p + 1)
  | .ok (x, q) => .ok (x, q + 1)
section
variable {l : List UInt8}
theorem rest_sh (c : UInt8) (a : Nat) : rest (bytesOf (c :: l)) (a + 1) = rest (bytesOf l) a := by unfold rest; rw [bytesOf_list, bytesOf_list]; rfl
theorem runeAt_sh (c : UInt8) (a : Nat) : runeAt (bytesOf (c :: l)) (a + 1) = runeAt (bytesOf l) a := by
  unfold runeAt
  have h1 : a + 1 < (bytesOf (c :: l)).size ↔ a < (bytesOf l).size := by rw [bytesOf_size, bytesOf_size, List.length_cons]; omega
  have hd : Utf8.decode (bytesOf (c :: l)) (a + 1) = Utf8.decode (bytesOf l) a := by
    rw [Lib.decode_at, Lib.decode_at]
    have hs : (bytesOf (c :: l)).size - (a + 1) = (bytesOf l).size - a := by rw [bytesOf_size, bytesOf_size, List.length_cons]; omega
    have hg : ∀ k, (bytesOf (c :: l)).get! (a + 1 + k) = (bytesOf l).get! (a + k) := fun k => by
      rw [bytesOf_get, bytesOf_get, show a + 1 + k = a + k + 1 by omega]; rfl
    have hg0 : (bytesOf (c :: l)).get! (a + 1) = (bytesOf l).get! a := hg 0
    rw [hs, hg0, hg 1, hg 2, hg 3]
  by_cases h : a < (bytesOf l).size
  · rw [if_pos h, if_pos (h1.2 h), hd]
  · rw [if_neg h, if_neg (fun k => h (h1.1 k))]
theorem hexRun_sh (c : UInt8) (a : Nat) : hexRun (bytesOf (c :: l)) (a + 1) = hexRun (bytesOf l) a := by unfold hexRun; rw [rest_sh]
theorem numP_sh (c : UInt8) (a : Nat) : numP (bytesOf (c :: l)) (a + 1) = shE (numP (bytesOf l) a) := by
  unfold numP
  rw [show a + 1 + 2 = (a + 2) + 1 by omega, hexRun_sh]
  split
  · rfl
  · split
    · rfl
    · simp only [shE]; congr 2; omega
theorem quoP_sh (c : UInt8) (a : Nat) : quoP (bytesOf (c :: l)) (a + 1) = shE (quoP (bytesOf l) a) := by
  unfold quoP
  rw [runeAt_sh c (a + 1), show a + 1 + 1 + (runeAt (bytesOf l) (a + 1)).2 = (a + 1 + (runeAt (bytesOf l) (a + 1)).2) + 1 by omega, rest_sh]
  split
  · rfl
  · split
    · rfl
    · split
      · rfl
      · simp only [shE]; congr 2; omega
theorem runeP_sh (c : UInt8) (a : Nat) : runeP (bytesOf (c :: l)) (a + 1) = shE (runeP (bytesOf l) a) := by
  unfold runeP
  rw [rest_sh, numP_sh, quoP_sh]
  split
  · rfl
  · split
    · rfl
    · rfl
theorem itemP_sh (c : UInt8) (a : Nat) : itemP (bytesOf (c :: l)) (a + 1) = shE (itemP (bytesOf l) a) := by
  unfold itemP
  rw [runeP_sh]
  cases h1 : runeP (bytesOf l) a with
  | error x => rfl
  | ok x =>
    obtain ⟨lo, p⟩ := x
    simp only [shE]
    rw [rest_sh, runeP_sh c (p + 1)]
    by_cases hd : (rest (bytesOf l) p).head? = some 45
    · rw [if_pos hd, if_pos hd]
      cases h2 : runeP (bytesOf l) (p + 1) with
      | error y => rfl
      | ok y =>
        obtain ⟨hi, q⟩ := y
        simp only [shE]
        rw [rest_sh]
        split
        · rfl
        · split
          · rfl
          · rfl
    · rw [if_neg hd, if_neg hd]
      simp only
      rw [rest_sh]
      split
      · rfl
      · split
        · rfl
        · rfl
theorem parseGo_sh (c : UInt8) : ∀ (f a : Nat) (acc : List (Int × Int)), (match parseGo (bytesOf (c :: l)) f (a + 1) acc with | .error x => .error x.1 | .ok l => .ok l : Except Int (List (Int × Int))) = match parseGo (bytesOf l) f a acc with | .error x => .error x.1 | .ok l => .ok l
  | 0, a, acc => rfl
  | f + 1, a, acc => by
    unfold parseGo
    rw [rest_sh]
    cases hh : (rest (bytesOf l) a).head? with
    | none => rfl
    | some d =>
      simp only
      by_cases h32 : d = 32
      · rw [if_pos h32, if_pos h32]; exact parseGo_sh c f (a + 1) acc
      · rw [if_neg h32, if_neg h32, itemP_sh]
        cases hi : itemP (bytesOf l) a with
        | error x => rfl
        | ok x => obtain ⟨x, q⟩ := x; exact parseGo_sh c f q (acc ++ [x])
end
theorem parseE_blank (l : List UInt8) : parseE (32 :: l) = parseE l := by
  unfold parseE parseP
  rw [bytesOf_size, bytesOf_size, List.length_cons]
  have h : parseGo (bytesOf (32 :: l)) (l.length + 1 + 1) 0 [] = parseGo (bytesOf (32 :: l)) (l.length + 1) (0 + 1) [] := by
    conv => lhs; unfold parseGo
    have : (rest (bytesOf (32 :: l)) 0).head? = some 32 := by unfold rest; rw [bytesOf_list]; rfl
    rw [this]; simp only [if_true]
  rw [h]
  exact parseGo_sh 32 _ 0 []
theorem parseE_blanks : ∀ (b l : List UInt8), (∀ c ∈ b, blkB c = true) → parseE (spcL (b ++ l)) = parseE (spcL l)
  | [], _, _ => rfl
  | x :: b, l, h => by
    have hx := h x (by simp)
    have : (if x = 9 then (32 : UInt8) else x) = 32 := by
      simp only [blkB, Bool.or_eq_true, beq_iff_eq] at hx
      rcases hx with rfl | rfl
      · rfl
      · rfl
    rw [List.cons_append]
    show parseE ((if x = 9 then 32 else x) :: spcL (b ++ l)) = _
    rw [this, parseE_blank, parseE_blanks b l (fun c hc => h c (by simp [hc]))]

/-- What a line says: nothing; or why it is none; or its name's text, and its set. -/
inductive Line where
  | none_ : Line
  | noLine : Line
  | says (name : List UInt8) (set : List UInt8) : Line
/-- As the program parts it. -/
def lineP (l : List UInt8) : Line :=
  let u := trimL (l.take (hashP l))
  if u = [] then .none_ else match findP 59 u with
  | none => .noLine
  | some j => .says (trimL (u.drop (j + 1))) (u.take j)
/-- As the document does. -/
def lineD (l : List UInt8) : Line :=
  let t := l.take (hashP l)
  if trimL t = [] then .none_ else match findP 59 t with
  | none => .noLine
  | some j => .says (trimL (t.drop (j + 1))) (t.take j)
/-- Do two lines say the same? Blanks ahead of a set do not count. -/
def Line.same : Line → Line → Prop
  | .none_, .none_ => True
  | .noLine, .noLine => True
  | .says n s, .says m t => n = m ∧ parseE (spcL s) = parseE (spcL t)
  | _, _ => False
theorem line_same (l : List UInt8) : Line.same (lineD l) (lineP l) := by
  unfold lineD lineP
  simp only
  generalize l.take (hashP l) = t
  obtain ⟨b, e, h1, h2, h3, h4⟩ := trimL_parts t
  by_cases h0 : trimL t = []
  · rw [if_pos h0, if_pos h0]; trivial
  · rw [if_neg h0, if_neg h0]
    have hf : findP 59 t = (findP 59 (trimL t)).map (· + b.length) := by
      conv => lhs; rw [h1]
      rw [List.append_assoc, findP_lead (by decide) _ _ h2, findP_trail (by decide) _ _ _ (Nat.le_refl _) h3]
    rw [hf]
    cases hj : findP 59 (trimL t) with
    | none => trivial
    | some j =>
      have hlt := (List.getElem?_eq_some_iff.1 (findP_lt (trimL t).length (trimL t) (Nat.le_refl _) j hj)).1
      simp only [Option.map_some, Line.same]
      constructor
      · conv => lhs; rw [h1]
        rw [List.append_assoc, show j + b.length + 1 = b.length + (j + 1) by omega, ← List.drop_drop, List.drop_left, List.drop_append_of_le_length (by omega), trimL_trail h3]
      · conv => lhs; rw [h1]
        rw [List.append_assoc, show j + b.length = b.length + j by omega, List.take_append, List.take_of_length_le (by omega), Nat.add_sub_cancel_left, List.take_append_of_le_length (by omega), parseE_blanks _ _ h2]
end Go.Proofs.YthlnfefpdmecaaaGreatDoor

/-
  PLAIN: a database: its lines, its classes, their sets; whether two sets meet. No walk.
-/
namespace Go.Proofs.YthlnfefpdmecaaaGreatDoor

def letB (c : UInt8) : Bool := decide (65 ≤ c.toNat ∧ c.toNat ≤ 90) || decide (97 ≤ c.toNat ∧ c.toNat ≤ 122)
def partB (c : UInt8) : Bool := letB c || decide (48 ≤ c.toNat ∧ c.toNat ≤ 57) || c == 95
/-- May a class be called so? -/
def nameL : List UInt8 → Bool
  | [] => false
  | c :: r => letB c && r.all partB && decide (r.length ≤ 31)
def otherL : List UInt8 := [79, 116, 104, 101, 114]
/-- Do two sets have a rune in common? -/
def meetB (a b : List (Int × Int)) : Bool := a.any fun x => b.any fun y => decide (x.1 ≤ y.2) && decide (y.1 ≤ x.2)
theorem meetB_nil_left (b : List (Int × Int)) : meetB [] b = false := rfl
theorem meetB_nil_right (a : List (Int × Int)) : meetB a [] = false := by simp [meetB]
theorem meetB_iff {a b : List (Int × Int)} (ha : Nf a) (hb : Nf b) : meetB a b = true ↔ ∃ r, memR a r ∧ memR b r := by
  simp only [meetB, List.any_eq_true, Bool.and_eq_true, decide_eq_true_eq, memR]
  constructor
  · rintro ⟨x, hx, y, hy, h1, h2⟩
    have := Nf_le ha x hx; have := Nf_le hb y hy
    rcases Int.le_total x.1 y.1 with h | h
    · exact ⟨y.1, ⟨x, hx, h, h2⟩, y, hy, by omega, by omega⟩
    · exact ⟨x.1, ⟨x, hx, by omega, by omega⟩, y, hy, h, h1⟩
  · rintro ⟨r, ⟨x, hx, h1, h2⟩, y, hy, h3, h4⟩
    exact ⟨x, hx, y, hy, by omega, by omega⟩
/-- The program's way: side by side. -/
theorem meetB_left {x : Int × Int} {a : List (Int × Int)} {y : Int × Int} {b : List (Int × Int)} (hb : Nf (y :: b)) (h : x.2 < y.1) : meetB (x :: a) (y :: b) = meetB a (y :: b) := by
  have e : ((y :: b).any fun z => decide (x.1 ≤ z.2) && decide (z.1 ≤ x.2)) = false := by
    rw [List.any_eq_false]
    intro z hz
    have : y.1 ≤ z.1 := by
      rcases List.mem_cons.1 hz with rfl | hz
      · omega
      · have := hb.2.1 z hz; have := hb.1; omega
    simp; omega
  unfold meetB
  rw [List.any_cons, e, Bool.false_or]
theorem meetB_right {x : Int × Int} {a : List (Int × Int)} {y : Int × Int} {b : List (Int × Int)} (ha : Nf (x :: a)) (h : y.2 < x.1) : meetB (x :: a) (y :: b) = meetB (x :: a) b := by
  have e : ∀ z ∈ x :: a, (decide (z.1 ≤ y.2) && decide (y.1 ≤ z.2)) = false := fun z hz => by
    have : x.1 ≤ z.1 := by
      rcases List.mem_cons.1 hz with rfl | hz
      · omega
      · have := ha.2.1 z hz; have := ha.1; omega
    simp; omega
  unfold meetB
  rw [Bool.eq_iff_iff, List.any_eq_true, List.any_eq_true]
  constructor
  · rintro ⟨z, hz, hq⟩
    rw [List.any_cons, e z hz, Bool.false_or] at hq
    exact ⟨z, hz, hq⟩
  · rintro ⟨z, hz, hq⟩
    exact ⟨z, hz, by rw [List.any_cons, hq, Bool.or_true]⟩
theorem meetB_here {x : Int × Int} {a : List (Int × Int)} {y : Int × Int} {b : List (Int × Int)} (h1 : ¬ x.2 < y.1) (h2 : ¬ y.2 < x.1) : meetB (x :: a) (y :: b) = true := by
  unfold meetB
  rw [List.any_cons, List.any_cons]
  have : (decide (x.1 ≤ y.2) && decide (y.1 ≤ x.2)) = true := by simp; omega
  rw [this]; simp

/-- A database: the names by numbers; of each its set (of number 0 nothing yet). -/
structure DbP where
  names : List (List UInt8)
  sets : List (List (Int × Int))
def DbP.first : DbP := ⟨[otherL], [[]]⟩
def DbP.num (d : DbP) (n : List UInt8) : Option Nat := d.names.idxOf? n
def DbP.clash (d : DbP) (c : Nat) (l : List (Int × Int)) : Bool := (List.range d.sets.length).any fun k => decide (k ≠ c) && meetB (d.sets.getD k []) l
/-- What a line adds. -/
def addL (d : DbP) (name set : List UInt8) : Except Int DbP :=
  if nameL name = false ∨ name = otherL then .error 40 else
  match parseE (spcL set) with
  | .error e => .error e
  | .ok l =>
    match d.num name with
    | some c => if d.clash c (normR l) then .error 41 else .ok ⟨d.names, d.sets.set c (orR (d.sets.getD c []) (normR l))⟩
    | none => if 64 ≤ d.names.length then .error 6 else if d.clash d.names.length (normR l) then .error 41 else .ok ⟨d.names ++ [name], d.sets ++ [orR [] (normR l)]⟩
def stepL (d : DbP) (l : List UInt8) : Except Int DbP :=
  match lineP l with
  | .none_ => .ok d
  | .noLine => .error 42
  | .says n s => addL d n s
/-- The lines of a text. -/
def splitL : List UInt8 → List (List UInt8)
  | [] => [[]]
  | c :: r => if c = 10 then [] :: splitL r else match splitL r with
    | [] => [[c]]
    | x :: t => (c :: x) :: t
def linesGo (d : DbP) : List (List UInt8) → Nat → Except (Int × Nat) DbP
  | [], _ => .ok d
  | l :: r, i => match stepL d l with
    | .error e => .error (e, i + 1)
    | .ok d' => linesGo d' r (i + 1)
/-- The classes of a text; number 0 has nothing yet. -/
def newP (t : List UInt8) : Except (Int × Nat) DbP := if 65536 < t.length then .error (1, 0) else linesGo DbP.first (splitL t) 0
/-- What number 0 has: what no other has. -/
def DbP.rest (d : DbP) : List (Int × Int) := notR (d.sets.tail.flatten)
/-- As the document's line says it: the same step. -/
theorem stepL_doc (d : DbP) (l : List UInt8) : stepL d l = match lineD l with
    | .none_ => .ok d
    | .noLine => .error 42
    | .says n s => addL d n s := by
  have h := line_same l
  unfold stepL
  cases h1 : lineD l with
  | none_ =>
    rw [h1] at h
    cases h2 : lineP l with
    | none_ => rfl
    | noLine => rw [h2] at h; exact h.elim
    | says n s => rw [h2] at h; exact h.elim
  | noLine =>
    rw [h1] at h
    cases h2 : lineP l with
    | none_ => rw [h2] at h; exact h.elim
    | noLine => rfl
    | says n s => rw [h2] at h; exact h.elim
  | says n s =>
    rw [h1] at h
    cases h2 : lineP l with
    | none_ => rw [h2] at h; exact h.elim
    | noLine => rw [h2] at h; exact h.elim
    | says m t =>
      rw [h2] at h
      obtain ⟨rfl, h3⟩ := h
      simp only [addL, h3]
/-- What a database keeps: as many sets as names; each set in normal form; no name twice; the first one is that of the others. -/
structure DbP.Ok (d : DbP) : Prop where
  len : d.sets.length = d.names.length
  nf : ∀ l ∈ d.sets, NF l
  nodup : d.names.Nodup
  head : d.names.head? = some otherL
  head' : d.sets.head? = some []
  few : d.names.length ≤ 64
theorem DbP.first_ok : DbP.first.Ok := ⟨rfl, fun l hl => by simp [DbP.first] at hl; subst hl; exact ⟨trivial, by simp⟩, by simp [DbP.first], rfl, rfl, by simp [DbP.first]⟩
theorem idxOf?_some {α : Type} [BEq α] [LawfulBEq α] {l : List α} {x : α} {i : Nat} (h : l.idxOf? x = some i) : l[i]? = some x := by
  rw [List.idxOf?, List.findIdx?_eq_some_iff_getElem] at h
  obtain ⟨hi, h1, _⟩ := h
  rw [List.getElem?_eq_getElem hi]
  simpa using h1
theorem idxOf?_none {α : Type} [BEq α] [LawfulBEq α] {l : List α} {x : α} (h : l.idxOf? x = none) : x ∉ l := by
  rw [List.idxOf?, List.findIdx?_eq_none_iff] at h
  intro hx
  have := h x hx
  simp at this
theorem addL_ok {d d' : DbP} {n s : List UInt8} (h : d.Ok) (ha : addL d n s = .ok d') : d'.Ok := by
  unfold addL at ha
  split at ha
  · cases ha
  · rename_i hn
    split at ha
    · cases ha
    · rename_i l _
      have hno : n ≠ otherL := fun e => hn (.inr e)
      split at ha
      · rename_i c hc
        split at ha
        · cases ha
        · injection ha with ha; subst ha
          have hci := idxOf?_some hc
          have hc0 : c ≠ 0 := by
            rintro rfl
            have := h.head
            rw [List.head?_eq_getElem?, hci] at this
            injection this with this; exact hno this
          refine ⟨by simp [h.len], fun q hq => ?_, h.nodup, h.head, ?_, h.few⟩
          · rcases List.mem_or_eq_of_mem_set hq with hq | rfl
            · exact h.nf q hq
            · exact orR_NF _ _
          · have := h.head'
            rw [List.head?_eq_getElem?] at this ⊢
            rw [List.getElem?_set_ne hc0]; exact this
      · rename_i hc
        split at ha
        · cases ha
        · rename_i h64
          split at ha
          · cases ha
          · injection ha with ha; subst ha
            have hne : d.sets ≠ [] := by intro e; have := h.head'; rw [e] at this; cases this
            have hne' : d.names ≠ [] := by intro e; have := h.head; rw [e] at this; cases this
            refine ⟨by simp [h.len], fun q hq => ?_, ?_, ?_, ?_, by simp only [List.length_append, List.length_singleton]; omega⟩
            · rcases List.mem_append.1 hq with hq | hq
              · exact h.nf q hq
              · simp at hq; subst hq; exact orR_NF _ _
            · rw [List.nodup_append]
              exact ⟨h.nodup, by simp, fun a ha b hb e => by simp at hb; subst hb; subst e; exact idxOf?_none hc ha⟩
            · cases hz : d.names with
              | nil => exact absurd hz hne'
              | cons z zs => have := h.head; rw [hz] at this; simpa using this
            · cases hz : d.sets with
              | nil => exact absurd hz hne
              | cons z zs => have := h.head'; rw [hz] at this; simpa using this
theorem stepL_ok {d d' : DbP} {l : List UInt8} (h : d.Ok) (hs : stepL d l = .ok d') : d'.Ok := by
  unfold stepL at hs
  split at hs
  · injection hs with hs; subst hs; exact h
  · cases hs
  · exact addL_ok h hs
theorem linesGo_ok : ∀ {L : List (List UInt8)} {d d' : DbP} {i : Nat}, d.Ok → linesGo d L i = .ok d' → d'.Ok
  | [], d, d', i, h, hs => by injection hs with hs; subst hs; exact h
  | l :: r, d, d', i, h, hs => by
    unfold linesGo at hs
    split at hs
    · cases hs
    · rename_i d2 h2
      exact linesGo_ok (stepL_ok h h2) hs
end Go.Proofs.YthlnfefpdmecaaaGreatDoor

/-
  PLAIN: the classes of a database are apart; which class a rune has; all ranges in order. No walk.
-/
namespace Go.Proofs.YthlnfefpdmecaaaGreatDoor

/-- No rune is in two of the sets. -/
def Apart (S : List (List (Int × Int))) : Prop := ∀ (i j : Nat) (a b : List (Int × Int)), S[i]? = some a → S[j]? = some b → i ≠ j → ∀ r, memR a r → memR b r → False
theorem apart_first : Apart DbP.first.sets := fun i j a b hi hj hij r ha _ => by
  have : i = 0 := by have := (List.getElem?_eq_some_iff.1 hi).1; simp [DbP.first] at this; exact this
  have : j = 0 := by have := (List.getElem?_eq_some_iff.1 hj).1; simp [DbP.first] at this; exact this
  omega
theorem clash_false {d : DbP} {c : Nat} {l : List (Int × Int)} (h : d.clash c l = false) (hd : ∀ s ∈ d.sets, NF s) (hl : Nf l) : ∀ (k : Nat) (s : List (Int × Int)), d.sets[k]? = some s → k ≠ c → ∀ r, memR s r → memR l r → False := by
  intro k s hk hkc r h1 h2
  unfold DbP.clash at h
  rw [List.any_eq_false] at h
  have hlt := (List.getElem?_eq_some_iff.1 hk).1
  have h3 := h k (List.mem_range.2 hlt)
  rw [List.getD_eq_getElem?_getD, hk, Option.getD_some] at h3
  have : meetB s l = true := (meetB_iff (hd s (List.mem_of_getElem? hk)).1 hl).2 ⟨r, h1, h2⟩
  rw [this] at h3
  simp [hkc] at h3
theorem memR_orR {a b : List (Int × Int)} (ha : NF a) (hb : NF b) (r : Int) : memR (orR a b) r ↔ memR a r ∨ memR b r := by
  rw [← NF_mem (orR_NF a b), hasP_orR, NF_mem ha, NF_mem hb]
theorem apart_set {S : List (List (Int × Int))} {c : Nat} {s l : List (Int × Int)} (h : Apart S) (hc : S[c]? = some s) (hs : NF s) (hl : NF l) (hcl : ∀ (k : Nat) (q : List (Int × Int)), S[k]? = some q → k ≠ c → ∀ r, memR q r → memR l r → False) : Apart (S.set c (orR s l)) := by
  intro i j a b hi hj hij r ha hb
  by_cases h1 : i = c
  · subst h1
    have hlt := (List.getElem?_eq_some_iff.1 hc).1
    rw [List.getElem?_set_self hlt] at hi
    rw [List.getElem?_set_ne (by omega)] at hj
    injection hi with hi; subst hi
    rcases (memR_orR hs hl r).1 ha with ha | ha
    · exact h i j s b hc hj hij r ha hb
    · exact hcl j b hj (by omega) r hb ha
  · rw [List.getElem?_set_ne (by omega)] at hi
    by_cases h2 : j = c
    · subst h2
      have hlt := (List.getElem?_eq_some_iff.1 hc).1
      rw [List.getElem?_set_self hlt] at hj
      injection hj with hj; subst hj
      rcases (memR_orR hs hl r).1 hb with hb | hb
      · exact h i j a s hi hc hij r ha hb
      · exact hcl i a hi (by omega) r ha hb
    · rw [List.getElem?_set_ne (by omega)] at hj
      exact h i j a b hi hj hij r ha hb
theorem memR_or_nil {l : List (Int × Int)} (hl : NF l) (r : Int) : memR (orR [] l) r ↔ memR l r := by
  rw [memR_orR (show NF [] from ⟨trivial, by simp⟩) hl]; simp [memR_nil]
theorem apart_snoc {S : List (List (Int × Int))} {l : List (Int × Int)} (h : Apart S) (hl : NF l) (hcl : ∀ (k : Nat) (q : List (Int × Int)), S[k]? = some q → ∀ r, memR q r → memR l r → False) : Apart (S ++ [orR [] l]) := by
  intro i j a b hi hj hij r ha hb
  have hlen := (List.getElem?_eq_some_iff.1 hi).1
  have hlen2 := (List.getElem?_eq_some_iff.1 hj).1
  simp only [List.length_append, List.length_singleton] at hlen hlen2
  by_cases h1 : i < S.length
  · rw [List.getElem?_append_left h1] at hi
    by_cases h2 : j < S.length
    · rw [List.getElem?_append_left h2] at hj
      exact h i j a b hi hj hij r ha hb
    · rw [List.getElem?_append_right (by omega), show j - S.length = 0 by omega] at hj
      simp at hj; subst hj
      exact hcl i a hi r ha ((memR_or_nil hl r).1 hb)
  · rw [List.getElem?_append_right (by omega), show i - S.length = 0 by omega] at hi
    simp at hi; subst hi
    rw [List.getElem?_append_left (by omega)] at hj
    exact hcl j b hj r hb ((memR_or_nil hl r).1 ha)
theorem addL_apart {d d' : DbP} {n s : List UInt8} (h : d.Ok) (ha : Apart d.sets) (hs : addL d n s = .ok d') : Apart d'.sets := by
  unfold addL at hs
  split at hs
  · cases hs
  · split at hs
    · cases hs
    · rename_i l _
      split at hs
      · rename_i c hc
        split at hs
        · cases hs
        · rename_i hcl
          injection hs with hs; subst hs
          have hlt : c < d.sets.length := by rw [h.len]; exact (List.getElem?_eq_some_iff.1 (idxOf?_some hc)).1
          have hsc : d.sets[c]? = some (d.sets.getD c []) := by rw [List.getD_eq_getElem?_getD, List.getElem?_eq_getElem hlt]; rfl
          exact apart_set ha hsc (h.nf _ (List.mem_of_getElem? hsc)) (normR_NF l) (clash_false (by simpa using hcl) h.nf (normR_nf l))
      · split at hs
        · cases hs
        · split at hs
          · cases hs
          · rename_i hcl
            injection hs with hs; subst hs
            refine apart_snoc ha (normR_NF l) fun k q hk r h1 h2 => ?_
            exact clash_false (by simpa using hcl) h.nf (normR_nf l) k q hk (by have := (List.getElem?_eq_some_iff.1 hk).1; rw [h.len] at this; omega) r h1 h2
theorem linesGo_apart : ∀ {L : List (List UInt8)} {d d' : DbP} {i : Nat}, d.Ok → Apart d.sets → linesGo d L i = .ok d' → Apart d'.sets
  | [], d, d', i, _, ha, hs => by injection hs with hs; subst hs; exact ha
  | l :: r, d, d', i, h, ha, hs => by
    unfold linesGo at hs
    split at hs
    · cases hs
    · rename_i d2 h2
      refine linesGo_apart (stepL_ok h h2) ?_ hs
      unfold stepL at h2
      split at h2
      · injection h2 with h2; subst h2; exact ha
      · cases h2
      · exact addL_apart h ha h2
theorem newP_ok {t : List UInt8} {d : DbP} (h : newP t = .ok d) : d.Ok ∧ Apart d.sets := by
  unfold newP at h
  split at h
  · cases h
  · exact ⟨linesGo_ok DbP.first_ok h, linesGo_apart DbP.first_ok apart_first h⟩

/-- The rune that is asked for. -/
def askR (r : Int) : Int := if r < 0 ∨ 1114111 < r then 65533 else r
/-- The class of a rune, among the sets from a number on. -/
def getGo (r : Int) : Nat → List (List (Int × Int)) → Nat
  | _, [] => 0
  | i, s :: t => if hasB s r then i else getGo r (i + 1) t
def DbP.get (d : DbP) (r : Int) : Nat := getGo (askR r) 1 d.sets.tail
theorem getGo_spec {r : Int} : ∀ {S : List (List (Int × Int))} {i : Nat}, 1 ≤ i → (getGo r i S = 0 ∧ ∀ s ∈ S, hasB s r = false) ∨ ∃ k s, S[k]? = some s ∧ hasB s r = true ∧ getGo r i S = i + k
  | [], i, _ => .inl ⟨rfl, by simp⟩
  | s :: t, i, hi => by
    unfold getGo
    cases hb : hasB s r with
    | true => exact .inr ⟨0, s, rfl, hb, by simp⟩
    | false =>
      simp only [Bool.false_eq_true, if_false]
      rcases getGo_spec (r := r) (S := t) (i := i + 1) (by omega) with ⟨h1, h2⟩ | ⟨k, q, h1, h2, h3⟩
      · exact .inl ⟨h1, fun z hz => (List.mem_cons.1 hz).elim (fun e => by rw [e]; exact hb) (h2 z)⟩
      · exact .inr ⟨k + 1, q, by simpa using h1, h2, by omega⟩
end Go.Proofs.YthlnfefpdmecaaaGreatDoor

/-
  PLAIN: all ranges of a database in their order; the class of a rune found in them. No walk.
-/
namespace Go.Proofs.YthlnfefpdmecaaaGreatDoor

/-- The ranges of all sets, each with its class, from a number on. -/
def entG : Nat → List (List (Int × Int)) → List (Int × Int × Nat)
  | _, [] => []
  | c, s :: t => s.map (fun x => (x.1, x.2, c)) ++ entG (c + 1) t
def DbP.ents (d : DbP) : List (Int × Int × Nat) := entG 1 d.sets.tail
def RiseC (l : List (Int × Int × Nat)) : Prop := l.Pairwise fun a b => a.1 ≤ b.1
/-- All ranges in order. -/
def DbP.rng (d : DbP) : List (Int × Int × Nat) := d.ents.mergeSort fun a b => decide (a.1 ≤ b.1)
theorem rng_rise (d : DbP) : RiseC d.rng := by
  have := List.pairwise_mergeSort (le := fun a b : Int × Int × Nat => decide (a.1 ≤ b.1)) (by simp; intros; omega) (by simp; intros; omega) d.ents
  exact this.imp (by simp)
theorem rng_perm (d : DbP) : d.rng.Perm d.ents := List.mergeSort_perm _ _
theorem entG_append : ∀ (S T : List (List (Int × Int))) (c : Nat), entG c (S ++ T) = entG c S ++ entG (c + S.length) T
  | [], T, c => by simp [entG]
  | s :: S, T, c => by
    rw [List.cons_append]
    show _ ++ entG (c + 1) (S ++ T) = (_ ++ entG (c + 1) S) ++ _
    rw [entG_append S T (c + 1), List.length_cons, List.append_assoc, show c + 1 + S.length = c + (S.length + 1) by omega]
theorem mem_entG : ∀ {S : List (List (Int × Int))} {c : Nat} {x : Int × Int × Nat}, x ∈ entG c S ↔ ∃ k s, S[k]? = some s ∧ (x.1, x.2.1) ∈ s ∧ x.2.2 = c + k
  | [], c, x => by simp [entG]
  | s :: S, c, x => by
    unfold entG
    rw [List.mem_append, mem_entG (S := S)]
    constructor
    · rintro (h | ⟨k, q, h1, h2, h3⟩)
      · obtain ⟨y, hy, rfl⟩ := List.mem_map.1 h
        exact ⟨0, s, rfl, hy, rfl⟩
      · exact ⟨k + 1, q, by simpa using h1, h2, by omega⟩
    · rintro ⟨k, q, h1, h2, h3⟩
      cases k with
      | zero =>
        simp at h1; subst h1
        exact .inl (List.mem_map.2 ⟨_, h2, by obtain ⟨a, b, e⟩ := x; simp at h3 ⊢; exact h3.symm⟩)
      | succ k => exact .inr ⟨k, q, by simpa using h1, h2, by omega⟩
/-- Two ranges with no rune in common. -/
def Off (x y : Int × Int × Nat) : Prop := x.2.1 < y.1 ∨ y.2.1 < x.1
theorem Nf_pair : ∀ {l : List (Int × Int)}, Nf l → l.Pairwise fun a b => a.2 < b.1
  | [], _ => .nil
  | x :: r, h => .cons (fun y hy => by have := h.2.1 y hy; omega) (Nf_pair h.2.2)
theorem apart_tail {s : List (Int × Int)} {S : List (List (Int × Int))} (h : Apart (s :: S)) : Apart S := fun i j a b hi hj hij => h (i + 1) (j + 1) a b (by simpa using hi) (by simpa using hj) (by omega)
theorem entG_off : ∀ {S : List (List (Int × Int))} {c : Nat}, Apart S → (∀ s ∈ S, Nf s) → (entG c S).Pairwise Off
  | [], _, _, _ => .nil
  | s :: S, c, ha, hn => by
    unfold entG
    rw [List.pairwise_append]
    refine ⟨?_, entG_off (apart_tail ha) (fun q hq => hn q (by simp [hq])), fun x hx y hy => ?_⟩
    · rw [List.pairwise_map]
      exact (Nf_pair (hn s (by simp))).imp (fun h => .inl h)
    · obtain ⟨z, hz, rfl⟩ := List.mem_map.1 hx
      obtain ⟨k, q, h1, h2, _⟩ := mem_entG.1 hy
      have hq : Nf q := hn q (by simp [List.mem_of_getElem? h1])
      have l1 := Nf_le (hn s (by simp)) z hz
      have l2 := Nf_le hq _ h2
      simp only at l2
      show z.2 < y.1 ∨ y.2.1 < z.1
      rcases Int.lt_or_le z.2 y.1 with h | h
      · exact .inl h
      · rcases Int.lt_or_le y.2.1 z.1 with h' | h'
        · exact .inr h'
        · exfalso
          have := ha 0 (k + 1) s q rfl (by simpa using h1) (by omega)
          rcases Int.le_total z.1 y.1 with h3 | h3
          · exact this y.1 ⟨z, hz, h3, h⟩ ⟨_, h2, Int.le_refl _, l2⟩
          · exact this z.1 ⟨z, hz, Int.le_refl _, l1⟩ ⟨_, h2, h3, h'⟩
theorem DbP.tail_apart {d : DbP} (h : Apart d.sets) : Apart d.sets.tail := by
  cases hs : d.sets with
  | nil => intro i j a b hi; simp at hi
  | cons s S => rw [hs] at h; exact apart_tail h
theorem DbP.Ok.tailNF {d : DbP} (h : d.Ok) : ∀ s ∈ d.sets.tail, NF s := fun s hs => h.nf s (List.mem_of_mem_tail hs)
theorem ents_off {d : DbP} (h : d.Ok) (ha : Apart d.sets) : d.ents.Pairwise Off := entG_off (DbP.tail_apart ha) fun s hs => (h.tailNF s hs).1
theorem ents_bd {d : DbP} (h : d.Ok) : ∀ x ∈ d.ents, 0 ≤ x.1 ∧ x.1 ≤ x.2.1 ∧ x.2.1 ≤ 1114111 ∧ 1 ≤ x.2.2 ∧ x.2.2 < d.sets.length := fun x hx => by
  obtain ⟨k, s, h1, h2, h3⟩ := mem_entG.1 hx
  have hs := h.tailNF s (List.mem_of_getElem? h1)
  have := hs.2 _ h2; have := Nf_le hs.1 _ h2
  have hk := (List.getElem?_eq_some_iff.1 h1).1
  rw [List.length_tail] at hk
  simp only at *
  omega
theorem off_symm {x y : Int × Int × Nat} (h : Off x y) : Off y x := h.symm
/-- A rising list of just these is the one. -/
theorem rng_unique {d : DbP} (h : d.Ok) (ha : Apart d.sets) {l : List (Int × Int × Nat)} (hp : l.Perm d.ents) (hr : RiseC l) : l = d.rng := by
  refine List.Perm.eq_of_pairwise (le := fun a b : Int × Int × Nat => a.1 ≤ b.1) (fun a b hal hbl h1 h2 => ?_) hr (rng_rise d) (hp.trans (rng_perm d).symm)
  have ha' := hp.mem_iff.1 hal
  have hb' := (rng_perm d).mem_iff.1 hbl
  have ba := ents_bd h a ha'; have bb := ents_bd h b hb'
  obtain ⟨i, hi, rfl⟩ := List.getElem_of_mem ha'
  obtain ⟨j, hj, rfl⟩ := List.getElem_of_mem hb'
  have hP := List.pairwise_iff_getElem.1 (ents_off h ha)
  rcases Nat.lt_trichotomy i j with hij | hij | hij
  · have := hP i j hi hj hij
    unfold Off at this; omega
  · subst hij; rfl
  · have := hP j i hj hi hij
    unfold Off at this; omega
theorem rng_bd {d : DbP} (h : d.Ok) : ∀ x ∈ d.rng, 0 ≤ x.1 ∧ x.1 ≤ x.2.1 ∧ x.2.1 ≤ 1114111 ∧ 1 ≤ x.2.2 ∧ x.2.2 < d.sets.length := fun x hx => ents_bd h x ((rng_perm d).mem_iff.1 hx)
/-- In order, each range ends ahead of the next. -/
theorem rng_next {d : DbP} (h : d.Ok) (ha : Apart d.sets) : d.rng.Pairwise fun a b => a.2.1 < b.1 := by
  have h1 : d.rng.Pairwise Off := (List.Perm.pairwise_iff off_symm (rng_perm d)).2 (ents_off h ha)
  have h2 := (rng_rise d).and h1
  exact h2.imp_of_mem fun {a b} hA hB hab => by
    have := rng_bd h a hA; have := rng_bd h b hB
    obtain ⟨h3, h4⟩ := hab
    unfold Off at h4; omega

/-- How many end ahead of a rune. -/
def endB (r : Int) (x : Int × Int × Nat) : Bool := decide (x.2.1 < r)
def findC (l : List (Int × Int × Nat)) (r : Int) : Nat :=
  match l[l.countP (endB r)]? with
  | some x => if x.1 ≤ r then x.2.2 else 0
  | none => 0
theorem findC_hit {r : Int} {x : Int × Int × Nat} : ∀ {l : List (Int × Int × Nat)}, (l.Pairwise fun a b => a.2.1 < b.1) → (∀ y ∈ l, y.1 ≤ y.2.1) → x ∈ l → x.1 ≤ r → r ≤ x.2.1 → l[l.countP (endB r)]? = some x
  | [], _, _, hx, _, _ => by simp at hx
  | a :: l, hp, hl, hx, h1, h2 => by
    rw [List.pairwise_cons] at hp
    rcases List.mem_cons.1 hx with rfl | hx
    · have : (x :: l).countP (endB r) = 0 := by
        rw [List.countP_eq_zero]
        intro y hy
        rcases List.mem_cons.1 hy with rfl | hy
        · simp [endB]; omega
        · have := hp.1 y hy; have := hl y (by simp [hy]); simp [endB]; omega
      rw [this]; rfl
    · have hax := hp.1 x hx
      rw [List.countP_cons_of_pos (by simp [endB]; omega), List.getElem?_cons_succ]
      exact findC_hit hp.2 (fun y hy => hl y (by simp [hy])) hx h1 h2
theorem findC_at {r : Int} {x : Int × Int × Nat} : ∀ {l : List (Int × Int × Nat)}, (l.Pairwise fun a b => a.2.1 < b.1) → (∀ y ∈ l, y.1 ≤ y.2.1) → l[l.countP (endB r)]? = some x → r ≤ x.2.1
  | [], _, _, hx => by simp at hx
  | a :: l, hp, hl, hx => by
    rw [List.pairwise_cons] at hp
    by_cases h : a.2.1 < r
    · rw [List.countP_cons_of_pos (by simp [endB]; omega), List.getElem?_cons_succ] at hx
      exact findC_at hp.2 (fun y hy => hl y (by simp [hy])) hx
    · have : (a :: l).countP (endB r) = 0 := by
        rw [List.countP_eq_zero]
        intro y hy
        rcases List.mem_cons.1 hy with rfl | hy
        · simp [endB]; omega
        · have := hp.1 y hy; have := hl y (by simp [hy]); simp [endB]; omega
      rw [this] at hx
      simp at hx; subst hx; omega
theorem askR_bd (r : Int) : 0 ≤ askR r ∧ askR r ≤ 1114111 := by unfold askR; split <;> omega
theorem hasB_NF {s : List (Int × Int)} (h : NF s) (r : Int) : hasB s r = true ↔ ∃ x ∈ s, x.1 ≤ r ∧ r ≤ x.2 := by rw [hasB_iff, NF_mem h]; rfl
/-- The class found among the ranges in order is the class of the rune. -/
theorem find_get {d : DbP} (h : d.Ok) (ha : Apart d.sets) (r : Int) : findC d.rng (askR r) = d.get r := by
  have hn := rng_next h ha
  have hle : ∀ y ∈ d.rng, y.1 ≤ y.2.1 := fun y hy => (rng_bd h y hy).2.1
  unfold DbP.get
  rcases getGo_spec (r := askR r) (S := d.sets.tail) (i := 1) (by omega) with ⟨h1, h2⟩ | ⟨k, s, h1, h2, h3⟩
  · rw [h1]
    unfold findC
    cases hx : d.rng[d.rng.countP (endB (askR r))]? with
    | none => rfl
    | some x =>
      have hr := findC_at hn hle hx
      simp only
      split
      · rename_i hlo
        exfalso
        obtain ⟨k, s, h3, h4, _⟩ := mem_entG.1 ((rng_perm d).mem_iff.1 (List.mem_of_getElem? hx))
        have hs := h.tailNF s (List.mem_of_getElem? h3)
        have := h2 s (List.mem_of_getElem? h3)
        rw [(hasB_NF hs _).2 ⟨_, h4, hlo, hr⟩] at this; cases this
      · rfl
  · rw [h3]
    have hs := h.tailNF s (List.mem_of_getElem? h1)
    obtain ⟨y, hy, hy1, hy2⟩ := (hasB_NF hs _).1 h2
    have hm : (y.1, y.2, 1 + k) ∈ d.rng := (rng_perm d).mem_iff.2 (mem_entG.2 ⟨k, s, h1, hy, rfl⟩)
    unfold findC
    rw [findC_hit hn hle hm hy1 hy2]
    simp only [hy1, if_true]
/-- What the search leaves: its place. -/
theorem count_place {r : Int} {l : List (Int × Int × Nat)} {i : Nat} (hi : i ≤ l.length) (h1 : ∀ t x, t < i → l[t]? = some x → x.2.1 < r) (h2 : ∀ t x, i ≤ t → l[t]? = some x → ¬ x.2.1 < r) : l.countP (endB r) = i := by
  have e : l = l.take i ++ l.drop i := (List.take_append_drop i l).symm
  rw [e, List.countP_append]
  have a1 : (l.take i).countP (endB r) = i := by
    rw [List.countP_eq_length.2, List.length_take, Nat.min_eq_left hi]
    intro x hx
    obtain ⟨t, ht, rfl⟩ := List.getElem_of_mem hx
    rw [List.length_take] at ht
    have := h1 t _ (by omega) (List.getElem?_eq_getElem (by omega))
    rw [List.getElem_take]; simpa [endB] using this
  have a2 : (l.drop i).countP (endB r) = 0 := by
    rw [List.countP_eq_zero]
    intro x hx
    obtain ⟨t, ht, rfl⟩ := List.getElem_of_mem hx
    rw [List.length_drop] at ht
    have := h2 (i + t) _ (by omega) (List.getElem?_eq_getElem (by omega))
    rw [List.getElem_drop]; simpa [endB] using this
  rw [a1, a2]; rfl

/-- A list in order into which one more is put, behind all that begin no later. -/
theorem rise_put {l : List (Int × Int × Nat)} {x : Int × Int × Nat} {k : Nat} (h : RiseC l) (h1 : ∀ y, k ≠ 0 → l[k - 1]? = some y → y.1 ≤ x.1) (h2 : ∀ y ∈ l.drop k, x.1 < y.1) (hk : k ≤ l.length) : RiseC (l.take k ++ x :: l.drop k) := by
  unfold RiseC
  have hs : (l.take k ++ l.drop k).Pairwise fun a b => a.1 ≤ b.1 := by rw [List.take_append_drop]; exact h
  rw [List.pairwise_append] at hs ⊢
  refine ⟨hs.1, .cons (fun y hy => by have := h2 y hy; omega) hs.2.1, fun a haa b hb => ?_⟩
  rcases List.mem_cons.1 hb with rfl | hb
  · obtain ⟨t, ht, rfl⟩ := List.getElem_of_mem haa
    rw [List.length_take] at ht
    rw [List.getElem_take]
    have hk0 : k ≠ 0 := by omega
    have hl := h1 _ hk0 (List.getElem?_eq_getElem (by omega))
    have := List.pairwise_iff_getElem.1 h
    rcases Nat.lt_or_ge t (k - 1) with hlt | hge
    · have := this t (k - 1) (by omega) (by omega) hlt; omega
    · obtain rfl : t = k - 1 := by omega
      exact hl
  · exact hs.2.2 a haa b hb
theorem perm_put {l : List (Int × Int × Nat)} {x : Int × Int × Nat} {k : Nat} : (l.take k ++ x :: l.drop k).Perm (l ++ [x]) := by
  have h1 : (l.take k ++ x :: l.drop k).Perm (x :: (l.take k ++ l.drop k)) := List.perm_middle
  rw [List.take_append_drop] at h1
  exact h1.trans (List.perm_append_comm (l₁ := [x]) (l₂ := l))
end Go.Proofs.YthlnfefpdmecaaaGreatDoor

/-
  PLAIN: the spelling of a set; read again it is the set. No walk.
-/
namespace Go.Proofs.YthlnfefpdmecaaaGreatDoor

def hexD (d : Nat) : UInt8 := if d < 10 then UInt8.ofNat (48 + d) else UInt8.ofNat (55 + d)
/-- The last k hexadecimal digits of a number. -/
def hexW : Nat → Nat → List UInt8
  | 0, _ => []
  | k + 1, n => hexW k (n / 16) ++ [hexD (n % 16)]
def hexK (n : Nat) : Nat := if n < 65536 then 4 else if n < 1048576 then 5 else 6
def hexS (n : Nat) : List UInt8 := hexW (hexK n) n
theorem hexW_len : ∀ (k n : Nat), (hexW k n).length = k
  | 0, _ => rfl
  | k + 1, n => by rw [hexW, List.length_append, hexW_len k]; rfl
theorem hexK_bd (n : Nat) : 4 ≤ hexK n ∧ hexK n ≤ 6 := by unfold hexK; split <;> (try split) <;> omega
theorem hexS_len (n : Nat) : (hexS n).length = hexK n := hexW_len _ _
theorem hexD_nat {d : Nat} (h : d < 16) : ((hexD d).toNat : Int) = if d < 10 then 48 + (d : Int) else 55 + (d : Int) := by
  unfold hexD
  split
  · rw [UInt8.toNat_ofNat']; omega
  · rw [UInt8.toNat_ofNat']; omega
theorem hexD_hex {d : Nat} (h : d < 16) : isHexN ((hexD d).toNat : Int) = true := by
  rw [hexD_nat h]; refine (isHexN_t ?_).symm; split <;> omega
theorem hexD_dig {d : Nat} (h : d < 16) : hexDig ((hexD d).toNat : Int) = d := by
  rw [hexD_nat h]; unfold hexDig; split <;> (rename_i h1; split <;> omega)
theorem hexW_all : ∀ (k n : Nat), allHex (hexW k n)
  | 0, _ => fun c h => by simp [hexW] at h
  | k + 1, n => fun c h => by
    rw [hexW] at h
    rcases List.mem_append.1 h with h | h
    · exact hexW_all k _ c h
    · simp at h; subst h; exact hexD_hex (Nat.mod_lt _ (by decide))
theorem hexW_val : ∀ (k n : Nat), n < 16 ^ k → hexVal (hexW k n) = n
  | 0, n, h => by simp [hexW, hexVal]; omega
  | k + 1, n, h => by
    rw [hexW, hexVal_snoc, hexW_val k (n / 16) (by rw [Nat.pow_succ] at h; omega), hexD_dig (Nat.mod_lt _ (by decide))]
    omega
theorem hexS_val {n : Nat} (h : n ≤ 1114111) : hexVal (hexS n) = n := by
  refine hexW_val _ _ ?_
  unfold hexK
  split
  · simpa using ‹_›
  · split
    · simpa using ‹_›
    · show n < 16777216; omega
theorem hexS_bytes (n : Nat) : ∀ c ∈ hexS n, c ≠ 32 ∧ c ≠ 45 := fun c hc => by
  have := of_decide_eq_true (show isHexN (c.toNat : Int) = true from hexW_all _ _ c hc)
  constructor <;> (rintro rfl; simp at this)

/-- A rune's spelling; a range's; a set's. -/
def spellP (r : Int) : List UInt8 := [85, 43] ++ hexS r.toNat
def itemT (x : Int × Int) : List UInt8 := spellP x.1 ++ (if x.2 = x.1 then [] else 45 :: spellP x.2)
def printL : List (Int × Int) → List UInt8
  | [] => []
  | [x] => itemT x
  | x :: y :: r => itemT x ++ 32 :: printL (y :: r)
def printP (l : List (Int × Int)) : List UInt8 := printL (normR l)
theorem spellP_len (r : Int) : (spellP r).length ≤ 8 := by unfold spellP; rw [List.length_append, hexS_len]; have := hexK_bd r.toNat; simp; omega
theorem itemT_len (x : Int × Int) : (itemT x).length ≤ 17 := by
  unfold itemT; rw [List.length_append]
  have := spellP_len x.1; have := spellP_len x.2
  split
  · simp; omega
  · simp; omega
theorem printL_len : ∀ (l : List (Int × Int)), (printL l).length ≤ 18 * l.length
  | [] => by simp [printL]
  | [x] => by have := itemT_len x; simp [printL]; omega
  | x :: y :: r => by
    have h1 := itemT_len x; have h2 := printL_len (y :: r)
    rw [printL, List.length_append, List.length_cons]
    simp only [List.length_cons] at h2 ⊢; omega
/-- Behind what stands ahead. -/
theorem printL_snoc : ∀ (l : List (Int × Int)) (x : Int × Int), printL (l ++ [x]) = printL l ++ (if l = [] then [] else [32]) ++ itemT x
  | [], x => by simp [printL]
  | [y], x => by simp [printL]
  | y :: z :: r, x => by
    have ih := printL_snoc (z :: r) x
    simp only [List.cons_append, printL] at ih ⊢
    rw [ih]; simp

/- Read again. -/
theorem hexRun_of {s : ByteArray} {a : Nat} {d r : List UInt8} (h : rest s a = d ++ r) (hd : allHex d) (hr : ∀ c, r.head? = some c → isHexN (c.toNat : Int) = false) : hexRun s a = d := by
  unfold hexRun; rw [h]
  clear h
  induction d with
  | nil =>
    rw [List.nil_append]
    cases r with
    | nil => rfl
    | cons c r => rw [List.takeWhile_cons, if_neg (by rw [hr c rfl]; decide)]
  | cons c d ih =>
    rw [List.cons_append, List.takeWhile_cons, if_pos (hd c (by simp)), ih (fun e he => hd e (by simp [he]))]
theorem rest_add {s : ByteArray} {a : Nat} {d r : List UInt8} (h : rest s a = d ++ r) : rest s (a + d.length) = r := by
  unfold rest at h ⊢
  rw [← List.drop_drop, h, List.drop_left]
theorem runeP_spell {s : ByteArray} {a : Nat} {x : Int} {r : List UInt8} (h : rest s a = spellP x ++ r) (hx : 0 ≤ x ∧ x ≤ 1114111) (hr : ∀ c, r.head? = some c → isHexN (c.toNat : Int) = false) :
    runeP s a = .ok (x, a + (spellP x).length) := by
  have h2 : rest s (a + 2) = hexS x.toNat ++ r := by
    have := rest_add (d := [85, 43]) (r := hexS x.toNat ++ r) (by rw [h, spellP, List.append_assoc])
    exact this
  have hh := hexRun_of h2 (hexW_all _ _) hr
  have hl := hexS_len x.toNat
  have hk := hexK_bd x.toNat
  have hv := hexS_val (n := x.toNat) (by omega)
  unfold runeP
  rw [if_pos (by rw [h]; simp [spellP]), numP, hh, if_neg (by omega), if_neg (by rw [hv]; omega), hv]
  congr 2
  · omega
  · rw [spellP, List.length_append]; simp only [List.length_cons, List.length_nil]; omega
theorem itemP_item {s : ByteArray} {a : Nat} {x : Int × Int} {r : List UInt8} (h : rest s a = itemT x ++ r) (h0 : 0 ≤ x.1) (h1 : x.1 ≤ x.2) (h2 : x.2 ≤ 1114111) (hr : ∀ c, r.head? = some c → c = 32) :
    itemP s a = .ok (x, a + (itemT x).length) := by
  have hr2 : ∀ c, r.head? = some c → isHexN (c.toNat : Int) = false := fun c hc => by rw [hr c hc]; rfl
  have hrs : ¬ (r.head? ≠ none ∧ r.head? ≠ some 32) := by
    rintro ⟨k1, k2⟩
    cases hc : r.head? with
    | none => exact k1 hc
    | some c => rw [hc, hr c hc] at k2; exact k2 rfl
  unfold itemT at h ⊢
  by_cases he : x.2 = x.1
  · rw [if_pos he, List.append_nil] at h ⊢
    have k1 := runeP_spell h ⟨h0, by omega⟩ hr2
    have k2 := rest_add h
    unfold itemP
    rw [k1]; simp only
    rw [k2, if_neg (fun e => by have := hr _ e; simp at this)]
    simp only
    rw [k2, if_neg (by omega), if_neg hrs]
    congr 2
    exact Prod.ext rfl he.symm
  · rw [if_neg he] at h ⊢
    rw [List.append_assoc, List.cons_append] at h
    have k1 := runeP_spell h ⟨h0, by omega⟩ (fun c hc => by simp at hc; subst hc; rfl)
    have k2 := rest_add h
    have k3 : rest s (a + (spellP x.1).length + 1) = spellP x.2 ++ r := rest_add (d := [45]) (by rw [k2]; rfl)
    have k4 := runeP_spell k3 ⟨by omega, h2⟩ hr2
    have k5 := rest_add k3
    unfold itemP
    rw [k1]; simp only
    rw [k2, if_pos (by rfl), k4]
    simp only
    rw [k5, if_neg (by omega), if_neg hrs]
    congr 2
    rw [List.length_append, List.length_cons]; omega
theorem itemT_head (x : Int × Int) (r : List UInt8) : (itemT x ++ r).head? = some 85 := by unfold itemT spellP; rfl
theorem parse_print {s : ByteArray} : ∀ (L : List (Int × Int)) (f a : Nat) (acc : List (Int × Int)), (∀ x ∈ L, 0 ≤ x.1 ∧ x.1 ≤ x.2 ∧ x.2 ≤ 1114111) → rest s a = printL L → 2 * L.length < f + 1 → parseGo s f a acc = .ok (acc ++ L)
  | [], f, a, acc, _, h, hf => by
    cases f with
    | zero => simp [parseGo]
    | succ f => unfold parseGo; rw [h]; simp [printL]
  | x :: L, f, a, acc, hb, h, hf => by
    obtain ⟨f, rfl⟩ : ∃ g, f = g + 1 := ⟨f - 1, by simp at hf; omega⟩
    have hx := hb x (by simp)
    cases L with
    | nil =>
      have h' : rest s a = itemT x ++ [] := by rw [h]; simp [printL]
      have k := itemP_item h' hx.1 hx.2.1 hx.2.2 (by simp)
      have kr := rest_add h'
      unfold parseGo
      rw [h', itemT_head]; simp only
      rw [if_neg (by decide), k]
      simp only
      have := parse_print [] f (a + (itemT x).length) (acc ++ [x]) (by simp) (by rw [kr]; rfl) (by simp at hf ⊢)
      rw [this]; simp
    | cons y L =>
      have h' : rest s a = itemT x ++ 32 :: printL (y :: L) := by rw [h]; rfl
      have k := itemP_item h' hx.1 hx.2.1 hx.2.2 (by simp)
      have kr := rest_add h'
      unfold parseGo
      rw [h', itemT_head]; simp only
      rw [if_neg (by decide), k]
      simp only
      obtain ⟨f, rfl⟩ : ∃ g, f = g + 1 := ⟨f - 1, by simp at hf; omega⟩
      unfold parseGo
      rw [kr]; simp only [List.head?_cons, if_true]
      have := parse_print (y :: L) f (a + (itemT x).length + 1) (acc ++ [x]) (fun z hz => hb z (by simp [hz])) (rest_add (d := [32]) (by rw [kr]; rfl)) (by simp only [List.length_cons] at hf ⊢; omega)
      rw [this]; simp
theorem printL_ge : ∀ (l : List (Int × Int)), 2 * l.length ≤ (printL l).length
  | [] => by simp
  | [x] => by unfold printL itemT spellP; simp
  | x :: y :: r => by
    have ih := printL_ge (y :: r)
    rw [printL, List.length_append, List.length_cons]
    unfold itemT spellP
    simp only [List.length_append, List.length_cons] at ih ⊢; omega
/-- What is printed is read as the same set. -/
theorem parse_printP (l : List (Int × Int)) : parseP ⟨(printP l).toArray⟩ = .ok (normR l) := by
  have hz : (⟨(printP l).toArray⟩ : ByteArray).size = (printP l).length := by rw [← size_data]
  unfold parseP
  rw [hz]
  have := printL_ge (normR l)
  refine parse_print (normR l) _ 0 [] (fun x hx => ?_) ?_ (by unfold printP; omega)
  · have h1 := (normR_NF l).2 x hx
    have h2 := Nf_le (normR_nf l) x hx
    omega
  · unfold rest printP; simp
end Go.Proofs.YthlnfefpdmecaaaGreatDoor

/-
  PLAIN: the text of a database; read again it is the same one; how long it is. No walk.
-/
namespace Go.Proofs.YthlnfefpdmecaaaGreatDoor

/-- A set's spelling, a blank behind each range. -/
def setT : List (Int × Int) → List UInt8
  | [] => []
  | x :: r => itemT x ++ 32 :: setT r
theorem setT_eq : ∀ (l : List (Int × Int)), setT l = printL l ++ (if l = [] then [] else [32])
  | [] => rfl
  | [x] => by simp [setT, printL]
  | x :: y :: r => by
    have ih := setT_eq (y :: r)
    rw [setT, ih, printL]; simp
theorem setT_len : ∀ (l : List (Int × Int)), (setT l).length ≤ 18 * l.length
  | [] => by simp [setT]
  | x :: r => by have := itemT_len x; have := setT_len r; rw [setT, List.length_append, List.length_cons, List.length_cons]; omega
theorem parse_set {s : ByteArray} : ∀ (L : List (Int × Int)) (f a : Nat) (acc : List (Int × Int)), (∀ x ∈ L, 0 ≤ x.1 ∧ x.1 ≤ x.2 ∧ x.2 ≤ 1114111) → rest s a = setT L → 2 * L.length < f + 1 → parseGo s f a acc = .ok (acc ++ L)
  | [], f, a, acc, _, h, hf => by
    cases f with
    | zero => simp [parseGo]
    | succ f => unfold parseGo; rw [h]; simp [setT]
  | x :: L, f, a, acc, hb, h, hf => by
    obtain ⟨f, rfl⟩ : ∃ g, f = g + 1 := ⟨f - 1, by simp at hf; omega⟩
    have hx := hb x (by simp)
    have h' : rest s a = itemT x ++ 32 :: setT L := h
    have k := itemP_item h' hx.1 hx.2.1 hx.2.2 (by simp)
    have kr := rest_add h'
    unfold parseGo
    rw [h', itemT_head]; simp only
    rw [if_neg (by decide), k]
    simp only
    obtain ⟨f, rfl⟩ : ∃ g, f = g + 1 := ⟨f - 1, by simp at hf; omega⟩
    unfold parseGo
    rw [kr]; simp only [List.head?_cons, if_true]
    have := parse_set L f (a + (itemT x).length + 1) (acc ++ [x]) (fun z hz => hb z (by simp [hz])) (rest_add (d := [32]) (by rw [kr]; rfl)) (by simp only [List.length_cons] at hf ⊢; omega)
    rw [this]; simp
theorem setT_ge : ∀ (l : List (Int × Int)), 2 * l.length ≤ (setT l).length
  | [] => by simp [setT]
  | x :: r => by
    have ih := setT_ge r
    rw [setT, List.length_append, List.length_cons, List.length_cons]
    unfold itemT spellP; simp only [List.length_append, List.length_cons]; omega
/-- Bytes that part nothing. -/
def OkB (c : UInt8) : Prop := c ≠ 35 ∧ c ≠ 39 ∧ c ≠ 59 ∧ c ≠ 10 ∧ c ≠ 9
theorem hexS_ok (n : Nat) : ∀ c ∈ hexS n, OkB c := fun c hc => by
  have := of_decide_eq_true (show isHexN (c.toNat : Int) = true from hexW_all _ _ c hc)
  refine ⟨?_, ?_, ?_, ?_, ?_⟩ <;> (rintro rfl; simp at this)
theorem spellP_ok (r : Int) : ∀ c ∈ spellP r, OkB c := fun c hc => by
  rcases List.mem_append.1 hc with hc | hc
  · simp only [List.mem_cons, List.not_mem_nil, or_false] at hc
    rcases hc with rfl | rfl <;> (unfold OkB; decide)
  · exact hexS_ok _ c hc
theorem itemT_ok (x : Int × Int) : ∀ c ∈ itemT x, OkB c := fun c hc => by
  rcases List.mem_append.1 hc with hc | hc
  · exact spellP_ok _ c hc
  · split at hc
    · simp at hc
    · rcases List.mem_cons.1 hc with rfl | hc
      · (unfold OkB; decide)
      · exact spellP_ok _ c hc
theorem setT_ok : ∀ (l : List (Int × Int)), ∀ c ∈ setT l, OkB c
  | [], c, hc => by simp [setT] at hc
  | x :: r, c, hc => by
    rcases List.mem_append.1 hc with hc | hc
    · exact itemT_ok x c hc
    · rcases List.mem_cons.1 hc with rfl | hc
      · (unfold OkB; decide)
      · exact setT_ok r c hc
theorem spcL_ok {l : List UInt8} (h : ∀ c ∈ l, OkB c) : spcL l = l := by
  unfold spcL
  conv => rhs; rw [← List.map_id l]
  refine List.map_congr_left fun c hc => ?_
  rw [if_neg (h c hc).2.2.2.2]; rfl
theorem parse_setT {l : List (Int × Int)} (h : NF l) : parseE (spcL (setT l)) = .ok l := by
  rw [spcL_ok (setT_ok l)]
  unfold parseE parseP
  have := parse_set (s := bytesOf (setT l)) l ((bytesOf (setT l)).size + 1) 0 [] (fun x hx => by have := h.2 x hx; have := Nf_le h.1 x hx; omega) (by unfold rest; rw [bytesOf_list, List.drop_zero]) (by rw [bytesOf_size]; have := setT_ge l; omega)
  rw [this]; rfl
theorem part_ok {c : UInt8} (h : partB c = true) : OkB c ∧ blkB c = false := by
  refine ⟨⟨?_, ?_, ?_, ?_, ?_⟩, ?_⟩
  · rintro rfl; exact absurd h (by decide)
  · rintro rfl; exact absurd h (by decide)
  · rintro rfl; exact absurd h (by decide)
  · rintro rfl; exact absurd h (by decide)
  · rintro rfl; exact absurd h (by decide)
  · cases hb : blkB c with
    | false => rfl
    | true =>
      exfalso
      simp only [blkB, Bool.or_eq_true, beq_iff_eq] at hb
      rcases hb with rfl | rfl
      · exact absurd h (by decide)
      · exact absurd h (by decide)
theorem name_part {n : List UInt8} (h : nameL n = true) : n ≠ [] ∧ n.length ≤ 32 ∧ ∀ c ∈ n, partB c = true := by
  cases n with
  | nil => cases h
  | cons x r =>
    simp only [nameL, Bool.and_eq_true, decide_eq_true_eq, List.all_eq_true] at h
    refine ⟨by simp, by simp only [List.length_cons]; omega, fun c hc => ?_⟩
    rcases List.mem_cons.1 hc with rfl | hc
    · unfold partB; rw [h.1.1]; rfl
    · exact h.1.2 c hc
theorem name_bare {n : List UInt8} (h : nameL n = true) : Bare n := by
  obtain ⟨h1, _, h3⟩ := name_part h
  refine .inr ⟨⟨n.head h1, by rw [List.head?_eq_some_head h1], (part_ok (h3 _ (List.head_mem h1))).2⟩, ⟨n.getLast h1, by rw [List.getLast?_eq_some_getLast h1], (part_ok (h3 _ (List.getLast_mem h1))).2⟩⟩
/-- What a class says as a line. -/
def lineT (s : List (Int × Int)) (n : List UInt8) : List UInt8 := setT s ++ (59 :: 32 :: n)
theorem qtL_no {x : UInt8} {r : List UInt8} (h : x ≠ 39) : qtL (x :: r) = none := by rw [qtL_cons, if_neg (fun k => h k.1)]
theorem findP_none {c : UInt8} : ∀ {l : List UInt8}, (∀ x ∈ l, x ≠ 39 ∧ x ≠ c) → findP c l = none
  | [], _ => rfl
  | x :: r, h => by rw [findP_cons (qtL_no (h x (by simp)).1), if_neg (h x (by simp)).2, findP_none (fun y hy => h y (by simp [hy]))]; rfl
theorem findP_first {c : UInt8} (hc : c ≠ 39) (r : List UInt8) : ∀ {l : List UInt8}, (∀ x ∈ l, x ≠ 39 ∧ x ≠ c) → findP c (l ++ c :: r) = some l.length
  | [], _ => by rw [List.nil_append, findP_cons (qtL_no hc), if_pos rfl]; rfl
  | x :: l, h => by rw [List.cons_append, findP_cons (qtL_no (h x (by simp)).1), if_neg (h x (by simp)).2, findP_first hc r (fun y hy => h y (by simp [hy]))]; rfl
theorem lineT_ok {s : List (Int × Int)} {n : List UInt8} (h : nameL n = true) : ∀ c ∈ lineT s n, c ≠ 35 ∧ c ≠ 39 ∧ c ≠ 10 := fun c hc => by
  rcases List.mem_append.1 hc with hc | hc
  · have := setT_ok s c hc; exact ⟨this.1, this.2.1, this.2.2.2.1⟩
  · simp only [List.mem_cons] at hc
    rcases hc with rfl | rfl | hc
    · decide
    · decide
    · have := (part_ok ((name_part h).2.2 c hc)).1; exact ⟨this.1, this.2.1, this.2.2.2.1⟩
theorem lineT_bare {s : List (Int × Int)} {n : List UInt8} (h : nameL n = true) : Bare (lineT s n) := by
  obtain ⟨h1, _, h3⟩ := name_part h
  refine .inr ⟨?_, ⟨n.getLast h1, ?_, (part_ok (h3 _ (List.getLast_mem h1))).2⟩⟩
  · cases s with
    | nil => exact ⟨59, rfl, by decide⟩
    | cons x r => exact ⟨85, by unfold lineT setT; rw [List.append_assoc, itemT_head], by decide⟩
  · unfold lineT
    rw [List.getLast?_append, List.getLast?_cons_cons, List.getLast?_cons, List.getLast?_eq_some_getLast h1]; simp
theorem line_says {s : List (Int × Int)} {n : List UInt8} (h : nameL n = true) : lineP (lineT s n) = .says n (setT s) := by
  unfold lineP hashP
  rw [findP_none (fun c hc => ⟨(lineT_ok h c hc).2.1, (lineT_ok h c hc).1⟩), Option.getD_none, List.take_length]
  have ht : trimL (lineT s n) = lineT s n := by
    have := trim_unique (b := []) (u := lineT s n) (e := []) (by simp) (by simp) (lineT_bare h)
    simpa using this
  simp only
  rw [ht, if_neg (by unfold lineT; simp)]
  have hf : findP 59 (lineT s n) = some (setT s).length := by
    unfold lineT
    exact findP_first (by decide) _ fun c hc => ⟨(setT_ok s c hc).2.1, (setT_ok s c hc).2.2.1⟩
  rw [hf]
  simp only
  congr 1
  · unfold lineT
    rw [← List.drop_drop, List.drop_left, List.drop_one, List.tail_cons]
    have := trim_unique (b := [32]) (u := n) (e := []) (by simp [blkB]) (by simp) (name_bare h)
    simpa using this
  · unfold lineT; rw [List.take_left]

/-- The text of classes. -/
def textG : List (List UInt8) → List (List (Int × Int)) → List UInt8
  | n :: N, s :: S => lineT s n ++ 10 :: textG N S
  | _, _ => []
def DbP.text (d : DbP) : List UInt8 := textG d.names.tail d.sets.tail
theorem splitL_line {x r : List UInt8} (h : ∀ c ∈ x, c ≠ 10) : splitL (x ++ 10 :: r) = x :: splitL r := by
  induction x with
  | nil => rw [List.nil_append]; show (if (10 : UInt8) = 10 then _ else _) = _; rw [if_pos rfl]
  | cons c x ih =>
    rw [List.cons_append]
    show (if c = 10 then _ else _) = _
    rw [if_neg (h c (by simp)), ih (fun d hd => h d (by simp [hd]))]
theorem split_text : ∀ {N : List (List UInt8)} {S : List (List (Int × Int))}, (∀ n ∈ N, nameL n = true) → splitL (textG N S) = (List.zipWith lineT S N) ++ [[]]
  | [], S, _ => by cases S <;> rfl
  | n :: N, [], _ => rfl
  | n :: N, s :: S, h => by
    rw [textG, splitL_line (fun c hc => (lineT_ok (h n (by simp)) c hc).2.2), split_text (fun m hm => h m (by simp [hm]))]; rfl
/-- A class's line adds the class. -/
theorem step_line {d : DbP} {n : List UInt8} {s : List (Int × Int)} (hn : nameL n = true) (ho : n ≠ otherL) (hs : NF s) (hnew : n ∉ d.names) (hl : d.names.length < 64) (hnf : ∀ q ∈ d.sets, NF q) (hcl : ∀ q ∈ d.sets, ∀ r, memR q r → memR s r → False) :
    stepL d (lineT s n) = .ok ⟨d.names ++ [n], d.sets ++ [s]⟩ := by
  unfold stepL
  rw [line_says hn]
  simp only
  unfold addL
  rw [if_neg (by rintro (h | h); rw [hn] at h; cases h; exact ho h), parse_setT hs]
  simp only
  have h0 : d.num n = none := by
    cases h : d.num n with
    | none => rfl
    | some k => exact absurd (List.mem_of_getElem? (idxOf?_some h)) hnew
  rw [h0]
  simp only
  have hc : d.clash d.names.length (normR s) = false := by
    unfold DbP.clash
    rw [List.any_eq_false]
    intro k hk
    have hlt := List.mem_range.1 hk
    have hq : d.sets.getD k [] ∈ d.sets := by rw [List.getD_eq_getElem?_getD, List.getElem?_eq_getElem hlt]; exact List.getElem_mem hlt
    have : meetB (d.sets.getD k []) (normR s) = false := by
      cases hm : meetB (d.sets.getD k []) (normR s) with
      | false => rfl
      | true =>
        obtain ⟨r, h1, h2⟩ := (meetB_iff (hnf _ hq).1 (normR_nf s)).1 hm
        rw [normR_of_NF hs] at h2
        exact (hcl _ hq r h1 h2).elim
    rw [this]; simp
  rw [if_neg (by omega), hc, if_neg (by simp)]
  have : orR [] (normR s) = s := by unfold orR; rw [List.nil_append, normR_of_NF (normR_NF s), normR_of_NF hs]
  rw [this]
theorem lines_back : ∀ {N : List (List UInt8)} {S : List (List (Int × Int))} {d : DbP} {i : Nat}, S.length = N.length → (∀ n ∈ N, nameL n = true ∧ n ≠ otherL) → (d.names ++ N).Nodup → (d.names ++ N).length ≤ 64 → (∀ q ∈ d.sets ++ S, NF q) → Apart (d.sets ++ S) →
    linesGo d (List.zipWith lineT S N ++ [[]]) i = .ok ⟨d.names ++ N, d.sets ++ S⟩
  | [], S, d, i, hl, _, _, _, _, _ => by
    have : S = [] := List.eq_nil_of_length_eq_zero (by simpa using hl)
    subst this
    simp only [List.zipWith_nil_right, List.nil_append, List.append_nil]
    unfold linesGo
    have : stepL d [] = .ok d := rfl
    rw [this]; rfl
  | n :: N, [], d, i, hl, _, _, _, _, _ => by simp at hl
  | n :: N, s :: S, d, i, hl, hn, hd, h64, hq, ha => by
    rw [List.zipWith_cons_cons, List.cons_append]
    unfold linesGo
    have h1 := hn n (by simp)
    have hnew : n ∉ d.names := fun hm => by
      rw [List.nodup_append] at hd
      exact hd.2.2 n hm n (by simp) rfl
    rw [step_line h1.1 h1.2 (hq s (by simp)) hnew (by simp only [List.length_append, List.length_cons] at h64; omega) (fun q hqq => hq q (by simp [hqq])) (fun q hqq r ra rb => ?_)]
    · simp only
      have := lines_back (N := N) (S := S) (d := ⟨d.names ++ [n], d.sets ++ [s]⟩) (i := i + 1) (by simpa using hl) (fun m hm => hn m (by simp [hm])) (by simpa using hd) (by simpa using h64) (by simpa using hq) (by simpa using ha)
      rw [this]; simp
    · obtain ⟨k, hk, rfl⟩ := List.getElem_of_mem hqq
      exact ha k d.sets.length _ s (by rw [List.getElem?_append_left hk, List.getElem?_eq_getElem hk]) (by rw [List.getElem?_append_right (Nat.le_refl _), Nat.sub_self]; rfl) (by omega) r ra rb
def DbP.Named (d : DbP) : Prop := ∀ n ∈ d.names, nameL n = true
/-- What a database says as a text is read as the same. -/
theorem text_back {d : DbP} (h : d.Ok) (ha : Apart d.sets) (hn : d.Named) (hlen : d.text.length ≤ 65536) : newP d.text = .ok d := by
  obtain ⟨names, sets⟩ := d
  obtain ⟨h1, h2, h3, h4, h5, h6⟩ := h
  simp only at h1 h2 h3 h4 h5 h6
  cases names with
  | nil => simp at h4
  | cons n N =>
    cases sets with
    | nil => simp at h5
    | cons s S =>
      simp at h4 h5
      subst h4; subst h5
      unfold newP
      rw [if_neg (by omega)]
      unfold DbP.text
      simp only [List.tail_cons]
      rw [split_text (fun m hm => hn m (by simp [hm]))]
      refine lines_back (N := N) (S := S) (d := DbP.first) (i := 0) (by simpa using h1) (fun m hm => ⟨hn m (by simp [hm]), fun e => ?_⟩) h3 h6 h2 ha
      rw [List.nodup_cons] at h3
      exact h3.1 (e ▸ hm)

/- How long it is. -/
theorem addL_named {d d' : DbP} {n s : List UInt8} (h : d.Named) (ha : addL d n s = .ok d') : d'.Named := by
  unfold addL at ha
  split at ha
  · cases ha
  · rename_i hn
    split at ha
    · cases ha
    · split at ha
      · split at ha
        · cases ha
        · injection ha with ha; subst ha; exact h
      · split at ha
        · cases ha
        · split at ha
          · cases ha
          · injection ha with ha; subst ha
            intro m hm
            rcases List.mem_append.1 hm with hm | hm
            · exact h m hm
            · simp at hm; subst hm
              cases hb : nameL m with
              | true => rfl
              | false => exact absurd (.inl hb) hn
theorem linesGo_named : ∀ {L : List (List UInt8)} {d d' : DbP} {i : Nat}, d.Named → linesGo d L i = .ok d' → d'.Named
  | [], d, d', i, h, hs => by injection hs with hs; subst hs; exact h
  | l :: r, d, d', i, h, hs => by
    unfold linesGo at hs
    split at hs
    · cases hs
    · rename_i d2 h2
      refine linesGo_named ?_ hs
      unfold stepL at h2
      split at h2
      · injection h2 with h2; subst h2; exact h
      · cases h2
      · exact addL_named h h2
theorem newP_named {t : List UInt8} {d : DbP} (h : newP t = .ok d) : d.Named := by
  unfold newP at h
  split at h
  · cases h
  · exact linesGo_named (fun n hn => by simp [DbP.first] at hn; subst hn; decide) h
end Go.Proofs.YthlnfefpdmecaaaGreatDoor

/-
  PLAIN: how long a database's text is; how many runes its classes have. No walk.
-/
namespace Go.Proofs.YthlnfefpdmecaaaGreatDoor

theorem runeP_ge {s : ByteArray} {a q : Nat} {r : Int} (h : runeP s a = .ok (r, q)) : a + 3 ≤ q := by
  unfold runeP at h
  split at h
  · unfold numP at h
    split at h
    · cases h
    · split at h
      · cases h
      · injection h with h; injection h with _ h; omega
  · split at h
    · unfold quoP at h
      split at h
      · cases h
      · split at h
        · cases h
        · split at h
          · cases h
          · injection h with h; injection h with _ h; omega
    · cases h
theorem itemP_ge {s : ByteArray} {a q : Nat} {x : Int × Int} (h : itemP s a = .ok (x, q)) : a + 3 ≤ q ∧ q ≤ s.size ∧ ((rest s q).head? = none ∨ (rest s q).head? = some 32) := by
  have hq := (itemP_ok h).2
  unfold itemP at h
  cases h1 : runeP s a with
  | error e => rw [h1] at h; cases h
  | ok y =>
    obtain ⟨lo, p⟩ := y
    have b1 := runeP_ge h1
    rw [h1] at h
    by_cases h45 : (rest s p).head? = some 45
    · simp only [h45, if_true] at h
      cases h2 : runeP s (p + 1) with
      | error e => rw [h2] at h; cases h
      | ok z =>
        obtain ⟨hi, q'⟩ := z
        have b2 := runeP_ge h2
        rw [h2] at h
        simp only at h
        split at h
        · cases h
        · split at h
          · cases h
          · rename_i k
            injection h with h; injection h with _ h; subst h
            refine ⟨by omega, hq, ?_⟩
            cases hh : (rest s q').head? with
            | none => exact .inl rfl
            | some c => by_cases hc : c = 32
                        · exact .inr (by rw [hc])
                        · exact absurd ⟨by rw [hh]; simp, by rw [hh]; simpa using hc⟩ k
    · simp only [h45, if_false] at h
      split at h
      · cases h
      · split at h
        · cases h
        · rename_i k
          injection h with h; injection h with _ h; subst h
          refine ⟨b1, hq, ?_⟩
          cases hh : (rest s p).head? with
          | none => exact .inl rfl
          | some c => by_cases hc : c = 32
                      · exact .inr (by rw [hc])
                      · exact absurd ⟨by rw [hh]; simp, by rw [hh]; simpa using hc⟩ k
/-- Each item has three bytes at least, and a blank or the end behind it. -/
theorem parse_len {s : ByteArray} : ∀ (f a : Nat) (acc l : List (Int × Int)), a ≤ s.size → parseGo s f a acc = .ok l →
    4 * l.length + a ≤ 4 * acc.length + s.size + 1 ∧ ((rest s a).head? = none ∨ (rest s a).head? = some 32 → 4 * l.length + a + 1 ≤ 4 * acc.length + s.size + 1)
  | 0, a, acc, l, ha, h => by
    unfold parseGo at h; injection h with h; subst h; omega
  | f + 1, a, acc, l, ha, h => by
    unfold parseGo at h
    cases hc : (rest s a).head? with
    | none => rw [hc] at h; injection h with h; subst h; omega
    | some c =>
      rw [hc] at h
      have hlt : a < s.size := by
        rcases Nat.lt_or_ge a s.size with hlt | hge
        · exact hlt
        · rw [rest_none hge] at hc; simp at hc
      by_cases h32 : c = 32
      · simp only [h32, if_true] at h
        have ih := (parse_len f (a + 1) acc l (by omega) h).1
        omega
      · simp only [h32, if_false] at h
        cases hi : itemP s a with
        | error e => rw [hi] at h; cases h
        | ok y =>
          obtain ⟨x, q⟩ := y
          rw [hi] at h
          obtain ⟨k1, k2, k3⟩ := itemP_ge hi
          have ih := (parse_len f q (acc ++ [x]) l k2 h).2 k3
          simp only [List.length_append, List.length_singleton] at ih
          refine ⟨by omega, fun hh => ?_⟩
          rcases hh with hh | hh
          · cases hh
          · injection hh with hh; exact absurd hh h32
theorem parseE_len {s : List UInt8} {l : List (Int × Int)} (h : parseE (spcL s) = .ok l) : 4 * l.length ≤ s.length + 1 := by
  unfold parseE at h
  cases hp : parseP (bytesOf (spcL s)) with
  | error e => rw [hp] at h; cases h
  | ok m =>
    rw [hp] at h
    injection h with h; subst h
    have := (parse_len _ 0 [] m (Nat.zero_le _) hp).1
    rw [bytesOf_size] at this
    simp [spcL] at this
    omega
theorem mstepLen (o : List (Int × Int)) (x : Int × Int) : (mstep o x).length ≤ o.length + 1 := by
  rcases snoc_cases o with rfl | ⟨q, y, rfl⟩
  · simp [mstep]
  · rw [mstep_snoc]; split <;> simp
theorem mergeLen (s o : List (Int × Int)) : (s.foldl mstep o).length ≤ o.length + s.length := by
  induction s generalizing o with
  | nil => simp
  | cons x s ih => rw [List.foldl_cons]; have := ih (mstep o x); have := mstepLen o x; simp only [List.length_cons]; omega
theorem normLen (l : List (Int × Int)) : (normR l).length ≤ l.length := by
  have h := mergeLen ((keepR l).mergeSort fun a b => decide (a.1 ≤ b.1)) []
  have h2 : (keepR l).length ≤ l.length := by unfold keepR; refine Nat.le_trans (List.length_filter_le _ _) ?_; simp
  unfold normR mergeR
  rw [List.length_mergeSort] at h
  simp only [List.length_nil] at h; omega
theorem orLen (a b : List (Int × Int)) : (orR a b).length ≤ a.length + b.length := by
  have := normLen (a ++ b); rw [List.length_append] at this; exact this

def lenS {α : Type} : List (List α) → Nat
  | [] => 0
  | x :: r => x.length + lenS r
theorem lenS_append {α : Type} : ∀ (a b : List (List α)), lenS (a ++ b) = lenS a + lenS b
  | [], b => by simp [lenS]
  | x :: a, b => by rw [List.cons_append, lenS, lenS, lenS_append a b]; omega
theorem lenS_set {α : Type} (y : List α) : ∀ (S : List (List α)) (c : Nat), c < S.length → lenS (S.set c y) + (S.getD c []).length = lenS S + y.length
  | [], c, h => by simp at h
  | x :: S, 0, _ => by simp [lenS]; omega
  | x :: S, c + 1, h => by
    have := lenS_set y S c (by simpa using h)
    rw [List.set_cons_succ, lenS, lenS, List.getD_cons_succ]; omega
theorem trimL_len (l : List UInt8) : (trimL l).length ≤ l.length := by
  obtain ⟨b, e, h, _⟩ := trimL_parts l
  have := congrArg List.length h
  simp only [List.length_append] at this; omega
theorem says_len {l n s : List UInt8} (h : lineP l = .says n s) : s.length + n.length + 1 ≤ l.length := by
  unfold lineP at h
  simp only at h
  split at h
  · cases h
  · split at h
    · cases h
    · rename_i j hj
      injection h with h1 h2
      have hu := trimL_len (l.take (hashP l))
      have hl : (l.take (hashP l)).length ≤ l.length := by rw [List.length_take]; omega
      have hlt := (List.getElem?_eq_some_iff.1 (findP_lt _ _ (Nat.le_refl _) j hj)).1
      have hn := trimL_len ((trimL (l.take (hashP l))).drop (j + 1))
      rw [h1, List.length_drop] at hn
      rw [← h2, List.length_take]; omega
/-- What a database's text costs. -/
def DbP.cost (d : DbP) : Nat := 18 * lenS d.sets + lenS d.names + 3 * d.names.length
theorem textG_len : ∀ (N : List (List UInt8)) (S : List (List (Int × Int))), (textG N S).length ≤ 18 * lenS S + lenS N + 3 * N.length
  | [], S => by cases S <;> simp [textG]
  | n :: N, [] => by simp [textG]
  | n :: N, s :: S => by
    have h1 := textG_len N S; have h2 := setT_len s
    rw [textG, List.length_append, List.length_cons, lineT, List.length_append, List.length_cons, List.length_cons, lenS, lenS, List.length_cons]; omega
theorem text_cost {d : DbP} (h : d.Ok) : d.text.length + 8 ≤ d.cost := by
  obtain ⟨names, sets⟩ := d
  obtain ⟨h1, h2, h3, h4, h5, h6⟩ := h
  simp only at h1 h2 h3 h4 h5 h6
  cases names with
  | nil => simp at h4
  | cons n N =>
    cases sets with
    | nil => simp at h5
    | cons s S =>
      simp at h4 h5
      subst h4; subst h5
      have := textG_len N S
      unfold DbP.text DbP.cost
      simp only [List.tail_cons, lenS, List.length_cons, List.length_nil, otherL]
      omega
theorem addL_cost {d d' : DbP} {n s : List UInt8} (ho : d.Ok) (h : addL d n s = .ok d') : 2 * d'.cost ≤ 2 * d.cost + 9 * (s.length + n.length + 2) := by
  unfold addL at h
  split at h
  · cases h
  · split at h
    · cases h
    · rename_i l hl
      have h1 := parseE_len hl
      have h2 := normLen l
      split at h
      · rename_i c hc
        split at h
        · cases h
        · injection h with h; subst h
          have hlt : c < d.sets.length := by rw [ho.len]; exact (List.getElem?_eq_some_iff.1 (idxOf?_some hc)).1
          have h3 := orLen (d.sets.getD c []) (normR l)
          have h4 := lenS_set (orR (d.sets.getD c []) (normR l)) d.sets c hlt
          unfold DbP.cost
          simp only
          omega
      · split at h
        · cases h
        · split at h
          · cases h
          · injection h with h; subst h
            have h3 := orLen [] (normR l)
            unfold DbP.cost
            simp only [lenS_append, lenS, List.length_append, List.length_cons, List.length_nil] at h3 ⊢
            omega
def lenL : List (List UInt8) → Nat
  | [] => 0
  | x :: r => x.length + 1 + lenL r
theorem split_len : ∀ (t : List UInt8), lenL (splitL t) = t.length + 1
  | [] => rfl
  | c :: r => by
    have ih := split_len r
    unfold splitL
    split
    · rw [lenL, ih]; simp; omega
    · cases hs : splitL r with
      | nil => rw [hs] at ih; simp [lenL] at ih
      | cons x t => rw [hs] at ih; simp only [lenL, List.length_cons] at ih ⊢; omega
theorem linesGo_cost : ∀ {L : List (List UInt8)} {d d' : DbP} {i : Nat}, d.Ok → linesGo d L i = .ok d' → 2 * d'.cost ≤ 2 * d.cost + 9 * lenL L
  | [], d, d', i, _, hs => by injection hs with hs; subst hs; omega
  | l :: r, d, d', i, ho, hs => by
    unfold linesGo at hs
    split at hs
    · cases hs
    · rename_i d2 h2
      have ih := linesGo_cost (stepL_ok ho h2) hs
      have h3 : 2 * d2.cost ≤ 2 * d.cost + 9 * (l.length + 1) := by
        unfold stepL at h2
        split at h2
        · injection h2 with h2; subst h2; omega
        · cases h2
        · rename_i n s hl
          have := says_len hl
          have := addL_cost ho h2
          omega
      rw [lenL]; omega
theorem newP_cost {t : List UInt8} {d : DbP} (h : newP t = .ok d) : 2 * d.cost ≤ 9 * t.length + 25 := by
  unfold newP at h
  split at h
  · cases h
  · have := linesGo_cost DbP.first_ok h
    rw [split_len] at this
    have e : DbP.first.cost = 8 := rfl
    omega
theorem newP_text {t : List UInt8} {d : DbP} (h : newP t = .ok d) (ht : t.length ≤ 12000) : d.text.length ≤ 65536 := by
  have := newP_cost h; have := text_cost (newP_ok h).1; omega
/-- There and back. -/
theorem newP_back {t : List UInt8} {d : DbP} (h : newP t = .ok d) (ht : t.length ≤ 12000) : newP d.text = .ok d :=
  text_back (newP_ok h).1 (newP_ok h).2 (newP_named h) (newP_text h ht)

/- The classes are apart and are all runes. -/
def DbP.full (d : DbP) : List (List (Int × Int)) := d.rest :: d.sets.tail
theorem hasP_flat {S : List (List (Int × Int))} {r : Int} : hasP S.flatten r ↔ ∃ s ∈ S, hasP s r := by
  constructor
  · rintro ⟨h0, h1, x, hx, h⟩
    obtain ⟨s, hs, hxs⟩ := List.mem_flatten.1 hx
    exact ⟨s, hs, h0, h1, x, hxs, h⟩
  · rintro ⟨s, hs, h0, h1, x, hx, h⟩
    exact ⟨h0, h1, x, List.mem_flatten.2 ⟨s, hs, hx⟩, h⟩
theorem full_NF {d : DbP} (h : d.Ok) : ∀ s ∈ d.full, NF s := fun s hs => by
  rcases List.mem_cons.1 hs with rfl | hs
  · exact notR_NF _
  · exact h.tailNF s hs
theorem full_len {d : DbP} (h : d.Ok) : d.full.length = d.names.length := by
  unfold DbP.full
  rw [List.length_cons, List.length_tail, h.len]
  cases hn : d.names with
  | nil => have := h.head; rw [hn] at this; cases this
  | cons n N => simp
theorem full_apart {d : DbP} (h : d.Ok) (ha : Apart d.sets) : Apart d.full := by
  have hrest : ∀ (j : Nat) (b : List (Int × Int)), d.sets.tail[j]? = some b → ∀ r, memR d.rest r → memR b r → False := fun j b hb r h1 h2 => by
    have hm := List.mem_of_getElem? hb
    have h3 := (NF_mem (h.tailNF b hm) r).2 h2
    have h4 := (NF_mem (notR_NF d.sets.tail.flatten) r).2 h1
    exact ((hasP_notR _ r).1 h4).2.2 (hasP_flat.2 ⟨b, hm, h3⟩)
  intro i j a b hi hj hij r h1 h2
  unfold DbP.full at hi hj
  cases i with
  | zero =>
    cases j with
    | zero => exact hij rfl
    | succ j => simp at hi hj; subst hi; exact hrest j b (by simpa using hj) r h1 h2
  | succ i =>
    cases j with
    | zero => simp at hi hj; subst hj; exact hrest i a (by simpa using hi) r h2 h1
    | succ j => exact DbP.tail_apart ha i j a b (by simpa using hi) (by simpa using hj) (by omega) r h1 h2
theorem full_all {d : DbP} (r : Int) (h0 : 0 ≤ r) (h1 : r ≤ 1114111) : ∃ s ∈ d.full, hasP s r := by
  by_cases hr : hasP d.sets.tail.flatten r
  · obtain ⟨s, hs, h⟩ := hasP_flat.1 hr
    exact ⟨s, List.mem_cons_of_mem _ hs, h⟩
  · exact ⟨d.rest, List.mem_cons_self, (hasP_notR _ r).2 ⟨h0, h1, hr⟩⟩
/-- Whether a rune lies in a class. -/
theorem has_get {d : DbP} (h : d.Ok) (ha : Apart d.sets) {i : Nat} {s : List (Int × Int)} (hi : d.full[i]? = some s) {r : Int} (h0 : 0 ≤ r) (h1 : r ≤ 1114111) : hasB s r = decide (d.get r = i) := by
  have hask : askR r = r := by unfold askR; rw [if_neg (by omega)]
  have hs := full_NF h s (List.mem_of_getElem? hi)
  have hg : ∃ q, d.full[d.get r]? = some q ∧ hasB q r = true := by
    unfold DbP.get
    rw [hask]
    rcases getGo_spec (r := r) (S := d.sets.tail) (i := 1) (by omega) with ⟨k1, k2⟩ | ⟨k, q, k1, k2, k3⟩
    · rw [k1]
      refine ⟨d.rest, rfl, hasB_true ((hasP_notR _ r).2 ⟨h0, h1, fun hr => ?_⟩)⟩
      obtain ⟨z, hz, hzr⟩ := hasP_flat.1 hr
      have := k2 z hz
      rw [hasB_true hzr] at this; cases this
    · rw [k3]
      refine ⟨q, ?_, k2⟩
      unfold DbP.full
      rw [Nat.add_comm, List.getElem?_cons_succ]; exact k1
  obtain ⟨q, hq, hqr⟩ := hg
  by_cases hi' : d.get r = i
  · subst hi'
    rw [hq] at hi; injection hi with hi; subst hi
    rw [hqr]; simp
  · have : hasB s r = false := by
      cases hb : hasB s r with
      | false => rfl
      | true =>
        exfalso
        exact full_apart h ha i (d.get r) s q hi hq (fun e => hi' e.symm) r ((NF_mem hs r).1 ((hasB_iff _ _).1 hb)) ((NF_mem (full_NF h q (List.mem_of_getElem? hq)) r).1 ((hasB_iff _ _).1 hqr))
    rw [this]; simp [hi']
theorem count_apart {a b : List (Int × Int)} (h : ∀ r, hasP a r → hasP b r → False) : countR (a ++ b) = countR a + countR b := by
  have h1 := count_or_and a b
  have h2 : andR a b = [] := NF_ext (andR_NF a b) NF_nil fun r => by
    rw [hasP_andR]; exact ⟨fun ⟨x, y⟩ => (h r x y).elim, fun x => (hasP_nil r x).elim⟩
  have h3 : countR (orR a b) = countR (a ++ b) := by unfold countR orR; rw [normR_idem]
  rw [h2, h3] at h1
  have h4 : countR [] = 0 := by unfold countR; rw [normR_of_NF NF_nil]; rfl
  omega
def cntS : List (List (Int × Int)) → Int
  | [] => 0
  | s :: S => countR s + cntS S
theorem count_flat : ∀ {S : List (List (Int × Int))}, Apart S → (∀ s ∈ S, NF s) → countR S.flatten = cntS S
  | [], _, _ => by unfold countR; rw [List.flatten_nil, normR_of_NF NF_nil]; rfl
  | s :: S, ha, hn => by
    rw [List.flatten_cons, count_apart, count_flat (apart_tail ha) (fun q hq => hn q (by simp [hq]))]
    · rfl
    · intro r h1 h2
      obtain ⟨q, hq, h3⟩ := hasP_flat.1 h2
      obtain ⟨k, hk, rfl⟩ := List.getElem_of_mem hq
      exact ha 0 (k + 1) s _ rfl (by rw [List.getElem?_cons_succ, List.getElem?_eq_getElem hk]) (by omega) r h1.2.2 h3.2.2
theorem count_full {d : DbP} (h : d.Ok) (ha : Apart d.sets) : cntS d.full = 1114112 ∧ countR d.full.flatten = 1114112 := by
  have h1 := count_flat (full_apart h ha) (full_NF h)
  have h2 : countR d.full.flatten = 1114112 := by
    have : normR d.full.flatten = [(0, 1114111)] := by
      refine NF_ext (normR_NF _) ⟨⟨by omega, by simp, trivial⟩, by simp⟩ fun r => ?_
      rw [hasP_normR, hasP_flat]
      constructor
      · rintro ⟨s, _, h0, h1, _⟩; exact ⟨h0, h1, _, List.mem_singleton.2 rfl, h0, h1⟩
      · rintro ⟨h0, h1, _⟩; exact full_all r h0 h1
    unfold countR; rw [this]; rfl
  exact ⟨by omega, h2⟩
end Go.Proofs.YthlnfefpdmecaaaGreatDoor

/-
  PLAIN: two databases crossed: the pairs of classes by their least runes. No walk.
-/
namespace Go.Proofs.YthlnfefpdmecaaaGreatDoor

/- All ranges, those of no class too, in order: they tile all runes. -/
def DbP.allE (d : DbP) : List (Int × Int × Nat) := entG 0 d.full
def DbP.allR (d : DbP) : List (Int × Int × Nat) := d.allE.mergeSort fun a b => decide (a.1 ≤ b.1)
theorem allR_rise (d : DbP) : RiseC d.allR := by
  have := List.pairwise_mergeSort (le := fun a b : Int × Int × Nat => decide (a.1 ≤ b.1)) (by simp; intros; omega) (by simp; intros; omega) d.allE
  exact this.imp (by simp)
theorem allR_perm (d : DbP) : d.allR.Perm d.allE := List.mergeSort_perm _ _
theorem allE_off {d : DbP} (h : d.Ok) (ha : Apart d.sets) : d.allE.Pairwise Off := entG_off (full_apart h ha) fun s hs => (full_NF h s hs).1
theorem allE_bd {d : DbP} (h : d.Ok) : ∀ x ∈ d.allE, 0 ≤ x.1 ∧ x.1 ≤ x.2.1 ∧ x.2.1 ≤ 1114111 ∧ x.2.2 < d.names.length := fun x hx => by
  obtain ⟨k, s, h1, h2, h3⟩ := mem_entG.1 hx
  have hs := full_NF h s (List.mem_of_getElem? h1)
  have := hs.2 _ h2; have := Nf_le hs.1 _ h2
  have hk := (List.getElem?_eq_some_iff.1 h1).1
  rw [full_len h] at hk
  simp only at *
  omega
theorem allR_unique {d : DbP} (h : d.Ok) (ha : Apart d.sets) {l : List (Int × Int × Nat)} (hp : l.Perm d.allE) (hr : RiseC l) : l = d.allR := by
  refine List.Perm.eq_of_pairwise (le := fun a b : Int × Int × Nat => a.1 ≤ b.1) (fun a b hal hbl h1 h2 => ?_) hr (allR_rise d) (hp.trans (allR_perm d).symm)
  have ha' := hp.mem_iff.1 hal
  have hb' := (allR_perm d).mem_iff.1 hbl
  have ba := allE_bd h a ha'; have bb := allE_bd h b hb'
  obtain ⟨i, hi, rfl⟩ := List.getElem_of_mem ha'
  obtain ⟨j, hj, rfl⟩ := List.getElem_of_mem hb'
  have hP := List.pairwise_iff_getElem.1 (allE_off h ha)
  rcases Nat.lt_trichotomy i j with hij | hij | hij
  · have := hP i j hi hj hij
    unfold Off at this; omega
  · subst hij; rfl
  · have := hP j i hj hi hij
    unfold Off at this; omega
theorem allE_eq (d : DbP) : d.allE = d.rest.map (fun x : Int × Int => (x.1, x.2, (0 : Nat))) ++ d.ents := rfl
/-- All ranges and the others behind them, in whatever order. -/
theorem all_perm (d : DbP) : (d.rng ++ d.rest.map fun x : Int × Int => (x.1, x.2, (0 : Nat))).Perm d.allE := by
  rw [allE_eq]
  exact ((rng_perm d).append_right _).trans List.perm_append_comm
theorem allR_bd {d : DbP} (h : d.Ok) : ∀ x ∈ d.allR, 0 ≤ x.1 ∧ x.1 ≤ x.2.1 ∧ x.2.1 ≤ 1114111 ∧ x.2.2 < d.names.length := fun x hx => allE_bd h x ((allR_perm d).mem_iff.1 hx)
theorem allR_next {d : DbP} (h : d.Ok) (ha : Apart d.sets) : d.allR.Pairwise fun a b => a.2.1 < b.1 := by
  have h1 : d.allR.Pairwise Off := (List.Perm.pairwise_iff off_symm (allR_perm d)).2 (allE_off h ha)
  have h2 := (allR_rise d).and h1
  exact h2.imp_of_mem fun {a b} hA hB hab => by
    have := allR_bd h a hA; have := allR_bd h b hB
    obtain ⟨h3, h4⟩ := hab
    unfold Off at h4; omega
/-- From a rune on without a gap to the last one. -/
def Tile : Int → List (Int × Int × Nat) → Prop
  | m, [] => m = 1114112
  | m, x :: r => x.1 = m ∧ m ≤ x.2.1 ∧ Tile (x.2.1 + 1) r
theorem tile_of : ∀ {l : List (Int × Int × Nat)} {m : Int}, (l.Pairwise fun a b => a.2.1 < b.1) → (∀ x ∈ l, m ≤ x.1 ∧ x.1 ≤ x.2.1 ∧ x.2.1 ≤ 1114111) → m ≤ 1114112 → (∀ r, m ≤ r → r ≤ 1114111 → ∃ x ∈ l, x.1 ≤ r ∧ r ≤ x.2.1) → Tile m l
  | [], m, _, _, hm, hc => by
    rcases Int.lt_or_le 1114111 m with h | h
    · show m = 1114112; omega
    · obtain ⟨x, hx, _⟩ := hc m (Int.le_refl _) h; simp at hx
  | x :: l, m, hp, hb, hm, hc => by
    rw [List.pairwise_cons] at hp
    have hx := hb x (by simp)
    have h1 : x.1 = m := by
      obtain ⟨y, hy, h2, h3⟩ := hc m (Int.le_refl _) (by omega)
      rcases List.mem_cons.1 hy with rfl | hy
      · omega
      · have := hp.1 y hy; omega
    refine ⟨h1, by omega, tile_of hp.2 (fun y hy => ?_) (by omega) fun r hr1 hr2 => ?_⟩
    · have := hp.1 y hy; have := hb y (by simp [hy]); omega
    · obtain ⟨y, hy, h2, h3⟩ := hc r (by omega) hr2
      rcases List.mem_cons.1 hy with rfl | hy
      · omega
      · exact ⟨y, hy, h2, h3⟩
theorem allR_tile {d : DbP} (h : d.Ok) (ha : Apart d.sets) : Tile 0 d.allR := by
  refine tile_of (allR_next h ha) (fun x hx => by have := allR_bd h x hx; omega) (by omega) fun r h0 h1 => ?_
  obtain ⟨s, hs, hr⟩ := full_all (d := d) r h0 h1
  obtain ⟨y, hy, h2, h3⟩ := (NF_mem (full_NF h s hs) r).1 hr
  obtain ⟨k, hk, rfl⟩ := List.getElem_of_mem hs
  exact ⟨(y.1, y.2, 0 + k), (allR_perm d).mem_iff.2 (mem_entG.2 ⟨k, _, List.getElem?_eq_getElem hk, hy, rfl⟩), h2, h3⟩
/-- The class of a range is that of each rune of it. -/
theorem allR_get {d : DbP} (h : d.Ok) (ha : Apart d.sets) {x : Int × Int × Nat} (hx : x ∈ d.allR) {r : Int} (h1 : x.1 ≤ r) (h2 : r ≤ x.2.1) : d.get r = x.2.2 := by
  have hb := allR_bd h x hx
  obtain ⟨k, s, h3, h4, h5⟩ := mem_entG.1 ((allR_perm d).mem_iff.1 hx)
  have := has_get h ha h3 (r := r) (by omega) (by omega)
  rw [(hasB_NF (full_NF h s (List.mem_of_getElem? h3)) r).2 ⟨_, h4, h1, h2⟩] at this
  have := of_decide_eq_true this.symm
  omega
/-- Where no range begins the class is as it was. -/
theorem get_same {d : DbP} (h : d.Ok) (ha : Apart d.sets) {p r : Int} (h0 : 0 ≤ p) (h1 : p ≤ r) (h2 : r ≤ 1114111) (hn : ∀ x ∈ d.allE, ¬ (p < x.1 ∧ x.1 ≤ r)) : d.get r = d.get p := by
  obtain ⟨s, hs, hr⟩ := full_all (d := d) r (by omega) h2
  obtain ⟨y, hy, h3, h4⟩ := (NF_mem (full_NF h s hs) r).1 hr
  obtain ⟨k, hk, rfl⟩ := List.getElem_of_mem hs
  have hm : (y.1, y.2, 0 + k) ∈ d.allE := mem_entG.2 ⟨k, _, List.getElem?_eq_getElem hk, hy, rfl⟩
  have hm' := (allR_perm d).mem_iff.2 hm
  have := hn _ hm
  simp only at this
  rw [allR_get h ha hm' (r := r) h3 h4, allR_get h ha hm' (r := p) (by simp only; omega) (by simp only; omega)]

/- Pairs by their least runes. -/
def ded1 (l : List (Nat × Nat)) (p : Nat × Nat) : List (Nat × Nat) := if p ∈ l then l else l ++ [p]
def dedN (G : Int → Nat × Nat) : Nat → List (Nat × Nat)
  | 0 => [(0, 0)]
  | n + 1 => ded1 (dedN G n) (G (n : Int))
theorem ded1_mem {l : List (Nat × Nat)} {p q : Nat × Nat} : q ∈ ded1 l p ↔ q ∈ l ∨ q = p := by
  unfold ded1
  split
  · rename_i h; exact ⟨.inl, fun h' => h'.elim id (fun e => e ▸ h)⟩
  · simp
theorem ded1_in {l : List (Nat × Nat)} {p : Nat × Nat} (h : p ∈ l) : ded1 l p = l := if_pos h
theorem mem_dedN {G : Int → Nat × Nat} {p : Nat × Nat} : ∀ {n : Nat}, p ∈ dedN G n ↔ p = (0, 0) ∨ ∃ j : Nat, j < n ∧ G (j : Int) = p
  | 0 => by simp [dedN]
  | n + 1 => by
    rw [dedN, ded1_mem, mem_dedN (n := n)]
    constructor
    · rintro ((h | ⟨j, h1, h2⟩) | h)
      · exact .inl h
      · exact .inr ⟨j, by omega, h2⟩
      · exact .inr ⟨n, by omega, h.symm⟩
    · rintro (h | ⟨j, h1, h2⟩)
      · exact .inl (.inl h)
      · rcases Nat.lt_or_ge j n with h | h
        · exact .inl (.inr ⟨j, h, h2⟩)
        · obtain rfl : j = n := by omega
          exact .inr h2.symm
theorem dedN_nodup {G : Int → Nat × Nat} : ∀ (n : Nat), (dedN G n).Nodup
  | 0 => by simp [dedN]
  | n + 1 => by
    rw [dedN]; unfold ded1
    split
    · exact dedN_nodup n
    · rename_i h
      rw [List.nodup_append]
      exact ⟨dedN_nodup n, by simp, fun a ha b hb e => by simp at hb; subst hb; subst e; exact h ha⟩
theorem dedN_head {G : Int → Nat × Nat} : ∀ (n : Nat), ∃ T, dedN G n = (0, 0) :: T
  | 0 => ⟨[], rfl⟩
  | n + 1 => by
    obtain ⟨T, h⟩ := dedN_head (G := G) n
    rw [dedN, h]; unfold ded1
    split
    · exact ⟨T, rfl⟩
    · exact ⟨T ++ [G n], rfl⟩
theorem dedN_same {G : Int → Nat × Nat} {m : Nat} : ∀ (n : Nat), m ≤ n → (∀ k : Nat, m ≤ k → k < n → ∃ j : Nat, j < m ∧ G (k : Int) = G (j : Int)) → dedN G n = dedN G m
  | 0, h, _ => by obtain rfl : m = 0 := by omega
                  rfl
  | n + 1, h, hk => by
    rcases Nat.lt_or_ge n m with hlt | hge
    · obtain rfl : m = n + 1 := by omega
      rfl
    · rw [dedN, dedN_same n hge (fun k h1 h2 => hk k h1 (by omega))]
      obtain ⟨j, hj, e⟩ := hk n hge (by omega)
      exact ded1_in (mem_dedN.2 (.inr ⟨j, hj, e.symm⟩))
/-- Over a stretch with one pair. -/
theorem dedN_span {G : Int → Nat × Nat} {m n : Nat} {p : Nat × Nat} (h : m < n) (hk : ∀ k : Nat, m ≤ k → k < n → G (k : Int) = p) : dedN G n = ded1 (dedN G m) p := by
  have h1 : dedN G n = dedN G (m + 1) := dedN_same n (by omega) fun k h1 h2 => ⟨m, by omega, by rw [hk k (by omega) h2, hk m (Nat.le_refl _) h]⟩
  rw [h1, dedN, hk m (Nat.le_refl _) h]
/-- The document's way: at every place where a range begins. -/
theorem ded_fold {G : Int → Nat × Nat} {B : Int → Prop} (hG : ∀ p r : Int, 0 ≤ p → p ≤ r → r ≤ 1114111 → (∀ s, B s → ¬ (p < s ∧ s ≤ r)) → G r = G p) :
    ∀ (L : List Int) (t : Int), 0 ≤ t → t ≤ 1114111 → (t :: L).Pairwise (· ≤ ·) → (∀ s ∈ L, s ≤ 1114111) → (∀ s, B s → t < s → s ∈ L) → (L.map G).foldl ded1 (dedN G (t.toNat + 1)) = dedN G 1114112
  | [], t, h0, h1, _, _, hB => by
    refine (dedN_same 1114112 (by omega) fun k hk1 hk2 => ⟨t.toNat, by omega, ?_⟩).symm
    rw [Int.toNat_of_nonneg h0]
    exact hG t k h0 (by omega) (by omega) fun s hs hh => by have := hB s hs hh.1; simp at this
  | u :: L, t, h0, h1, hp, hb, hB => by
    rw [List.map_cons, List.foldl_cons]
    rw [List.pairwise_cons] at hp
    have htu := hp.1 u (by simp)
    have hu := hb u (by simp)
    have key : ded1 (dedN G (t.toNat + 1)) (G u) = dedN G (u.toNat + 1) := by
      rcases Int.lt_or_le t u with hlt | hge
      · have e : dedN G u.toNat = dedN G (t.toNat + 1) := dedN_same u.toNat (by omega) fun k hk1 hk2 => ⟨t.toNat, by omega, by
          rw [Int.toNat_of_nonneg h0]
          refine hG t k h0 (by omega) (by omega) fun s hs hh => ?_
          rcases List.mem_cons.1 (hB s hs hh.1) with rfl | hm
          · omega
          · have := (List.pairwise_cons.1 hp.2).1 s hm; omega⟩
        rw [← e]
        conv => rhs; unfold dedN
        rw [Int.toNat_of_nonneg (by omega)]
      · obtain rfl : u = t := by omega
        exact ded1_in (mem_dedN.2 (.inr ⟨u.toNat, by omega, by rw [Int.toNat_of_nonneg h0]⟩))
    rw [key]
    refine ded_fold hG L u (by omega) hu hp.2 (fun s hs => hb s (by simp [hs])) fun s hs hh => ?_
    rcases List.mem_cons.1 (hB s hs (by omega)) with rfl | hm
    · omega
    · exact hm

def pairG (a b : DbP) (r : Int) : Nat × Nat := (a.get r, b.get r)
def twoP (a b : DbP) : List (Nat × Nat) := dedN (pairG a b) 1114112
def nmP (a b : DbP) (p : Nat × Nat) : List UInt8 := a.names.getD p.1 [] ++ 95 :: b.names.getD p.2 []
def setP (a b : DbP) (p : Nat × Nat) : List (Int × Int) := andR (a.full.getD p.1 []) (b.full.getD p.2 [])
/-- Runes parted as two databases do. -/
def crossP (a b : DbP) : Except Int DbP :=
  if 64 < (twoP a b).length then .error 6
  else if (twoP a b).tail.any fun p => decide (32 < (nmP a b p).length) then .error 40
  else if decide (((otherL :: (twoP a b).tail.map (nmP a b))).Nodup) = false then .error 8
  else .ok ⟨otherL :: (twoP a b).tail.map (nmP a b), [] :: (twoP a b).tail.map (setP a b)⟩
theorem get_lt {d : DbP} (h : d.Ok) (r : Int) : d.get r < d.names.length := by
  have h0 : 0 < d.names.length := by
    cases hn : d.names with
    | nil => have := h.head; rw [hn] at this; cases this
    | cons => simp
  unfold DbP.get
  rcases getGo_spec (r := askR r) (S := d.sets.tail) (i := 1) (by omega) with ⟨h1, _⟩ | ⟨k, s, h1, _, h3⟩
  · omega
  · have := (List.getElem?_eq_some_iff.1 h1).1
    rw [List.length_tail, h.len] at this; omega
theorem two_lt {a b : DbP} (ha : a.Ok) (hb : b.Ok) {p : Nat × Nat} (h : p ∈ twoP a b) : p.1 < a.names.length ∧ p.2 < b.names.length := by
  have h0 : ∀ {d : DbP}, d.Ok → 0 < d.names.length := fun {d} h => by have := get_lt h 0; omega
  rcases mem_dedN.1 h with rfl | ⟨j, _, rfl⟩
  · exact ⟨h0 ha, h0 hb⟩
  · exact ⟨get_lt ha _, get_lt hb _⟩
theorem full_at {d : DbP} (h : d.Ok) {i : Nat} (hi : i < d.names.length) : d.full[i]? = some (d.full.getD i []) := by
  rw [List.getD_eq_getElem?_getD, List.getElem?_eq_getElem (by rw [full_len h]; exact hi)]; rfl
/-- Whose runes a pair's set has. -/
theorem setP_mem {a b : DbP} (ha : a.Ok) (aa : Apart a.sets) (hb : b.Ok) (ab : Apart b.sets) {p : Nat × Nat} (h1 : p.1 < a.names.length) (h2 : p.2 < b.names.length) (r : Int) : hasP (setP a b p) r ↔ 0 ≤ r ∧ r ≤ 1114111 ∧ pairG a b r = p := by
  unfold setP
  rw [hasP_andR]
  have e1 := fun (h0 : 0 ≤ r) (hm : r ≤ 1114111) => has_get ha aa (full_at ha h1) h0 hm
  have e2 := fun (h0 : 0 ≤ r) (hm : r ≤ 1114111) => has_get hb ab (full_at hb h2) h0 hm
  constructor
  · rintro ⟨k1, k2⟩
    obtain ⟨h0, hm⟩ := hasP_range k1
    refine ⟨h0, hm, Prod.ext ?_ ?_⟩
    · have := e1 h0 hm; rw [hasB_true k1] at this; exact of_decide_eq_true this.symm
    · have := e2 h0 hm; rw [hasB_true k2] at this; exact of_decide_eq_true this.symm
  · rintro ⟨h0, hm, rfl⟩
    exact ⟨(hasB_iff _ _).1 (by rw [e1 h0 hm]; simp [pairG]), (hasB_iff _ _).1 (by rw [e2 h0 hm]; simp [pairG])⟩
/-- The program's segments make the same set. -/
theorem setP_of {a b : DbP} (ha : a.Ok) (aa : Apart a.sets) (hb : b.Ok) (ab : Apart b.sets) {p : Nat × Nat} (h1 : p.1 < a.names.length) (h2 : p.2 < b.names.length) {l : List (Int × Int)} (hl : ∀ r, 0 ≤ r → r ≤ 1114111 → (memR l r ↔ pairG a b r = p)) : normR l = setP a b p :=
  NF_ext (normR_NF l) (andR_NF _ _) fun r => by
    rw [hasP_normR, setP_mem ha aa hb ab h1 h2]
    exact ⟨fun ⟨h0, hm, h⟩ => ⟨h0, hm, (hl r h0 hm).1 h⟩, fun ⟨h0, hm, h⟩ => ⟨h0, hm, (hl r h0 hm).2 h⟩⟩
end Go.Proofs.YthlnfefpdmecaaaGreatDoor

/-
  PLAIN: what stands in a crossed database; how many ranges a database has. No walk.
-/
namespace Go.Proofs.YthlnfefpdmecaaaGreatDoor

theorem askR_idem (r : Int) : askR (askR r) = askR r := by
  have := askR_bd r
  show (if askR r < 0 ∨ 1114111 < askR r then 65533 else askR r) = askR r
  rw [if_neg (by omega)]
theorem get_ask (d : DbP) (r : Int) : d.get (askR r) = d.get r := by unfold DbP.get; rw [askR_idem]
theorem pairG_ask (a b : DbP) (r : Int) : pairG a b (askR r) = pairG a b r := by unfold pairG; rw [get_ask, get_ask]
theorem pairG_two (a b : DbP) (r : Int) : pairG a b r ∈ twoP a b := by
  have hb := askR_bd r
  refine mem_dedN.2 (.inr ⟨(askR r).toNat, by omega, ?_⟩)
  rw [Int.toNat_of_nonneg hb.1, pairG_ask]
theorem twoP_nodup (a b : DbP) : (twoP a b).Nodup := by unfold twoP; exact dedN_nodup _
theorem two_split (a b : DbP) : twoP a b = (0, 0) :: (twoP a b).tail := by
  obtain ⟨T, h⟩ := dedN_head (G := pairG a b) 1114112
  unfold twoP; rw [h]; rfl
theorem name_of {n : List UInt8} {x : UInt8} {r : List UInt8} (h : n = x :: r) (h1 : letB x = true) (h2 : ∀ c ∈ r, partB c = true) (h3 : n.length ≤ 32) : nameL n = true := by
  subst h
  simp only [nameL, Bool.and_eq_true, decide_eq_true_eq, List.all_eq_true]
  exact ⟨⟨h1, h2⟩, by simp only [List.length_cons] at h3; omega⟩
theorem nmP_name {a b : DbP} {p : Nat × Nat} (ha : a.Named) (hb : b.Named) (h1 : p.1 < a.names.length) (h2 : p.2 < b.names.length) (hl : (nmP a b p).length ≤ 32) : nameL (nmP a b p) = true := by
  have ea : a.names.getD p.1 [] ∈ a.names := by rw [List.getD_eq_getElem?_getD, List.getElem?_eq_getElem h1]; exact List.getElem_mem h1
  have eb : b.names.getD p.2 [] ∈ b.names := by rw [List.getD_eq_getElem?_getD, List.getElem?_eq_getElem h2]; exact List.getElem_mem h2
  have na := ha _ ea; have nb := hb _ eb
  have pa := (name_part na).2.2; have pb := (name_part nb).2.2
  cases hx : a.names.getD p.1 [] with
  | nil => rw [hx] at na; cases na
  | cons x r =>
    rw [hx] at na pa
    have hx1 : letB x = true := by simp only [nameL, Bool.and_eq_true] at na; exact na.1.1
    refine name_of (x := x) (r := r ++ 95 :: b.names.getD p.2 []) (by unfold nmP; rw [hx]; rfl) hx1 (fun c hc => ?_) hl
    rcases List.mem_append.1 hc with hc | hc
    · exact pa c (by simp [hc])
    · rcases List.mem_cons.1 hc with rfl | hc
      · decide
      · exact pb c hc
structure CrossOk (a b d : DbP) : Prop where
  names : d.names = otherL :: (twoP a b).tail.map (nmP a b)
  sets : d.sets = [] :: (twoP a b).tail.map (setP a b)
  few : (twoP a b).length ≤ 64
  short : ∀ p ∈ (twoP a b).tail, (nmP a b p).length ≤ 32
  nodup : d.names.Nodup
theorem crossP_is {a b d : DbP} (h : crossP a b = .ok d) : CrossOk a b d := by
  unfold crossP at h
  split at h
  · cases h
  · rename_i h64
    split at h
    · cases h
    · rename_i hs
      split at h
      · cases h
      · rename_i hn
        injection h with h; subst h
        refine ⟨rfl, rfl, by omega, fun p hp => ?_, by simpa using hn⟩
        have := hs
        simp only [List.any_eq_true, decide_eq_true_eq, not_exists, not_and] at this
        have := this p hp; omega
theorem ok_of {T : List (Nat × Nat)} {f : Nat × Nat → List UInt8} {g : Nat × Nat → List (Int × Int)} {d : DbP} (h1 : d.names = otherL :: T.map f) (h2 : d.sets = [] :: T.map g) (h3 : T.length + 1 ≤ 64) (h5 : d.names.Nodup) (hg : ∀ p, NF (g p)) : d.Ok := by
  refine ⟨by rw [h1, h2]; simp, fun l hl => ?_, h5, by rw [h1]; rfl, by rw [h2]; rfl, by rw [h1]; simpa using h3⟩
  rw [h2] at hl
  rcases List.mem_cons.1 hl with rfl | hl
  · exact NF_nil
  · obtain ⟨p, _, rfl⟩ := List.mem_map.1 hl; exact hg p
theorem len_two {T : List (Nat × Nat)} {x : Nat × Nat} (h : T = x :: T.tail) (h3 : T.length ≤ 64) : T.tail.length + 1 ≤ 64 := by
  rw [h] at h3; simpa using h3
theorem cross_ok {a b d : DbP} (hd : CrossOk a b d) : d.Ok :=
  ok_of hd.names hd.sets (len_two (two_split a b) hd.few) hd.nodup fun _ => andR_NF _ _
theorem cross_named {a b d : DbP} (oa : a.Ok) (ob : b.Ok) (na : a.Named) (nb : b.Named) (hd : CrossOk a b d) : d.Named := by
  obtain ⟨h1, h2, h3, h4, h5⟩ := hd
  intro n hn
  rw [h1] at hn
  rcases List.mem_cons.1 hn with rfl | hn
  · decide
  · obtain ⟨p, hp, rfl⟩ := List.mem_map.1 hn
    have := two_lt oa ob (List.mem_of_mem_tail hp)
    exact nmP_name na nb this.1 this.2 (h4 p hp)
theorem tail_nodup {T : List (Nat × Nat)} (h : T.Nodup) : T.tail.Nodup := List.Nodup.sublist (List.tail_sublist _) h
theorem apart_map {T : List (Nat × Nat)} {g : Nat × Nat → List (Int × Int)} {G : Int → Nat × Nat} (hn : T.Nodup) (hg : ∀ p ∈ T, ∀ r, memR (g p) r → G r = p) : Apart ([] :: T.map g) := by
  intro i j s t hi hj hij r hs ht
  cases i with
  | zero => simp at hi; subst hi; exact memR_nil r hs
  | succ i =>
    cases j with
    | zero => simp at hj; subst hj; exact memR_nil r ht
    | succ j =>
      rw [List.getElem?_cons_succ, List.getElem?_map] at hi hj
      obtain ⟨p, hp, rfl⟩ := Option.map_eq_some_iff.1 hi
      obtain ⟨q, hq, rfl⟩ := Option.map_eq_some_iff.1 hj
      have e1 := hg p (List.mem_of_getElem? hp) r hs
      have e2 := hg q (List.mem_of_getElem? hq) r ht
      have e : p = q := e1.symm.trans e2
      subst e
      have := (List.getElem?_inj (List.getElem?_eq_some_iff.1 hp).1 hn).1 (hp.trans hq.symm)
      omega
theorem cross_apart {a b d : DbP} (oa : a.Ok) (aa : Apart a.sets) (ob : b.Ok) (ab : Apart b.sets) (hd : CrossOk a b d) : Apart d.sets := by
  rw [hd.sets]
  refine apart_map (G := pairG a b) (tail_nodup (twoP_nodup a b)) fun p hp r hr => ?_
  have lp := two_lt oa ob (List.mem_of_mem_tail hp)
  exact ((setP_mem oa aa ob ab lp.1 lp.2 r).1 ((NF_mem (andR_NF _ _) r).2 hr)).2.2
/-- The class of a rune there is the number of its pair. -/
theorem cross_get {a b d : DbP} (oa : a.Ok) (aa : Apart a.sets) (ob : b.Ok) (ab : Apart b.sets) (hd : CrossOk a b d) (r : Int) : (twoP a b)[d.get r]? = some (pairG a b r) := by
  have h2 := hd.sets
  have hr := askR_bd r
  have hmem := pairG_two a b r
  rw [two_split]
  rw [two_split] at hmem
  unfold DbP.get
  rw [h2, List.tail_cons]
  rcases getGo_spec (r := askR r) (S := (twoP a b).tail.map (setP a b)) (i := 1) (by omega) with ⟨k1, k2⟩ | ⟨k, s, k1, k2, k3⟩
  · rw [k1]
    rcases List.mem_cons.1 hmem with h | h
    · rw [h]; rfl
    · exfalso
      have lp := two_lt oa ob (List.mem_of_mem_tail h)
      have := k2 _ (List.mem_map.2 ⟨_, h, rfl⟩)
      rw [hasB_true ((setP_mem oa aa ob ab lp.1 lp.2 (askR r)).2 ⟨hr.1, hr.2, pairG_ask a b r⟩)] at this
      cases this
  · rw [k3]
    rw [List.getElem?_map] at k1
    obtain ⟨p, hp, rfl⟩ := Option.map_eq_some_iff.1 k1
    have lp := two_lt oa ob (List.mem_of_mem_tail (List.mem_of_getElem? hp))
    have := ((setP_mem oa aa ob ab lp.1 lp.2 (askR r)).1 ((hasB_iff _ _).1 k2)).2.2
    rw [pairG_ask] at this
    rw [Nat.add_comm, List.getElem?_cons_succ, hp, this]
/-- Two runes have one class of it just if they have one of both. -/
theorem cross_law {a b d : DbP} (oa : a.Ok) (aa : Apart a.sets) (ob : b.Ok) (ab : Apart b.sets) (hd : CrossOk a b d) (p q : Int) : d.get p = d.get q ↔ a.get p = a.get q ∧ b.get p = b.get q := by
  have hp := cross_get oa aa ob ab hd p
  have hq := cross_get oa aa ob ab hd q
  constructor
  · intro e
    rw [e, hq] at hp
    injection hp with hp
    injection hp with h1 h2
    exact ⟨h1.symm, h2.symm⟩
  · rintro ⟨h1, h2⟩
    have : pairG a b p = pairG a b q := Prod.ext h1 h2
    exact (List.getElem?_inj (List.getElem?_eq_some_iff.1 hp).1 (twoP_nodup a b)).1 (by rw [hp, hq, this])

/- How many ranges. -/
theorem next_len : ∀ {l : List (Int × Int × Nat)} {m : Int}, (l.Pairwise fun a b => a.2.1 < b.1) → (∀ x ∈ l, m ≤ x.1 ∧ x.1 ≤ x.2.1 ∧ x.2.1 ≤ 1114111) → m ≤ 1114112 → (l.length : Int) + m ≤ 1114112
  | [], m, _, _, hm => by simpa using hm
  | x :: l, m, hp, hb, hm => by
    rw [List.pairwise_cons] at hp
    have hx := hb x (by simp)
    have := next_len (l := l) (m := x.2.1 + 1) hp.2 (fun y hy => by have := hp.1 y hy; have := hb y (by simp [hy]); omega) (by omega)
    simp only [List.length_cons]; omega
theorem entG_len : ∀ (S : List (List (Int × Int))) (c : Nat), (entG c S).length = lenS S
  | [], _ => rfl
  | s :: S, c => by rw [entG, List.length_append, List.length_map, entG_len S (c + 1), lenS]
theorem lenS_flat : ∀ (S : List (List (Int × Int))), S.flatten.length = lenS S
  | [] => rfl
  | s :: S => by rw [List.flatten_cons, List.length_append, lenS_flat S, lenS]
theorem allR_len {d : DbP} (h : d.Ok) (ha : Apart d.sets) : d.allR.length ≤ 1114112 := by
  have := next_len (m := 0) (allR_next h ha) (fun x hx => by have := allR_bd h x hx; omega) (by omega)
  omega
theorem full_lenS {d : DbP} (h : d.Ok) (ha : Apart d.sets) : lenS d.full ≤ 1114112 := by
  have := allR_len h ha
  rw [(allR_perm d).length_eq, DbP.allE, entG_len] at this; exact this
theorem rng_len {d : DbP} (h : d.Ok) (ha : Apart d.sets) : d.rng.length ≤ 1114112 ∧ d.rng.length = lenS d.sets.tail := by
  have h1 := full_lenS h ha
  have h2 : d.rng.length = lenS d.sets.tail := by rw [(rng_perm d).length_eq, DbP.ents, entG_len]
  unfold DbP.full at h1
  rw [lenS] at h1
  omega
end Go.Proofs.YthlnfefpdmecaaaGreatDoor

/-
  WORDS FOR MEMORY, props: a database as it is made (its own blocks, one foreign block beside) and as it is read; the map of names. No program's walk.
-/
namespace Go.Proofs.YthlnfefpdmecaaaGreatDoor
open Go.RowKit Go.Maps

def encNm (n : List UInt8) : List Value := [.string (bytesOf n)]
def encSl (x : Option Addr × Nat × Nat) : List Value := [.slice x.1 x.2.1 x.2.2]
def encD (x : Int × Int × Nat) : List Value := [.int .i32 x.1, .int .i32 x.2.1, .int .i64 (x.2.2 : Int)]
theorem encNm_ok (l : List (List UInt8)) : ∀ y ∈ l.map encNm, y.length = 1 ∧ ∀ u ∈ y, u.oneCell' = true := by
  intro y hy; obtain ⟨r, _, rfl⟩ := List.mem_map.1 hy
  exact ⟨rfl, by simp [encNm, Value.oneCell']⟩
theorem encSl_ok (l : List (Option Addr × Nat × Nat)) : ∀ y ∈ l.map encSl, y.length = 1 ∧ ∀ u ∈ y, u.oneCell' = true := by
  intro y hy; obtain ⟨r, _, rfl⟩ := List.mem_map.1 hy
  exact ⟨rfl, by simp [encSl, Value.oneCell']⟩
theorem encD_ok (l : List (Int × Int × Nat)) : ∀ y ∈ l.map encD, y.length = 3 ∧ ∀ u ∈ y, u.oneCell' = true := by
  intro y hy; obtain ⟨r, _, rfl⟩ := List.mem_map.1 hy
  exact ⟨rfl, by simp [encD, Value.oneCell']⟩

/-- The map's datum holds just these names, each with its place (where none stands twice). -/
def MapIs (D : DataW Unit) (l : List (List UInt8)) : Prop :=
  IsMap D ∧ (∀ n, Maps.has D (.string n) = decide (n ∈ l)) ∧ ∀ (n : List UInt8) (i : Nat), l[i]? = some n → l.Nodup → ∀ z, D.atKey (.string n) z = .lit (.int .i64 (i : Int))
theorem MapIs.nil_ : MapIs (.map []) [] := ⟨isMap_empty, fun n => by simp [Maps.has_eq], fun n i h => by simp at h⟩
theorem MapIs.put {D : DataW Unit} {l : List (List UInt8)} (h : MapIs D l) (n : List UInt8) {k : Int} (hk : k = l.length) : MapIs (D.put (.string n) (.lit (.int .i64 k))) (l ++ [n]) := by
  subst hk
  refine ⟨h.1.put _ _, fun m => ?_, fun m i hi hnd z => ?_⟩
  · by_cases e : m = n
    · subst e; rw [has_put_same (k := .string m) h.1 (by trivial)]; simp
    · rw [has_put_other (by simpa using e), h.2.1]; simp [e]
  · have hnd2 := List.nodup_append.1 hnd
    by_cases e : m = n
    · subst e
      rw [atKey_put_same (k := .string m) h.1 (by trivial)]
      have hi2 := (List.getElem?_eq_some_iff.1 hi).1
      rcases Nat.lt_or_ge i l.length with hlt | hge
      · rw [List.getElem?_append_left hlt] at hi
        exact absurd rfl (hnd2.2.2 m (List.mem_of_getElem? hi) m (by simp))
      · simp at hi2
        rw [show i = l.length by omega]
    · rw [atKey_put_other (by simpa using e)]
      refine h.2.2 m i ?_ hnd2.1 z
      rcases Nat.lt_or_ge i l.length with hlt | hge
      · rwa [List.getElem?_append_left hlt] at hi
      · rw [List.getElem?_append_right hge] at hi
        cases hq : i - l.length with
        | zero => rw [hq] at hi; simp at hi; exact absurd hi.symm e
        | succ q => rw [hq] at hi; simp at hi
/-- What a look-up of a name gives. -/
theorem MapIs.look {D : DataW Unit} {l : List (List UInt8)} (h : MapIs D l) (hn : l.Nodup) (n : List UInt8) : D.atKey (.string n) (.lit (.int .i64 0)) = .lit (.int .i64 (((l.idxOf? n).getD 0 : Nat) : Int)) ∧ Maps.has D (.string n) = (l.idxOf? n).isSome := by
  cases hq : l.idxOf? n with
  | none =>
    have := idxOf?_none hq
    have h2 : Maps.has D (.string n) = false := by rw [h.2.1]; simpa using this
    exact ⟨by rw [atKey_of_not_has h2]; rfl, by rw [h2]; rfl⟩
  | some i =>
    have := idxOf?_some hq
    exact ⟨h.2.2 n i this hn _, by rw [h.2.1]; simpa using List.mem_of_getElem? this⟩

/-- Two rows of different types lie in different blocks. -/
theorem Own.apart {w : World} {b1 b2 : Nat} {e1 e2 : TypeId} {s1 s2 : Nat} {A1 A2 : Option Addr} {n1 c1 n2 c2 : Nat} {x1 x2 : List (List Value)} (h : Own w b1 e1 s1 A1 n1 c1 x1) (k : Own w b2 e2 s2 A2 n2 c2 x2) (hne : e1 ≠ e2) :
    ∀ a b, A1 = some a → A2 = some b → a.block ≠ b.block := by
  intro a b ha hb e
  rcases h.2.2.2 with ⟨h0, _⟩ | ⟨g1, cap1, cur1, hv1, _, hh1, _⟩
  · injection h0 with h0; rw [h0] at ha; cases ha
  · rcases k.2.2.2 with ⟨k0, _⟩ | ⟨g2, cap2, cur2, hv2, _, hh2, _⟩
    · injection k0 with k0; rw [k0] at hb; cases hb
    · injection hv1 with hv1; injection hv2 with hv2
      subst ha; subst hb
      injection hv1 with hv1; injection hv2 with hv2
      subst hv1; subst hv2
      simp only at e
      subst e
      rw [hh1] at hh2
      injection hh2 with hh2; injection hh2 with _ h3 _
      exact hne h3
theorem Own.off {w : World} {b1 : Nat} {e1 t : TypeId} {s1 : Nat} {A1 : Option Addr} {n1 c1 g : Nat} {x1 : List (List Value)} {cs : Array Value} (h : Own w b1 e1 s1 A1 n1 c1 x1) (k : Blk w g t cs) (hne : e1 ≠ t) :
    ∀ a, A1 = some a → a.block ≠ g := by
  intro a ha e
  rcases h.2.2.2 with ⟨h0, _⟩ | ⟨g1, cap1, cur1, hv1, _, hh1, _⟩
  · injection h0 with h0; rw [h0] at ha; cases ha
  · injection hv1 with hv1
    subst ha; injection hv1 with hv1; subst hv1
    simp only at e; subst e
    unfold Blk at k
    rw [hh1] at k
    injection k with k; injection k with _ h3 _
    exact hne h3
theorem Own.offMap {w : World} {b1 : Nat} {e1 : TypeId} {s1 : Nat} {A1 : Option Addr} {n1 c1 b n : Nat} {x1 : List (List Value)} {P : Program} {k : TypeId} {R : Value → Option (DataW Unit × List MemPlace)} {D : DataW Unit} (h : Own w b1 e1 s1 A1 n1 c1 x1) (m : w.ownsMap P k R b n D) :
    ∀ a, A1 = some a → a.block ≠ b := by
  intro a ha e
  obtain ⟨es, clock, hb, _⟩ := m
  rcases h.2.2.2 with ⟨h0, _⟩ | ⟨g1, cap1, cur1, hv1, _, hh1, _⟩
  · injection h0 with h0; rw [h0] at ha; cases ha
  · injection hv1 with hv1
    subst ha; injection hv1 with hv1; subst hv1
    simp only at e; subst e
    rw [hh1] at hb
    cases hb
theorem Blk.offMap {w : World} {g b n : Nat} {t : TypeId} {cs : Array Value} {P : Program} {k : TypeId} {R : Value → Option (DataW Unit × List MemPlace)} {D : DataW Unit} (h : Blk w g t cs) (m : w.ownsMap P k R b n D) : g ≠ b := by
  intro e; obtain ⟨es, clock, hb, _⟩ := m; subst e; unfold Blk at h; rw [hb] at h; cases h

/-- The rows that a row of slices leads to. -/
structure Sets (w : World) (base : Nat) (xs : List (Option Addr × Nat × Nat)) (S : List (List (Int × Int))) : Prop where
  len : xs.length = S.length
  own : ∀ (k : Nat) (x : Option Addr × Nat × Nat) (l : List (Int × Int)), xs[k]? = some x → S[k]? = some l → Own w base 146 2 x.1 x.2.1 x.2.2 (l.map encR)
theorem Sets.keep {w w' : World} {base : Nat} {xs : List (Option Addr × Nat × Nat)} {S : List (List (Int × Int))} (h : Sets w base xs S) (hk : ∀ (g : Nat) (cs : Array Value), base ≤ g → w.heap[g]? = some (.cells cs 146 (0, 0)) → w'.heap[g]? = w.heap[g]?) : Sets w' base xs S :=
  ⟨h.len, fun k x l hx hl => by
    have ho := h.own k x l hx hl
    refine ho.keep fun a ha => ?_
    rcases ho.2.2.2 with ⟨h0, _⟩ | ⟨g1, cap1, cur1, hv1, hg, hh1, _⟩
    · injection h0 with h0; rw [h0] at ha; cases ha
    · injection hv1 with hv1; rw [hv1] at ha; injection ha with ha; subst ha
      exact hk g1 cur1 hg hh1⟩
theorem Sets.below {w w' : World} {base : Nat} {xs : List (Option Addr × Nat × Nat)} {S : List (List (Int × Int))} (h : Sets w base xs S) (hb : Below w.heap.size w w') : Sets w' base xs S :=
  h.keep fun g _ _ hg => hb.block g (Array.getElem?_eq_some_iff.1 hg).1
theorem Sets.grown {w w' : World} {base : Nat} {xs : List (Option Addr × Nat × Nat)} {S : List (List (Int × Int))} {row : Option Nat} (h : Sets w base xs S) (hg : w.grownBy w' row) (hr : ∀ g (q : Array Value), row = some g → w.heap[g]? ≠ some (.cells q 146 (0, 0))) : Sets w' base xs S :=
  h.keep fun g cs _ hh => hg.block g (Array.getElem?_eq_some_iff.1 hh).1 fun e => hr g cs e.symm hh
theorem Sets.more {w : World} {b b' : Nat} {xs : List (Option Addr × Nat × Nat)} {S : List (List (Int × Int))} (h : Sets w b xs S) (hb : b' ≤ b) : Sets w b' xs S := ⟨h.len, fun k x l hx hl => (h.own k x l hx hl).more hb⟩
theorem Sets.snoc {w : World} {base : Nat} {xs : List (Option Addr × Nat × Nat)} {S : List (List (Int × Int))} {A : Option Addr} {n c : Nat} {l : List (Int × Int)} (h : Sets w base xs S) (ho : Own w base 146 2 A n c (l.map encR)) : Sets w base (xs ++ [(A, n, c)]) (S ++ [l]) := by
  refine ⟨by simp [h.len], fun k x q hx hq => ?_⟩
  rcases Nat.lt_or_ge k xs.length with hlt | hge
  · rw [List.getElem?_append_left hlt] at hx
    rw [List.getElem?_append_left (by rw [← h.len]; exact hlt)] at hq
    exact h.own k x q hx hq
  · rw [List.getElem?_append_right hge] at hx
    rw [List.getElem?_append_right (by rw [← h.len]; exact hge), ← h.len] at hq
    cases hz : k - xs.length with
    | zero => rw [hz] at hx hq; simp at hx hq; subst hx; subst hq; exact ho
    | succ z => rw [hz] at hx; simp at hx
theorem Sets.set_ {w : World} {base : Nat} {xs : List (Option Addr × Nat × Nat)} {S : List (List (Int × Int))} {A : Option Addr} {n c i : Nat} {l : List (Int × Int)} (h : Sets w base xs S) (ho : Own w base 146 2 A n c (l.map encR)) : Sets w base (xs.set i (A, n, c)) (S.set i l) := by
  refine ⟨by simp [h.len], fun k x q hx hq => ?_⟩
  by_cases e : i = k
  · subst e
    rw [List.getElem?_set_self' ] at hx hq
    cases h1 : xs[i]? with
    | none => rw [h1] at hx; simp at hx
    | some y =>
      rw [h1] at hx; simp at hx; subst hx
      cases h2 : S[i]? with
      | none => rw [h2] at hq; simp at hq
      | some z => rw [h2] at hq; simp at hq; subst hq; exact ho
  · rw [List.getElem?_set_ne e] at hx hq
    exact h.own k x q hx hq

theorem keyedS : Keyed Tryz.prog 9 := string_keyed Tryz.underlying9
theorem zeroI (w : World) : (zeroValue 3).run Tryz.prog w = .ok (.int .i64 0) w := by kernel_rfl
theorem keyS {n : List UInt8} (h : n.length ≤ 1000000) : keyOf Tryz.prog 9 (.string (bytesOf n)) = some (.string n) := by
  rw [WideMaps.keyOf_string_mk Tryz.underlying9 (by rw [bytesOf_size]; unfold maxLen; omega), bytesOf_list]

/-- A database that is being made, its parts: p its block; x a foreign block that stays; N its names, S its sets. -/
structure DbX (w : World) (base p x : Nat) (An : Option Addr) (nn cn bm nm : Nat) (D : DataW Unit) (As : Option Addr) (ns cs : Nat) (xs : List (Option Addr × Nat × Nat)) (N : List (List UInt8)) (S : List (List (Int × Int))) : Prop where
  blk : Blk w p 131 #[.slice An nn cn, .map (some bm), .slice As ns cs, .slice none 0 0]
  pb : base ≤ p
  hn : Own w base 9 1 An nn cn (N.map encNm)
  hm : w.ownsMap Tryz.prog 9 (plainElem (H := Unit) Tryz.prog 3) bm nm D
  nle : nm ≤ nn
  bb : base ≤ bm
  hD : MapIs D N
  hs : Own w base 111 1 As ns cs (xs.map encSl)
  hx : Sets w base xs S
  xp : x ≠ p
  xb : x ≠ bm
  xn : ∀ a, An = some a → a.block ≠ x
  xs_ : ∀ a, As = some a → a.block ≠ x
structure DbB (w : World) (base p x : Nat) (d : DbP) : Prop where
  ex : ∃ (An : Option Addr) (nn cn bm nm : Nat) (D : DataW Unit) (As : Option Addr) (ns cs : Nat) (xs : List (Option Addr × Nat × Nat)), DbX w base p x An nn cn bm nm D As ns cs xs d.names d.sets
/-- A database as it is read. -/
structure DbAt (w : World) (p : Nat) (d : DbP) : Prop where
  ex : ∃ (An : Option Addr) (nn cn bm nm : Nat) (D : DataW Unit) (As : Option Addr) (ns cs : Nat) (xs : List (Option Addr × Nat × Nat)) (Ar : Option Addr) (nr cr : Nat),
    Blk w p 131 #[.slice An nn cn, .map (some bm), .slice As ns cs, .slice Ar nr cr] ∧ Own w 0 9 1 An nn cn (d.names.map encNm) ∧
    w.ownsMap Tryz.prog 9 (plainElem (H := Unit) Tryz.prog 3) bm nm D ∧ MapIs D d.names ∧ Own w 0 111 1 As ns cs (xs.map encSl) ∧ Sets w 0 xs d.full ∧ Own w 0 128 3 Ar nr cr (d.rng.map encD)
theorem map_below {w w' : World} {P : Program} {k : TypeId} {R : Value → Option (DataW Unit × List MemPlace)} {b n : Nat} {D : DataW Unit} (h : w.ownsMap P k R b n D) (hb : Below w.heap.size w w') : w'.ownsMap P k R b n D := by
  have hlt := h.lt
  obtain ⟨es, clock, h1, h2⟩ := h
  exact ⟨es, clock, (hb.block b hlt).trans h1, h2⟩
theorem DbAt.below {w w' : World} {p : Nat} {d : DbP} (h : DbAt w p d) (hb : Below w.heap.size w w') : DbAt w' p d := by
  obtain ⟨An, nn, cn, bm, nm, D, As, ns, cs, xs, Ar, nr, cr, h1, h2, h3, h4, h5, h6, h7⟩ := h.ex
  exact ⟨An, nn, cn, bm, nm, D, As, ns, cs, xs, Ar, nr, cr, h1.below hb, h2.below hb, map_below h3 hb, h4, h5.below hb, h6.below hb, h7.below hb⟩
theorem DbAt.drewN {w : World} {p : Nat} {d : DbP} (h : DbAt w p d) (q : Nat) : DbAt (w.drewN q) p d := h.below (below_refl_drewN w q)
section
variable {w w' : World} {base p x : Nat} {An : Option Addr} {nn cn bm nm : Nat} {D : DataW Unit} {As : Option Addr} {ns cs : Nat} {xs : List (Option Addr × Nat × Nat)} {N : List (List UInt8)} {S : List (List (Int × Int))}
theorem DbX.below (h : DbX w base p x An nn cn bm nm D As ns cs xs N S) (hb : Below w.heap.size w w') : DbX w' base p x An nn cn bm nm D As ns cs xs N S :=
  ⟨h.blk.below hb, h.pb, h.hn.below hb, map_below h.hm hb, h.nle, h.bb, h.hD, h.hs.below hb, h.hx.below hb, h.xp, h.xb, h.xn, h.xs_⟩
/-- What a step keeps: all below base, and block x. -/
def KX (base x : Nat) (w w' : World) : Prop := Below base w w' ∧ (x < w.heap.size → w'.heap[x]? = w.heap[x]?)
theorem KX.refl (base x : Nat) (w : World) : KX base x w w := ⟨Below.refl _ _, fun _ => rfl⟩
theorem KX.trans {a b c : World} (h : KX base x a b) (k : KX base x b c) : KX base x a c := ⟨h.1.trans k.1, fun hx => (k.2 (Nat.lt_of_lt_of_le hx h.1.size)).trans (h.2 hx)⟩
theorem KX.below (hb : Below w.heap.size w w') (hB : base ≤ w.heap.size) : KX base x w w' := ⟨hb.mono hB, fun hx => hb.block x hx⟩
theorem KX.grown {row : Option Nat} (hg : w.grownBy w' row) (hB : base ≤ w.heap.size) (hr : ∀ k, row = some k → base ≤ k ∧ k ≠ x) : KX base x w w' :=
  ⟨(Below.refl _ _).grown hg hB fun k hk => (hr k hk).1, fun hx => hg.block x hx fun e => (hr x e.symm).2 rfl⟩
theorem KX.setCell (w : World) {q : Addr} (hq : base ≤ q.block) (hx : q.block ≠ x) (u : Value) : KX base x w (w.setCell q u) :=
  ⟨(Below.refl _ _).setCell hq u, fun _ => Below.heap_setCell w q u x (Ne.symm hx)⟩
theorem blk_not_R {g : Nat} {t : TypeId} {cur : Array Value} (h : Blk w g t cur) (ht : t ≠ 146) : ∀ q : Array Value, w.heap[g]? ≠ some (.cells q 146 (0, 0)) := fun q e => by
  unfold Blk at h; rw [h] at e; injection e with e; injection e with _ e _; exact ht e
theorem own_not_R {b1 : Nat} {e1 : TypeId} {s1 : Nat} {A1 : Option Addr} {n1 c1 : Nat} {x1 : List (List Value)} (h : Own w b1 e1 s1 A1 n1 c1 x1) (ht : e1 ≠ 146) : ∀ g (q : Array Value), A1.map (·.block) = some g → w.heap[g]? ≠ some (.cells q 146 (0, 0)) := fun g q hg e => by
  rcases h.2.2.2 with ⟨h0, _⟩ | ⟨g1, cap1, cur1, hv1, _, hh1, _⟩
  · injection h0 with h0; rw [h0] at hg; cases hg
  · injection hv1 with hv1; subst hv1
    simp at hg; subst hg
    rw [hh1] at e; injection e with e; injection e with _ e _; exact ht e
theorem map_not_R {P : Program} {k : TypeId} {R : Value → Option (DataW Unit × List MemPlace)} {b n : Nat} (m : w.ownsMap P k R b n D) : ∀ q : Array Value, w.heap[b]? ≠ some (.cells q 146 (0, 0)) := fun q e => by
  obtain ⟨es, clock, hb, _⟩ := m; rw [hb] at e; cases e
theorem grown_alloc {a b : World} {row : Option Nat} {o : Obj} (h : (a.alloc o).grownBy b row) : a.grownBy b row :=
  ⟨h.os, h.tape, h.output, Nat.le_trans (by simp) h.size, fun i hi hne => (h.block i (by simp; omega) hne).trans (Below.heap_alloc a o i hi)⟩
theorem map_kept {P : Program} {k : TypeId} {R : Value → Option (DataW Unit × List MemPlace)} {b n : Nat} {row : Option Nat} (m : w.ownsMap P k R b n D) (hg : w.grownBy w' row) (hr : some b ≠ row) : w'.ownsMap P k R b n D := m.kept hg hr
theorem map_setCell {P : Program} {k : TypeId} {R : Value → Option (DataW Unit × List MemPlace)} {b n : Nat} (m : w.ownsMap P k R b n D) {q : Addr} (hq : b ≠ q.block) (u : Value) : (w.setCell q u).ownsMap P k R b n D := m.setCell hq u
theorem Sets.setCell (h : Sets w base xs S) {q : Addr} (hq : ∀ r : Array Value, w.heap[q.block]? ≠ some (.cells r 146 (0, 0))) (u : Value) : Sets (w.setCell q u) base xs S :=
  h.keep fun g cur _ hg => Below.heap_setCell w q u g fun e => hq cur (by rw [← e]; exact hg)
end
theorem DbB.below {w w' : World} {base p x : Nat} {d : DbP} (h : DbB w base p x d) (hb : Below w.heap.size w w') : DbB w' base p x d := by
  obtain ⟨An, nn, cn, bm, nm, D, As, ns, cs, xs, h⟩ := h.ex
  exact ⟨An, nn, cn, bm, nm, D, As, ns, cs, xs, h.below hb⟩
end Go.Proofs.YthlnfefpdmecaaaGreatDoor

/-
  PLAIN, for the walks of props: a rune in quotes by the reader's word; a name byte by byte; the place of a byte outside of quotes, step by step.
-/
namespace Go.Proofs.YthlnfefpdmecaaaGreatDoor

theorem qtS_cons (c : UInt8) (r : List UInt8) : qtL (c :: r) = if c = 39 ∧ (runeAt (bytesOf (c :: r)) 1).2 ≠ 0 ∧ r[(runeAt (bytesOf (c :: r)) 1).2]? = some 39 then some ((runeAt (bytesOf (c :: r)) 1).2 + 2) else none := by
  rw [qtL_cons, show (1 : Nat) = 0 + 1 from rfl, runeAt_sh]
  by_cases hr : r = []
  · subst hr
    rw [if_neg (by simp), if_neg (fun h => by simp at h)]
  · have hb := decL_bd hr
    have e : runeAt (bytesOf r) 0 = Utf8.decode (bytesOf r) 0 := by
      unfold runeAt
      rw [if_pos (by rw [bytesOf_size]; omega)]
    rw [e]
    by_cases h : c = 39 ∧ r[(Utf8.decode (bytesOf r) 0).2]? = some 39
    · rw [if_pos ⟨h.1, hr, h.2⟩, if_pos ⟨h.1, by omega, h.2⟩]
    · rw [if_neg (fun k => h ⟨k.1, k.2.2⟩), if_neg (fun k => h ⟨k.1, k.2.2⟩)]
theorem bytes_is (s : ByteArray) : bytesOf s.data.toList = s := bytesOf_data s
theorem rest_eq (s : ByteArray) (p : Nat) : (rest s p).head? = s.data.toList[p]? := by unfold rest; rw [List.head?_drop]
/-- What stands at a string's beginning: no rune in quotes. -/
theorem qt_no {s : ByteArray} (h : ∀ h0 : 0 < s.size, s[0]'h0 ≠ 39) : qtL s.data.toList = none := by
  cases hl : s.data.toList with
  | nil => rfl
  | cons c r =>
    have h0 : 0 < s.size := by rw [← size_data, hl]; simp
    have : s[0]'h0 = c := by
      have h1 : s.data.toList[0]? = some (s[0]'h0) := List.getElem?_eq_getElem (by simpa using h0)
      rw [hl] at h1; simpa using h1.symm
    rw [qtS_cons, if_neg (fun k => h h0 (by rw [this, k.1]))]
theorem qt_zero {s : ByteArray} (h : (runeAt s 1).2 = 0) : qtL s.data.toList = none := by
  cases hl : s.data.toList with
  | nil => rfl
  | cons c r =>
    have hs : s = bytesOf (c :: r) := by rw [← hl, bytesOf_data]
    rw [qtS_cons, ← hs, if_neg (fun k => k.2.1 h)]
theorem qt_open {s : ByteArray} (h : s.data.toList[(runeAt s 1).2 + 1]? ≠ some 39) : qtL s.data.toList = none := by
  cases hl : s.data.toList with
  | nil => rfl
  | cons c r =>
    have hs : s = bytesOf (c :: r) := by rw [← hl, bytesOf_data]
    rw [qtS_cons, ← hs, if_neg (fun k => h (by rw [hl]; exact k.2.2))]
theorem qt_ok {s : ByteArray} (h0 : 0 < s.size) (h1 : s[0]'h0 = 39) (h2 : (runeAt s 1).2 ≠ 0) (h3 : s.data.toList[(runeAt s 1).2 + 1]? = some 39) : qtL s.data.toList = some ((runeAt s 1).2 + 2) := by
  cases hl : s.data.toList with
  | nil => rw [← size_data, hl] at h0; simp at h0
  | cons c r =>
    have hs : s = bytesOf (c :: r) := by rw [← hl, bytesOf_data]
    have hc : s[0]'h0 = c := by
      have h1 : s.data.toList[0]? = some (s[0]'h0) := List.getElem?_eq_getElem (by simpa using h0)
      rw [hl] at h1; simpa using h1.symm
    rw [qtS_cons, ← hs, if_pos ⟨by rw [← hc, h1], h2, by rw [hl] at h3; exact h3⟩]

/-- A name as far as it has been read. -/
def nameU : List UInt8 → Bool
  | [] => true
  | c :: r => letB c && r.all partB
theorem nameL_eq (l : List UInt8) : nameL l = (nameU l && decide (1 ≤ l.length ∧ l.length ≤ 32)) := by
  cases l with
  | nil => rfl
  | cons c r => 
    simp only [nameL, nameU, List.length_cons]
    congr 1
    rw [decide_eq_decide]; omega
theorem nameU_first (c : UInt8) : nameU [c] = letB c := by simp [nameU]
theorem nameU_snoc {l : List UInt8} (h : l ≠ []) (c : UInt8) : nameU (l ++ [c]) = (nameU l && partB c) := by
  cases l with
  | nil => exact absurd rfl h
  | cons a r => simp [nameU, List.all_append, Bool.and_assoc]
theorem nameU_take {l : List UInt8} {k : Nat} (h : nameU (l.take k) = false) : nameU l = false := by
  cases l with
  | nil => simpa using h
  | cons c r =>
    cases k with
    | zero => simp [nameU] at h
    | succ k =>
      simp only [List.take_succ_cons, nameU] at h ⊢
      cases hc : letB c with
      | false => rfl
      | true =>
        rw [hc] at h
        simp only [Bool.true_and] at h ⊢
        rw [List.all_eq_false] at h ⊢
        obtain ⟨x, hx, h2⟩ := h
        exact ⟨x, List.mem_of_mem_take hx, h2⟩
theorem nameU_next {l : List UInt8} {k : Nat} {c : UInt8} (h : l[k]? = some c) (hk : nameU (l.take k) = true) : nameU (l.take (k + 1)) = if k = 0 then letB c else partB c := by
  have hs : l.take (k + 1) = l.take k ++ [c] := by rw [List.take_add_one, h]; rfl
  have hlt := (List.getElem?_eq_some_iff.1 h).1
  rw [hs]
  split
  · rename_i h0; subst h0; rw [List.take_zero, List.nil_append, nameU_first]
  · rw [nameU_snoc (by intro e; have h1 := congrArg List.length e; rw [List.length_take] at h1; simp only [List.length_nil] at h1; omega), hk, Bool.true_and]

/-- How far find has come. -/
def FindAt (c : UInt8) (l : List UInt8) (i : Nat) : Prop := i ≤ l.length ∧ findP c l = (findP c (l.drop i)).map (· + i)
theorem findAt_first (c : UInt8) (l : List UInt8) : FindAt c l 0 := ⟨by omega, by rw [List.drop_zero]; cases findP c l <;> rfl⟩
theorem findAt_qt {c : UInt8} {l : List UInt8} {i k : Nat} (h : FindAt c l i) (hq : qtL (l.drop i) = some k) : FindAt c l (i + k) := by
  have hk := (qtL_some hq).2.2.1
  rw [List.length_drop] at hk
  have := h.1
  refine ⟨by have := (qtL_some hq).1; omega, ?_⟩
  rw [h.2, findP_qt hq, List.drop_drop]
  cases findP c (l.drop (i + k)) with
  | none => rfl
  | some j => simp; omega
theorem findAt_byte {c x : UInt8} {l : List UInt8} {i : Nat} (h : FindAt c l i) (hx : l[i]? = some x) (hq : qtL (l.drop i) = none) (hne : x ≠ c) : FindAt c l (i + 1) := by
  have hlt := (List.getElem?_eq_some_iff.1 hx).1
  have hd : l.drop i = x :: l.drop (i + 1) := by
    have := (List.getElem?_eq_some_iff.1 hx).2
    rw [List.drop_eq_getElem_cons hlt, this]
  refine ⟨by omega, ?_⟩
  rw [h.2, hd, findP_cons (by rw [← hd]; exact hq), if_neg hne]
  cases findP c (l.drop (i + 1)) with
  | none => rfl
  | some j => simp; omega
theorem findAt_hit {c : UInt8} {l : List UInt8} {i : Nat} (h : FindAt c l i) (hx : l[i]? = some c) (hq : qtL (l.drop i) = none) : findP c l = some i := by
  have hlt := (List.getElem?_eq_some_iff.1 hx).1
  have hd : l.drop i = c :: l.drop (i + 1) := by
    have := (List.getElem?_eq_some_iff.1 hx).2
    rw [List.drop_eq_getElem_cons hlt, this]
  rw [h.2, hd, findP_cons (by rw [← hd]; exact hq), if_pos rfl]; simp
theorem findAt_end {c : UInt8} {l : List UInt8} {i : Nat} (h : FindAt c l i) (hi : ¬ i < l.length) : findP c l = none := by
  rw [h.2, List.drop_of_length_le (by omega)]; rfl
/-- A place, or -1. -/
def fv : Option Nat → Int
  | none => -1
  | some i => i
end Go.Proofs.YthlnfefpdmecaaaGreatDoor

/-
  PLAIN, for the walks of props: two sets that meet, step by step; what a line adds, in the program's order; the clash, set by set.
-/
namespace Go.Proofs.YthlnfefpdmecaaaGreatDoor

def MeetAt (a b : List (Int × Int)) (i j : Nat) : Prop := i ≤ a.length ∧ j ≤ b.length ∧ meetB a b = meetB (a.drop i) (b.drop j)
theorem meetAt_first (a b : List (Int × Int)) : MeetAt a b 0 0 := ⟨by omega, by omega, by rw [List.drop_zero, List.drop_zero]⟩
theorem Nf_drop {l : List (Int × Int)} (k : Nat) (h : Nf l) : Nf (l.drop k) := by
  rw [← List.take_append_drop k l] at h
  exact ((Nf_append _ _).1 h).2.1
theorem drop_at {α : Type} {l : List α} {i : Nat} {x : α} (h : l[i]? = some x) : l.drop i = x :: l.drop (i + 1) := by
  obtain ⟨hlt, e⟩ := List.getElem?_eq_some_iff.1 h
  rw [List.drop_eq_getElem_cons hlt, e]
theorem meetAt_left {a b : List (Int × Int)} {i j : Nat} {x y : Int × Int} (h : MeetAt a b i j) (hb : Nf b) (hx : a[i]? = some x) (hy : b[j]? = some y) (hlt : x.2 < y.1) : MeetAt a b (i + 1) j := by
  have h1 := (List.getElem?_eq_some_iff.1 hx).1
  refine ⟨h1, h.2.1, ?_⟩
  rw [h.2.2, drop_at hx, drop_at hy]
  exact meetB_left (by rw [← drop_at hy]; exact Nf_drop j hb) hlt
theorem meetAt_right {a b : List (Int × Int)} {i j : Nat} {x y : Int × Int} (h : MeetAt a b i j) (ha : Nf a) (hx : a[i]? = some x) (hy : b[j]? = some y) (hlt : y.2 < x.1) : MeetAt a b i (j + 1) := by
  have h1 := (List.getElem?_eq_some_iff.1 hy).1
  refine ⟨h.1, h1, ?_⟩
  rw [h.2.2, drop_at hx, drop_at hy]
  exact meetB_right (by rw [← drop_at hx]; exact Nf_drop i ha) hlt
theorem meetAt_here {a b : List (Int × Int)} {i j : Nat} {x y : Int × Int} (h : MeetAt a b i j) (hx : a[i]? = some x) (hy : b[j]? = some y) (h1 : ¬ x.2 < y.1) (h2 : ¬ y.2 < x.1) : meetB a b = true := by
  rw [h.2.2, drop_at hx, drop_at hy]
  exact meetB_here h1 h2
theorem meetAt_end {a b : List (Int × Int)} {i j : Nat} (h : MeetAt a b i j) (hij : ¬ i < a.length ∨ ¬ j < b.length) : meetB a b = false := by
  rw [h.2.2]
  rcases hij with hi | hj
  · rw [List.drop_of_length_le (by omega)]; exact meetB_nil_left _
  · rw [List.drop_of_length_le (l := b) (by omega)]; exact meetB_nil_right _

/-- How far the clash has been looked for. -/
def ClashAt (d : DbP) (c : Nat) (l : List (Int × Int)) (k : Nat) : Prop := ∀ q, q < k → q ≠ c → meetB (d.sets.getD q []) l = false
theorem clashAt_first (d : DbP) (c : Nat) (l : List (Int × Int)) : ClashAt d c l 0 := fun q hq => by omega
theorem clashAt_next {d : DbP} {c : Nat} {l s : List (Int × Int)} {k : Nat} (h : ClashAt d c l k) (hs : d.sets[k]? = some s) (hk : k = c ∨ meetB s l = false) : ClashAt d c l (k + 1) := fun q hq hqc => by
  rcases Nat.lt_or_ge q k with hlt | hge
  · exact h q hlt hqc
  · obtain rfl : q = k := by omega
    rcases hk with e | e
    · exact absurd e hqc
    · rw [List.getD_eq_getElem?_getD, hs]; exact e
theorem clashAt_end {d : DbP} {c : Nat} {l : List (Int × Int)} {k : Nat} (h : ClashAt d c l k) (hk : ¬ k < d.sets.length) : d.clash c l = false := by
  unfold DbP.clash
  rw [List.any_eq_false]
  intro q hq
  have := List.mem_range.1 hq
  by_cases e : q = c
  · simp [e]
  · rw [h q (by omega) e]; simp
theorem clash_here {d : DbP} {c : Nat} {l s : List (Int × Int)} {k : Nat} (hs : d.sets[k]? = some s) (hk : k ≠ c) (h : meetB s l = true) : d.clash c l = true := by
  unfold DbP.clash
  rw [List.any_eq_true]
  refine ⟨k, List.mem_range.2 (List.getElem?_eq_some_iff.1 hs).1, ?_⟩
  rw [List.getD_eq_getElem?_getD, hs]
  simp [hk, h]

/-- What the program's add does with a line that says something. -/
def addS (d : DbP) (u : List UInt8) : Except Int DbP :=
  match findP 59 u with
  | none => .error 42
  | some j => addL d (trimL (u.drop (j + 1))) (u.take j)
/-- The line as the program trims it. -/
def lineU (l : List UInt8) : List UInt8 := trimL (l.take (hashP l))
theorem step_nil {d : DbP} {l : List UInt8} (h : lineU l = []) : stepL d l = .ok d := by
  unfold stepL lineP
  simp only [show trimL (l.take (hashP l)) = [] from h, if_true]
theorem step_add {d : DbP} {l : List UInt8} (h : lineU l ≠ []) : stepL d l = addS d (lineU l) := by
  unfold stepL lineP addS
  simp only [show trimL (l.take (hashP l)) = lineU l from rfl, if_neg h]
  cases findP 59 (lineU l) with
  | none => rfl
  | some j => rfl
/-- A name's number: the old one, or a new one; or there are too many. -/
def nbrP (d : DbP) (n : List UInt8) : Except Int Nat := match d.num n with
  | some c => .ok c
  | none => if 64 ≤ d.names.length then .error 6 else .ok d.names.length
/-- The database with a set more. -/
def putP (d : DbP) (n : List UInt8) (c : Nat) (l : List (Int × Int)) : DbP :=
  if c = d.names.length then ⟨d.names ++ [n], d.sets ++ [orR [] l]⟩ else ⟨d.names, d.sets.set c (orR (d.sets.getD c []) l)⟩
theorem addS_none {d : DbP} {u : List UInt8} (h : findP 59 u = none) : addS d u = .error 42 := by unfold addS; rw [h]
section
variable {d : DbP} {u : List UInt8} {j : Nat} (h : findP 59 u = some j)
include h
theorem addS_name (hn : nameL (trimL (u.drop (j + 1))) = false ∨ trimL (u.drop (j + 1)) = otherL) : addS d u = .error 40 := by
  unfold addS addL; rw [h]; simp only [if_pos hn]
theorem addS_parse (hn : ¬ (nameL (trimL (u.drop (j + 1))) = false ∨ trimL (u.drop (j + 1)) = otherL)) {e : Int} (hp : parseE (spcL (u.take j)) = .error e) : addS d u = .error e := by
  unfold addS addL; rw [h]; simp only [if_neg hn, hp]
theorem addS_many (hn : ¬ (nameL (trimL (u.drop (j + 1))) = false ∨ trimL (u.drop (j + 1)) = otherL)) {l : List (Int × Int)} (hp : parseE (spcL (u.take j)) = .ok l) {e : Int} (hm : nbrP d (trimL (u.drop (j + 1))) = .error e) : addS d u = .error e := by
  unfold addS addL; rw [h]; simp only [if_neg hn, hp]
  unfold nbrP at hm
  cases hq : d.num (trimL (u.drop (j + 1))) with
  | some c => rw [hq] at hm; cases hm
  | none =>
    rw [hq] at hm
    simp only at hm ⊢
    split at hm
    · rename_i h6; rw [if_pos h6]; injection hm with hm; rw [hm]
    · cases hm
theorem addS_clash (hn : ¬ (nameL (trimL (u.drop (j + 1))) = false ∨ trimL (u.drop (j + 1)) = otherL)) {l : List (Int × Int)} (hp : parseE (spcL (u.take j)) = .ok l) {c : Nat} (hm : nbrP d (trimL (u.drop (j + 1))) = .ok c) (hc : d.clash c (normR l) = true) : addS d u = .error 41 := by
  unfold addS addL; rw [h]; simp only [if_neg hn, hp]
  unfold nbrP at hm
  cases hq : d.num (trimL (u.drop (j + 1))) with
  | some c' => rw [hq] at hm; injection hm with hm; subst hm; simp only [hc, if_true]
  | none =>
    rw [hq] at hm
    simp only at hm ⊢
    split at hm
    · cases hm
    · rename_i h6; rw [if_neg h6]; injection hm with hm; subst hm; simp only [hc, if_true]
theorem addS_ok (hn : ¬ (nameL (trimL (u.drop (j + 1))) = false ∨ trimL (u.drop (j + 1)) = otherL)) {l : List (Int × Int)} (hp : parseE (spcL (u.take j)) = .ok l) {c : Nat} (hm : nbrP d (trimL (u.drop (j + 1))) = .ok c) (hc : d.clash c (normR l) = false) : addS d u = .ok (putP d (trimL (u.drop (j + 1))) c (normR l)) := by
  unfold addS addL; rw [h]; simp only [if_neg hn, hp]
  unfold nbrP at hm
  cases hq : d.num (trimL (u.drop (j + 1))) with
  | some c' =>
    rw [hq] at hm; injection hm with hm; subst hm
    have := (List.getElem?_eq_some_iff.1 (idxOf?_some (show d.names.idxOf? _ = some c' from hq))).1
    simp only [hc, putP, if_neg (show ¬ c' = d.names.length by omega)]
    rfl
  | none =>
    rw [hq] at hm
    simp only at hm ⊢
    split at hm
    · cases hm
    · rename_i h6; rw [if_neg h6]; injection hm with hm; subst hm; simp only [hc, putP, if_true]; rfl
end
theorem nbrP_le {d : DbP} {n : List UInt8} {c : Nat} (h : nbrP d n = .ok c) : c ≤ d.names.length := by
  unfold nbrP at h
  cases hq : d.num n with
  | some c' =>
    rw [hq] at h; injection h with h; subst h
    exact Nat.le_of_lt (List.getElem?_eq_some_iff.1 (idxOf?_some (show d.names.idxOf? _ = some c' from hq))).1
  | none =>
    rw [hq] at h; simp only at h
    split at h
    · cases h
    · injection h with h; omega
end Go.Proofs.YthlnfefpdmecaaaGreatDoor

/-
  PLAIN, for the walks of props: all ranges gathered; the binary search; the lines one by one; the text class by class.
-/
namespace Go.Proofs.YthlnfefpdmecaaaGreatDoor

/-- What close has gathered: of the sets ahead of number c + 1 all, of the next one the first k. -/
def gotR (S : List (List (Int × Int))) (c k : Nat) : List (Int × Int × Nat) := entG 1 (S.take c) ++ ((S.getD c []).take k).map fun x => (x.1, x.2, c + 1)
theorem gotR_first (S : List (List (Int × Int))) : gotR S 0 0 = [] := by simp [gotR, entG]
theorem gotR_in {S : List (List (Int × Int))} {c k : Nat} {s : List (Int × Int)} {x : Int × Int} (hs : S[c]? = some s) (hx : s[k]? = some x) : gotR S c (k + 1) = gotR S c k ++ [(x.1, x.2, c + 1)] := by
  unfold gotR
  rw [List.getD_eq_getElem?_getD, hs, Option.getD_some, List.take_add_one, hx, Option.toList_some, List.map_append, List.append_assoc]; rfl
theorem gotR_out {S : List (List (Int × Int))} {c k : Nat} {s : List (Int × Int)} (hs : S[c]? = some s) (hk : ¬ k < s.length) : gotR S c k = gotR S (c + 1) 0 := by
  unfold gotR
  rw [List.getD_eq_getElem?_getD, hs, Option.getD_some, List.take_of_length_le (l := s) (i := k) (by omega), List.take_zero, List.map_nil, List.append_nil, List.take_add_one, hs, Option.toList_some, entG_append]
  have hlt := (List.getElem?_eq_some_iff.1 hs).1
  rw [List.length_take, Nat.min_eq_left (Nat.le_of_lt hlt)]
  simp [entG, Nat.add_comm]
theorem gotR_end {S : List (List (Int × Int))} {c : Nat} (hc : ¬ c < S.length) : gotR S c 0 = entG 1 S := by
  unfold gotR
  rw [List.take_of_length_le (by omega), List.take_zero, List.map_nil, List.append_nil]
theorem flat_next {S : List (List (Int × Int))} {c : Nat} {s : List (Int × Int)} (hs : S[c]? = some s) : (S.take (c + 1)).flatten = (S.take c).flatten ++ s := by
  rw [List.take_add_one, hs, Option.toList_some, List.flatten_append]; simp
theorem gotR_len {S : List (List (Int × Int))} {c k : Nat} : (gotR S c k).length ≤ lenS S := by
  unfold gotR
  rw [List.length_append, List.length_map, entG_len, List.length_take]
  rcases Nat.lt_or_ge c S.length with h | h
  · have hd : S = S.take c ++ S[c] :: S.drop (c + 1) := by rw [← List.drop_eq_getElem_cons h, List.take_append_drop]
    have h2 : lenS S = lenS (S.take c) + lenS (S[c] :: S.drop (c + 1)) := by
      conv => lhs; rw [hd]
      exact lenS_append _ _
    rw [List.getD_eq_getElem?_getD, List.getElem?_eq_getElem h, Option.getD_some, h2]
    have : lenS (S[c] :: S.drop (c + 1)) = S[c].length + lenS (S.drop (c + 1)) := rfl
    omega
  · rw [List.getD_eq_getElem?_getD, List.getElem?_eq_none h, List.take_of_length_le h]; simp
theorem flat_le (S : List (List (Int × Int))) (c : Nat) : (S.take c).flatten.length ≤ lenS S := by
  rw [lenS_flat]
  have h2 : lenS S = lenS (S.take c) + lenS (S.drop c) := by
    conv => lhs; rw [← List.take_append_drop c S]
    exact lenS_append _ _
  omega

/-- How far the binary search has come. -/
structure BinAt (l : List (Int × Int × Nat)) (r : Int) (i j : Nat) : Prop where
  le : i ≤ j
  len : j ≤ l.length
  lo : ∀ t x, t < i → l[t]? = some x → x.2.1 < r
  hi : ∀ t x, j ≤ t → l[t]? = some x → ¬ x.2.1 < r
theorem binAt_first (l : List (Int × Int × Nat)) (r : Int) : BinAt l r 0 l.length := ⟨by omega, by omega, fun t x h => by omega, fun t x h hx => by have := (List.getElem?_eq_some_iff.1 hx).1; omega⟩
theorem hi_rise {l : List (Int × Int × Nat)} (hp : l.Pairwise fun a b => a.2.1 < b.1) (hl : ∀ y ∈ l, y.1 ≤ y.2.1) {t h : Nat} {x y : Int × Int × Nat} (hth : t < h) (hx : l[t]? = some x) (hy : l[h]? = some y) : x.2.1 < y.2.1 := by
  obtain ⟨h1, e1⟩ := List.getElem?_eq_some_iff.1 hx
  obtain ⟨h2, e2⟩ := List.getElem?_eq_some_iff.1 hy
  have := List.pairwise_iff_getElem.1 hp t h h1 h2 hth
  have := hl y (List.mem_of_getElem? hy)
  rw [e1, e2] at *
  omega
theorem binAt_left {l : List (Int × Int × Nat)} {r : Int} {i j h : Nat} {y : Int × Int × Nat} (hb : BinAt l r i j) (hp : l.Pairwise fun a b => a.2.1 < b.1) (hl : ∀ y ∈ l, y.1 ≤ y.2.1) (h2 : h < j) (hy : l[h]? = some y) (hlt : y.2.1 < r) : BinAt l r (h + 1) j :=
  ⟨h2, hb.len, fun t x ht hx => by
    rcases Nat.lt_or_ge t h with h3 | h3
    · have := hi_rise hp hl h3 hx hy; omega
    · obtain rfl : t = h := by omega
      rw [hy] at hx; injection hx with hx; subst hx; exact hlt, hb.hi⟩
theorem binAt_right {l : List (Int × Int × Nat)} {r : Int} {i j h : Nat} {y : Int × Int × Nat} (hb : BinAt l r i j) (hp : l.Pairwise fun a b => a.2.1 < b.1) (hl : ∀ y ∈ l, y.1 ≤ y.2.1) (h1 : i ≤ h) (h2 : h < j) (hy : l[h]? = some y) (hlt : ¬ y.2.1 < r) : BinAt l r i h :=
  ⟨h1, by have := hb.len; omega, hb.lo, fun t x ht hx => by
    rcases Nat.lt_or_ge h t with h3 | h3
    · have := hi_rise hp hl h3 hy hx; omega
    · obtain rfl : t = h := by omega
      rw [hy] at hx; injection hx with hx; subst hx; exact hlt⟩
theorem binAt_end {l : List (Int × Int × Nat)} {r : Int} {i j : Nat} (hb : BinAt l r i j) (h : ¬ i < j) : l.countP (endB r) = i := by
  obtain rfl : i = j := by have := hb.le; omega
  exact count_place hb.len hb.lo hb.hi
theorem findC_in {l : List (Int × Int × Nat)} {r : Int} {x : Int × Int × Nat} (h : l[l.countP (endB r)]? = some x) : findC l r = if x.1 ≤ r then x.2.2 else 0 := by unfold findC; rw [h]
theorem findC_out {l : List (Int × Int × Nat)} {r : Int} (h : ¬ l.countP (endB r) < l.length) : findC l r = 0 := by unfold findC; rw [List.getElem?_eq_none (by omega)]

/-- How far the lines have been read. -/
def NewAt (L : List (List UInt8)) (i : Nat) (d : DbP) : Prop := i ≤ L.length ∧ linesGo DbP.first L 0 = linesGo d (L.drop i) i ∧ d.Ok ∧ Apart d.sets
theorem newAt_first (L : List (List UInt8)) : NewAt L 0 DbP.first := ⟨by omega, by rw [List.drop_zero], DbP.first_ok, apart_first⟩
theorem stepL_apart {d d' : DbP} {l : List UInt8} (h : d.Ok) (ha : Apart d.sets) (hs : stepL d l = .ok d') : Apart d'.sets := by
  have h1 : linesGo d [l] 0 = .ok d' := by simp only [linesGo, hs]
  exact linesGo_apart h ha h1
theorem newAt_next {L : List (List UInt8)} {i : Nat} {d d' : DbP} {l : List UInt8} (h : NewAt L i d) (hl : L[i]? = some l) (hs : stepL d l = .ok d') : NewAt L (i + 1) d' :=
  ⟨(List.getElem?_eq_some_iff.1 hl).1, by rw [h.2.1, drop_at hl]; simp only [linesGo, hs], stepL_ok h.2.2.1 hs, stepL_apart h.2.2.1 h.2.2.2 hs⟩
theorem newAt_err {L : List (List UInt8)} {i : Nat} {d : DbP} {l : List UInt8} {e : Int} (h : NewAt L i d) (hl : L[i]? = some l) (hs : stepL d l = .error e) : linesGo DbP.first L 0 = .error (e, i + 1) := by
  rw [h.2.1, drop_at hl]; simp only [linesGo, hs]
theorem newAt_end {L : List (List UInt8)} {i : Nat} {d : DbP} (h : NewAt L i d) (hi : ¬ i < L.length) : linesGo DbP.first L 0 = .ok d := by
  rw [h.2.1, List.drop_of_length_le (by omega)]; rfl
theorem newP_long {t : List UInt8} (h : 65536 < t.length) : newP t = .error (1, 0) := if_pos h
theorem newP_go {t : List UInt8} (h : ¬ 65536 < t.length) : newP t = linesGo DbP.first (splitL t) 0 := if_neg h

theorem textG_take : ∀ (N : List (List UInt8)) (S : List (List (Int × Int))) (k : Nat) (n : List UInt8) (s : List (Int × Int)), N[k]? = some n → S[k]? = some s → textG (N.take (k + 1)) (S.take (k + 1)) = textG (N.take k) (S.take k) ++ (lineT s n ++ [10])
  | [], S, k, n, s, h, _ => by simp at h
  | a :: N, [], k, n, s, _, h => by simp at h
  | a :: N, b :: S, 0, n, s, h1, h2 => by simp at h1 h2; subst h1; subst h2; simp [textG]
  | a :: N, b :: S, k + 1, n, s, h1, h2 => by
    have ih := textG_take N S k n s (by simpa using h1) (by simpa using h2)
    simp only [List.take_succ_cons, textG] at ih ⊢
    rw [ih]; simp
theorem full_tail (d : DbP) : d.full.tail = d.sets.tail := rfl
theorem full_get {d : DbP} {k : Nat} : d.full[k + 1]? = d.sets.tail[k]? := rfl
theorem full_first (d : DbP) : d.full[0]? = some d.rest := rfl
theorem full_set {d : DbP} (h : d.Ok) : d.sets.set 0 d.rest = d.full := by
  have := h.head; have := h.len
  unfold DbP.full
  cases hs : d.sets with
  | nil =>
    have h1 := h.len; have h2 := h.head
    rw [hs] at h1
    cases hn : d.names with
    | nil => rw [hn] at h2; cases h2
    | cons a b => rw [hn] at h1; simp at h1
  | cons a b => rw [show d.rest = DbP.rest d from rfl]; simp
end Go.Proofs.YthlnfefpdmecaaaGreatDoor

