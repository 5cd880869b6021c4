/-
  Several texts in one, in their build order: RefV, RefW, RefX, RunB, RunC.
-/
import Derived.Test.YthlnfefpdmecaaaGreatDoorZRefU
import Derived.Test.YthlnfefpdmecaaaGreatDoorZ1a
import Derived.Test.YthlnfefpdmecaaaGreatDoorZRunA
/-
  kerfref02.spelling.
-/
namespace Go.Proofs.YthlnfefpdmecaaaGreatDoor
open Go.RowKit

theorem results_tmp4 {fn : Func} {t u v x : Tmp} (h : fn.results = #[.tmp t, .tmp u, .tmp v, .tmp x]) (tmps : Array Value) (P : Program) (w : World) :
    (results fn tmps).run P w = .ok (.tuple #[tmps.getD t undef, tmps.getD u undef, tmps.getD v undef, tmps.getD x undef]) w := by
  simp [results, h]
/-- What spelling hands back. -/
def spellV : Except (Int × Nat) (Int × Nat) → Value
  | .error x => .tuple #[.int .i32 0, .int .i64 0, .int .i64 x.1, .int .i64 x.2]
  | .ok (r, q) => .tuple #[.int .i32 r, .int .i64 q, .int .i64 0, .int .i64 0]
theorem spell_err {x : Except (Int × Nat) (Int × Nat)} {e : Int} {p : Nat} {v : Value} (h : x = .error (e, p)) (hv : v = .tuple #[.int .i32 0, .int .i64 0, .int .i64 e, .int .i64 p]) : Ending.returned v = .returned (spellV x) := by rw [h, hv]; rfl
theorem spell_ok {x : Except (Int × Nat) (Int × Nat)} {r : Int} {q : Nat} {v : Value} (h : x = .ok (r, q)) (hv : v = .tuple #[.int .i32 r, .int .i64 q, .int .i64 0, .int .i64 0]) : Ending.returned v = .returned (spellV x) := by rw [h, hv]; rfl

theorem hexRun_drop (s : ByteArray) (p : Nat) : ∀ k, k ≤ (hexRun s p).length → hexRun s (p + k) = (hexRun s p).drop k
  | 0, _ => rfl
  | k + 1, hk => by
    have ih := hexRun_drop s p k (by omega)
    have hne : hexRun s (p + k) ≠ [] := by
      intro e; rw [e] at ih
      have := congrArg List.length ih
      simp at this; omega
    by_cases hlt : p + k < s.size
    · rw [hexRun_cons hlt] at ih hne
      split at ih
      · rw [← Nat.add_assoc, ← List.drop_drop, ← ih]; rfl
      · rename_i hx; rw [if_neg hx] at hne; exact absurd rfl hne
    · rw [hexRun_none (by omega)] at hne; exact absurd rfl hne
theorem hexRun_in {s : ByteArray} {p k : Nat} (hk : k ≤ (hexRun s p).length) (hlt : p + k < s.size) (hx : isHexN ((s[p + k]'hlt).toNat : Int) = true) :
    k < (hexRun s p).length ∧ (hexRun s p)[k]? = some (s[p + k]'hlt) := by
  have h := hexRun_drop s p k hk
  rw [hexRun_cons hlt, if_pos hx] at h
  have h1 := congrArg List.length h
  simp at h1
  refine ⟨by omega, ?_⟩
  have h2 := congrArg List.head? h
  rw [List.head?_drop] at h2
  exact h2.symm
theorem hexRun_out {s : ByteArray} {p k : Nat} (hk : k ≤ (hexRun s p).length) (ho : s.size ≤ p + k ∨ ∃ h : p + k < s.size, isHexN ((s[p + k]'h).toNat : Int) = false) : k = (hexRun s p).length := by
  have h := hexRun_drop s p k hk
  have h0 : hexRun s (p + k) = [] := by
    rcases ho with h | ⟨h, hx⟩
    · exact hexRun_none h
    · rw [hexRun_cons h, if_neg (by rw [hx]; exact Bool.false_ne_true)]
  rw [h0] at h
  have := congrArg List.length h
  simp at this; omega
/-- How far the digits have been read. -/
def SpellAt (s : ByteArray) (a k : Nat) (n : Int) : Prop := k ≤ (hexRun s (a + 2)).length ∧ n = hexVal ((hexRun s (a + 2)).take (min k 6))
theorem spellAt_bd {s : ByteArray} {a k : Nat} {n : Int} (h : SpellAt s a k n) : 0 ≤ n ∧ n ≤ 16777216 := by
  have hb := hexVal_bd _ _ rfl (fun c hc => hexRun_all s (a + 2) c (List.mem_of_mem_take hc) : allHex ((hexRun s (a + 2)).take (min k 6)))
  rw [← h.2] at hb
  have hl : ((hexRun s (a + 2)).take (min k 6)).length ≤ 6 := by rw [List.length_take]; omega
  have : (16 : Int) ^ ((hexRun s (a + 2)).take (min k 6)).length ≤ 16 ^ 6 := by
    rcases (by omega : ((hexRun s (a + 2)).take (min k 6)).length = 0 ∨ ((hexRun s (a + 2)).take (min k 6)).length = 1 ∨ ((hexRun s (a + 2)).take (min k 6)).length = 2 ∨ ((hexRun s (a + 2)).take (min k 6)).length = 3 ∨ ((hexRun s (a + 2)).take (min k 6)).length = 4 ∨ ((hexRun s (a + 2)).take (min k 6)).length = 5 ∨ ((hexRun s (a + 2)).take (min k 6)).length = 6) with e | e | e | e | e | e | e <;> rw [e] <;> decide
  omega
theorem spellAt_few {s : ByteArray} {a k : Nat} {n : Int} (h : SpellAt s a k n) (hlt : a + 2 + k < s.size) (hx : isHexN ((s[a + 2 + k]'hlt).toNat : Int) = true) (h6 : k < 6) : SpellAt s a (k + 1) (16 * n + hexDig ((s[a + 2 + k]'hlt).toNat : Int)) := by
  obtain ⟨h1, h2⟩ := hexRun_in h.1 hlt hx
  refine ⟨h1, ?_⟩
  rw [show min (k + 1) 6 = min k 6 + 1 by omega, take_snoc_u8 (by rw [show min k 6 = k by omega]; exact h2), hexVal_snoc, ← h.2]; omega
theorem spellAt_many {s : ByteArray} {a k : Nat} {n : Int} (h : SpellAt s a k n) (hlt : a + 2 + k < s.size) (hx : isHexN ((s[a + 2 + k]'hlt).toNat : Int) = true) (h6 : 6 ≤ k) : SpellAt s a (k + 1) n := by
  obtain ⟨h1, h2⟩ := hexRun_in h.1 hlt hx
  exact ⟨h1, by rw [show min (k + 1) 6 = min k 6 by omega]; exact h.2⟩
theorem spellAt_end {s : ByteArray} {a k : Nat} {n : Int} (h : SpellAt s a k n) (ho : s.size ≤ a + 2 + k ∨ ∃ h : a + 2 + k < s.size, isHexN ((s[a + 2 + k]'h).toNat : Int) = false) :
    numP s a = if k < 4 ∨ 6 < k then .error (21, a) else if 1114111 < n then .error (22, a) else .ok (n, a + 2 + k) := by
  have hk := hexRun_out h.1 ho
  unfold numP
  rw [← hk]
  split
  · rfl
  · rename_i hc
    have : n = hexVal (hexRun s (a + 2)) := by rw [h.2, List.take_of_length_le (by omega)]
    rw [← this]

theorem isPrefix_rest {s : ByteArray} {a : Nat} (h1 : a + 1 < s.size) : [85, 43].isPrefixOf (rest s a) = (85 == s[a]'(by omega) && (43 == s[a + 1]'h1)) := by
  rw [rest_cons (by omega : a < s.size), rest_cons h1]; simp [List.isPrefixOf]
theorem notPrefix_rest {s : ByteArray} {a : Nat} (h : [85, 43].isPrefixOf (rest s a) = false) : runeP s a = if [39].isPrefixOf (rest s a) then quoP s a else .error (21, a) := by
  unfold runeP; rw [h]; rfl
theorem pre39 (s : ByteArray) (a : Nat) : [39].isPrefixOf (rest s a) = true ↔ (rest s a).head? = some 39 := by
  cases h : rest s a with
  | nil => simp
  | cons x r => simp [List.isPrefixOf]; exact eq_comm
theorem head_lt {s : ByteArray} {a : Nat} {c : UInt8} (h : (rest s a).head? = some c) : a < s.size := by
  rcases Nat.lt_or_ge a s.size with h1 | h1
  · exact h1
  · rw [rest_none h1] at h; simp at h
theorem quoted_no {s : ByteArray} {a r w : Nat} (h : quotedP s a = (r, w, false)) : (if [39].isPrefixOf (rest s a) then quoP s a else .error (21, a)) = .error (21, a) := by
  unfold quotedP at h
  split at h
  · injection h with _ h; injection h with _ h; cases h
  · rename_i hn
    by_cases h39 : (rest s a).head? = some 39
    · rw [if_pos ((pre39 s a).2 h39)]
      unfold quoP
      split
      · rfl
      · rename_i hw
        split
        · rfl
        · rename_i h3
          exact absurd ⟨h39, hw, Classical.not_not.1 h3⟩ hn
    · rw [if_neg (fun h => h39 ((pre39 s a).1 h))]
theorem quoted_yes {s : ByteArray} {a r w : Nat} (h : quotedP s a = (r, w, true)) :
    a + 1 + w < s.size ∧ w ≤ 4 ∧ r ≤ 1114111 ∧ (if [39].isPrefixOf (rest s a) then quoP s a else .error (21, a)) = (if r = 65533 ∧ w = 1 then .error (23, a + 1) else .ok ((r : Int), a + w + 2)) := by
  unfold quotedP at h
  split at h
  · rename_i hy
    obtain ⟨h1, h2, h3⟩ := hy
    injection h with e1 h; injection h with e2 _
    subst e1; subst e2
    have := head_lt h1
    have hb := runeAt_bd s (a + 1) (by omega)
    refine ⟨head_lt h3, hb.1, hb.2.2, ?_⟩
    rw [if_pos ((pre39 s a).2 h1)]
    unfold quoP
    rw [if_neg h2, if_neg (fun h => h h3)]
    split
    · rfl
    · congr 2; omega
  · injection h with _ h; injection h with _ h; cases h

set_option maxRecDepth 100000 in
set_option maxHeartbeats 800000 in
theorem spell_num (s : ByteArray) (a : Nat) (w : World) (ha : a + 1 < s.size) (h0 : s[a]'(by omega) = 85) (h1 : s[a + 1]'ha = 43) (hs : s.size ≤ 1000000) :
    Calls Tryz.prog 192 #[.string s, .int .i64 a] w fun e w' => e = .returned (spellV (runeP s a)) ∧ Below w.heap.size w w' := by
  have HN : Hid (runeP s a = numP s a) := Lib.hid (by unfold runeP; rw [isPrefix_rest ha, h0, h1]; rfl)
  have hq0 : (((s[a]'(by omega)).toNat : Int) == 85) = true := by rw [h0]; rfl
  have hq1 : (((s[a + 1]'ha).toNat : Int) == 43) = true := by rw [h1]; rfl
  clear h0 h1
  go_enter Tryz.func192, Tryz.ntmps192
  go_wp2_with fail
  go_loop [8, 9] (fun n k => ∃ (k' : Nat) (n' : Int), n = .int .i64 n' ∧ k = .int .i64 k' ∧ a + 2 + k' ≤ s.size ∧ Hid (SpellAt s a k' n')) (fun _ k => s.size - (intOf k).toNat)
  case atStart => exact ⟨0, 0, rfl, rfl, by omega, Lib.hid ⟨by omega, rfl⟩⟩
  case round =>
    obtain ⟨k, n, rfl, rfl, hks, HS⟩ := hrel
    obtain ⟨hn0, hn1⟩ := spellAt_bd HS.out
    by_cases hlt : a + 2 + k < s.size
    · have hcb : ((s[a + 2 + k]'hlt).toNat : Int) ≤ 255 := by have := (s[a + 2 + k]'hlt).toNat_lt; omega
      have hcz : 0 ≤ ((s[a + 2 + k]'hlt).toNat : Int) := by omega
      cases hx : isHexN ((s[a + 2 + k]'hlt).toNat : Int) with
      | true =>
        have HD := Lib.hid (digP_t hx)
        have hdb := hexDig_bd hx
        by_cases h6 : k < 6
        · have HA := Lib.hid (spellAt_few HS.out hlt hx h6)
          clear hx
          go_wp2_with fail
          refine (sdigit_any _ _ hcz hcb).mono ?_
          rintro e w' ⟨rfl, rfl⟩
          rw [HD.out]
          simp only
          generalize hexDig ((s[a + 2 + k]'hlt).toNat : Int) = D at hdb HA ⊢
          go_wp2_with fail
          go_round
          case rel => exact ⟨k + 1, 16 * n + D, rfl, by go_num, by omega, HA⟩
          case measure => simp [intOf]; omega
        · have HA := Lib.hid (spellAt_many HS.out hlt hx (by omega))
          have h6' : 6 ≤ k := by omega
          clear hx h6
          go_wp2_with fail
          refine (sdigit_any _ _ hcz hcb).mono ?_
          rintro e w' ⟨rfl, rfl⟩
          rw [HD.out]
          simp only
          generalize hexDig ((s[a + 2 + k]'hlt).toNat : Int) = D at hdb ⊢
          go_wp2_with fail
          go_round
          case rel => exact ⟨k + 1, n, rfl, by go_num, by omega, HA⟩
          case measure => simp [intOf]; omega
      | false =>
        have HD := Lib.hid (digP_f hx)
        have HE := Lib.hid (spellAt_end HS.out (.inr ⟨hlt, hx⟩))
        clear hx
        rcases (by omega : k < 4 ∨ 6 < k ∨ 4 ≤ k ∧ k ≤ 6 ∧ 1114111 < n ∨ 4 ≤ k ∧ k ≤ 6 ∧ n ≤ 1114111) with h | h | ⟨h, h', h''⟩ | ⟨h, h', h''⟩
        · have HF : Hid (runeP s a = .error (21, a)) := Lib.hid (by rw [HN.out, HE.out, if_pos (by omega)])
          go_wp2_with fail
          refine (sdigit_any _ _ hcz hcb).mono ?_
          rintro e w' ⟨rfl, rfl⟩
          rw [HD.out]
          simp only
          go_wp2
          refine bodyPost_ret (results_tmp4 rfl _ _ _) rfl ?_
          exact ⟨spell_err HF.out rfl, Below.refl _ _⟩
        · have HF : Hid (runeP s a = .error (21, a)) := Lib.hid (by rw [HN.out, HE.out, if_pos (by omega)])
          go_wp2_with fail
          refine (sdigit_any _ _ hcz hcb).mono ?_
          rintro e w' ⟨rfl, rfl⟩
          rw [HD.out]
          simp only
          go_wp2
          refine bodyPost_ret (results_tmp4 rfl _ _ _) rfl ?_
          exact ⟨spell_err HF.out rfl, Below.refl _ _⟩
        · have HF : Hid (runeP s a = .error (22, a)) := Lib.hid (by rw [HN.out, HE.out, if_neg (by omega), if_pos h''])
          go_wp2_with fail
          refine (sdigit_any _ _ hcz hcb).mono ?_
          rintro e w' ⟨rfl, rfl⟩
          rw [HD.out]
          simp only
          go_wp2
          refine bodyPost_ret (results_tmp4 rfl _ _ _) rfl ?_
          exact ⟨spell_err HF.out rfl, Below.refl _ _⟩
        · have HF : Hid (runeP s a = .ok (n, a + 2 + k)) := Lib.hid (by rw [HN.out, HE.out, if_neg (by omega), if_neg (by omega)])
          have hw1 : IntKind.i32.wrap n = n := IntWalk.i32_in _ (by omega)
          go_wp2_with fail
          refine (sdigit_any _ _ hcz hcb).mono ?_
          rintro e w' ⟨rfl, rfl⟩
          rw [HD.out]
          simp only
          go_wp2
          refine bodyPost_ret (results_tmp4 rfl _ _ _) rfl ?_
          exact ⟨spell_ok HF.out rfl, Below.refl _ _⟩
    · have HE := Lib.hid (spellAt_end HS.out (.inl (by omega)))
      rcases (by omega : k < 4 ∨ 6 < k ∨ 4 ≤ k ∧ k ≤ 6 ∧ 1114111 < n ∨ 4 ≤ k ∧ k ≤ 6 ∧ n ≤ 1114111) with h | h | ⟨h, h', h''⟩ | ⟨h, h', h''⟩
      · have HF : Hid (runeP s a = .error (21, a)) := Lib.hid (by rw [HN.out, HE.out, if_pos (by omega)])
        go_wp2
        refine bodyPost_ret (results_tmp4 rfl _ _ _) rfl ?_
        exact ⟨spell_err HF.out rfl, Below.refl _ _⟩
      · have HF : Hid (runeP s a = .error (21, a)) := Lib.hid (by rw [HN.out, HE.out, if_pos (by omega)])
        go_wp2
        refine bodyPost_ret (results_tmp4 rfl _ _ _) rfl ?_
        exact ⟨spell_err HF.out rfl, Below.refl _ _⟩
      · have HF : Hid (runeP s a = .error (22, a)) := Lib.hid (by rw [HN.out, HE.out, if_neg (by omega), if_pos h''])
        go_wp2
        refine bodyPost_ret (results_tmp4 rfl _ _ _) rfl ?_
        exact ⟨spell_err HF.out rfl, Below.refl _ _⟩
      · have HF : Hid (runeP s a = .ok (n, a + 2 + k)) := Lib.hid (by rw [HN.out, HE.out, if_neg (by omega), if_neg (by omega)])
        have hw1 : IntKind.i32.wrap n = n := IntWalk.i32_in _ (by omega)
        go_wp2
        refine bodyPost_ret (results_tmp4 rfl _ _ _) rfl ?_
        exact ⟨spell_ok HF.out rfl, Below.refl _ _⟩
end Go.Proofs.YthlnfefpdmecaaaGreatDoor

/-
  kerfref02.spelling whole.
-/
namespace Go.Proofs.YthlnfefpdmecaaaGreatDoor
open Go.RowKit

/-- Does a rune's number stand there? As the three tests of the code say it. -/
theorem notPrefix_cases {s : ByteArray} {a : Nat} (h : [85, 43].isPrefixOf (rest s a) = false) :
    s.size ≤ a + 1 ∨ (∃ h1 : a + 1 < s.size, (((s[a]'(by omega)).toNat : Int) == 85) = false) ∨ (∃ h1 : a + 1 < s.size, (((s[a]'(by omega)).toNat : Int) == 85) = true ∧ (((s[a + 1]'h1).toNat : Int) == 43) = false) := by
  by_cases h1 : a + 1 < s.size
  · rw [isPrefix_rest h1] at h
    by_cases h0 : s[a]'(by omega) = 85
    · refine .inr (.inr ⟨h1, by rw [h0]; rfl, ?_⟩)
      have : ¬ s[a + 1]'h1 = 43 := fun e => by rw [h0, e] at h; exact absurd h (by decide)
      have := byte_ne' (n := 43) this
      simpa using this
    · refine .inr (.inl ⟨h1, ?_⟩)
      have := byte_ne' (n := 85) h0
      simpa using this
  · exact .inl (by omega)

set_option maxRecDepth 100000 in
set_option maxHeartbeats 1600000 in
theorem sspelling_any (s : ByteArray) (a : Nat) (w : World) (ha : a ≤ s.size) (hs : s.size ≤ 1000000) :
    Calls Tryz.prog 192 #[.string s, .int .i64 a] w fun e w' => e = .returned (spellV (runeP s a)) ∧ Below w.heap.size w w' := by
  cases hp : [85, 43].isPrefixOf (rest s a) with
  | true =>
    have hl : a + 1 < s.size := by
      have := (List.isPrefixOf_iff_prefix.1 hp).length_le
      unfold rest at this; rw [List.length_drop, size_data] at this; simp at this; omega
    rw [isPrefix_rest hl] at hp
    simp only [Bool.and_eq_true, beq_iff_eq] at hp
    exact spell_num s a w hl hp.1.symm hp.2.symm hs
  | false =>
    have HN := Lib.hid (notPrefix_rest hp)
    rcases notPrefix_cases hp with h1 | ⟨h1, hq0⟩ | ⟨h1, hq0, hq1⟩
    all_goals
      clear hp
      go_enter Tryz.func192, Tryz.ntmps192
      go_wp2_with fail
      refine (sQuoted_any s a _ ha hs).mono ?_
      rintro e w1 ⟨rfl, hb1⟩
      obtain ⟨⟨r, wd, ok⟩, HQ⟩ : ∃ d, quotedP s a = d := ⟨_, rfl⟩
      rw [HQ]
      simp only
      cases ok with
      | false =>
        have HF : Hid (runeP s a = .error (21, a)) := Lib.hid (HN.out.trans (quoted_no HQ))
        clear HQ
        go_wp2
        refine bodyPost_ret (results_tmp4 rfl _ _ _) rfl ?_
        exact ⟨spell_err HF.out rfl, hb1⟩
      | true =>
        obtain ⟨hend, hw4, hr, hE⟩ := quoted_yes HQ
        have HE := Lib.hid (HN.out.trans hE)
        clear HQ hE
        by_cases hr9 : r = 65533
        · subst hr9
          by_cases hw1 : wd = 1
          · subst hw1
            have HF : Hid (runeP s a = .error (23, a + 1)) := Lib.hid (HE.out.trans (if_pos ⟨rfl, rfl⟩))
            go_wp2
            refine bodyPost_ret (results_tmp4 rfl _ _ _) rfl ?_
            exact ⟨spell_err HF.out rfl, hb1⟩
          · have HF : Hid (runeP s a = .ok (((65533 : Nat) : Int), a + wd + 2)) := Lib.hid (HE.out.trans (if_neg (fun h => hw1 h.2)))
            have hq : ((wd : Int) == 1) = false := by rw [beq_eq_false_iff_ne]; omega
            clear hw1
            go_wp2
            refine bodyPost_ret (results_tmp4 rfl _ _ _) rfl ?_
            exact ⟨spell_ok HF.out rfl, hb1⟩
        · have HF : Hid (runeP s a = .ok ((r : Int), a + wd + 2)) := Lib.hid (HE.out.trans (if_neg (fun h => hr9 h.1)))
          have hq : ((r : Int) == 65533) = false := by rw [beq_eq_false_iff_ne]; omega
          clear hr9
          go_wp2
          refine bodyPost_ret (results_tmp4 rfl _ _ _) rfl ?_
          exact ⟨spell_ok HF.out rfl, hb1⟩
end Go.Proofs.YthlnfefpdmecaaaGreatDoor

/-
  kerfref02.Parse.
-/
namespace Go.Proofs.YthlnfefpdmecaaaGreatDoor
open Go.RowKit

theorem itemP_of {s : ByteArray} {a p : Nat} {lo : Int} (h : runeP s a = .ok (lo, p)) : itemP s a =
    match (if (rest s p).head? = some 45 then runeP s (p + 1) else .ok (lo, p)) with
    | .error e => .error e
    | .ok (hi, q) => if hi < lo then .error (20, a) else if (rest s q).head? ≠ none ∧ (rest s q).head? ≠ some 32 then .error (21, q) else .ok ((lo, hi), q) := by
  unfold itemP; rw [h]; rfl
theorem itemP_bad {s : ByteArray} {a : Nat} {x : Int × Nat} (h : runeP s a = .error x) : itemP s a = .error x := by
  unfold itemP; rw [h]
theorem parseGo_blank {s : ByteArray} {f a : Nat} {l : List (Int × Int)} (h : a < s.size) (h32 : s[a]'h = 32) : parseGo s (f + 1) a l = parseGo s f (a + 1) l := by
  rw [parseGo, rest_head h]; simp only [h32, if_true]
theorem parseGo_item {s : ByteArray} {f a : Nat} {l : List (Int × Int)} (h : a < s.size) (h32 : ¬ s[a]'h = 32) : parseGo s (f + 1) a l = match itemP s a with
      | .error e => .error e
      | .ok (x, q) => parseGo s f q (l ++ [x]) := by
  rw [parseGo, rest_head h]; simp only [h32, if_false]; rfl
theorem parseGo_done {s : ByteArray} {f : Nat} {l : List (Int × Int)} : parseGo s f s.size l = .ok l := by
  cases f with
  | zero => rfl
  | succ f => rw [parseGo, rest_none (Nat.le_refl _)]; rfl
/-- How far Parse has come. -/
def ParseAt (s : ByteArray) (f a : Nat) (l : List (Int × Int)) : Prop := parseGo s f a l = parseP s ∧ s.size < a + f ∧ a ≤ s.size

set_option maxRecDepth 100000 in
set_option maxHeartbeats 1600000 in
theorem sParse_any (s : ByteArray) (w : World) (hs : s.size ≤ 1000000) :
    Calls Tryz.prog 152 #[.string s] w fun e w' => Below w.heap.size w w' ∧ ParseEnd w.heap.size (parseP s) e w' := by
  obtain ⟨i0, hi0, hz0, hz1, hz2⟩ := info_parts infoR
  go_enter Tryz.func152, Tryz.ntmps152
  go_wp2
  go_loopw [5, 6] (fun v i wr => ∃ (a : Nat) (l : List (Int × Int)) (A : Option Addr) (n c : Nat), v = .slice A n c ∧ i = .int .i64 a ∧ a ≤ s.size ∧ n ≤ a ∧ Hid (∃ f, ParseAt s f a l) ∧ Own wr w.heap.size 146 2 A n c (l.map encR) ∧ Below w.heap.size w wr) (fun _ i _ => s.size - (intOf i).toNat)
  case atStart => exact ⟨0, [], none, 0, 0, rfl, rfl, by omega, by omega, Lib.hid ⟨s.size + 1, rfl, by omega, by omega⟩, Own.nil_ _ _ _ _, Below.refl _ _⟩
  case round =>
    obtain ⟨a0, l, A, n, c, rfl, rfl, ha0, hna0, HP0, ho, hb⟩ := hrel
    obtain ⟨wo, rfl⟩ : ∃ wo : World, wo = wr := ⟨_, rfl⟩
    have hbs := hb.size
    go_wp2_with fail
    go_loop [6] (fun i => ∃ a : Nat, i = .int .i64 a ∧ a0 ≤ a ∧ a ≤ s.size ∧ n ≤ a ∧ Hid (∃ f, ParseAt s f a l)) (fun i => s.size - (intOf i).toNat)
    case atStart => exact ⟨a0, rfl, by omega, ha0, hna0, HP0⟩
    case round =>
      clear HP0 hna0
      obtain ⟨a, rfl, ha0a, has, hna, HP⟩ := hrel
      by_cases hlt : a < s.size
      · by_cases h32 : s[a]'hlt = 32
        · have hq : (((s[a]'hlt).toNat : Int) == 32) = true := by rw [h32]; rfl
          have HP2 : Hid (∃ f, ParseAt s f (a + 1) l) := Lib.hid (by
            obtain ⟨f, h1, h2, h3⟩ := HP.out
            obtain ⟨f, rfl⟩ : ∃ f', f = f' + 1 := ⟨f - 1, by omega⟩
            exact ⟨f, by rw [← h1, parseGo_blank hlt h32], by omega, by omega⟩)
          clear h32 HP
          go_wp2_with fail
          go_round
          case rel => exact ⟨a + 1, by go_num, by omega, by omega, by omega, HP2⟩
          case measure => simp [intOf]; omega
        · have hq : (((s[a]'hlt).toNat : Int) == 32) = false := by
            have := byte_ne (n := 32) h32
            simpa using this
          have HI : Hid (∃ f, s.size < a + (f + 1) ∧ parseP s = match itemP s a with
              | .error e => .error e
              | .ok (x, q) => parseGo s f q (l ++ [x])) := Lib.hid (by
            obtain ⟨f, h1, h2, h3⟩ := HP.out
            obtain ⟨f, rfl⟩ : ∃ f', f = f' + 1 := ⟨f - 1, by omega⟩
            exact ⟨f, by omega, by rw [← h1, parseGo_item hlt h32]⟩)
          have hne : ((a : Int) == (s.size : Int)) = false := by rw [beq_eq_false_iff_ne]; omega
          clear h32 HP
          go_wp2_with fail
          clear hq hne
          refine (sspelling_any s a _ has hs).mono ?_
          rintro e w1 ⟨rfl, hb1⟩
          have ho1 := ho.below hb1
          have hB1 := below_step hb hb1 hbs
          have hbs1 := hB1.size
          clear ho hb hb1
          cases hr : runeP s a with
          | error x =>
            obtain ⟨e, p⟩ := x
            have hE := runeP_err hr
            have HF : Hid (parseP s = .error (e, p)) := Lib.hid (by obtain ⟨f, _, h⟩ := HI.out; rw [h, itemP_bad hr])
            have hne : ((e : Int) != 0) = true := by rw [bne_iff_ne]; omega
            clear hr
            simp only [spellV]
            go_wp2
            go_ret3
            exact ⟨hB1, ParseEnd.err HF.out⟩
          | ok y =>
            obtain ⟨lo, p⟩ := y
            obtain ⟨hp1, hp2, hl0, hl1⟩ := runeP_ok hr
            have HU := Lib.hid (itemP_of hr)
            clear hr
            simp only [spellV]
            by_cases hps : p < s.size
            · by_cases h45 : s[p]'hps = 45
              · have hq : (((s[p]'hps).toNat : Int) == 45) = true := by rw [h45]; rfl
                have HU2 : Hid (itemP s a = match runeP s (p + 1) with
                    | .error e => .error e
                    | .ok (hi, q) => if hi < lo then .error (20, a) else if (rest s q).head? ≠ none ∧ (rest s q).head? ≠ some 32 then .error (21, q) else .ok ((lo, hi), q)) := Lib.hid (by rw [HU.out, rest_head hps, h45]; rfl)
                clear h45 HU
                go_wp2_with fail
                clear hq
                refine (sspelling_any s (p + 1) _ (by omega) hs).mono ?_
                rintro e w2 ⟨rfl, hb2⟩
                have ho2 := ho1.below hb2
                have hB2 := below_step hB1 hb2 hbs1
                have hbs2 := hB2.size
                clear ho1 hB1 hb2 hbs1
                cases hr : runeP s (p + 1) with
                | error x =>
                  obtain ⟨e, p'⟩ := x
                  have hE := runeP_err hr
                  have HF : Hid (parseP s = .error (e, p')) := Lib.hid (by obtain ⟨f, _, h⟩ := HI.out; rw [h, HU2.out, hr])
                  have hne : ((e : Int) != 0) = true := by rw [bne_iff_ne]; omega
                  clear hr
                  simp only [spellV]
                  go_wp2
                  go_ret3
                  exact ⟨hB2, ParseEnd.err HF.out⟩
                | ok y =>
                  obtain ⟨hi, q⟩ := y
                  obtain ⟨hq1, hq2, hh0, hh1⟩ := runeP_ok hr
                  have HU3 : Hid (itemP s a = if hi < lo then .error (20, a) else if (rest s q).head? ≠ none ∧ (rest s q).head? ≠ some 32 then .error (21, q) else .ok ((lo, hi), q)) := Lib.hid (by rw [HU2.out, hr])
                  clear hr HU2
                  simp only [spellV]
                  by_cases hlo : hi < lo
                  · have HF : Hid (parseP s = .error (20, a)) := Lib.hid (by obtain ⟨f, _, h⟩ := HI.out; rw [h, HU3.out, if_pos hlo])
                    clear HI HU3
                    go_wp2
                    go_ret3
                    exact ⟨hB2, ParseEnd.err HF.out⟩
                  · have hlo' : lo ≤ hi := by omega
                    clear hlo
                    by_cases hqs : q < s.size
                    · by_cases h32 : s[q]'hqs = 32
                      · have hq2 : (((s[q]'hqs).toNat : Int) != 32) = false := by rw [h32]; rfl
                        have HF : Hid (∃ f, ParseAt s f q (l ++ [(lo, hi)])) := Lib.hid (by
                          obtain ⟨f, h0, h⟩ := HI.out
                          refine ⟨f, ?_, by omega, by omega⟩
                          rw [h, HU3.out, if_neg (by omega), if_neg (by rw [rest_head hqs, h32]; simp)])
                        clear h32 HI HU3
                        go_wp2_with (at_builtin; go_must (refine wpList_app rfl (.tmp 83) (.tmp 87) _ rfl w.heap.size 146 i0 _ 2 8 Tryz.underlying111 hi0 hz0 hz1 hz2 rfl (by omega) A n c (l.map encR) rfl (ho2.alloc _) _ 1 1 [encR (lo, hi)] rfl rfl (Rd.newAt (by simp) rfl) (encR_ok [(lo, hi)]) (by unfold maxLen; omega) (by omega) (by simp; omega) ?_); intro A3 c3 w3 ho3 hg3 hA3; have hb3 := below_app (hB2.alloc hbs2 (.cells #[.int .i32 lo, .int .i32 hi] 146)) hg3 (by simp; omega) (fun a ha => (ho2.lt a ha).1); clear hg3)
                        have Ho3 : Own w3 w.heap.size 146 2 A3 (n + 1) c3 ((l ++ [(lo, hi)]).map encR) := by rw [List.map_append]; exact ho3
                        clear ho3
                        go_roundw
                        case rel => exact ⟨q, l ++ [(lo, hi)], A3, n + 1, c3, rfl, rfl, by omega, by omega, HF, Ho3, hb3⟩
                        case measure => simp [intOf]; omega
                      · have hq2 : (((s[q]'hqs).toNat : Int) != 32) = true := byte_ne (n := 32) h32
                        have HF : Hid (parseP s = .error (21, q)) := Lib.hid (by obtain ⟨f, _, h⟩ := HI.out; rw [h, HU3.out, if_neg (by omega), if_pos (by rw [rest_head hqs]; simpa using h32)])
                        clear h32 HI HU3
                        go_wp2
                        go_ret3
                        exact ⟨hB2, ParseEnd.err HF.out⟩
                    · have HF : Hid (∃ f, ParseAt s f q (l ++ [(lo, hi)])) := Lib.hid (by
                        obtain ⟨f, h0, h⟩ := HI.out
                        refine ⟨f, ?_, by omega, by omega⟩
                        rw [h, HU3.out, if_neg (by omega), if_neg (by rw [rest_none (by omega)]; simp)])
                      clear HI HU3
                      go_wp2_with (at_builtin; go_must (refine wpList_app rfl (.tmp 83) (.tmp 87) _ rfl w.heap.size 146 i0 _ 2 8 Tryz.underlying111 hi0 hz0 hz1 hz2 rfl (by omega) A n c (l.map encR) rfl (ho2.alloc _) _ 1 1 [encR (lo, hi)] rfl rfl (Rd.newAt (by simp) rfl) (encR_ok [(lo, hi)]) (by unfold maxLen; omega) (by omega) (by simp; omega) ?_); intro A3 c3 w3 ho3 hg3 hA3; have hb3 := below_app (hB2.alloc hbs2 (.cells #[.int .i32 lo, .int .i32 hi] 146)) hg3 (by simp; omega) (fun a ha => (ho2.lt a ha).1); clear hg3)
                      have Ho3 : Own w3 w.heap.size 146 2 A3 (n + 1) c3 ((l ++ [(lo, hi)]).map encR) := by rw [List.map_append]; exact ho3
                      clear ho3
                      go_roundw
                      case rel => exact ⟨q, l ++ [(lo, hi)], A3, n + 1, c3, rfl, rfl, by omega, by omega, HF, Ho3, hb3⟩
                      case measure => simp [intOf]; omega
              · have hq : (((s[p]'hps).toNat : Int) == 45) = false := by
                  have := byte_ne (n := 45) h45
                  simpa using this
                have HU3 : Hid (itemP s a = if lo < lo then .error (20, a) else if (rest s p).head? ≠ none ∧ (rest s p).head? ≠ some 32 then .error (21, p) else .ok ((lo, lo), p)) := Lib.hid (HU.out.trans (by simp only [if_neg (show ¬ (rest s p).head? = some 45 by rw [rest_head hps]; simpa using h45)]))
                clear h45 HU
                by_cases h32 : s[p]'hps = 32
                · have hq2 : (((s[p]'hps).toNat : Int) != 32) = false := by rw [h32]; rfl
                  have HF : Hid (∃ f, ParseAt s f p (l ++ [(lo, lo)])) := Lib.hid (by
                    obtain ⟨f, h0, h⟩ := HI.out
                    refine ⟨f, ?_, by omega, by omega⟩
                    rw [h, HU3.out, if_neg (by omega), if_neg (by rw [rest_head hps, h32]; simp)])
                  clear h32 HI HU3
                  go_wp2_with (at_builtin; go_must (refine wpList_app rfl (.tmp 83) (.tmp 87) _ rfl w.heap.size 146 i0 _ 2 8 Tryz.underlying111 hi0 hz0 hz1 hz2 rfl (by omega) A n c (l.map encR) rfl (ho1.alloc _) _ 1 1 [encR (lo, lo)] rfl rfl (Rd.newAt (by simp) rfl) (encR_ok [(lo, lo)]) (by unfold maxLen; omega) (by omega) (by simp; omega) ?_); intro A3 c3 w3 ho3 hg3 hA3; have hb3 := below_app (hB1.alloc hbs1 (.cells #[.int .i32 lo, .int .i32 lo] 146)) hg3 (by simp; omega) (fun a ha => (ho1.lt a ha).1); clear hg3)
                  have Ho3 : Own w3 w.heap.size 146 2 A3 (n + 1) c3 ((l ++ [(lo, lo)]).map encR) := by rw [List.map_append]; exact ho3
                  clear ho3
                  go_roundw
                  case rel => exact ⟨p, l ++ [(lo, lo)], A3, n + 1, c3, rfl, rfl, by omega, by omega, HF, Ho3, hb3⟩
                  case measure => simp [intOf]; omega
                · have hq2 : (((s[p]'hps).toNat : Int) != 32) = true := byte_ne (n := 32) h32
                  have HF : Hid (parseP s = .error (21, p)) := Lib.hid (by obtain ⟨f, _, h⟩ := HI.out; rw [h, HU3.out, if_neg (by omega), if_pos (by rw [rest_head hps]; simpa using h32)])
                  clear h32 HI HU3
                  go_wp2
                  go_ret3
                  exact ⟨hB1, ParseEnd.err HF.out⟩
            · have HU3 : Hid (itemP s a = if lo < lo then .error (20, a) else if (rest s p).head? ≠ none ∧ (rest s p).head? ≠ some 32 then .error (21, p) else .ok ((lo, lo), p)) := Lib.hid (HU.out.trans (by simp only [if_neg (show ¬ (rest s p).head? = some 45 by rw [rest_none (by omega)]; simp)]))
              clear HU
              have HF : Hid (∃ f, ParseAt s f p (l ++ [(lo, lo)])) := Lib.hid (by
                obtain ⟨f, h0, h⟩ := HI.out
                refine ⟨f, ?_, by omega, by omega⟩
                rw [h, HU3.out, if_neg (by omega), if_neg (by rw [rest_none (by omega)]; simp)])
              clear HI HU3
              go_wp2_with (at_builtin; go_must (refine wpList_app rfl (.tmp 83) (.tmp 87) _ rfl w.heap.size 146 i0 _ 2 8 Tryz.underlying111 hi0 hz0 hz1 hz2 rfl (by omega) A n c (l.map encR) rfl (ho1.alloc _) _ 1 1 [encR (lo, lo)] rfl rfl (Rd.newAt (by simp) rfl) (encR_ok [(lo, lo)]) (by unfold maxLen; omega) (by omega) (by simp; omega) ?_); intro A3 c3 w3 ho3 hg3 hA3; have hb3 := below_app (hB1.alloc hbs1 (.cells #[.int .i32 lo, .int .i32 lo] 146)) hg3 (by simp; omega) (fun a ha => (ho1.lt a ha).1); clear hg3)
              have Ho3 : Own w3 w.heap.size 146 2 A3 (n + 1) c3 ((l ++ [(lo, lo)]).map encR) := by rw [List.map_append]; exact ho3
              clear ho3
              go_roundw
              case rel => exact ⟨p, l ++ [(lo, lo)], A3, n + 1, c3, rfl, rfl, by omega, by omega, HF, Ho3, hb3⟩
              case measure => simp [intOf]; omega
      · obtain rfl : a = s.size := by omega
        have HF : Hid (parseP s = .ok l) := Lib.hid (by obtain ⟨f, h1, _, _⟩ := HP.out; rw [← h1, parseGo_done])
        clear HP
        go_wp2_with fail
        refine (sNorm_any A n c l _ (ho.rd (by omega)) (by simpa using ho.len) (by omega)).mono ?_
        rintro e w2 ⟨A4, n4, c4, rfl, ho2, hb2⟩
        go_wp2
        go_ret3
        exact ⟨below_step hb hb2 hbs, ParseEnd.fine HF.out (ho2.more hbs)⟩
end Go.Proofs.YthlnfefpdmecaaaGreatDoor

/-
  slices.Equal, IndexFunc, ContainsFunc as runes calls them; runes.Is, Has.
-/
namespace Go.Proofs.YthlnfefpdmecaaaGreatDoor
open Go.RowKit
attribute [local go_sem ↓] neqR eqlR

theorem memR_take_succ {l : List (Int × Int)} {k : Nat} {x : Int × Int} (h : l[k]? = some x) (r : Int) : memR (l.take (k + 1)) r ↔ memR (l.take k) r ∨ (x.1 ≤ r ∧ r ≤ x.2) := by
  rw [List.take_add_one, h, memR_append, Option.toList_some, memR_cons]; simp [memR_nil]

end Go.Proofs.YthlnfefpdmecaaaGreatDoor

/-
  slices.Grow, Concat as runes calls them; runes.Or, Not, And, Minus.
-/
namespace Go.Proofs.YthlnfefpdmecaaaGreatDoor
open Go.RowKit

theorem lGrow_any (s : Int) (w : World) (h0 : 0 ≤ s) (hs : s ≤ 4000000) :
    Calls Tryz.prog 246 #[.slice none 0 0, .int .i64 s] w fun e w' => ∃ A c, e = .returned (.slice A 0 c) ∧ Own w' w.heap.size 146 2 A 0 c [] ∧ RowKit.Below w.heap.size w w' := by
  obtain ⟨n, rfl⟩ := Int.eq_ofNat_of_zero_le h0
  obtain ⟨i0, hi0, hz0, hz1, hz2⟩ := info_parts infoR
  rcases Nat.eq_zero_or_pos n with hn | hn
  · subst hn
    have h := Any8.slices_Grow_room Tryz.growR none 0 0 0 w (by omega) (by omega) (by omega) (by omega)
    change Calls Tryz.prog 246 _ _ _ at h
    refine h.mono ?_
    rintro e w' ⟨rfl, rfl⟩
    exact ⟨none, 0, rfl, Own.nil_ _ _ _ _, RowKit.Below.refl _ _⟩
  · have h := Any8.slices_Grow_grow Tryz.growR i0 _ hi0 hz0 (by omega) none 0 0 n [] w (by omega) (by omega) (by rw [hz2]; omega) (by omega) (by simp) (fun _ => rfl) (fun a h => by cases h)
    change Calls Tryz.prog 246 _ _ _ at h
    refine h.mono ?_
    rintro e w' ⟨rfl, rfl⟩
    have hge := grownCap_ge w (0 + n) 0 146
    refine ⟨_, _, rfl, ⟨rfl, by simp, by simp, .inr ⟨w.heap.size, _, _, rfl, Nat.le_refl _, heap_alloc_new _ _, Nat.zero_le _, grownCap_le_maxLen _ _ _ _ (by unfold maxLen; omega), ?_, by simp⟩⟩, ((RowKit.Below.refl _ _).drew).alloc (Nat.le_refl _) _⟩
    simp [size_zeroCells, Value.cells]
    rw [Nat.zero_add] at hge
    change n ≤ grownCap w n 0 (Tryz.growR_ren.t 25) at hge
    generalize grownCap w n 0 (Tryz.growR_ren.t 25) = q at *
    omega

set_option maxRecDepth 100000 in
set_option maxHeartbeats 800000 in
theorem lConcat_any (A A2 : Option Addr) (b n c n2 c2 : Nat) (x y : List (Int × Int)) (w : World) (hA : Rd w 2 A (x.map encR)) (hB : Rd w 2 A2 (y.map encR)) (hx : x.length = n) (hy : y.length = n2) (hn : n + n2 ≤ 4000000)
    (h0 : w.cell? ⟨b, 0, none⟩ = some (.slice A n c)) (h1 : w.cell? ⟨b, 1, none⟩ = some (.slice A2 n2 c2)) :
    Calls Tryz.prog 222 #[.slice (some ⟨b, 0, none⟩) 2 2] w fun e w' => ∃ A' c', e = .returned (.slice A' (n + n2) c') ∧ Own w' w.heap.size 146 2 A' (n + n2) c' ((x ++ y).map encR) ∧ RowKit.Below w.heap.size w w' := by
  obtain ⟨i0, hi0, hz0, hz1, hz2⟩ := info_parts infoR
  have Hx := Lib.hid hx
  have Hy := Lib.hid hy
  clear hx hy
  go_enter Tryz.func222, Tryz.ntmps222
  go_wp2
  go_loop [3, 11] (fun v i => (v = .int .i64 0 ∧ i = .int .i64 0) ∨ (v = .int .i64 n ∧ i = .int .i64 1) ∨ (v = .int .i64 (n + n2) ∧ i = .int .i64 2)) (fun _ i => 2 - (intOf i).toNat)
  case atStart => exact .inl ⟨rfl, rfl⟩
  case round =>
    rcases hrel with ⟨rfl, rfl⟩ | ⟨rfl, rfl⟩ | ⟨rfl, rfl⟩
    · go_wp2
      go_round
      case rel => exact .inr (.inl ⟨rfl, rfl⟩)
      case measure => simp [intOf]
    · go_wp2
      go_round
      case rel => exact .inr (.inr ⟨rfl, rfl⟩)
      case measure => simp [intOf]
    · go_wp2_with fail
      refine (lGrow_any (n + n2) w (by omega) (by omega)).mono ?_
      rintro e w1 ⟨A3, c3, rfl, ho1, hb1⟩
      have g0 := cell_keep h0 hb1
      have g1 := cell_keep h1 hb1
      have hA' := hA.below hb1
      have hB' := hB.below hb1
      have ho1 : Own w1 w.heap.size 146 2 A3 0 c3 [] := ho1
      go_wp2
      go_loopw [6, 27] (fun v i wr => ∃ (A4 : Option Addr) (n4 c4 : Nat) (o : List (Int × Int)), v = .slice A4 n4 c4 ∧ Own wr w.heap.size 146 2 A4 n4 c4 (o.map encR) ∧ RowKit.Below w.heap.size w wr ∧
          ((i = .int .i64 0 ∧ n4 = 0 ∧ Hid (o = [])) ∨ (i = .int .i64 1 ∧ n4 = n ∧ Hid (o = x)) ∨ (i = .int .i64 2 ∧ n4 = n + n2 ∧ Hid (o = x ++ y)))) (fun _ i _ => 2 - (intOf i).toNat)
      case atStart => exact ⟨A3, 0, c3, [], rfl, ho1, hb1, .inl ⟨rfl, rfl, rfl⟩⟩
      case round =>
        clear ho1 hb1 g0 g1 hA' hB'
        obtain ⟨A4, n4, c4, o, rfl, ho, hb, hrel⟩ := hrel
        have g0 := cell_keep h0 hb
        have g1 := cell_keep h1 hb
        have hA' := hA.below hb
        have hB' := hB.below hb
        rcases hrel with ⟨rfl, rfl, HO⟩ | ⟨rfl, rfl, HO⟩ | ⟨rfl, rfl, HO⟩
        · go_wp2_with (at_builtin; go_must (refine wpList_app rfl (.tmp 31) (.tmp 32) _ rfl w.heap.size 146 i0 _ 2 8 Tryz.underlying111 hi0 hz0 hz1 hz2 rfl (by omega) A4 0 c4 (o.map encR) rfl ho A n c (x.map encR) rfl (by simpa using Hx.out) hA' (encR_ok x) (by unfold maxLen; omega) (by omega) hb.size ?_); intro A5 c5 w5 ho5 hg5 hA5; have hb5 := below_app hb hg5 hb.size (fun a ha => (ho.lt a ha).1); clear hg5)
          have Ho5 : Own w5 w.heap.size 146 2 A5 n c5 (x.map encR) := by have := HO.out; subst this; simpa using ho5
          clear ho5
          go_roundw
          case rel => exact ⟨A5, n, c5, x, rfl, Ho5, hb5, .inr (.inl ⟨rfl, rfl, rfl⟩)⟩
          case measure => simp [intOf]
        · go_wp2_with (at_builtin; go_must (refine wpList_app rfl (.tmp 31) (.tmp 32) _ rfl w.heap.size 146 i0 _ 2 8 Tryz.underlying111 hi0 hz0 hz1 hz2 rfl (by omega) A4 n4 c4 (o.map encR) rfl ho A2 n2 c2 (y.map encR) rfl (by simpa using Hy.out) hB' (encR_ok y) (by unfold maxLen; omega) (by omega) hb.size ?_); intro A5 c5 w5 ho5 hg5 hA5; have hb5 := below_app hb hg5 hb.size (fun a ha => (ho.lt a ha).1); clear hg5)
          have Ho5 : Own w5 w.heap.size 146 2 A5 (n4 + n2) c5 ((x ++ y).map encR) := by have := HO.out; subst this; simpa using ho5
          clear ho5
          go_roundw
          case rel => exact ⟨A5, n4 + n2, c5, x ++ y, rfl, Ho5, hb5, .inr (.inr ⟨rfl, rfl, rfl⟩)⟩
          case measure => simp [intOf]
        · go_wp2
          go_ret
          exact ⟨A4, c4, rfl, by have := HO.out; subst this; exact ho, hb⟩

set_option maxHeartbeats 400000 in
theorem rOr_any (A A2 : Option Addr) (n c n2 c2 : Nat) (a b : List (Int × Int)) (w : World) (hA : Rd w 2 A (a.map encR)) (hB : Rd w 2 A2 (b.map encR)) (ha : a.length = n) (hb : b.length = n2) (hn : n + n2 ≤ 4000000) :
    Calls Tryz.prog 185 #[.slice A n c, .slice A2 n2 c2] w fun e w' => ∃ A' n' c', e = .returned (.slice A' n' c') ∧ Own w' w.heap.size 146 2 A' n' c' ((orR a b).map encR) ∧ RowKit.Below w.heap.size w w' := by
  have Ha := Lib.hid ha
  have Hb := Lib.hid hb
  clear ha hb
  go_enter Tryz.func185, Tryz.ntmps185
  go_wp2_with fail
  refine (lConcat_any A A2 w.heap.size n c n2 c2 a b _ (hA.alloc _) (hB.alloc _) Ha.out Hb.out hn (by simp) (by simp)).mono ?_
  rintro e w1 ⟨A3, c3, rfl, ho1, hb1⟩
  have hb1' : RowKit.Below w.heap.size w w1 := below_two ((RowKit.Below.refl _ _).alloc (Nat.le_refl _) _) hb1
  have hrd := ho1.rd (by omega)
  clear hb1
  go_wp2_with fail
  refine (rNorm_any A3 (n + n2) c3 (a ++ b) _ hrd (by rw [List.length_append, Ha.out, Hb.out]) hn).mono ?_
  rintro e w2 ⟨A4, n4, c4, rfl, ho2, hb2⟩
  go_wp2
  go_ret
  exact ⟨_, _, _, rfl, ho2.more hb1'.size, below_two hb1' hb2⟩

set_option maxHeartbeats 400000 in
theorem rNot_any (A : Option Addr) (n c : Nat) (l : List (Int × Int)) (w : World) (hA : Rd w 2 A (l.map encR)) (hl : l.length = n) (hn : n ≤ 4000000) :
    Calls Tryz.prog 188 #[.slice A n c] w fun e w' => ∃ A' n' c', e = .returned (.slice A' n' c') ∧ Own w' w.heap.size 146 2 A' n' c' ((notR l).map encR) ∧ RowKit.Below w.heap.size w w' := by
  obtain ⟨i0, hi0, hz0, hz1, hz2⟩ := info_parts infoR
  have Hl := Lib.hid hl
  clear hl
  have HNF := Lib.hid (normR_NF l)
  go_enter Tryz.func188, Tryz.ntmps188
  go_wp2_with (go_at_call 220; go_must (refine (rNorm_any A n c l _ hA Hl.out hn).mono ?_); rintro e w1 ⟨A1, n1, c1, rfl, ho1, hb1⟩)
  have hn1 := own_nf_len ho1 HNF.out
  have hrd := ho1.rd (by omega)
  have Hn1 : Hid ((normR l).length = n1) := Lib.hid (by simpa using ho1.len)
  have hbs1 := hb1.size
  clear ho1
  go_loopw [3, 4, 10] (fun v x i wr => ∃ (k : Nat) (A2 : Option Addr) (n2 c2 : Nat) (o : List (Int × Int)) (next : Int), k ≤ n1 ∧ n2 ≤ k ∧ v = .slice A2 n2 c2 ∧ x = .int .i32 next ∧ i = .int .i64 k ∧ 0 ≤ next ∧ next ≤ 1114112 ∧
      Own wr w1.heap.size 146 2 A2 n2 c2 (o.map encR) ∧ Hid (o ++ notGo next ((normR l).drop k) = notR l) ∧ RowKit.Below w1.heap.size w1 wr) (fun _ _ i _ => n1 - (intOf i).toNat)
  case atStart => exact ⟨0, none, 0, 0, [], 0, by omega, by omega, rfl, rfl, rfl, by omega, by omega, Own.nil_ _ _ _ _, rfl, RowKit.Below.refl _ _⟩
  case round =>
    obtain ⟨k, A2, n2, c2, o, next, hk, hn2, rfl, rfl, rfl, hx0, hx1, ho, HO, hb⟩ := hrel
    have hbs := hb.size
    by_cases hlt : k < n1
    · obtain ⟨b, off, lo, hi, rfl, Hx, hc1, hc2⟩ := hrd.atR (k := k) (by have := Hn1.out; omega)
      have hr1 := cell_keep hc1 hb
      have hr2 := cell_keep hc2 hb
      obtain ⟨hb0, hb1', hb2⟩ : 0 ≤ lo ∧ lo ≤ hi ∧ hi ≤ 1114111 := by
        have hm := List.mem_of_getElem? Hx.out
        have := HNF.out.2 _ hm; have := Nf_le HNF.out.1 _ hm; simp only at *; omega
      have HD := Lib.hid (drop_cons_of Hx.out)
      have hbox := hb.alloc hbs (.cells #[.int .i32 lo, .int .i32 hi] 146)
      by_cases hc : next < lo
      · go_wp2_with (at_builtin; go_must (refine wpList_app rfl (.tmp 18) (.tmp 24) _ rfl w1.heap.size 146 i0 _ 2 8 Tryz.underlying111 hi0 hz0 hz1 hz2 rfl (by omega) A2 n2 c2 (o.map encR) rfl ((ho.alloc _).alloc _) _ 1 1 [encR (next, lo - 1)] rfl rfl (Rd.newAt (by simp) rfl) (encR_ok [(next, lo - 1)]) (by unfold maxLen; omega) (by omega) (by simp; omega) ?_); intro A3 c3 w3 ho3 hg3 hA3; have hb3 := below_app (hbox.alloc (by simp; omega) (.cells #[.int .i32 next, .int .i32 (lo - 1)] 146)) hg3 (by simp; omega) (fun a ha => (ho.lt a ha).1); have h3 : w3.cell? ⟨wr.heap.size, 1, none⟩ = some (.int .i32 hi) := (hg3.cell (by simp [World.cell?_alloc_past]) (fun e => by cases A2 with | none => simp at e | some a => have := (ho.lt a rfl).2; simp at e; omega)); clear hg3)
        have Ho3 : Own w3 w1.heap.size 146 2 A3 (n2 + 1) c3 ((o ++ [(next, lo - 1)]).map encR) := by rw [List.map_append]; exact ho3
        clear ho3
        go_roundw
        case rel => exact ⟨k + 1, A3, n2 + 1, c3, o ++ [(next, lo - 1)], hi + 1, by omega, by omega, rfl, rfl, by go_num, by omega, by omega, Ho3, Lib.hid (by rw [← HO.out, HD.out, notGo_cons, if_pos hc, List.append_assoc]), hb3⟩
        case measure => simp [intOf]; omega
      · have hge : lo ≤ next := by omega
        go_wp2
        go_roundw
        case rel => exact ⟨k + 1, A2, n2, c2, o, hi + 1, by omega, by omega, rfl, rfl, by go_num, by omega, by omega, ho.alloc _, Lib.hid (by rw [← HO.out, HD.out, notGo_cons, if_neg hc, List.nil_append]), hbox⟩
        case measure => simp [intOf]; omega
    · have Hdr : Hid ((normR l).drop k = []) := Lib.hid (List.drop_of_length_le (by have := Hn1.out; omega))
      by_cases hc : next ≤ 1114111
      · go_wp2_with (at_builtin; go_must (refine wpList_app rfl (.tmp 32) (.tmp 35) _ rfl w1.heap.size 146 i0 _ 2 8 Tryz.underlying111 hi0 hz0 hz1 hz2 rfl (by omega) A2 n2 c2 (o.map encR) rfl (ho.alloc _) _ 1 1 [encR (next, 1114111)] rfl rfl (Rd.newAt (by simp) rfl) (encR_ok [(next, 1114111)]) (by unfold maxLen; omega) (by omega) (by simp; omega) ?_); intro A3 c3 w3 ho3 hg3 hA3; have hb3 := below_app (hb.alloc hbs (.cells #[.int .i32 next, .int .i32 1114111] 146)) hg3 (by simp; omega) (fun a ha => (ho.lt a ha).1); clear hg3)
        have Ho3 : Own w3 w1.heap.size 146 2 A3 (n2 + 1) c3 ((o ++ [(next, 1114111)]).map encR) := by rw [List.map_append]; exact ho3
        clear ho3
        go_ret
        exact ⟨_, _, _, rfl, by have := HO.out; rw [Hdr.out, notGo_nil, if_pos hc] at this; rw [← this]; exact Ho3.more hbs1, below_step hb1 hb3 hbs1⟩
      · obtain rfl : next = 1114112 := by omega
        have HE : Hid (o = notR l) := Lib.hid (by have := HO.out; rw [Hdr.out, notGo_nil, if_neg hc, List.append_nil] at this; exact this)
        clear hc hx1 hx0
        go_wp2
        go_ret
        exact ⟨_, _, _, rfl, by rw [← HE.out]; exact ho.more hbs1, below_step hb1 hb hbs1⟩

end Go.Proofs.YthlnfefpdmecaaaGreatDoor

