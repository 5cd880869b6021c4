/-
  Several texts in one, in their build order: PropsU, PropsV, PropsW, PropsX, PropsL, DbK, Dw, DbM, WP, WP2, WP3, DbX, RefB, RefC, RefD, RefT, PropsY, Fmt, LinQ, GraP, GraQ.
-/
import Derived.KernelRfl
import Derived.Maps.OwnSet
import Derived.Maps.OwnOps
import Derived.Lib.OthersKept
import Derived.Deep.DeepMust
import Derived.Lib.Replace
import Derived.Lib.IndexBytes
import Derived.Deep.LoopGhost
import Derived.Lib.ConvBytes
import Derived.Laws.Bits64b
import Derived.Test.YtinfnfgflcjfmaaGreatDoorZ1a
import Derived.Test.YtinfnfgflcjfmaaGreatDoorZ0a
import Derived.Test.YtinfnfgflcjfmaaGreatDoorZRefA
/-
  PLAIN: the text of a database; read again it is the same one; how long it is. No walk.
-/
namespace Go.Proofs.YtinfnfgflcjfmaaGreatDoor

/-- A set's spelling, a blank behind each range. -/
def setT : List (Int × Int) → List UInt8
  | [] => []
  | x :: r => itemT x ++ 32 :: setT r
theorem setT_eq : ∀ (l : List (Int × Int)), setT l = printL l ++ (if l = [] then [] else [32])
  | [] => rfl
  | [x] => by simp [setT, printL]
  | x :: y :: r => by
    have ih := setT_eq (y :: r)
    rw [setT, ih, printL]; simp
theorem setT_len : ∀ (l : List (Int × Int)), (setT l).length ≤ 18 * l.length
  | [] => by simp [setT]
  | x :: r => by have := itemT_len x; have := setT_len r; rw [setT, List.length_append, List.length_cons, List.length_cons]; omega
theorem parse_set {s : ByteArray} : ∀ (L : List (Int × Int)) (f a : Nat) (acc : List (Int × Int)), (∀ x ∈ L, 0 ≤ x.1 ∧ x.1 ≤ x.2 ∧ x.2 ≤ 1114111) → rest s a = setT L → 2 * L.length < f + 1 → parseGo s f a acc = .ok (acc ++ L)
  | [], f, a, acc, _, h, hf => by
    cases f with
    | zero => simp [parseGo]
    | succ f => unfold parseGo; rw [h]; simp [setT]
  | x :: L, f, a, acc, hb, h, hf => by
    obtain ⟨f, rfl⟩ : ∃ g, f = g + 1 := ⟨f - 1, by simp at hf; omega⟩
    have hx := hb x (by simp)
    have h' : rest s a = itemT x ++ 32 :: setT L := h
    have k := itemP_item h' hx.1 hx.2.1 hx.2.2 (by simp)
    have kr := rest_add h'
    unfold parseGo
    rw [h', itemT_head]; simp only
    rw [if_neg (by decide), k]
    simp only
    obtain ⟨f, rfl⟩ : ∃ g, f = g + 1 := ⟨f - 1, by simp at hf; omega⟩
    unfold parseGo
    rw [kr]; simp only [List.head?_cons, if_true]
    have := parse_set L f (a + (itemT x).length + 1) (acc ++ [x]) (fun z hz => hb z (by simp [hz])) (rest_add (d := [32]) (by rw [kr]; rfl)) (by simp only [List.length_cons] at hf ⊢; omega)
    rw [this]; simp
theorem setT_ge : ∀ (l : List (Int × Int)), 2 * l.length ≤ (setT l).length
  | [] => by simp [setT]
  | x :: r => by
    have ih := setT_ge r
    rw [setT, List.length_append, List.length_cons, List.length_cons]
    unfold itemT spellP; simp only [List.length_append, List.length_cons]; omega
/-- Bytes that part nothing. -/
def OkB (c : UInt8) : Prop := c ≠ 35 ∧ c ≠ 39 ∧ c ≠ 59 ∧ c ≠ 10 ∧ c ≠ 9
theorem hexS_ok (n : Nat) : ∀ c ∈ hexS n, OkB c := fun c hc => by
  have := of_decide_eq_true (show isHexN (c.toNat : Int) = true from hexW_all _ _ c hc)
  refine ⟨?_, ?_, ?_, ?_, ?_⟩ <;> (rintro rfl; simp at this)
theorem spellP_ok (r : Int) : ∀ c ∈ spellP r, OkB c := fun c hc => by
  rcases List.mem_append.1 hc with hc | hc
  · simp only [List.mem_cons, List.not_mem_nil, or_false] at hc
    rcases hc with rfl | rfl <;> (unfold OkB; decide)
  · exact hexS_ok _ c hc
theorem itemT_ok (x : Int × Int) : ∀ c ∈ itemT x, OkB c := fun c hc => by
  rcases List.mem_append.1 hc with hc | hc
  · exact spellP_ok _ c hc
  · split at hc
    · simp at hc
    · rcases List.mem_cons.1 hc with rfl | hc
      · (unfold OkB; decide)
      · exact spellP_ok _ c hc
theorem setT_ok : ∀ (l : List (Int × Int)), ∀ c ∈ setT l, OkB c
  | [], c, hc => by simp [setT] at hc
  | x :: r, c, hc => by
    rcases List.mem_append.1 hc with hc | hc
    · exact itemT_ok x c hc
    · rcases List.mem_cons.1 hc with rfl | hc
      · (unfold OkB; decide)
      · exact setT_ok r c hc
theorem spcL_ok {l : List UInt8} (h : ∀ c ∈ l, OkB c) : spcL l = l := by
  unfold spcL
  conv => rhs; rw [← List.map_id l]
  refine List.map_congr_left fun c hc => ?_
  rw [if_neg (h c hc).2.2.2.2]; rfl
theorem parse_setT {l : List (Int × Int)} (h : NF l) : parseE (spcL (setT l)) = .ok l := by
  rw [spcL_ok (setT_ok l)]
  unfold parseE parseP
  have := parse_set (s := bytesOf (setT l)) l ((bytesOf (setT l)).size + 1) 0 [] (fun x hx => by have := h.2 x hx; have := Nf_le h.1 x hx; omega) (by unfold rest; rw [bytesOf_list, List.drop_zero]) (by rw [bytesOf_size]; have := setT_ge l; omega)
  rw [this]; rfl
theorem part_ok {c : UInt8} (h : partB c = true) : OkB c ∧ blkB c = false := by
  refine ⟨⟨?_, ?_, ?_, ?_, ?_⟩, ?_⟩
  · rintro rfl; exact absurd h (by decide)
  · rintro rfl; exact absurd h (by decide)
  · rintro rfl; exact absurd h (by decide)
  · rintro rfl; exact absurd h (by decide)
  · rintro rfl; exact absurd h (by decide)
  · cases hb : blkB c with
    | false => rfl
    | true =>
      exfalso
      simp only [blkB, Bool.or_eq_true, beq_iff_eq] at hb
      rcases hb with rfl | rfl
      · exact absurd h (by decide)
      · exact absurd h (by decide)
theorem name_part {n : List UInt8} (h : nameL n = true) : n ≠ [] ∧ n.length ≤ 32 ∧ ∀ c ∈ n, partB c = true := by
  cases n with
  | nil => cases h
  | cons x r =>
    simp only [nameL, Bool.and_eq_true, decide_eq_true_eq, List.all_eq_true] at h
    refine ⟨by simp, by simp only [List.length_cons]; omega, fun c hc => ?_⟩
    rcases List.mem_cons.1 hc with rfl | hc
    · unfold partB; rw [h.1.1]; rfl
    · exact h.1.2 c hc
theorem name_bare {n : List UInt8} (h : nameL n = true) : Bare n := by
  obtain ⟨h1, _, h3⟩ := name_part h
  refine .inr ⟨⟨n.head h1, by rw [List.head?_eq_some_head h1], (part_ok (h3 _ (List.head_mem h1))).2⟩, ⟨n.getLast h1, by rw [List.getLast?_eq_some_getLast h1], (part_ok (h3 _ (List.getLast_mem h1))).2⟩⟩
/-- What a class says as a line. -/
def lineT (s : List (Int × Int)) (n : List UInt8) : List UInt8 := setT s ++ (59 :: 32 :: n)
theorem qtL_no {x : UInt8} {r : List UInt8} (h : x ≠ 39) : qtL (x :: r) = none := by rw [qtL_cons, if_neg (fun k => h k.1)]
theorem findP_none {c : UInt8} : ∀ {l : List UInt8}, (∀ x ∈ l, x ≠ 39 ∧ x ≠ c) → findP c l = none
  | [], _ => rfl
  | x :: r, h => by rw [findP_cons (qtL_no (h x (by simp)).1), if_neg (h x (by simp)).2, findP_none (fun y hy => h y (by simp [hy]))]; rfl
theorem findP_first {c : UInt8} (hc : c ≠ 39) (r : List UInt8) : ∀ {l : List UInt8}, (∀ x ∈ l, x ≠ 39 ∧ x ≠ c) → findP c (l ++ c :: r) = some l.length
  | [], _ => by rw [List.nil_append, findP_cons (qtL_no hc), if_pos rfl]; rfl
  | x :: l, h => by rw [List.cons_append, findP_cons (qtL_no (h x (by simp)).1), if_neg (h x (by simp)).2, findP_first hc r (fun y hy => h y (by simp [hy]))]; rfl
theorem lineT_ok {s : List (Int × Int)} {n : List UInt8} (h : nameL n = true) : ∀ c ∈ lineT s n, c ≠ 35 ∧ c ≠ 39 ∧ c ≠ 10 := fun c hc => by
  rcases List.mem_append.1 hc with hc | hc
  · have := setT_ok s c hc; exact ⟨this.1, this.2.1, this.2.2.2.1⟩
  · simp only [List.mem_cons] at hc
    rcases hc with rfl | rfl | hc
    · decide
    · decide
    · have := (part_ok ((name_part h).2.2 c hc)).1; exact ⟨this.1, this.2.1, this.2.2.2.1⟩
theorem lineT_bare {s : List (Int × Int)} {n : List UInt8} (h : nameL n = true) : Bare (lineT s n) := by
  obtain ⟨h1, _, h3⟩ := name_part h
  refine .inr ⟨?_, ⟨n.getLast h1, ?_, (part_ok (h3 _ (List.getLast_mem h1))).2⟩⟩
  · cases s with
    | nil => exact ⟨59, rfl, by decide⟩
    | cons x r => exact ⟨85, by unfold lineT setT; rw [List.append_assoc, itemT_head], by decide⟩
  · unfold lineT
    rw [List.getLast?_append, List.getLast?_cons_cons, List.getLast?_cons, List.getLast?_eq_some_getLast h1]; simp
theorem line_says {s : List (Int × Int)} {n : List UInt8} (h : nameL n = true) : lineP (lineT s n) = .says n (setT s) := by
  unfold lineP hashP
  rw [findP_none (fun c hc => ⟨(lineT_ok h c hc).2.1, (lineT_ok h c hc).1⟩), Option.getD_none, List.take_length]
  have ht : trimL (lineT s n) = lineT s n := by
    have := trim_unique (b := []) (u := lineT s n) (e := []) (by simp) (by simp) (lineT_bare h)
    simpa using this
  simp only
  rw [ht, if_neg (by unfold lineT; simp)]
  have hf : findP 59 (lineT s n) = some (setT s).length := by
    unfold lineT
    exact findP_first (by decide) _ fun c hc => ⟨(setT_ok s c hc).2.1, (setT_ok s c hc).2.2.1⟩
  rw [hf]
  simp only
  congr 1
  · unfold lineT
    rw [← List.drop_drop, List.drop_left, List.drop_one, List.tail_cons]
    have := trim_unique (b := [32]) (u := n) (e := []) (by simp [blkB]) (by simp) (name_bare h)
    simpa using this
  · unfold lineT; rw [List.take_left]

/-- The text of classes. -/
def textG : List (List UInt8) → List (List (Int × Int)) → List UInt8
  | n :: N, s :: S => lineT s n ++ 10 :: textG N S
  | _, _ => []
def DbP.text (d : DbP) : List UInt8 := textG d.names.tail d.sets.tail
theorem splitL_line {x r : List UInt8} (h : ∀ c ∈ x, c ≠ 10) : splitL (x ++ 10 :: r) = x :: splitL r := by
  induction x with
  | nil => rw [List.nil_append]; show (if (10 : UInt8) = 10 then _ else _) = _; rw [if_pos rfl]
  | cons c x ih =>
    rw [List.cons_append]
    show (if c = 10 then _ else _) = _
    rw [if_neg (h c (by simp)), ih (fun d hd => h d (by simp [hd]))]
theorem split_text : ∀ {N : List (List UInt8)} {S : List (List (Int × Int))}, (∀ n ∈ N, nameL n = true) → splitL (textG N S) = (List.zipWith lineT S N) ++ [[]]
  | [], S, _ => by cases S <;> rfl
  | n :: N, [], _ => rfl
  | n :: N, s :: S, h => by
    rw [textG, splitL_line (fun c hc => (lineT_ok (h n (by simp)) c hc).2.2), split_text (fun m hm => h m (by simp [hm]))]; rfl
/-- A class's line adds the class. -/
theorem step_line {d : DbP} {n : List UInt8} {s : List (Int × Int)} (hn : nameL n = true) (ho : n ≠ otherL) (hs : NF s) (hnew : n ∉ d.names) (hl : d.names.length < 64) (hnf : ∀ q ∈ d.sets, NF q) (hcl : ∀ q ∈ d.sets, ∀ r, memR q r → memR s r → False) :
    stepL d (lineT s n) = .ok ⟨d.names ++ [n], d.sets ++ [s]⟩ := by
  unfold stepL
  rw [line_says hn]
  simp only
  unfold addL
  rw [if_neg (by rintro (h | h); rw [hn] at h; cases h; exact ho h), parse_setT hs]
  simp only
  have h0 : d.num n = none := by
    cases h : d.num n with
    | none => rfl
    | some k => exact absurd (List.mem_of_getElem? (idxOf?_some h)) hnew
  rw [h0]
  simp only
  have hc : d.clash d.names.length (normR s) = false := by
    unfold DbP.clash
    rw [List.any_eq_false]
    intro k hk
    have hlt := List.mem_range.1 hk
    have hq : d.sets.getD k [] ∈ d.sets := by rw [List.getD_eq_getElem?_getD, List.getElem?_eq_getElem hlt]; exact List.getElem_mem hlt
    have : meetB (d.sets.getD k []) (normR s) = false := by
      cases hm : meetB (d.sets.getD k []) (normR s) with
      | false => rfl
      | true =>
        obtain ⟨r, h1, h2⟩ := (meetB_iff (hnf _ hq).1 (normR_nf s)).1 hm
        rw [normR_of_NF hs] at h2
        exact (hcl _ hq r h1 h2).elim
    rw [this]; simp
  rw [if_neg (by omega), hc, if_neg (by simp)]
  have : orR [] (normR s) = s := by unfold orR; rw [List.nil_append, normR_of_NF (normR_NF s), normR_of_NF hs]
  rw [this]
theorem lines_back : ∀ {N : List (List UInt8)} {S : List (List (Int × Int))} {d : DbP} {i : Nat}, S.length = N.length → (∀ n ∈ N, nameL n = true ∧ n ≠ otherL) → (d.names ++ N).Nodup → (d.names ++ N).length ≤ 64 → (∀ q ∈ d.sets ++ S, NF q) → Apart (d.sets ++ S) →
    linesGo d (List.zipWith lineT S N ++ [[]]) i = .ok ⟨d.names ++ N, d.sets ++ S⟩
  | [], S, d, i, hl, _, _, _, _, _ => by
    have : S = [] := List.eq_nil_of_length_eq_zero (by simpa using hl)
    subst this
    simp only [List.zipWith_nil_right, List.nil_append, List.append_nil]
    unfold linesGo
    have : stepL d [] = .ok d := rfl
    rw [this]; rfl
  | n :: N, [], d, i, hl, _, _, _, _, _ => by simp at hl
  | n :: N, s :: S, d, i, hl, hn, hd, h64, hq, ha => by
    rw [List.zipWith_cons_cons, List.cons_append]
    unfold linesGo
    have h1 := hn n (by simp)
    have hnew : n ∉ d.names := fun hm => by
      rw [List.nodup_append] at hd
      exact hd.2.2 n hm n (by simp) rfl
    rw [step_line h1.1 h1.2 (hq s (by simp)) hnew (by simp only [List.length_append, List.length_cons] at h64; omega) (fun q hqq => hq q (by simp [hqq])) (fun q hqq r ra rb => ?_)]
    · simp only
      have := lines_back (N := N) (S := S) (d := ⟨d.names ++ [n], d.sets ++ [s]⟩) (i := i + 1) (by simpa using hl) (fun m hm => hn m (by simp [hm])) (by simpa using hd) (by simpa using h64) (by simpa using hq) (by simpa using ha)
      rw [this]; simp
    · obtain ⟨k, hk, rfl⟩ := List.getElem_of_mem hqq
      exact ha k d.sets.length _ s (by rw [List.getElem?_append_left hk, List.getElem?_eq_getElem hk]) (by rw [List.getElem?_append_right (Nat.le_refl _), Nat.sub_self]; rfl) (by omega) r ra rb
def DbP.Named (d : DbP) : Prop := ∀ n ∈ d.names, nameL n = true
/-- What a database says as a text is read as the same. -/
theorem text_back {d : DbP} (h : d.Ok) (ha : Apart d.sets) (hn : d.Named) (hlen : d.text.length ≤ 65536) : newP d.text = .ok d := by
  obtain ⟨names, sets⟩ := d
  obtain ⟨h1, h2, h3, h4, h5, h6⟩ := h
  simp only at h1 h2 h3 h4 h5 h6
  cases names with
  | nil => simp at h4
  | cons n N =>
    cases sets with
    | nil => simp at h5
    | cons s S =>
      simp at h4 h5
      subst h4; subst h5
      unfold newP
      rw [if_neg (by omega)]
      unfold DbP.text
      simp only [List.tail_cons]
      rw [split_text (fun m hm => hn m (by simp [hm]))]
      refine lines_back (N := N) (S := S) (d := DbP.first) (i := 0) (by simpa using h1) (fun m hm => ⟨hn m (by simp [hm]), fun e => ?_⟩) h3 h6 h2 ha
      rw [List.nodup_cons] at h3
      exact h3.1 (e ▸ hm)

/- How long it is. -/
theorem addL_named {d d' : DbP} {n s : List UInt8} (h : d.Named) (ha : addL d n s = .ok d') : d'.Named := by
  unfold addL at ha
  split at ha
  · cases ha
  · rename_i hn
    split at ha
    · cases ha
    · split at ha
      · split at ha
        · cases ha
        · injection ha with ha; subst ha; exact h
      · split at ha
        · cases ha
        · split at ha
          · cases ha
          · injection ha with ha; subst ha
            intro m hm
            rcases List.mem_append.1 hm with hm | hm
            · exact h m hm
            · simp at hm; subst hm
              cases hb : nameL m with
              | true => rfl
              | false => exact absurd (.inl hb) hn
theorem linesGo_named : ∀ {L : List (List UInt8)} {d d' : DbP} {i : Nat}, d.Named → linesGo d L i = .ok d' → d'.Named
  | [], d, d', i, h, hs => by injection hs with hs; subst hs; exact h
  | l :: r, d, d', i, h, hs => by
    unfold linesGo at hs
    split at hs
    · cases hs
    · rename_i d2 h2
      refine linesGo_named ?_ hs
      unfold stepL at h2
      split at h2
      · injection h2 with h2; subst h2; exact h
      · cases h2
      · exact addL_named h h2
theorem newP_named {t : List UInt8} {d : DbP} (h : newP t = .ok d) : d.Named := by
  unfold newP at h
  split at h
  · cases h
  · exact linesGo_named (fun n hn => by simp [DbP.first] at hn; subst hn; decide) h
end Go.Proofs.YtinfnfgflcjfmaaGreatDoor

/-
  PLAIN: how long a database's text is; how many runes its classes have. No walk.
-/
namespace Go.Proofs.YtinfnfgflcjfmaaGreatDoor

theorem runeP_ge {s : ByteArray} {a q : Nat} {r : Int} (h : runeP s a = .ok (r, q)) : a + 3 ≤ q := by
  unfold runeP at h
  split at h
  · unfold numP at h
    split at h
    · cases h
    · split at h
      · cases h
      · injection h with h; injection h with _ h; omega
  · split at h
    · unfold quoP at h
      split at h
      · cases h
      · split at h
        · cases h
        · split at h
          · cases h
          · injection h with h; injection h with _ h; omega
    · cases h
theorem itemP_ge {s : ByteArray} {a q : Nat} {x : Int × Int} (h : itemP s a = .ok (x, q)) : a + 3 ≤ q ∧ q ≤ s.size ∧ ((rest s q).head? = none ∨ (rest s q).head? = some 32) := by
  have hq := (itemP_ok h).2
  unfold itemP at h
  cases h1 : runeP s a with
  | error e => rw [h1] at h; cases h
  | ok y =>
    obtain ⟨lo, p⟩ := y
    have b1 := runeP_ge h1
    rw [h1] at h
    by_cases h45 : (rest s p).head? = some 45
    · simp only [h45, if_true] at h
      cases h2 : runeP s (p + 1) with
      | error e => rw [h2] at h; cases h
      | ok z =>
        obtain ⟨hi, q'⟩ := z
        have b2 := runeP_ge h2
        rw [h2] at h
        simp only at h
        split at h
        · cases h
        · split at h
          · cases h
          · rename_i k
            injection h with h; injection h with _ h; subst h
            refine ⟨by omega, hq, ?_⟩
            cases hh : (rest s q').head? with
            | none => exact .inl rfl
            | some c => by_cases hc : c = 32
                        · exact .inr (by rw [hc])
                        · exact absurd ⟨by rw [hh]; simp, by rw [hh]; simpa using hc⟩ k
    · simp only [h45, if_false] at h
      split at h
      · cases h
      · split at h
        · cases h
        · rename_i k
          injection h with h; injection h with _ h; subst h
          refine ⟨b1, hq, ?_⟩
          cases hh : (rest s p).head? with
          | none => exact .inl rfl
          | some c => by_cases hc : c = 32
                      · exact .inr (by rw [hc])
                      · exact absurd ⟨by rw [hh]; simp, by rw [hh]; simpa using hc⟩ k
/-- Each item has three bytes at least, and a blank or the end behind it. -/
theorem parse_len {s : ByteArray} : ∀ (f a : Nat) (acc l : List (Int × Int)), a ≤ s.size → parseGo s f a acc = .ok l →
    4 * l.length + a ≤ 4 * acc.length + s.size + 1 ∧ ((rest s a).head? = none ∨ (rest s a).head? = some 32 → 4 * l.length + a + 1 ≤ 4 * acc.length + s.size + 1)
  | 0, a, acc, l, ha, h => by
    unfold parseGo at h; injection h with h; subst h; omega
  | f + 1, a, acc, l, ha, h => by
    unfold parseGo at h
    cases hc : (rest s a).head? with
    | none => rw [hc] at h; injection h with h; subst h; omega
    | some c =>
      rw [hc] at h
      have hlt : a < s.size := by
        rcases Nat.lt_or_ge a s.size with hlt | hge
        · exact hlt
        · rw [rest_none hge] at hc; simp at hc
      by_cases h32 : c = 32
      · simp only [h32, if_true] at h
        have ih := (parse_len f (a + 1) acc l (by omega) h).1
        omega
      · simp only [h32, if_false] at h
        cases hi : itemP s a with
        | error e => rw [hi] at h; cases h
        | ok y =>
          obtain ⟨x, q⟩ := y
          rw [hi] at h
          obtain ⟨k1, k2, k3⟩ := itemP_ge hi
          have ih := (parse_len f q (acc ++ [x]) l k2 h).2 k3
          simp only [List.length_append, List.length_singleton] at ih
          refine ⟨by omega, fun hh => ?_⟩
          rcases hh with hh | hh
          · cases hh
          · injection hh with hh; exact absurd hh h32
theorem parseE_len {s : List UInt8} {l : List (Int × Int)} (h : parseE (spcL s) = .ok l) : 4 * l.length ≤ s.length + 1 := by
  unfold parseE at h
  cases hp : parseP (bytesOf (spcL s)) with
  | error e => rw [hp] at h; cases h
  | ok m =>
    rw [hp] at h
    injection h with h; subst h
    have := (parse_len _ 0 [] m (Nat.zero_le _) hp).1
    rw [bytesOf_size] at this
    simp [spcL] at this
    omega
theorem mstepLen (o : List (Int × Int)) (x : Int × Int) : (mstep o x).length ≤ o.length + 1 := by
  rcases snoc_cases o with rfl | ⟨q, y, rfl⟩
  · simp [mstep]
  · rw [mstep_snoc]; split <;> simp
theorem mergeLen (s o : List (Int × Int)) : (s.foldl mstep o).length ≤ o.length + s.length := by
  induction s generalizing o with
  | nil => simp
  | cons x s ih => rw [List.foldl_cons]; have := ih (mstep o x); have := mstepLen o x; simp only [List.length_cons]; omega
theorem normLen (l : List (Int × Int)) : (normR l).length ≤ l.length := by
  have h := mergeLen ((keepR l).mergeSort fun a b => decide (a.1 ≤ b.1)) []
  have h2 : (keepR l).length ≤ l.length := by unfold keepR; refine Nat.le_trans (List.length_filter_le _ _) ?_; simp
  unfold normR mergeR
  rw [List.length_mergeSort] at h
  simp only [List.length_nil] at h; omega
theorem orLen (a b : List (Int × Int)) : (orR a b).length ≤ a.length + b.length := by
  have := normLen (a ++ b); rw [List.length_append] at this; exact this

def lenS {α : Type} : List (List α) → Nat
  | [] => 0
  | x :: r => x.length + lenS r
theorem lenS_append {α : Type} : ∀ (a b : List (List α)), lenS (a ++ b) = lenS a + lenS b
  | [], b => by simp [lenS]
  | x :: a, b => by rw [List.cons_append, lenS, lenS, lenS_append a b]; omega
theorem lenS_set {α : Type} (y : List α) : ∀ (S : List (List α)) (c : Nat), c < S.length → lenS (S.set c y) + (S.getD c []).length = lenS S + y.length
  | [], c, h => by simp at h
  | x :: S, 0, _ => by simp [lenS]; omega
  | x :: S, c + 1, h => by
    have := lenS_set y S c (by simpa using h)
    rw [List.set_cons_succ, lenS, lenS, List.getD_cons_succ]; omega
theorem trimL_len (l : List UInt8) : (trimL l).length ≤ l.length := by
  obtain ⟨b, e, h, _⟩ := trimL_parts l
  have := congrArg List.length h
  simp only [List.length_append] at this; omega
theorem says_len {l n s : List UInt8} (h : lineP l = .says n s) : s.length + n.length + 1 ≤ l.length := by
  unfold lineP at h
  simp only at h
  split at h
  · cases h
  · split at h
    · cases h
    · rename_i j hj
      injection h with h1 h2
      have hu := trimL_len (l.take (hashP l))
      have hl : (l.take (hashP l)).length ≤ l.length := by rw [List.length_take]; omega
      have hlt := (List.getElem?_eq_some_iff.1 (findP_lt _ _ (Nat.le_refl _) j hj)).1
      have hn := trimL_len ((trimL (l.take (hashP l))).drop (j + 1))
      rw [h1, List.length_drop] at hn
      rw [← h2, List.length_take]; omega
/-- What a database's text costs. -/
def DbP.cost (d : DbP) : Nat := 18 * lenS d.sets + lenS d.names + 3 * d.names.length
theorem textG_len : ∀ (N : List (List UInt8)) (S : List (List (Int × Int))), (textG N S).length ≤ 18 * lenS S + lenS N + 3 * N.length
  | [], S => by cases S <;> simp [textG]
  | n :: N, [] => by simp [textG]
  | n :: N, s :: S => by
    have h1 := textG_len N S; have h2 := setT_len s
    rw [textG, List.length_append, List.length_cons, lineT, List.length_append, List.length_cons, List.length_cons, lenS, lenS, List.length_cons]; omega
theorem text_cost {d : DbP} (h : d.Ok) : d.text.length + 8 ≤ d.cost := by
  obtain ⟨names, sets⟩ := d
  obtain ⟨h1, h2, h3, h4, h5, h6⟩ := h
  simp only at h1 h2 h3 h4 h5 h6
  cases names with
  | nil => simp at h4
  | cons n N =>
    cases sets with
    | nil => simp at h5
    | cons s S =>
      simp at h4 h5
      subst h4; subst h5
      have := textG_len N S
      unfold DbP.text DbP.cost
      simp only [List.tail_cons, lenS, List.length_cons, List.length_nil, otherL]
      omega
theorem addL_cost {d d' : DbP} {n s : List UInt8} (ho : d.Ok) (h : addL d n s = .ok d') : 2 * d'.cost ≤ 2 * d.cost + 9 * (s.length + n.length + 2) := by
  unfold addL at h
  split at h
  · cases h
  · split at h
    · cases h
    · rename_i l hl
      have h1 := parseE_len hl
      have h2 := normLen l
      split at h
      · rename_i c hc
        split at h
        · cases h
        · injection h with h; subst h
          have hlt : c < d.sets.length := by rw [ho.len]; exact (List.getElem?_eq_some_iff.1 (idxOf?_some hc)).1
          have h3 := orLen (d.sets.getD c []) (normR l)
          have h4 := lenS_set (orR (d.sets.getD c []) (normR l)) d.sets c hlt
          unfold DbP.cost
          simp only
          omega
      · split at h
        · cases h
        · split at h
          · cases h
          · injection h with h; subst h
            have h3 := orLen [] (normR l)
            unfold DbP.cost
            simp only [lenS_append, lenS, List.length_append, List.length_cons, List.length_nil] at h3 ⊢
            omega
def lenL : List (List UInt8) → Nat
  | [] => 0
  | x :: r => x.length + 1 + lenL r
theorem split_len : ∀ (t : List UInt8), lenL (splitL t) = t.length + 1
  | [] => rfl
  | c :: r => by
    have ih := split_len r
    unfold splitL
    split
    · rw [lenL, ih]; simp; omega
    · cases hs : splitL r with
      | nil => rw [hs] at ih; simp [lenL] at ih
      | cons x t => rw [hs] at ih; simp only [lenL, List.length_cons] at ih ⊢; omega
theorem linesGo_cost : ∀ {L : List (List UInt8)} {d d' : DbP} {i : Nat}, d.Ok → linesGo d L i = .ok d' → 2 * d'.cost ≤ 2 * d.cost + 9 * lenL L
  | [], d, d', i, _, hs => by injection hs with hs; subst hs; omega
  | l :: r, d, d', i, ho, hs => by
    unfold linesGo at hs
    split at hs
    · cases hs
    · rename_i d2 h2
      have ih := linesGo_cost (stepL_ok ho h2) hs
      have h3 : 2 * d2.cost ≤ 2 * d.cost + 9 * (l.length + 1) := by
        unfold stepL at h2
        split at h2
        · injection h2 with h2; subst h2; omega
        · cases h2
        · rename_i n s hl
          have := says_len hl
          have := addL_cost ho h2
          omega
      rw [lenL]; omega
theorem newP_cost {t : List UInt8} {d : DbP} (h : newP t = .ok d) : 2 * d.cost ≤ 9 * t.length + 25 := by
  unfold newP at h
  split at h
  · cases h
  · have := linesGo_cost DbP.first_ok h
    rw [split_len] at this
    have e : DbP.first.cost = 8 := rfl
    omega
theorem newP_text {t : List UInt8} {d : DbP} (h : newP t = .ok d) (ht : t.length ≤ 12000) : d.text.length ≤ 65536 := by
  have := newP_cost h; have := text_cost (newP_ok h).1; omega
/-- There and back. -/
theorem newP_back {t : List UInt8} {d : DbP} (h : newP t = .ok d) (ht : t.length ≤ 12000) : newP d.text = .ok d :=
  text_back (newP_ok h).1 (newP_ok h).2 (newP_named h) (newP_text h ht)

/- The classes are apart and are all runes. -/
def DbP.full (d : DbP) : List (List (Int × Int)) := d.rest :: d.sets.tail
theorem hasP_flat {S : List (List (Int × Int))} {r : Int} : hasP S.flatten r ↔ ∃ s ∈ S, hasP s r := by
  constructor
  · rintro ⟨h0, h1, x, hx, h⟩
    obtain ⟨s, hs, hxs⟩ := List.mem_flatten.1 hx
    exact ⟨s, hs, h0, h1, x, hxs, h⟩
  · rintro ⟨s, hs, h0, h1, x, hx, h⟩
    exact ⟨h0, h1, x, List.mem_flatten.2 ⟨s, hs, hx⟩, h⟩
theorem full_NF {d : DbP} (h : d.Ok) : ∀ s ∈ d.full, NF s := fun s hs => by
  rcases List.mem_cons.1 hs with rfl | hs
  · exact notR_NF _
  · exact h.tailNF s hs
theorem full_len {d : DbP} (h : d.Ok) : d.full.length = d.names.length := by
  unfold DbP.full
  rw [List.length_cons, List.length_tail, h.len]
  cases hn : d.names with
  | nil => have := h.head; rw [hn] at this; cases this
  | cons n N => simp
theorem full_apart {d : DbP} (h : d.Ok) (ha : Apart d.sets) : Apart d.full := by
  have hrest : ∀ (j : Nat) (b : List (Int × Int)), d.sets.tail[j]? = some b → ∀ r, memR d.rest r → memR b r → False := fun j b hb r h1 h2 => by
    have hm := List.mem_of_getElem? hb
    have h3 := (NF_mem (h.tailNF b hm) r).2 h2
    have h4 := (NF_mem (notR_NF d.sets.tail.flatten) r).2 h1
    exact ((hasP_notR _ r).1 h4).2.2 (hasP_flat.2 ⟨b, hm, h3⟩)
  intro i j a b hi hj hij r h1 h2
  unfold DbP.full at hi hj
  cases i with
  | zero =>
    cases j with
    | zero => exact hij rfl
    | succ j => simp at hi hj; subst hi; exact hrest j b (by simpa using hj) r h1 h2
  | succ i =>
    cases j with
    | zero => simp at hi hj; subst hj; exact hrest i a (by simpa using hi) r h2 h1
    | succ j => exact DbP.tail_apart ha i j a b (by simpa using hi) (by simpa using hj) (by omega) r h1 h2
theorem full_all {d : DbP} (r : Int) (h0 : 0 ≤ r) (h1 : r ≤ 1114111) : ∃ s ∈ d.full, hasP s r := by
  by_cases hr : hasP d.sets.tail.flatten r
  · obtain ⟨s, hs, h⟩ := hasP_flat.1 hr
    exact ⟨s, List.mem_cons_of_mem _ hs, h⟩
  · exact ⟨d.rest, List.mem_cons_self, (hasP_notR _ r).2 ⟨h0, h1, hr⟩⟩
/-- Whether a rune lies in a class. -/
theorem has_get {d : DbP} (h : d.Ok) (ha : Apart d.sets) {i : Nat} {s : List (Int × Int)} (hi : d.full[i]? = some s) {r : Int} (h0 : 0 ≤ r) (h1 : r ≤ 1114111) : hasB s r = decide (d.get r = i) := by
  have hask : askR r = r := by unfold askR; rw [if_neg (by omega)]
  have hs := full_NF h s (List.mem_of_getElem? hi)
  have hg : ∃ q, d.full[d.get r]? = some q ∧ hasB q r = true := by
    unfold DbP.get
    rw [hask]
    rcases getGo_spec (r := r) (S := d.sets.tail) (i := 1) (by omega) with ⟨k1, k2⟩ | ⟨k, q, k1, k2, k3⟩
    · rw [k1]
      refine ⟨d.rest, rfl, hasB_true ((hasP_notR _ r).2 ⟨h0, h1, fun hr => ?_⟩)⟩
      obtain ⟨z, hz, hzr⟩ := hasP_flat.1 hr
      have := k2 z hz
      rw [hasB_true hzr] at this; cases this
    · rw [k3]
      refine ⟨q, ?_, k2⟩
      unfold DbP.full
      rw [Nat.add_comm, List.getElem?_cons_succ]; exact k1
  obtain ⟨q, hq, hqr⟩ := hg
  by_cases hi' : d.get r = i
  · subst hi'
    rw [hq] at hi; injection hi with hi; subst hi
    rw [hqr]; simp
  · have : hasB s r = false := by
      cases hb : hasB s r with
      | false => rfl
      | true =>
        exfalso
        exact full_apart h ha i (d.get r) s q hi hq (fun e => hi' e.symm) r ((NF_mem hs r).1 ((hasB_iff _ _).1 hb)) ((NF_mem (full_NF h q (List.mem_of_getElem? hq)) r).1 ((hasB_iff _ _).1 hqr))
    rw [this]; simp [hi']
theorem count_apart {a b : List (Int × Int)} (h : ∀ r, hasP a r → hasP b r → False) : countR (a ++ b) = countR a + countR b := by
  have h1 := count_or_and a b
  have h2 : andR a b = [] := NF_ext (andR_NF a b) NF_nil fun r => by
    rw [hasP_andR]; exact ⟨fun ⟨x, y⟩ => (h r x y).elim, fun x => (hasP_nil r x).elim⟩
  have h3 : countR (orR a b) = countR (a ++ b) := by unfold countR orR; rw [normR_idem]
  rw [h2, h3] at h1
  have h4 : countR [] = 0 := by unfold countR; rw [normR_of_NF NF_nil]; rfl
  omega
def cntS : List (List (Int × Int)) → Int
  | [] => 0
  | s :: S => countR s + cntS S
theorem count_flat : ∀ {S : List (List (Int × Int))}, Apart S → (∀ s ∈ S, NF s) → countR S.flatten = cntS S
  | [], _, _ => by unfold countR; rw [List.flatten_nil, normR_of_NF NF_nil]; rfl
  | s :: S, ha, hn => by
    rw [List.flatten_cons, count_apart, count_flat (apart_tail ha) (fun q hq => hn q (by simp [hq]))]
    · rfl
    · intro r h1 h2
      obtain ⟨q, hq, h3⟩ := hasP_flat.1 h2
      obtain ⟨k, hk, rfl⟩ := List.getElem_of_mem hq
      exact ha 0 (k + 1) s _ rfl (by rw [List.getElem?_cons_succ, List.getElem?_eq_getElem hk]) (by omega) r h1.2.2 h3.2.2
theorem count_full {d : DbP} (h : d.Ok) (ha : Apart d.sets) : cntS d.full = 1114112 ∧ countR d.full.flatten = 1114112 := by
  have h1 := count_flat (full_apart h ha) (full_NF h)
  have h2 : countR d.full.flatten = 1114112 := by
    have : normR d.full.flatten = [(0, 1114111)] := by
      refine NF_ext (normR_NF _) ⟨⟨by omega, by simp, trivial⟩, by simp⟩ fun r => ?_
      rw [hasP_normR, hasP_flat]
      constructor
      · rintro ⟨s, _, h0, h1, _⟩; exact ⟨h0, h1, _, List.mem_singleton.2 rfl, h0, h1⟩
      · rintro ⟨h0, h1, _⟩; exact full_all r h0 h1
    unfold countR; rw [this]; rfl
  exact ⟨by omega, h2⟩
end Go.Proofs.YtinfnfgflcjfmaaGreatDoor

/-
  PLAIN: two databases crossed: the pairs of classes by their least runes. No walk.
-/
namespace Go.Proofs.YtinfnfgflcjfmaaGreatDoor

/- All ranges, those of no class too, in order: they tile all runes. -/
def DbP.allE (d : DbP) : List (Int × Int × Nat) := entG 0 d.full
def DbP.allR (d : DbP) : List (Int × Int × Nat) := d.allE.mergeSort fun a b => decide (a.1 ≤ b.1)
theorem allR_rise (d : DbP) : RiseC d.allR := by
  have := List.pairwise_mergeSort (le := fun a b : Int × Int × Nat => decide (a.1 ≤ b.1)) (by simp; intros; omega) (by simp; intros; omega) d.allE
  exact this.imp (by simp)
theorem allR_perm (d : DbP) : d.allR.Perm d.allE := List.mergeSort_perm _ _
theorem allE_off {d : DbP} (h : d.Ok) (ha : Apart d.sets) : d.allE.Pairwise Off := entG_off (full_apart h ha) fun s hs => (full_NF h s hs).1
theorem allE_bd {d : DbP} (h : d.Ok) : ∀ x ∈ d.allE, 0 ≤ x.1 ∧ x.1 ≤ x.2.1 ∧ x.2.1 ≤ 1114111 ∧ x.2.2 < d.names.length := fun x hx => by
  obtain ⟨k, s, h1, h2, h3⟩ := mem_entG.1 hx
  have hs := full_NF h s (List.mem_of_getElem? h1)
  have := hs.2 _ h2; have := Nf_le hs.1 _ h2
  have hk := (List.getElem?_eq_some_iff.1 h1).1
  rw [full_len h] at hk
  simp only at *
  omega
theorem allR_unique {d : DbP} (h : d.Ok) (ha : Apart d.sets) {l : List (Int × Int × Nat)} (hp : l.Perm d.allE) (hr : RiseC l) : l = d.allR := by
  refine List.Perm.eq_of_pairwise (le := fun a b : Int × Int × Nat => a.1 ≤ b.1) (fun a b hal hbl h1 h2 => ?_) hr (allR_rise d) (hp.trans (allR_perm d).symm)
  have ha' := hp.mem_iff.1 hal
  have hb' := (allR_perm d).mem_iff.1 hbl
  have ba := allE_bd h a ha'; have bb := allE_bd h b hb'
  obtain ⟨i, hi, rfl⟩ := List.getElem_of_mem ha'
  obtain ⟨j, hj, rfl⟩ := List.getElem_of_mem hb'
  have hP := List.pairwise_iff_getElem.1 (allE_off h ha)
  rcases Nat.lt_trichotomy i j with hij | hij | hij
  · have := hP i j hi hj hij
    unfold Off at this; omega
  · subst hij; rfl
  · have := hP j i hj hi hij
    unfold Off at this; omega
theorem allE_eq (d : DbP) : d.allE = d.rest.map (fun x : Int × Int => (x.1, x.2, (0 : Nat))) ++ d.ents := rfl
/-- All ranges and the others behind them, in whatever order. -/
theorem all_perm (d : DbP) : (d.rng ++ d.rest.map fun x : Int × Int => (x.1, x.2, (0 : Nat))).Perm d.allE := by
  rw [allE_eq]
  exact ((rng_perm d).append_right _).trans List.perm_append_comm
theorem allR_bd {d : DbP} (h : d.Ok) : ∀ x ∈ d.allR, 0 ≤ x.1 ∧ x.1 ≤ x.2.1 ∧ x.2.1 ≤ 1114111 ∧ x.2.2 < d.names.length := fun x hx => allE_bd h x ((allR_perm d).mem_iff.1 hx)
theorem allR_next {d : DbP} (h : d.Ok) (ha : Apart d.sets) : d.allR.Pairwise fun a b => a.2.1 < b.1 := by
  have h1 : d.allR.Pairwise Off := (List.Perm.pairwise_iff off_symm (allR_perm d)).2 (allE_off h ha)
  have h2 := (allR_rise d).and h1
  exact h2.imp_of_mem fun {a b} hA hB hab => by
    have := allR_bd h a hA; have := allR_bd h b hB
    obtain ⟨h3, h4⟩ := hab
    unfold Off at h4; omega
/-- From a rune on without a gap to the last one. -/
def Tile : Int → List (Int × Int × Nat) → Prop
  | m, [] => m = 1114112
  | m, x :: r => x.1 = m ∧ m ≤ x.2.1 ∧ Tile (x.2.1 + 1) r
theorem tile_of : ∀ {l : List (Int × Int × Nat)} {m : Int}, (l.Pairwise fun a b => a.2.1 < b.1) → (∀ x ∈ l, m ≤ x.1 ∧ x.1 ≤ x.2.1 ∧ x.2.1 ≤ 1114111) → m ≤ 1114112 → (∀ r, m ≤ r → r ≤ 1114111 → ∃ x ∈ l, x.1 ≤ r ∧ r ≤ x.2.1) → Tile m l
  | [], m, _, _, hm, hc => by
    rcases Int.lt_or_le 1114111 m with h | h
    · show m = 1114112; omega
    · obtain ⟨x, hx, _⟩ := hc m (Int.le_refl _) h; simp at hx
  | x :: l, m, hp, hb, hm, hc => by
    rw [List.pairwise_cons] at hp
    have hx := hb x (by simp)
    have h1 : x.1 = m := by
      obtain ⟨y, hy, h2, h3⟩ := hc m (Int.le_refl _) (by omega)
      rcases List.mem_cons.1 hy with rfl | hy
      · omega
      · have := hp.1 y hy; omega
    refine ⟨h1, by omega, tile_of hp.2 (fun y hy => ?_) (by omega) fun r hr1 hr2 => ?_⟩
    · have := hp.1 y hy; have := hb y (by simp [hy]); omega
    · obtain ⟨y, hy, h2, h3⟩ := hc r (by omega) hr2
      rcases List.mem_cons.1 hy with rfl | hy
      · omega
      · exact ⟨y, hy, h2, h3⟩
theorem allR_tile {d : DbP} (h : d.Ok) (ha : Apart d.sets) : Tile 0 d.allR := by
  refine tile_of (allR_next h ha) (fun x hx => by have := allR_bd h x hx; omega) (by omega) fun r h0 h1 => ?_
  obtain ⟨s, hs, hr⟩ := full_all (d := d) r h0 h1
  obtain ⟨y, hy, h2, h3⟩ := (NF_mem (full_NF h s hs) r).1 hr
  obtain ⟨k, hk, rfl⟩ := List.getElem_of_mem hs
  exact ⟨(y.1, y.2, 0 + k), (allR_perm d).mem_iff.2 (mem_entG.2 ⟨k, _, List.getElem?_eq_getElem hk, hy, rfl⟩), h2, h3⟩
/-- The class of a range is that of each rune of it. -/
theorem allR_get {d : DbP} (h : d.Ok) (ha : Apart d.sets) {x : Int × Int × Nat} (hx : x ∈ d.allR) {r : Int} (h1 : x.1 ≤ r) (h2 : r ≤ x.2.1) : d.get r = x.2.2 := by
  have hb := allR_bd h x hx
  obtain ⟨k, s, h3, h4, h5⟩ := mem_entG.1 ((allR_perm d).mem_iff.1 hx)
  have := has_get h ha h3 (r := r) (by omega) (by omega)
  rw [(hasB_NF (full_NF h s (List.mem_of_getElem? h3)) r).2 ⟨_, h4, h1, h2⟩] at this
  have := of_decide_eq_true this.symm
  omega
/-- Where no range begins the class is as it was. -/
theorem get_same {d : DbP} (h : d.Ok) (ha : Apart d.sets) {p r : Int} (h0 : 0 ≤ p) (h1 : p ≤ r) (h2 : r ≤ 1114111) (hn : ∀ x ∈ d.allE, ¬ (p < x.1 ∧ x.1 ≤ r)) : d.get r = d.get p := by
  obtain ⟨s, hs, hr⟩ := full_all (d := d) r (by omega) h2
  obtain ⟨y, hy, h3, h4⟩ := (NF_mem (full_NF h s hs) r).1 hr
  obtain ⟨k, hk, rfl⟩ := List.getElem_of_mem hs
  have hm : (y.1, y.2, 0 + k) ∈ d.allE := mem_entG.2 ⟨k, _, List.getElem?_eq_getElem hk, hy, rfl⟩
  have hm' := (allR_perm d).mem_iff.2 hm
  have := hn _ hm
  simp only at this
  rw [allR_get h ha hm' (r := r) h3 h4, allR_get h ha hm' (r := p) (by simp only; omega) (by simp only; omega)]

/- Pairs by their least runes. -/
def ded1 (l : List (Nat × Nat)) (p : Nat × Nat) : List (Nat × Nat) := if p ∈ l then l else l ++ [p]
def dedN (G : Int → Nat × Nat) : Nat → List (Nat × Nat)
  | 0 => [(0, 0)]
  | n + 1 => ded1 (dedN G n) (G (n : Int))
theorem ded1_mem {l : List (Nat × Nat)} {p q : Nat × Nat} : q ∈ ded1 l p ↔ q ∈ l ∨ q = p := by
  unfold ded1
  split
  · rename_i h; exact ⟨.inl, fun h' => h'.elim id (fun e => e ▸ h)⟩
  · simp
theorem ded1_in {l : List (Nat × Nat)} {p : Nat × Nat} (h : p ∈ l) : ded1 l p = l := if_pos h
theorem mem_dedN {G : Int → Nat × Nat} {p : Nat × Nat} : ∀ {n : Nat}, p ∈ dedN G n ↔ p = (0, 0) ∨ ∃ j : Nat, j < n ∧ G (j : Int) = p
  | 0 => by simp [dedN]
  | n + 1 => by
    rw [dedN, ded1_mem, mem_dedN (n := n)]
    constructor
    · rintro ((h | ⟨j, h1, h2⟩) | h)
      · exact .inl h
      · exact .inr ⟨j, by omega, h2⟩
      · exact .inr ⟨n, by omega, h.symm⟩
    · rintro (h | ⟨j, h1, h2⟩)
      · exact .inl (.inl h)
      · rcases Nat.lt_or_ge j n with h | h
        · exact .inl (.inr ⟨j, h, h2⟩)
        · obtain rfl : j = n := by omega
          exact .inr h2.symm
theorem dedN_nodup {G : Int → Nat × Nat} : ∀ (n : Nat), (dedN G n).Nodup
  | 0 => by simp [dedN]
  | n + 1 => by
    rw [dedN]; unfold ded1
    split
    · exact dedN_nodup n
    · rename_i h
      rw [List.nodup_append]
      exact ⟨dedN_nodup n, by simp, fun a ha b hb e => by simp at hb; subst hb; subst e; exact h ha⟩
theorem dedN_head {G : Int → Nat × Nat} : ∀ (n : Nat), ∃ T, dedN G n = (0, 0) :: T
  | 0 => ⟨[], rfl⟩
  | n + 1 => by
    obtain ⟨T, h⟩ := dedN_head (G := G) n
    rw [dedN, h]; unfold ded1
    split
    · exact ⟨T, rfl⟩
    · exact ⟨T ++ [G n], rfl⟩
theorem dedN_same {G : Int → Nat × Nat} {m : Nat} : ∀ (n : Nat), m ≤ n → (∀ k : Nat, m ≤ k → k < n → ∃ j : Nat, j < m ∧ G (k : Int) = G (j : Int)) → dedN G n = dedN G m
  | 0, h, _ => by obtain rfl : m = 0 := by omega
                  rfl
  | n + 1, h, hk => by
    rcases Nat.lt_or_ge n m with hlt | hge
    · obtain rfl : m = n + 1 := by omega
      rfl
    · rw [dedN, dedN_same n hge (fun k h1 h2 => hk k h1 (by omega))]
      obtain ⟨j, hj, e⟩ := hk n hge (by omega)
      exact ded1_in (mem_dedN.2 (.inr ⟨j, hj, e.symm⟩))
/-- Over a stretch with one pair. -/
theorem dedN_span {G : Int → Nat × Nat} {m n : Nat} {p : Nat × Nat} (h : m < n) (hk : ∀ k : Nat, m ≤ k → k < n → G (k : Int) = p) : dedN G n = ded1 (dedN G m) p := by
  have h1 : dedN G n = dedN G (m + 1) := dedN_same n (by omega) fun k h1 h2 => ⟨m, by omega, by rw [hk k (by omega) h2, hk m (Nat.le_refl _) h]⟩
  rw [h1, dedN, hk m (Nat.le_refl _) h]
/-- The document's way: at every place where a range begins. -/
theorem ded_fold {G : Int → Nat × Nat} {B : Int → Prop} (hG : ∀ p r : Int, 0 ≤ p → p ≤ r → r ≤ 1114111 → (∀ s, B s → ¬ (p < s ∧ s ≤ r)) → G r = G p) :
    ∀ (L : List Int) (t : Int), 0 ≤ t → t ≤ 1114111 → (t :: L).Pairwise (· ≤ ·) → (∀ s ∈ L, s ≤ 1114111) → (∀ s, B s → t < s → s ∈ L) → (L.map G).foldl ded1 (dedN G (t.toNat + 1)) = dedN G 1114112
  | [], t, h0, h1, _, _, hB => by
    refine (dedN_same 1114112 (by omega) fun k hk1 hk2 => ⟨t.toNat, by omega, ?_⟩).symm
    rw [Int.toNat_of_nonneg h0]
    exact hG t k h0 (by omega) (by omega) fun s hs hh => by have := hB s hs hh.1; simp at this
  | u :: L, t, h0, h1, hp, hb, hB => by
    rw [List.map_cons, List.foldl_cons]
    rw [List.pairwise_cons] at hp
    have htu := hp.1 u (by simp)
    have hu := hb u (by simp)
    have key : ded1 (dedN G (t.toNat + 1)) (G u) = dedN G (u.toNat + 1) := by
      rcases Int.lt_or_le t u with hlt | hge
      · have e : dedN G u.toNat = dedN G (t.toNat + 1) := dedN_same u.toNat (by omega) fun k hk1 hk2 => ⟨t.toNat, by omega, by
          rw [Int.toNat_of_nonneg h0]
          refine hG t k h0 (by omega) (by omega) fun s hs hh => ?_
          rcases List.mem_cons.1 (hB s hs hh.1) with rfl | hm
          · omega
          · have := (List.pairwise_cons.1 hp.2).1 s hm; omega⟩
        rw [← e]
        conv => rhs; unfold dedN
        rw [Int.toNat_of_nonneg (by omega)]
      · obtain rfl : u = t := by omega
        exact ded1_in (mem_dedN.2 (.inr ⟨u.toNat, by omega, by rw [Int.toNat_of_nonneg h0]⟩))
    rw [key]
    refine ded_fold hG L u (by omega) hu hp.2 (fun s hs => hb s (by simp [hs])) fun s hs hh => ?_
    rcases List.mem_cons.1 (hB s hs (by omega)) with rfl | hm
    · omega
    · exact hm

def pairG (a b : DbP) (r : Int) : Nat × Nat := (a.get r, b.get r)
def twoP (a b : DbP) : List (Nat × Nat) := dedN (pairG a b) 1114112
def nmP (a b : DbP) (p : Nat × Nat) : List UInt8 := a.names.getD p.1 [] ++ 95 :: b.names.getD p.2 []
def setP (a b : DbP) (p : Nat × Nat) : List (Int × Int) := andR (a.full.getD p.1 []) (b.full.getD p.2 [])
/-- Runes parted as two databases do. -/
def crossP (a b : DbP) : Except Int DbP :=
  if 64 < (twoP a b).length then .error 6
  else if (twoP a b).tail.any fun p => decide (32 < (nmP a b p).length) then .error 40
  else if decide (((otherL :: (twoP a b).tail.map (nmP a b))).Nodup) = false then .error 8
  else .ok ⟨otherL :: (twoP a b).tail.map (nmP a b), [] :: (twoP a b).tail.map (setP a b)⟩
theorem get_lt {d : DbP} (h : d.Ok) (r : Int) : d.get r < d.names.length := by
  have h0 : 0 < d.names.length := by
    cases hn : d.names with
    | nil => have := h.head; rw [hn] at this; cases this
    | cons => simp
  unfold DbP.get
  rcases getGo_spec (r := askR r) (S := d.sets.tail) (i := 1) (by omega) with ⟨h1, _⟩ | ⟨k, s, h1, _, h3⟩
  · omega
  · have := (List.getElem?_eq_some_iff.1 h1).1
    rw [List.length_tail, h.len] at this; omega
theorem two_lt {a b : DbP} (ha : a.Ok) (hb : b.Ok) {p : Nat × Nat} (h : p ∈ twoP a b) : p.1 < a.names.length ∧ p.2 < b.names.length := by
  have h0 : ∀ {d : DbP}, d.Ok → 0 < d.names.length := fun {d} h => by have := get_lt h 0; omega
  rcases mem_dedN.1 h with rfl | ⟨j, _, rfl⟩
  · exact ⟨h0 ha, h0 hb⟩
  · exact ⟨get_lt ha _, get_lt hb _⟩
theorem full_at {d : DbP} (h : d.Ok) {i : Nat} (hi : i < d.names.length) : d.full[i]? = some (d.full.getD i []) := by
  rw [List.getD_eq_getElem?_getD, List.getElem?_eq_getElem (by rw [full_len h]; exact hi)]; rfl
/-- Whose runes a pair's set has. -/
theorem setP_mem {a b : DbP} (ha : a.Ok) (aa : Apart a.sets) (hb : b.Ok) (ab : Apart b.sets) {p : Nat × Nat} (h1 : p.1 < a.names.length) (h2 : p.2 < b.names.length) (r : Int) : hasP (setP a b p) r ↔ 0 ≤ r ∧ r ≤ 1114111 ∧ pairG a b r = p := by
  unfold setP
  rw [hasP_andR]
  have e1 := fun (h0 : 0 ≤ r) (hm : r ≤ 1114111) => has_get ha aa (full_at ha h1) h0 hm
  have e2 := fun (h0 : 0 ≤ r) (hm : r ≤ 1114111) => has_get hb ab (full_at hb h2) h0 hm
  constructor
  · rintro ⟨k1, k2⟩
    obtain ⟨h0, hm⟩ := hasP_range k1
    refine ⟨h0, hm, Prod.ext ?_ ?_⟩
    · have := e1 h0 hm; rw [hasB_true k1] at this; exact of_decide_eq_true this.symm
    · have := e2 h0 hm; rw [hasB_true k2] at this; exact of_decide_eq_true this.symm
  · rintro ⟨h0, hm, rfl⟩
    exact ⟨(hasB_iff _ _).1 (by rw [e1 h0 hm]; simp [pairG]), (hasB_iff _ _).1 (by rw [e2 h0 hm]; simp [pairG])⟩
/-- The program's segments make the same set. -/
theorem setP_of {a b : DbP} (ha : a.Ok) (aa : Apart a.sets) (hb : b.Ok) (ab : Apart b.sets) {p : Nat × Nat} (h1 : p.1 < a.names.length) (h2 : p.2 < b.names.length) {l : List (Int × Int)} (hl : ∀ r, 0 ≤ r → r ≤ 1114111 → (memR l r ↔ pairG a b r = p)) : normR l = setP a b p :=
  NF_ext (normR_NF l) (andR_NF _ _) fun r => by
    rw [hasP_normR, setP_mem ha aa hb ab h1 h2]
    exact ⟨fun ⟨h0, hm, h⟩ => ⟨h0, hm, (hl r h0 hm).1 h⟩, fun ⟨h0, hm, h⟩ => ⟨h0, hm, (hl r h0 hm).2 h⟩⟩
end Go.Proofs.YtinfnfgflcjfmaaGreatDoor

/-
  PLAIN: what stands in a crossed database; how many ranges a database has. No walk.
-/
namespace Go.Proofs.YtinfnfgflcjfmaaGreatDoor

theorem askR_idem (r : Int) : askR (askR r) = askR r := by
  have := askR_bd r
  show (if askR r < 0 ∨ 1114111 < askR r then 65533 else askR r) = askR r
  rw [if_neg (by omega)]
theorem get_ask (d : DbP) (r : Int) : d.get (askR r) = d.get r := by unfold DbP.get; rw [askR_idem]
theorem pairG_ask (a b : DbP) (r : Int) : pairG a b (askR r) = pairG a b r := by unfold pairG; rw [get_ask, get_ask]
theorem pairG_two (a b : DbP) (r : Int) : pairG a b r ∈ twoP a b := by
  have hb := askR_bd r
  refine mem_dedN.2 (.inr ⟨(askR r).toNat, by omega, ?_⟩)
  rw [Int.toNat_of_nonneg hb.1, pairG_ask]
theorem twoP_nodup (a b : DbP) : (twoP a b).Nodup := by unfold twoP; exact dedN_nodup _
theorem two_split (a b : DbP) : twoP a b = (0, 0) :: (twoP a b).tail := by
  obtain ⟨T, h⟩ := dedN_head (G := pairG a b) 1114112
  unfold twoP; rw [h]; rfl
theorem name_of {n : List UInt8} {x : UInt8} {r : List UInt8} (h : n = x :: r) (h1 : letB x = true) (h2 : ∀ c ∈ r, partB c = true) (h3 : n.length ≤ 32) : nameL n = true := by
  subst h
  simp only [nameL, Bool.and_eq_true, decide_eq_true_eq, List.all_eq_true]
  exact ⟨⟨h1, h2⟩, by simp only [List.length_cons] at h3; omega⟩
theorem nmP_name {a b : DbP} {p : Nat × Nat} (ha : a.Named) (hb : b.Named) (h1 : p.1 < a.names.length) (h2 : p.2 < b.names.length) (hl : (nmP a b p).length ≤ 32) : nameL (nmP a b p) = true := by
  have ea : a.names.getD p.1 [] ∈ a.names := by rw [List.getD_eq_getElem?_getD, List.getElem?_eq_getElem h1]; exact List.getElem_mem h1
  have eb : b.names.getD p.2 [] ∈ b.names := by rw [List.getD_eq_getElem?_getD, List.getElem?_eq_getElem h2]; exact List.getElem_mem h2
  have na := ha _ ea; have nb := hb _ eb
  have pa := (name_part na).2.2; have pb := (name_part nb).2.2
  cases hx : a.names.getD p.1 [] with
  | nil => rw [hx] at na; cases na
  | cons x r =>
    rw [hx] at na pa
    have hx1 : letB x = true := by simp only [nameL, Bool.and_eq_true] at na; exact na.1.1
    refine name_of (x := x) (r := r ++ 95 :: b.names.getD p.2 []) (by unfold nmP; rw [hx]; rfl) hx1 (fun c hc => ?_) hl
    rcases List.mem_append.1 hc with hc | hc
    · exact pa c (by simp [hc])
    · rcases List.mem_cons.1 hc with rfl | hc
      · decide
      · exact pb c hc
structure CrossOk (a b d : DbP) : Prop where
  names : d.names = otherL :: (twoP a b).tail.map (nmP a b)
  sets : d.sets = [] :: (twoP a b).tail.map (setP a b)
  few : (twoP a b).length ≤ 64
  short : ∀ p ∈ (twoP a b).tail, (nmP a b p).length ≤ 32
  nodup : d.names.Nodup
theorem crossP_is {a b d : DbP} (h : crossP a b = .ok d) : CrossOk a b d := by
  unfold crossP at h
  split at h
  · cases h
  · rename_i h64
    split at h
    · cases h
    · rename_i hs
      split at h
      · cases h
      · rename_i hn
        injection h with h; subst h
        refine ⟨rfl, rfl, by omega, fun p hp => ?_, by simpa using hn⟩
        have := hs
        simp only [List.any_eq_true, decide_eq_true_eq, not_exists, not_and] at this
        have := this p hp; omega
theorem ok_of {T : List (Nat × Nat)} {f : Nat × Nat → List UInt8} {g : Nat × Nat → List (Int × Int)} {d : DbP} (h1 : d.names = otherL :: T.map f) (h2 : d.sets = [] :: T.map g) (h3 : T.length + 1 ≤ 64) (h5 : d.names.Nodup) (hg : ∀ p, NF (g p)) : d.Ok := by
  refine ⟨by rw [h1, h2]; simp, fun l hl => ?_, h5, by rw [h1]; rfl, by rw [h2]; rfl, by rw [h1]; simpa using h3⟩
  rw [h2] at hl
  rcases List.mem_cons.1 hl with rfl | hl
  · exact NF_nil
  · obtain ⟨p, _, rfl⟩ := List.mem_map.1 hl; exact hg p
theorem len_two {T : List (Nat × Nat)} {x : Nat × Nat} (h : T = x :: T.tail) (h3 : T.length ≤ 64) : T.tail.length + 1 ≤ 64 := by
  rw [h] at h3; simpa using h3
theorem cross_ok {a b d : DbP} (hd : CrossOk a b d) : d.Ok :=
  ok_of hd.names hd.sets (len_two (two_split a b) hd.few) hd.nodup fun _ => andR_NF _ _
theorem cross_named {a b d : DbP} (oa : a.Ok) (ob : b.Ok) (na : a.Named) (nb : b.Named) (hd : CrossOk a b d) : d.Named := by
  obtain ⟨h1, h2, h3, h4, h5⟩ := hd
  intro n hn
  rw [h1] at hn
  rcases List.mem_cons.1 hn with rfl | hn
  · decide
  · obtain ⟨p, hp, rfl⟩ := List.mem_map.1 hn
    have := two_lt oa ob (List.mem_of_mem_tail hp)
    exact nmP_name na nb this.1 this.2 (h4 p hp)
theorem tail_nodup {T : List (Nat × Nat)} (h : T.Nodup) : T.tail.Nodup := List.Nodup.sublist (List.tail_sublist _) h
theorem apart_map {T : List (Nat × Nat)} {g : Nat × Nat → List (Int × Int)} {G : Int → Nat × Nat} (hn : T.Nodup) (hg : ∀ p ∈ T, ∀ r, memR (g p) r → G r = p) : Apart ([] :: T.map g) := by
  intro i j s t hi hj hij r hs ht
  cases i with
  | zero => simp at hi; subst hi; exact memR_nil r hs
  | succ i =>
    cases j with
    | zero => simp at hj; subst hj; exact memR_nil r ht
    | succ j =>
      rw [List.getElem?_cons_succ, List.getElem?_map] at hi hj
      obtain ⟨p, hp, rfl⟩ := Option.map_eq_some_iff.1 hi
      obtain ⟨q, hq, rfl⟩ := Option.map_eq_some_iff.1 hj
      have e1 := hg p (List.mem_of_getElem? hp) r hs
      have e2 := hg q (List.mem_of_getElem? hq) r ht
      have e : p = q := e1.symm.trans e2
      subst e
      have := (List.getElem?_inj (List.getElem?_eq_some_iff.1 hp).1 hn).1 (hp.trans hq.symm)
      omega
theorem cross_apart {a b d : DbP} (oa : a.Ok) (aa : Apart a.sets) (ob : b.Ok) (ab : Apart b.sets) (hd : CrossOk a b d) : Apart d.sets := by
  rw [hd.sets]
  refine apart_map (G := pairG a b) (tail_nodup (twoP_nodup a b)) fun p hp r hr => ?_
  have lp := two_lt oa ob (List.mem_of_mem_tail hp)
  exact ((setP_mem oa aa ob ab lp.1 lp.2 r).1 ((NF_mem (andR_NF _ _) r).2 hr)).2.2
/-- The class of a rune there is the number of its pair. -/
theorem cross_get {a b d : DbP} (oa : a.Ok) (aa : Apart a.sets) (ob : b.Ok) (ab : Apart b.sets) (hd : CrossOk a b d) (r : Int) : (twoP a b)[d.get r]? = some (pairG a b r) := by
  have h2 := hd.sets
  have hr := askR_bd r
  have hmem := pairG_two a b r
  rw [two_split]
  rw [two_split] at hmem
  unfold DbP.get
  rw [h2, List.tail_cons]
  rcases getGo_spec (r := askR r) (S := (twoP a b).tail.map (setP a b)) (i := 1) (by omega) with ⟨k1, k2⟩ | ⟨k, s, k1, k2, k3⟩
  · rw [k1]
    rcases List.mem_cons.1 hmem with h | h
    · rw [h]; rfl
    · exfalso
      have lp := two_lt oa ob (List.mem_of_mem_tail h)
      have := k2 _ (List.mem_map.2 ⟨_, h, rfl⟩)
      rw [hasB_true ((setP_mem oa aa ob ab lp.1 lp.2 (askR r)).2 ⟨hr.1, hr.2, pairG_ask a b r⟩)] at this
      cases this
  · rw [k3]
    rw [List.getElem?_map] at k1
    obtain ⟨p, hp, rfl⟩ := Option.map_eq_some_iff.1 k1
    have lp := two_lt oa ob (List.mem_of_mem_tail (List.mem_of_getElem? hp))
    have := ((setP_mem oa aa ob ab lp.1 lp.2 (askR r)).1 ((hasB_iff _ _).1 k2)).2.2
    rw [pairG_ask] at this
    rw [Nat.add_comm, List.getElem?_cons_succ, hp, this]
/-- Two runes have one class of it just if they have one of both. -/
theorem cross_law {a b d : DbP} (oa : a.Ok) (aa : Apart a.sets) (ob : b.Ok) (ab : Apart b.sets) (hd : CrossOk a b d) (p q : Int) : d.get p = d.get q ↔ a.get p = a.get q ∧ b.get p = b.get q := by
  have hp := cross_get oa aa ob ab hd p
  have hq := cross_get oa aa ob ab hd q
  constructor
  · intro e
    rw [e, hq] at hp
    injection hp with hp
    injection hp with h1 h2
    exact ⟨h1.symm, h2.symm⟩
  · rintro ⟨h1, h2⟩
    have : pairG a b p = pairG a b q := Prod.ext h1 h2
    exact (List.getElem?_inj (List.getElem?_eq_some_iff.1 hp).1 (twoP_nodup a b)).1 (by rw [hp, hq, this])

/- How many ranges. -/
theorem next_len : ∀ {l : List (Int × Int × Nat)} {m : Int}, (l.Pairwise fun a b => a.2.1 < b.1) → (∀ x ∈ l, m ≤ x.1 ∧ x.1 ≤ x.2.1 ∧ x.2.1 ≤ 1114111) → m ≤ 1114112 → (l.length : Int) + m ≤ 1114112
  | [], m, _, _, hm => by simpa using hm
  | x :: l, m, hp, hb, hm => by
    rw [List.pairwise_cons] at hp
    have hx := hb x (by simp)
    have := next_len (l := l) (m := x.2.1 + 1) hp.2 (fun y hy => by have := hp.1 y hy; have := hb y (by simp [hy]); omega) (by omega)
    simp only [List.length_cons]; omega
theorem entG_len : ∀ (S : List (List (Int × Int))) (c : Nat), (entG c S).length = lenS S
  | [], _ => rfl
  | s :: S, c => by rw [entG, List.length_append, List.length_map, entG_len S (c + 1), lenS]
theorem lenS_flat : ∀ (S : List (List (Int × Int))), S.flatten.length = lenS S
  | [] => rfl
  | s :: S => by rw [List.flatten_cons, List.length_append, lenS_flat S, lenS]
theorem allR_len {d : DbP} (h : d.Ok) (ha : Apart d.sets) : d.allR.length ≤ 1114112 := by
  have := next_len (m := 0) (allR_next h ha) (fun x hx => by have := allR_bd h x hx; omega) (by omega)
  omega
theorem full_lenS {d : DbP} (h : d.Ok) (ha : Apart d.sets) : lenS d.full ≤ 1114112 := by
  have := allR_len h ha
  rw [(allR_perm d).length_eq, DbP.allE, entG_len] at this; exact this
theorem rng_len {d : DbP} (h : d.Ok) (ha : Apart d.sets) : d.rng.length ≤ 1114112 ∧ d.rng.length = lenS d.sets.tail := by
  have h1 := full_lenS h ha
  have h2 : d.rng.length = lenS d.sets.tail := by rw [(rng_perm d).length_eq, DbP.ents, entG_len]
  unfold DbP.full at h1
  rw [lenS] at h1
  omega
end Go.Proofs.YtinfnfgflcjfmaaGreatDoor

/-
  PLAIN: databases that are written down: checked by reckoning; the two texts that every statement of kerflaw04 tries. No walk.
-/
namespace Go.Proofs.YtinfnfgflcjfmaaGreatDoor

def offB (x y : Int × Int × Nat) : Bool := decide (x.2.1 < y.1) || decide (y.2.1 < x.1)
def offAll : List (Int × Int × Nat) → Bool
  | [] => true
  | x :: r => r.all (offB x) && offAll r
theorem offAll_spec : ∀ {l : List (Int × Int × Nat)}, offAll l = true → l.Pairwise Off
  | [], _ => .nil
  | x :: r, h => by
    simp only [offAll, Bool.and_eq_true, List.all_eq_true] at h
    refine .cons (fun y hy => ?_) (offAll_spec h.2)
    have := h.1 y hy
    simpa [offB, Off] using this
theorem entG_apart : ∀ {S : List (List (Int × Int))} {c : Nat}, (entG c S).Pairwise Off → Apart S
  | [], c, _ => fun i j a b hi => by simp at hi
  | s :: S, c, h => by
    unfold entG at h
    rw [List.pairwise_append] at h
    have ih := entG_apart h.2.1
    have hx : ∀ (j : Nat) (b : List (Int × Int)), S[j]? = some b → ∀ r, memR s r → memR b r → False := fun j b hb r ⟨x, hx, h1, h2⟩ ⟨y, hy, h3, h4⟩ => by
      have := h.2.2 (x.1, x.2, c) (List.mem_map.2 ⟨x, hx, rfl⟩) (y.1, y.2, c + 1 + j) (mem_entG.2 ⟨j, b, hb, hy, rfl⟩)
      unfold Off at this; simp only at this; omega
    intro i j a b hi hj hij r ha hb
    cases i with
    | zero =>
      cases j with
      | zero => omega
      | succ j => simp at hi hj; subst hi; exact hx j b hj r ha hb
    | succ i =>
      cases j with
      | zero => simp at hi hj; subst hj; exact hx i a hi r hb ha
      | succ j => exact ih i j a b (by simpa using hi) (by simpa using hj) (by omega) r ha hb
def nfB : List (Int × Int) → Bool
  | [] => true
  | x :: r => decide (0 ≤ x.1) && decide (x.1 ≤ x.2) && decide (x.2 ≤ 1114111) && r.all (fun y => decide (x.2 + 1 < y.1)) && nfB r
theorem nfB_spec : ∀ {l : List (Int × Int)}, nfB l = true → NF l
  | [], _ => ⟨trivial, by simp⟩
  | x :: r, h => by
    simp only [nfB, Bool.and_eq_true, List.all_eq_true, decide_eq_true_eq] at h
    obtain ⟨⟨⟨⟨h1, h2⟩, h3⟩, h4⟩, h5⟩ := h
    have ih := nfB_spec h5
    refine ⟨⟨h2, h4, ih.1⟩, fun y hy => ?_⟩
    rcases List.mem_cons.1 hy with rfl | hy
    · exact ⟨h1, h3⟩
    · exact ih.2 y hy
def nodB : List (List UInt8) → Bool
  | [] => true
  | x :: r => r.all (fun y => !(y == x)) && nodB r
theorem nodB_spec : ∀ {l : List (List UInt8)}, nodB l = true → l.Nodup
  | [], _ => .nil
  | x :: r, h => by
    simp only [nodB, Bool.and_eq_true, List.all_eq_true] at h
    refine List.nodup_cons.2 ⟨fun hx => ?_, nodB_spec h.2⟩
    have := h.1 x hx
    simp at this
/-- A database that is written down is one. -/
def DbP.okB (d : DbP) : Bool :=
  decide (d.sets.length = d.names.length) && d.sets.all nfB && nodB d.names && decide (d.names.head? = some otherL) && decide (d.sets.head? = some []) && decide (d.names.length ≤ 64) && offAll (entG 0 d.sets) && d.names.all nameL
theorem DbP.okB_spec {d : DbP} (h : d.okB = true) : d.Ok ∧ Apart d.sets ∧ d.Named := by
  simp only [DbP.okB, Bool.and_eq_true, List.all_eq_true, decide_eq_true_eq] at h
  obtain ⟨⟨⟨⟨⟨⟨⟨h1, h2⟩, h3⟩, h4⟩, h5⟩, h6⟩, h7⟩, h8⟩ := h
  exact ⟨⟨h1, fun l hl => nfB_spec (h2 l hl), nodB_spec h3, h4, h5, h6⟩, entG_apart (offAll_spec h7), h8⟩
/-- Whose text it is, of that it is the database. -/
theorem new_of {d : DbP} {t : List UInt8} (h : d.okB = true) (ht : (d.text == t) = true) (hl : decide (t.length ≤ 65536) = true) : newP t = .ok d := by
  obtain ⟨h1, h2, h3⟩ := DbP.okB_spec h
  have e : d.text = t := by simpa using ht
  subst e
  exact text_back h1 h2 h3 (by simpa using hl)

/- The two texts. -/
def extL : List UInt8 := [69, 120, 116, 101, 110, 100]
def letL : List UInt8 := [76, 101, 116, 116, 101, 114]
def smallD : DbP := ⟨[otherL, extL, letL], [[], [(768, 879)], [(97, 122), (233, 233)]]⟩
def smallT : List UInt8 := [85, 43, 48, 51, 48, 48, 45, 85, 43, 48, 51, 54, 70, 32, 59, 32, 69, 120, 116, 101, 110, 100, 10, 85, 43, 48, 48, 54, 49, 45, 85, 43, 48, 48, 55, 65, 32, 85, 43, 48, 48, 69, 57, 32, 59, 32, 76, 101, 116, 116, 101, 114, 10]
set_option maxRecDepth 100000 in
theorem small_ok : smallD.okB = true := by decide
set_option maxRecDepth 100000 in
theorem small_text : smallD.text = smallT := by decide
theorem new_small : newP smallT = .ok smallD := new_of small_ok (by rw [small_text]; simp) (by decide)
theorem small_get : smallD.get 101 = 2 ∧ smallD.get 769 = 1 ∧ smallD.get 65533 = 0 := by decide
theorem small_class : smallD.num letL = some 2 := by decide
theorem small_rng : smallD.rng.length = 3 := by rw [(rng_perm _).length_eq]; decide
/-- "'a' ; A", "'a'-'b' ; B". -/
def clashL1 : List UInt8 := [39, 97, 39, 32, 59, 32, 65]
def clashL2 : List UInt8 := [39, 97, 39, 45, 39, 98, 39, 32, 59, 32, 66]
def clashT : List UInt8 := clashL1 ++ 10 :: clashL2
theorem clash_says1 : lineP clashL1 = .says [65] [39, 97, 39, 32] := by rfl
theorem clash_says2 : lineP clashL2 = .says [66] [39, 97, 39, 45, 39, 98, 39, 32] := by rfl
theorem clash_parse1 : parseE (spcL [39, 97, 39, 32]) = .ok [(97, 97)] := by rfl
theorem clash_parse2 : parseE (spcL [39, 97, 39, 45, 39, 98, 39, 32]) = .ok [(97, 98)] := by rfl
theorem clash_nf1 : normR [(97, 97)] = [(97, 97)] := normR_of_NF (nfB_spec (by decide))
theorem clash_nf2 : normR [(97, 98)] = [(97, 98)] := normR_of_NF (nfB_spec (by decide))
theorem clash_or : orR [] [(97, 97)] = [(97, 97)] := by unfold orR; exact clash_nf1
theorem clash_step1 : stepL DbP.first clashL1 = .ok ⟨[otherL, [65]], [[], [(97, 97)]]⟩ := by
  unfold stepL
  rw [clash_says1]
  simp only
  unfold addL
  rw [if_neg (by decide), clash_parse1]
  simp only
  rw [clash_nf1, clash_or]
  rfl
theorem clash_step2 : stepL ⟨[otherL, [65]], [[], [(97, 97)]]⟩ clashL2 = .error 41 := by
  unfold stepL
  rw [clash_says2]
  simp only
  unfold addL
  rw [if_neg (by decide), clash_parse2]
  simp only
  rw [clash_nf2]
  rfl
theorem new_clash : newP clashT = .error (41, 2) := by
  unfold newP
  rw [if_neg (by decide)]
  have : splitL clashT = [clashL1, clashL2] := by decide
  rw [this]
  unfold linesGo
  rw [clash_step1]
  simp only
  unfold linesGo
  rw [clash_step2]
end Go.Proofs.YtinfnfgflcjfmaaGreatDoor

/-
  PLAIN: a database's text read by a reckoning that the kernel can run; the same. No walk.
-/
namespace Go.Proofs.YtinfnfgflcjfmaaGreatDoor

def insK (x : Int × Int) : List (Int × Int) → List (Int × Int)
  | [] => [x]
  | y :: r => if x.1 ≤ y.1 then x :: y :: r else y :: insK x r
def sortK : List (Int × Int) → List (Int × Int)
  | [] => []
  | x :: r => insK x (sortK r)
theorem insK_perm (x : Int × Int) : ∀ (l : List (Int × Int)), (insK x l).Perm (x :: l)
  | [] => .refl _
  | y :: r => by
    unfold insK
    split
    · exact .refl _
    · exact ((insK_perm x r).cons y).trans (List.Perm.swap x y r)
theorem sortK_perm : ∀ (l : List (Int × Int)), (sortK l).Perm l
  | [] => .refl _
  | x :: r => (insK_perm x (sortK r)).trans ((sortK_perm r).cons x)
theorem insK_rise {x : Int × Int} : ∀ {l : List (Int × Int)}, Rise l → Rise (insK x l)
  | [], _ => by unfold insK Rise; simp
  | y :: r, h => by
    have h' := List.pairwise_cons.1 h
    unfold insK
    split
    · rename_i hxy
      refine List.pairwise_cons.2 ⟨fun z hz => ?_, h⟩
      rcases List.mem_cons.1 hz with rfl | hz
      · exact hxy
      · have := h'.1 z hz; omega
    · rename_i hxy
      refine List.pairwise_cons.2 ⟨fun z hz => ?_, insK_rise h'.2⟩
      rcases List.mem_cons.1 ((insK_perm x r).mem_iff.1 hz) with rfl | hz
      · omega
      · exact h'.1 z hz
theorem sortK_rise : ∀ (l : List (Int × Int)), Rise (sortK l)
  | [] => .nil
  | _ :: r => insK_rise (sortK_rise r)
def normK (l : List (Int × Int)) : List (Int × Int) := mergeR (sortK (keepR l))
theorem normK_eq (l : List (Int × Int)) : normK l = normR l := mergeR_eq (sortK_perm _) (sortK_rise _)
def addK (d : DbP) (name set : List UInt8) : Except Int DbP :=
  if nameL name = false ∨ name = otherL then .error 40 else
  match parseE (spcL set) with
  | .error e => .error e
  | .ok l =>
    match d.num name with
    | some c => if d.clash c (normK l) then .error 41 else .ok ⟨d.names, d.sets.set c (normK ((d.sets.getD c []) ++ normK l))⟩
    | none => if 64 ≤ d.names.length then .error 6 else if d.clash d.names.length (normK l) then .error 41 else .ok ⟨d.names ++ [name], d.sets ++ [normK l]⟩
theorem addK_eq (d : DbP) (n s : List UInt8) : addK d n s = addL d n s := by
  have e : ∀ l, normK l = orR [] (normR l) := fun l => by unfold orR; rw [normK_eq, List.nil_append, normR_of_NF (normR_NF l)]
  have e1 : ∀ a b, normK (a ++ b) = orR a b := fun a b => by rw [normK_eq]; rfl
  unfold addK addL
  split
  · rfl
  · cases parseE (spcL s) with
    | error e => rfl
    | ok l =>
      simp only
      cases d.num n with
      | some c => simp only [e1, normK_eq]
      | none => simp only; rw [e, show orR [] (normR l) = normR l by rw [← e, normK_eq]]
def stepK (d : DbP) (l : List UInt8) : Except Int DbP :=
  match lineP l with
  | .none_ => .ok d
  | .noLine => .error 42
  | .says n s => addK d n s
theorem stepK_eq (d : DbP) (l : List UInt8) : stepK d l = stepL d l := by
  unfold stepK stepL
  cases lineP l with
  | none_ => rfl
  | noLine => rfl
  | says n s => exact addK_eq d n s
def goK (d : DbP) : List (List UInt8) → Nat → Except (Int × Nat) DbP
  | [], _ => .ok d
  | l :: r, i => match stepK d l with
    | .error e => .error (e, i + 1)
    | .ok d' => goK d' r (i + 1)
theorem goK_eq : ∀ (L : List (List UInt8)) (d : DbP) (i : Nat), goK d L i = linesGo d L i
  | [], _, _ => rfl
  | l :: r, d, i => by
    unfold goK linesGo
    rw [stepK_eq]
    cases stepL d l with
    | error e => rfl
    | ok d' => exact goK_eq r d' (i + 1)
/-- A text read by the reckoning. -/
theorem new_K {t : List UInt8} {d : DbP} (hl : decide (t.length ≤ 65536) = true) (h : goK DbP.first (splitL t) 0 = .ok d) : newP t = .ok d := by
  unfold newP
  rw [if_neg (by have := of_decide_eq_true hl; omega), ← goK_eq, h]
end Go.Proofs.YtinfnfgflcjfmaaGreatDoor

/-
  PLAIN: the database of words' runes, as a row of names and sets; printed by gen_db.py. No walk.
-/
namespace Go.Proofs.YtinfnfgflcjfmaaGreatDoor

def wordD : DbP := ⟨[otherL, [67, 114], [76, 102], [78, 101, 119, 108, 105, 110, 101], [69, 120, 116, 101, 110, 100], [90, 119, 106], [70, 111, 114, 109, 97, 116], [82, 101, 103, 105, 111, 110], [75, 97, 116, 97, 107, 97, 110, 97], [72, 101, 98, 114, 101, 119], [76, 101, 116, 116, 101, 114], [81, 117, 111, 116, 101], [68, 111, 117, 98, 108, 101], [77, 105, 100, 78, 117, 109, 76, 101, 116], [77, 105, 100, 76, 101, 116, 116, 101, 114], [77, 105, 100, 78, 117, 109], [68, 105, 103, 105, 116], [76, 111, 119], [83, 112, 97, 99, 101], [80, 105, 99, 116]], [[], [(13, 13)], [(10, 10)], [(11, 12), (133, 133), (8232, 8233)], [(768, 879), (1425, 1469), (8204, 8204), (12441, 12442), (65024, 65039), (127995, 127999)], [(8205, 8205)], [(173, 173), (8206, 8207), (8288, 8288), (65279, 65279)], [(127462, 127487)], [(12449, 12538), (12540, 12540), (65382, 65437)], [(1488, 1514)], [(65, 90), (97, 122), (170, 170), (181, 181), (192, 214), (216, 246), (248, 687), (880, 883), (902, 902), (904, 1153), (1162, 1366), (1568, 1610), (7680, 8124), (44032, 55203), (64256, 64262)], [(39, 39)], [(34, 34)], [(46, 46), (8216, 8217)], [(58, 58), (183, 183)], [(44, 44), (59, 59), (1644, 1644)], [(48, 57), (1632, 1641)], [(95, 95), (8255, 8255)], [(32, 32), (8192, 8198), (12288, 12288)], [(169, 169), (174, 174), (9728, 10175), (127744, 127994), (128000, 128591), (128640, 128767)]]⟩
set_option maxRecDepth 100000 in
theorem word_ok : wordD.okB = true := by kernel_rfl
theorem wordOk : wordD.Ok ∧ Apart wordD.sets ∧ wordD.Named := DbP.okB_spec word_ok
/-- The number of a rune's class. -/
def gW (r : Int) : Nat := wordD.get r
theorem gW_lt (r : Int) : gW r < 20 := get_lt wordOk.1 r
end Go.Proofs.YtinfnfgflcjfmaaGreatDoor

/-
  WORDS FOR MEMORY, props: a database as it is made (its own blocks, one foreign block beside) and as it is read; the map of names. No program's walk.
-/
namespace Go.Proofs.YtinfnfgflcjfmaaGreatDoor
open Go.RowKit Go.Maps

def encNm (n : List UInt8) : List Value := [.string (bytesOf n)]
def encSl (x : Option Addr × Nat × Nat) : List Value := [.slice x.1 x.2.1 x.2.2]
def encD (x : Int × Int × Nat) : List Value := [.int .i32 x.1, .int .i32 x.2.1, .int .i64 (x.2.2 : Int)]
theorem encNm_ok (l : List (List UInt8)) : ∀ y ∈ l.map encNm, y.length = 1 ∧ ∀ u ∈ y, u.oneCell' = true := by
  intro y hy; obtain ⟨r, _, rfl⟩ := List.mem_map.1 hy
  exact ⟨rfl, by simp [encNm, Value.oneCell']⟩
theorem encSl_ok (l : List (Option Addr × Nat × Nat)) : ∀ y ∈ l.map encSl, y.length = 1 ∧ ∀ u ∈ y, u.oneCell' = true := by
  intro y hy; obtain ⟨r, _, rfl⟩ := List.mem_map.1 hy
  exact ⟨rfl, by simp [encSl, Value.oneCell']⟩
theorem encD_ok (l : List (Int × Int × Nat)) : ∀ y ∈ l.map encD, y.length = 3 ∧ ∀ u ∈ y, u.oneCell' = true := by
  intro y hy; obtain ⟨r, _, rfl⟩ := List.mem_map.1 hy
  exact ⟨rfl, by simp [encD, Value.oneCell']⟩

/-- The map's datum holds just these names, each with its place (where none stands twice). -/
def MapIs (D : DataW Unit) (l : List (List UInt8)) : Prop :=
  IsMap D ∧ (∀ n, Maps.has D (.string n) = decide (n ∈ l)) ∧ ∀ (n : List UInt8) (i : Nat), l[i]? = some n → l.Nodup → ∀ z, D.atKey (.string n) z = .lit (.int .i64 (i : Int))
theorem MapIs.nil_ : MapIs (.map []) [] := ⟨isMap_empty, fun n => by simp [Maps.has_eq], fun n i h => by simp at h⟩
theorem MapIs.put {D : DataW Unit} {l : List (List UInt8)} (h : MapIs D l) (n : List UInt8) {k : Int} (hk : k = l.length) : MapIs (D.put (.string n) (.lit (.int .i64 k))) (l ++ [n]) := by
  subst hk
  refine ⟨h.1.put _ _, fun m => ?_, fun m i hi hnd z => ?_⟩
  · by_cases e : m = n
    · subst e; rw [has_put_same (k := .string m) h.1 (by trivial)]; simp
    · rw [has_put_other (by simpa using e), h.2.1]; simp [e]
  · have hnd2 := List.nodup_append.1 hnd
    by_cases e : m = n
    · subst e
      rw [atKey_put_same (k := .string m) h.1 (by trivial)]
      have hi2 := (List.getElem?_eq_some_iff.1 hi).1
      rcases Nat.lt_or_ge i l.length with hlt | hge
      · rw [List.getElem?_append_left hlt] at hi
        exact absurd rfl (hnd2.2.2 m (List.mem_of_getElem? hi) m (by simp))
      · simp at hi2
        rw [show i = l.length by omega]
    · rw [atKey_put_other (by simpa using e)]
      refine h.2.2 m i ?_ hnd2.1 z
      rcases Nat.lt_or_ge i l.length with hlt | hge
      · rwa [List.getElem?_append_left hlt] at hi
      · rw [List.getElem?_append_right hge] at hi
        cases hq : i - l.length with
        | zero => rw [hq] at hi; simp at hi; exact absurd hi.symm e
        | succ q => rw [hq] at hi; simp at hi
/-- What a look-up of a name gives. -/
theorem MapIs.look {D : DataW Unit} {l : List (List UInt8)} (h : MapIs D l) (hn : l.Nodup) (n : List UInt8) : D.atKey (.string n) (.lit (.int .i64 0)) = .lit (.int .i64 (((l.idxOf? n).getD 0 : Nat) : Int)) ∧ Maps.has D (.string n) = (l.idxOf? n).isSome := by
  cases hq : l.idxOf? n with
  | none =>
    have := idxOf?_none hq
    have h2 : Maps.has D (.string n) = false := by rw [h.2.1]; simpa using this
    exact ⟨by rw [atKey_of_not_has h2]; rfl, by rw [h2]; rfl⟩
  | some i =>
    have := idxOf?_some hq
    exact ⟨h.2.2 n i this hn _, by rw [h.2.1]; simpa using List.mem_of_getElem? this⟩

/-- Two rows of different types lie in different blocks. -/
theorem Own.apart {w : World} {b1 b2 : Nat} {e1 e2 : TypeId} {s1 s2 : Nat} {A1 A2 : Option Addr} {n1 c1 n2 c2 : Nat} {x1 x2 : List (List Value)} (h : Own w b1 e1 s1 A1 n1 c1 x1) (k : Own w b2 e2 s2 A2 n2 c2 x2) (hne : e1 ≠ e2) :
    ∀ a b, A1 = some a → A2 = some b → a.block ≠ b.block := by
  intro a b ha hb e
  rcases h.2.2.2 with ⟨h0, _⟩ | ⟨g1, cap1, cur1, hv1, _, hh1, _⟩
  · injection h0 with h0; rw [h0] at ha; cases ha
  · rcases k.2.2.2 with ⟨k0, _⟩ | ⟨g2, cap2, cur2, hv2, _, hh2, _⟩
    · injection k0 with k0; rw [k0] at hb; cases hb
    · injection hv1 with hv1; injection hv2 with hv2
      subst ha; subst hb
      injection hv1 with hv1; injection hv2 with hv2
      subst hv1; subst hv2
      simp only at e
      subst e
      rw [hh1] at hh2
      injection hh2 with hh2; injection hh2 with _ h3 _
      exact hne h3
theorem Own.off {w : World} {b1 : Nat} {e1 t : TypeId} {s1 : Nat} {A1 : Option Addr} {n1 c1 g : Nat} {x1 : List (List Value)} {cs : Array Value} (h : Own w b1 e1 s1 A1 n1 c1 x1) (k : Blk w g t cs) (hne : e1 ≠ t) :
    ∀ a, A1 = some a → a.block ≠ g := by
  intro a ha e
  rcases h.2.2.2 with ⟨h0, _⟩ | ⟨g1, cap1, cur1, hv1, _, hh1, _⟩
  · injection h0 with h0; rw [h0] at ha; cases ha
  · injection hv1 with hv1
    subst ha; injection hv1 with hv1; subst hv1
    simp only at e; subst e
    unfold Blk at k
    rw [hh1] at k
    injection k with k; injection k with _ h3 _
    exact hne h3
theorem Own.offMap {w : World} {b1 : Nat} {e1 : TypeId} {s1 : Nat} {A1 : Option Addr} {n1 c1 b n : Nat} {x1 : List (List Value)} {P : Program} {k : TypeId} {R : Value → Option (DataW Unit × List MemPlace)} {D : DataW Unit} (h : Own w b1 e1 s1 A1 n1 c1 x1) (m : w.ownsMap P k R b n D) :
    ∀ a, A1 = some a → a.block ≠ b := by
  intro a ha e
  obtain ⟨es, clock, hb, _⟩ := m
  rcases h.2.2.2 with ⟨h0, _⟩ | ⟨g1, cap1, cur1, hv1, _, hh1, _⟩
  · injection h0 with h0; rw [h0] at ha; cases ha
  · injection hv1 with hv1
    subst ha; injection hv1 with hv1; subst hv1
    simp only at e; subst e
    rw [hh1] at hb
    cases hb
theorem Blk.offMap {w : World} {g b n : Nat} {t : TypeId} {cs : Array Value} {P : Program} {k : TypeId} {R : Value → Option (DataW Unit × List MemPlace)} {D : DataW Unit} (h : Blk w g t cs) (m : w.ownsMap P k R b n D) : g ≠ b := by
  intro e; obtain ⟨es, clock, hb, _⟩ := m; subst e; unfold Blk at h; rw [hb] at h; cases h

/-- The rows that a row of slices leads to. -/
structure Sets (w : World) (base : Nat) (xs : List (Option Addr × Nat × Nat)) (S : List (List (Int × Int))) : Prop where
  len : xs.length = S.length
  own : ∀ (k : Nat) (x : Option Addr × Nat × Nat) (l : List (Int × Int)), xs[k]? = some x → S[k]? = some l → Own w base 139 2 x.1 x.2.1 x.2.2 (l.map encR)
theorem Sets.keep {w w' : World} {base : Nat} {xs : List (Option Addr × Nat × Nat)} {S : List (List (Int × Int))} (h : Sets w base xs S) (hk : ∀ (g : Nat) (cs : Array Value), base ≤ g → w.heap[g]? = some (.cells cs 139 (0, 0)) → w'.heap[g]? = w.heap[g]?) : Sets w' base xs S :=
  ⟨h.len, fun k x l hx hl => by
    have ho := h.own k x l hx hl
    refine ho.keep fun a ha => ?_
    rcases ho.2.2.2 with ⟨h0, _⟩ | ⟨g1, cap1, cur1, hv1, hg, hh1, _⟩
    · injection h0 with h0; rw [h0] at ha; cases ha
    · injection hv1 with hv1; rw [hv1] at ha; injection ha with ha; subst ha
      exact hk g1 cur1 hg hh1⟩
theorem Sets.below {w w' : World} {base : Nat} {xs : List (Option Addr × Nat × Nat)} {S : List (List (Int × Int))} (h : Sets w base xs S) (hb : Below w.heap.size w w') : Sets w' base xs S :=
  h.keep fun g _ _ hg => hb.block g (Array.getElem?_eq_some_iff.1 hg).1
theorem Sets.grown {w w' : World} {base : Nat} {xs : List (Option Addr × Nat × Nat)} {S : List (List (Int × Int))} {row : Option Nat} (h : Sets w base xs S) (hg : w.grownBy w' row) (hr : ∀ g (q : Array Value), row = some g → w.heap[g]? ≠ some (.cells q 139 (0, 0))) : Sets w' base xs S :=
  h.keep fun g cs _ hh => hg.block g (Array.getElem?_eq_some_iff.1 hh).1 fun e => hr g cs e.symm hh
theorem Sets.more {w : World} {b b' : Nat} {xs : List (Option Addr × Nat × Nat)} {S : List (List (Int × Int))} (h : Sets w b xs S) (hb : b' ≤ b) : Sets w b' xs S := ⟨h.len, fun k x l hx hl => (h.own k x l hx hl).more hb⟩
theorem Sets.snoc {w : World} {base : Nat} {xs : List (Option Addr × Nat × Nat)} {S : List (List (Int × Int))} {A : Option Addr} {n c : Nat} {l : List (Int × Int)} (h : Sets w base xs S) (ho : Own w base 139 2 A n c (l.map encR)) : Sets w base (xs ++ [(A, n, c)]) (S ++ [l]) := by
  refine ⟨by simp [h.len], fun k x q hx hq => ?_⟩
  rcases Nat.lt_or_ge k xs.length with hlt | hge
  · rw [List.getElem?_append_left hlt] at hx
    rw [List.getElem?_append_left (by rw [← h.len]; exact hlt)] at hq
    exact h.own k x q hx hq
  · rw [List.getElem?_append_right hge] at hx
    rw [List.getElem?_append_right (by rw [← h.len]; exact hge), ← h.len] at hq
    cases hz : k - xs.length with
    | zero => rw [hz] at hx hq; simp at hx hq; subst hx; subst hq; exact ho
    | succ z => rw [hz] at hx; simp at hx
theorem Sets.set_ {w : World} {base : Nat} {xs : List (Option Addr × Nat × Nat)} {S : List (List (Int × Int))} {A : Option Addr} {n c i : Nat} {l : List (Int × Int)} (h : Sets w base xs S) (ho : Own w base 139 2 A n c (l.map encR)) : Sets w base (xs.set i (A, n, c)) (S.set i l) := by
  refine ⟨by simp [h.len], fun k x q hx hq => ?_⟩
  by_cases e : i = k
  · subst e
    rw [List.getElem?_set_self' ] at hx hq
    cases h1 : xs[i]? with
    | none => rw [h1] at hx; simp at hx
    | some y =>
      rw [h1] at hx; simp at hx; subst hx
      cases h2 : S[i]? with
      | none => rw [h2] at hq; simp at hq
      | some z => rw [h2] at hq; simp at hq; subst hq; exact ho
  · rw [List.getElem?_set_ne e] at hx hq
    exact h.own k x q hx hq

theorem keyedS : Keyed Tryz.prog 9 := string_keyed Tryz.underlying9
theorem zeroI (w : World) : (zeroValue 3).run Tryz.prog w = .ok (.int .i64 0) w := by kernel_rfl
theorem keyS {n : List UInt8} (h : n.length ≤ 1000000) : keyOf Tryz.prog 9 (.string (bytesOf n)) = some (.string n) := by
  rw [WideMaps.keyOf_string_mk Tryz.underlying9 (by rw [bytesOf_size]; unfold maxLen; omega), bytesOf_list]

/-- A database that is being made, its parts: p its block; x a foreign block that stays; N its names, S its sets. -/
structure DbX (w : World) (base p x : Nat) (An : Option Addr) (nn cn bm nm : Nat) (D : DataW Unit) (As : Option Addr) (ns cs : Nat) (xs : List (Option Addr × Nat × Nat)) (N : List (List UInt8)) (S : List (List (Int × Int))) : Prop where
  blk : Blk w p 101 #[.slice An nn cn, .map (some bm), .slice As ns cs, .slice none 0 0]
  pb : base ≤ p
  hn : Own w base 9 1 An nn cn (N.map encNm)
  hm : w.ownsMap Tryz.prog 9 (plainElem (H := Unit) Tryz.prog 3) bm nm D
  nle : nm ≤ nn
  bb : base ≤ bm
  hD : MapIs D N
  hs : Own w base 111 1 As ns cs (xs.map encSl)
  hx : Sets w base xs S
  xp : x ≠ p
  xb : x ≠ bm
  xn : ∀ a, An = some a → a.block ≠ x
  xs_ : ∀ a, As = some a → a.block ≠ x
structure DbB (w : World) (base p x : Nat) (d : DbP) : Prop where
  ex : ∃ (An : Option Addr) (nn cn bm nm : Nat) (D : DataW Unit) (As : Option Addr) (ns cs : Nat) (xs : List (Option Addr × Nat × Nat)), DbX w base p x An nn cn bm nm D As ns cs xs d.names d.sets
/-- A database as it is read. -/
structure DbAt (w : World) (p : Nat) (d : DbP) : Prop where
  ex : ∃ (An : Option Addr) (nn cn bm nm : Nat) (D : DataW Unit) (As : Option Addr) (ns cs : Nat) (xs : List (Option Addr × Nat × Nat)) (Ar : Option Addr) (nr cr : Nat),
    Blk w p 101 #[.slice An nn cn, .map (some bm), .slice As ns cs, .slice Ar nr cr] ∧ Own w 0 9 1 An nn cn (d.names.map encNm) ∧
    w.ownsMap Tryz.prog 9 (plainElem (H := Unit) Tryz.prog 3) bm nm D ∧ MapIs D d.names ∧ Own w 0 111 1 As ns cs (xs.map encSl) ∧ Sets w 0 xs d.full ∧ Own w 0 106 3 Ar nr cr (d.rng.map encD)
theorem map_below {w w' : World} {P : Program} {k : TypeId} {R : Value → Option (DataW Unit × List MemPlace)} {b n : Nat} {D : DataW Unit} (h : w.ownsMap P k R b n D) (hb : Below w.heap.size w w') : w'.ownsMap P k R b n D := by
  have hlt := h.lt
  obtain ⟨es, clock, h1, h2⟩ := h
  exact ⟨es, clock, (hb.block b hlt).trans h1, h2⟩
theorem DbAt.below {w w' : World} {p : Nat} {d : DbP} (h : DbAt w p d) (hb : Below w.heap.size w w') : DbAt w' p d := by
  obtain ⟨An, nn, cn, bm, nm, D, As, ns, cs, xs, Ar, nr, cr, h1, h2, h3, h4, h5, h6, h7⟩ := h.ex
  exact ⟨An, nn, cn, bm, nm, D, As, ns, cs, xs, Ar, nr, cr, h1.below hb, h2.below hb, map_below h3 hb, h4, h5.below hb, h6.below hb, h7.below hb⟩
theorem DbAt.drewN {w : World} {p : Nat} {d : DbP} (h : DbAt w p d) (q : Nat) : DbAt (w.drewN q) p d := h.below (below_refl_drewN w q)
section
variable {w w' : World} {base p x : Nat} {An : Option Addr} {nn cn bm nm : Nat} {D : DataW Unit} {As : Option Addr} {ns cs : Nat} {xs : List (Option Addr × Nat × Nat)} {N : List (List UInt8)} {S : List (List (Int × Int))}
theorem DbX.below (h : DbX w base p x An nn cn bm nm D As ns cs xs N S) (hb : Below w.heap.size w w') : DbX w' base p x An nn cn bm nm D As ns cs xs N S :=
  ⟨h.blk.below hb, h.pb, h.hn.below hb, map_below h.hm hb, h.nle, h.bb, h.hD, h.hs.below hb, h.hx.below hb, h.xp, h.xb, h.xn, h.xs_⟩
/-- What a step keeps: all below base, and block x. -/
def KX (base x : Nat) (w w' : World) : Prop := Below base w w' ∧ (x < w.heap.size → w'.heap[x]? = w.heap[x]?)
theorem KX.refl (base x : Nat) (w : World) : KX base x w w := ⟨Below.refl _ _, fun _ => rfl⟩
theorem KX.trans {a b c : World} (h : KX base x a b) (k : KX base x b c) : KX base x a c := ⟨h.1.trans k.1, fun hx => (k.2 (Nat.lt_of_lt_of_le hx h.1.size)).trans (h.2 hx)⟩
theorem KX.below (hb : Below w.heap.size w w') (hB : base ≤ w.heap.size) : KX base x w w' := ⟨hb.mono hB, fun hx => hb.block x hx⟩
theorem KX.grown {row : Option Nat} (hg : w.grownBy w' row) (hB : base ≤ w.heap.size) (hr : ∀ k, row = some k → base ≤ k ∧ k ≠ x) : KX base x w w' :=
  ⟨(Below.refl _ _).grown hg hB fun k hk => (hr k hk).1, fun hx => hg.block x hx fun e => (hr x e.symm).2 rfl⟩
theorem KX.setCell (w : World) {q : Addr} (hq : base ≤ q.block) (hx : q.block ≠ x) (u : Value) : KX base x w (w.setCell q u) :=
  ⟨(Below.refl _ _).setCell hq u, fun _ => Below.heap_setCell w q u x (Ne.symm hx)⟩
theorem blk_not_R {g : Nat} {t : TypeId} {cur : Array Value} (h : Blk w g t cur) (ht : t ≠ 139) : ∀ q : Array Value, w.heap[g]? ≠ some (.cells q 139 (0, 0)) := fun q e => by
  unfold Blk at h; rw [h] at e; injection e with e; injection e with _ e _; exact ht e
theorem own_not_R {b1 : Nat} {e1 : TypeId} {s1 : Nat} {A1 : Option Addr} {n1 c1 : Nat} {x1 : List (List Value)} (h : Own w b1 e1 s1 A1 n1 c1 x1) (ht : e1 ≠ 139) : ∀ g (q : Array Value), A1.map (·.block) = some g → w.heap[g]? ≠ some (.cells q 139 (0, 0)) := fun g q hg e => by
  rcases h.2.2.2 with ⟨h0, _⟩ | ⟨g1, cap1, cur1, hv1, _, hh1, _⟩
  · injection h0 with h0; rw [h0] at hg; cases hg
  · injection hv1 with hv1; subst hv1
    simp at hg; subst hg
    rw [hh1] at e; injection e with e; injection e with _ e _; exact ht e
theorem map_not_R {P : Program} {k : TypeId} {R : Value → Option (DataW Unit × List MemPlace)} {b n : Nat} (m : w.ownsMap P k R b n D) : ∀ q : Array Value, w.heap[b]? ≠ some (.cells q 139 (0, 0)) := fun q e => by
  obtain ⟨es, clock, hb, _⟩ := m; rw [hb] at e; cases e
theorem grown_alloc {a b : World} {row : Option Nat} {o : Obj} (h : (a.alloc o).grownBy b row) : a.grownBy b row :=
  ⟨h.os, h.tape, h.output, Nat.le_trans (by simp) h.size, fun i hi hne => (h.block i (by simp; omega) hne).trans (Below.heap_alloc a o i hi)⟩
theorem map_kept {P : Program} {k : TypeId} {R : Value → Option (DataW Unit × List MemPlace)} {b n : Nat} {row : Option Nat} (m : w.ownsMap P k R b n D) (hg : w.grownBy w' row) (hr : some b ≠ row) : w'.ownsMap P k R b n D := m.kept hg hr
theorem map_setCell {P : Program} {k : TypeId} {R : Value → Option (DataW Unit × List MemPlace)} {b n : Nat} (m : w.ownsMap P k R b n D) {q : Addr} (hq : b ≠ q.block) (u : Value) : (w.setCell q u).ownsMap P k R b n D := m.setCell hq u
theorem Sets.setCell (h : Sets w base xs S) {q : Addr} (hq : ∀ r : Array Value, w.heap[q.block]? ≠ some (.cells r 139 (0, 0))) (u : Value) : Sets (w.setCell q u) base xs S :=
  h.keep fun g cur _ hg => Below.heap_setCell w q u g fun e => hq cur (by rw [← e]; exact hg)
end
theorem DbB.below {w w' : World} {base p x : Nat} {d : DbP} (h : DbB w base p x d) (hb : Below w.heap.size w w') : DbB w' base p x d := by
  obtain ⟨An, nn, cn, bm, nm, D, As, ns, cs, xs, h⟩ := h.ex
  exact ⟨An, nn, cn, bm, nm, D, As, ns, cs, xs, h.below hb⟩
end Go.Proofs.YtinfnfgflcjfmaaGreatDoor

/-
  PLAIN, for the walks of props: a rune in quotes by the reader's word; a name byte by byte; the place of a byte outside of quotes, step by step.
-/
namespace Go.Proofs.YtinfnfgflcjfmaaGreatDoor

theorem qtS_cons (c : UInt8) (r : List UInt8) : qtL (c :: r) = if c = 39 ∧ (runeAt (bytesOf (c :: r)) 1).2 ≠ 0 ∧ r[(runeAt (bytesOf (c :: r)) 1).2]? = some 39 then some ((runeAt (bytesOf (c :: r)) 1).2 + 2) else none := by
  rw [qtL_cons, show (1 : Nat) = 0 + 1 from rfl, runeAt_sh]
  by_cases hr : r = []
  · subst hr
    rw [if_neg (by simp), if_neg (fun h => by simp at h)]
  · have hb := decL_bd hr
    have e : runeAt (bytesOf r) 0 = Utf8.decode (bytesOf r) 0 := by
      unfold runeAt
      rw [if_pos (by rw [bytesOf_size]; omega)]
    rw [e]
    by_cases h : c = 39 ∧ r[(Utf8.decode (bytesOf r) 0).2]? = some 39
    · rw [if_pos ⟨h.1, hr, h.2⟩, if_pos ⟨h.1, by omega, h.2⟩]
    · rw [if_neg (fun k => h ⟨k.1, k.2.2⟩), if_neg (fun k => h ⟨k.1, k.2.2⟩)]
theorem bytes_is (s : ByteArray) : bytesOf s.data.toList = s := bytesOf_data s
theorem rest_eq (s : ByteArray) (p : Nat) : (rest s p).head? = s.data.toList[p]? := by unfold rest; rw [List.head?_drop]
/-- What stands at a string's beginning: no rune in quotes. -/
theorem qt_no {s : ByteArray} (h : ∀ h0 : 0 < s.size, s[0]'h0 ≠ 39) : qtL s.data.toList = none := by
  cases hl : s.data.toList with
  | nil => rfl
  | cons c r =>
    have h0 : 0 < s.size := by rw [← size_data, hl]; simp
    have : s[0]'h0 = c := by
      have h1 : s.data.toList[0]? = some (s[0]'h0) := List.getElem?_eq_getElem (by simpa using h0)
      rw [hl] at h1; simpa using h1.symm
    rw [qtS_cons, if_neg (fun k => h h0 (by rw [this, k.1]))]
theorem qt_zero {s : ByteArray} (h : (runeAt s 1).2 = 0) : qtL s.data.toList = none := by
  cases hl : s.data.toList with
  | nil => rfl
  | cons c r =>
    have hs : s = bytesOf (c :: r) := by rw [← hl, bytesOf_data]
    rw [qtS_cons, ← hs, if_neg (fun k => k.2.1 h)]
theorem qt_open {s : ByteArray} (h : s.data.toList[(runeAt s 1).2 + 1]? ≠ some 39) : qtL s.data.toList = none := by
  cases hl : s.data.toList with
  | nil => rfl
  | cons c r =>
    have hs : s = bytesOf (c :: r) := by rw [← hl, bytesOf_data]
    rw [qtS_cons, ← hs, if_neg (fun k => h (by rw [hl]; exact k.2.2))]
theorem qt_ok {s : ByteArray} (h0 : 0 < s.size) (h1 : s[0]'h0 = 39) (h2 : (runeAt s 1).2 ≠ 0) (h3 : s.data.toList[(runeAt s 1).2 + 1]? = some 39) : qtL s.data.toList = some ((runeAt s 1).2 + 2) := by
  cases hl : s.data.toList with
  | nil => rw [← size_data, hl] at h0; simp at h0
  | cons c r =>
    have hs : s = bytesOf (c :: r) := by rw [← hl, bytesOf_data]
    have hc : s[0]'h0 = c := by
      have h1 : s.data.toList[0]? = some (s[0]'h0) := List.getElem?_eq_getElem (by simpa using h0)
      rw [hl] at h1; simpa using h1.symm
    rw [qtS_cons, ← hs, if_pos ⟨by rw [← hc, h1], h2, by rw [hl] at h3; exact h3⟩]

/-- A name as far as it has been read. -/
def nameU : List UInt8 → Bool
  | [] => true
  | c :: r => letB c && r.all partB
theorem nameL_eq (l : List UInt8) : nameL l = (nameU l && decide (1 ≤ l.length ∧ l.length ≤ 32)) := by
  cases l with
  | nil => rfl
  | cons c r => 
    simp only [nameL, nameU, List.length_cons]
    congr 1
    rw [decide_eq_decide]; omega
theorem nameU_first (c : UInt8) : nameU [c] = letB c := by simp [nameU]
theorem nameU_snoc {l : List UInt8} (h : l ≠ []) (c : UInt8) : nameU (l ++ [c]) = (nameU l && partB c) := by
  cases l with
  | nil => exact absurd rfl h
  | cons a r => simp [nameU, List.all_append, Bool.and_assoc]
theorem nameU_take {l : List UInt8} {k : Nat} (h : nameU (l.take k) = false) : nameU l = false := by
  cases l with
  | nil => simpa using h
  | cons c r =>
    cases k with
    | zero => simp [nameU] at h
    | succ k =>
      simp only [List.take_succ_cons, nameU] at h ⊢
      cases hc : letB c with
      | false => rfl
      | true =>
        rw [hc] at h
        simp only [Bool.true_and] at h ⊢
        rw [List.all_eq_false] at h ⊢
        obtain ⟨x, hx, h2⟩ := h
        exact ⟨x, List.mem_of_mem_take hx, h2⟩
theorem nameU_next {l : List UInt8} {k : Nat} {c : UInt8} (h : l[k]? = some c) (hk : nameU (l.take k) = true) : nameU (l.take (k + 1)) = if k = 0 then letB c else partB c := by
  have hs : l.take (k + 1) = l.take k ++ [c] := by rw [List.take_add_one, h]; rfl
  have hlt := (List.getElem?_eq_some_iff.1 h).1
  rw [hs]
  split
  · rename_i h0; subst h0; rw [List.take_zero, List.nil_append, nameU_first]
  · rw [nameU_snoc (by intro e; have h1 := congrArg List.length e; rw [List.length_take] at h1; simp only [List.length_nil] at h1; omega), hk, Bool.true_and]

/-- How far find has come. -/
def FindAt (c : UInt8) (l : List UInt8) (i : Nat) : Prop := i ≤ l.length ∧ findP c l = (findP c (l.drop i)).map (· + i)
theorem findAt_first (c : UInt8) (l : List UInt8) : FindAt c l 0 := ⟨by omega, by rw [List.drop_zero]; cases findP c l <;> rfl⟩
theorem findAt_qt {c : UInt8} {l : List UInt8} {i k : Nat} (h : FindAt c l i) (hq : qtL (l.drop i) = some k) : FindAt c l (i + k) := by
  have hk := (qtL_some hq).2.2.1
  rw [List.length_drop] at hk
  have := h.1
  refine ⟨by have := (qtL_some hq).1; omega, ?_⟩
  rw [h.2, findP_qt hq, List.drop_drop]
  cases findP c (l.drop (i + k)) with
  | none => rfl
  | some j => simp; omega
theorem findAt_byte {c x : UInt8} {l : List UInt8} {i : Nat} (h : FindAt c l i) (hx : l[i]? = some x) (hq : qtL (l.drop i) = none) (hne : x ≠ c) : FindAt c l (i + 1) := by
  have hlt := (List.getElem?_eq_some_iff.1 hx).1
  have hd : l.drop i = x :: l.drop (i + 1) := by
    have := (List.getElem?_eq_some_iff.1 hx).2
    rw [List.drop_eq_getElem_cons hlt, this]
  refine ⟨by omega, ?_⟩
  rw [h.2, hd, findP_cons (by rw [← hd]; exact hq), if_neg hne]
  cases findP c (l.drop (i + 1)) with
  | none => rfl
  | some j => simp; omega
theorem findAt_hit {c : UInt8} {l : List UInt8} {i : Nat} (h : FindAt c l i) (hx : l[i]? = some c) (hq : qtL (l.drop i) = none) : findP c l = some i := by
  have hlt := (List.getElem?_eq_some_iff.1 hx).1
  have hd : l.drop i = c :: l.drop (i + 1) := by
    have := (List.getElem?_eq_some_iff.1 hx).2
    rw [List.drop_eq_getElem_cons hlt, this]
  rw [h.2, hd, findP_cons (by rw [← hd]; exact hq), if_pos rfl]; simp
theorem findAt_end {c : UInt8} {l : List UInt8} {i : Nat} (h : FindAt c l i) (hi : ¬ i < l.length) : findP c l = none := by
  rw [h.2, List.drop_of_length_le (by omega)]; rfl
/-- A place, or -1. -/
def fv : Option Nat → Int
  | none => -1
  | some i => i
end Go.Proofs.YtinfnfgflcjfmaaGreatDoor

/-
  PLAIN, for the walks of props: two sets that meet, step by step; what a line adds, in the program's order; the clash, set by set.
-/
namespace Go.Proofs.YtinfnfgflcjfmaaGreatDoor

def MeetAt (a b : List (Int × Int)) (i j : Nat) : Prop := i ≤ a.length ∧ j ≤ b.length ∧ meetB a b = meetB (a.drop i) (b.drop j)
theorem meetAt_first (a b : List (Int × Int)) : MeetAt a b 0 0 := ⟨by omega, by omega, by rw [List.drop_zero, List.drop_zero]⟩
theorem Nf_drop {l : List (Int × Int)} (k : Nat) (h : Nf l) : Nf (l.drop k) := by
  rw [← List.take_append_drop k l] at h
  exact ((Nf_append _ _).1 h).2.1
theorem drop_at {α : Type} {l : List α} {i : Nat} {x : α} (h : l[i]? = some x) : l.drop i = x :: l.drop (i + 1) := by
  obtain ⟨hlt, e⟩ := List.getElem?_eq_some_iff.1 h
  rw [List.drop_eq_getElem_cons hlt, e]
theorem meetAt_left {a b : List (Int × Int)} {i j : Nat} {x y : Int × Int} (h : MeetAt a b i j) (hb : Nf b) (hx : a[i]? = some x) (hy : b[j]? = some y) (hlt : x.2 < y.1) : MeetAt a b (i + 1) j := by
  have h1 := (List.getElem?_eq_some_iff.1 hx).1
  refine ⟨h1, h.2.1, ?_⟩
  rw [h.2.2, drop_at hx, drop_at hy]
  exact meetB_left (by rw [← drop_at hy]; exact Nf_drop j hb) hlt
theorem meetAt_right {a b : List (Int × Int)} {i j : Nat} {x y : Int × Int} (h : MeetAt a b i j) (ha : Nf a) (hx : a[i]? = some x) (hy : b[j]? = some y) (hlt : y.2 < x.1) : MeetAt a b i (j + 1) := by
  have h1 := (List.getElem?_eq_some_iff.1 hy).1
  refine ⟨h.1, h1, ?_⟩
  rw [h.2.2, drop_at hx, drop_at hy]
  exact meetB_right (by rw [← drop_at hx]; exact Nf_drop i ha) hlt
theorem meetAt_here {a b : List (Int × Int)} {i j : Nat} {x y : Int × Int} (h : MeetAt a b i j) (hx : a[i]? = some x) (hy : b[j]? = some y) (h1 : ¬ x.2 < y.1) (h2 : ¬ y.2 < x.1) : meetB a b = true := by
  rw [h.2.2, drop_at hx, drop_at hy]
  exact meetB_here h1 h2
theorem meetAt_end {a b : List (Int × Int)} {i j : Nat} (h : MeetAt a b i j) (hij : ¬ i < a.length ∨ ¬ j < b.length) : meetB a b = false := by
  rw [h.2.2]
  rcases hij with hi | hj
  · rw [List.drop_of_length_le (by omega)]; exact meetB_nil_left _
  · rw [List.drop_of_length_le (l := b) (by omega)]; exact meetB_nil_right _

/-- How far the clash has been looked for. -/
def ClashAt (d : DbP) (c : Nat) (l : List (Int × Int)) (k : Nat) : Prop := ∀ q, q < k → q ≠ c → meetB (d.sets.getD q []) l = false
theorem clashAt_first (d : DbP) (c : Nat) (l : List (Int × Int)) : ClashAt d c l 0 := fun q hq => by omega
theorem clashAt_next {d : DbP} {c : Nat} {l s : List (Int × Int)} {k : Nat} (h : ClashAt d c l k) (hs : d.sets[k]? = some s) (hk : k = c ∨ meetB s l = false) : ClashAt d c l (k + 1) := fun q hq hqc => by
  rcases Nat.lt_or_ge q k with hlt | hge
  · exact h q hlt hqc
  · obtain rfl : q = k := by omega
    rcases hk with e | e
    · exact absurd e hqc
    · rw [List.getD_eq_getElem?_getD, hs]; exact e
theorem clashAt_end {d : DbP} {c : Nat} {l : List (Int × Int)} {k : Nat} (h : ClashAt d c l k) (hk : ¬ k < d.sets.length) : d.clash c l = false := by
  unfold DbP.clash
  rw [List.any_eq_false]
  intro q hq
  have := List.mem_range.1 hq
  by_cases e : q = c
  · simp [e]
  · rw [h q (by omega) e]; simp
theorem clash_here {d : DbP} {c : Nat} {l s : List (Int × Int)} {k : Nat} (hs : d.sets[k]? = some s) (hk : k ≠ c) (h : meetB s l = true) : d.clash c l = true := by
  unfold DbP.clash
  rw [List.any_eq_true]
  refine ⟨k, List.mem_range.2 (List.getElem?_eq_some_iff.1 hs).1, ?_⟩
  rw [List.getD_eq_getElem?_getD, hs]
  simp [hk, h]

/-- What the program's add does with a line that says something. -/
def addS (d : DbP) (u : List UInt8) : Except Int DbP :=
  match findP 59 u with
  | none => .error 42
  | some j => addL d (trimL (u.drop (j + 1))) (u.take j)
/-- The line as the program trims it. -/
def lineU (l : List UInt8) : List UInt8 := trimL (l.take (hashP l))
theorem step_nil {d : DbP} {l : List UInt8} (h : lineU l = []) : stepL d l = .ok d := by
  unfold stepL lineP
  simp only [show trimL (l.take (hashP l)) = [] from h, if_true]
theorem step_add {d : DbP} {l : List UInt8} (h : lineU l ≠ []) : stepL d l = addS d (lineU l) := by
  unfold stepL lineP addS
  simp only [show trimL (l.take (hashP l)) = lineU l from rfl, if_neg h]
  cases findP 59 (lineU l) with
  | none => rfl
  | some j => rfl
/-- A name's number: the old one, or a new one; or there are too many. -/
def nbrP (d : DbP) (n : List UInt8) : Except Int Nat := match d.num n with
  | some c => .ok c
  | none => if 64 ≤ d.names.length then .error 6 else .ok d.names.length
/-- The database with a set more. -/
def putP (d : DbP) (n : List UInt8) (c : Nat) (l : List (Int × Int)) : DbP :=
  if c = d.names.length then ⟨d.names ++ [n], d.sets ++ [orR [] l]⟩ else ⟨d.names, d.sets.set c (orR (d.sets.getD c []) l)⟩
theorem addS_none {d : DbP} {u : List UInt8} (h : findP 59 u = none) : addS d u = .error 42 := by unfold addS; rw [h]
section
variable {d : DbP} {u : List UInt8} {j : Nat} (h : findP 59 u = some j)
include h
theorem addS_name (hn : nameL (trimL (u.drop (j + 1))) = false ∨ trimL (u.drop (j + 1)) = otherL) : addS d u = .error 40 := by
  unfold addS addL; rw [h]; simp only [if_pos hn]
theorem addS_parse (hn : ¬ (nameL (trimL (u.drop (j + 1))) = false ∨ trimL (u.drop (j + 1)) = otherL)) {e : Int} (hp : parseE (spcL (u.take j)) = .error e) : addS d u = .error e := by
  unfold addS addL; rw [h]; simp only [if_neg hn, hp]
theorem addS_many (hn : ¬ (nameL (trimL (u.drop (j + 1))) = false ∨ trimL (u.drop (j + 1)) = otherL)) {l : List (Int × Int)} (hp : parseE (spcL (u.take j)) = .ok l) {e : Int} (hm : nbrP d (trimL (u.drop (j + 1))) = .error e) : addS d u = .error e := by
  unfold addS addL; rw [h]; simp only [if_neg hn, hp]
  unfold nbrP at hm
  cases hq : d.num (trimL (u.drop (j + 1))) with
  | some c => rw [hq] at hm; cases hm
  | none =>
    rw [hq] at hm
    simp only at hm ⊢
    split at hm
    · rename_i h6; rw [if_pos h6]; injection hm with hm; rw [hm]
    · cases hm
theorem addS_clash (hn : ¬ (nameL (trimL (u.drop (j + 1))) = false ∨ trimL (u.drop (j + 1)) = otherL)) {l : List (Int × Int)} (hp : parseE (spcL (u.take j)) = .ok l) {c : Nat} (hm : nbrP d (trimL (u.drop (j + 1))) = .ok c) (hc : d.clash c (normR l) = true) : addS d u = .error 41 := by
  unfold addS addL; rw [h]; simp only [if_neg hn, hp]
  unfold nbrP at hm
  cases hq : d.num (trimL (u.drop (j + 1))) with
  | some c' => rw [hq] at hm; injection hm with hm; subst hm; simp only [hc, if_true]
  | none =>
    rw [hq] at hm
    simp only at hm ⊢
    split at hm
    · cases hm
    · rename_i h6; rw [if_neg h6]; injection hm with hm; subst hm; simp only [hc, if_true]
theorem addS_ok (hn : ¬ (nameL (trimL (u.drop (j + 1))) = false ∨ trimL (u.drop (j + 1)) = otherL)) {l : List (Int × Int)} (hp : parseE (spcL (u.take j)) = .ok l) {c : Nat} (hm : nbrP d (trimL (u.drop (j + 1))) = .ok c) (hc : d.clash c (normR l) = false) : addS d u = .ok (putP d (trimL (u.drop (j + 1))) c (normR l)) := by
  unfold addS addL; rw [h]; simp only [if_neg hn, hp]
  unfold nbrP at hm
  cases hq : d.num (trimL (u.drop (j + 1))) with
  | some c' =>
    rw [hq] at hm; injection hm with hm; subst hm
    have := (List.getElem?_eq_some_iff.1 (idxOf?_some (show d.names.idxOf? _ = some c' from hq))).1
    simp only [hc, putP, if_neg (show ¬ c' = d.names.length by omega)]
    rfl
  | none =>
    rw [hq] at hm
    simp only at hm ⊢
    split at hm
    · cases hm
    · rename_i h6; rw [if_neg h6]; injection hm with hm; subst hm; simp only [hc, putP, if_true]; rfl
end
theorem nbrP_le {d : DbP} {n : List UInt8} {c : Nat} (h : nbrP d n = .ok c) : c ≤ d.names.length := by
  unfold nbrP at h
  cases hq : d.num n with
  | some c' =>
    rw [hq] at h; injection h with h; subst h
    exact Nat.le_of_lt (List.getElem?_eq_some_iff.1 (idxOf?_some (show d.names.idxOf? _ = some c' from hq))).1
  | none =>
    rw [hq] at h; simp only at h
    split at h
    · cases h
    · injection h with h; omega
end Go.Proofs.YtinfnfgflcjfmaaGreatDoor

/-
  PLAIN, for the walks of props: all ranges gathered; the binary search; the lines one by one; the text class by class.
-/
namespace Go.Proofs.YtinfnfgflcjfmaaGreatDoor

/-- What close has gathered: of the sets ahead of number c + 1 all, of the next one the first k. -/
def gotR (S : List (List (Int × Int))) (c k : Nat) : List (Int × Int × Nat) := entG 1 (S.take c) ++ ((S.getD c []).take k).map fun x => (x.1, x.2, c + 1)
theorem gotR_first (S : List (List (Int × Int))) : gotR S 0 0 = [] := by simp [gotR, entG]
theorem gotR_in {S : List (List (Int × Int))} {c k : Nat} {s : List (Int × Int)} {x : Int × Int} (hs : S[c]? = some s) (hx : s[k]? = some x) : gotR S c (k + 1) = gotR S c k ++ [(x.1, x.2, c + 1)] := by
  unfold gotR
  rw [List.getD_eq_getElem?_getD, hs, Option.getD_some, List.take_add_one, hx, Option.toList_some, List.map_append, List.append_assoc]; rfl
theorem gotR_out {S : List (List (Int × Int))} {c k : Nat} {s : List (Int × Int)} (hs : S[c]? = some s) (hk : ¬ k < s.length) : gotR S c k = gotR S (c + 1) 0 := by
  unfold gotR
  rw [List.getD_eq_getElem?_getD, hs, Option.getD_some, List.take_of_length_le (l := s) (i := k) (by omega), List.take_zero, List.map_nil, List.append_nil, List.take_add_one, hs, Option.toList_some, entG_append]
  have hlt := (List.getElem?_eq_some_iff.1 hs).1
  rw [List.length_take, Nat.min_eq_left (Nat.le_of_lt hlt)]
  simp [entG, Nat.add_comm]
theorem gotR_end {S : List (List (Int × Int))} {c : Nat} (hc : ¬ c < S.length) : gotR S c 0 = entG 1 S := by
  unfold gotR
  rw [List.take_of_length_le (by omega), List.take_zero, List.map_nil, List.append_nil]
theorem flat_next {S : List (List (Int × Int))} {c : Nat} {s : List (Int × Int)} (hs : S[c]? = some s) : (S.take (c + 1)).flatten = (S.take c).flatten ++ s := by
  rw [List.take_add_one, hs, Option.toList_some, List.flatten_append]; simp
theorem gotR_len {S : List (List (Int × Int))} {c k : Nat} : (gotR S c k).length ≤ lenS S := by
  unfold gotR
  rw [List.length_append, List.length_map, entG_len, List.length_take]
  rcases Nat.lt_or_ge c S.length with h | h
  · have hd : S = S.take c ++ S[c] :: S.drop (c + 1) := by rw [← List.drop_eq_getElem_cons h, List.take_append_drop]
    have h2 : lenS S = lenS (S.take c) + lenS (S[c] :: S.drop (c + 1)) := by
      conv => lhs; rw [hd]
      exact lenS_append _ _
    rw [List.getD_eq_getElem?_getD, List.getElem?_eq_getElem h, Option.getD_some, h2]
    have : lenS (S[c] :: S.drop (c + 1)) = S[c].length + lenS (S.drop (c + 1)) := rfl
    omega
  · rw [List.getD_eq_getElem?_getD, List.getElem?_eq_none h, List.take_of_length_le h]; simp
theorem flat_le (S : List (List (Int × Int))) (c : Nat) : (S.take c).flatten.length ≤ lenS S := by
  rw [lenS_flat]
  have h2 : lenS S = lenS (S.take c) + lenS (S.drop c) := by
    conv => lhs; rw [← List.take_append_drop c S]
    exact lenS_append _ _
  omega

/-- How far the binary search has come. -/
structure BinAt (l : List (Int × Int × Nat)) (r : Int) (i j : Nat) : Prop where
  le : i ≤ j
  len : j ≤ l.length
  lo : ∀ t x, t < i → l[t]? = some x → x.2.1 < r
  hi : ∀ t x, j ≤ t → l[t]? = some x → ¬ x.2.1 < r
theorem binAt_first (l : List (Int × Int × Nat)) (r : Int) : BinAt l r 0 l.length := ⟨by omega, by omega, fun t x h => by omega, fun t x h hx => by have := (List.getElem?_eq_some_iff.1 hx).1; omega⟩
theorem hi_rise {l : List (Int × Int × Nat)} (hp : l.Pairwise fun a b => a.2.1 < b.1) (hl : ∀ y ∈ l, y.1 ≤ y.2.1) {t h : Nat} {x y : Int × Int × Nat} (hth : t < h) (hx : l[t]? = some x) (hy : l[h]? = some y) : x.2.1 < y.2.1 := by
  obtain ⟨h1, e1⟩ := List.getElem?_eq_some_iff.1 hx
  obtain ⟨h2, e2⟩ := List.getElem?_eq_some_iff.1 hy
  have := List.pairwise_iff_getElem.1 hp t h h1 h2 hth
  have := hl y (List.mem_of_getElem? hy)
  rw [e1, e2] at *
  omega
theorem binAt_left {l : List (Int × Int × Nat)} {r : Int} {i j h : Nat} {y : Int × Int × Nat} (hb : BinAt l r i j) (hp : l.Pairwise fun a b => a.2.1 < b.1) (hl : ∀ y ∈ l, y.1 ≤ y.2.1) (h2 : h < j) (hy : l[h]? = some y) (hlt : y.2.1 < r) : BinAt l r (h + 1) j :=
  ⟨h2, hb.len, fun t x ht hx => by
    rcases Nat.lt_or_ge t h with h3 | h3
    · have := hi_rise hp hl h3 hx hy; omega
    · obtain rfl : t = h := by omega
      rw [hy] at hx; injection hx with hx; subst hx; exact hlt, hb.hi⟩
theorem binAt_right {l : List (Int × Int × Nat)} {r : Int} {i j h : Nat} {y : Int × Int × Nat} (hb : BinAt l r i j) (hp : l.Pairwise fun a b => a.2.1 < b.1) (hl : ∀ y ∈ l, y.1 ≤ y.2.1) (h1 : i ≤ h) (h2 : h < j) (hy : l[h]? = some y) (hlt : ¬ y.2.1 < r) : BinAt l r i h :=
  ⟨h1, by have := hb.len; omega, hb.lo, fun t x ht hx => by
    rcases Nat.lt_or_ge h t with h3 | h3
    · have := hi_rise hp hl h3 hy hx; omega
    · obtain rfl : t = h := by omega
      rw [hy] at hx; injection hx with hx; subst hx; exact hlt⟩
theorem binAt_end {l : List (Int × Int × Nat)} {r : Int} {i j : Nat} (hb : BinAt l r i j) (h : ¬ i < j) : l.countP (endB r) = i := by
  obtain rfl : i = j := by have := hb.le; omega
  exact count_place hb.len hb.lo hb.hi
theorem findC_in {l : List (Int × Int × Nat)} {r : Int} {x : Int × Int × Nat} (h : l[l.countP (endB r)]? = some x) : findC l r = if x.1 ≤ r then x.2.2 else 0 := by unfold findC; rw [h]
theorem findC_out {l : List (Int × Int × Nat)} {r : Int} (h : ¬ l.countP (endB r) < l.length) : findC l r = 0 := by unfold findC; rw [List.getElem?_eq_none (by omega)]

/-- How far the lines have been read. -/
def NewAt (L : List (List UInt8)) (i : Nat) (d : DbP) : Prop := i ≤ L.length ∧ linesGo DbP.first L 0 = linesGo d (L.drop i) i ∧ d.Ok ∧ Apart d.sets
theorem newAt_first (L : List (List UInt8)) : NewAt L 0 DbP.first := ⟨by omega, by rw [List.drop_zero], DbP.first_ok, apart_first⟩
theorem stepL_apart {d d' : DbP} {l : List UInt8} (h : d.Ok) (ha : Apart d.sets) (hs : stepL d l = .ok d') : Apart d'.sets := by
  have h1 : linesGo d [l] 0 = .ok d' := by simp only [linesGo, hs]
  exact linesGo_apart h ha h1
theorem newAt_next {L : List (List UInt8)} {i : Nat} {d d' : DbP} {l : List UInt8} (h : NewAt L i d) (hl : L[i]? = some l) (hs : stepL d l = .ok d') : NewAt L (i + 1) d' :=
  ⟨(List.getElem?_eq_some_iff.1 hl).1, by rw [h.2.1, drop_at hl]; simp only [linesGo, hs], stepL_ok h.2.2.1 hs, stepL_apart h.2.2.1 h.2.2.2 hs⟩
theorem newAt_err {L : List (List UInt8)} {i : Nat} {d : DbP} {l : List UInt8} {e : Int} (h : NewAt L i d) (hl : L[i]? = some l) (hs : stepL d l = .error e) : linesGo DbP.first L 0 = .error (e, i + 1) := by
  rw [h.2.1, drop_at hl]; simp only [linesGo, hs]
theorem newAt_end {L : List (List UInt8)} {i : Nat} {d : DbP} (h : NewAt L i d) (hi : ¬ i < L.length) : linesGo DbP.first L 0 = .ok d := by
  rw [h.2.1, List.drop_of_length_le (by omega)]; rfl
theorem newP_long {t : List UInt8} (h : 65536 < t.length) : newP t = .error (1, 0) := if_pos h
theorem newP_go {t : List UInt8} (h : ¬ 65536 < t.length) : newP t = linesGo DbP.first (splitL t) 0 := if_neg h

theorem textG_take : ∀ (N : List (List UInt8)) (S : List (List (Int × Int))) (k : Nat) (n : List UInt8) (s : List (Int × Int)), N[k]? = some n → S[k]? = some s → textG (N.take (k + 1)) (S.take (k + 1)) = textG (N.take k) (S.take k) ++ (lineT s n ++ [10])
  | [], S, k, n, s, h, _ => by simp at h
  | a :: N, [], k, n, s, _, h => by simp at h
  | a :: N, b :: S, 0, n, s, h1, h2 => by simp at h1 h2; subst h1; subst h2; simp [textG]
  | a :: N, b :: S, k + 1, n, s, h1, h2 => by
    have ih := textG_take N S k n s (by simpa using h1) (by simpa using h2)
    simp only [List.take_succ_cons, textG] at ih ⊢
    rw [ih]; simp
theorem full_tail (d : DbP) : d.full.tail = d.sets.tail := rfl
theorem full_get {d : DbP} {k : Nat} : d.full[k + 1]? = d.sets.tail[k]? := rfl
theorem full_first (d : DbP) : d.full[0]? = some d.rest := rfl
theorem full_set {d : DbP} (h : d.Ok) : d.sets.set 0 d.rest = d.full := by
  have := h.head; have := h.len
  unfold DbP.full
  cases hs : d.sets with
  | nil =>
    have h1 := h.len; have h2 := h.head
    rw [hs] at h1
    cases hn : d.names with
    | nil => rw [hn] at h2; cases h2
    | cons a b => rw [hn] at h1; simp at h1
  | cons a b => rw [show d.rest = DbP.rest d from rfl]; simp
end Go.Proofs.YtinfnfgflcjfmaaGreatDoor

/-
  WORDS FOR MEMORY, props: the steps by which a database is made: a name more, a set more, a set stored. No program's walk.
-/
namespace Go.Proofs.YtinfnfgflcjfmaaGreatDoor
open Go.RowKit Go.Maps

section
variable {w : World} {base p x : Nat} {An : Option Addr} {nn cn bm nm : Nat} {D : DataW Unit} {As : Option Addr} {ns cs : Nat} {xs : List (Option Addr × Nat × Nat)} {N : List (List UInt8)} {S : List (List (Int × Int))}
theorem DbX.lenN (h : DbX w base p x An nn cn bm nm D As ns cs xs N S) : N.length = nn := by simpa using h.hn.len
theorem DbX.lenS (h : DbX w base p x An nn cn bm nm D As ns cs xs N S) : xs.length = ns ∧ S.length = ns := by
  have := h.hs.len; rw [List.length_map] at this
  exact ⟨this, by rw [← h.hx.len]; exact this⟩
theorem types_ne : (9 : TypeId) ≠ 111 ∧ (9 : TypeId) ≠ 101 ∧ (111 : TypeId) ≠ 101 ∧ (9 : TypeId) ≠ 139 ∧ (111 : TypeId) ≠ 139 ∧ (101 : TypeId) ≠ 139 := by decide
/-- Rows of ranges from base on stand as they stood. -/
def KeepR (base : Nat) (w w' : World) : Prop := ∀ (g : Nat) (cur : Array Value), base ≤ g → w.heap[g]? = some (.cells cur 139 (0, 0)) → w'.heap[g]? = w.heap[g]?
theorem KeepR.trans {base : Nat} {a b c : World} (h : KeepR base a b) (k : KeepR base b c) : KeepR base a c := fun g cur hg e => (k g cur hg ((h g cur hg e).trans e)).trans (h g cur hg e)
theorem KeepR.below {base : Nat} {w w' : World} (hb : Below w.heap.size w w') : KeepR base w w' := fun g _ _ e => hb.block g (Array.getElem?_eq_some_iff.1 e).1
theorem KeepR.grown {base : Nat} {w w' : World} {row : Option Nat} (hg : w.grownBy w' row) (hr : ∀ g (q : Array Value), row = some g → w.heap[g]? ≠ some (.cells q 139 (0, 0))) : KeepR base w w' := fun g cur _ e => hg.block g (Array.getElem?_eq_some_iff.1 e).1 fun k => hr g cur k.symm e
theorem KeepR.setCell {base : Nat} {w : World} {q : Addr} (hq : ∀ r : Array Value, w.heap[q.block]? ≠ some (.cells r 139 (0, 0))) (u : Value) : KeepR base w (w.setCell q u) := fun g cur _ e => Below.heap_setCell w q u g fun k => hq cur (by rw [← k]; exact e)
theorem Own.keepR {base b : Nat} {w w' : World} {A : Option Addr} {n c : Nat} {cs : List (List Value)} (h : Own w b 139 2 A n c cs) (k : KeepR base w w') (hb : base ≤ b) : Own w' b 139 2 A n c cs := by
  refine h.keep fun a ha => ?_
  rcases h.2.2.2 with ⟨h0, _⟩ | ⟨g1, cap1, cur1, hv1, hg, hh1, _⟩
  · injection h0 with h0; rw [h0] at ha; cases ha
  · injection hv1 with hv1; rw [hv1] at ha; injection ha with ha; subst ha
    exact k g1 cur1 (by omega) hh1
/-- Behind the map's update: all but the map. -/
theorem DbX.mapped {w1 : World} (h : DbX w base p x An nn cn bm nm D As ns cs xs N S) (hg : w.grownBy w1 (some bm)) :
    Blk w1 p 101 #[.slice An nn cn, .map (some bm), .slice As ns cs, .slice none 0 0] ∧ Own w1 base 9 1 An nn cn (N.map encNm) ∧ Own w1 base 111 1 As ns cs (xs.map encSl) ∧ Sets w1 base xs S :=
  ⟨h.blk.grown hg (fun e => h.blk.offMap h.hm (by injection e)), h.hn.grown hg (fun a ha e => h.hn.offMap h.hm a ha (by injection e)), h.hs.grown hg (fun a ha e => h.hs.offMap h.hm a ha (by injection e)),
    h.hx.grown hg (fun g q e => by injection e with e; subst e; exact map_not_R h.hm q)⟩
/-- A name more. -/
theorem DbX.named {w1 w3 : World} {o : Obj} {n : List UInt8} {k : Int} {A3 : Option Addr} {c3 : Nat} (h : DbX w base p x An nn cn bm nm D As ns cs xs N S) (hk : k = N.length) (hown : w1.ownsMap Tryz.prog 9 (plainElem (H := Unit) Tryz.prog 3) bm (nm + 1) (D.put (.string n) (.lit (.int .i64 k))))
    (hg1 : w.grownBy w1 (some bm)) (ho3 : Own w3 base 9 1 A3 (nn + 1) c3 ((N ++ [n]).map encNm)) (hg3 : (w1.alloc o).grownBy w3 (An.map (·.block))) (hA3 : A3 = An ∨ A3 = some ⟨(w1.alloc o).heap.size, 0, none⟩) (hx : x < w.heap.size) (hB : base ≤ w.heap.size) :
    Blk w3 p 101 #[.slice An nn cn, .map (some bm), .slice As ns cs, .slice none 0 0] ∧ DbX (w3.setCell ⟨p, 0, none⟩ (.slice A3 (nn + 1) c3)) base p x A3 (nn + 1) c3 bm (nm + 1) (D.put (.string n) (.lit (.int .i64 k))) As ns cs xs (N ++ [n]) S ∧
      KX base x w (w3.setCell ⟨p, 0, none⟩ (.slice A3 (nn + 1) c3)) ∧ KeepR base w (w3.setCell ⟨p, 0, none⟩ (.slice A3 (nn + 1) c3)) := by
  obtain ⟨t1, t2, t3, t4, t5, t6⟩ := types_ne
  obtain ⟨b1, n1, s1, x1⟩ := h.mapped hg1
  have hg := grown_alloc hg3
  have hpA : ∀ a, An = some a → a.block ≠ p := n1.off b1 t2
  have b3 : Blk w3 p 101 #[.slice An nn cn, .map (some bm), .slice As ns cs, .slice none 0 0] := b1.grown hg (fun e => by cases An with | none => cases e | some a => simp at e; exact hpA a rfl e.symm)
  have s3 : Own w3 base 111 1 As ns cs (xs.map encSl) := s1.grown hg (fun a ha e => by cases An with | none => cases e | some b => simp at e; exact n1.apart s1 t1 b a rfl ha e.symm)
  have x3 : Sets w3 base xs S := x1.grown hg (fun g q e => own_not_R n1 t4 g q e)
  have m3 := map_kept hown hg (fun e => by cases An with | none => cases e | some a => simp at e; exact n1.offMap hown a rfl e.symm)
  have hsz1 := hg1.size
  have hxA3 : ∀ a, A3 = some a → a.block ≠ x := fun a ha => by
    rcases hA3 with e | e
    · exact h.xn a (by rw [← e]; exact ha)
    · rw [e] at ha; injection ha with ha; subst ha; simp; omega
  refine ⟨b3, ⟨?_, h.pb, ?_, ?_, ?_, h.bb, h.hD.put n hk, ?_, ?_, h.xp, h.xb, hxA3, h.xs_⟩, ?_, ?_⟩
  · have := b3.set_ 0 (.slice A3 (nn + 1) c3)
    simpa using this
  · exact ho3.setCell (fun a ha => ho3.off b3 t2 a ha) _
  · exact map_setCell m3 (fun e => b3.offMap m3 e.symm) _
  · have := h.nle; omega
  · exact s3.setCell (fun a ha => s3.off b3 t3 a ha) _
  · exact x3.setCell (blk_not_R b3 t6) _
  · refine (KX.grown hg1 hB (fun k hk => by injection hk with hk; subst hk; exact ⟨h.bb, fun e => h.xb e.symm⟩)).trans ((KX.grown hg (by omega) (fun k hk => ?_)).trans (KX.setCell w3 h.pb (fun e => h.xp e.symm) _))
    cases An with
    | none => cases hk
    | some a => simp at hk; subst hk; exact ⟨(n1.lt a rfl).1, h.xn a rfl⟩
  · exact (KeepR.grown hg1 (fun g q e => by injection e with e; subst e; exact map_not_R h.hm q)).trans ((KeepR.grown hg (fun g q e => own_not_R n1 t4 g q e)).trans (KeepR.setCell (blk_not_R b3 t6) _))
/-- A set more: none yet. -/
theorem DbX.moreSet {w3 : World} {o : Obj} {A3 : Option Addr} {c3 : Nat} (h : DbX w base p x An nn cn bm nm D As ns cs xs N S) (ho3 : Own w3 base 111 1 A3 (ns + 1) c3 ((xs ++ [(none, 0, 0)]).map encSl))
    (hg3 : (w.alloc o).grownBy w3 (As.map (·.block))) (hA3 : A3 = As ∨ A3 = some ⟨(w.alloc o).heap.size, 0, none⟩) (hx : x < w.heap.size) (hB : base ≤ w.heap.size) :
    Blk w3 p 101 #[.slice An nn cn, .map (some bm), .slice As ns cs, .slice none 0 0] ∧ DbX (w3.setCell ⟨p, 2, none⟩ (.slice A3 (ns + 1) c3)) base p x An nn cn bm nm D A3 (ns + 1) c3 (xs ++ [(none, 0, 0)]) N (S ++ [[]]) ∧
      KX base x w (w3.setCell ⟨p, 2, none⟩ (.slice A3 (ns + 1) c3)) ∧ KeepR base w (w3.setCell ⟨p, 2, none⟩ (.slice A3 (ns + 1) c3)) := by
  obtain ⟨t1, t2, t3, t4, t5, t6⟩ := types_ne
  have hg := grown_alloc hg3
  have b3 : Blk w3 p 101 #[.slice An nn cn, .map (some bm), .slice As ns cs, .slice none 0 0] := h.blk.grown hg (fun e => by cases As with | none => cases e | some a => simp at e; exact h.hs.off h.blk t3 a rfl e.symm)
  have n3 : Own w3 base 9 1 An nn cn (N.map encNm) := h.hn.grown hg (fun a ha e => by cases As with | none => cases e | some b => simp at e; exact h.hn.apart h.hs t1 a b ha rfl e)
  have x3 : Sets w3 base xs S := h.hx.grown hg (fun g q e => own_not_R h.hs t5 g q e)
  have m3 := map_kept h.hm hg (fun e => by cases As with | none => cases e | some a => simp at e; exact h.hs.offMap h.hm a rfl e.symm)
  have hxA3 : ∀ a, A3 = some a → a.block ≠ x := fun a ha => by
    rcases hA3 with e | e
    · exact h.xs_ a (by rw [← e]; exact ha)
    · rw [e] at ha; injection ha with ha; subst ha; simp; omega
  refine ⟨b3, ⟨?_, h.pb, ?_, ?_, h.nle, h.bb, h.hD, ?_, ?_, h.xp, h.xb, h.xn, hxA3⟩, ?_, ?_⟩
  · have := b3.set_ 2 (.slice A3 (ns + 1) c3)
    simpa using this
  · exact n3.setCell (fun a ha => n3.off b3 t2 a ha) _
  · exact map_setCell m3 (fun e => b3.offMap m3 e.symm) _
  · exact ho3.setCell (fun a ha => ho3.off b3 t3 a ha) _
  · exact (x3.setCell (blk_not_R b3 t6) _).snoc (Own.nil_ _ _ _ _)
  · refine (KX.grown hg hB (fun k hk => ?_)).trans (KX.setCell w3 h.pb (fun e => h.xp e.symm) _)
    cases As with
    | none => cases hk
    | some a => simp at hk; subst hk; exact ⟨(h.hs.lt a rfl).1, h.xs_ a rfl⟩
  · exact (KeepR.grown hg (fun g q e => own_not_R h.hs t5 g q e)).trans (KeepR.setCell (blk_not_R b3 t6) _)
theorem Own.storedSl {w : World} {base : Nat} {e : TypeId} {g n c k : Nat} {xs : List (Option Addr × Nat × Nat)} (h : Own w base e 1 (some ⟨g, 0, none⟩) n c (xs.map encSl)) (hk : k < xs.length) (y : Option Addr × Nat × Nat) :
    Own (w.setCell ⟨g, k, none⟩ (.slice y.1 y.2.1 y.2.2)) base e 1 (some ⟨g, 0, none⟩) n c ((xs.set k y).map encSl) := by
  have h1 := h.stored (k := k) (j := 0) (x := encSl xs[k]) (by simp [hk]) (by omega) (.slice y.1 y.2.1 y.2.2)
  rw [Nat.mul_one, Nat.add_zero] at h1
  have e : (xs.map encSl).set k ((encSl xs[k]).set 0 (.slice y.1 y.2.1 y.2.2)) = (xs.set k y).map encSl := by rw [List.map_set]; rfl
  rw [e] at h1
  exact h1
theorem Own.cell' {w : World} {base n c g k : Nat} {e : TypeId} {A : Option Addr} {xs : List (Option Addr × Nat × Nat)} {y : Option Addr × Nat × Nat} (h : Own w base e 1 A n c (xs.map encSl)) (hA : A = some ⟨g, 0, none⟩) (hy : xs[k]? = some y) : w.cell? ⟨g, k, none⟩ = some (.slice y.1 y.2.1 y.2.2) := by
  subst hA
  have := h.cell (k := k) (j := 0) (x := encSl y) (u := .slice y.1 y.2.1 y.2.2) (by rw [List.getElem?_map, hy]; rfl) rfl
  simpa using this
/-- A set stored. -/
theorem DbX.storeSet {g k b' : Nat} {y : Option Addr × Nat × Nat} {l : List (Int × Int)} (h : DbX w base p x An nn cn bm nm D (some ⟨g, 0, none⟩) ns cs xs N S) (hk : k < ns) (ho : Own w b' 139 2 y.1 y.2.1 y.2.2 (l.map encR)) (hb : base ≤ b') :
    DbX (w.setCell ⟨g, k, none⟩ (.slice y.1 y.2.1 y.2.2)) base p x An nn cn bm nm D (some ⟨g, 0, none⟩) ns cs (xs.set k y) N (S.set k l) ∧ KX base x w (w.setCell ⟨g, k, none⟩ (.slice y.1 y.2.1 y.2.2)) := by
  obtain ⟨t1, t2, t3, t4, t5, t6⟩ := types_ne
  have hgp : g ≠ p := h.hs.off h.blk t3 _ rfl
  refine ⟨⟨h.blk.far (p := ⟨g, k, none⟩) (Ne.symm hgp) _, h.pb, ?_, ?_, h.nle, h.bb, h.hD, ?_, ?_, h.xp, h.xb, h.xn, h.xs_⟩, KX.setCell w (q := ⟨g, k, none⟩) (h.hs.lt _ rfl).1 (h.xs_ ⟨g, 0, none⟩ rfl) _⟩
  · exact h.hn.setCell (p := ⟨g, k, none⟩) (fun a ha e => h.hn.apart h.hs t1 a ⟨g, 0, none⟩ ha rfl e) _
  · exact map_setCell h.hm (q := ⟨g, k, none⟩) (fun e => h.hs.offMap h.hm ⟨g, 0, none⟩ rfl e.symm) _
  · exact h.hs.storedSl (by rw [h.lenS.1]; exact hk) y
  · refine Sets.set_ (h.hx.setCell (q := ⟨g, k, none⟩) (fun r => own_not_R h.hs t5 g r rfl) _) ?_
    exact (ho.setCell (p := ⟨g, k, none⟩) (fun a ha e => ho.apart h.hs (Ne.symm t5) a ⟨g, 0, none⟩ ha rfl e) _).more hb
end
end Go.Proofs.YtinfnfgflcjfmaaGreatDoor

/-
  kerfref02.Is, Has, Or, Not, And, Minus.
-/
namespace Go.Proofs.YtinfnfgflcjfmaaGreatDoor
open Go.RowKit

set_option maxHeartbeats 400000 in
theorem sHas_any (A : Option Addr) (n c : Nat) (l : List (Int × Int)) (r : Int) (w : World) (hA : Rd w 2 A (l.map encR)) (hl : l.length = n) (hn : n ≤ 4000000) :
    Calls Tryz.prog 97 #[.slice A n c, .int .i32 r] w fun e w' => e = .returned (.bool (hasB l r)) ∧ w = w' := by
  have Hl := Lib.hid hl
  clear hl
  by_cases h0 : 0 ≤ r ∧ r ≤ 1114111
  · obtain ⟨h0, h1⟩ := h0
    go_enter Tryz.func97, Tryz.ntmps97
    go_wp2
    go_loop [5] (fun i => ∃ k : Nat, k ≤ n ∧ i = .int .i64 k ∧ Hid (∀ x ∈ l.take k, ¬ (x.1 ≤ r ∧ r ≤ x.2))) (fun i => n - (intOf i).toNat)
    case atStart => exact ⟨0, by omega, rfl, by simp [Hid]⟩
    case round =>
      obtain ⟨k, hk, rfl, HE⟩ := hrel
      by_cases hlt : k < n
      · obtain ⟨b, off, lo, hi, rfl, Hx, hx1, hx2⟩ := hA.atR (k := k) (by have := Hl.out; omega)
        by_cases hlo : lo ≤ r <;> by_cases hhi : r ≤ hi
        · have HT : Hid (hasB l r = true) := hasB_true ⟨h0, h1, (lo, hi), List.mem_of_getElem? Hx.out, hlo, hhi⟩
          go_wp2
          go_ret
          exact ⟨ret_bool HT.out.symm, rfl⟩
        all_goals
          have HE' : Hid (∀ x ∈ l.take (k + 1), ¬ (x.1 ≤ r ∧ r ≤ x.2)) := Lib.hid (fun x hx => by
            rw [List.take_add_one, Hx.out] at hx
            rcases List.mem_append.1 hx with hx | hx
            · exact HE.out x hx
            · simp at hx; subst hx; simp only; omega)
          go_wp2
          go_round
          case rel => exact ⟨k + 1, by omega, by go_num, HE'⟩
          case measure => simp [intOf]; omega
      · have HF : Hid (hasB l r = false) := hasB_false (fun ⟨_, _, x, hx, h⟩ => HE.out x (by rw [List.take_of_length_le (by have := Hl.out; omega)]; exact hx) h)
        go_wp2
        go_ret
        exact ⟨ret_bool HF.out.symm, rfl⟩
  · have HF : Hid (hasB l r = false) := hasB_false (fun h => h0 ⟨h.1, h.2.1⟩)
    by_cases h1 : 0 ≤ r
    all_goals
      go_enter Tryz.func97, Tryz.ntmps97
      go_wp2
      go_loop [5] (fun i => ∃ k : Nat, k ≤ n ∧ i = .int .i64 k) (fun i => n - (intOf i).toNat)
      case atStart => exact ⟨0, by omega, rfl⟩
      case round =>
        obtain ⟨k, hk, rfl⟩ := hrel
        by_cases hlt : k < n
        · have h2 : ¬ r ≤ 1114111 ∨ ¬ 0 ≤ r := by omega
          first
            | (have h3 : 1114111 < r := by omega
               clear h2 h0
               go_wp2
               go_round
               case rel => exact ⟨k + 1, by omega, by go_num⟩
               case measure => simp [intOf]; omega)
            | (have h3 : r < 0 := by omega
               clear h2 h0
               go_wp2
               go_round
               case rel => exact ⟨k + 1, by omega, by go_num⟩
               case measure => simp [intOf]; omega)
        · clear h0
          go_wp2
          go_ret
          exact ⟨ret_bool HF.out.symm, rfl⟩

set_option maxHeartbeats 400000 in
theorem sOr_any (A A2 : Option Addr) (n c n2 c2 : Nat) (a b : List (Int × Int)) (w : World) (hA : Rd w 2 A (a.map encR)) (hB : Rd w 2 A2 (b.map encR)) (ha : a.length = n) (hb : b.length = n2) (hn : n + n2 ≤ 4000000) :
    Calls Tryz.prog 142 #[.slice A n c, .slice A2 n2 c2] w fun e w' => ∃ A' n' c', e = .returned (.slice A' n' c') ∧ Own w' w.heap.size 139 2 A' n' c' ((orR a b).map encR) ∧ Below w.heap.size w w' := by
  obtain ⟨i0, hi0, hz0, hz1, hz2⟩ := info_parts infoR
  have Ha := Lib.hid ha
  have Hb := Lib.hid hb
  clear ha hb
  go_enter Tryz.func142, Tryz.ntmps142
  go_wp2_with (first
    | (at_builtin; refine wpList_app rfl (.tmp 5) (.tmp 6) _ rfl w.heap.size 139 i0 _ 2 8 Tryz.underlying111 hi0 hz0 hz1 hz2 rfl (by omega) (some ⟨w.heap.size, 0, none⟩) 0 0 [] rfl (Own.lit w _ _ _ (Nat.le_refl _)) A n c (a.map encR) rfl (by simpa using Ha.out) (hA.alloc _) (encR_ok a) (by unfold maxLen; omega) (by omega) (by simp) ?_; intro A3 c3 w3 ho3' hg3 _; have ho3 : Own w3 w.heap.size 139 2 A3 n c3 (a.map encR) := (by simpa using ho3'); clear ho3'; have hb3 := below_app ((Below.refl _ w).alloc (Nat.le_refl _) (.cells #[] 139)) hg3 (by simp) (fun a ha => by cases ha; exact Nat.le_refl _); clear hg3)
    | (at_builtin; refine wpList_app rfl (.tmp 7) (.tmp 8) _ rfl w.heap.size 139 i0 _ 2 8 Tryz.underlying111 hi0 hz0 hz1 hz2 rfl (by omega) A3 n c3 (a.map encR) rfl ho3 A2 n2 c2 (b.map encR) rfl (by simpa using Hb.out) (hB.below hb3) (encR_ok b) (by unfold maxLen; omega) (by omega) hb3.size ?_; intro A4 c4 w4 ho4 hg4 _; have hb4 := below_app hb3 hg4 hb3.size (fun a ha => (ho3.lt a ha).1); clear hg4)
    | (go_at_call 173; refine (sNorm_any A4 (n + n2) c4 (a ++ b) _ (by simpa using ho4.rd (by omega)) (by simp; have := Ha.out; have := Hb.out; omega) (by omega)).mono ?_; rintro e w5 ⟨A5, n5, c5, rfl, ho5, hb5⟩))
  go_ret
  exact ⟨_, _, _, rfl, ho5.more hb4.size, below_step hb4 hb5 hb4.size⟩
end Go.Proofs.YtinfnfgflcjfmaaGreatDoor

/-
  kerfref02.Not, And, Minus.
-/
namespace Go.Proofs.YtinfnfgflcjfmaaGreatDoor
open Go.RowKit

theorem own_nf_len {w : World} {base : Nat} {e : TypeId} {A : Option Addr} {n c : Nat} {l : List (Int × Int)} (h : Own w base e 2 A n c (l.map encR)) (hl : NF l) : n ≤ 557056 := by
  have := h.len; simp at this; have := hl.len; omega

set_option maxHeartbeats 400000 in
theorem sNot_any (A : Option Addr) (n c : Nat) (l : List (Int × Int)) (w : World) (hA : Rd w 2 A (l.map encR)) (hl : l.length = n) (hn : n ≤ 4000000) :
    Calls Tryz.prog 143 #[.slice A n c] w fun e w' => ∃ A' n' c', e = .returned (.slice A' n' c') ∧ Own w' w.heap.size 139 2 A' n' c' ((notR l).map encR) ∧ Below w.heap.size w w' := by
  obtain ⟨i0, hi0, hz0, hz1, hz2⟩ := info_parts infoR
  have Hl := Lib.hid hl
  clear hl
  have HNF := Lib.hid (normR_NF l)
  go_enter Tryz.func143, Tryz.ntmps143
  go_wp2_with (go_at_call 173; go_must (refine (sNorm_any A n c l _ hA Hl.out hn).mono ?_); rintro e w1 ⟨A1, n1, c1, rfl, ho1, hb1⟩)
  have hn1 := own_nf_len ho1 HNF.out
  have hrd := ho1.rd (by omega)
  have Hn1 : Hid ((normR l).length = n1) := Lib.hid (by simpa using ho1.len)
  have hbs1 := hb1.size
  clear ho1
  go_loopw [4, 5, 6] (fun v x i wr => ∃ (k : Nat) (A2 : Option Addr) (n2 c2 : Nat) (o : List (Int × Int)) (next : Int), k ≤ n1 ∧ n2 ≤ k ∧ v = .slice A2 n2 c2 ∧ x = .int .i32 next ∧ i = .int .i64 k ∧ 0 ≤ next ∧ next ≤ 1114112 ∧
      Own wr w1.heap.size 139 2 A2 n2 c2 (o.map encR) ∧ Hid (o ++ notGo next ((normR l).drop k) = notR l) ∧ Below w1.heap.size w1 wr) (fun _ _ i _ => n1 - (intOf i).toNat)
  case atStart => exact ⟨0, none, 0, 0, [], 0, by omega, by omega, rfl, rfl, rfl, by omega, by omega, Own.nil_ _ _ _ _, rfl, Below.refl _ _⟩
  case round =>
    obtain ⟨k, A2, n2, c2, o, next, hk, hn2, rfl, rfl, rfl, hx0, hx1, ho, HO, hb⟩ := hrel
    have hbs := hb.size
    by_cases hlt : k < n1
    · obtain ⟨b, off, lo, hi, rfl, Hx, hc1, hc2⟩ := hrd.atR (k := k) (by have := Hn1.out; omega)
      have hr1 := cell_keep hc1 hb
      have hr2 := cell_keep hc2 hb
      obtain ⟨hb0, hb1', hb2⟩ : 0 ≤ lo ∧ lo ≤ hi ∧ hi ≤ 1114111 := by
        have hm := List.mem_of_getElem? Hx.out
        have := HNF.out.2 _ hm; have := Nf_le HNF.out.1 _ hm; simp only at *; omega
      have HD := Lib.hid (drop_cons_of Hx.out)
      by_cases hc : next < lo
      · go_wp2_with (at_builtin; go_must (refine wpList_app rfl (.tmp 22) (.tmp 31) _ rfl w1.heap.size 139 i0 _ 2 8 Tryz.underlying111 hi0 hz0 hz1 hz2 rfl (by omega) A2 n2 c2 (o.map encR) rfl (ho.alloc _) _ 1 1 [encR (next, lo - 1)] rfl rfl (Rd.newAt (by simp) rfl) (encR_ok [(next, lo - 1)]) (by unfold maxLen; omega) (by omega) (by simp; omega) ?_); intro A3 c3 w3 ho3 hg3 hA3; have hb3 := below_app (hb.alloc hbs (.cells #[.int .i32 next, .int .i32 (lo - 1)] 139)) hg3 (by simp; omega) (fun a ha => (ho.lt a ha).1); clear hg3; have h3 := cell_keep hc2 hb3)
        have Ho3 : Own w3 w1.heap.size 139 2 A3 (n2 + 1) c3 ((o ++ [(next, lo - 1)]).map encR) := by rw [List.map_append]; exact ho3
        clear ho3
        go_roundw
        case rel => exact ⟨k + 1, A3, n2 + 1, c3, o ++ [(next, lo - 1)], hi + 1, by omega, by omega, rfl, rfl, by go_num, by omega, by omega, Ho3, Lib.hid (by rw [← HO.out, HD.out, notGo_cons, if_pos hc, List.append_assoc]), hb3⟩
        case measure => simp [intOf]; omega
      · have hge : lo ≤ next := by omega
        go_wp2
        go_roundw
        case rel => exact ⟨k + 1, A2, n2, c2, o, hi + 1, by omega, by omega, rfl, rfl, by go_num, by omega, by omega, ho, Lib.hid (by rw [← HO.out, HD.out, notGo_cons, if_neg hc, List.nil_append]), hb⟩
        case measure => simp [intOf]; omega
    · have Hdr : Hid ((normR l).drop k = []) := Lib.hid (List.drop_of_length_le (by have := Hn1.out; omega))
      by_cases hc : next ≤ 1114111
      · go_wp2_with (at_builtin; go_must (refine wpList_app rfl (.tmp 41) (.tmp 44) _ rfl w1.heap.size 139 i0 _ 2 8 Tryz.underlying111 hi0 hz0 hz1 hz2 rfl (by omega) A2 n2 c2 (o.map encR) rfl (ho.alloc _) _ 1 1 [encR (next, 1114111)] rfl rfl (Rd.newAt (by simp) rfl) (encR_ok [(next, 1114111)]) (by unfold maxLen; omega) (by omega) (by simp; omega) ?_); intro A3 c3 w3 ho3 hg3 hA3; have hb3 := below_app (hb.alloc hbs (.cells #[.int .i32 next, .int .i32 1114111] 139)) hg3 (by simp; omega) (fun a ha => (ho.lt a ha).1); clear hg3)
        have Ho3 : Own w3 w1.heap.size 139 2 A3 (n2 + 1) c3 ((o ++ [(next, 1114111)]).map encR) := by rw [List.map_append]; exact ho3
        clear ho3
        go_ret
        exact ⟨_, _, _, rfl, by have := HO.out; rw [Hdr.out, notGo_nil, if_pos hc] at this; rw [← this]; exact Ho3.more hbs1, below_step hb1 hb3 hbs1⟩
      · have hgt : 1114111 < next := by omega
        have HE : Hid (o = notR l) := Lib.hid (by have := HO.out; rw [Hdr.out, notGo_nil, if_neg hc, List.append_nil] at this; exact this)
        obtain rfl : next = 1114112 := by omega
        clear hc hx1 hx0 hgt
        go_wp2
        go_ret
        exact ⟨_, _, _, rfl, by rw [← HE.out]; exact ho.more hbs1, below_step hb1 hb hbs1⟩

end Go.Proofs.YtinfnfgflcjfmaaGreatDoor

/-
  kerfref02.Count, At, Index.
-/
namespace Go.Proofs.YtinfnfgflcjfmaaGreatDoor
open Go.RowKit

theorem ret_at {a b : Int} {c d : Bool} (h : (a, c) = (b, d)) (k : IntKind) : Ending.returned (.tuple #[.int k a, .bool c]) = .returned (.tuple #[.int k b, .bool d]) := by cases h; rfl

end Go.Proofs.YtinfnfgflcjfmaaGreatDoor

/-
  kerfref02.Runes, First.
-/
namespace Go.Proofs.YtinfnfgflcjfmaaGreatDoor
open Go.RowKit

def encRn (x : Nat × Nat × Nat) : List Value := [.int .i32 x.1, .int .i64 x.2.1, .int .i64 x.2.2]
theorem encRn_ok (l : List (Nat × Nat × Nat)) : ∀ y ∈ l.map encRn, y.length = 3 ∧ ∀ u ∈ y, u.oneCell' = true := by
  intro y hy; obtain ⟨r, _, rfl⟩ := List.mem_map.1 hy
  exact ⟨rfl, by simp [encRn, Value.oneCell']⟩
theorem infoRR : (Tryz.prog.info? 31).map (fun i => (i.zero, i.size, i.bytes)) = some (some (.agg #[.int .i32 0, .int .i64 0, .int .i64 0]), 3, 24) := by kernel_rfl
theorem Own.iterAt {w : World} {base : Nat} {e : TypeId} {s : Nat} {A : Option Addr} {n c : Nat} {cs : List (List Value)} (h : Own w base e s A n c cs) {k : Nat} (hk : k < base) (t : ByteArray) (p : Nat) : Own (w.iterAt k t p) base e s A n c cs :=
  h.keep fun a ha => Lib.iterAt_other w k a.block t p (by have := (h.lt a ha).1; omega)
theorem iter_new (w : World) (s : ByteArray) (p : Nat) : (w.iter s p).heap[w.heap.size]? = some (.stringIter s p) := World.iter_heap w s p
theorem below_iter {B : Nat} {a w : World} (h : Below B a w) (hB : B ≤ w.heap.size) (s : ByteArray) (p : Nat) : Below B a (w.iter s p) := h.alloc hB _
theorem iterPos_of {w : World} {k p : Nat} {s : ByteArray} (h : w.heap[k]? = some (.stringIter s p)) : w.iterPos k = p := by unfold World.iterPos; rw [h]

/-- How far Runes has come. -/
def RunesAt (s : ByteArray) (p f : Nat) (o : List (Nat × Nat × Nat)) : Prop :=
  (o = [] ∧ p = 0 ∧ runesGo s f 0 = runesP s) ∨ ∃ o' r a, o = o' ++ [(r, a, s.size)] ∧ o' ++ (r, a, p) :: runesGo s f p = runesP s
theorem runesAt_first {s : ByteArray} {f : Nat} (h : runesGo s (f + 1) 0 = runesP s) (h0 : 0 < s.size) {R W : Nat} (hd : Utf8.decode s 0 = (R, W)) : RunesAt s (0 + W) f ([] ++ [(R, 0, s.size)]) := by
  refine .inr ⟨[], R, 0, rfl, ?_⟩
  rw [← h, runesGo, if_pos h0, hd]; rfl
theorem runesAt_next {s : ByteArray} {f p r a : Nat} {o' : List (Nat × Nat × Nat)} (h : o' ++ (r, a, p) :: runesGo s (f + 1) p = runesP s) (hp : p < s.size) {R W : Nat} (hd : Utf8.decode s p = (R, W)) :
    RunesAt s (p + W) f (o' ++ [(r, a, p)] ++ [(R, p, s.size)]) := by
  refine .inr ⟨o' ++ [(r, a, p)], R, p, rfl, ?_⟩
  rw [← h, runesGo, if_pos hp, hd]; simp
theorem runesAt_end {s : ByteArray} {f p : Nat} {o : List (Nat × Nat × Nat)} (h : RunesAt s p f o) (hp : p = s.size) : o = runesP s := by
  subst hp
  rcases h with ⟨rfl, h0, h⟩ | ⟨o', r, a, rfl, h⟩
  · rw [← h, runesGo_end (by omega)]
  · rw [← h, runesGo_end (Nat.le_refl _)]

set_option maxRecDepth 100000 in
set_option maxHeartbeats 800000 in
theorem sRunes_any (s : ByteArray) (w : World) (hs : s.size ≤ 1000000) :
    Calls Tryz.prog 19 #[.string s] w fun e w' => ∃ A n c, e = .returned (.slice A n c) ∧ Own w' w.heap.size 31 3 A n c ((runesP s).map encRn) ∧ Below w.heap.size w w' := by
  obtain ⟨i0, hi0, hz0, hz1, hz2⟩ := info_parts infoRR
  go_enter Tryz.func19, Tryz.ntmps19
  go_wp2
  go_loopw [3] (fun v wr => ∃ (p f : Nat) (A1 : Option Addr) (n1 c1 : Nat) (o : List (Nat × Nat × Nat)), v = .slice A1 n1 c1 ∧ wr.heap[w.heap.size]? = some (.stringIter s p) ∧ Own wr (w.heap.size + 1) 31 3 A1 n1 c1 (o.map encRn) ∧
      n1 ≤ p ∧ p ≤ s.size ∧ s.size ≤ p + f ∧ Hid (RunesAt s p f o) ∧ Below w.heap.size w wr) (fun _ wr => s.size - wr.iterPos w.heap.size)
  case atStart => exact ⟨0, s.size, none, 0, 0, [], rfl, iter_new _ _ _, Own.nil_ _ _ _ _, by omega, by omega, by omega, .inl ⟨rfl, rfl, rfl⟩, below_iter (Below.refl _ _) (Nat.le_refl _) _ _⟩
  case round =>
    obtain ⟨p, f, A1, n1, c1, o, rfl, hit, ho, hn1, hps, hf, HR, hb⟩ := hrel
    have hsz : w.heap.size < wr.heap.size := (Array.getElem?_eq_some_iff.1 hit).1
    have Hpos := Lib.hid (iterPos_of hit)
    by_cases hp : p < s.size
    · obtain ⟨⟨R, W⟩, HD⟩ : ∃ d, Utf8.decode s p = d := ⟨_, rfl⟩
      have hd := dec_bd s p hp
      have hnx : ∀ ty, (Instr.next (.pointer (some ⟨w.heap.size, 0, none⟩)) true ty).run Tryz.prog wr = _ := fun ty => Lib.run_next_any_at wr w.heap.size s p ty hit hp
      have hit2 := Lib.iterAt_heap wr w.heap.size s p (p + (Utf8.decode s p).2) hit
      have hb2 := Lib.below_iterAt hb (k := w.heap.size) (Nat.le_refl _) s (p + (Utf8.decode s p).2)
      have ho2 := ho.iterAt (k := w.heap.size) (by omega) s (p + (Utf8.decode s p).2)
      have hsz2 : w.heap.size < (wr.iterAt w.heap.size s (p + (Utf8.decode s p).2)).heap.size := by rw [Lib.iterAt_size]; exact hsz
      rw [HD] at hd hnx hit2 hb2 ho2 hsz2
      simp only at hd hnx hit2 hb2 ho2 hsz2
      have HD := Lib.hid HD
      obtain ⟨f, rfl⟩ : ∃ f', f = f' + 1 := ⟨f - 1, by omega⟩
      generalize wr.iterAt w.heap.size s (p + W) = w2 at hnx hit2 hb2 ho2 hsz2
      clear ho hb hit hsz
      rcases HR.out with ⟨rfl, rfl, hrun⟩ | ⟨o', r, a, rfl, hrun⟩
      · have HA := Lib.hid (runesAt_first hrun hp HD.out)
        obtain rfl : n1 = 0 := by omega
        clear hrun HR
        go_wp2_with (at_builtin; go_must (refine wpList_app rfl (.tmp 22) (.tmp 28) _ rfl (w.heap.size + 1) 31 i0 _ 3 24 Tryz.underlying27 hi0 hz0 hz1 hz2 rfl (by omega) A1 0 c1 ([].map encRn) rfl (ho2.alloc _) _ 1 1 [encRn (R, 0, s.size)] rfl rfl (Rd.newAt (by simp) rfl) (encRn_ok [(R, 0, s.size)]) (by unfold maxLen; omega) (by omega) (by simp; omega) ?_); intro A3 c3 w3 ho3 hg3 hA3; have hit3 := hg3.block w.heap.size (by simp; omega) (fun e => by cases A1 with | none => simp at e | some a => have := (ho2.lt a rfl).1; simp at e; omega); have hb3 := below_app (hb2.alloc (by omega) _) hg3 (by simp; omega) (fun a ha => by have := (ho2.lt a ha).1; omega); clear hg3)
        have hit4 : w3.heap[w.heap.size]? = some (.stringIter s (0 + W)) := hit3.trans ((Below.heap_alloc _ _ _ hsz2).trans hit2)
        have Ho3 : Own w3 (w.heap.size + 1) 31 3 A3 1 c3 (([] ++ [(R, 0, s.size)]).map encRn) := by rw [List.map_append]; exact ho3
        clear hit3 ho3
        go_roundw
        case rel => exact ⟨0 + W, f, A3, 1, c3, [] ++ [(R, 0, s.size)], rfl, hit4, Ho3, by omega, by omega, by omega, HA, hb3⟩
        case measure => rw [iterPos_of hit4, Hpos.out]; omega
      · have HA := Lib.hid (runesAt_next hrun hp HD.out)
        obtain ⟨j, rfl⟩ : ∃ j, n1 = j + 1 := ⟨n1 - 1, by have := ho2.len; simp at this; omega⟩
        obtain ⟨g, rfl, hgB, hgl⟩ := ho2.form (by omega)
        have Hj : Hid (o'.length = j) := Lib.hid (by have := ho2.len; simpa using this)
        have hx : ((o' ++ [(r, a, s.size)]).map encRn)[j]? = some (encRn (r, a, s.size)) := by have := Hj.out; subst this; simp
        have hc := ho2.cell (k := j) (j := 2) (u := .int .i64 s.size) hx rfl
        have hfz := ho2.frozen (j * 3 + 2)
        have ho4 := ho2.stored (k := j) (j := 2) hx (by omega) (.int .i64 p)
        have he : ((o' ++ [(r, a, s.size)]).map encRn).set j ((encRn (r, a, s.size)).set 2 (.int .i64 p)) = (o' ++ [(r, a, p)]).map encRn := by
          rw [List.map_append, List.map_append]
          have := set_mid (o'.map encRn) (encRn (r, a, s.size)) ((encRn (r, a, s.size)).set 2 (.int .i64 p)) []
          rw [List.length_map, Hj.out] at this
          exact this
        rw [he] at ho4
        have hb4 := hb2.setCell (p := ⟨g, j * 3 + 2, none⟩) (by simp only; omega) (.int .i64 p)
        have hit4 : (w2.setCell ⟨g, j * 3 + 2, none⟩ (.int .i64 p)).heap[w.heap.size]? = some (.stringIter s (p + W)) := (Below.heap_setCell w2 ⟨g, j * 3 + 2, none⟩ _ w.heap.size (by simp only; omega)).trans hit2
        have hw1 : IntKind.i64.wrap (j : Int) = j := IntWalk.i64_in _ (by omega)
        clear hrun HR hx he hit2 hb2
        go_wp2_with (at_builtin; go_must (refine wpList_app rfl (.tmp 22) (.tmp 28) _ rfl (w.heap.size + 1) 31 i0 _ 3 24 Tryz.underlying27 hi0 hz0 hz1 hz2 rfl (by omega) (some ⟨g, 0, none⟩) (j + 1) c1 ((o' ++ [(r, a, p)]).map encRn) rfl (ho4.alloc _) _ 1 1 [encRn (R, p, s.size)] rfl rfl (Rd.newAt (by simp) rfl) (encRn_ok [(R, p, s.size)]) (by unfold maxLen; omega) (by omega) (by simp; omega) ?_); intro A3 c3 w3 ho3 hg3 hA3; have hit3 := hg3.block w.heap.size (by simp; omega) (fun e => by simp at e; omega); have hb3 := below_app (hb4.alloc (by simp; omega) _) hg3 (by simp; omega) (fun a ha => by cases ha; simp only; omega); clear hg3)
        have hit5 : w3.heap[w.heap.size]? = some (.stringIter s (p + W)) := hit3.trans ((Below.heap_alloc _ _ _ (by simpa using hsz2)).trans hit4)
        have Ho3 : Own w3 (w.heap.size + 1) 31 3 A3 (j + 1 + 1) c3 ((o' ++ [(r, a, p)] ++ [(R, p, s.size)]).map encRn) := by rw [List.map_append]; exact ho3
        clear hit3 ho3
        go_roundw
        case rel => exact ⟨p + W, f, A3, j + 1 + 1, c3, o' ++ [(r, a, p)] ++ [(R, p, s.size)], rfl, hit5, Ho3, by omega, by omega, by omega, HA, hb3⟩
        case measure => rw [iterPos_of hit5, Hpos.out]; omega
    · have hnx : ∀ ty, (Instr.next (.pointer (some ⟨w.heap.size, 0, none⟩)) true ty).run Tryz.prog wr = _ := fun ty => Lib.run_next_end_at wr w.heap.size s p ty hit hp
      have HE := Lib.hid (runesAt_end HR.out (by omega))
      go_wp2
      go_ret
      exact ⟨_, _, _, rfl, by rw [← HE.out]; exact ho.more (by omega), hb⟩
end Go.Proofs.YtinfnfgflcjfmaaGreatDoor

/-
  PLAIN: the library's words on parting and replacing, said of lines and tabs. No walk.
-/
namespace Go.Proofs.YtinfnfgflcjfmaaGreatDoor

theorem indexByte_at {c : UInt8} (r : List UInt8) : ∀ (a : List UInt8), c ∉ a → Lib.indexByte (a ++ c :: r) c = a.length
  | [], _ => by rw [List.nil_append, Lib.indexByte, if_pos (by simp)]; rfl
  | b :: a, h => by
    have ih := indexByte_at r a (fun hm => h (List.mem_cons_of_mem _ hm))
    have hb : ¬ (b == c) = true := fun e => h (by rw [beq_iff_eq.1 e]; exact List.mem_cons_self)
    rw [List.cons_append, Lib.indexByte, ih, if_neg hb, if_neg (by simp)]
    simp
theorem splitL_no : ∀ {x : List UInt8}, (∀ c ∈ x, c ≠ 10) → splitL x = [x]
  | [], _ => rfl
  | c :: x, h => by
    show (if c = 10 then _ else _) = _
    rw [if_neg (h c (by simp)), splitL_no (fun d hd => h d (by simp [hd]))]
theorem splitK_lines : ∀ (k : Nat) (s : List UInt8), s.count 10 = k → Lib.splitK [10] 0 k s = splitL s
  | 0, s, h => by
    rw [splitL_no (fun c hc e => by subst e; exact absurd hc (List.count_eq_zero.1 h))]; rfl
  | k + 1, s, h => by
    have hm : (10 : UInt8) ∈ s := List.count_pos_iff.1 (by omega)
    obtain ⟨a, r, rfl, ha⟩ := List.eq_append_cons_of_mem hm
    have hi : Lib.index (a ++ 10 :: r) [10] = a.length := by rw [Lib.index_one]; exact indexByte_at r a ha
    have hr : r.count 10 = k := by
      rw [List.count_append, List.count_eq_zero.2 ha, List.count_cons_self] at h; omega
    rw [Lib.splitK, hi, if_neg (by simp), splitL_line (fun c hc e => ha (e ▸ hc))]
    congr 1
    · simp
    · rw [← splitK_lines k r hr]
      congr 1
      show List.drop ((a.length : Int).toNat + 1) _ = r
      rw [Int.toNat_natCast, ← List.drop_drop, List.drop_left]; rfl
theorem split_lines (s : ByteArray) : (Lib.splitB (bytesOf [10]) 0 (Lib.countB s (bytesOf [10])) s).map (·.data.toList) = splitL s.data.toList := by
  rw [Lib.splitB_data, bytesOf_list]
  refine splitK_lines _ _ ?_
  show _ = Lib.count s.data.toList (bytesOf [10]).data.toList
  rw [bytesOf_list, Lib.count_one]
theorem spcL_no : ∀ {x : List UInt8}, (9 : UInt8) ∉ x → spcL x = x
  | [], _ => rfl
  | c :: x, h => by
    show (if c = 9 then 32 else c) :: spcL x = _
    rw [if_neg (fun e => h (by simp [e])), spcL_no (fun hm => h (by simp [hm]))]
theorem replaceK_spc : ∀ (k : Nat) (s : List UInt8), s.count 9 = k → Lib.replaceK [9] [32] k s = spcL s
  | 0, s, h => by rw [spcL_no (List.count_eq_zero.1 h)]; rfl
  | k + 1, s, h => by
    have hm : (9 : UInt8) ∈ s := List.count_pos_iff.1 (by omega)
    obtain ⟨a, r, rfl, ha⟩ := List.eq_append_cons_of_mem hm
    have hi : Lib.index (a ++ 9 :: r) [9] = a.length := by rw [Lib.index_one]; exact indexByte_at r a ha
    have hr : r.count 9 = k := by
      rw [List.count_append, List.count_eq_zero.2 ha, List.count_cons_self] at h; omega
    rw [Lib.replaceK_hit _ _ _ _ _ hi]
    have e : (a ++ 9 :: r).drop (a.length + [(9 : UInt8)].length) = r := by
      show List.drop (a.length + 1) _ = r
      rw [← List.drop_drop, List.drop_left]; rfl
    rw [e, replaceK_spc k r hr, List.take_left]
    unfold spcL
    rw [List.map_append, List.map_cons, if_pos rfl]
    have : a.map (fun c => if c = 9 then (32 : UInt8) else c) = a := spcL_no ha
    rw [this]; simp
theorem replace_spc (s : List UInt8) : Lib.replaceAll s [9] [32] = spcL s := by
  unfold Lib.replaceAll Lib.replace
  rw [if_neg (by decide)]
  refine replaceK_spc _ _ ?_
  unfold Lib.replaceNum
  rw [if_pos (.inl (by decide)), Lib.count_one]
theorem splitL_ne : ∀ (s : List UInt8), splitL s ≠ []
  | [] => by simp [splitL]
  | c :: r => by
    unfold splitL
    split
    · simp
    · split <;> simp
theorem splitL_count : ∀ (s : List UInt8), (splitL s).length = s.count 10 + 1
  | [] => rfl
  | c :: r => by
    have ih := splitL_count r
    unfold splitL
    split
    · rename_i h; subst h; rw [List.length_cons, ih, List.count_cons_self]
    · rename_i h
      rw [List.count_cons_of_ne h]
      cases hs : splitL r with
      | nil => exact absurd hs (splitL_ne r)
      | cons x t => rw [hs] at ih; simpa using ih
/- The document's lines: read byte by byte. -/
theorem splitL_snoc_line (done : List (List UInt8)) (x r : List UInt8) (h : ∀ c ∈ x, c ≠ 10) : done ++ splitL (x ++ 10 :: r) = (done ++ [x]) ++ splitL r := by rw [splitL_line h]; simp
/-- The lines of a text of which some bytes were read: those done, and the one begun. -/
structure LinesAt (s : List UInt8) (i frm : Nat) (done : List (List UInt8)) : Prop where
  le : frm ≤ i
  le2 : i ≤ s.length
  clean : ∀ c ∈ (s.drop frm).take (i - frm), c ≠ 10
  all : splitL s = done ++ splitL (s.drop frm)
theorem LinesAt.start (s : List UInt8) : LinesAt s 0 0 [] := ⟨Nat.le_refl _, Nat.zero_le _, by simp, by simp⟩
theorem LinesAt.byte {s : List UInt8} {i frm : Nat} {done : List (List UInt8)} {c : UInt8} (h : LinesAt s i frm done) (hc : s[i]? = some c) (hn : c ≠ 10) : LinesAt s (i + 1) frm done := by
  have hlt := (List.getElem?_eq_some_iff.1 hc).1
  refine ⟨by have := h.le; omega, by omega, fun d hd => ?_, h.all⟩
  have hle := h.le
  rw [show i + 1 - frm = (i - frm) + 1 by omega, List.take_add_one, List.getElem?_drop, show frm + (i - frm) = i by omega, hc] at hd
  rcases List.mem_append.1 hd with hd | hd
  · exact h.clean d hd
  · simp at hd; subst hd; exact hn
theorem LinesAt.line {s : List UInt8} {i frm : Nat} {done : List (List UInt8)} (h : LinesAt s i frm done) (hc : s[i]? = some 10) : LinesAt s (i + 1) (i + 1) (done ++ [(s.drop frm).take (i - frm)]) := by
  have hlt := (List.getElem?_eq_some_iff.1 hc).1
  have hle := h.le
  refine ⟨Nat.le_refl _, by omega, by simp, ?_⟩
  have e : s.drop frm = (s.drop frm).take (i - frm) ++ 10 :: s.drop (i + 1) := by
    conv => lhs; rw [← List.take_append_drop (i - frm) (s.drop frm)]
    rw [List.drop_drop, show frm + (i - frm) = i by omega, drop_cons_of hc]
  rw [h.all]
  conv => lhs; rw [e]
  exact splitL_snoc_line done _ _ h.clean
theorem LinesAt.done {s : List UInt8} {frm : Nat} {done : List (List UInt8)} (h : LinesAt s s.length frm done) : splitL s = done ++ [s.drop frm] := by
  have hc := h.clean
  rw [List.take_of_length_le (by rw [List.length_drop]; omega)] at hc
  rw [h.all, splitL_no hc]
end Go.Proofs.YtinfnfgflcjfmaaGreatDoor

/-
  strconv.FormatInt at base 16, of a rune's number.
-/
namespace Go.Proofs.YtinfnfgflcjfmaaGreatDoor
open Go.RowKit

def lowD (d : Nat) : UInt8 := if d < 10 then UInt8.ofNat (48 + d) else UInt8.ofNat (87 + d)
/-- The last k hexadecimal digits of a number, in lower case. -/
def lowW : Nat → Nat → List UInt8
  | 0, _ => []
  | k + 1, n => lowW k (n / 16) ++ [lowD (n % 16)]
def hexL (n : Nat) : Nat := if n < 16 then 1 else if n < 256 then 2 else if n < 4096 then 3 else hexK n
def lowS (n : Nat) : List UInt8 := lowW (hexL n) n
/-- The library's table holds what is read at base 16. -/
def TabB (w : World) : Prop := w.cell? ⟨7, 15, none⟩ = some (.int .u8 4)

theorem isPow_any (w : World) : Calls Tryz.prog 258 #[.int .i64 16] w fun e w' => e = .returned (.bool true) ∧ w = w' := by
  go_enter Tryz.func258, Tryz.ntmps258
  go_wp2
  go_ret
  exact ⟨rfl, rfl⟩
theorem tz64_any (w : World) (h : TabB w) : Calls Tryz.prog 261 #[.int .u64 16] w fun e w' => e = .returned (.int .i64 4) ∧ w = w' := by
  unfold TabB at h
  have key : IntKind.u64.wrap (bits BinOp.and IntKind.u64 16 (IntKind.u64.wrap (-16)) * 285870213051353865) / 288230376151711744 = 15 := by kernel_rfl
  go_enter Tryz.func261, Tryz.ntmps261
  go_wp2_with (simp only [key])
  go_ret
  exact ⟨rfl, rfl⟩
theorem tz_any (w : World) (h : TabB w) : Calls Tryz.prog 259 #[.int .u64 16] w fun e w' => e = .returned (.int .i64 4) ∧ w = w' := by
  go_enter Tryz.func259, Tryz.ntmps259
  go_wp2_with fail
  refine (tz64_any _ h).mono ?_
  rintro e w' ⟨rfl, rfl⟩
  go_wp2
  go_ret
  exact ⟨rfl, rfl⟩

theorem hexL_bd (n : Nat) : 1 ≤ hexL n ∧ hexL n ≤ 6 := by unfold hexL; have := hexK_bd n; split <;> (try split) <;> (try split) <;> omega
theorem hexL_lt {n j : Nat} (hn : n ≤ 1114111) (h : 16 ≤ n / 16 ^ j) : j + 1 < hexL n := by
  have h2 : 16 ^ (j + 1) ≤ n := by
    have := (Nat.le_div_iff_mul_le (Nat.pow_pos (by decide : 0 < 16))).1 h
    rw [Nat.pow_succ]; omega
  have hb := hexL_bd n
  have : n < 16 ^ hexL n := by
    unfold hexL hexK
    split
    · simpa using ‹_›
    · split
      · simpa using ‹_›
      · split
        · simpa using ‹_›
        · split
          · simpa using ‹_›
          · split
            · simpa using ‹_›
            · show n < 16777216; omega
  rcases Nat.lt_or_ge (j + 1) (hexL n) with h | h
  · exact h
  · have := Nat.pow_le_pow_right (by decide : 0 < 16) h
    omega
theorem hexL_ge {n j : Nat} (h : n / 16 ^ j < 16) : hexL n ≤ j + 1 := by
  have h2 : n < 16 ^ (j + 1) := by
    rw [Nat.pow_succ]
    have := (Nat.div_lt_iff_lt_mul (Nat.pow_pos (by decide : 0 < 16))).1 h
    omega
  have hb := hexL_bd n
  rcases (by omega : j = 0 ∨ j = 1 ∨ j = 2 ∨ j = 3 ∨ j = 4 ∨ 5 ≤ j) with rfl | rfl | rfl | rfl | rfl | h
  · have : n < 16 := h2
    unfold hexL; rw [if_pos this]; omega
  · have : n < 256 := h2
    unfold hexL; split <;> (try split) <;> omega
  · have : n < 4096 := h2
    unfold hexL; split <;> (try split) <;> (try split) <;> omega
  · have : n < 65536 := h2
    unfold hexL hexK; split <;> (try split) <;> (try split) <;> (try split) <;> omega
  · have : n < 1048576 := h2
    unfold hexL hexK; split <;> (try split) <;> (try split) <;> (try split) <;> (try split) <;> omega
  · omega
/-- How far formatBits has come: j digits are laid. -/
def FmtAt (n j x : Nat) (cs : Array Value) : Prop := x = n / 16 ^ j ∧ cs.size = 65 ∧ cs.toList.drop (65 - j) = (lowW j n).map (fun c => Value.int .u8 c.toNat) ∧ j < hexL n
theorem dig36 (d : Nat) (h : d < 16) (W : World) : (Instr.index 9 (.string ⟨#[48, 49, 50, 51, 52, 53, 54, 55, 56, 57, 97, 98, 99, 100, 101, 102, 103, 104, 105, 106, 107, 108, 109, 110, 111, 112, 113, 114, 115, 116, 117, 118, 119, 120, 121, 122]⟩) (.int .u64 d)).run Tryz.prog W = .ok (.int .u8 ((lowD d).toNat : Int)) W := by
  rw [run_index_string _ _ _ _ _ Tryz.underlying9]
  rcases (by omega : d = 0 ∨ d = 1 ∨ d = 2 ∨ d = 3 ∨ d = 4 ∨ d = 5 ∨ d = 6 ∨ d = 7 ∨ d = 8 ∨ d = 9 ∨ d = 10 ∨ d = 11 ∨ d = 12 ∨ d = 13 ∨ d = 14 ∨ d = 15) with rfl | rfl | rfl | rfl | rfl | rfl | rfl | rfl | rfl | rfl | rfl | rfl | rfl | rfl | rfl | rfl <;> rfl

theorem lowW_succ (j n : Nat) : lowW (j + 1) n = lowD (n / 16 ^ j % 16) :: lowW j n := by
  induction j generalizing n with
  | zero => simp [lowW]
  | succ j ih => rw [lowW, ih, lowW, Nat.div_div_eq_div_mul, ← Nat.pow_succ']; rfl
theorem lowW_len : ∀ (k n : Nat), (lowW k n).length = k
  | 0, _ => rfl
  | k + 1, n => by rw [lowW, List.length_append, lowW_len k]; rfl
theorem drop_set_self {α : Type} : ∀ (l : List α) (k : Nat) (v : α), k < l.length → (l.set k v).drop k = v :: l.drop (k + 1)
  | [], k, _, h => by simp at h
  | _ :: _, 0, _, _ => rfl
  | _ :: l, k + 1, v, h => drop_set_self l k v (by simpa using h)
theorem dig_eq (d : Nat) (h : d < 16) (hd : d < (⟨#[48, 49, 50, 51, 52, 53, 54, 55, 56, 57, 97, 98, 99, 100, 101, 102, 103, 104, 105, 106, 107, 108, 109, 110, 111, 112, 113, 114, 115, 116, 117, 118, 119, 120, 121, 122]⟩ : ByteArray).size) :
    ((⟨#[48, 49, 50, 51, 52, 53, 54, 55, 56, 57, 97, 98, 99, 100, 101, 102, 103, 104, 105, 106, 107, 108, 109, 110, 111, 112, 113, 114, 115, 116, 117, 118, 119, 120, 121, 122]⟩ : ByteArray)[d]'hd) = lowD d := by
  rcases (by omega : d = 0 ∨ d = 1 ∨ d = 2 ∨ d = 3 ∨ d = 4 ∨ d = 5 ∨ d = 6 ∨ d = 7 ∨ d = 8 ∨ d = 9 ∨ d = 10 ∨ d = 11 ∨ d = 12 ∨ d = 13 ∨ d = 14 ∨ d = 15) with rfl | rfl | rfl | rfl | rfl | rfl | rfl | rfl | rfl | rfl | rfl | rfl | rfl | rfl | rfl | rfl <;> rfl
theorem v_u64 {a b : Int} (h : a = b) : Value.int .u64 a = .int .u64 b := by rw [h]
theorem v_u8 {a b : Int} (h : a = b) : Value.int .u8 a = .int .u8 b := by rw [h]
theorem fmt_put {n j x p d : Nat} {cs : Array Value} (h : FmtAt n j x cs) (hp : p + j = 65) (hd : x % 16 = d) :
    (cs.setIfInBounds (p - 1) (.int .u8 (lowD d).toNat)).size = 65 ∧ (cs.setIfInBounds (p - 1) (.int .u8 (lowD d).toNat)).toList.drop (65 - (j + 1)) = (lowW (j + 1) n).map (fun c => Value.int .u8 c.toNat) := by
  obtain ⟨h1, h2, h3, h4⟩ := h
  have hb := hexL_bd n
  refine ⟨by simpa using h2, ?_⟩
  rw [Array.toList_setIfInBounds, show 65 - (j + 1) = p - 1 by omega, drop_set_self _ _ _ (by rw [Array.length_toList]; omega), lowW_succ, List.map_cons, show p - 1 + 1 = 65 - j by omega, h3, ← h1, hd]
theorem fmt_next {n j x p d q : Nat} {cs : Array Value} (h : FmtAt n j x cs) (hn : n ≤ 1114111) (hp : p + j = 65) (hx : x = 16 * q + d) (h16 : d < 16) (hc : 16 ≤ x) : FmtAt n (j + 1) q (cs.setIfInBounds (p - 1) (.int .u8 (lowD d).toNat)) := by
  obtain ⟨k1, k2⟩ := fmt_put h hp (show x % 16 = d by omega)
  obtain ⟨h1, h2, h3, h4⟩ := h
  exact ⟨by rw [Nat.pow_succ, ← Nat.div_div_eq_div_mul, ← h1]; omega, k1, k2, hexL_lt hn (by omega)⟩
theorem fmt_end {n j x p : Nat} {cs : Array Value} (h : FmtAt n j x cs) (hp : p + j = 65) (hc : x < 16) :
    j + 1 = hexL n ∧ ∀ k, (hk : k < (lowS n).length) → (cs.setIfInBounds (p - 1) (.int .u8 (lowD x).toNat))[p - 1 + k]? = some (.int .u8 ((lowS n)[k].toNat : Int)) := by
  obtain ⟨k1, k2⟩ := fmt_put h hp (show x % 16 = x by omega)
  obtain ⟨h1, h2, h3, h4⟩ := h
  have hb := hexL_bd n
  have hj : j + 1 = hexL n := by have := hexL_ge (n := n) (j := j) (by omega); omega
  refine ⟨hj, fun k hk => ?_⟩
  have := congrArg (·[k]?) k2
  simp only [List.getElem?_drop, List.getElem?_map] at this
  rw [show 65 - (j + 1) + k = p - 1 + k by omega, Array.getElem?_toList] at this
  rw [this, hj]
  show Option.map _ ((lowS n)[k]?) = _
  rw [List.getElem?_eq_getElem hk]; rfl
theorem sl65 (b p : Nat) (h : 60 ≤ p) (h2 : p ≤ 65) (W : World) : (Instr.sliceAt 248 (.pointer (some ⟨b, 0, none⟩)) (some (.int .i64 ((p : Int) - 1))) none none).run Tryz.prog W = .ok (.slice (some ⟨b, p - 1, none⟩) (66 - p) (66 - p)) W := by
  rcases (by omega : p = 60 ∨ p = 61 ∨ p = 62 ∨ p = 63 ∨ p = 64 ∨ p = 65) with rfl | rfl | rfl | rfl | rfl | rfl <;> kernel_rfl

set_option maxRecDepth 100000 in
set_option maxHeartbeats 1000000 in
theorem fbits_any (n : Nat) (w : World) (h1 : n ≤ 1114111) (hT : TabB w) :
    Calls Tryz.prog 255 #[.slice none 0 0, .int .u64 n, .int .i64 16, .bool false, .bool false] w fun e w' => e = .returned (.tuple #[.slice none 0 0, .string ⟨(lowS n).toArray⟩]) ∧ Below w.heap.size w w' := by
  go_enter Tryz.func255, Tryz.ntmps255
  go_wp2_with fail
  refine (isPow_any _).mono ?_
  rintro e w' ⟨rfl, rfl⟩
  go_wp2_with fail
  refine (tz_any _ (by unfold TabB at hT ⊢; exact cell_keep hT ((Below.refl _ _).alloc (Nat.le_refl _) _))).mono ?_
  rintro e w' ⟨rfl, rfl⟩
  go_wp2
  have hblk : Blk (w.alloc (Obj.cells Tryz.zeroCells248 248)) w.heap.size 248 Tryz.zeroCells248 := Blk.new _ _ _
  have hbel : Below w.heap.size w (w.alloc (Obj.cells Tryz.zeroCells248 248)) := (Below.refl _ _).alloc (Nat.le_refl _) _
  have hz : (Tryz.zeroCells248).size = 65 := by kernel_rfl
  have HF := Lib.hid (show FmtAt n 0 n Tryz.zeroCells248 from ⟨by simp, hz, by rw [List.drop_of_length_le (by simp [hz])]; rfl, by unfold hexL; split <;> (try split) <;> (try split) <;> (try unfold hexK) <;> (try split) <;> (try split) <;> omega⟩)
  generalize Tryz.zeroCells248 = cs0 at hblk hbel HF hz ⊢
  clear hz
  go_loopg [1, 13] 6 (fun gk v1 v13 wx => ∃ (j x p : Nat) (cs : Array Value), v1 = .int .u64 x ∧ v13 = .int .i64 p ∧ Blk wx w.heap.size 248 cs ∧ Hid (FmtAt n j x cs) ∧ Hid (j + gk = 6) ∧ Hid (p + j = 65) ∧ x ≤ 1114111 ∧ p ≤ 65 ∧ 60 ≤ p ∧ Below w.heap.size w wx)
  case atStart => exact ⟨0, n, 65, _, rfl, rfl, hblk, HF, Lib.hid rfl, Lib.hid rfl, h1, by omega, by omega, hbel⟩
  case round =>
    clear hblk hbel HF
    obtain ⟨j, x, p, cs, rfl, rfl, hblk, HF, HG, HP, hx, hp1, hp2, hbel⟩ := hrel
    by_cases hc : 16 ≤ x
    · obtain ⟨q, d, hd, h16⟩ : ∃ q d, x = 16 * q + d ∧ d < 16 := ⟨x / 16, x % 16, by omega, by omega⟩
      have hand : bits BinOp.and IntKind.u64 (x : Int) 15 = (d : Int) := by
        have h := bits_and_u64_nat x 15 (by omega) (by omega)
        refine h.trans ?_
        rw [show (15 : Nat) = 2 ^ 4 - 1 from rfl, Nat.and_two_pow_sub_one_eq_mod]; omega
      have hf := hblk.frozen (p - 1)
      obtain ⟨v0, hv0⟩ : ∃ v0, cs[p - 1]? = some v0 := ⟨_, Array.getElem?_eq_getElem (by have := HF.out.2.1; omega)⟩
      have hc0 : wr.cell? ⟨w.heap.size, p - 1, none⟩ = some v0 := (hblk.cell _).trans hv0
      have Hd := Lib.hid hd
      clear hd hv0
      have HN := Lib.hid (fmt_next HF.out h1 HP.out Hd.out h16 hc)
      have hj5 : p - 1 + (j + 1) = 65 := by have := HP.out; omega
      have Hj5 := Lib.hid hj5
      have hp3 : 61 ≤ p := by have := HN.out.2.2.2; have := hexL_bd n; omega
      obtain ⟨g', rfl⟩ : ∃ g', gk = g' + 1 := ⟨gk - 1, by have := HG.out; have := HN.out.2.2.2; have := hexL_bd n; omega⟩
      clear hj5
      go_wp2
      go_roundg g'
      case rel =>
        refine ⟨j + 1, q, p - 1, _, v_u64 (by have := Hd.out; omega), by go_num, hblk.set_ _ _, ?_, Lib.hid (by have := HG.out; omega), Hj5, by have := Hd.out; omega, by omega, by omega, hbel.setCell (p := ⟨w.heap.size, p - 1, none⟩) (by simp) _⟩
        rw [v_u8 (congrArg (fun z : UInt8 => (z.toNat : Int)) (dig_eq d h16 _))]
        exact HN
      case measure => omega
    · have hf := hblk.frozen (p - 1)
      obtain ⟨v0, hv0⟩ : ∃ v0, cs[p - 1]? = some v0 := ⟨_, Array.getElem?_eq_getElem (by have := HF.out.2.1; omega)⟩
      have hc0 : wr.cell? ⟨w.heap.size, p - 1, none⟩ = some v0 := (hblk.cell _).trans hv0
      have hsl := sl65 w.heap.size p hp2 hp1
      have HE := Lib.hid (fmt_end HF.out HP.out (by omega))
      clear hv0
      go_wp2
      rw [v_u8 (congrArg (fun z : UInt8 => (z.toNat : Int)) (dig_eq x (by omega) _))]
      have hB := hblk.set_ (p - 1) (.int .u8 ((lowD x).toNat : Int))
      have hl : (lowS n).length = 66 - p := by have h9 := HE.out.1; have := HP.out; unfold lowS; rw [lowW_len]; omega
      have hcv := run_convert_bytes_back (P := Tryz.prog) (wr.setCell ⟨w.heap.size, p - 1, none⟩ (.int .u8 ((lowD x).toNat : Int))) 96 9 5 ⟨w.heap.size, p - 1, none⟩ (66 - p) (lowS n) Tryz.underlying96 Tryz.underlying5 Tryz.underlying9 (fun k hk => by
        have e : (⟨w.heap.size, p - 1, none⟩ : Addr).add k = ⟨w.heap.size, p - 1 + k, none⟩ := by
          unfold Addr.add
          split
          · rename_i h0; rw [h0, Nat.add_zero]
          · rfl
        rw [e, hB.cell, HE.out.2 k hk])
      rw [hl] at hcv
      rw [hcv]
      simp only [Result.andThen]
      rw [Oper.upon_value]
      go_wp2
      go_ret2
      exact ⟨rfl, hbel.setCell (p := ⟨w.heap.size, p - 1, none⟩) (by simp) _⟩
theorem iFormat_any (n : Nat) (w : World) (h1 : n ≤ 1114111) (hT : TabB w) :
    Calls Tryz.prog 251 #[.int .i64 n, .int .i64 16] w fun e w' => e = .returned (.string ⟨(lowS n).toArray⟩) ∧ Below w.heap.size w w' := by
  go_enter Tryz.func251, Tryz.ntmps251
  go_wp2_with fail
  refine (fbits_any n _ h1 hT).mono ?_
  rintro e w' ⟨rfl, hb⟩
  go_wp2
  go_ret
  exact ⟨rfl, hb⟩
end Go.Proofs.YtinfnfgflcjfmaaGreatDoor

/-
  PLAIN: lines: behind a line's end a text begins anew; behind blanks. No walk.
-/
namespace Go.Proofs.YtinfnfgflcjfmaaGreatDoor

/- What is known of a place hangs on what stands ahead of it, its own rune, and the next. -/
theorem lPast_congr {c d : List Int} (k : Int) : ∀ (n : Nat), (∀ i, i < n → c.getD i 0 = d.getD i 0) → lPast c k n = lPast d k n
  | 0, _ => rfl
  | n + 1, h => by
    unfold lPast
    rw [h n (by omega), lPast_congr k n (fun i hi => h i (by omega))]
theorem lLast_congr {c d : List Int} {n : Nat} (h : ∀ i, i < n → c.getD i 0 = d.getD i 0) : lLast c n = lLast d n := by
  unfold lLast
  by_cases h0 : n = 0
  · rw [if_pos h0, if_pos h0]
  · rw [if_neg h0, if_neg h0, h (n - 1) (by omega)]
theorem lRegGo_congr {c d : List Int} : ∀ (f n : Nat), (∀ i, i < n → c.getD i 0 = d.getD i 0) → lRegGo c f n = lRegGo d f n
  | 0, _, _ => rfl
  | f + 1, n, h => by
    have hp := lPast_congr 8 (n - 1) (c := c) (d := d) (fun i hi => h i (by omega))
    have hle := lPast_le d 8 (n - 1)
    unfold lRegGo
    rw [lLast_congr h, hp, lRegGo_congr f _ (fun i hi => h i (by omega))]
theorem lNum_congr {c d : List Int} {n : Nat} (h : ∀ i, i < n → c.getD i 0 = d.getD i 0) : lNum c n = lNum d n := by
  unfold lNum
  dsimp only
  have l1 := lPast_le d 8 n
  rw [lPast_congr 8 n h, lLast_congr (n := lPast d 8 n) (fun i hi => h i (by omega)), lPast_congr 8 (lPast d 8 n - 1) (fun i hi => h i (by omega))]
  generalize hn2 : (if [11, 10].contains (lLast d (lPast d 8 n)) = true then lPast d 8 (lPast d 8 n - 1) else lPast d 8 n) = n2
  have l2 : n2 ≤ n := by
    have := lPast_le d 8 (lPast d 8 n - 1)
    rw [← hn2]; split <;> omega
  rw [lLast_congr (n := n2) (fun i hi => h i (by omega)), lPast_congr 8 (n2 - 1) (fun i hi => h i (by omega))]
  generalize hn3 : (if [14, 15].contains (lLast d n2) = true then lPast d 8 (n2 - 1) else n2) = n3
  have l3 : n3 ≤ n := by
    have := lPast_le d 8 (n2 - 1)
    rw [← hn3]; split <;> omega
  rw [lLast_congr (n := n3) (fun i hi => h i (by omega))]
theorem lOver_congr {c d : List Int} {i : Nat} (q : Int) (h : ∀ k, k < i → c.getD k 0 = d.getD k 0) : lOver c i q = lOver d i q := by
  unfold lOver
  have l1 := lPast_le d 4 i
  have l2 := lPast_le d 8 (lPast d 4 i)
  rw [lPast_congr 4 i h, lPast_congr 8 _ (fun k hk => h k (by omega)), lLast_congr (n := lPast d 8 (lPast d 4 i)) (fun k hk => h k (by omega))]
theorem lLetters_congr {c d : List Int} {i : Nat} (b q : Int) (h : ∀ k, k < i + 2 → c.getD k 0 = d.getD k 0) (hl : decide (i + 1 < c.length) = decide (i + 1 < d.length)) : lLetters c i b q = lLetters d i b q := by
  unfold lLetters lReg
  have l1 := lPast_le d 8 i
  rw [lNum_congr (fun k hk => h k (by omega)), hl, h (i + 1) (by omega), lPast_congr 8 i (fun k hk => h k (by omega)), lRegGo_congr _ _ (fun k hk => h k (by omega))]
theorem lCut_congr {c d : List Int} {i : Nat} (h : ∀ k, k < i + 2 → c.getD k 0 = d.getD k 0) (hl : decide (i + 1 < c.length) = decide (i + 1 < d.length)) : lCut c i = lCut d i := by
  unfold lCut
  dsimp only
  have l1 := lPast_le d 8 i
  have l2 := lPast_le d 4 i
  rw [h (i - 1) (by omega), h i (by omega), lPast_congr 8 i (fun k hk => h k (by omega)), lPast_congr 4 i (fun k hk => h k (by omega)), lLast_congr (n := lPast d 8 i) (fun k hk => h k (by omega)), lLast_congr (n := lPast d 4 i) (fun k hk => h k (by omega)), lOver_congr _ (fun k hk => h k (by omega)), lLetters_congr _ _ h hl]

section
variable {A B : List Int} {e : Int}
theorem gl_left {i : Nat} (h : i < A.length) : (A ++ e :: B).getD i 0 = A.getD i 0 := by
  rw [List.getD_eq_getElem?_getD, List.getD_eq_getElem?_getD, List.getElem?_append_left h]
theorem gl_mid : (A ++ e :: B).getD A.length 0 = e := by
  rw [List.getD_eq_getElem?_getD, List.getElem?_append_right (Nat.le_refl _), Nat.sub_self]; rfl
theorem gl_right (j : Nat) : (A ++ e :: B).getD (A.length + 1 + j) 0 = B.getD j 0 := by
  rw [List.getD_eq_getElem?_getD, List.getD_eq_getElem?_getD, List.getElem?_append_right (by omega), show A.length + 1 + j - A.length = j + 1 by omega, List.getElem?_cons_succ]
/-- Ahead of a line's end what stands behind it does not count. -/
theorem lCut_left (he : e = 1 ∨ e = 3) {i : Nat} (h : i ≤ A.length) (h1 : 1 ≤ i) : lCut (A ++ e :: B) i = lCut (A ++ [e]) i := by
  rcases Nat.lt_or_ge i A.length with hlt | hge
  · refine lCut_congr (fun k hk => ?_) ?_
    · rcases Nat.lt_or_ge k A.length with h2 | h2
      · rw [gl_left h2, gl_left h2]
      · obtain rfl : k = A.length := by omega
        rw [gl_mid, gl_mid]
    · rw [List.length_append, List.length_append, List.length_cons, List.length_cons, decide_eq_true (by omega), decide_eq_true (by omega)]
  · obtain rfl : i = A.length := by omega
    obtain ⟨m, hm⟩ : ∃ m, A.length = m + 1 := ⟨A.length - 1, by omega⟩
    have g1 := gl_mid (A := A) (e := e) (B := B); have g2 := gl_mid (A := A) (e := e) (B := [])
    have p1 := gl_left (A := A) (e := e) (B := B) (i := m) (by omega); have p2 := gl_left (A := A) (e := e) (B := []) (i := m) (by omega)
    rw [hm] at g1 g2 ⊢
    have hq : [1, 2, 3, 4, 5].contains e = true := by rcases he with rfl | rfl <;> rfl
    cases hmu : lMust (A.getD m 0) with
    | true => rw [lCut_end (by rw [p1]; exact hmu), lCut_end (by rw [p2]; exact hmu), g1, g2, p1, p2]
    | false => rw [lCut_blank (by rw [p1]; exact hmu) (by rw [g1]; exact hq), lCut_blank (by rw [p2]; exact hmu) (by rw [g2]; exact hq)]
theorem lPast_right (he : e = 1 ∨ e = 3) {k : Int} (hk : k = 8 ∨ k = 4) : ∀ (j : Nat), lPast (A ++ e :: B) k (A.length + 1 + j) = A.length + 1 + lPast B k j
  | 0 => by
    show lPast _ k (A.length + 1) = _
    rw [lPast_here (by rw [gl_mid]; omega)]; rfl
  | j + 1 => by
    show lPast _ k ((A.length + 1 + j) + 1) = _
    rw [lPast, gl_right, lPast_right he hk j, lPast]
    split
    · rfl
    · omega
theorem lLast_right (n : Nat) : lLast (A ++ e :: B) (A.length + 1 + n) = if n = 0 then e else lLast B n := by
  cases n with
  | zero => rw [if_pos rfl]; show lLast _ (A.length + 1) = _; rw [lLast_succ, gl_mid]
  | succ n => rw [if_neg (by omega), show A.length + 1 + (n + 1) = (A.length + 1 + n) + 1 by omega, lLast_succ, lLast_succ, gl_right]
/-- What the last of none is counts as little as a line's end. -/
theorem lLast_for {α : Type} (f : Int → α) (he : f e = f (-1)) (n : Nat) : f (lLast (A ++ e :: B) (A.length + 1 + n)) = f (lLast B n) := by
  rw [lLast_right]
  split
  · rename_i h; subst h; rw [he]; rfl
  · rfl
theorem lRegGo_fuel (c : List Int) : ∀ (f g n : Nat), n < f → n < g → lRegGo c f n = lRegGo c g n
  | 0, _, _, h, _ => by omega
  | _, 0, _, _, h => by omega
  | f + 1, g + 1, n, hf, hg => by
    unfold lRegGo
    split
    · rename_i h
      have h0 : n ≠ 0 := fun e => by subst e; simp [lLast] at h
      have := lPast_le c 8 (n - 1)
      rw [lRegGo_fuel c f g _ (by omega) (by omega)]
    · rfl
theorem lRegGo_right (he : e = 1 ∨ e = 3) : ∀ (f n : Nat), lRegGo (A ++ e :: B) f (A.length + 1 + n) = lRegGo B f n
  | 0, _ => rfl
  | f + 1, n => by
    unfold lRegGo
    rw [lLast_right]
    by_cases h0 : n = 0
    · subst h0
      rw [if_pos rfl, if_neg (by omega), if_neg (by simp [lLast])]
    · rw [if_neg h0, show A.length + 1 + n - 1 = A.length + 1 + (n - 1) by omega, lPast_right he (.inl rfl), lRegGo_right he f]
theorem lReg_right (he : e = 1 ∨ e = 3) (n : Nat) : lReg (A ++ e :: B) (A.length + 1 + n) = lReg B n := by
  unfold lReg
  have := lPast_le B 8 n
  rw [lPast_right he (.inl rfl), lRegGo_right he, lRegGo_fuel B _ (n + 1) _ (by omega) (by omega)]
theorem lNum_right (he : e = 1 ∨ e = 3) (n : Nat) : lNum (A ++ e :: B) (A.length + 1 + n) = lNum B n := by
  unfold lNum
  dsimp only
  have step : ∀ (L : List Int) (m : Nat), (L.contains e = false) → (L.contains (-1) = false) →
      (if L.contains (lLast (A ++ e :: B) (A.length + 1 + m)) = true then lPast (A ++ e :: B) 8 (A.length + 1 + m - 1) else A.length + 1 + m) = A.length + 1 + (if L.contains (lLast B m) = true then lPast B 8 (m - 1) else m) := by
    intro L m h1 h2
    rw [lLast_for (fun x => L.contains x) (by simp only [h1, h2]) m]
    split
    · rename_i h
      have h0 : m ≠ 0 := fun e0 => by subst e0; simp only [lLast, if_true] at h; rw [h2] at h; cases h
      rw [show A.length + 1 + m - 1 = A.length + 1 + (m - 1) by omega, lPast_right he (.inl rfl)]
    · rfl
  rw [lPast_right he (.inl rfl), step [11, 10] _ (by rcases he with rfl | rfl <;> rfl) rfl, step [14, 15] _ (by rcases he with rfl | rfl <;> rfl) rfl]
  exact lLast_for (fun x => x == 20) (by rcases he with rfl | rfl <;> rfl) _
/-- Behind a line's end a text begins anew. -/
theorem lCut_right (he : e = 1 ∨ e = 3) (j : Nat) : lCut (A ++ e :: B) (A.length + 1 + (j + 1)) = lCut B (j + 1) := by
  unfold lCut
  dsimp only
  rw [show A.length + 1 + (j + 1) - 1 = A.length + 1 + j by omega, show j + 1 - 1 = j from rfl, gl_right, gl_right, lPast_right he (.inl rfl), lPast_right he (.inr rfl)]
  have hzw : (lLast (A ++ e :: B) (A.length + 1 + lPast B 4 (j + 1)) = 5) = (lLast B (lPast B 4 (j + 1)) = 5) := lLast_for (fun x => x = 5) (by rcases he with rfl | rfl <;> simp) _
  have hgl := lLast_for (A := A) (B := B) (e := e) (fun x => lGlued (B.getD j 0) x (B.getD (j + 1) 0)) (by rcases he with rfl | rfl <;> simp [lGlued]) (lPast B 8 (j + 1))
  have hov : lOver (A ++ e :: B) (A.length + 1 + (j + 1)) (B.getD (j + 1) 0) = lOver B (j + 1) (B.getD (j + 1) 0) := by
    unfold lOver
    rw [lPast_right he (.inr rfl), lPast_right he (.inl rfl)]
    exact lLast_for (fun x => x == 9 || x == 12 && B.getD (j + 1) 0 == 9 || [11, 10].contains x && B.getD (j + 1) 0 == 24 || x == 18 && B.getD (j + 1) 0 == 18) (by rcases he with rfl | rfl <;> simp) _
  have hle : lLetters (A ++ e :: B) (A.length + 1 + (j + 1)) (lLast (A ++ e :: B) (A.length + 1 + lPast B 8 (j + 1))) (B.getD (j + 1) 0) = lLetters B (j + 1) (lLast B (lPast B 8 (j + 1))) (B.getD (j + 1) 0) := by
    unfold lLetters
    rw [lNum_right he, lReg_right he, show A.length + 1 + (j + 1) + 1 = A.length + 1 + (j + 1 + 1) by omega, gl_right]
    have hd : decide (A.length + 1 + (j + 1 + 1) < (A ++ e :: B).length) = decide (j + 1 + 1 < B.length) := by
      rw [List.length_append, List.length_cons, decide_eq_decide]; omega
    rw [hd]
    exact lLast_for (fun x => ([12, 17, 16, 24, 19].contains (B.getD (j + 1) 0) || x == 12 || lPairs x (B.getD (j + 1) 0)) || ([21, 22].contains (B.getD (j + 1) 0) && lNum B (j + 1)) ||
      ([21, 22].contains x && (B.getD (j + 1) 0 == 20 || [9, 16].contains (B.getD (j + 1) 0) && decide (j + 1 + 1 < B.length) && B.getD (j + 1 + 1) 0 == 20)) || (B.getD (j + 1) 0 == 25 && lReg B (j + 1) % 2 == 1)) (by rcases he with rfl | rfl <;> simp [lPairs]) _
  rw [hgl, hov, hle]
  simp only [hzw]
theorem lCut_begin (he : e = 1 ∨ e = 3) : lCut (A ++ e :: B) (A.length + 1) = true := by
  rw [lCut_end (by rw [gl_mid]; rcases he with rfl | rfl <;> rfl), gl_mid, decide_eq_false (by omega)]; rfl
end
end Go.Proofs.YtinfnfgflcjfmaaGreatDoor

/-
  PLAIN: letters: where a text is cut by the classes of its runes; what is never cut; a text's beginning. No walk.
-/
namespace Go.Proofs.YtinfnfgflcjfmaaGreatDoor

def endG (c : Nat) : Bool := c == 1 || c == 2 || c == 3
/-- Two classes side by side that are never parted. -/
def joinG (x y : Nat) : Bool :=
  if x = 1 ∧ y = 2 then true
  else if endG x || endG y then false
  else if y == 4 || y == 5 || y == 6 || x == 7 then true
  else if x = 8 then y == 8 || y == 9 || y == 11
  else if x = 9 ∨ x = 11 then y == 9 || y == 10
  else x == 10 && y == 10
/-- What is known ahead of a rune. -/
structure GS where
  prev : Nat
  pict : Bool
  joined : Bool
  flags : Nat
def GS.cut (st : GS) (y : Nat) : Bool := !(joinG st.prev y || st.joined && y == 12 || y == 13 && st.flags % 2 == 1)
def GS.next (st : GS) (y : Nat) : GS := ⟨y, y == 12 || st.pict && y == 4, st.pict && y == 5, if y = 13 then st.flags + 1 else 0⟩
def GS.first (y : Nat) : GS := ⟨y, y == 12, false, if y = 13 then 1 else 0⟩
def cutSt : GS → List Nat → List Bool
  | _, [] => []
  | st, y :: r => st.cut y :: cutSt (st.next y) r
/-- Ahead of which runes a text is cut. -/
def cutsG : List Nat → List Bool
  | [] => []
  | y :: r => true :: cutSt (GS.first y) r
def stOf : GS → List Nat → GS
  | st, [] => st
  | st, y :: r => stOf (st.next y) r
theorem stOf_snoc : ∀ (st : GS) (l : List Nat) (y : Nat), stOf st (l ++ [y]) = (stOf st l).next y
  | _, [], _ => rfl
  | st, z :: l, y => stOf_snoc (st.next z) l y
theorem cutSt_snoc : ∀ (st : GS) (l : List Nat) (y : Nat), cutSt st (l ++ [y]) = cutSt st l ++ [(stOf st l).cut y]
  | _, [], _ => rfl
  | st, z :: l, y => by rw [List.cons_append, cutSt, cutSt_snoc (st.next z) l y]; rfl
theorem cutSt_len : ∀ (st : GS) (l : List Nat), (cutSt st l).length = l.length
  | _, [] => rfl
  | st, y :: r => by rw [cutSt, List.length_cons, cutSt_len (st.next y) r, List.length_cons]
theorem cutsG_len (l : List Nat) : (cutsG l).length = l.length := by
  cases l with
  | nil => rfl
  | cons y r => rw [cutsG, List.length_cons, cutSt_len, List.length_cons]
theorem cutSt_take : ∀ (st : GS) (l : List Nat) (k : Nat), cutSt st (l.take k) = (cutSt st l).take k
  | _, [], k => by simp [cutSt]
  | st, y :: r, 0 => by simp [cutSt]
  | st, y :: r, k + 1 => by rw [List.take_succ_cons, cutSt, cutSt, List.take_succ_cons, cutSt_take (st.next y) r k]
theorem cutsG_take (l : List Nat) (k : Nat) : cutsG (l.take k) = (cutsG l).take k := by
  cases l with
  | nil => simp [cutsG]
  | cons y r =>
    cases k with
    | zero => simp [cutsG]
    | succ k => rw [List.take_succ_cons, cutsG, cutsG, List.take_succ_cons, cutSt_take]
/-- What the state keeps. -/
structure GS.Good (st : GS) : Prop where
  joined : st.joined = true → st.prev = 5
  flags : st.flags ≠ 0 → st.prev = 13
theorem GS.first_good (y : Nat) : (GS.first y).Good := ⟨fun h => by simp [GS.first] at h, fun h => by unfold GS.first at h ⊢; simp only at h ⊢; split at h; assumption; exact absurd rfl h⟩
theorem GS.next_good (st : GS) (y : Nat) : (st.next y).Good := ⟨fun h => by simp [GS.next] at h ⊢; exact h.2, fun h => by unfold GS.next at h ⊢; simp only at h ⊢; split at h; assumption; exact absurd rfl h⟩
theorem stOf_good : ∀ {st : GS} (l : List Nat), st.Good → (stOf st l).Good
  | _, [], h => h
  | st, y :: r, _ => stOf_good r (GS.next_good st y)
theorem stOf_prev : ∀ (st : GS) (l : List Nat), (stOf st l).prev = (l.getLast?).getD st.prev
  | _, [] => rfl
  | st, [y] => rfl
  | st, y :: z :: r => by
    have := stOf_prev (st.next y) (z :: r)
    rw [stOf, this, List.getLast?_cons_cons]
    cases h : (z :: r).getLast? with
    | none => simp at h
    | some x => rfl
theorem cutSt_at : ∀ (st : GS) (l : List Nat) (k : Nat) (y : Nat), l[k]? = some y → (cutSt st l)[k]? = some ((stOf st (l.take k)).cut y)
  | _, [], _, _, h => by simp at h
  | st, z :: l, 0, y, h => by simp at h; subst h; rfl
  | st, z :: l, k + 1, y, h => by
    rw [List.getElem?_cons_succ] at h
    rw [cutSt, List.getElem?_cons_succ, cutSt_at (st.next z) l k y h]; rfl
/-- Ahead of a rune behind another one: a state that knows the class of that. -/
theorem cutsG_at {l : List Nat} {k p y : Nat} (hp : l[k]? = some p) (hy : l[k + 1]? = some y) : ∃ st : GS, st.Good ∧ st.prev = p ∧ (cutsG l)[k + 1]? = some (st.cut y) := by
  cases l with
  | nil => simp at hp
  | cons z l =>
    rw [List.getElem?_cons_succ] at hy
    refine ⟨stOf (GS.first z) (l.take k), stOf_good _ (GS.first_good z), ?_, by rw [cutsG, List.getElem?_cons_succ, cutSt_at _ _ _ _ hy]⟩
    rw [stOf_prev]
    cases k with
    | zero => simp at hp; subst hp; rfl
    | succ k =>
      rw [List.getElem?_cons_succ] at hp
      have hlt := (List.getElem?_eq_some_iff.1 hp).1
      rw [List.getLast?_eq_getElem?, List.length_take, Nat.min_eq_left (by omega), Nat.add_sub_cancel, List.getElem?_take_of_lt (by omega), hp]; rfl
/-- What is never cut. -/
theorem cut_joined {st : GS} {y : Nat} (h : st.prev = 1 ∧ y = 2 ∨ endG st.prev = false ∧ (y = 4 ∨ y = 5 ∨ y = 6)) : st.cut y = false := by
  have : joinG st.prev y = true := by
    rcases h with ⟨h1, h2⟩ | ⟨h1, h2⟩
    · unfold joinG; rw [if_pos ⟨h1, h2⟩]
    · have hy : endG y = false := by rcases h2 with rfl | rfl | rfl <;> rfl
      unfold joinG
      rw [if_neg (by rcases h2 with rfl | rfl | rfl <;> omega), h1, hy, if_neg (by simp)]
      rcases h2 with rfl | rfl | rfl <;> simp
  unfold GS.cut; rw [this]; rfl
/-- What is always cut. -/
theorem cut_always {st : GS} {y : Nat} (hg : st.Good) (h1 : ¬ (st.prev = 1 ∧ y = 2)) (h2 : endG st.prev = true ∨ endG y = true) : st.cut y = true := by
  have hj : joinG st.prev y = false := by
    unfold joinG
    rw [if_neg h1, if_pos (by rcases h2 with h | h <;> rw [h] <;> simp)]
  have ha : (st.joined && y == 12) = false := by
    cases hjn : st.joined with
    | false => rfl
    | true =>
      have hp := hg.joined hjn
      rcases h2 with h | h
      · rw [hp] at h; cases h
      · cases hy : (y == 12) with
        | false => rfl
        | true => rw [beq_iff_eq.1 hy] at h; cases h
  have hb : (y == 13 && st.flags % 2 == 1) = false := by
    cases hy : (y == 13) with
    | false => rfl
    | true =>
      have hy' := beq_iff_eq.1 hy
      cases hf : (st.flags % 2 == 1) with
      | false => rfl
      | true =>
        have := beq_iff_eq.1 hf
        have hp := hg.flags (by omega)
        rcases h2 with h | h
        · rw [hp] at h; cases h
        · rw [hy'] at h; cases h
  unfold GS.cut; rw [hj, ha, hb]; rfl
/-- Where all classes are plain every rune is cut off. -/
theorem cut_plain {st : GS} {y : Nat} (hg : st.Good) (h1 : st.prev = 0 ∨ st.prev = 2 ∨ st.prev = 3) (h2 : y = 0 ∨ y = 2 ∨ y = 3) : st.cut y = true := by
  by_cases he : endG st.prev = true ∨ endG y = true
  · exact cut_always hg (by omega) he
  · have e1 : st.prev = 0 := by
      rcases h1 with h | h | h
      · exact h
      · exact absurd (.inl (by rw [h]; rfl)) he
      · exact absurd (.inl (by rw [h]; rfl)) he
    have e2 : y = 0 := by
      rcases h2 with h | h | h
      · exact h
      · exact absurd (.inr (by rw [h]; rfl)) he
      · exact absurd (.inr (by rw [h]; rfl)) he
    subst e2
    unfold GS.cut; rw [e1]
    cases st.joined <;> rfl

/-- The places of a list of runes at which it is cut. -/
def pickG : List (Nat × Nat × Nat) → List Bool → List Nat
  | x :: r, b :: t => (if b then [x.2.1] else []) ++ pickG r t
  | _, _ => []
def clsG (g : Int → Nat) (r : List (Nat × Nat × Nat)) : List Nat := r.map fun x => g x.1
def startsG (g : Int → Nat) (s : ByteArray) : List Nat := pickG (runesP s) (cutsG (clsG g (runesP s)))
/-- The bounds of a text. -/
def boundsG (g : Int → Nat) (s : ByteArray) : List Nat := if s.size = 0 then [] else startsG g s ++ [s.size]
theorem pickG_snoc : ∀ (r : List (Nat × Nat × Nat)) (t : List Bool) (x : Nat × Nat × Nat) (b : Bool), t.length = r.length → pickG (r ++ [x]) (t ++ [b]) = pickG r t ++ (if b then [x.2.1] else [])
  | [], [], x, b, _ => by simp [pickG]
  | [], _ :: _, _, _, h => by simp at h
  | _ :: _, [], _, _, h => by simp at h
  | y :: r, c :: t, x, b, h => by
    rw [List.cons_append, List.cons_append, pickG, pickG, pickG_snoc r t x b (by simpa using h), List.append_assoc]
theorem pickG_mem : ∀ {r : List (Nat × Nat × Nat)} {t : List Bool} {a : Nat}, a ∈ pickG r t ↔ ∃ (k : Nat) (x : Nat × Nat × Nat), r[k]? = some x ∧ t[k]? = some true ∧ x.2.1 = a
  | [], t, a => by simp [pickG]
  | _ :: _, [], a => by simp [pickG]
  | x :: r, b :: t, a => by
    rw [pickG, List.mem_append, pickG_mem (r := r) (t := t)]
    constructor
    · rintro (h | ⟨k, y, h1, h2, h3⟩)
      · cases b with
        | false => simp at h
        | true => simp at h; exact ⟨0, x, rfl, rfl, h.symm⟩
      · exact ⟨k + 1, y, by simpa using h1, by simpa using h2, h3⟩
    · rintro ⟨k, y, h1, h2, h3⟩
      cases k with
      | zero => simp at h1 h2; subst h1; subst h2; exact .inl (by simp [h3])
      | succ k => exact .inr ⟨k, y, by simpa using h1, by simpa using h2, h3⟩
theorem pickG_take : ∀ (r : List (Nat × Nat × Nat)) (t : List Bool) (z : Nat), r.Pairwise (fun x y => x.2.1 < y.2.1) → pickG (r.takeWhile fun x => decide (x.2.1 < z)) (t.take (r.takeWhile fun x => decide (x.2.1 < z)).length) = (pickG r t).filter fun a => decide (a < z)
  | [], t, z, _ => by simp [pickG]
  | x :: r, [], z, _ => by simp [pickG]
  | x :: r, b :: t, z, h => by
    rw [List.pairwise_cons] at h
    rw [List.takeWhile_cons]
    by_cases hx : x.2.1 < z
    · rw [if_pos (by simpa using hx), List.length_cons, List.take_succ_cons, pickG, pickG, pickG_take r t z h.2, List.filter_append]
      congr 1
      cases b with
      | false => rfl
      | true => simp [hx]
    · rw [if_neg (by simpa using hx)]
      symm
      rw [show pickG [] (List.take ([] : List (Nat × Nat × Nat)).length (b :: t)) = [] by simp [pickG], List.filter_eq_nil_iff]
      intro a ha
      obtain ⟨k, y, h1, _, rfl⟩ := pickG_mem.1 ha
      have : x.2.1 ≤ y.2.1 := by
        cases k with
        | zero => simp at h1; subst h1; exact Nat.le_refl _
        | succ k => rw [List.getElem?_cons_succ] at h1; exact Nat.le_of_lt (h.1 y (List.mem_of_getElem? h1))
      simp; omega

theorem runes_rise (s : ByteArray) : (runesP s).Pairwise fun x y => x.2.1 < y.2.1 := by
  have : ∀ (f a : Nat), (runesGo s f a).Pairwise fun x y => x.2.1 < y.2.1 := by
    intro f
    induction f with
    | zero => intro a; exact .nil
    | succ f ih =>
      intro a
      rw [runesGo]
      split
      · rename_i hlt
        have hd := dec_bd s a hlt
        refine .cons (fun y hy => ?_) (ih _)
        have := runesGo_bd _ _ y hy
        simp only; omega
      · exact .nil
  exact this _ _
theorem clsG_len (g : Int → Nat) (r : List (Nat × Nat × Nat)) : (clsG g r).length = r.length := by simp [clsG]
/-- A text's beginning up to a place where it is cut has the cuts that it had. -/
theorem starts_prefix (g : Int → Nat) (s : ByteArray) {z : Nat} (hz : z ≤ s.size) (h : z = 0 ∨ z = s.size ∨ ∃ x ∈ runesP s, x.2.1 = z) : startsG g (s.extract 0 z) = (startsG g s).filter fun a => decide (a < z) := by
  unfold startsG
  rw [runesP_prefix s hz h, ← pickG_take _ _ _ (runes_rise s), ← cutsG_take]
  congr 1
  unfold clsG
  rw [← List.map_take]
  congr 2
  have := List.takeWhile_prefix (fun x : Nat × Nat × Nat => decide (x.2.1 < z)) (l := runesP s)
  exact (List.prefix_iff_eq_take.1 this)
theorem pick_rise : ∀ {r : List (Nat × Nat × Nat)} {t : List Bool}, (r.Pairwise fun x y => x.2.1 < y.2.1) → (pickG r t).Pairwise (· < ·)
  | [], t, _ => by cases t <;> exact .nil
  | _ :: _, [], _ => .nil
  | x :: r, b :: t, h => by
    rw [List.pairwise_cons] at h
    rw [pickG]
    cases b with
    | false => exact pick_rise h.2
    | true =>
      refine .cons (fun a ha => ?_) (pick_rise h.2)
      obtain ⟨k, y, h1, _, rfl⟩ := pickG_mem.1 ha
      exact h.1 y (List.mem_of_getElem? h1)
theorem starts_rise (g : Int → Nat) (s : ByteArray) : (startsG g s).Pairwise (· < ·) := pick_rise (runes_rise s)
theorem starts_lt (g : Int → Nat) (s : ByteArray) : ∀ a ∈ startsG g s, a < s.size := fun a ha => by
  obtain ⟨k, y, h1, _, rfl⟩ := pickG_mem.1 ha
  have := runesP_bd y (List.mem_of_getElem? h1); omega
theorem starts_at (g : Int → Nat) (s : ByteArray) : ∀ a ∈ startsG g s, ∃ x ∈ runesP s, x.2.1 = a := fun a ha => by
  obtain ⟨k, y, h1, _, h⟩ := pickG_mem.1 ha
  exact ⟨y, List.mem_of_getElem? h1, h⟩
theorem starts_zero (g : Int → Nat) {s : ByteArray} (h : 0 < s.size) : ∃ T, startsG g s = 0 :: T := by
  obtain ⟨k, hk, e⟩ := runesGo_step (s := s) (f := s.size) (a := 0) h (by omega)
  unfold startsG runesP
  rw [e]
  exact ⟨_, rfl⟩
theorem bounds_rise (g : Int → Nat) (s : ByteArray) : (boundsG g s).Pairwise (· < ·) := by
  unfold boundsG
  split
  · exact .nil
  · rw [List.pairwise_append]
    exact ⟨starts_rise g s, by simp, fun a ha b hb => by simp at hb; subst hb; exact starts_lt g s a ha⟩
/-- How many pieces a text has up to its n-th bound: n. -/
theorem bounds_cut (g : Int → Nat) (s : ByteArray) {n z : Nat} (h : (boundsG g s)[n]? = some z) : (boundsG g (s.extract 0 z)).length - 1 = n ∧ z ≤ s.size := by
  unfold boundsG at h
  split at h
  · simp at h
  · rename_i hs
    have hr := starts_rise g s
    have hl := starts_lt g s
    have hcut : z ≤ s.size ∧ (z = 0 ∨ z = s.size ∨ ∃ x ∈ runesP s, x.2.1 = z) ∧ (startsG g s).filter (fun a => decide (a < z)) = (startsG g s).take n ∧ n ≤ (startsG g s).length := by
      rcases Nat.lt_or_ge n (startsG g s).length with hn | hn
      · rw [List.getElem?_append_left hn] at h
        have hm := List.mem_of_getElem? h
        refine ⟨Nat.le_of_lt (hl z hm), .inr (.inr (starts_at g s z hm)), ?_, Nat.le_of_lt hn⟩
        have e : startsG g s = (startsG g s).take n ++ (startsG g s).drop n := (List.take_append_drop n _).symm
        have hp := List.pairwise_iff_getElem.1 hr
        rw [List.getElem?_eq_getElem hn] at h
        injection h with h
        conv => lhs; rw [e]
        rw [List.filter_append]
        have e1 : ((startsG g s).take n).filter (fun a => decide (a < z)) = (startsG g s).take n := by
          rw [List.filter_eq_self]
          intro a ha
          obtain ⟨i, hi, rfl⟩ := List.getElem_of_mem ha
          rw [List.length_take] at hi
          have := hp i n (by omega) hn (by omega)
          rw [List.getElem_take]; simp; omega
        have e2 : ((startsG g s).drop n).filter (fun a => decide (a < z)) = [] := by
          rw [List.filter_eq_nil_iff]
          intro a ha
          obtain ⟨i, hi, rfl⟩ := List.getElem_of_mem ha
          rw [List.length_drop] at hi
          rw [List.getElem_drop]
          rcases Nat.eq_zero_or_pos i with h0 | h0
          · subst h0; simp; omega
          · have := hp n (n + i) hn (by omega) (by omega); simp; omega
        rw [e1, e2, List.append_nil]
      · rw [List.getElem?_append_right hn] at h
        have hn0 : n - (startsG g s).length = 0 := by
          rcases Nat.eq_zero_or_pos (n - (startsG g s).length) with h0 | h0
          · exact h0
          · rw [List.getElem?_eq_none (by simp only [List.length_singleton]; omega)] at h; cases h
        rw [hn0] at h
        simp at h
        subst h
        refine ⟨Nat.le_refl _, .inr (.inl rfl), ?_, by omega⟩
        rw [List.take_of_length_le (by omega), List.filter_eq_self]
        intro a ha; simpa using hl a ha
    obtain ⟨hz, hx, hf, hn⟩ := hcut
    refine ⟨?_, hz⟩
    have hsz : (s.extract 0 z).size = z := by rw [ByteArray.size_extract]; omega
    unfold boundsG
    rw [hsz]
    split
    · rename_i hz0
      subst hz0
      have : (startsG g s).take n = [] := by rw [← hf, List.filter_eq_nil_iff]; simp
      have := congrArg List.length this
      simp only [List.length_take, List.length_nil] at this ⊢; omega
    · rw [starts_prefix g s hz hx, hf, List.length_append, List.length_take, Nat.min_eq_left hn]; simp
end Go.Proofs.YtinfnfgflcjfmaaGreatDoor

/-
  PLAIN: letters turned; flags by twos; a text of whole runes in pieces. No walk.
-/
namespace Go.Proofs.YtinfnfgflcjfmaaGreatDoor

/-- Flag letters behind a plain one: cut by twos. -/
theorem flags_two : ∀ n, n ≤ 20 → (cutsG (0 :: List.replicate n 13)).count true = 1 + (n + 1) / 2 := by
  have h : (List.range 21).all (fun n => decide ((cutsG (0 :: List.replicate n 13)).count true = 1 + (n + 1) / 2)) = true := by decide
  intro n hn
  rw [List.all_eq_true] at h
  exact of_decide_eq_true (h n (List.mem_range.2 (by omega)))
theorem pick_len : ∀ (r : List (Nat × Nat × Nat)) (t : List Bool), t.length = r.length → (pickG r t).length = t.count true
  | [], [], _ => rfl
  | [], _ :: _, h => by simp at h
  | _ :: _, [], h => by simp at h
  | x :: r, b :: t, h => by
    rw [pickG, List.length_append, pick_len r t (by simpa using h)]
    cases b with
    | false => simp
    | true => simp; omega
theorem starts_len (g : Int → Nat) (s : ByteArray) : (startsG g s).length = (cutsG (clsG g (runesP s))).count true := pick_len _ _ (by rw [cutsG_len, clsG_len])

/-- The pieces between bounds, the last one first. -/
def turnL (s : ByteArray) : List Nat → List UInt8
  | a :: b :: r => turnL s (b :: r) ++ (s.extract a b).data.toList
  | _ => []
theorem turnL_len (s : ByteArray) : ∀ (l : List Nat), l.Pairwise (· < ·) → (∀ a ∈ l, a ≤ s.size) → (turnL s l).length = l.getLast?.getD 0 - l.head?.getD 0
  | [], _, _ => rfl
  | [a], _, _ => by simp [turnL]
  | a :: b :: r, h, hz => by
    rw [List.pairwise_cons] at h
    have hab := h.1 b (by simp)
    have ih := turnL_len s (b :: r) h.2 (fun c hc => hz c (by simp [hc]))
    have hlast : b ≤ ((b :: r).getLast?).getD 0 := by
      rw [List.getLast?_eq_getElem?]
      have hlt : (b :: r).length - 1 < (b :: r).length := by simp
      rw [List.getElem?_eq_getElem hlt, Option.getD_some]
      rcases Nat.eq_zero_or_pos ((b :: r).length - 1) with h0 | h0
      · have : (b :: r)[(b :: r).length - 1] = b := by
          have : r = [] := List.eq_nil_of_length_eq_zero (by simpa using h0)
          subst this; rfl
        omega
      · exact Nat.le_of_lt (List.pairwise_iff_getElem.1 h.2 0 _ (by simp) hlt h0)
    rw [turnL, List.length_append, ih, extract_len s (hz b (by simp)), List.getLast?_cons_cons]
    simp only [List.head?_cons, Option.getD_some]
    omega
theorem turn_len (g : Int → Nat) (s : ByteArray) : (turnL s (boundsG g s)).length = s.size := by
  have h := turnL_len s (boundsG g s) (bounds_rise g s)
  by_cases hs : s.size = 0
  · unfold boundsG; rw [if_pos hs, hs]; rfl
  · obtain ⟨T, hT⟩ := starts_zero g (s := s) (by omega)
    have hb : boundsG g s = startsG g s ++ [s.size] := by unfold boundsG; rw [if_neg hs]
    rw [h (fun a ha => by
      rw [hb] at ha
      rcases List.mem_append.1 ha with ha | ha
      · exact Nat.le_of_lt (starts_lt g s a ha)
      · simp at ha; omega), hb]
    rw [List.getLast?_append, hT]
    simp

/- Whole runes. -/
/-- Bytes that are one whole rune. -/
def Chunk (c : List UInt8) : Prop := c ≠ [] ∧ (Utf8.decode (bytesOf c) 0).2 = c.length ∧ ((Utf8.decode (bytesOf c) 0).1 ≠ 65533 ∨ c.length = 3)
def chunksOf (s : ByteArray) (r : List (Nat × Nat × Nat)) : List (List UInt8) := r.map fun x => (s.extract x.2.1 x.2.2).data.toList
/-- A text of whole runes is read as these. -/
theorem chunks_go (t : ByteArray) : ∀ (C : List (List UInt8)) (pre : List UInt8) (f : Nat), (∀ c ∈ C, Chunk c) → t.data.toList = pre ++ C.flatten → t.size ≤ pre.length + f →
    chunksOf t (runesGo t f pre.length) = C ∧ (runesGo t f pre.length).map (·.1) = C.map fun c => (Utf8.decode (bytesOf c) 0).1
  | [], pre, f, _, ht, hf => by
    have : t.size = pre.length := by rw [← size_data, ht]; simp
    rw [runesGo_end (by omega)]; exact ⟨rfl, rfl⟩
  | c :: C, pre, f, hC, ht, hf => by
    obtain ⟨h1, h2, h3⟩ := hC c (by simp)
    have h1' : 0 < c.length := List.length_pos_iff.2 h1
    have hz : t.size = pre.length + c.length + C.flatten.length := by
      rw [← size_data, ht, List.flatten_cons, List.length_append, List.length_append]; omega
    obtain ⟨⟨R, W⟩, hD⟩ : ∃ d, Utf8.decode (bytesOf c) 0 = d := ⟨_, rfl⟩
    rw [hD] at h2 h3
    simp only at h2 h3
    subst h2
    have hd : Utf8.decode t pre.length = (R, c.length) := dec_same hD (by omega) h3 (by omega) fun k hk => by
      rw [bytesOf_get, Nat.zero_add, ← Lib.getD_get!' t, ht, List.flatten_cons, List.getD_eq_getElem?_getD, List.getD_eq_getElem?_getD, List.getElem?_append_right (by omega), Nat.add_sub_cancel_left, List.getElem?_append_left hk]
    obtain ⟨g, rfl, hg⟩ := runesGo_step (s := t) (f := f) (a := pre.length) (by omega) hf
    rw [hd] at hg
    simp only at hg
    obtain ⟨i1, i2⟩ := chunks_go t C (pre ++ c) g (fun y hy => hC y (by simp [hy])) (by rw [ht, List.flatten_cons, List.append_assoc]) (by rw [List.length_append]; omega)
    rw [List.length_append] at i1 i2
    have hx : (t.extract pre.length (pre.length + c.length)).data.toList = c := by
      rw [ByteArray.data_extract, Array.toList_extract, List.extract_eq_take_drop, ht, List.drop_left, Nat.add_sub_cancel_left, List.flatten_cons, List.take_left]
    rw [hg]
    unfold chunksOf at i1 ⊢
    rw [List.map_cons, List.map_cons, List.map_cons, i1, i2, hD]
    exact ⟨by rw [hx], rfl⟩
theorem chunks_flat {C : List (List UInt8)} (hC : ∀ c ∈ C, Chunk c) : chunksOf (bytesOf C.flatten) (runesP (bytesOf C.flatten)) = C ∧ (runesP (bytesOf C.flatten)).map (·.1) = C.map fun c => (Utf8.decode (bytesOf c) 0).1 :=
  chunks_go (bytesOf C.flatten) C [] _ hC (by rw [bytesOf_list]; rfl) (by simp)
theorem contig_flat (s : ByteArray) : ∀ (r : List (Nat × Nat × Nat)) (p z : Nat), Contig p r z → z ≤ s.size → (chunksOf s r).flatten = (s.data.toList.drop p).take (z - p)
  | [], p, z, h, _ => by have : p = z := h; subst this; simp [chunksOf]
  | x :: r, p, z, h, hz => by
    obtain ⟨h1, h2, h3⟩ := h
    have hle : ∀ {r : List (Nat × Nat × Nat)} {p z : Nat}, Contig p r z → p ≤ z := by
      intro r
      induction r with
      | nil => intro p z h; have : p = z := h; omega
      | cons y r ih => intro p z h; have := ih h.2.2; have := h.2.1; omega
    have h4 := hle h3
    have ih := contig_flat s r x.2.2 z h3 hz
    unfold chunksOf at ih ⊢
    rw [List.map_cons, List.flatten_cons, ih, h1, ByteArray.data_extract, Array.toList_extract, List.extract_eq_take_drop]
    rw [show z - p = (x.2.2 - p) + (z - x.2.2) by omega, List.take_add, List.drop_drop, show p + (x.2.2 - p) = x.2.2 by omega]
theorem chunks_all (s : ByteArray) : (chunksOf s (runesP s)).flatten = s.data.toList := by
  rw [contig_flat s _ 0 s.size (runesP_contig s) (Nat.le_refl _), List.drop_zero, Nat.sub_zero, List.take_of_length_le (by rw [size_data]; exact Nat.le_refl _)]
/-- Each rune of a valid text is whole. -/
theorem chunk_of {s : ByteArray} {x : Nat × Nat × Nat} (hx : x ∈ runesP s) (hv : x.1 ≠ 65533 ∨ x.2.2 - x.2.1 = 3) : Chunk (s.extract x.2.1 x.2.2).data.toList ∧ (Utf8.decode (bytesOf (s.extract x.2.1 x.2.2).data.toList) 0).1 = x.1 := by
  have hb := runesP_bd x hx
  have hd := runesGo_dec _ _ x hx
  have hl := extract_len s (a := x.2.1) hb.2.1
  have hD : Utf8.decode (bytesOf (s.extract x.2.1 x.2.2).data.toList) 0 = (x.1, x.2.2 - x.2.1) := dec_same hd (by omega) hv (by rw [bytesOf_size, hl]; omega) fun k hk => by
    rw [bytesOf_get, Nat.zero_add, ← Lib.getD_get!' s, ByteArray.data_extract, Array.toList_extract, List.extract_eq_take_drop, List.getD_eq_getElem?_getD, List.getD_eq_getElem?_getD, List.getElem?_take_of_lt hk, List.getElem?_drop]
  refine ⟨⟨fun h => ?_, ?_, ?_⟩, by rw [hD]⟩
  · rw [h] at hl; simp at hl; omega
  · rw [hD, hl]
  · rw [hD, hl]; exact hv
end Go.Proofs.YtinfnfgflcjfmaaGreatDoor

