/-
  PLAIN: the spelling of a set; read again it is the set. No walk.
-/
import Derived.Test.YteelepiaegpkhaaGreatDoorPar2
namespace Go.Proofs.YteelepiaegpkhaaGreatDoor

def hexD (d : Nat) : UInt8 := if d < 10 then UInt8.ofNat (48 + d) else UInt8.ofNat (55 + d)
/-- The last k hexadecimal digits of a number. -/
def hexW : Nat → Nat → List UInt8
  | 0, _ => []
  | k + 1, n => hexW k (n / 16) ++ [hexD (n % 16)]
def hexK (n : Nat) : Nat := if n < 65536 then 4 else if n < 1048576 then 5 else 6
def hexS (n : Nat) : List UInt8 := hexW (hexK n) n
theorem hexW_len : ∀ (k n : Nat), (hexW k n).length = k
  | 0, _ => rfl
  | k + 1, n => by rw [hexW, List.length_append, hexW_len k]; rfl
theorem hexK_bd (n : Nat) : 4 ≤ hexK n ∧ hexK n ≤ 6 := by unfold hexK; split <;> (try split) <;> omega
theorem hexS_len (n : Nat) : (hexS n).length = hexK n := hexW_len _ _
theorem hexD_nat {d : Nat} (h : d < 16) : ((hexD d).toNat : Int) = if d < 10 then 48 + (d : Int) else 55 + (d : Int) := by
  unfold hexD
  split
  · rw [UInt8.toNat_ofNat']; omega
  · rw [UInt8.toNat_ofNat']; omega
theorem hexD_hex {d : Nat} (h : d < 16) : isHexN ((hexD d).toNat : Int) = true := by
  rw [hexD_nat h]; refine (isHexN_t ?_).symm; split <;> omega
theorem hexD_dig {d : Nat} (h : d < 16) : hexDig ((hexD d).toNat : Int) = d := by
  rw [hexD_nat h]; unfold hexDig; split <;> (rename_i h1; split <;> omega)
theorem hexW_all : ∀ (k n : Nat), allHex (hexW k n)
  | 0, _ => fun c h => by simp [hexW] at h
  | k + 1, n => fun c h => by
    rw [hexW] at h
    rcases List.mem_append.1 h with h | h
    · exact hexW_all k _ c h
    · simp at h; subst h; exact hexD_hex (Nat.mod_lt _ (by decide))
theorem hexW_val : ∀ (k n : Nat), n < 16 ^ k → hexVal (hexW k n) = n
  | 0, n, h => by simp [hexW, hexVal]; omega
  | k + 1, n, h => by
    rw [hexW, hexVal_snoc, hexW_val k (n / 16) (by rw [Nat.pow_succ] at h; omega), hexD_dig (Nat.mod_lt _ (by decide))]
    omega
theorem hexS_val {n : Nat} (h : n ≤ 1114111) : hexVal (hexS n) = n := by
  refine hexW_val _ _ ?_
  unfold hexK
  split
  · simpa using ‹_›
  · split
    · simpa using ‹_›
    · show n < 16777216; omega
theorem hexS_bytes (n : Nat) : ∀ c ∈ hexS n, c ≠ 32 ∧ c ≠ 45 := fun c hc => by
  have := of_decide_eq_true (show isHexN (c.toNat : Int) = true from hexW_all _ _ c hc)
  constructor <;> (rintro rfl; simp at this)

/-- A rune's spelling; a range's; a set's. -/
def spellP (r : Int) : List UInt8 := [85, 43] ++ hexS r.toNat
def itemT (x : Int × Int) : List UInt8 := spellP x.1 ++ (if x.2 = x.1 then [] else 45 :: spellP x.2)
def printL : List (Int × Int) → List UInt8
  | [] => []
  | [x] => itemT x
  | x :: y :: r => itemT x ++ 32 :: printL (y :: r)
def printP (l : List (Int × Int)) : List UInt8 := printL (normR l)
theorem spellP_len (r : Int) : (spellP r).length ≤ 8 := by unfold spellP; rw [List.length_append, hexS_len]; have := hexK_bd r.toNat; simp; omega
theorem itemT_len (x : Int × Int) : (itemT x).length ≤ 17 := by
  unfold itemT; rw [List.length_append]
  have := spellP_len x.1; have := spellP_len x.2
  split
  · simp; omega
  · simp; omega
theorem printL_len : ∀ (l : List (Int × Int)), (printL l).length ≤ 18 * l.length
  | [] => by simp [printL]
  | [x] => by have := itemT_len x; simp [printL]; omega
  | x :: y :: r => by
    have h1 := itemT_len x; have h2 := printL_len (y :: r)
    rw [printL, List.length_append, List.length_cons]
    simp only [List.length_cons] at h2 ⊢; omega
/-- Behind what stands ahead. -/
theorem printL_snoc : ∀ (l : List (Int × Int)) (x : Int × Int), printL (l ++ [x]) = printL l ++ (if l = [] then [] else [32]) ++ itemT x
  | [], x => by simp [printL]
  | [y], x => by simp [printL]
  | y :: z :: r, x => by
    have ih := printL_snoc (z :: r) x
    simp only [List.cons_append, printL] at ih ⊢
    rw [ih]; simp

/- Read again. -/
theorem hexRun_of {s : ByteArray} {a : Nat} {d r : List UInt8} (h : rest s a = d ++ r) (hd : allHex d) (hr : ∀ c, r.head? = some c → isHexN (c.toNat : Int) = false) : hexRun s a = d := by
  unfold hexRun; rw [h]
  clear h
  induction d with
  | nil =>
    rw [List.nil_append]
    cases r with
    | nil => rfl
    | cons c r => rw [List.takeWhile_cons, if_neg (by rw [hr c rfl]; decide)]
  | cons c d ih =>
    rw [List.cons_append, List.takeWhile_cons, if_pos (hd c (by simp)), ih (fun e he => hd e (by simp [he]))]
theorem rest_add {s : ByteArray} {a : Nat} {d r : List UInt8} (h : rest s a = d ++ r) : rest s (a + d.length) = r := by
  unfold rest at h ⊢
  rw [← List.drop_drop, h, List.drop_left]
theorem runeP_spell {s : ByteArray} {a : Nat} {x : Int} {r : List UInt8} (h : rest s a = spellP x ++ r) (hx : 0 ≤ x ∧ x ≤ 1114111) (hr : ∀ c, r.head? = some c → isHexN (c.toNat : Int) = false) :
    runeP s a = .ok (x, a + (spellP x).length) := by
  have h2 : rest s (a + 2) = hexS x.toNat ++ r := by
    have := rest_add (d := [85, 43]) (r := hexS x.toNat ++ r) (by rw [h, spellP, List.append_assoc])
    exact this
  have hh := hexRun_of h2 (hexW_all _ _) hr
  have hl := hexS_len x.toNat
  have hk := hexK_bd x.toNat
  have hv := hexS_val (n := x.toNat) (by omega)
  unfold runeP
  rw [if_pos (by rw [h]; simp [spellP]), numP, hh, if_neg (by omega), if_neg (by rw [hv]; omega), hv]
  congr 2
  · omega
  · rw [spellP, List.length_append]; simp only [List.length_cons, List.length_nil]; omega
theorem itemP_item {s : ByteArray} {a : Nat} {x : Int × Int} {r : List UInt8} (h : rest s a = itemT x ++ r) (h0 : 0 ≤ x.1) (h1 : x.1 ≤ x.2) (h2 : x.2 ≤ 1114111) (hr : ∀ c, r.head? = some c → c = 32) :
    itemP s a = .ok (x, a + (itemT x).length) := by
  have hr2 : ∀ c, r.head? = some c → isHexN (c.toNat : Int) = false := fun c hc => by rw [hr c hc]; rfl
  have hrs : ¬ (r.head? ≠ none ∧ r.head? ≠ some 32) := by
    rintro ⟨k1, k2⟩
    cases hc : r.head? with
    | none => exact k1 hc
    | some c => rw [hc, hr c hc] at k2; exact k2 rfl
  unfold itemT at h ⊢
  by_cases he : x.2 = x.1
  · rw [if_pos he, List.append_nil] at h ⊢
    have k1 := runeP_spell h ⟨h0, by omega⟩ hr2
    have k2 := rest_add h
    unfold itemP
    rw [k1]; simp only
    rw [k2, if_neg (fun e => by have := hr _ e; simp at this)]
    simp only
    rw [k2, if_neg (by omega), if_neg hrs]
    congr 2
    exact Prod.ext rfl he.symm
  · rw [if_neg he] at h ⊢
    rw [List.append_assoc, List.cons_append] at h
    have k1 := runeP_spell h ⟨h0, by omega⟩ (fun c hc => by simp at hc; subst hc; rfl)
    have k2 := rest_add h
    have k3 : rest s (a + (spellP x.1).length + 1) = spellP x.2 ++ r := rest_add (d := [45]) (by rw [k2]; rfl)
    have k4 := runeP_spell k3 ⟨by omega, h2⟩ hr2
    have k5 := rest_add k3
    unfold itemP
    rw [k1]; simp only
    rw [k2, if_pos (by rfl), k4]
    simp only
    rw [k5, if_neg (by omega), if_neg hrs]
    congr 2
    rw [List.length_append, List.length_cons]; omega
theorem itemT_head (x : Int × Int) (r : List UInt8) : (itemT x ++ r).head? = some 85 := by unfold itemT spellP; rfl
theorem parse_print {s : ByteArray} : ∀ (L : List (Int × Int)) (f a : Nat) (acc : List (Int × Int)), (∀ x ∈ L, 0 ≤ x.1 ∧ x.1 ≤ x.2 ∧ x.2 ≤ 1114111) → rest s a = printL L → 2 * L.length < f + 1 → parseGo s f a acc = .ok (acc ++ L)
  | [], f, a, acc, _, h, hf => by
    cases f with
    | zero => simp [parseGo]
    | succ f => unfold parseGo; rw [h]; simp [printL]
  | x :: L, f, a, acc, hb, h, hf => by
    obtain ⟨f, rfl⟩ : ∃ g, f = g + 1 := ⟨f - 1, by simp at hf; omega⟩
    have hx := hb x (by simp)
    cases L with
    | nil =>
      have h' : rest s a = itemT x ++ [] := by rw [h]; simp [printL]
      have k := itemP_item h' hx.1 hx.2.1 hx.2.2 (by simp)
      have kr := rest_add h'
      unfold parseGo
      rw [h', itemT_head]; simp only
      rw [if_neg (by decide), k]
      simp only
      have := parse_print [] f (a + (itemT x).length) (acc ++ [x]) (by simp) (by rw [kr]; rfl) (by simp at hf ⊢)
      rw [this]; simp
    | cons y L =>
      have h' : rest s a = itemT x ++ 32 :: printL (y :: L) := by rw [h]; rfl
      have k := itemP_item h' hx.1 hx.2.1 hx.2.2 (by simp)
      have kr := rest_add h'
      unfold parseGo
      rw [h', itemT_head]; simp only
      rw [if_neg (by decide), k]
      simp only
      obtain ⟨f, rfl⟩ : ∃ g, f = g + 1 := ⟨f - 1, by simp at hf; omega⟩
      unfold parseGo
      rw [kr]; simp only [List.head?_cons, if_true]
      have := parse_print (y :: L) f (a + (itemT x).length + 1) (acc ++ [x]) (fun z hz => hb z (by simp [hz])) (rest_add (d := [32]) (by rw [kr]; rfl)) (by simp only [List.length_cons] at hf ⊢; omega)
      rw [this]; simp
theorem printL_ge : ∀ (l : List (Int × Int)), 2 * l.length ≤ (printL l).length
  | [] => by simp
  | [x] => by unfold printL itemT spellP; simp
  | x :: y :: r => by
    have ih := printL_ge (y :: r)
    rw [printL, List.length_append, List.length_cons]
    unfold itemT spellP
    simp only [List.length_append, List.length_cons] at ih ⊢; omega
/-- What is printed is read as the same set. -/
theorem parse_printP (l : List (Int × Int)) : parseP ⟨(printP l).toArray⟩ = .ok (normR l) := by
  have hz : (⟨(printP l).toArray⟩ : ByteArray).size = (printP l).length := by rw [← size_data]
  unfold parseP
  rw [hz]
  have := printL_ge (normR l)
  refine parse_print (normR l) _ 0 [] (fun x hx => ?_) ?_ (by unfold printP; omega)
  · have h1 := (normR_NF l).2 x hx
    have h2 := Nf_le (normR_nf l) x hx
    omega
  · unfold rest printP; simp
end Go.Proofs.YteelepiaegpkhaaGreatDoor
