/-
  Several texts in one, in their build order: PropsL, DbK, UtfP, GraP, Dg, We, WorP, Ga, Ka, Kb, GraQ, GraS, GraR, UtfJ, UtfS, GraT, GraV, LinP, LinQ, LinR, UtfI, HexR, PrintS, Shelf3, Ds, PrsP, PrsL, PrsG, PrsD, PrsE, SenP, PrsS, PtA, PtB, PtC, PtD, PtE, PtF, PtG, PrsC, VP, Bld, Grow, Upper, Repeat, Spell, Join, Print, Wi, Wj, Vb, Qt, Vd, Last, Vf, PrK, PrL, TrD, Qd, Vi, Vm, Va, Vc, Ve, WorQ, WorR, Dw, Ke, Dl, Td, UtfL, Tf, RunD, RunT, Ue, Rng, AppIn, RngC, Ge, Each, Kt, WorT, Rgn, Wl, RefY, RefZ.
-/
import Derived.KernelRfl
import Derived.Lib.DecodeN
import Derived.Lib.RuneCountTail
import Derived.Deep.DeepMust
import Derived.Deep.CutRange
import Derived.Deep.RegionHeld3
import Derived.Lib.MapLaws
import Derived.Deep.LoopGhost
import Derived.Lib.AppendStr
import Derived.Lib.BufferRead
import Derived.Shelf.Unicode.ValidAny
import Derived.Laws.Bits64b
import Derived.Laws.ShiftsVarLaws
import Derived.WalkSmall
import Derived.RegionTactic
import Derived.BigRegion
import Derived.OwnWalk
import Derived.Deep.RegionLaw
import Derived.Shelf.Strings.BuilderK
import Derived.Lib.OthersKept
import Derived.RangeFuncOwn
import Derived.Lib.Builder
import Derived.Lib.FrozenHead2
import Derived.Laws.BitsAllLaws
import Derived.Laws.Bits
import Derived.Lib.SpaceU
import Derived.WalkMore
import Derived.RangeFuncNested
import Derived.RangeFuncBound
import Derived.RangeFuncCalls
import Derived.RangeFuncLeaves
import Derived.Shelf.Abstract
import Derived.Shelf.RegionOpen
import Derived.OwnWalkIn
import Derived.TacticsInMore
import Derived.LoopNIn
import Derived.LoopIn
import Derived.RangeFuncKeeps
import Derived.CallsIn
import Derived.OrdersIn
import Derived.Lib.UnsafeStr
import Derived.Test.YtdngkienloligaaGreatDoorZ0a
import Derived.Test.YtdngkienloligaaGreatDoorZ0b
import Derived.Test.YtdngkienloligaaGreatDoorZWc
import Derived.Test.YtdngkienloligaaGreatDoorZRefU
import Derived.Test.YtdngkienloligaaGreatDoorZ6a
import Derived.Test.YtdngkienloligaaGreatDoorZ1a
import Derived.Test.YtdngkienloligaaGreatDoorZ2a
/- -/
namespace Go.Proofs.YtdngkienloligaaGreatDoor
def offB (x y : Int × Int × Nat) : Bool := decide (x.2.1 < y.1) || decide (y.2.1 < x.1)
def offAll : List (Int × Int × Nat) → Bool
  | [] => true
  | x :: r => r.all (offB x) && offAll r
theorem offAll_spec : ∀ {l : List (Int × Int × Nat)}, offAll l = true → l.Pairwise Off
  | [], _ => .nil
  | x :: r, h => by
    simp only [offAll, Bool.and_eq_true, List.all_eq_true] at h
    refine .cons (fun y hy => ?_) (offAll_spec h.2)
    have := h.1 y hy
    simpa [offB, Off] using this
theorem entG_apart : ∀ {S : List (List (Int × Int))} {c : Nat}, (entG c S).Pairwise Off → Apart S
  | [], c, _ => fun i j a b hi => by simp at hi
  | s :: S, c, h => by
    unfold entG at h
    rw [List.pairwise_append] at h
    have ih := entG_apart h.2.1
    have hx : ∀ (j : Nat) (b : List (Int × Int)), S[j]? = some b → ∀ r, memR s r → memR b r → False := fun j b hb r ⟨x, hx, h1, h2⟩ ⟨y, hy, h3, h4⟩ => by
      have := h.2.2 (x.1, x.2, c) (List.mem_map.2 ⟨x, hx, rfl⟩) (y.1, y.2, c + 1 + j) (mem_entG.2 ⟨j, b, hb, hy, rfl⟩)
      unfold Off at this; simp only at this; omega
    intro i j a b hi hj hij r ha hb
    cases i with
    | zero =>
      cases j with
      | zero => omega
      | succ j => simp at hi hj; subst hi; exact hx j b hj r ha hb
    | succ i =>
      cases j with
      | zero => simp at hi hj; subst hj; exact hx i a hi r hb ha
      | succ j => exact ih i j a b (by simpa using hi) (by simpa using hj) (by omega) r ha hb
def nfB : List (Int × Int) → Bool
  | [] => true
  | x :: r => decide (0 ≤ x.1) && decide (x.1 ≤ x.2) && decide (x.2 ≤ 1114111) && r.all (fun y => decide (x.2 + 1 < y.1)) && nfB r
theorem nfB_spec : ∀ {l : List (Int × Int)}, nfB l = true → NF l
  | [], _ => ⟨trivial, by simp⟩
  | x :: r, h => by
    simp only [nfB, Bool.and_eq_true, List.all_eq_true, decide_eq_true_eq] at h
    obtain ⟨⟨⟨⟨h1, h2⟩, h3⟩, h4⟩, h5⟩ := h
    have ih := nfB_spec h5
    refine ⟨⟨h2, h4, ih.1⟩, fun y hy => ?_⟩
    rcases List.mem_cons.1 hy with rfl | hy
    · exact ⟨h1, h3⟩
    · exact ih.2 y hy
def nodB : List (List UInt8) → Bool
  | [] => true
  | x :: r => r.all (fun y => !(y == x)) && nodB r
theorem nodB_spec : ∀ {l : List (List UInt8)}, nodB l = true → l.Nodup
  | [], _ => .nil
  | x :: r, h => by
    simp only [nodB, Bool.and_eq_true, List.all_eq_true] at h
    refine List.nodup_cons.2 ⟨fun hx => ?_, nodB_spec h.2⟩
    have := h.1 x hx
    simp at this
def DbP.okB (d : DbP) : Bool :=
  decide (d.sets.length = d.names.length) && d.sets.all nfB && nodB d.names && decide (d.names.head? = some otherL) && decide (d.sets.head? = some []) && decide (d.names.length ≤ 64) && offAll (entG 0 d.sets) && d.names.all nameL
theorem DbP.okB_spec {d : DbP} (h : d.okB = true) : d.Ok ∧ Apart d.sets ∧ d.Named := by
  simp only [DbP.okB, Bool.and_eq_true, List.all_eq_true, decide_eq_true_eq] at h
  obtain ⟨⟨⟨⟨⟨⟨⟨h1, h2⟩, h3⟩, h4⟩, h5⟩, h6⟩, h7⟩, h8⟩ := h
  exact ⟨⟨h1, fun l hl => nfB_spec (h2 l hl), nodB_spec h3, h4, h5, h6⟩, entG_apart (offAll_spec h7), h8⟩
end Go.Proofs.YtdngkienloligaaGreatDoor

/- -/
namespace Go.Proofs.YtdngkienloligaaGreatDoor
def insK (x : Int × Int) : List (Int × Int) → List (Int × Int)
  | [] => [x]
  | y :: r => if x.1 ≤ y.1 then x :: y :: r else y :: insK x r
def sortK : List (Int × Int) → List (Int × Int)
  | [] => []
  | x :: r => insK x (sortK r)
theorem insK_perm (x : Int × Int) : ∀ (l : List (Int × Int)), (insK x l).Perm (x :: l)
  | [] => .refl _
  | y :: r => by
    unfold insK
    split
    · exact .refl _
    · exact ((insK_perm x r).cons y).trans (List.Perm.swap x y r)
theorem sortK_perm : ∀ (l : List (Int × Int)), (sortK l).Perm l
  | [] => .refl _
  | x :: r => (insK_perm x (sortK r)).trans ((sortK_perm r).cons x)
theorem insK_rise {x : Int × Int} : ∀ {l : List (Int × Int)}, Rise l → Rise (insK x l)
  | [], _ => by unfold insK Rise; simp
  | y :: r, h => by
    have h' := List.pairwise_cons.1 h
    unfold insK
    split
    · rename_i hxy
      refine List.pairwise_cons.2 ⟨fun z hz => ?_, h⟩
      rcases List.mem_cons.1 hz with rfl | hz
      · exact hxy
      · have := h'.1 z hz; omega
    · rename_i hxy
      refine List.pairwise_cons.2 ⟨fun z hz => ?_, insK_rise h'.2⟩
      rcases List.mem_cons.1 ((insK_perm x r).mem_iff.1 hz) with rfl | hz
      · omega
      · exact h'.1 z hz
theorem sortK_rise : ∀ (l : List (Int × Int)), Rise (sortK l)
  | [] => .nil
  | _ :: r => insK_rise (sortK_rise r)
def normK (l : List (Int × Int)) : List (Int × Int) := mergeR (sortK (keepR l))
theorem normK_eq (l : List (Int × Int)) : normK l = normR l := mergeR_eq (sortK_perm _) (sortK_rise _)
def addK (d : DbP) (name set : List UInt8) : Except Int DbP :=
  if nameL name = false ∨ name = otherL then .error 40 else
  match parseE (spcL set) with
  | .error e => .error e
  | .ok l =>
    match d.num name with
    | some c => if d.clash c (normK l) then .error 41 else .ok ⟨d.names, d.sets.set c (normK ((d.sets.getD c []) ++ normK l))⟩
    | none => if 64 ≤ d.names.length then .error 6 else if d.clash d.names.length (normK l) then .error 41 else .ok ⟨d.names ++ [name], d.sets ++ [normK l]⟩
theorem addK_eq (d : DbP) (n s : List UInt8) : addK d n s = addL d n s := by
  have e : ∀ l, normK l = orR [] (normR l) := fun l => by unfold orR; rw [normK_eq, List.nil_append, normR_of_NF (normR_NF l)]
  have e1 : ∀ a b, normK (a ++ b) = orR a b := fun a b => by rw [normK_eq]; rfl
  unfold addK addL
  split
  · rfl
  · cases parseE (spcL s) with
    | error e => rfl
    | ok l =>
      simp only
      cases d.num n with
      | some c => simp only [e1, normK_eq]
      | none => simp only; rw [e, show orR [] (normR l) = normR l by rw [← e, normK_eq]]
def stepK (d : DbP) (l : List UInt8) : Except Int DbP :=
  match lineP l with
  | .none_ => .ok d
  | .noLine => .error 42
  | .says n s => addK d n s
theorem stepK_eq (d : DbP) (l : List UInt8) : stepK d l = stepL d l := by
  unfold stepK stepL
  cases lineP l with
  | none_ => rfl
  | noLine => rfl
  | says n s => exact addK_eq d n s
def goK (d : DbP) : List (List UInt8) → Nat → Except (Int × Nat) DbP
  | [], _ => .ok d
  | l :: r, i => match stepK d l with
    | .error e => .error (e, i + 1)
    | .ok d' => goK d' r (i + 1)
theorem goK_eq : ∀ (L : List (List UInt8)) (d : DbP) (i : Nat), goK d L i = linesGo d L i
  | [], _, _ => rfl
  | l :: r, d, i => by
    unfold goK linesGo
    rw [stepK_eq]
    cases stepL d l with
    | error e => rfl
    | ok d' => exact goK_eq r d' (i + 1)
theorem new_K {t : List UInt8} {d : DbP} (hl : decide (t.length ≤ 65536) = true) (h : goK DbP.first (splitL t) 0 = .ok d) : newP t = .ok d := by
  unfold newP
  rw [if_neg (by have := of_decide_eq_true hl; omega), ← goK_eq, h]
end Go.Proofs.YtdngkienloligaaGreatDoor

/- -/
namespace Go.Proofs.YtdngkienloligaaGreatDoor
def Contig : Nat → List (Nat × Nat × Nat) → Nat → Prop
  | p, [], z => p = z
  | p, x :: r, z => x.2.1 = p ∧ p < x.2.2 ∧ Contig x.2.2 r z
theorem runesGo_contig {s : ByteArray} : ∀ (f a : Nat), s.size ≤ a + f → a ≤ s.size → Contig a (runesGo s f a) s.size
  | 0, a, h, h2 => by simp only [runesGo, Contig]; omega
  | f + 1, a, h, h2 => by
    rw [runesGo]
    split
    · rename_i hlt
      have hd := dec_bd s a hlt
      exact ⟨rfl, by simp only; omega, runesGo_contig f _ (by simp only; omega) (by simp only; omega)⟩
    · show a = s.size; omega
theorem runesP_contig (s : ByteArray) : Contig 0 (runesP s) s.size := runesGo_contig _ _ (by omega) (by omega)
theorem runesGo_dec {s : ByteArray} : ∀ (f a : Nat), ∀ x ∈ runesGo s f a, Utf8.decode s x.2.1 = (x.1, x.2.2 - x.2.1)
  | 0, a, x, h => by simp [runesGo] at h
  | f + 1, a, x, h => by
    rw [runesGo] at h
    split at h
    · rcases List.mem_cons.1 h with rfl | h
      · simp only; rw [Nat.add_sub_cancel_left]
      · exact runesGo_dec f _ x h
    · simp at h
theorem extract_len (s : ByteArray) {a b : Nat} (h : b ≤ s.size) : (s.extract a b).data.toList.length = b - a := by
  rw [size_data, ByteArray.size_extract]; omega
theorem decN_same {n m b0 b1 b2 b3 c1 c2 c3 R W : Nat} (h : Lib.decodeN n b0 b1 b2 b3 = (R, W)) (hv : R ≠ 65533 ∨ W = 3) (hm : W ≤ m) (h1 : 2 ≤ W → c1 = b1) (h2 : 3 ≤ W → c2 = b2) (h3 : 4 ≤ W → c3 = b3) :
    Lib.decodeN m b0 c1 c2 c3 = (R, W) := by
  unfold Lib.decodeN at h
  split at h
  · rename_i g0
    injection h with hR hW
    subst hR; subst hW
    unfold Lib.decodeN; rw [if_pos g0]
  · rename_i g0
    split at h
    · rename_i g1
      split at h
      · rename_i g2
        injection h with hR hW
        subst hR; subst hW
        obtain rfl := h1 (by omega)
        unfold Lib.decodeN; rw [if_neg g0, if_pos ⟨g1.1, by omega, g1.2.2⟩, if_pos g2]
      · injection h with hR hW
        subst hR; subst hW
        rcases hv with hv | hv <;> omega
    · rename_i g1
      split at h
      · rename_i g2
        split at h
        · rename_i g3
          injection h with hR hW
          subst hR; subst hW
          obtain rfl := h1 (by omega)
          obtain rfl := h2 (by omega)
          unfold Lib.decodeN; rw [if_neg g0, if_neg (by omega), if_pos ⟨g2.1, ⟨by omega, g2.2.1.2⟩, by omega, g2.2.2.2⟩, if_pos g3]
        · injection h with hR hW
          subst hR; subst hW
          rcases hv with hv | hv <;> omega
      · rename_i g2
        split at h
        · rename_i g3
          split at h
          · rename_i g4
            injection h with hR hW
            subst hR; subst hW
            obtain rfl := h1 (by omega)
            obtain rfl := h2 (by omega)
            obtain rfl := h3 (by omega)
            unfold Lib.decodeN; rw [if_neg g0, if_neg (by omega), if_neg (by omega), if_pos ⟨g3.1, ⟨by omega, g3.2.1.2⟩, ⟨by omega, g3.2.2.1.2⟩, by omega, g3.2.2.2.2⟩, if_pos g4]
          · injection h with hR hW
            subst hR; subst hW
            rcases hv with hv | hv <;> omega
        · injection h with hR hW
          subst hR; subst hW
          rcases hv with hv | hv <;> omega
theorem decN_bad {n b0 b1 b2 b3 R W : Nat} (h : Lib.decodeN n b0 b1 b2 b3 = (R, W)) (hv : ¬ (R ≠ 65533 ∨ W = 3)) : R = 65533 ∧ W = 1 := by
  have hR : R = 65533 := Classical.byContradiction fun k => hv (.inl k)
  have hW : W ≠ 3 := fun k => hv (.inr k)
  refine ⟨hR, ?_⟩
  unfold Lib.decodeN at h
  repeat' split at h
  all_goals (injection h with h1 h2; omega)
theorem decN_prefix {n m b0 b1 b2 b3 c1 c2 c3 R W : Nat} (h : Lib.decodeN n b0 b1 b2 b3 = (R, W)) (hmn : m ≤ n) (hm : W ≤ m) (h1 : 2 ≤ m → c1 = b1) (h2 : 3 ≤ m → c2 = b2) (h3 : 4 ≤ m → c3 = b3) (hb : ∀ R' W', Lib.decodeN m b0 c1 c2 c3 = (R', W') → W' ≤ m) :
    Lib.decodeN m b0 c1 c2 c3 = (R, W) := by
  by_cases hv : R ≠ 65533 ∨ W = 3
  · exact decN_same h hv hm (fun k => h1 (by omega)) (fun k => h2 (by omega)) (fun k => h3 (by omega))
  · obtain ⟨⟨R', W'⟩, hD⟩ : ∃ d, Lib.decodeN m b0 c1 c2 c3 = d := ⟨_, rfl⟩
    have hw := hb R' W' hD
    by_cases hv' : R' ≠ 65533 ∨ W' = 3
    · have := decN_same (m := n) (c1 := b1) (c2 := b2) (c3 := b3) hD hv' (by omega) (fun k => (h1 (by omega)).symm) (fun k => (h2 (by omega)).symm) (fun k => (h3 (by omega)).symm)
      rw [hD, ← h, this]
    · obtain ⟨rfl, rfl⟩ := decN_bad h hv
      obtain ⟨rfl, rfl⟩ := decN_bad hD hv'
      exact hD
theorem get_prefix (s : ByteArray) {z k : Nat} (hk : k < z) : (s.extract 0 z).get! k = s.get! k := by
  rw [← Lib.getD_get!', ← Lib.getD_get!', ByteArray.data_extract, Array.toList_extract, List.extract_eq_take_drop, List.getD_eq_getElem?_getD, List.getD_eq_getElem?_getD, List.drop_zero, Nat.sub_zero, List.getElem?_take_of_lt hk]
theorem dec_prefix (s : ByteArray) {z i R W : Nat} (hz : z ≤ s.size) (h : Utf8.decode s i = (R, W)) (hi : i < z) (hw : i + W ≤ z) : Utf8.decode (s.extract 0 z) i = (R, W) := by
  have hsz : (s.extract 0 z).size = z := by rw [ByteArray.size_extract]; omega
  have hb := dec_bd (s.extract 0 z) i (by omega)
  rw [Lib.decode_at] at h hb ⊢
  rw [hsz] at hb ⊢
  have h0 := get_prefix s (k := i) hi
  rw [h0] at hb ⊢
  refine decN_prefix h (by omega) (by omega) (fun k => by rw [get_prefix s (by omega)]) (fun k => by rw [get_prefix s (by omega)]) (fun k => by rw [get_prefix s (by omega)]) fun R' W' hD => ?_
  rw [hD] at hb
  simp only at hb; omega
theorem runesGo_prefix (s : ByteArray) {z : Nat} (hz : z ≤ s.size) : ∀ (f g a : Nat), s.size ≤ a + f → z ≤ a + g → a ≤ z → (a = z ∨ z = s.size ∨ ∃ x ∈ runesGo s f a, x.2.1 = z) → runesGo (s.extract 0 z) g a = (runesGo s f a).takeWhile fun x => decide (x.2.1 < z)
  | 0, g, a, hf, hg, ha, _ => by
    have hsz : (s.extract 0 z).size = z := by rw [ByteArray.size_extract]; omega
    rw [runesGo_end (by omega)]; rfl
  | f + 1, g, a, hf, hg, ha, hx => by
    have hsz : (s.extract 0 z).size = z := by rw [ByteArray.size_extract]; omega
    by_cases haz : a = z
    · subst haz
      rw [runesGo_end (by omega)]
      rw [runesGo]
      split
      · rw [List.takeWhile_cons, if_neg (by simp)]
      · rfl
    · have hlt : a < s.size := by omega
      have hd := dec_bd s a hlt
      obtain ⟨⟨R, W⟩, hD⟩ : ∃ d, Utf8.decode s a = d := ⟨_, rfl⟩
      rw [hD] at hd
      simp only at hd
      have hr : runesGo s (f + 1) a = (R, a, a + W) :: runesGo s f (a + W) := by rw [runesGo, if_pos hlt, hD]
      have hle : a + W ≤ z ∧ (a + W = z ∨ z = s.size ∨ ∃ x ∈ runesGo s f (a + W), x.2.1 = z) := by
        rcases hx with h | h | ⟨x, hm, h⟩
        · omega
        · exact ⟨by omega, .inr (.inl h)⟩
        · rw [hr] at hm
          rcases List.mem_cons.1 hm with rfl | hm
          · simp only at h; omega
          · have := runesGo_bd _ _ x hm
            exact ⟨by omega, .inr (.inr ⟨x, hm, h⟩)⟩
      obtain ⟨k, rfl, hk⟩ := runesGo_step (s := s.extract 0 z) (f := g) (a := a) (by omega) (by omega)
      rw [hk, hr, dec_prefix s hz hD (by omega) hle.1, List.takeWhile_cons, if_pos (by simp; omega)]
      simp only
      rw [runesGo_prefix s hz f k (a + W) (by omega) (by omega) hle.1 hle.2]
theorem runesP_prefix (s : ByteArray) {z : Nat} (hz : z ≤ s.size) (h : z = 0 ∨ z = s.size ∨ ∃ x ∈ runesP s, x.2.1 = z) : runesP (s.extract 0 z) = (runesP s).takeWhile fun x => decide (x.2.1 < z) := by
  have hsz : (s.extract 0 z).size = z := by rw [ByteArray.size_extract]; omega
  unfold runesP
  rw [hsz]
  exact runesGo_prefix s hz s.size z 0 (by omega) (by omega) (by omega) (by rcases h with h | h; exact .inl h.symm; exact .inr h)
end Go.Proofs.YtdngkienloligaaGreatDoor

/- -/
namespace Go.Proofs.YtdngkienloligaaGreatDoor
def endG (c : Nat) : Bool := c == 1 || c == 2 || c == 3
def joinG (x y : Nat) : Bool :=
  if x = 1 ∧ y = 2 then true
  else if endG x || endG y then false
  else if y == 4 || y == 5 || y == 6 || x == 7 then true
  else if x = 8 then y == 8 || y == 9 || y == 11
  else if x = 9 ∨ x = 11 then y == 9 || y == 10
  else x == 10 && y == 10
structure GS where
  prev : Nat
  pict : Bool
  joined : Bool
  flags : Nat
def GS.cut (st : GS) (y : Nat) : Bool := !(joinG st.prev y || st.joined && y == 12 || y == 13 && st.flags % 2 == 1)
def GS.next (st : GS) (y : Nat) : GS := ⟨y, y == 12 || st.pict && y == 4, st.pict && y == 5, if y = 13 then st.flags + 1 else 0⟩
def GS.first (y : Nat) : GS := ⟨y, y == 12, false, if y = 13 then 1 else 0⟩
structure GS.Good (st : GS) : Prop where
  joined : st.joined = true → st.prev = 5
  flags : st.flags ≠ 0 → st.prev = 13
def pickG : List (Nat × Nat × Nat) → List Bool → List Nat
  | x :: r, b :: t => (if b then [x.2.1] else []) ++ pickG r t
  | _, _ => []
def clsG (g : Int → Nat) (r : List (Nat × Nat × Nat)) : List Nat := r.map fun x => g x.1
theorem pickG_snoc : ∀ (r : List (Nat × Nat × Nat)) (t : List Bool) (x : Nat × Nat × Nat) (b : Bool), t.length = r.length → pickG (r ++ [x]) (t ++ [b]) = pickG r t ++ (if b then [x.2.1] else [])
  | [], [], x, b, _ => by simp [pickG]
  | [], _ :: _, _, _, h => by simp at h
  | _ :: _, [], _, _, h => by simp at h
  | y :: r, c :: t, x, b, h => by
    rw [List.cons_append, List.cons_append, pickG, pickG, pickG_snoc r t x b (by simpa using h), List.append_assoc]
theorem pickG_mem : ∀ {r : List (Nat × Nat × Nat)} {t : List Bool} {a : Nat}, a ∈ pickG r t ↔ ∃ (k : Nat) (x : Nat × Nat × Nat), r[k]? = some x ∧ t[k]? = some true ∧ x.2.1 = a
  | [], t, a => by simp [pickG]
  | _ :: _, [], a => by simp [pickG]
  | x :: r, b :: t, a => by
    rw [pickG, List.mem_append, pickG_mem (r := r) (t := t)]
    constructor
    · rintro (h | ⟨k, y, h1, h2, h3⟩)
      · cases b with
        | false => simp at h
        | true => simp at h; exact ⟨0, x, rfl, rfl, h.symm⟩
      · exact ⟨k + 1, y, by simpa using h1, by simpa using h2, h3⟩
    · rintro ⟨k, y, h1, h2, h3⟩
      cases k with
      | zero => simp at h1 h2; subst h1; subst h2; exact .inl (by simp [h3])
      | succ k => exact .inr ⟨k, y, by simpa using h1, by simpa using h2, h3⟩
theorem runes_rise (s : ByteArray) : (runesP s).Pairwise fun x y => x.2.1 < y.2.1 := by
  have : ∀ (f a : Nat), (runesGo s f a).Pairwise fun x y => x.2.1 < y.2.1 := by
    intro f
    induction f with
    | zero => intro a; exact .nil
    | succ f ih =>
      intro a
      rw [runesGo]
      split
      · rename_i hlt
        have hd := dec_bd s a hlt
        refine .cons (fun y hy => ?_) (ih _)
        have := runesGo_bd _ _ y hy
        simp only; omega
      · exact .nil
  exact this _ _
theorem pick_rise : ∀ {r : List (Nat × Nat × Nat)} {t : List Bool}, (r.Pairwise fun x y => x.2.1 < y.2.1) → (pickG r t).Pairwise (· < ·)
  | [], t, _ => by cases t <;> exact .nil
  | _ :: _, [], _ => .nil
  | x :: r, b :: t, h => by
    rw [List.pairwise_cons] at h
    rw [pickG]
    cases b with
    | false => exact pick_rise h.2
    | true =>
      refine .cons (fun a ha => ?_) (pick_rise h.2)
      obtain ⟨k, y, h1, _, rfl⟩ := pickG_mem.1 ha
      exact h.1 y (List.mem_of_getElem? h1)
end Go.Proofs.YtdngkienloligaaGreatDoor

/- -/
namespace Go.Proofs.YtdngkienloligaaGreatDoor
end Go.Proofs.YtdngkienloligaaGreatDoor

/- -/
namespace Go.Proofs.YtdngkienloligaaGreatDoor
open Go.RowKit Go.Maps
def ofC (d : DbP) (s : ByteArray) : List Nat := (runesP s).map fun x => d.get (x.1 : Int)
def encN (x : Nat) : List Value := [.int .i64 (x : Int)]
theorem encN_ok (l : List Nat) : ∀ y ∈ l.map encN, y.length = 1 ∧ ∀ u ∈ y, u.oneCell' = true := by
  intro y hy; obtain ⟨r, _, rfl⟩ := List.mem_map.1 hy
  exact ⟨rfl, by simp [encN, Value.oneCell']⟩
def OfCAt (d : DbP) (s : ByteArray) (f p : Nat) (o : List Nat) : Prop := (o ++ (runesGo s f p).map fun x => d.get (x.1 : Int)) = ofC d s ∧ s.size ≤ p + f ∧ p ≤ s.size
theorem ofCAt_first (d : DbP) (s : ByteArray) : OfCAt d s s.size 0 [] := ⟨by rw [List.nil_append]; rfl, by omega, by omega⟩
theorem ofCAt_add {d : DbP} {s : ByteArray} {f p R W : Nat} {o : List Nat} (h : OfCAt d s f p o) (hp : p < s.size) (hd : Utf8.decode s p = (R, W)) (hw : 1 ≤ W ∧ p + W ≤ s.size) : ∃ g, OfCAt d s g (p + W) (o ++ [d.get (R : Int)]) := by
  obtain ⟨g, rfl, hg⟩ := runesGo_step (s := s) (f := f) hp h.2.1
  rw [hd] at hg
  refine ⟨g, ?_, by have := h.2.1; omega, hw.2⟩
  rw [← h.1, hg]; simp
theorem ofCAt_end {d : DbP} {s : ByteArray} {f p : Nat} {o : List Nat} (h : OfCAt d s f p o) (hp : ¬ p < s.size) : o = ofC d s := by
  have := h.1
  rw [runesGo_end (by omega)] at this
  simpa using this
set_option maxRecDepth 100000 in
set_option maxHeartbeats 1000000 in
theorem wOf_any (p : Nat) (d : DbP) (s : ByteArray) (w : World) (h : DbAt w p d) (ho : d.Ok) (ha : Apart d.sets) (hs : s.size ≤ 1000000) :
    Calls Tryz.prog 92 #[.pointer (some ⟨p, 0, none⟩), .string s] w fun e w' => ∃ A n c, e = .returned (.slice A n c) ∧ Own w' w.heap.size 3 1 A n c ((ofC d s).map encN) ∧ Below w.heap.size w w' := by
  obtain ⟨i0, hi0, hz0, hz1, hz2⟩ := info_parts infoInt
  have HD := Lib.hid (And.intro h (And.intro ho ha))
  clear h ho ha
  go_enter Tryz.func92, Tryz.ntmps92
  go_wp2
  go_loopw [5] (fun v wr => ∃ (q f : Nat) (A1 : Option Addr) (n1 c1 : Nat) (o : List Nat), v = .slice A1 n1 c1 ∧ wr.heap[w.heap.size]? = some (.stringIter s q) ∧ Own wr (w.heap.size + 1) 3 1 A1 n1 c1 (o.map encN) ∧
      n1 ≤ q ∧ q ≤ s.size ∧ Hid (OfCAt d s f q o) ∧ Below w.heap.size w wr) (fun _ wr => s.size - wr.iterPos w.heap.size)
  case atStart => exact ⟨0, s.size, none, 0, 0, [], rfl, iter_new _ _ _, Own.nil_ _ _ _ _, by omega, by omega, ofCAt_first d s, below_iter (Below.refl _ _) (Nat.le_refl _) _ _⟩
  case round =>
    obtain ⟨q, f, A1, n1, c1, o, rfl, hit, ho, hn1, hps, HR, hb⟩ := hrel
    have hsz : w.heap.size < wr.heap.size := (Array.getElem?_eq_some_iff.1 hit).1
    have Hpos := Lib.hid (iterPos_of hit)
    by_cases hp : q < s.size
    · obtain ⟨⟨R, W⟩, HDc⟩ : ∃ d, Utf8.decode s q = d := ⟨_, rfl⟩
      have hd := dec_bd s q hp
      have hnx : ∀ ty, (Instr.next (.pointer (some ⟨w.heap.size, 0, none⟩)) true ty).run Tryz.prog wr = _ := fun ty => Lib.run_next_any_at wr w.heap.size s q ty hit hp
      have hit2 := Lib.iterAt_heap wr w.heap.size s q (q + (Utf8.decode s q).2) hit
      have hb2 := Lib.below_iterAt hb (k := w.heap.size) (Nat.le_refl _) s (q + (Utf8.decode s q).2)
      have ho2 := ho.iterAt (k := w.heap.size) (by omega) s (q + (Utf8.decode s q).2)
      have hsz2 : w.heap.size < (wr.iterAt w.heap.size s (q + (Utf8.decode s q).2)).heap.size := by rw [Lib.iterAt_size]; exact hsz
      rw [HDc] at hd hnx hit2 hb2 ho2 hsz2
      simp only at hd hnx hit2 hb2 ho2 hsz2
      obtain ⟨g, HA⟩ := ofCAt_add HR.out hp HDc (by omega)
      have HA := Lib.hid HA
      clear HR HDc
      generalize wr.iterAt w.heap.size s (q + W) = w2 at hnx hit2 hb2 ho2 hsz2
      have HG := Lib.hid (wGet_any p d R w2 (HD.out.1.below hb2) HD.out.2.1 HD.out.2.2)
      clear ho hb hit hsz
      go_wp2_with (first | (go_at_call 80; refine HG.out.mono ?_; rintro e w4 ⟨rfl, hb4⟩; have hit4 := (hb4.block _ hsz2).trans hit2; have ho4 := ho2.below hb4; have hbb := below_step hb2 hb4 hb2.size; have hsz4 := Nat.lt_of_lt_of_le hsz2 hb4.size; clear hit2 ho2 hb2) | (at_builtin; go_must (refine wpList_app rfl (.tmp 15) (.tmp 19) _ rfl (w.heap.size + 1) 3 i0 _ 1 8 Tryz.underlying40 hi0 hz0 hz1 hz2 rfl (by omega) A1 n1 c1 (o.map encN) rfl (ho4.alloc _) _ 1 1 [encN (d.get R)] rfl rfl (Rd.newAt (by simp) rfl) (encN_ok [d.get R]) (by unfold maxLen; omega) (by omega) (by simp; omega) ?_); intro A3 c3 w3 ho3 hg3 hA3; have hit3 := hg3.block w.heap.size (by simp; omega) (fun e => by cases A1 with | none => simp at e | some a => have := (ho4.lt a rfl).1; simp at e; omega); have hb3 := below_app (hbb.alloc (by omega) _) hg3 (by simp; omega) (fun a ha => by have := (ho4.lt a ha).1; omega); clear hg3))
      have hit5 : w3.heap[w.heap.size]? = some (.stringIter s (q + W)) := hit3.trans ((Below.heap_alloc _ _ _ hsz4).trans hit4)
      have Ho3 : Own w3 (w.heap.size + 1) 3 1 A3 (n1 + 1) c3 ((o ++ [d.get (R : Int)]).map encN) := by rw [List.map_append]; exact ho3
      clear hit3 ho3
      go_roundw
      case rel => exact ⟨q + W, g, A3, n1 + 1, c3, o ++ [d.get (R : Int)], rfl, hit5, Ho3, by omega, by omega, HA, hb3⟩
      case measure => rw [iterPos_of hit5, Hpos.out]; omega
    · have hnx : ∀ ty, (Instr.next (.pointer (some ⟨w.heap.size, 0, none⟩)) true ty).run Tryz.prog wr = _ := fun ty => Lib.run_next_end_at wr w.heap.size s q ty hit hp
      have HE := Lib.hid (ofCAt_end HR.out hp)
      go_wp2
      go_ret
      exact ⟨A1, n1, c1, rfl, by rw [← HE.out]; exact ho.more (by omega), hb⟩
end Go.Proofs.YtdngkienloligaaGreatDoor

/- -/
namespace Go.Proofs.YtdngkienloligaaGreatDoor
end Go.Proofs.YtdngkienloligaaGreatDoor

/- -/
namespace Go.Proofs.YtdngkienloligaaGreatDoor
open Go.RowKit
end Go.Proofs.YtdngkienloligaaGreatDoor

/- -/
namespace Go.Proofs.YtdngkienloligaaGreatDoor
open Go.RowKit
end Go.Proofs.YtdngkienloligaaGreatDoor

/- -/
namespace Go.Proofs.YtdngkienloligaaGreatDoor
open Go.RowKit
def encZ (x : Int) : List Value := [.int .i64 x]
end Go.Proofs.YtdngkienloligaaGreatDoor

/- -/
namespace Go.Proofs.YtdngkienloligaaGreatDoor
end Go.Proofs.YtdngkienloligaaGreatDoor

/- -/
namespace Go.Proofs.YtdngkienloligaaGreatDoor
end Go.Proofs.YtdngkienloligaaGreatDoor

/- -/
namespace Go.Proofs.YtdngkienloligaaGreatDoor
end Go.Proofs.YtdngkienloligaaGreatDoor

/- -/
namespace Go.Proofs.YtdngkienloligaaGreatDoor
theorem decN_cont {n b0 b1 b2 b3 R W : Nat} (h : Lib.decodeN n b0 b1 b2 b3 = (R, W)) : (2 ≤ W → 128 ≤ b1) ∧ (3 ≤ W → 128 ≤ b2) ∧ (4 ≤ W → 128 ≤ b3) ∧ W ≤ 4 := by
  unfold Lib.decodeN at h
  repeat' split at h
  all_goals (injection h with _ h; omega)
theorem dec_cont {s : ByteArray} {i k R W : Nat} (h : Utf8.decode s i = (R, W)) (hk : 0 < k) (hW : k < W) : 128 ≤ (s.get! (i + k)).toNat := by
  rw [Lib.decode_at] at h
  obtain ⟨h1, h2, h3, h4⟩ := decN_cont h
  rcases (show k = 1 ∨ k = 2 ∨ k = 3 by omega) with rfl | rfl | rfl
  · exact h1 (by omega)
  · exact h2 (by omega)
  · exact h3 (by omega)
theorem ascii_at (s : ByteArray) {z : Nat} (hz : z < s.size) (ha : (s.get! z).toNat < 128) : ∀ (f a : Nat), s.size ≤ a + f → a ≤ z → ∃ x ∈ runesGo s f a, x.2.1 = z
  | 0, a, hf, hle => by omega
  | f + 1, a, hf, hle => by
    have hlt : a < s.size := by omega
    have hd := dec_bd s a hlt
    obtain ⟨⟨R, W⟩, hD⟩ : ∃ d, Utf8.decode s a = d := ⟨_, rfl⟩
    rw [hD] at hd
    simp only at hd
    have hr : runesGo s (f + 1) a = (R, a, a + W) :: runesGo s f (a + W) := by rw [runesGo, if_pos hlt, hD]
    rw [hr]
    by_cases haz : a = z
    · exact ⟨_, List.mem_cons_self, haz⟩
    · have hle2 : a + W ≤ z := by
        rcases Nat.lt_or_ge z (a + W) with h | h
        · have := dec_cont hD (k := z - a) (by omega) (by omega)
          rw [show a + (z - a) = z by omega] at this; omega
        · exact h
      obtain ⟨x, hx, e⟩ := ascii_at s hz ha f (a + W) (by omega) hle2
      exact ⟨x, List.mem_cons_of_mem _ hx, e⟩
def shR (p : Nat) (x : Nat × Nat × Nat) : Nat × Nat × Nat := (x.1, x.2.1 + p, x.2.2 + p)
theorem runes_shift (u t : ByteArray) (p : Nat) (hz : u.size = t.size + p) (hg : ∀ k, u.get! (p + k) = t.get! k) : ∀ (f g a : Nat), t.size ≤ a + f → t.size ≤ a + g → runesGo u g (a + p) = (runesGo t f a).map (shR p)
  | 0, g, a, hf, hgf => by rw [runesGo_end (by omega)]; rfl
  | f + 1, g, a, hf, hgf => by
    by_cases hlt : a < t.size
    · obtain ⟨k, rfl, hk⟩ := runesGo_step (s := u) (f := g) (a := a + p) (by omega) (by omega)
      have hd : Utf8.decode u (a + p) = Utf8.decode t a := by
        rw [Lib.decode_at, Lib.decode_at, show u.size - (a + p) = t.size - a by omega]
        rw [show a + p = p + a by omega, hg, show p + a + 1 = p + (a + 1) by omega, show p + a + 2 = p + (a + 2) by omega, show p + a + 3 = p + (a + 3) by omega, hg, hg, hg]
      have hb := dec_bd t a hlt
      rw [hk, hd, runesGo, if_pos hlt, List.map_cons]
      rw [show a + p + (Utf8.decode t a).2 = a + (Utf8.decode t a).2 + p by omega, runes_shift u t p hz hg f k _ (by omega) (by omega)]; rfl
    · rw [runesGo_end (by omega), runesGo_end (s := t) (by omega)]; rfl
theorem split_at_place (s : ByteArray) {z : Nat} : ∀ (f a : Nat), s.size ≤ a + f → (∃ x ∈ runesGo s f a, x.2.1 = z) → runesGo s f a = ((runesGo s f a).takeWhile fun x => decide (x.2.1 < z)) ++ runesGo s s.size z
  | 0, a, hf, hx => by simp [runesGo] at hx
  | f + 1, a, hf, hx => by
    have hlt : a < s.size := by
      rcases Nat.lt_or_ge a s.size with h | h
      · exact h
      · rw [runesGo_end h] at hx; simp at hx
    have hd := dec_bd s a hlt
    have hr : runesGo s (f + 1) a = ((Utf8.decode s a).1, a, a + (Utf8.decode s a).2) :: runesGo s f (a + (Utf8.decode s a).2) := by rw [runesGo, if_pos hlt]
    obtain ⟨x, hm, hxz⟩ := hx
    rw [hr] at hm ⊢
    by_cases haz : a = z
    · subst haz
      rw [List.takeWhile_cons, if_neg (by simp), List.nil_append]
      obtain ⟨k, hk, e⟩ := runesGo_step (s := s) (f := s.size) (a := a) hlt (by omega)
      rw [e]
      congr 1
      have := runes_shift s s 0 (by omega) (fun k => by rw [Nat.zero_add]) f k (a + (Utf8.decode s a).2) (by omega) (by omega)
      rw [Nat.add_zero] at this
      rw [this]
      exact (List.map_id'' (fun y => by simp [shR]) _).symm
    · rcases List.mem_cons.1 hm with rfl | hm
      · exact absurd hxz haz
      · have hb := runesGo_bd _ _ x hm
        rw [List.takeWhile_cons, if_pos (by simp; omega), List.cons_append]
        congr 1
        exact split_at_place s f _ (by omega) ⟨x, hm, hxz⟩
end Go.Proofs.YtdngkienloligaaGreatDoor

/- -/
namespace Go.Proofs.YtdngkienloligaaGreatDoor
theorem runes_rise' (s : ByteArray) : (runesP s).Pairwise fun x y => x.2.1 < y.2.1 := by
  have : ∀ (f a : Nat), (runesGo s f a).Pairwise fun x y => x.2.1 < y.2.1 := by
    intro f
    induction f with
    | zero => intro a; exact .nil
    | succ f ih =>
      intro a
      rw [runesGo]
      split
      · rename_i hlt
        have hd := dec_bd s a hlt
        refine .cons (fun y hy => ?_) (ih _)
        have := runesGo_bd _ _ y hy
        simp only; omega
      · exact .nil
  exact this _ _
def PlaceAt (s : ByteArray) (z : Nat) : Prop := z = s.size ∨ ∃ x ∈ runesP s, x.2.1 = z
theorem PlaceAt.le {s : ByteArray} {z : Nat} (h : PlaceAt s z) : z ≤ s.size := by
  rcases h with rfl | ⟨x, hx, rfl⟩
  · exact Nat.le_refl _
  · have := runesP_bd x hx; omega
theorem tw_mem {z : Nat} {x : Nat × Nat × Nat} : ∀ {l : List (Nat × Nat × Nat)}, x ∈ l.takeWhile (fun x => decide (x.2.1 < z)) → x.2.1 < z
  | [], h => by simp at h
  | y :: l, h => by
    rw [List.takeWhile_cons] at h
    split at h
    · rename_i hy
      rcases List.mem_cons.1 h with rfl | h
      · simpa using hy
      · exact tw_mem h
    · simp at h
theorem tw_pre (z : Nat) : ∀ (l : List (Nat × Nat × Nat)), (l.Pairwise fun x y => x.2.1 < y.2.1) → ∃ Q, l = (l.takeWhile fun x => decide (x.2.1 < z)) ++ Q ∧ ∀ x ∈ Q, z ≤ x.2.1
  | [], _ => ⟨[], rfl, by simp⟩
  | y :: l, h => by
    rw [List.pairwise_cons] at h
    rw [List.takeWhile_cons]
    by_cases hy : y.2.1 < z
    · obtain ⟨Q, h1, h2⟩ := tw_pre z l h.2
      refine ⟨Q, ?_, h2⟩
      rw [if_pos (by simpa using hy), List.cons_append, ← h1]
    · rw [if_neg (by simpa using hy)]
      refine ⟨y :: l, rfl, fun x hx => ?_⟩
      rcases List.mem_cons.1 hx with rfl | hx
      · omega
      · have := h.1 x hx; omega
theorem get_sub (s : ByteArray) {a b : Nat} (hb : b ≤ s.size) (k : Nat) : (s.extract 0 b).get! (a + k) = (s.extract a b).get! k := by
  rw [← Lib.getD_get!', ← Lib.getD_get!', ByteArray.data_extract, ByteArray.data_extract, Array.toList_extract, Array.toList_extract, List.extract_eq_take_drop, List.extract_eq_take_drop, List.getD_eq_getElem?_getD, List.getD_eq_getElem?_getD, List.drop_zero, Nat.sub_zero]
  by_cases h : a + k < b
  · rw [List.getElem?_take_of_lt h, List.getElem?_take_of_lt (by omega), List.getElem?_drop]
  · rw [List.getElem?_eq_none (by rw [List.length_take, size_data]; omega), List.getElem?_eq_none (by rw [List.length_take, List.length_drop, size_data]; omega)]
theorem runes_sub (s : ByteArray) {a b : Nat} (hab : a ≤ b) (ha : PlaceAt s a) (hb : PlaceAt s b) : ∃ P Q, runesP s = P ++ (runesP (s.extract a b)).map (shR a) ++ Q ∧ (∀ x ∈ P, x.2.1 < a) ∧ (∀ x ∈ Q, b ≤ x.2.1) := by
  have hbz := hb.le
  have hu : (s.extract 0 b).size = b := by rw [ByteArray.size_extract]; omega
  have ht : (s.extract a b).size = b - a := by rw [ByteArray.size_extract]; omega
  have h1 : runesP (s.extract 0 b) = (runesP s).takeWhile fun x => decide (x.2.1 < b) := by
    refine runesP_prefix s hbz ?_
    rcases hb with h | h
    · exact .inr (.inl h)
    · exact .inr (.inr h)
  obtain ⟨Q, hQ, hQb⟩ := tw_pre b (runesP s) (runes_rise' s)
  have hsh : runesGo (s.extract 0 b) b (0 + a) = (runesGo (s.extract a b) (s.extract a b).size 0).map (shR a) := runes_shift _ _ a (by omega) (fun k => get_sub s hbz k) _ _ 0 (by omega) (by omega)
  rw [Nat.zero_add] at hsh
  by_cases hae : a = b
  · subst hae
    have : runesP (s.extract a a) = [] := by unfold runesP; rw [ht, Nat.sub_self]; rfl
    rw [this]
    exact ⟨_, Q, by rw [List.map_nil, List.append_nil]; exact hQ, fun x hx => tw_mem hx, hQb⟩
  · have hpl : ∃ x ∈ runesP (s.extract 0 b), x.2.1 = a := by
      rcases ha with h | ⟨x, hx, e⟩
      · omega
      · refine ⟨x, ?_, e⟩
        rw [h1]
        have hx' := hx
        rw [hQ] at hx'
        rcases List.mem_append.1 hx' with h | h
        · exact h
        · have := hQb x h; omega
    have h2 := split_at_place (s.extract 0 b) (z := a) b 0 (by omega) (by unfold runesP at hpl; rw [hu] at hpl; exact hpl)
    rw [hu, hsh] at h2
    refine ⟨(runesGo (s.extract 0 b) b 0).takeWhile fun x => decide (x.2.1 < a), Q, ?_, fun x hx => tw_mem hx, hQb⟩
    conv => lhs; rw [hQ, ← h1]
    congr 1
    unfold runesP
    rw [hu]
    exact h2
end Go.Proofs.YtdngkienloligaaGreatDoor

/- -/
namespace Go.Proofs.YtdngkienloligaaGreatDoor
theorem contig_next : ∀ (r : List (Nat × Nat × Nat)) (p z : Nat), Contig p r z → ∀ x ∈ r, x.2.1 < x.2.2 ∧ x.2.2 ≤ z ∧ (x.2.2 = z ∨ ∃ y ∈ r, y.2.1 = x.2.2)
  | [], _, _, _, x, h => by cases h
  | a :: r, p, z, h, x, hx => by
    obtain ⟨k1, k2, k3⟩ := h
    have hle : ∀ (r : List (Nat × Nat × Nat)) (p z : Nat), Contig p r z → p ≤ z := by
      intro r
      induction r with
      | nil => intro p z h; exact Nat.le_of_eq h
      | cons w r ih => intro p z h; obtain ⟨g1, g2, g3⟩ := h; have := ih _ _ g3; omega
    rcases List.mem_cons.1 hx with rfl | hx
    · refine ⟨by omega, hle _ _ _ k3, ?_⟩
      cases r with
      | nil => exact .inl k3
      | cons b r => obtain ⟨g1, _, _⟩ := k3; exact .inr ⟨b, by simp, g1⟩
    · obtain ⟨h1, h2, h3⟩ := contig_next r _ z k3 x hx
      exact ⟨h1, h2, h3.imp id fun ⟨y, hy, e⟩ => ⟨y, List.mem_cons_of_mem _ hy, e⟩⟩
theorem place_next {s : ByteArray} {x : Nat × Nat × Nat} (hx : x ∈ runesP s) : x.2.1 < x.2.2 ∧ x.2.2 ≤ s.size ∧ PlaceAt s x.2.2 := by
  obtain ⟨h1, h2, h3⟩ := contig_next _ _ _ (runesP_contig s) x hx
  exact ⟨h1, h2, h3⟩
end Go.Proofs.YtdngkienloligaaGreatDoor

/- -/
namespace Go.Proofs.YtdngkienloligaaGreatDoor
theorem contig_edges : ∀ (r : List (Nat × Nat × Nat)) (p z i : Nat) (x : Nat × Nat × Nat), Contig p r z → r[i]? = some x → (r.map (fun x => x.2.1) ++ [z])[i]? = some x.2.1 ∧ (r.map (fun x => x.2.1) ++ [z])[i + 1]? = some x.2.2
  | [], _, _, _, _, _, h => by simp at h
  | a :: r, p, z, 0, x, h, hx => by
    simp only [List.getElem?_cons_zero, Option.some.injEq] at hx
    subst hx
    obtain ⟨_, _, h3⟩ := h
    refine ⟨rfl, ?_⟩
    cases r with
    | nil => have : a.2.2 = z := h3; simp [this]
    | cons b r => obtain ⟨g1, _, _⟩ := h3; simp [g1]
  | a :: r, p, z, i + 1, x, h, hx => by
    obtain ⟨_, _, h3⟩ := h
    exact contig_edges r _ z i x h3 (by simpa using hx)
end Go.Proofs.YtdngkienloligaaGreatDoor

/- -/
namespace Go.Proofs.YtdngkienloligaaGreatDoor
end Go.Proofs.YtdngkienloligaaGreatDoor

/- -/
namespace Go.Proofs.YtdngkienloligaaGreatDoor
section
variable {A B : List Int} {e : Int}
end
end Go.Proofs.YtdngkienloligaaGreatDoor

/- -/
namespace Go.Proofs.YtdngkienloligaaGreatDoor
theorem decN_tail {n b0 b1 b2 b3 R W : Nat} (h : Lib.decodeN n b0 b1 b2 b3 = (R, W)) : (2 ≤ W → b1 / 64 = 2) ∧ (3 ≤ W → b2 / 64 = 2) ∧ (4 ≤ W → b3 / 64 = 2) ∧ W ≤ 4 := by
  unfold Lib.decodeN at h
  repeat' split at h
  all_goals (injection h with _ h; omega)
theorem dec_tail {s : ByteArray} {i k R W : Nat} (h : Utf8.decode s i = (R, W)) (hk : 0 < k) (hW : k < W) : (s.get! (i + k)).toNat / 64 = 2 := by
  rw [Lib.decode_at] at h
  obtain ⟨h1, h2, h3, h4⟩ := decN_tail h
  rcases (show k = 1 ∨ k = 2 ∨ k = 3 by omega) with rfl | rfl | rfl
  · exact h1 (by omega)
  · exact h2 (by omega)
  · exact h3 (by omega)
theorem lead_at (s : ByteArray) {z : Nat} (hz : z < s.size) (ha : (s.get! z).toNat / 64 ≠ 2) : ∀ (f a : Nat), s.size ≤ a + f → a ≤ z → ∃ x ∈ runesGo s f a, x.2.1 = z
  | 0, a, hf, hle => by omega
  | f + 1, a, hf, hle => by
    have hlt : a < s.size := by omega
    have hd := dec_bd s a hlt
    obtain ⟨⟨R, W⟩, hD⟩ : ∃ d, Utf8.decode s a = d := ⟨_, rfl⟩
    rw [hD] at hd
    simp only at hd
    have hr : runesGo s (f + 1) a = (R, a, a + W) :: runesGo s f (a + W) := by rw [runesGo, if_pos hlt, hD]
    rw [hr]
    by_cases haz : a = z
    · exact ⟨_, List.mem_cons_self, haz⟩
    · have hle2 : a + W ≤ z := by
        rcases Nat.lt_or_ge z (a + W) with h | h
        · have := dec_tail hD (k := z - a) (by omega) (by omega)
          rw [show a + (z - a) = z by omega] at this; omega
        · exact h
      obtain ⟨x, hx, e⟩ := lead_at s hz ha f (a + W) (by omega) hle2
      exact ⟨x, List.mem_cons_of_mem _ hx, e⟩
end Go.Proofs.YtdngkienloligaaGreatDoor

/- -/
namespace Go.Proofs.YtdngkienloligaaGreatDoor
theorem decN_lead {n b0 b1 b2 b3 R W : Nat} (h : Lib.decodeN n b0 b1 b2 b3 = (R, W)) (hW : 2 ≤ W) (h0 : b0 < 256) : b0 / 64 = 3 := by
  unfold Lib.decodeN at h
  repeat' split at h
  all_goals (injection h with _ h; omega)
theorem dec_lead {s : ByteArray} {i R W : Nat} (h : Utf8.decode s i = (R, W)) (hW : 2 ≤ W) : (s.get! i).toNat / 64 = 3 := by
  rw [Lib.decode_at] at h
  exact decN_lead h hW (s.get! i).toNat_lt
theorem decN_room {n b0 b1 b2 b3 R W : Nat} (h : Lib.decodeN n b0 b1 b2 b3 = (R, W)) (hW : 2 ≤ W) : W ≤ n := by
  unfold Lib.decodeN at h
  repeat' split at h
  all_goals (injection h with _ h; omega)
theorem dec_in {s : ByteArray} {i R W : Nat} (h : Utf8.decode s i = (R, W)) (hW : 2 ≤ W) : i + W ≤ s.size := by
  rw [Lib.decode_at] at h
  have := decN_room h hW; omega
def edgeB (s : ByteArray) (z : Nat) : Bool := [1, 2, 3].all fun b => !(decide (b ≤ z) && decide (b < (Utf8.decode s (z - b)).2))
theorem place_gap (s : ByteArray) : ∀ (r : List (Nat × Nat × Nat)) (p z : Nat), Contig p r z → ∀ x ∈ r, ∀ y ∈ r, ¬ (x.2.1 < y.2.1 ∧ y.2.1 < x.2.2)
  | [], _, _, _, x, hx, _, _ => by simp at hx
  | a :: r, p, z, h, x, hx, y, hy => by
    obtain ⟨h1, h2, h3⟩ := h
    have hle : ∀ {r : List (Nat × Nat × Nat)} {p z : Nat}, Contig p r z → ∀ x ∈ r, p ≤ x.2.1 := by
      intro r
      induction r with
      | nil => intro p z _ x hx; simp at hx
      | cons w r ih =>
        intro p z h x hx
        obtain ⟨k1, k2, k3⟩ := h
        rcases List.mem_cons.1 hx with rfl | hx
        · omega
        · have := ih k3 x hx; omega
    rcases List.mem_cons.1 hx with ex | hx'
    · rcases List.mem_cons.1 hy with ey | hy'
      · rw [ex, ey]; omega
      · have := hle h3 y hy'; rw [ex]; omega
    · rcases List.mem_cons.1 hy with ey | hy'
      · have := hle h3 x hx'; rw [ey]; omega
      · exact place_gap s r _ z h3 x hx' y hy'
theorem in_rune : ∀ (r : List (Nat × Nat × Nat)) (p z q : Nat), Contig p r z → p ≤ q → q < z → ∃ x ∈ r, x.2.1 ≤ q ∧ q < x.2.2
  | [], p, z, q, h, h1, h2 => by have : p = z := h; omega
  | a :: r, p, z, q, h, h1, h2 => by
    obtain ⟨k1, k2, k3⟩ := h
    rcases Nat.lt_or_ge q a.2.2 with hlt | hge
    · exact ⟨a, by simp, by omega, hlt⟩
    · obtain ⟨x, hx, e⟩ := in_rune r _ z q k3 hge h2
      exact ⟨x, by simp [hx], e⟩
theorem edge_iff (s : ByteArray) {z : Nat} (hz : z ≤ s.size) : edgeB s z = true ↔ PlaceAt s z := by
  unfold edgeB
  rw [List.all_eq_true]
  constructor
  · intro h
    rcases Nat.lt_or_ge z s.size with hlt | hge
    · obtain ⟨x, hx, h1, h2⟩ := in_rune _ 0 s.size z (runesP_contig s) (Nat.zero_le _) hlt
      have hb := runesP_bd x hx
      have hd := runesGo_dec _ _ x hx
      rcases Nat.lt_or_ge x.2.1 z with h3 | h3
      · exfalso
        have := h (z - x.2.1) (by simp; omega)
        rw [show z - (z - x.2.1) = x.2.1 by omega, hd] at this
        simp at this
        omega
      · exact .inr ⟨x, hx, by omega⟩
    · exact .inl (by omega)
  · intro hp b hb
    simp only [List.mem_cons, List.not_mem_nil, or_false] at hb
    rw [Bool.not_eq_true', Bool.and_eq_false_iff, decide_eq_false_iff_not, decide_eq_false_iff_not]
    by_cases hbz : b ≤ z
    · refine .inr fun hw => ?_
      obtain ⟨⟨R, W⟩, hD⟩ : ∃ d, Utf8.decode s (z - b) = d := ⟨_, rfl⟩
      rw [hD] at hw
      simp only at hw
      have hroom := dec_in hD (by omega)
      have hl := dec_lead hD (by omega)
      obtain ⟨x, hx, e⟩ := lead_at s (z := z - b) (by omega) (by omega) s.size 0 (by omega) (Nat.zero_le _)
      have hd := runesGo_dec _ _ x hx
      rw [e, hD] at hd
      injection hd with _ hd2
      have hbd := runesP_bd x hx
      rcases hp with h | ⟨y, hy, h⟩
      · omega
      · exact place_gap s _ 0 s.size (runesP_contig s) x hx y hy (by omega)
    · exact .inl hbz
end Go.Proofs.YtdngkienloligaaGreatDoor

/- -/
namespace Go.Proofs.YtdngkienloligaaGreatDoor
open Go.RowKit
end Go.Proofs.YtdngkienloligaaGreatDoor

/- -/
namespace Go.Proofs.YtdngkienloligaaGreatDoor
open Go.RowKit
def OwnB (w : World) (B : Nat) (v : Value) (l : List UInt8) : Prop := w.ownsRow B 5 1 v l.length (Lib.byteCells l)
theorem OwnB.below {w w' : World} {B : Nat} {v : Value} {l : List UInt8} (h : OwnB w B v l) (hb : Below w.heap.size w w') : OwnB w' B v l := by
  unfold OwnB at h ⊢
  refine ⟨h.1, ?_⟩
  rcases h.2 with h0 | ⟨g, cap, cur, hv, hg, hh, r⟩
  · exact .inl h0
  · exact .inr ⟨g, cap, cur, hv, hg, (hb.block g (Array.getElem?_eq_some_iff.1 hh).1).trans hh, r⟩
theorem OwnB.lt {w : World} {B : Nat} {v : Value} {l : List UInt8} (h : OwnB w B v l) : ∀ k, v.ownBlock = some k → B ≤ k := fun k hk => (World.ownsRow.lt h k hk).1
theorem OwnB.byte {w : World} {B : Nat} {v : Value} {l : List UInt8} {c : UInt8} {n : Nat} (h : w.ownsRow B 5 1 v (n + 1) (Lib.byteCells l ++ [.int .u8 c.toNat])) (hn : n = l.length) : OwnB w B v (l ++ [c]) := by
  unfold OwnB
  subst hn
  have e1 : Lib.byteCells (l ++ [c]) = Lib.byteCells l ++ [.int .u8 c.toNat] := by simp [Lib.byteCells]
  rw [e1, List.length_append]
  exact h
theorem OwnB.form {w : World} {B : Nat} {v : Value} {l : List UInt8} (h : OwnB w B v l) : ∃ A n c, v = .slice A n c := by
  unfold OwnB at h
  rcases h.2 with ⟨rfl, _⟩ | ⟨g, cap, cur, rfl, _⟩
  · exact ⟨_, _, _, rfl⟩
  · exact ⟨_, _, _, rfl⟩
end Go.Proofs.YtdngkienloligaaGreatDoor

/- -/


/- -/
namespace Go.Proofs.YtdngkienloligaaGreatDoor
def sentsD : DbP := ⟨[otherL, [67, 82], [76, 70], [83, 101, 112], [83, 112], [76, 111, 119, 101, 114], [85, 112, 112, 101, 114], [76, 101, 116, 116, 101, 114], [68, 105, 103, 105, 116], [83, 116, 111, 112], [84, 101, 114, 109], [67, 108, 111, 115, 101], [79, 110], [69, 120, 116, 101, 110, 100]], [[], [(13, 13)], [(10, 10)], [(133, 133), (8232, 8233)], [(9, 9), (11, 12), (32, 32), (160, 160), (5760, 5760), (8192, 8202), (8239, 8239), (8287, 8287), (12288, 12288)], [(97, 122), (181, 181), (223, 246), (248, 255), (945, 969), (1072, 1119)], [(65, 90), (192, 214), (216, 222), (913, 929), (931, 937), (1024, 1071)], [(170, 170), (186, 186), (1488, 1514), (1569, 1610), (2308, 2361), (3585, 3632), (4352, 4607), (12353, 12438), (12449, 12538), (19968, 40959), (44032, 55203)], [(48, 57), (1632, 1641), (1776, 1785), (2406, 2415)], [(46, 46), (8228, 8228), (65106, 65106), (65294, 65294)], [(33, 33), (63, 63), (1417, 1417), (1567, 1567), (1748, 1748), (2404, 2405), (8252, 8253), (8263, 8265), (12290, 12290), (65281, 65281), (65311, 65311), (65377, 65377)], [(34, 34), (39, 41), (91, 91), (93, 93), (123, 123), (125, 125), (171, 171), (187, 187), (8216, 8223), (8249, 8250), (8261, 8262), (12296, 12305)], [(44, 45), (58, 58), (1373, 1373), (1548, 1549), (8211, 8212), (12289, 12289), (65292, 65293), (65306, 65306)], [(173, 173), (768, 879), (1155, 1161), (1611, 1631), (2364, 2364), (2381, 2381), (8203, 8207), (8234, 8238), (8288, 8292), (8400, 8432), (65024, 65039), (65279, 65279), (127995, 127999)]]⟩
set_option maxRecDepth 100000 in
theorem sents_ok : sentsD.okB = true := by kernel_rfl
theorem sentsOk : sentsD.Ok ∧ Apart sentsD.sets ∧ sentsD.Named := DbP.okB_spec sents_ok
def gS (r : Int) : Nat := sentsD.get r
end Go.Proofs.YtdngkienloligaaGreatDoor

/- -/
namespace Go.Proofs.YtdngkienloligaaGreatDoor
inductive Pat where
  | node (op : Nat) (cs : List Nat) (ks : List Pat)
structure RuleP where
  cut : Bool
  start : Bool
  stop : Bool
  left : Pat
  right : Pat
end Go.Proofs.YtdngkienloligaaGreatDoor

/- -/
namespace Go.Proofs.YtdngkienloligaaGreatDoor
abbrev Mtx := Nat → Nat → Bool
inductive Way (n : Nat) (a : Mtx) : Nat → Nat → Prop
  | here (i : Nat) : Way n a i i
  | on {i k j : Nat} : a i k = true → k < n → Way n a k j → Way n a i j
theorem Way.trans {n : Nat} {a : Mtx} {i k j : Nat} (h : Way n a i k) (g : Way n a k j) : Way n a i j := by
  induction h with
  | here => exact g
  | on h1 h2 _ ih => exact .on h1 h2 (ih g)
inductive WayZ (z : Nat) (a : Mtx) : Nat → Nat → Prop
  | none (i : Nat) : WayZ z a i i
  | one {i j : Nat} : a i j = true → WayZ z a i j
  | on {i k j : Nat} : a i k = true → k < z → WayZ z a k j → WayZ z a i j
theorem Way.z {n : Nat} {a : Mtx} {i j : Nat} (h : Way n a i j) : WayZ n a i j := by
  induction h with
  | here i => exact .none i
  | on h1 h2 _ ih => exact .on h1 h2 ih
def part (c : List Nat) (i k : Nat) : List Nat := (c.drop i).take (k - i)
def Tells (c : List Nat) (m : Mtx) (L : List Nat → Prop) : Prop := ∀ i k, i ≤ c.length → k ≤ c.length → (m i k = true ↔ i ≤ k ∧ L (part c i k))
theorem Tells.congr {c : List Nat} {m : Mtx} {L M : List Nat → Prop} (h : Tells c m L) (hLM : ∀ u, L u ↔ M u) : Tells c m M := fun i k hi hk => by rw [h i k hi hk, hLM]
end Go.Proofs.YtdngkienloligaaGreatDoor

/- -/
namespace Go.Proofs.YtdngkienloligaaGreatDoor
def Ahead (start : Bool) (L : List Nat → Prop) (a : List Nat) : Prop := ∃ u v, a = u ++ v ∧ (start = true → u = []) ∧ L v
def Behind (stop : Bool) (L : List Nat → Prop) (b : List Nat) : Prop := ∃ u v, b = u ++ v ∧ (stop = true → v = []) ∧ L u
def One (cs : List Nat) (u : List Nat) : Prop := ∃ x, u = [x] ∧ x ∈ cs
theorem Ahead.congr {s : Bool} {L M : List Nat → Prop} (h : ∀ u, L u ↔ M u) (a : List Nat) : Ahead s L a ↔ Ahead s M a :=
  ⟨fun ⟨u, v, e, hs, hl⟩ => ⟨u, v, e, hs, (h v).1 hl⟩, fun ⟨u, v, e, hs, hl⟩ => ⟨u, v, e, hs, (h v).2 hl⟩⟩
theorem Behind.congr {s : Bool} {L M : List Nat → Prop} (h : ∀ u, L u ↔ M u) (a : List Nat) : Behind s L a ↔ Behind s M a :=
  ⟨fun ⟨u, v, e, hs, hl⟩ => ⟨u, v, e, hs, (h u).1 hl⟩, fun ⟨u, v, e, hs, hl⟩ => ⟨u, v, e, hs, (h u).2 hl⟩⟩
end Go.Proofs.YtdngkienloligaaGreatDoor

/- -/
namespace Go.Proofs.YtdngkienloligaaGreatDoor
theorem pick_filter : ∀ (n : Nat) (r : List (Nat × Nat × Nat)) (t : List Bool), r.length = n → t.length = n → pickG r t = ((List.range n).filter fun i => t.getD i false).map fun i => (r.map fun x => x.2.1).getD i 0
  | 0, r, t, hr, ht => by
    obtain rfl := List.eq_nil_of_length_eq_zero hr
    obtain rfl := List.eq_nil_of_length_eq_zero ht
    rfl
  | n + 1, r, t, hr, ht => by
    rcases List.eq_nil_or_concat r with rfl | ⟨r', x, rfl⟩
    · simp at hr
    rcases List.eq_nil_or_concat t with rfl | ⟨t', b, rfl⟩
    · simp at ht
    simp only [List.concat_eq_append, List.length_append, List.length_singleton, Nat.add_right_cancel_iff] at hr ht ⊢
    rw [pickG_snoc r' t' x b (by omega), pick_filter n r' t' hr ht, List.range_succ, List.filter_append, List.map_append]
    have e1 : (List.range n).filter (fun i => (t' ++ [b]).getD i false) = (List.range n).filter (fun i => t'.getD i false) := by
      refine List.filter_congr fun i hi => ?_
      rw [List.mem_range] at hi
      rw [List.getD_eq_getElem?_getD, List.getD_eq_getElem?_getD, List.getElem?_append_left (by omega)]
    have e2 : ((List.range n).filter (fun i => t'.getD i false)).map (fun i => ((r' ++ [x]).map fun x => x.2.1).getD i 0) = ((List.range n).filter (fun i => t'.getD i false)).map fun i => (r'.map fun x => x.2.1).getD i 0 := by
      refine List.map_congr_left fun i hi => ?_
      have hi := (List.mem_filter.1 hi).1
      rw [List.mem_range] at hi
      rw [List.getD_eq_getElem?_getD, List.getD_eq_getElem?_getD, List.map_append, List.getElem?_append_left (by rw [List.length_map]; omega)]
    rw [e1, e2]
    congr 1
    have e3 : (t' ++ [b]).getD n false = b := by rw [List.getD_eq_getElem?_getD, List.getElem?_append_right (by omega), ht, Nat.sub_self]; rfl
    have e4 : ((r' ++ [x]).map fun x => x.2.1).getD n 0 = x.2.1 := by rw [List.getD_eq_getElem?_getD, List.map_append, List.getElem?_append_right (by rw [List.length_map]; omega), List.length_map, hr, Nat.sub_self]; rfl
    cases b with
    | true => simp only [List.filter_cons, List.filter_nil, e3, if_true, List.map_cons, List.map_nil, e4]
    | false => simp only [List.filter_cons, List.filter_nil, e3, if_false, Bool.false_eq_true, List.map_nil]
end Go.Proofs.YtdngkienloligaaGreatDoor

/- -/
namespace Go.Proofs.YtdngkienloligaaGreatDoor
inductive El where
  | one (cs : List Nat)
  | many (cs : List Nat)
  | may (cs : List Nat)
def eat : List El → List Nat → Bool
  | [], _ => true
  | .one _ :: _, [] => false
  | .one cs :: es, x :: r => cs.contains x && eat es r
  | .many cs :: es, r => eat es (r.dropWhile fun x => cs.contains x)
  | .may _ :: es, [] => eat es []
  | .may cs :: es, x :: r => if cs.contains x then eat es r else eat es (x :: r)
structure RB where
  cut : Bool
  f : List Nat → Bool
  g : List Nat → Bool
def boundsX (cut : List Nat → Nat → Bool) (g : Int → Nat) (s : ByteArray) : List Nat :=
  if s.size = 0 then [] else pickG (runesP s) ((List.range (runesP s).length).map fun i => decide (i = 0) || cut (clsG g (runesP s)) i) ++ [s.size]
end Go.Proofs.YtdngkienloligaaGreatDoor

/- -/
namespace Go.Proofs.YtdngkienloligaaGreatDoor
def sOver (c : List Int) (a b : Int) : Nat → Nat
  | 0 => 0
  | n + 1 => if c.getD n 0 = a ∨ c.getD n 0 = b then sOver c a b n else n + 1
def sStop (x : Int) : Bool := x == 9 || x == 10
def sEnded (c : List Int) (at_ : Nat) (blanks : Bool) : Int :=
  let n := sOver c 11 13 (if blanks then sOver c 4 13 at_ else at_)
  if n ≠ 0 ∧ sStop (c.getD (n - 1) 0) = true then c.getD (n - 1) 0 else 0
def sGoesL : List Int → Bool
  | [] => false
  | x :: r => if x = 5 then true else if [7, 6, 3, 1, 2, 9, 10].contains x then false else sGoesL r
def sInitial (c : List Int) (at_ : Nat) : Bool :=
  let n := sOver c 13 13 at_
  if n = 0 ∨ c.getD (n - 1) 0 ≠ 9 then false
  else
    let m := sOver c 13 13 (n - 1)
    decide (m ≠ 0) && (c.getD (m - 1) 0 == 6 || c.getD (m - 1) 0 == 5)
def sLine (x : Int) : Bool := x == 1 || x == 2 || x == 3
def sCuts (c : List Int) (at_ : Nat) : Bool :=
  let x := c.getD (at_ - 1) 0
  let y := c.getD at_ 0
  if x = 1 ∧ y = 2 then false
  else if sLine x then true
  else
    let near := sOver c 13 13 at_
    let stopped := decide (near ≠ 0) && c.getD (near - 1) 0 == 9
    let last := sEnded c at_ true
    if y = 13 ∨ last = 0 then false
    else if stopped && y == 8 || y == 6 && sInitial c at_ then false
    else if last == 9 && sGoesL (c.drop at_) then false
    else if y = 12 ∨ y = 9 ∨ y = 10 then false
    else if y == 11 && sEnded c at_ false != 0 then false
    else if y = 4 ∨ y = 3 ∨ y = 1 ∨ y = 2 then false
    else true
theorem sOver_le (c : List Int) (a b : Int) : ∀ n, sOver c a b n ≤ n
  | 0 => Nat.le_refl _
  | n + 1 => by
    have := sOver_le c a b n
    unfold sOver; split <;> omega
theorem sOver_in (c : List Int) (a b : Int) : ∀ n k, sOver c a b n ≤ k → k < n → c.getD k 0 = a ∨ c.getD k 0 = b
  | 0, k, _, h => by omega
  | n + 1, k, h1, h2 => by
    unfold sOver at h1
    split at h1
    · rename_i hc
      rcases Nat.lt_or_ge k n with hlt | hge
      · exact sOver_in c a b n k h1 hlt
      · obtain rfl : k = n := by omega
        exact hc
    · omega
theorem sOver_mid (c : List Int) (a b : Int) : ∀ n k, sOver c a b n ≤ k → k ≤ n → sOver c a b k = sOver c a b n
  | 0, k, _, h => by obtain rfl : k = 0 := by omega
                     rfl
  | n + 1, k, h1, h2 => by
    rcases Nat.lt_or_ge k (n + 1) with hlt | hge
    · have hc := sOver_in c a b (n + 1) n (by omega) (by omega)
      have e : sOver c a b (n + 1) = sOver c a b n := by
        conv => lhs; unfold sOver
        rw [if_pos hc]
      rw [e] at h1 ⊢
      exact sOver_mid c a b n k h1 (by omega)
    · obtain rfl : k = n + 1 := by omega
      rfl
theorem sCuts_line {c : List Int} {i : Nat} (h : sLine (c.getD i 0) = true) : sCuts c (i + 1) = !decide (c.getD i 0 = 1 ∧ c.getD (i + 1) 0 = 2) := by
  unfold sCuts
  dsimp only
  rw [show i + 1 - 1 = i from rfl]
  by_cases h12 : c.getD i 0 = 1 ∧ c.getD (i + 1) 0 = 2
  · rw [if_pos h12, decide_eq_true h12]; rfl
  · rw [if_neg h12, decide_eq_false h12, if_pos h]; rfl
theorem sCuts_extend {c : List Int} {i : Nat} (h : sLine (c.getD i 0) = false) (hy : c.getD (i + 1) 0 = 13) : sCuts c (i + 1) = false := by
  unfold sCuts
  dsimp only
  rw [show i + 1 - 1 = i from rfl, h, hy]
  simp
theorem sCuts_blank {c : List Int} {i : Nat} (h : sLine (c.getD i 0) = false) (hy : c.getD (i + 1) 0 = 4) : sCuts c (i + 1) = false := by
  unfold sCuts
  dsimp only
  rw [show i + 1 - 1 = i from rfl, h, hy]
  simp
theorem sCuts_close {c : List Int} {i : Nat} (h : sLine (c.getD i 0) = false) (hy : c.getD (i + 1) 0 = 11) (he : sEnded c (i + 1) false ≠ 0) : sCuts c (i + 1) = false := by
  unfold sCuts
  dsimp only
  rw [show i + 1 - 1 = i from rfl, h, hy]
  have : (sEnded c (i + 1) false != 0) = true := by simpa using he
  rw [this]
  simp
theorem sCuts_ends {c : List Int} {i : Nat} (h : sLine (c.getD i 0) = false) (hc : sCuts c (i + 1) = true) : ∃ k, k ≤ i ∧ sStop (c.getD k 0) = true ∧ ∀ j, k < j → j ≤ i → (c.getD j 0 = 4 ∨ c.getD j 0 = 11 ∨ c.getD j 0 = 13) ∧ sCuts c j = false := by
  have hl : sEnded c (i + 1) true ≠ 0 := fun e => by
    unfold sCuts at hc
    dsimp only at hc
    rw [show i + 1 - 1 = i from rfl, h, e] at hc
    simp at hc
  unfold sEnded at hl
  dsimp only at hl
  rw [if_pos rfl] at hl
  split at hl
  · rename_i hs
    have l1 := sOver_le c 4 13 (i + 1)
    have l2 := sOver_le c 11 13 (sOver c 4 13 (i + 1))
    have in1 := sOver_in c 4 13 (i + 1)
    have in2 := sOver_in c 11 13 (sOver c 4 13 (i + 1))
    have mid := sOver_mid c 11 13 (sOver c 4 13 (i + 1))
    generalize sOver c 4 13 (i + 1) = n1 at l1 l2 in1 in2 mid hs
    generalize sOver c 11 13 n1 = n2 at l2 in2 mid hs
    obtain ⟨hs0, hs1⟩ := hs
    have cls : ∀ j, n2 - 1 < j → j ≤ i → c.getD j 0 = 4 ∨ c.getD j 0 = 11 ∨ c.getD j 0 = 13 := fun j h1 h2 => by
      rcases Nat.lt_or_ge j n1 with hlt | hge
      · rcases in2 j (by omega) hlt with e | e
        · exact .inr (.inl e)
        · exact .inr (.inr e)
      · rcases in1 j hge (by omega) with e | e
        · exact .inl e
        · exact .inr (.inr e)
    refine ⟨n2 - 1, by omega, hs1, fun j h1 h2 => ⟨cls j h1 h2, ?_⟩⟩
    obtain ⟨p, rfl⟩ : ∃ p, j = p + 1 := ⟨j - 1, by omega⟩
    have hp : sLine (c.getD p 0) = false := by
      rcases Nat.lt_or_ge (n2 - 1) p with hlt | hge
      · rcases cls p hlt (by omega) with e | e | e <;> rw [e] <;> rfl
      · obtain rfl : p = n2 - 1 := by omega
        unfold sStop at hs1
        simp only [Bool.or_eq_true, beq_iff_eq] at hs1
        rcases hs1 with e | e <;> rw [e] <;> rfl
    rcases cls (p + 1) h1 h2 with e | e | e
    · exact sCuts_blank hp e
    · have hlt : p + 1 < n1 := by
        rcases Nat.lt_or_ge (p + 1) n1 with hlt | hge
        · exact hlt
        · rcases in1 (p + 1) hge (by omega) with e' | e' <;> omega
      refine sCuts_close hp e ?_
      unfold sEnded
      dsimp only
      simp only [Bool.false_eq_true, if_false]
      rw [mid (p + 1) (by omega) (by omega), if_pos ⟨hs0, hs1⟩]
      intro e0
      rw [e0] at hs1; cases hs1
    · exact sCuts_extend hp e
  · exact absurd rfl hl
end Go.Proofs.YtdngkienloligaaGreatDoor

/- -/
namespace Go.Proofs.YtdngkienloligaaGreatDoor
def toI (c : List Nat) : List Int := c.map fun (x : Nat) => (x : Int)
theorem toI_get (c : List Nat) (i : Nat) : (toI c).getD i 0 = ((c.getD i 0 : Nat) : Int) := by
  unfold toI
  rw [List.getD_eq_getElem?_getD, List.getD_eq_getElem?_getD, List.getElem?_map]
  cases c[i]? <;> rfl
def goR : List Nat → Bool
  | [] => false
  | x :: r => if x = 5 then true else if [7, 6, 3, 1, 2, 9, 10].contains x then false else goR r
theorem go_eq : ∀ (l : List Nat), sGoesL (toI l) = goR l
  | [] => rfl
  | x :: r => by
    have ih := go_eq r
    unfold toI at ih ⊢
    rw [List.map_cons, sGoesL, goR, ih]
    by_cases h5 : x = 5
    · rw [if_pos (by omega), if_pos h5]
    rw [if_neg (by omega), if_neg h5]
    have e : ([7, 6, 3, 1, 2, 9, 10] : List Int).contains (x : Int) = ([7, 6, 3, 1, 2, 9, 10] : List Nat).contains x := by
      rw [Bool.eq_iff_iff]
      simp only [List.contains_iff_mem, List.mem_cons, List.not_mem_nil, or_false]
      omega
    rw [e]
theorem toI_drop (c : List Nat) (i : Nat) : (toI c).drop i = toI (c.drop i) := by unfold toI; rw [List.map_drop]
def tests : List RB := [
  ⟨false, eat [.one [1]], eat [.one [2]]⟩,
  ⟨true, eat [.one [1, 2, 3]], eat []⟩,
  ⟨false, eat [], eat [.one [13]]⟩,
  ⟨false, eat [.many [13], .one [9]], eat [.one [8]]⟩,
  ⟨false, eat [.many [13], .one [9], .many [13], .one [6, 5]], eat [.one [6]]⟩,
  ⟨false, eat [.many [4, 13], .many [11, 13], .one [9]], eat [.many [0, 4, 8, 11, 12, 13], .one [5]]⟩,
  ⟨false, eat [.many [4, 13], .many [11, 13], .one [9, 10]], eat [.one [12, 9, 10]]⟩,
  ⟨false, eat [.many [11, 13], .one [9, 10]], eat [.one [11, 4, 3, 1, 2]]⟩,
  ⟨false, eat [.many [4, 13], .many [11, 13], .one [9, 10]], eat [.one [4, 3, 1, 2]]⟩,
  ⟨true, eat [.many [4, 13], .many [11, 13], .one [9, 10]], eat []⟩]
end Go.Proofs.YtdngkienloligaaGreatDoor

/- -/
namespace Go.Proofs.YtdngkienloligaaGreatDoor
open Go.RowKit
abbrev Sv := Option Addr × Nat × Nat
abbrev Pv := Nat × Sv × Sv
def encPt (v : Pv) : List Value := [.int .i64 (v.1 : Int), .slice v.2.1.1 v.2.1.2.1 v.2.1.2.2, .slice v.2.2.1 v.2.2.2.1 v.2.2.2.2]
structure SlX (w : World) (X : Nat → Prop) (s : Nat) (v : Sv) (cs : List (List Value)) : Prop where
  rd : Rd w s v.1 cs
  len : cs.length = v.2.1
  inn : ∀ a, v.1 = some a → X a.block ∧ a.block < w.heap.size
  cap : v.2.1 ≤ v.2.2
structure KeepX (X X' : Nat → Prop) (w w' : World) : Prop where
  size : w.heap.size ≤ w'.heap.size
  block : ∀ b, X b → b < w.heap.size → w'.heap[b]? = w.heap[b]?
  more : ∀ b, X b → b < w.heap.size → X' b
theorem KeepX.below {X : Nat → Prop} {w w' : World} (hb : Below w.heap.size w w') : KeepX X X w w' := ⟨hb.size, fun b _ h => hb.block b h, fun _ h _ => h⟩
theorem KeepX.grown {X : Nat → Prop} {w w' : World} {row : Option Nat} (hg : w.grownBy w' row) (hr : ∀ r, row = some r → ¬ X r) : KeepX X X w w' :=
  ⟨hg.size, fun b hb h => hg.block b h (fun e => hr b e.symm hb), fun _ h _ => h⟩
theorem KeepX.same {X X' : Nat → Prop} {w : World} (h : ∀ b, X b → b < w.heap.size → X' b) : KeepX X X' w w := ⟨Nat.le_refl _, fun _ _ _ => rfl, h⟩
theorem KeepX.trans {X Y Z : Nat → Prop} {a b c : World} (h : KeepX X Y a b) (k : KeepX Y Z b c) : KeepX X Z a c :=
  ⟨Nat.le_trans h.size k.size, fun i hi hl => (k.block i (h.more i hi hl) (Nat.lt_of_lt_of_le hl h.size)).trans (h.block i hi hl), fun i hi hl => k.more i (h.more i hi hl) (Nat.lt_of_lt_of_le hl h.size)⟩
theorem SlX.keep {X X' : Nat → Prop} {w w' : World} {s : Nat} {v : Sv} {cs : List (List Value)} (h : SlX w X s v cs) (k : KeepX X X' w w') : SlX w' X' s v cs :=
  ⟨h.rd.keep fun b off i u ha hc => by
      obtain ⟨h1, h2⟩ := h.inn _ ha
      have := k.block b h1 h2
      rw [← hc]
      simp [World.cell?, this],
    h.len, fun a ha => ⟨k.more _ (h.inn a ha).1 (h.inn a ha).2, Nat.lt_of_lt_of_le (h.inn a ha).2 k.size⟩, h.cap⟩
theorem SlX.own {w : World} {base : Nat} {e : TypeId} {s : Nat} {A : Option Addr} {n c : Nat} {cs : List (List Value)} {X : Nat → Prop} (h : Own w base e s A n c cs) (hs : 0 < s) (hX : ∀ a, A = some a → X a.block) : SlX w X s (A, n, c) cs :=
  ⟨h.rd hs, h.len, fun a ha => ⟨hX a ha, (h.lt a ha).2⟩, h.cap.1⟩
theorem SlX.nil_ (w : World) (X : Nat → Prop) (s : Nat) : SlX w X s (none, 0, 0) [] := ⟨Rd.nil_ _ _ _, rfl, (fun a h => by cases h), Nat.le_refl _⟩
mutual
def PatX (w : World) (X : Nat → Prop) : Pat → Pv → Prop
  | .node op cs ks, v => v.1 = op ∧ SlX w X 1 v.2.1 (cs.map encN) ∧ ∃ vs, SlX w X 3 v.2.2 (vs.map encPt) ∧ PatsX w X ks vs
def PatsX (w : World) (X : Nat → Prop) : List Pat → List Pv → Prop
  | [], vs => vs = []
  | p :: ps, vs => ∃ v r, vs = v :: r ∧ PatX w X p v ∧ PatsX w X ps r
end
mutual
theorem PatX.keep {X X' : Nat → Prop} {w w' : World} (k : KeepX X X' w w') : ∀ {p : Pat} {v : Pv}, PatX w X p v → PatX w' X' p v
  | .node op cs ks, v, h => by
    simp only [PatX] at h ⊢
    obtain ⟨h1, h2, vs, h3, h4⟩ := h
    exact ⟨h1, h2.keep k, vs, h3.keep k, PatsX.keep k h4⟩
theorem PatsX.keep {X X' : Nat → Prop} {w w' : World} (k : KeepX X X' w w') : ∀ {ps : List Pat} {vs : List Pv}, PatsX w X ps vs → PatsX w' X' ps vs
  | [], vs, h => by simpa only [PatsX] using h
  | p :: ps, vs, h => by
    simp only [PatsX] at h ⊢
    obtain ⟨v, r, h1, h2, h3⟩ := h
    exact ⟨v, r, h1, PatX.keep k h2, PatsX.keep k h3⟩
end
theorem PatX.below {X : Nat → Prop} {w w' : World} {p : Pat} {v : Pv} (h : PatX w X p v) (hb : Below w.heap.size w w') : PatX w' X p v := h.keep (KeepX.below hb)
theorem PatsX.below {X : Nat → Prop} {w w' : World} {p : List Pat} {v : List Pv} (h : PatsX w X p v) (hb : Below w.heap.size w w') : PatsX w' X p v := h.keep (KeepX.below hb)
theorem PatsX.len {X : Nat → Prop} {w : World} : ∀ {ps : List Pat} {vs : List Pv}, PatsX w X ps vs → vs.length = ps.length
  | [], vs, h => by simp only [PatsX] at h; rw [h]; rfl
  | p :: ps, vs, h => by
    simp only [PatsX] at h
    obtain ⟨v, r, rfl, h2, h3⟩ := h
    simp [PatsX.len h3]
theorem PatsX.at_ {X : Nat → Prop} {w : World} : ∀ {ps : List Pat} {vs : List Pv} {k : Nat} {p : Pat}, PatsX w X ps vs → ps[k]? = some p → ∃ v, vs[k]? = some v ∧ PatX w X p v
  | [], vs, k, p, h, hk => by simp at hk
  | q :: ps, vs, k, p, h, hk => by
    simp only [PatsX] at h
    obtain ⟨v, r, rfl, h2, h3⟩ := h
    cases k with
    | zero => simp at hk; subst hk; exact ⟨v, by simp, h2⟩
    | succ k => simp at hk; obtain ⟨u, hu, hp⟩ := PatsX.at_ h3 hk; exact ⟨u, by simpa using hu, hp⟩
theorem PatsX.snoc {X : Nat → Prop} {w : World} {p : Pat} {v : Pv} (hp : PatX w X p v) : ∀ {ps : List Pat} {vs : List Pv}, PatsX w X ps vs → PatsX w X (ps ++ [p]) (vs ++ [v])
  | [], vs, h => by simp only [PatsX] at h; subst h; simp only [List.nil_append, PatsX]; exact ⟨v, [], rfl, hp, rfl⟩
  | q :: ps, vs, h => by
    simp only [PatsX] at h
    obtain ⟨u, r, rfl, h2, h3⟩ := h
    simp only [List.cons_append, PatsX]
    exact ⟨u, r ++ [v], rfl, h2, PatsX.snoc hp h3⟩
def encW (x : Nat) : List Value := [.int .u64 (x : Int)]
def hasW (r : List Nat) (j : Nat) : Bool := (r.getD (j / 64) 0).testBit (j % 64)
def orW (a b : List Nat) : List Nat := List.zipWith (fun x y => x ||| y) a b
def setW (r : List Nat) (j : Nat) : List Nat := r.set (j / 64) (r.getD (j / 64) 0 ||| 2 ^ (j % 64))
structure Wide (k : Nat) (r : List Nat) : Prop where
  len : r.length = k
  lt : ∀ x ∈ r, x < 18446744073709551616
theorem Wide.at_ {k : Nat} {r : List Nat} (h : Wide k r) (i : Nat) : r.getD i 0 < 18446744073709551616 := by
  rw [List.getD_eq_getElem?_getD]
  cases hi : r[i]? with
  | none => simp
  | some x => exact h.lt x (List.mem_of_getElem? hi)
theorem Wide.zero (k : Nat) : Wide k (List.replicate k 0) := ⟨by simp, fun x hx => by rw [(List.mem_replicate.1 hx).2]; omega⟩
theorem orW_get (a b : List Nat) (h : a.length = b.length) (i : Nat) : (orW a b).getD i 0 = (a.getD i 0 ||| b.getD i 0) := by
  unfold orW
  rw [List.getD_eq_getElem?_getD, List.getD_eq_getElem?_getD, List.getD_eq_getElem?_getD, List.getElem?_zipWith]
  rcases Nat.lt_or_ge i a.length with hl | hl
  · rw [List.getElem?_eq_getElem hl, List.getElem?_eq_getElem (by omega : i < b.length)]; rfl
  · rw [List.getElem?_eq_none hl, List.getElem?_eq_none (by omega : b.length ≤ i)]; rfl
theorem Wide.or {k : Nat} {a b : List Nat} (ha : Wide k a) (hb : Wide k b) : Wide k (orW a b) := by
  refine ⟨by unfold orW; rw [List.length_zipWith, ha.len, hb.len, Nat.min_self], fun x hx => ?_⟩
  obtain ⟨i, hi, e⟩ := List.getElem_of_mem hx
  have h1 := orW_get a b (by rw [ha.len, hb.len]) i
  rw [List.getD_eq_getElem?_getD, List.getElem?_eq_getElem hi, e] at h1
  simp only [Option.getD_some] at h1
  rw [h1]
  exact Nat.or_lt_two_pow (n := 64) (ha.at_ i) (hb.at_ i)
theorem Wide.set_ {k : Nat} {r : List Nat} (h : Wide k r) (j : Nat) : Wide k (setW r j) := by
  refine ⟨by unfold setW; rw [List.length_set, h.len], fun x hx => ?_⟩
  rcases List.mem_or_eq_of_mem_set hx with hx | rfl
  · exact h.lt x hx
  · exact Nat.or_lt_two_pow (n := 64) (h.at_ _) (Nat.pow_lt_pow_right (by omega) (Nat.mod_lt _ (by omega)))
end Go.Proofs.YtdngkienloligaaGreatDoor

/- -/
namespace Go.Proofs.YtdngkienloligaaGreatDoor
open Go.RowKit
structure MtR (w : World) (v : Sv) (n k : Nat) (C : List (List Nat)) : Prop where
  ex : ∃ rows : List Sv, Rd w 1 v.1 (rows.map encSl) ∧ rows.length = n ∧ v.2.1 = n ∧ C.length = n ∧ ∀ (i : Nat) (r : Sv) (x : List Nat), rows[i]? = some r → C[i]? = some x → Rd w 1 r.1 (x.map encW) ∧ r.2.1 = k ∧ Wide k x
theorem MtR.below {w w' : World} {v : Sv} {n k : Nat} {C : List (List Nat)} (h : MtR w v n k C) (hb : Below w.heap.size w w') : MtR w' v n k C := by
  obtain ⟨rows, h1, h2, h3, h4, h5⟩ := h.ex
  exact ⟨rows, h1.below hb, h2, h3, h4, fun i r x hr hx => ⟨(h5 i r x hr hx).1.below hb, (h5 i r x hr hx).2⟩⟩
theorem MtR.size {w : World} {v : Sv} {n k : Nat} {C : List (List Nat)} (h : MtR w v n k C) : v.2.1 = n := by obtain ⟨rows, h1, h2, h3, h4, h5⟩ := h.ex; exact h3
theorem MtR.len {w : World} {v : Sv} {n k : Nat} {C : List (List Nat)} (h : MtR w v n k C) : C.length = n := by obtain ⟨rows, h1, h2, h3, h4, h5⟩ := h.ex; exact h4
theorem MtR.at_ {w : World} {v : Sv} {n k i : Nat} {C : List (List Nat)} (h : MtR w v n k C) (hi : i < n) :
    ∃ b off B c x, v.1 = some ⟨b, off, none⟩ ∧ w.cell? ⟨b, off + i, none⟩ = some (.slice B k c) ∧ C[i]? = some x ∧ C.getD i [] = x ∧ Rd w 1 B (x.map encW) ∧ Wide k x := by
  obtain ⟨rows, h1, h2, h3, h4, h5⟩ := h.ex
  obtain ⟨r, hr⟩ : ∃ r, rows[i]? = some r := ⟨_, List.getElem?_eq_getElem (by omega)⟩
  obtain ⟨x, hx⟩ : ∃ x, C[i]? = some x := ⟨_, List.getElem?_eq_getElem (by omega)⟩
  obtain ⟨b, off, e, hc⟩ := h1 (by intro e; have := congrArg List.length e; rw [List.length_map, h2] at this; simp at this; omega)
  obtain ⟨g1, g2, g3⟩ := h5 i _ _ hr hx
  have h0 := hc i 0 (encSl r) (.slice r.1 r.2.1 r.2.2) (by simp [hr]) rfl
  rw [g2] at h0
  exact ⟨b, off, _, _, _, e, by simpa using h0, hx, by rw [List.getD_eq_getElem?_getD, hx]; rfl, g1, g3⟩
structure MtO (w : World) (base : Nat) (A : Option Addr) (n c k : Nat) (rows : List Sv) (C : List (List Nat)) : Prop where
  sl : Own w base 229 1 A n c (rows.map encSl)
  len : C.length = n
  row : ∀ (i : Nat) (r : Sv) (x : List Nat), rows[i]? = some r → C[i]? = some x → Own w base 264 1 r.1 r.2.1 r.2.2 (x.map encW) ∧ Wide k x
  apart : ∀ (i j : Nat) (r q : Sv) (a b : Addr), rows[i]? = some r → rows[j]? = some q → r.1 = some a → q.1 = some b → a.block = b.block → i = j
theorem types_mt : (229 : TypeId) ≠ 264 := by decide
section
variable {w w' : World} {base n c k : Nat} {A : Option Addr} {rows : List Sv} {C : List (List Nat)}
theorem MtO.rlen (h : MtO w base A n c k rows C) : rows.length = n := by have := h.sl.len; rwa [List.length_map] at this
theorem MtO.below (h : MtO w base A n c k rows C) (hb : Below w.heap.size w w') : MtO w' base A n c k rows C :=
  ⟨h.sl.below hb, h.len, fun i r x hr hx => ⟨(h.row i r x hr hx).1.below hb, (h.row i r x hr hx).2⟩, h.apart⟩
theorem MtO.more {b' : Nat} (h : MtO w base A n c k rows C) (hb : b' ≤ base) : MtO w b' A n c k rows C :=
  ⟨h.sl.more hb, h.len, fun i r x hr hx => ⟨(h.row i r x hr hx).1.more hb, (h.row i r x hr hx).2⟩, h.apart⟩
theorem MtO.nil_ (w : World) (base k : Nat) : MtO w base none 0 0 k [] [] := ⟨Own.nil_ _ _ _ _, rfl, fun i r x h => by simp at h, fun i j r q a b h => by simp at h⟩
theorem MtO.rd (h : MtO w base A n c k rows C) : MtR w (A, n, c) n k C :=
  ⟨rows, h.sl.rd (by omega), h.rlen, rfl, h.len, fun i r x hr hx => ⟨(h.row i r x hr hx).1.rd (by omega), by
    have h1 := (h.row i r x hr hx).1.len
    have h2 := (h.row i r x hr hx).2.len
    rw [List.length_map] at h1
    omega, (h.row i r x hr hx).2⟩⟩
theorem MtO.at_ {i : Nat} (h : MtO w base A n c k rows C) (hi : i < n) (hk : 0 < k) :
    ∃ b g d x, A = some ⟨b, 0, none⟩ ∧ rows[i]? = some (some ⟨g, 0, none⟩, k, d) ∧ w.cell? ⟨b, i, none⟩ = some (.slice (some ⟨g, 0, none⟩) k d) ∧ C[i]? = some x ∧ C.getD i [] = x ∧ Own w base 264 1 (some ⟨g, 0, none⟩) k d (x.map encW) ∧ Wide k x := by
  obtain ⟨b, rfl, hb, _⟩ := h.sl.form (by omega)
  obtain ⟨r, hr⟩ : ∃ r, rows[i]? = some r := ⟨_, List.getElem?_eq_getElem (by have := h.rlen; omega)⟩
  obtain ⟨x, hx⟩ : ∃ x, C[i]? = some x := ⟨_, List.getElem?_eq_getElem (by have := h.len; omega)⟩
  obtain ⟨g1, g2⟩ := h.row i _ _ hr hx
  have hl : r.2.1 = k := by have h1 := g1.len; rw [List.length_map, g2.len] at h1; exact h1.symm
  obtain ⟨r1, r2, r3⟩ := r
  simp only at g1 hl
  subst hl
  obtain ⟨g, rfl, _, _⟩ := g1.form hk
  have h0 := h.sl.cell (k := i) (j := 0) (x := encSl (some ⟨g, 0, none⟩, r2, r3)) (u := .slice (some ⟨g, 0, none⟩) r2 r3) (by simp [hr]) rfl
  exact ⟨b, g, r3, _, rfl, hr, by simpa using h0, hx, by rw [List.getD_eq_getElem?_getD, hx]; rfl, g1, g2⟩
theorem MtO.snoc {w3 : World} {A3 : Option Addr} {c3 : Nat} {o : Obj} {r : Sv} {x : List Nat} (h : MtO w base A n c k rows C) (hr : Own w base 264 1 r.1 r.2.1 r.2.2 (x.map encW)) (hx : Wide k x)
    (hf : ∀ (i : Nat) (q : Sv) (a b : Addr), rows[i]? = some q → q.1 = some a → r.1 = some b → a.block ≠ b.block)
    (ho3 : Own w3 base 229 1 A3 (n + 1) c3 ((rows ++ [r]).map encSl)) (hg3 : (w.alloc o).grownBy w3 (A.map (·.block))) : MtO w3 base A3 (n + 1) c3 k (rows ++ [r]) (C ++ [x]) := by
  have hg : w.grownBy w3 (A.map (·.block)) := grown_alloc hg3
  have keep : ∀ {r : Sv} {x : List Nat}, Own w base 264 1 r.1 r.2.1 r.2.2 (x.map encW) → Own w3 base 264 1 r.1 r.2.1 r.2.2 (x.map encW) := fun h1 => h1.grown hg (fun a ha e => by
    cases hA : A with
    | none => rw [hA] at e; cases e
    | some b => rw [hA] at e; simp at e; exact h.sl.apart h1 types_mt b a hA ha e.symm)
  have hl := h.rlen
  refine ⟨ho3, by simp [h.len], fun i q y hq hy => ?_, fun i j q z a b hq hz ha hb e => ?_⟩
  · rcases Nat.lt_trichotomy i n with hi | hi | hi
    · rw [List.getElem?_append_left (by omega)] at hq
      rw [List.getElem?_append_left (by have := h.len; omega)] at hy
      exact ⟨keep (h.row i q y hq hy).1, (h.row i q y hq hy).2⟩
    · rw [List.getElem?_append_right (by omega), hi, hl, Nat.sub_self] at hq
      rw [List.getElem?_append_right (by have := h.len; omega), hi, h.len, Nat.sub_self] at hy
      simp at hq hy
      subst hq; subst hy
      exact ⟨keep hr, hx⟩
    · rw [List.getElem?_eq_none (by simp; omega)] at hq; cases hq
  · have hlt : ∀ {i : Nat} {q : Sv}, (rows ++ [r])[i]? = some q → (i < n ∧ rows[i]? = some q) ∨ (i = n ∧ q = r) := fun {i q} hq => by
      rcases Nat.lt_trichotomy i n with hi | hi | hi
      · rw [List.getElem?_append_left (by omega)] at hq; exact .inl ⟨hi, hq⟩
      · rw [List.getElem?_append_right (by omega), hi, hl, Nat.sub_self] at hq; simp at hq; exact .inr ⟨hi, hq.symm⟩
      · rw [List.getElem?_eq_none (by simp; omega)] at hq; cases hq
    rcases hlt hq with ⟨hi, kq⟩ | ⟨hi, eq_⟩ <;> rcases hlt hz with ⟨hj, kz⟩ | ⟨hj, ez⟩
    · exact h.apart i j q z a b kq kz ha hb e
    · subst ez; exact absurd e (hf i q a b kq ha hb)
    · subst eq_; exact absurd e.symm (hf j z b a kz hb ha)
    · omega
end
def BitsM (n : Nat) (C : List (List Nat)) (m : Mtx) : Prop := ∀ i j, i < n → j < n → hasW (C.getD i []) j = m i j
theorem getD_set {α : Type} {C : List α} {i j : Nat} {x d : α} (h : i < C.length) : (C.set i x).getD j d = if i = j then x else C.getD j d := by
  rw [List.getD_eq_getElem?_getD, List.getD_eq_getElem?_getD, List.getElem?_set]
  by_cases e : i = j
  · rw [if_pos e, if_pos h, if_pos e]; rfl
  · rw [if_neg e, if_neg e]
end Go.Proofs.YtdngkienloligaaGreatDoor

/- -/
namespace Go.Proofs.YtdngkienloligaaGreatDoor
open Go.RowKit
end Go.Proofs.YtdngkienloligaaGreatDoor

/- -/
namespace Go.Proofs.YtdngkienloligaaGreatDoor
open Go.RowKit
theorem BitsM.step {n i : Nat} {C : List (List Nat)} {m m' : Mtx} {x : List Nat} (h : BitsM n C m) (hi : i < C.length) (h1 : ∀ j, j < n → hasW x j = m' i j) (h2 : ∀ y j, y < n → j < n → y ≠ i → m' y j = m y j) : BitsM n (C.set i x) m' := fun y j hy hj => by
  rw [getD_set hi]
  by_cases e : i = y
  · rw [if_pos e]; subst e; exact h1 j hj
  · rw [if_neg e, h y j hy hj, h2 y j hy hj (fun k => e k.symm)]
theorem BitsM.congr {n : Nat} {C : List (List Nat)} {m m' : Mtx} (h : BitsM n C m) (e : ∀ i j, i < n → j < n → m' i j = m i j) : BitsM n C m' := fun i j hi hj => by rw [h i j hi hj, e i j hi hj]
theorem BitsM.row {n i : Nat} {C : List (List Nat)} {m : Mtx} {x : List Nat} (h : BitsM n C m) (hx : C.getD i [] = x) (hi : i < n) : ∀ j, j < n → hasW x j = m i j := fun j hj => by rw [← hx]; exact h i j hi hj
def MtEnd (w : World) (n : Nat) (m : Mtx) (e : Ending) (w' : World) : Prop := ∃ A c rows C, e = .returned (.slice A n c) ∧ MtO w' w.heap.size A n c (n / 64 + 1) rows C ∧ BitsM n C m ∧ Below w.heap.size w w'
end Go.Proofs.YtdngkienloligaaGreatDoor

/- -/
namespace Go.Proofs.YtdngkienloligaaGreatDoor
open Go.RowKit
theorem Rd.off {w : World} {A : Option Addr} {l : List Nat} {k g : Nat} (h : Rd w 1 A (l.map encW)) (hk : Wide k l) (h0 : 0 < k) (hg : w.heap.size ≤ g) : ∀ a, A = some a → a.block ≠ g := fun a ha => by
  obtain ⟨b, off, e, hb⟩ := h.lt (fun x hx => by obtain ⟨y, _, rfl⟩ := List.mem_map.1 hx; simp [encW]) (fun e => by
    have := congrArg List.length e
    rw [List.length_map, hk.len] at this
    simp at this; omega)
  rw [e] at ha
  injection ha with ha
  subst ha
  simp only
  omega
theorem MtO.cell {w : World} {base n c k i bk g d : Nat} {rows : List Sv} {C : List (List Nat)} (h : MtO w base (some ⟨bk, 0, none⟩) n c k rows C) (hr : rows[i]? = some (some ⟨g, 0, none⟩, k, d)) : w.cell? ⟨bk, i, none⟩ = some (.slice (some ⟨g, 0, none⟩) k d) := by
  have h0 := h.sl.cell (k := i) (j := 0) (x := encSl (some ⟨g, 0, none⟩, k, d)) (u := .slice (some ⟨g, 0, none⟩) k d) (by simp [hr]) rfl
  simpa using h0
end Go.Proofs.YtdngkienloligaaGreatDoor

/- -/
namespace Go.Proofs.YtdngkienloligaaGreatDoor
open Go.RowKit
end Go.Proofs.YtdngkienloligaaGreatDoor

/- -/
namespace Go.Proofs.YtdngkienloligaaGreatDoor
open Go.RowKit
end Go.Proofs.YtdngkienloligaaGreatDoor

/- -/
namespace Go.Proofs.YtdngkienloligaaGreatDoor
end Go.Proofs.YtdngkienloligaaGreatDoor

/- -/
namespace Go.Proofs.YtdngkienloligaaGreatDoor
def cutD (l : List UInt8) (i : Nat) (semi : Option Nat) : Nat × Option Nat := cutGo l.length l i semi
def CutAt (L : List UInt8) (i : Nat) (semi : Option Nat) : Prop := i ≤ L.length ∧ cutD (L.drop i) i semi = cutD L 0 none ∧ ∀ k, semi = some k → k ≤ i
section
variable {L : List UInt8} {i : Nat} {semi : Option Nat} {x : UInt8} (h : CutAt L i semi) (hx : L[i]? = some x) (hq : qtL (L.drop i) = none)
end
end Go.Proofs.YtdngkienloligaaGreatDoor

/- -/
namespace Go.Proofs.YtdngkienloligaaGreatDoor
open Go.RowKit
def Bld (w : World) (b B : Nat) (l : List UInt8) : Prop :=
  ∃ p v, (p = .pointer none ∨ p = .pointer (some ⟨b, 0, none⟩)) ∧ w.heap[b]? = some (.cells #[p, v] 271 (0, 0)) ∧ w.ownsRowF B 5 1 v l.length (Lib.byteCells l)
theorem Bld.new (w : World) (B : Nat) : Bld (w.alloc (.cells #[.pointer none, .slice none 0 0] 271)) w.heap.size B [] :=
  ⟨_, _, .inl rfl, heap_alloc_new w _, World.ownsRowF_nil _ _ _ _⟩
theorem Bld.lt {w : World} {b B : Nat} {l : List UInt8} (h : Bld w b B l) : b < w.heap.size := by
  obtain ⟨p, v, _, hb, _⟩ := h; exact (Array.getElem?_eq_some_iff.1 hb).1
theorem Bld.row_ne {w : World} {b B : Nat} {n : Nat} {xs : List Value} {cs : Array Value} {v : Value} (hown : w.ownsRowF B 5 1 v n xs) (hb : w.heap[b]? = some (.cells cs 271 (0, 0))) : v.ownBlock ≠ some b := Lib.ownBlock_neF hown hb (by decide)
theorem Bld.keep {w w' : World} {b B : Nat} {l : List UInt8} (h : Bld w b B l) (hs : ∀ (k : Nat) (o : Obj), w.heap[k]? = some o → o.isCells = true → k = b ∨ B ≤ k → w'.heap[k]? = some o) : Bld w' b B l := by
  obtain ⟨p, v, hp, hb, hown⟩ := h
  refine ⟨p, v, hp, hs b _ hb rfl (.inl rfl), hown.1, ?_⟩
  rcases hown.2 with h0 | ⟨g, cap, cur, fz, hv, hg, hh, r⟩
  · exact .inl h0
  · exact .inr ⟨g, cap, cur, fz, hv, hg, hs g _ hh rfl (.inr hg), r⟩
theorem Bld.below {w w' : World} {b B : Nat} {l : List UInt8} (h : Bld w b B l) (hb : Below w.heap.size w w') : Bld w' b B l := h.keep fun k _ hk _ _ => (hb.block k (Array.getElem?_eq_some_iff.1 hk).1).trans hk
theorem Bld.kept {w w' : World} {row : Option Nat} {b B : Nat} {l : List UInt8} (h : Bld w b B l) (hg : w.grownBy w' row) (hr : ∀ r, row = some r → ∃ o : Obj, w.heap[r]? = some o ∧ o.isCells = false) : Bld w' b B l :=
  h.keep fun k o hk hc _ => (hg.block k (Array.getElem?_eq_some_iff.1 hk).1 (by
    rintro rfl
    obtain ⟨o', h1, h2⟩ := hr k rfl
    rw [hk] at h1; cases h1; rw [hc] at h2; cases h2)).trans hk
theorem Bld.more {w : World} {b B B' : Nat} {l : List UInt8} (h : Bld w b B l) (hB : B' ≤ B) : Bld w b B' l := by
  obtain ⟨p, v, hp, hb, hown⟩ := h
  refine ⟨p, v, hp, hb, hown.1, ?_⟩
  rcases hown.2 with h0 | ⟨g, cap, cur, fz, hv, hg, r⟩
  · exact .inl h0
  · exact .inr ⟨g, cap, cur, fz, hv, by omega, r⟩
theorem Bld.is {w : World} {b B : Nat} {l : List UInt8} (h : Bld w b B l) (hB : b ≤ B) : Lib.IsBuilderF 271 5 b b (Lib.byteCells l) w := by
  obtain ⟨p, v, hp, hb, hown⟩ := h.more hB
  have hl : (Lib.byteCells l).length = l.length := Lib.byteCells_length l
  rcases hp with rfl | rfl
  · exact .inl ⟨Nat.le_refl _, v, hb, by rw [hl]; exact hown, Bld.row_ne hown hb⟩
  · exact .inr ⟨Nat.le_refl _, v, hb, by rw [hl]; exact hown, Bld.row_ne hown hb⟩
end Go.Proofs.YtdngkienloligaaGreatDoor

/- -/
namespace Go.Proofs.YtdngkienloligaaGreatDoor
open Go.RowKit
end Go.Proofs.YtdngkienloligaaGreatDoor

/- -/
namespace Go.Proofs.YtdngkienloligaaGreatDoor
open Go.RowKit
end Go.Proofs.YtdngkienloligaaGreatDoor

/- -/
namespace Go.Proofs.YtdngkienloligaaGreatDoor
open Go.RowKit
end Go.Proofs.YtdngkienloligaaGreatDoor

/- -/
namespace Go.Proofs.YtdngkienloligaaGreatDoor
open Go.RowKit
end Go.Proofs.YtdngkienloligaaGreatDoor

/- -/
namespace Go.Proofs.YtdngkienloligaaGreatDoor
open Go.RowKit
end Go.Proofs.YtdngkienloligaaGreatDoor

/- -/
namespace Go.Proofs.YtdngkienloligaaGreatDoor
open Go.RowKit
theorem TabB.below {w w' : World} (h : TabB w) (hb : Below w.heap.size w w') : TabB w' := by unfold TabB at h ⊢; exact cell_keep h hb
end Go.Proofs.YtdngkienloligaaGreatDoor

/- -/
namespace Go.Proofs.YtdngkienloligaaGreatDoor
open Go.RowKit Go.Maps
end Go.Proofs.YtdngkienloligaaGreatDoor

/- -/
namespace Go.Proofs.YtdngkienloligaaGreatDoor
open Go.RowKit Go.Maps
end Go.Proofs.YtdngkienloligaaGreatDoor

/- -/
namespace Go.Proofs.YtdngkienloligaaGreatDoor
open Go.RowKit Go.Maps
end Go.Proofs.YtdngkienloligaaGreatDoor

/- -/
namespace Go.Proofs.YtdngkienloligaaGreatDoor
open Go.RowKit Go.Maps
end Go.Proofs.YtdngkienloligaaGreatDoor

/- -/
namespace Go.Proofs.YtdngkienloligaaGreatDoor
open Go.RowKit Go.Maps
structure RfX (w : World) (base p x : Nat) (An : Option Addr) (nn cn : Nat) (As : Option Addr) (ns cs : Nat) (xs : List (Option Addr × Nat × Nat)) (N : List (List UInt8)) (S : List (List (Int × Int))) : Prop where
  blk : Blk w p 158 #[.slice An nn cn, .slice As ns cs]
  pb : base ≤ p
  hn : Own w base 9 1 An nn cn (N.map encNm)
  hs : Own w base 186 1 As ns cs (xs.map encSl)
  hx : Sets w base xs S
  xp : x ≠ p
  xn : ∀ a, An = some a → a.block ≠ x
  xs_ : ∀ a, As = some a → a.block ≠ x
structure RfB (w : World) (base p x : Nat) (N : List (List UInt8)) (S : List (List (Int × Int))) : Prop where
  ex : ∃ (An : Option Addr) (nn cn : Nat) (As : Option Addr) (ns cs : Nat) (xs : List (Option Addr × Nat × Nat)), RfX w base p x An nn cn As ns cs xs N S
section
variable {w w' : World} {base p x : Nat} {An : Option Addr} {nn cn : Nat} {As : Option Addr} {ns cs : Nat} {xs : List (Option Addr × Nat × Nat)} {N : List (List UInt8)} {S : List (List (Int × Int))}
theorem RfX.below (h : RfX w base p x An nn cn As ns cs xs N S) (hb : Below w.heap.size w w') : RfX w' base p x An nn cn As ns cs xs N S := ⟨h.blk.below hb, h.pb, h.hn.below hb, h.hs.below hb, h.hx.below hb, h.xp, h.xn, h.xs_⟩
theorem RfB.below (h : RfB w base p x N S) (hb : Below w.heap.size w w') : RfB w' base p x N S := by
  obtain ⟨a1, a2, a3, a4, a5, a6, a7, h⟩ := h.ex
  exact ⟨a1, a2, a3, a4, a5, a6, a7, h.below hb⟩
theorem RfX.lenN (h : RfX w base p x An nn cn As ns cs xs N S) : N.length = nn := by simpa using h.hn.len
theorem RfX.lenS (h : RfX w base p x An nn cn As ns cs xs N S) : xs.length = ns ∧ S.length = ns := by
  have := h.hs.len; rw [List.length_map] at this
  exact ⟨this, by rw [← h.hx.len]; exact this⟩
theorem types_rf : (9 : TypeId) ≠ 186 ∧ (9 : TypeId) ≠ 158 ∧ (186 : TypeId) ≠ 158 ∧ (9 : TypeId) ≠ 211 ∧ (186 : TypeId) ≠ 211 ∧ (158 : TypeId) ≠ 211 := by decide
theorem RfX.named {w3 : World} {o : Obj} {n : List UInt8} {A3 : Option Addr} {c3 : Nat} (h : RfX w base p x An nn cn As ns cs xs N S) (ho3 : Own w3 base 9 1 A3 (nn + 1) c3 ((N ++ [n]).map encNm))
    (hg3 : (w.alloc o).grownBy w3 (An.map (·.block))) (hA3 : A3 = An ∨ A3 = some ⟨(w.alloc o).heap.size, 0, none⟩) (hx : x < w.heap.size) (hB : base ≤ w.heap.size) :
    Blk w3 p 158 #[.slice An nn cn, .slice As ns cs] ∧ RfX (w3.setCell ⟨p, 0, none⟩ (.slice A3 (nn + 1) c3)) base p x A3 (nn + 1) c3 As ns cs xs (N ++ [n]) S ∧
      KX base x w (w3.setCell ⟨p, 0, none⟩ (.slice A3 (nn + 1) c3)) ∧ KeepR base w (w3.setCell ⟨p, 0, none⟩ (.slice A3 (nn + 1) c3)) := by
  obtain ⟨t1, t2, t3, t4, t5, t6⟩ := types_rf
  have hg := grown_alloc hg3
  have b3 : Blk w3 p 158 #[.slice An nn cn, .slice As ns cs] := h.blk.grown hg (fun e => by cases An with | none => cases e | some a => simp at e; exact h.hn.off h.blk t2 a rfl e.symm)
  have s3 : Own w3 base 186 1 As ns cs (xs.map encSl) := h.hs.grown hg (fun a ha e => by cases An with | none => cases e | some b => simp at e; exact h.hn.apart h.hs t1 b a rfl ha e.symm)
  have x3 : Sets w3 base xs S := h.hx.grown hg (fun g q e => own_not_R h.hn t4 g q e)
  have hxA3 : ∀ a, A3 = some a → a.block ≠ x := fun a ha => by
    rcases hA3 with e | e
    · exact h.xn a (by rw [← e]; exact ha)
    · rw [e] at ha; injection ha with ha; subst ha; simp; omega
  refine ⟨b3, ⟨?_, h.pb, ?_, ?_, ?_, h.xp, hxA3, h.xs_⟩, ?_, ?_⟩
  · have := b3.set_ 0 (.slice A3 (nn + 1) c3)
    simpa using this
  · exact ho3.setCell (fun a ha => ho3.off b3 t2 a ha) _
  · exact s3.setCell (fun a ha => s3.off b3 t3 a ha) _
  · exact x3.setCell (blk_not_R b3 t6) _
  · refine (KX.grown hg hB (fun k hk => ?_)).trans (KX.setCell w3 h.pb (fun e => h.xp e.symm) _)
    cases An with
    | none => cases hk
    | some a => simp at hk; subst hk; exact ⟨(h.hn.lt a rfl).1, h.xn a rfl⟩
  · exact (KeepR.grown hg (fun g q e => own_not_R h.hn t4 g q e)).trans (KeepR.setCell (blk_not_R b3 t6) _)
theorem RfX.moreSet {w3 : World} {o : Obj} {A3 : Option Addr} {c3 : Nat} (h : RfX w base p x An nn cn As ns cs xs N S) (ho3 : Own w3 base 186 1 A3 (ns + 1) c3 ((xs ++ [(none, 0, 0)]).map encSl))
    (hg3 : (w.alloc o).grownBy w3 (As.map (·.block))) (hA3 : A3 = As ∨ A3 = some ⟨(w.alloc o).heap.size, 0, none⟩) (hx : x < w.heap.size) (hB : base ≤ w.heap.size) :
    Blk w3 p 158 #[.slice An nn cn, .slice As ns cs] ∧ RfX (w3.setCell ⟨p, 1, none⟩ (.slice A3 (ns + 1) c3)) base p x An nn cn A3 (ns + 1) c3 (xs ++ [(none, 0, 0)]) N (S ++ [[]]) ∧
      KX base x w (w3.setCell ⟨p, 1, none⟩ (.slice A3 (ns + 1) c3)) ∧ KeepR base w (w3.setCell ⟨p, 1, none⟩ (.slice A3 (ns + 1) c3)) := by
  obtain ⟨t1, t2, t3, t4, t5, t6⟩ := types_rf
  have hg := grown_alloc hg3
  have b3 : Blk w3 p 158 #[.slice An nn cn, .slice As ns cs] := h.blk.grown hg (fun e => by cases As with | none => cases e | some a => simp at e; exact h.hs.off h.blk t3 a rfl e.symm)
  have n3 : Own w3 base 9 1 An nn cn (N.map encNm) := h.hn.grown hg (fun a ha e => by cases As with | none => cases e | some b => simp at e; exact h.hn.apart h.hs t1 a b ha rfl e)
  have x3 : Sets w3 base xs S := h.hx.grown hg (fun g q e => own_not_R h.hs t5 g q e)
  have hxA3 : ∀ a, A3 = some a → a.block ≠ x := fun a ha => by
    rcases hA3 with e | e
    · exact h.xs_ a (by rw [← e]; exact ha)
    · rw [e] at ha; injection ha with ha; subst ha; simp; omega
  refine ⟨b3, ⟨?_, h.pb, ?_, ?_, ?_, h.xp, h.xn, hxA3⟩, ?_, ?_⟩
  · have := b3.set_ 1 (.slice A3 (ns + 1) c3)
    simpa using this
  · exact n3.setCell (fun a ha => n3.off b3 t2 a ha) _
  · exact ho3.setCell (fun a ha => ho3.off b3 t3 a ha) _
  · exact (x3.setCell (blk_not_R b3 t6) _).snoc (Own.nil_ _ _ _ _)
  · refine (KX.grown hg hB (fun k hk => ?_)).trans (KX.setCell w3 h.pb (fun e => h.xp e.symm) _)
    cases As with
    | none => cases hk
    | some a => simp at hk; subst hk; exact ⟨(h.hs.lt a rfl).1, h.xs_ a rfl⟩
  · exact (KeepR.grown hg (fun g q e => own_not_R h.hs t5 g q e)).trans (KeepR.setCell (blk_not_R b3 t6) _)
theorem RfX.storeSet {g k b' : Nat} {y : Option Addr × Nat × Nat} {l : List (Int × Int)} (h : RfX w base p x An nn cn (some ⟨g, 0, none⟩) ns cs xs N S) (hk : k < ns) (ho : Own w b' 211 2 y.1 y.2.1 y.2.2 (l.map encR)) (hb : base ≤ b') :
    RfX (w.setCell ⟨g, k, none⟩ (.slice y.1 y.2.1 y.2.2)) base p x An nn cn (some ⟨g, 0, none⟩) ns cs (xs.set k y) N (S.set k l) ∧ KX base x w (w.setCell ⟨g, k, none⟩ (.slice y.1 y.2.1 y.2.2)) := by
  obtain ⟨t1, t2, t3, t4, t5, t6⟩ := types_rf
  have hgp : g ≠ p := h.hs.off h.blk t3 _ rfl
  refine ⟨⟨h.blk.far (p := ⟨g, k, none⟩) (Ne.symm hgp) _, h.pb, ?_, ?_, ?_, h.xp, h.xn, h.xs_⟩, KX.setCell w (q := ⟨g, k, none⟩) (h.hs.lt _ rfl).1 (h.xs_ ⟨g, 0, none⟩ rfl) _⟩
  · exact h.hn.setCell (p := ⟨g, k, none⟩) (fun a ha e => h.hn.apart h.hs t1 a ⟨g, 0, none⟩ ha rfl e) _
  · exact h.hs.storedSl (by rw [h.lenS.1]; exact hk) y
  · refine Sets.set_ (h.hx.setCell (q := ⟨g, k, none⟩) (fun r => own_not_R h.hs t5 g r rfl) _) ?_
    exact (ho.setCell (p := ⟨g, k, none⟩) (fun a ha e => ho.apart h.hs (Ne.symm t5) a ⟨g, 0, none⟩ ha rfl e) _).more hb
end
end Go.Proofs.YtdngkienloligaaGreatDoor

/- -/
namespace Go.Proofs.YtdngkienloligaaGreatDoor
open Go Go.RowKit
section
variable {P : Program} {Q : Exit → Act → World → Prop} {md : Region.Mode}
def lastSink (md : Region.Mode) (l : List Oper) : Bool :=
  (List.range (l.length - 1)).all fun i => (List.range l.length).any fun j => decide (i < j) && ((l[j]?).map fun o => o.after.any fun e => Region.binds md e && e.on == i).getD false
def lastDown (md : Region.Mode) (l : List Oper) : Bool :=
  (List.range l.length).all fun j => ((l[j]?).map fun o => o.guard.isNone && o.after.all fun e => !Region.binds md e || decide (e.on < j)).getD true
theorem lastSink_spec {l : List Oper} (h : lastSink md l = true) {i : Nat} (hi : i < l.length - 1) : ∃ j o, i < j ∧ l[j]? = some o ∧ ∃ e ∈ o.after, Region.binds md e = true ∧ e.on = i := by
  unfold lastSink at h
  rw [List.all_eq_true] at h
  have h1 := h i (List.mem_range.2 hi)
  rw [List.any_eq_true] at h1
  obtain ⟨j, _, h2⟩ := h1
  rw [Bool.and_eq_true, decide_eq_true_eq] at h2
  obtain ⟨h3, h4⟩ := h2
  cases ho : l[j]? with
  | none => rw [ho] at h4; cases h4
  | some o =>
    rw [ho] at h4
    simp only [Option.map_some, Option.getD_some, Array.any_eq_true] at h4
    obtain ⟨k, hk, h5⟩ := h4
    simp only [Bool.and_eq_true, beq_iff_eq] at h5
    exact ⟨j, o, h3, ho, _, Array.getElem_mem hk, h5.1, h5.2⟩
theorem lastDown_spec {l : List Oper} (h : lastDown md l = true) {j : Nat} {o : Oper} (hj : l[j]? = some o) : o.guard = none ∧ ∀ e ∈ o.after, Region.binds md e = true → e.on < j := by
  unfold lastDown at h
  rw [List.all_eq_true] at h
  have h1 := h j (List.mem_range.2 (List.getElem?_eq_some_iff.1 hj).1)
  rw [hj] at h1
  simp only [Option.map_some, Option.getD_some, Bool.and_eq_true, Option.isNone_iff_eq_none] at h1
  refine ⟨h1.1, fun e he hb => ?_⟩
  have h2 := Array.all_eq_true_iff_forall_mem.1 h1.2 e he
  rw [hb] at h2
  simpa using h2
structure SameHead (md : Region.Mode) (l : List Oper) (L L' : Array Bool) : Prop where
  size : L.size = l.length
  size' : L'.size = l.length - 1
  same : ∀ i, i < l.length - 1 → ∀ d, L.getD i d = L'.getD i d
  inv : ∀ (j : Nat) (o : Oper), l[j]? = some o → L.getD j false = true → ∀ e ∈ o.after, Region.binds md e = true → L.getD e.on false = true
  last : L.getD (l.length - 1) false = false
theorem head_get {l : List Oper} {i : Nat} (h : i < l.length - 1) : (l.dropLast.toArray)[i]? = l[i]? := by
  rw [List.getElem?_toArray, List.getElem?_dropLast, if_pos h]
theorem SameHead.ready {l : List Oper} {L L' : Array Bool} (h : SameHead md l L L') (hd : lastDown md l = true) {i : Nat} (hi : i < l.length - 1) : i ∈ Region.ready md l.toArray L ↔ i ∈ Region.ready md l.dropLast.toArray L' := by
  rw [mem_ready, mem_ready, head_get hi, List.getElem?_toArray, h.same i hi]
  constructor
  · rintro ⟨h0, o, ho, h1⟩
    exact ⟨h0, o, ho, fun e he hb => by rw [← h.same e.on (by have := (lastDown_spec hd ho).2 e he hb; omega)]; exact h1 e he hb⟩
  · rintro ⟨h0, o, ho, h1⟩
    exact ⟨h0, o, ho, fun e he hb => by rw [h.same e.on (by have := (lastDown_spec hd ho).2 e he hb; omega)]; exact h1 e he hb⟩
theorem SameHead.all {l : List Oper} {L L' : Array Bool} (h : SameHead md l L L') (hs : lastSink md l = true) (hr : l.length - 1 ∈ Region.ready md l.toArray L) : ∀ (k i : Nat), i < l.length - 1 → l.length - 1 ≤ i + k → L.getD i false = true
  | 0, i, hi, hk => by omega
  | k + 1, i, hi, hk => by
    obtain ⟨j, o, hij, ho, e, he, hb, rfl⟩ := lastSink_spec hs hi
    have hjl := (List.getElem?_eq_some_iff.1 ho).1
    by_cases hj : j = l.length - 1
    · obtain ⟨_, o', ho', hall⟩ := mem_ready.1 hr
      rw [List.getElem?_toArray, ← hj, ho] at ho'
      injection ho' with ho'; subst ho'
      exact hall e he hb
    · exact h.inv j o ho (h.all hs hr k j (by omega) (by omega)) e he hb
theorem SameHead.step {l : List Oper} {L L' : Array Bool} (h : SameHead md l L L') {i : Nat} (hi : i < l.length - 1) (hr : i ∈ Region.ready md l.toArray L) : SameHead md l (L.setIfInBounds i true) (L'.setIfInBounds i true) := by
  refine ⟨by simpa using h.size, by simpa using h.size', fun k hk d => ?_, fun j o ho hj e he hb => ?_, by rw [getD_set_ne false (by omega)]; exact h.last⟩
  · by_cases e : i = k
    · subst e; simp [h.size, h.size', hk, show i < l.length by omega]
    · rw [getD_set_ne d e, getD_set_ne d e]; exact h.same k hk d
  · by_cases e1 : i = j
    · subst e1
      obtain ⟨_, o', ho', hall⟩ := mem_ready.1 hr
      rw [List.getElem?_toArray, ho] at ho'
      injection ho' with ho'; subst ho'
      exact getD_set_true (hall e he hb)
    · rw [getD_set_ne false e1] at hj
      exact getD_set_true (h.inv j o ho hj e he hb)
end
end Go.Proofs.YtdngkienloligaaGreatDoor

/- -/
namespace Go.Proofs.YtdngkienloligaaGreatDoor
open Go.RowKit Go.Maps
structure Byt (w : World) (b : Nat) (L : List UInt8) : Prop where
  cell : ∀ j (h : j < L.length), w.cell? ⟨b, j, none⟩ = some (.int .u8 ((L[j]'h).toNat : Int))
  free : ∀ j, j < L.length → w.frozen? ⟨b, j, none⟩ = false
theorem Byt.set_ {w : World} {b : Nat} {L : List UInt8} (h : Byt w b L) {i : Nat} (hi : i < L.length) (c : UInt8) (v : Int) (hv : v = (c.toNat : Int)) : Byt (w.setCell ⟨b, i, none⟩ (.int .u8 v)) b (L.set i c) := by
  subst hv
  refine ⟨fun j hj => ?_, fun j hj => ?_⟩
  · rw [List.length_set] at hj
    by_cases e : i = j
    · subst e
      rw [World.cell?_setCell_same _ _ _ (h.cell i hi)]; simp
    · rw [World.cell?_setCell_other _ _ _ _ (fun k => e (by injection k)), h.cell j hj]; simp [List.getElem_set_ne e]
  · rw [List.length_set] at hj
    rw [World.frozen?_setCell]; exact h.free j hj
end Go.Proofs.YtdngkienloligaaGreatDoor

/- -/
namespace Go.Proofs.YtdngkienloligaaGreatDoor
open Go.RowKit Go.Maps
end Go.Proofs.YtdngkienloligaaGreatDoor

/- -/
namespace Go.Proofs.YtdngkienloligaaGreatDoor
open Go.RowKit Go.Maps
end Go.Proofs.YtdngkienloligaaGreatDoor

/- -/
namespace Go.Proofs.YtdngkienloligaaGreatDoor
open Go.RowKit
section
variable {g : Nat → Nat} {n : Nat}
end
end Go.Proofs.YtdngkienloligaaGreatDoor

/- -/
namespace Go.Proofs.YtdngkienloligaaGreatDoor
open Go.RowKit Go.Maps
end Go.Proofs.YtdngkienloligaaGreatDoor

/- -/
namespace Go.Proofs.YtdngkienloligaaGreatDoor
open Go.RowKit Go.Maps
end Go.Proofs.YtdngkienloligaaGreatDoor

/- -/
namespace Go.Proofs.YtdngkienloligaaGreatDoor
open Go.RowKit Go.Maps
end Go.Proofs.YtdngkienloligaaGreatDoor

/- -/
namespace Go.Proofs.YtdngkienloligaaGreatDoor
open Go.RowKit Go.Maps
end Go.Proofs.YtdngkienloligaaGreatDoor

/- -/
namespace Go.Proofs.YtdngkienloligaaGreatDoor
open Go.RowKit Go.Maps
end Go.Proofs.YtdngkienloligaaGreatDoor

/- -/
namespace Go.Proofs.YtdngkienloligaaGreatDoor
open Go.RowKit Go.Maps
end Go.Proofs.YtdngkienloligaaGreatDoor

/- -/
namespace Go.Proofs.YtdngkienloligaaGreatDoor
section
variable {A B : List Int}
end
end Go.Proofs.YtdngkienloligaaGreatDoor

/- -/
namespace Go.Proofs.YtdngkienloligaaGreatDoor
end Go.Proofs.YtdngkienloligaaGreatDoor

/- -/
namespace Go.Proofs.YtdngkienloligaaGreatDoor
end Go.Proofs.YtdngkienloligaaGreatDoor

/- -/
namespace Go.Proofs.YtdngkienloligaaGreatDoor
open Go.RowKit
structure ScM (w : World) (t : TypeId) (B base bt bi : Nat) (s : ByteArray) (q : Nat) (tl : List Value) (A1 : Option Addr) (n1 c1 : Nat) (A2 : Option Addr) (n2 c2 : Nat) (P : List Nat) (C : List Int) : Prop where
  blk : Blk w bt t (Value.slice A1 n1 c1 :: Value.slice A2 n2 c2 :: tl).toArray
  it : w.heap[bi]? = some (.stringIter s q)
  o1 : Own w base 3 1 A1 n1 c1 (P.map encN)
  o2 : Own w base 3 1 A2 n2 c2 (C.map encZ)
  ne : ∀ a b, A1 = some a → A2 = some b → a.block ≠ b.block
  lt : B ≤ bt ∧ bt < base ∧ B ≤ bi ∧ bi < base ∧ bt ≠ bi ∧ base ≤ w.heap.size
section
variable {w w' : World} {t : TypeId} {B base bt bi : Nat} {s : ByteArray} {q : Nat} {tl : List Value} {A1 : Option Addr} {n1 c1 : Nat} {A2 : Option Addr} {n2 c2 : Nat} {P : List Nat} {C : List Int}
theorem ScM.below (h : ScM w t B base bt bi s q tl A1 n1 c1 A2 n2 c2 P C) (hb : Below w.heap.size w w') : ScM w' t B base bt bi s q tl A1 n1 c1 A2 n2 c2 P C :=
  ⟨h.blk.below hb, (hb.block _ (Array.getElem?_eq_some_iff.1 h.it).1).trans h.it, h.o1.below hb, h.o2.below hb, h.ne, ⟨h.lt.1, h.lt.2.1, h.lt.2.2.1, h.lt.2.2.2.1, h.lt.2.2.2.2.1, Nat.le_trans h.lt.2.2.2.2.2 hb.size⟩⟩
theorem ScM.iterAt (h : ScM w t B base bt bi s q tl A1 n1 c1 A2 n2 c2 P C) (k : Nat) : ScM (w.iterAt bi s k) t B base bt bi s k tl A1 n1 c1 A2 n2 c2 P C := by
  have hl := h.lt
  have hsame : ∀ b, b ≠ bi → (w.iterAt bi s k).heap[b]? = w.heap[b]? := fun b hne => Lib.iterAt_other w bi b s k hne
  refine ⟨(hsame bt hl.2.2.2.2.1).trans h.blk, Lib.iterAt_heap w bi s q k h.it, h.o1.keep fun a ha => hsame _ ?_, h.o2.keep fun a ha => hsame _ ?_, h.ne, ?_⟩
  · have := (h.o1.lt a ha).1; omega
  · have := (h.o2.lt a ha).1; omega
  · rw [Lib.iterAt_size]; exact hl
end
end Go.Proofs.YtdngkienloligaaGreatDoor

/- -/
namespace Go.Proofs.YtdngkienloligaaGreatDoor
end Go.Proofs.YtdngkienloligaaGreatDoor

/- -/
namespace Go.Proofs.YtdngkienloligaaGreatDoor
open Go.RowKit
end Go.Proofs.YtdngkienloligaaGreatDoor

/- -/
namespace Go.Proofs.YtdngkienloligaaGreatDoor
theorem lastStart_eq (l : List UInt8) : Lib.lastStart l = if l.length < 2 then 0 else if Lib.runeStartB (l.getD (l.length - 2) 0) = true then l.length - 2 else if l.length < 3 then 0 else if Lib.runeStartB (l.getD (l.length - 3) 0) = true then l.length - 3 else if l.length < 4 then 0 else if Lib.runeStartB (l.getD (l.length - 4) 0) = true then l.length - 4 else if l.length < 5 then 0 else l.length - 5 := rfl
theorem start_iff (b : UInt8) : Lib.runeStartB b = true ↔ b.toNat / 64 ≠ 2 := by unfold Lib.runeStartB; simp
theorem dec_drop (s : ByteArray) (k : Nat) : Lib.decodeL (s.data.toList.drop k) = Utf8.decode s k := by
  unfold Lib.decodeL
  have h := Lib.tail_decode s k 0
  rw [Nat.add_zero] at h
  rw [← h]
  congr 1
  have : (s.extract k s.size).data.toList = s.data.toList.drop k := by
    rw [ByteArray.data_extract, Array.toList_extract, List.extract_eq_take_drop, List.take_of_length_le (by rw [List.length_drop, size_data]; exact Nat.le_refl _)]
  rw [← this]
theorem last_rune (s : ByteArray) {x : Nat × Nat × Nat} (hx : x ∈ runesP s) (he : x.2.2 = s.size) : Lib.decodeLastL s.data.toList = (x.1, x.2.2 - x.2.1) := by
  have hb := runesP_bd x hx
  have hd := runesGo_dec _ _ x hx
  have hsz := size_data s
  have hget : ∀ k, s.data.toList.getD k 0 = s.get! k := fun k => Lib.getD_get!' s k
  have hne : s.data.toList ≠ [] := fun h => by rw [h] at hsz; simp at hsz; omega
  -- no other rune ends there
  have huniq : ∀ y ∈ runesP s, y.2.1 < s.size → x.2.1 ≤ y.2.1 → y.2.1 = x.2.1 := fun y hy h1 h2 => by
    rcases Nat.lt_or_ge x.2.1 y.2.1 with h3 | h3
    · exact absurd ⟨h3, by omega⟩ (place_gap s _ 0 s.size (runesP_contig s) x hx y hy)
    · omega
  unfold Lib.decodeLastL
  rw [if_neg hne, hsz, hget]
  by_cases hasc : (s.get! (s.size - 1)).toNat < 128
  · rw [if_pos hasc]
    obtain ⟨y, hy, e⟩ := ascii_at s (z := s.size - 1) (by omega) hasc s.size 0 (by omega) (Nat.zero_le _)
    have := huniq y hy (by omega) (by omega)
    have hp : x.2.1 = s.size - 1 := by omega
    rw [hp, Lib.decode_at] at hd
    unfold Lib.decodeN at hd
    rw [if_pos hasc] at hd
    rw [hp, ← hd]
  · rw [if_neg hasc]
    have hst : Lib.lastStart s.data.toList < s.size ∧ (Lib.lastStart s.data.toList + 1 = s.size → s.size = 1) := by
      rw [lastStart_eq, hsz]
      repeat' split
      all_goals omega
    rw [dec_drop s _]
    simp only
    rcases Nat.lt_or_ge (x.2.2 - x.2.1) 2 with hW | hW
    · -- one byte
      have hp : x.2.1 = s.size - 1 := by omega
      have hW1 : x.2.2 - x.2.1 = 1 := by omega
      have hR : x.1 = 65533 := by
        rw [hW1, hp, Lib.decode_at] at hd
        unfold Lib.decodeN at hd
        rw [if_neg hasc] at hd
        repeat' split at hd
        all_goals (injection hd with h1 h2; omega)
      obtain ⟨⟨R', W'⟩, hD⟩ : ∃ d, Utf8.decode s (Lib.lastStart s.data.toList) = d := ⟨_, rfl⟩
      have hbd := dec_bd s _ hst.1
      rw [hD] at hbd ⊢
      simp only at hbd ⊢
      split
      · rename_i hsum
        rcases Nat.lt_or_ge W' 2 with h1 | h1
        · have h0 : Lib.lastStart s.data.toList = x.2.1 := by have := hst.2 (by omega); omega
          rw [h0, hd] at hD
          exact hD.symm
        · exfalso
          have hl := dec_lead hD h1
          obtain ⟨y, hy, e⟩ := lead_at s hst.1 (by omega) s.size 0 (by omega) (Nat.zero_le _)
          have hdy := runesGo_dec _ _ y hy
          rw [e, hD] at hdy
          injection hdy with _ h2
          have hby := runesP_bd y hy
          exact place_gap s _ 0 s.size (runesP_contig s) y hy x hx (by omega)
      · rw [hR, hW1]; rfl
    · -- several bytes
      have hl := dec_lead hd hW
      have htail : ∀ k, 0 < k → k < x.2.2 - x.2.1 → ¬ Lib.runeStartB (s.data.toList.getD (x.2.1 + k) 0) = true := fun k h0 h1 => by
        rw [start_iff, hget]
        have := dec_tail hd h0 h1
        omega
      have hlead : Lib.runeStartB (s.data.toList.getD x.2.1 0) = true := by rw [start_iff, hget]; omega
      have hls : Lib.lastStart s.data.toList = x.2.1 := by
        rw [lastStart_eq, hsz]
        rcases (show x.2.2 - x.2.1 = 2 ∨ x.2.2 - x.2.1 = 3 ∨ x.2.2 - x.2.1 = 4 by omega) with h | h | h
        · rw [if_neg (by omega), show s.size - 2 = x.2.1 by omega, if_pos hlead]
        · rw [if_neg (by omega), show s.size - 2 = x.2.1 + 1 by omega, if_neg (htail 1 (by omega) (by omega)), if_neg (by omega), show s.size - 3 = x.2.1 by omega, if_pos hlead]
        · rw [if_neg (by omega), show s.size - 2 = x.2.1 + 2 by omega, if_neg (htail 2 (by omega) (by omega)), if_neg (by omega), show s.size - 3 = x.2.1 + 1 by omega, if_neg (htail 1 (by omega) (by omega)), if_neg (by omega), show s.size - 4 = x.2.1 by omega, if_pos hlead]
      rw [hls, hd, if_pos (by simp only; omega)]
end Go.Proofs.YtdngkienloligaaGreatDoor

/- -/
namespace Go.Proofs.YtdngkienloligaaGreatDoor
open Go.RowKit
def lBl (c : Int) : Bool := c == 4 || c == 1 || c == 2 || c == 3 || c == 5
def trR (g : Int → Nat) (l : List (Nat × Nat × Nat)) : Nat := (((l.reverse.dropWhile fun x => lBl (g (x.1 : Int))).head?).map (·.2.2)).getD 0
def trailP (g : Int → Nat) (s : ByteArray) : Nat := trR g (runesP s)
theorem trR_snoc (g : Int → Nat) (l : List (Nat × Nat × Nat)) (x : Nat × Nat × Nat) : trR g (l ++ [x]) = if lBl (g (x.1 : Int)) then trR g l else x.2.2 := by
  unfold trR
  rw [List.reverse_append, List.reverse_singleton, List.singleton_append, List.dropWhile_cons]
  split <;> rfl
theorem takeWhile_snoc {l : List (Nat × Nat × Nat)} {x : Nat × Nat × Nat} (h : (l ++ [x]).Pairwise fun a b => a.2.1 < b.2.1) : (l ++ [x]).takeWhile (fun y => decide (y.2.1 < x.2.1)) = l := by
  rw [List.pairwise_append] at h
  rw [List.takeWhile_append_of_pos fun a ha => decide_eq_true (h.2.2 a ha x (by simp))]
  simp
theorem contig_last : ∀ {l : List (Nat × Nat × Nat)} {a z : Nat} {x : Nat × Nat × Nat}, Contig a (l ++ [x]) z → x.2.2 = z
  | [], _, _, _, h => h.2.2
  | _ :: l, _, _, _, h => contig_last (l := l) h.2.2
theorem trail_step (g : Int → Nat) (t : ByteArray) (h : 0 < t.size) : ∃ r w : Nat, Lib.decodeLastL t.data.toList = (r, w) ∧ 1 ≤ w ∧ w ≤ t.size ∧ trailP g t = if lBl (g (r : Int)) then trailP g (t.extract 0 (t.size - w)) else t.size := by
  have hne : runesP t ≠ [] := fun e => by
    obtain ⟨k, hk, e2⟩ := runesGo_step (s := t) (f := t.size) (a := 0) h (by omega)
    unfold runesP at e
    rw [e] at e2
    cases e2
  rcases List.eq_nil_or_concat (runesP t) with e | ⟨l, x, e⟩
  · exact absurd e hne
  · rw [List.concat_eq_append] at e
    have hx : x ∈ runesP t := by rw [e]; simp
    have hend : x.2.2 = t.size := by
      have hc := runesP_contig t
      rw [e] at hc
      exact contig_last hc
    have hb := runesP_bd x hx
    have hr := runes_rise' t
    have hp := runesP_prefix t (z := x.2.1) (by omega) (.inr (.inr ⟨x, hx, rfl⟩))
    rw [e] at hr hp
    rw [takeWhile_snoc hr] at hp
    refine ⟨x.1, x.2.2 - x.2.1, last_rune t hx hend, by omega, by omega, ?_⟩
    rw [show t.size - (x.2.2 - x.2.1) = x.2.1 by omega]
    unfold trailP
    rw [hp, e, trR_snoc, hend]
set_option maxHeartbeats 1000000 in
theorem eLast_any (s : ByteArray) (w : World) (hT : Tabs w) (h0 : 0 < s.size) (hs : s.size ≤ 1000000) :
    Calls Tryz.prog 21 #[.string s] w fun e w' => e = .returned (.tuple #[.int .i32 (Lib.decodeLastL s.data.toList).1, .int .i64 (Lib.decodeLastL s.data.toList).2]) ∧ Below w.heap.size w w' := by
  have HC := Lib.hid (Tryz.utf8_DecodeLastRuneInString s w (by omega) hT)
  have hem : s.toList.isEmpty = false := by
    rw [ByteArray.toList_eq]
    cases hq : s.data.toList with
    | nil => rw [← size_data, hq] at h0; simp at h0
    | cons a b => rfl
  obtain ⟨r, hr⟩ : ∃ r, Lib.decodeLastL s.data.toList = r := ⟨_, rfl⟩
  rw [hr] at HC ⊢
  clear hr
  go_enter Tryz.func21, Tryz.ntmps21
  go_wp2_with fail
  refine HC.out.mono ?_
  rintro e w1 ⟨rfl, hb⟩
  go_wp2
  go_ret2
  exact ⟨rfl, hb⟩
end Go.Proofs.YtdngkienloligaaGreatDoor

/- -/
namespace Go.Proofs.YtdngkienloligaaGreatDoor
open Go.RowKit
end Go.Proofs.YtdngkienloligaaGreatDoor

/- -/
namespace Go.Proofs.YtdngkienloligaaGreatDoor
open Go.RowKit Go.Shelf
attribute [local go_sem] Oper.semAt_some
structure Mid (m n : Nat) (W W' : World) : Prop where
  size : W.heap.size ≤ W'.heap.size
  block : ∀ k, m ≤ k → k < n → W'.heap[k]? = W.heap[k]?
theorem Mid.refl (m n : Nat) (W : World) : Mid m n W W := ⟨Nat.le_refl _, fun _ _ _ => rfl⟩
theorem Mid.trans {m n : Nat} {A B C : World} (h : Mid m n A B) (k : Mid m n B C) : Mid m n A C := ⟨Nat.le_trans h.size k.size, fun i h1 h2 => (k.block i h1 h2).trans (h.block i h1 h2)⟩
theorem Mid.of_below {m n : Nat} {A B : World} (h : RowKit.Below A.heap.size A B) (hn : n ≤ A.heap.size) : Mid m n A B := ⟨h.size, fun i _ h2 => h.block i (by omega)⟩
theorem Mid.setCell {m n : Nat} {A B : World} (h : Mid m n A B) {p : Addr} (hp : p.block < m ∨ n ≤ p.block) (u : Value) : Mid m n A (B.setCell p u) :=
  ⟨by simpa [World.setCell] using h.size, fun i h1 h2 => (Below.heap_setCell B p u i (by omega)).trans (h.block i h1 h2)⟩
theorem Mid.alloc {m n : Nat} {A B : World} (h : Mid m n A B) (hn : n ≤ B.heap.size) (o : Obj) : Mid m n A (B.alloc o) := h.trans (Mid.of_below ((RowKit.Below.refl _ _).alloc (Nat.le_refl _) o) hn)
theorem Mid.drewN {m n : Nat} {A B : World} (h : Mid m n A B) (q : Nat) : Mid m n A (B.drewN q) := ⟨h.size, h.block⟩
theorem Mid.cell {m n : Nat} {A B : World} (h : Mid m n A B) {p : Addr} {v : Value} (hv : A.cell? p = some v) (h1 : m ≤ p.block) (h2 : p.block < n) : B.cell? p = some v :=
  (World.cell?_of_block (h.block p.block h1 h2)).trans hv
theorem Rd.mid {m n s : Nat} {w w' : World} {A : Option Addr} {cs : List (List Value)} (h : Rd w s A cs) (hb : Mid m n w w') (hA : ∀ a, A = some a → m ≤ a.block ∧ a.block < n) : Rd w' s A cs :=
  h.keep fun b off i _ ha hp => hb.cell (p := ⟨b, i, none⟩) hp (hA ⟨b, off, none⟩ ha).1 (hA ⟨b, off, none⟩ ha).2
def Kp (m n : Nat) (W W' : World) : Prop := Mid m n W W' ∧ KeepsWalks W W'
theorem Kp.trans {m n : Nat} {A B C : World} (h : Kp m n A B) (k : Kp m n B C) : Kp m n A C := ⟨h.1.trans k.1, h.2.trans k.2⟩
theorem Kp.put {m n : Nat} {w : World} (hn : n ≤ w.heap.size) (W : World) (l : Nat) (o o' : Obj) (hl : w.heap.size ≤ l) (h : W.heap[l]? = some o) (hc : o.isCells = false) (hw : o.isWalk = false) : Kp m n W (W.putObj l o') :=
  ⟨⟨by simp, fun k _ hk => World.putObj_heap_other (by omega)⟩, walksK_b W l o o' hl h hc hw⟩
theorem Kp.refl (m n : Nat) (W : World) : Kp m n W W := ⟨Mid.refl _ _ _, KeepsWalks.refl _⟩
theorem grown_of_below {w w' : World} (h : RowKit.Below w.heap.size w w') : w.grownBy w' none := ⟨h.os, h.tape, h.output, h.size, fun k hk _ => h.block k hk⟩
theorem grown_iterAt (w : World) (k : Nat) (s : ByteArray) (p : Nat) : w.grownBy (w.iterAt k s p) (some k) :=
  ⟨rfl, rfl, rfl, by rw [Lib.iterAt_size]; exact Nat.le_refl _, fun j _ hj => Lib.iterAt_other w k j s p (fun e => hj (by rw [e]))⟩
theorem abides_below {β : Type} {B : Nat} {J : β → World → Prop} (h : AbidesFrom B J) {x : β} {w w' : World} (hx : J x w) (hb : RowKit.Below w.heap.size w w') : J x w' := h x w w' none hx (grown_of_below hb) (fun _ e => by cases e)
theorem abides_iterAt {β : Type} {B : Nat} {J : β → World → Prop} (h : AbidesFrom B J) {x : β} {w : World} (hx : J x w) {k : Nat} {s : ByteArray} {p : Nat} (hk : w.heap[k]? = some (.stringIter s p)) (hB : B ≤ k) (p' : Nat) : J x (w.iterAt k s p') :=
  h x w _ (some k) hx (grown_iterAt w k s p') (fun r e => by cases e; exact ⟨hB, _, hk, rfl⟩)
section
variable {s : ByteArray} {set : List (Int × Int)} {f p : Nat} {cur : Option Nat} {pre : List (Nat × Nat)} {R W : Nat}
end
def RunsIt (w : World) (s : ByteArray) (set : List (Int × Int)) (m bs bset : Nat) : Prop :=
  ∃ A na ca, w.cell? ⟨bs, 0, none⟩ = some (.string s) ∧ w.cell? ⟨bset, 0, none⟩ = some (.slice A na ca) ∧ Rd w 2 A (set.map encR) ∧ set.length = na ∧ na ≤ 4000000 ∧ m ≤ bs ∧ m ≤ bset ∧ ∀ a, A = some a → m ≤ a.block ∧ a.block < w.heap.size
theorem RunsIt.lt {w : World} {s : ByteArray} {set : List (Int × Int)} {m bs bset : Nat} (h : RunsIt w s set m bs bset) : m ≤ w.heap.size := by
  obtain ⟨A, na, ca, h1, _, _, _, _, h6, _⟩ := h
  have := cell_lt h1; simp at this; omega
theorem RunsIt.more {w : World} {s : ByteArray} {set : List (Int × Int)} {m m' bs bset : Nat} (h : RunsIt w s set m bs bset) (hm : m' ≤ m) : RunsIt w s set m' bs bset := by
  obtain ⟨A, na, ca, h1, h2, h3, h4, h5, h6, h7, h8⟩ := h
  exact ⟨A, na, ca, h1, h2, h3, h4, h5, by omega, by omega, fun a ha => ⟨by have := (h8 a ha).1; omega, (h8 a ha).2⟩⟩
theorem not_row {w : World} {row : Option Nat} {b : Nat} {o : Obj} (hb : w.heap[b]? = some o) (hc : o.isCells = true) (hr : ∀ r, row = some r → ∃ o : Obj, w.heap[r]? = some o ∧ o.isCells = false) : some b ≠ row := by
  rintro rfl
  obtain ⟨o', h1, h2⟩ := hr b rfl
  rw [hb] at h1; cases h1; rw [hc] at h2; cases h2
theorem Blk.kept {w w' : World} {row : Option Nat} {g : Nat} {t : TypeId} {cs : Array Value} (h : Blk w g t cs) (hg : w.grownBy w' row) (hr : ∀ r, row = some r → ∃ o : Obj, w.heap[r]? = some o ∧ o.isCells = false) : Blk w' g t cs := h.grown hg (not_row h rfl hr)
theorem RunsIt.mid {w w' : World} {s : ByteArray} {set : List (Int × Int)} {m bs bset : Nat} (h : RunsIt w s set m bs bset) (hb : Mid m w.heap.size w w') : RunsIt w' s set m bs bset := by
  obtain ⟨A, na, ca, h1, h2, h3, h4, h5, h6, h7, h8⟩ := h
  exact ⟨A, na, ca, hb.cell h1 h6 (cell_lt h1), hb.cell h2 h7 (cell_lt h2), h3.mid hb h8, h4, h5, h6, h7, fun a ha => ⟨(h8 a ha).1, Nat.lt_of_lt_of_le (h8 a ha).2 hb.size⟩⟩
theorem RunsIt.below {w w' : World} {s : ByteArray} {set : List (Int × Int)} {m bs bset : Nat} (h : RunsIt w s set m bs bset) (hb : RowKit.Below w.heap.size w w') : RunsIt w' s set m bs bset := h.mid (Mid.of_below hb (Nat.le_refl _))
end Go.Proofs.YtdngkienloligaaGreatDoor

/- -/
namespace Go.Proofs.YtdngkienloligaaGreatDoor
open Go.RowKit Go.Shelf
attribute [local go_sem] Oper.semAt_some
def encU (x : Nat × Nat × Nat) : Array Value := #[.int .i64 (x.2.1 : Nat), .int .i32 (x.1 : Nat)]
def UAt (s : ByteArray) (f p : Nat) (pre : List (Nat × Nat × Nat)) : Prop := pre ++ runesGo s f p = runesP s ∧ s.size ≤ p + f ∧ p ≤ s.size
theorem uAt_first (s : ByteArray) : UAt s s.size 0 [] := ⟨rfl, by omega, by omega⟩
theorem uAt_next {s : ByteArray} {f p R W : Nat} {pre : List (Nat × Nat × Nat)} (h : UAt s f p pre) (hp : p < s.size) (hd : Utf8.decode s p = (R, W)) (hw : 1 ≤ W ∧ p + W ≤ s.size) : ∃ g, UAt s g (p + W) (pre ++ [(R, p, p + W)]) := by
  obtain ⟨g, rfl, hg⟩ := runesGo_step (s := s) (f := f) hp h.2.1
  rw [hd] at hg
  exact ⟨g, by rw [← h.1, hg]; simp, by have := h.2.1; omega, hw.2⟩
theorem uAt_pre {s : ByteArray} {f p : Nat} {pre : List (Nat × Nat × Nat)} (h : UAt s f p pre) : pre <+: runesP s := ⟨_, h.1⟩
theorem uAt_end {s : ByteArray} {f p : Nat} {pre : List (Nat × Nat × Nat)} (h : UAt s f p pre) (hp : ¬ p < s.size) : pre = runesP s := by
  have := h.1
  rw [runesGo_end (by omega), List.append_nil] at this
  exact this
set_option maxRecDepth 100000 in
theorem uEach_any (s : ByteArray) (w : World) : Calls Tryz.prog 78 #[.string s] w fun e w' => ∃ bs, e = .returned (.func (.func 127) #[] #[.pointer (some ⟨bs, 0, none⟩)]) ∧ w'.cell? ⟨bs, 0, none⟩ = some (.string s) ∧ RowKit.Below w.heap.size w w' := by
  have hmf : ∀ (fn : Fn) (first cap : Array Value) (w : World), (Instr.makeFunc fn first cap).run Tryz.prog w = .ok (.func fn first cap) w := fun _ _ _ _ => rfl
  go_enter Tryz.func78, Tryz.ntmps78
  go_wp2
  go_ret
  exact ⟨_, rfl, (Blk.new w 9 #[.string s]).cell 0, (RowKit.Below.refl _ _).alloc (Nat.le_refl _) _⟩
set_option maxRecDepth 100000 in
set_option maxHeartbeats 1000000 in
theorem uEach_stops (n : Nat) (hn : 1 ≤ n) (w : World) (s : ByteArray) (bs : Nat) (h : w.cell? ⟨bs, 0, none⟩ = some (.string s)) :
    SeqStopsK Fence.wide n Tryz.prog 127 #[.pointer (some ⟨bs, 0, none⟩)] encU KeepsWalks (fun ys => ys = runesP s) (fun pre => pre <+: runesP s) (runesP s).length w := by
  intro l J Jx W hW hJ _ hY h0
  have hc1 : W.cell? ⟨bs, 0, none⟩ = some (.string s) := cell_keep h hW
  refine callsIn_of_wp Tryz.func127 rfl trivial ?_ rfl
  simp only [Tryz.ntmps127, List.size_toArray, List.length_cons, List.length_nil, Nat.reduceAdd, Nat.reduceSub, Array.replicate_succ, Array.replicate_zero, List.push_toArray, List.append_toArray, List.nil_append, List.cons_append]
  gi_wp2
  gi_loopw [3] (fun _ wr => ∃ (f p : Nat) (pre : List (Nat × Nat × Nat)), Hid (UAt s f p pre) ∧ J pre wr ∧ wr.heap[W.heap.size]? = some (.stringIter s p))
    (fun _ wr => s.size - wr.iterPos W.heap.size)
  case atStart => exact ⟨s.size, 0, [], uAt_first s, abides_below hJ h0 (below_iter (RowKit.Below.refl _ _) (Nat.le_refl _) _ _), iter_new _ _ _⟩
  case round =>
    obtain ⟨f, p, pre, HA, hJs, hit⟩ := hrel
    have Hpos := Lib.hid (iterPos_of hit)
    by_cases hp : p < s.size
    · obtain ⟨⟨R, Wd⟩, hD0⟩ : ∃ d, Utf8.decode s p = d := ⟨_, rfl⟩
      have hd := dec_bd s p hp
      have hnx : ∀ ty, (Instr.next (.pointer (some ⟨W.heap.size, 0, none⟩)) true ty).run Tryz.prog wr = _ := fun ty => Lib.run_next_any_at wr W.heap.size s p ty hit hp
      have hit2 := Lib.iterAt_heap wr W.heap.size s p (p + (Utf8.decode s p).2) hit
      have hJ2 := abides_iterAt hJ hJs hit (Nat.le_refl _) (p + (Utf8.decode s p).2)
      rw [hD0] at hd hnx hit2 hJ2
      simp only at hd hnx hit2 hJ2
      obtain ⟨g, hg⟩ := uAt_next HA.out hp hD0 ⟨hd.1, hd.2.2.1⟩
      have Hg := Lib.hid hg
      have hlen : pre.length < (runesP s).length := by have := (uAt_pre hg).length_le; rw [List.length_append, List.length_singleton] at this; omega
      clear hD0 hg
      generalize wr.iterAt W.heap.size s (p + Wd) = wi at hnx hit2 hJ2
      clear hJs hit
      obtain ⟨fn, tmps, assign, body, hy, hR⟩ := hY pre (R, p, p + Wd) wi hJ2 hlen
      dsimp only [encU] at hy
      gi_wp2_with fail
      refine hR.mono ?_
      rintro e w4 (⟨rfl, hJ4, hk4⟩ | ⟨rfl, hJx4⟩)
      · have hit4 := hk4.same _ _ hit2 rfl
        gi_wp2_with fail
        go_roundw
        case rel => exact ⟨g, p + Wd, pre ++ [(R, p, p + Wd)], Hg, hJ4, hit4⟩
        case measure => rw [iterPos_of hit4, Hpos.out]; omega
      · gi_wp2
        refine bodyPost_ret (results_none rfl _ _ _) rfl ?_
        exact ⟨⟨_, rfl⟩, .inr ⟨_, uAt_pre Hg.out, hJx4⟩⟩
    · have hnx : ∀ ty, (Instr.next (.pointer (some ⟨W.heap.size, 0, none⟩)) true ty).run Tryz.prog wr = _ := fun ty => Lib.run_next_end_at wr W.heap.size s p ty hit hp
      have HE := Lib.hid (uAt_end HA.out hp)
      gi_wp2
      go_end0
      exact ⟨⟨_, rfl⟩, .inl ⟨_, HE.out, hJs⟩⟩
end Go.Proofs.YtdngkienloligaaGreatDoor

/- -/
namespace Go.Proofs.YtdngkienloligaaGreatDoor
open Go.RowKit
section
variable {P : Program} {F : Fence} {n : Nat}
theorem rngH {α : Type} {g : Operand} {ps : Array Tmp} {assign body : Code} {Q : Exit → Act → World → Prop} {a : Act} {w : World}
    (hro : F.round = none) (h1 : 1 ≤ n) {gf : Nat} {lb : Array Value} (hg : a.eval g = .func (.func gf) #[] lb) (hFg : F.fn gf) (eg : ∀ args w, (callFunc gf args).run P w = .ok (.enter gf args) w)
    {encs : α → Array Value} {Kp : World → World → Prop} {S Sp : List α → Prop} {N : Nat} {w0 : World} (hseq : SeqStopsK F (n - 1) P gf lb encs Kp S Sp N w0)
    (hKt : ∀ {A B C : World}, Kp A B → Kp B C → Kp A C) (hKb : ∀ (W : World) (l : Nat) (o o' : Obj), w.heap.size ≤ l → W.heap[l]? = some o → o.isCells = false → o.isWalk = false → Kp W (W.putObj l o')) (hb0 : Below w0.heap.size w0 w) (hps : ∀ x, (encs x).size = ps.size) (hKr : ∀ W, Kp W W)
    (I : List α → World → Prop) (Ix : Code → List α → World → Prop) (hI : OwnFrom w.heap.size I) (hIx : ∀ c, OwnFrom w.heap.size (Ix c)) (h0 : I [] w) (f : Array Value → α → Array Value)
    (hassign : ∀ (l : Nat) (x : α) (W : World) (K : Act → World → Prop), K { tmps := f a.tmps x, defers := [] } W →
      assign.wpIn (F.inRound l) (n - 1 - 1) P (Exit.then K (fun _ _ _ => False)) { tmps := (ps.zip (encs x)).foldl (fun t (p, v) => t.setIfInBounds p v) a.tmps, defers := [] } W)
    (hbody : ∀ (l : Nat) (pre : List α) (x : α) (W : World), w.heap.size ≤ l → (∃ r, W.heap[l]? = some (.loop r)) → I pre W → pre.length < N → body.wpIn (F.inRound l) (n - 1 - 1) P (ownPostG w.heap.size Kp I Ix (pre ++ [x]) W) { tmps := f a.tmps x, defers := [] } W)
    (hdone : ∀ (D : Nat) (xs : List α) (W : World), w.heap.size ≤ D → S xs → I xs W → W.heap[D]? = some (.deferred (some [])) → Q .normal { a with defers := { target := .collected D, args := #[] } :: a.defers } W)
    (hstop : ∀ (D : Nat) (c : Code) (pre : List α) (W : World), w.heap.size ≤ D → Sp pre → Ix c pre W → W.heap[D]? = some (.deferred (some [])) → c.wpIn F n P Q { a with defers := { target := .collected D, args := #[] } :: a.defers } W) :
    (Code.rangeFunc g ps assign body).wpIn F n P Q a w :=
  wpIn_rangeFunc_ownH hro h1 hg hFg eg hseq (fun h k => hKt h k) hKb hb0 hps I Ix hI hIx h0 (fun x a' _ => a' = { tmps := f a.tmps x, defers := [] }) (fun _ _ _ _ _ _ hs _ _ => hs)
    (fun l _ x W K hi hK => hassign l x W K (hK _ _ (KeepsFrom.refl _ _) (hKr W) hi rfl)) (fun l pre x a' W hl hr hi e => by subst e; exact hbody l pre x W hl hr hi) hdone hstop
end
end Go.Proofs.YtdngkienloligaaGreatDoor

/- -/
namespace Go.Proofs.YtdngkienloligaaGreatDoor
open Go.RowKit
section
variable {P : Program}
theorem run_app {w : World} (t ty : TypeId)
    (base : Nat) (e : TypeId) (i : TypeInfo) (z : Value) (size bytes : Nat) (ht : P.underlying t = some (.slice e)) (hi : P.info? e = some i) (hz : i.zero = some z)
    (hsize : i.size = size) (hby : i.bytes = bytes) (hzs : z.cells.size = size) (hsz : 0 < size)
    (A : Option Addr) (n c : Nat) (cs : List (List Value)) (hown : Own w base e size A n c cs)
    (A2 : Option Addr) (m c2 : Nat) (xs : List (List Value)) (hm : xs.length = m) (hr : Rd w size A2 xs) (h1 : ∀ y ∈ xs, y.length = size ∧ ∀ u ∈ y, u.oneCell' = true)
    (h63 : n + m ≤ maxLen) (hbytes : (n + m) * bytes ≤ 140737488355328) (hbase : base ≤ w.heap.size) :
    ∃ A' c' w', (Builtin.append_ #[t, t] ty #[.slice A n c, .slice A2 m c2]).run P w = .ok (.slice A' (n + m) c') w' ∧ Own w' base e size A' (n + m) c' (cs ++ xs) ∧ w.grownBy w' (A.map (·.block)) ∧ (A' = A ∨ A' = some ⟨w.heap.size, 0, none⟩) := by
  have hxl : ∀ y ∈ xs, y.length = size := fun y hy => (h1 y hy).1
  have hall : ∀ y ∈ cs ++ xs, y.length = size := fun y hy => by
    rcases List.mem_append.1 hy with hy | hy
    · exact hown.2.1 y hy
    · exact hxl y hy
  have hob : (Value.slice A n c).ownBlock = A.map (·.block) := by cases A <;> rfl
  have key : ∃ v' w', (Builtin.append_ #[t, t] ty #[.slice A n c, .slice A2 m c2]).run P w = .ok v' w' ∧ w'.ownsRow base e size v' (n + m) (cs.flatten ++ xs.flatten) ∧ w.grownBy w' (Value.slice A n c).ownBlock ∧
      (v'.ownBlock = (Value.slice A n c).ownBlock ∨ v'.ownBlock = some w.heap.size) := by
    cases A2 with
    | none =>
      have hnil : xs = [] := Classical.byContradiction fun hne => by obtain ⟨b, off, hb, _⟩ := hr hne; cases hb
      subst hnil
      subst hm
      refine ⟨.slice A n c, w, ?_, by simpa using hown.2.2, World.grownBy.refl w _, .inl rfl⟩
      rcases hown.2.2.2 with ⟨h0, rfl⟩ | ⟨g, cap, cur, h0, _, _, hnc, _⟩
      · rw [h0]; simp [Builtin.append_, run_underlying ht, sizeOf, typeInfo, hi, Builtin.lenOf, Builtin.firstCells]
      · injection h0 with hA _ hc
        subst hA; subst hc
        simp [Builtin.append_, run_underlying ht, sizeOf, typeInfo, hi, Builtin.lenOf, Builtin.firstCells, hnc, storeCells]
    | some ad =>
      have hcells : ∀ j u, xs.flatten[j]? = some u → w.cell? (ad.add j) = some u := by
        intro j u hu
        obtain ⟨k, r, y, rfl, h2, h3⟩ := flatten_at hxl hu
        have hne : xs ≠ [] := fun e => by subst e; simp at h2
        obtain ⟨b, off, hb, hc⟩ := hr hne
        injection hb with hb
        subst hb
        have := hc k r y u h2 h3
        unfold Addr.add
        split
        · rename_i h0; rw [show off + k * size + r = off by omega] at this; exact this
        · simpa [Nat.add_assoc] using this
      obtain ⟨v', w', hrun, h2, h3, _, h5⟩ := run_append_own_at (P := P) w base t ty e i z size bytes ht hi hz hsize hby hzs hsz (.slice A n c) n cs.flatten hown.2.2 ad m c2 xs.flatten
        (by rw [flatten_len hxl, hm]) hcells (fun u hu => by obtain ⟨y, hy, hu⟩ := List.mem_flatten.1 hu; exact (h1 y hy).2 u hu) h63 hbytes hbase
      exact ⟨v', w', hrun, h2, h3, h5⟩
  obtain ⟨v', w', hrun, h2, h3, h4⟩ := key
  rw [hob] at h3 h4
  have hv : ∃ A' c', v' = .slice A' (n + m) c' ∧ (A' = A ∨ A' = some ⟨w.heap.size, 0, none⟩) := by
    rcases h2.2 with ⟨rfl, h0⟩ | ⟨g, cap, cur, rfl, _⟩
    · refine ⟨none, 0, by rw [h0], .inl ?_⟩
      rcases hown.2.2.2 with ⟨h9, _⟩ | ⟨g', cap', cur', h9, _⟩
      · injection h9 with h9; exact h9.symm
      · injection h9 with h9
        rcases h4 with h4 | h4 <;> simp [Value.ownBlock, h9] at h4
    · refine ⟨_, _, rfl, ?_⟩
      rcases h4 with h4 | h4
      · left
        rcases hown.2.2.2 with ⟨h9, _⟩ | ⟨g', cap', cur', h9, _⟩
        · injection h9 with h9; subst h9; simp [Value.ownBlock] at h4
        · injection h9 with h9; subst h9; simp [Value.ownBlock] at h4; rw [h4]
      · right; simp [Value.ownBlock] at h4; rw [h4]
  obtain ⟨A', c', rfl, hA'⟩ := hv
  exact ⟨A', c', w', hrun, ⟨by rw [List.length_append, hown.1, hm], hall, by rw [List.flatten_append]; exact h2⟩, h3, hA'⟩
theorem wpListIn_app {F : Fence} {nF : Nat} {ops : Array Oper} {rest : List Oper} {o : Oper} {a : Act} {w : World} {Q : Exit → Act → World → Prop} (hgd : o.guard = none) (s x : Operand) (t : TypeId)
    (ho : o.op = .call { callee := .builtin .append, args := #[s, x], argTypes := #[t, t] })
    (base : Nat) (e : TypeId) (i : TypeInfo) (z : Value) (size bytes : Nat) (ht : P.underlying t = some (.slice e)) (hi : P.info? e = some i) (hz : i.zero = some z)
    (hsize : i.size = size) (hby : i.bytes = bytes) (hzs : z.cells.size = size) (hsz : 0 < size)
    (A : Option Addr) (n c : Nat) (cs : List (List Value)) (hs : a.eval s = .slice A n c) (hown : Own w base e size A n c cs)
    (A2 : Option Addr) (m c2 : Nat) (xs : List (List Value)) (hx : a.eval x = .slice A2 m c2) (hm : xs.length = m) (hr : Rd w size A2 xs) (h1 : ∀ y ∈ xs, y.length = size ∧ ∀ u ∈ y, u.oneCell' = true)
    (h63 : n + m ≤ maxLen) (hbytes : (n + m) * bytes ≤ 140737488355328) (hbase : base ≤ w.heap.size)
    (h : ∀ A' c' w', Own w' base e size A' (n + m) c' (cs ++ xs) → w.grownBy w' (A.map (·.block)) → (A' = A ∨ A' = some ⟨w.heap.size, 0, none⟩) → wpListIn F nF P ops Q rest (a.put o.dst (.slice A' (n + m) c')) w') : wpListIn F nF P ops Q (o :: rest) a w := by
  refine wpListIn_plain hgd fun K hK' => ?_
  obtain ⟨A', c', w', hrun, r1, r2, r3⟩ := run_app (P := P) t o.type base e i z size bytes ht hi hz hsize hby hzs hsz A n c cs hown A2 m c2 xs hm hr h1 h63 hbytes hbase
  unfold Oper.wpIn
  refine ⟨?_, ?_⟩
  · simp [Oper.about, ho, resolve, Target.leads, Sem.run_pure]
  · rw [Oper.semAt_plain F _ _ (by rw [ho]; intro c hc'; cases hc')]
    simp [execOp, ho, resolve, invoke, builtin, hs, hx, hrun, Result.andThen]
    exact hK' _ _ (h A' c' w' r1 r2 r3)
end
end Go.Proofs.YtdngkienloligaaGreatDoor

/- -/
namespace Go.Proofs.YtdngkienloligaaGreatDoor
open Go.RowKit
section
variable {P : Program} {F : Fence} {n : Nat} {α : Type}
def SeqC (F : Fence) (n : Nat) (P : Program) (g : Nat) (lb : Array Value) (encs : α → Array Value) (Kp : World → World → Prop) (S Sp : List α → Prop) (N : Nat) (w : World) : Prop :=
  ∀ (l : Nat) (J Jx : List α → World → Prop) (W : World), Below w.heap.size w W → OwnFrom W.heap.size J → OwnFrom W.heap.size Jx →
    (∀ pre x W1, J pre W1 → pre.length < N → YieldAt F (n - 1) P l (encs x) W1 fun e W' => (e = .returned (.bool true) ∧ J (pre ++ [x]) W' ∧ Kp W1 W' ∧ KeepsFrom W.heap.size W1 W') ∨ (e = .returned (.bool false) ∧ Jx (pre ++ [x]) W' ∧ KeepsFrom W.heap.size W1 W')) →
    J [] W → CallsIn F n P g (#[.func (.yield l) #[] #[]] ++ lb) W fun e W' => (∃ v, e = .returned v) ∧ ((∃ xs, S xs ∧ J xs W') ∨ (∃ pre, Sp pre ∧ Jx pre W'))
theorem SeqC.inRound {g : Nat} {lb : Array Value} {encs : α → Array Value} {Kp : World → World → Prop} {S Sp : List α → Prop} {N : Nat} {w : World} (l : Nat) (h : SeqC F n P g lb encs Kp S Sp N w) : SeqC (F.inRound l) n P g lb encs Kp S Sp N w := h
variable {encs : α → Array Value} {Kp : World → World → Prop} {I : List α → World → Prop} {Ix : Code → List α → World → Prop} {ps : Array Tmp} {assign body : Code}
variable {g : Operand} {Q : Exit → Act → World → Prop} {a : Act} {w : World}
end
end Go.Proofs.YtdngkienloligaaGreatDoor

/- -/
namespace Go.Proofs.YtdngkienloligaaGreatDoor
open Go.RowKit Go.Shelf
attribute [local go_sem] Oper.semAt_some
theorem Own.kept1 {w w' : World} {base : Nat} {e : TypeId} {s : Nat} {A : Option Addr} {n c : Nat} {cs : List (List Value)} {row : Option Nat} (h : Own w base e s A n c cs) (hg : w.grownBy w' row) (hr : ∀ r, row = some r → ∃ o : Obj, w.heap[r]? = some o ∧ o.isCells = false) : Own w' base e s A n c cs := by
  refine h.keep fun a ha => ?_
  have hl := (h.lt a ha).2
  refine hg.block _ hl fun e => ?_
  obtain ⟨o, h1, h2⟩ := hr _ e.symm
  rcases h.2.2.2 with ⟨h0, _⟩ | ⟨g, cap, cur, hv, _, hh, _⟩
  · injection h0 with h0; rw [ha] at h0; cases h0
  · injection hv with hv
    rw [ha] at hv
    injection hv with hv
    subst hv
    rw [hh] at h1
    cases h1
    cases h2
def Gat (w0 : World) (ab : Nat) (vt e : TypeId) (cs : List (List Value)) (W : World) : Prop :=
  ∃ A n c, Blk W ab vt #[.slice A n c] ∧ Own W w0.heap.size e 1 A n c cs ∧ w0.grownBy W (some ab)
theorem Gat.own {α : Type} {w0 : World} {ab B : Nat} {vt e : TypeId} {f : List α → List (List Value)} (hB : w0.heap.size ≤ B) : OwnFrom B (fun (pre : List α) W => Gat w0 ab vt e (f pre) W) := fun pre X Y row hs hg hr => by
  obtain ⟨A, n, c, h1, h2, h3⟩ := hs
  refine ⟨A, n, c, h1.kept hg (fun r e => (hr r e).2), h2.kept1 hg (fun r e => (hr r e).2), ⟨hg.os.trans h3.os, hg.tape.trans h3.tape, hg.output.trans h3.output, Nat.le_trans h3.size hg.size, fun k hk hne => ?_⟩⟩
  refine (hg.block k (Nat.lt_of_lt_of_le hk h3.size) (fun e => ?_)).trans (h3.block k hk hne)
  have := (hr k e.symm).1
  omega
theorem Gat.step {w0 W V : World} {ab : Nat} {vt e : TypeId} {A A3 : Option Addr} {n c n3 c3 : Nat} {cs cs3 : List (List Value)} (hab : ab < w0.heap.size) (hB : Blk W ab vt #[.slice A n c]) (ho : Own W w0.heap.size e 1 A n c cs) (hg : w0.grownBy W (some ab))
    (hV : W.grownBy V (A.map (·.block))) (ho3 : Own V w0.heap.size e 1 A3 n3 c3 cs3) :
    KeepsFrom w0.heap.size W (V.setCell ⟨ab, 0, none⟩ (.slice A3 n3 c3)) ∧ KeepsWalks W (V.setCell ⟨ab, 0, none⟩ (.slice A3 n3 c3)) ∧ Gat w0 ab vt e cs3 (V.setCell ⟨ab, 0, none⟩ (.slice A3 n3 c3)) := by
  have hzW := hg.size
  have hA := ho.lt
  have hrow : ∀ (j : Nat) (o : Obj), A.map (·.block) = some j → W.heap[j]? = some o → o.isCells = true := fun j o hj hoo => by
    cases A with
    | none => simp at hj
    | some q =>
      simp at hj; subst hj
      rcases ho.2.2.2 with ⟨h0, _⟩ | ⟨g, cap, cur, hv, _, hh, _⟩
      · injection h0 with h0; cases h0
      · injection hv with hv
        injection hv with hv
        subst hv
        rw [hh] at hoo
        cases hoo; rfl
  have hkk := (KeepsOthers.of_grownBy hV hrow).trans (KeepsOthers.setCell V ⟨ab, 0, none⟩ (.slice A3 n3 c3))
  have hge : ∀ q, A.map (·.block) = some q → w0.heap.size ≤ q := fun q hq => by
    cases A with
    | none => simp at hq
    | some z => have := (hA z rfl).1; simp at hq; omega
  have hblk : ∀ k, k < w0.heap.size → V.heap[k]? = W.heap[k]? := fun k hk => hV.block k (by omega) (fun e => by have := hge k e.symm; omega)
  have hz3 : W.heap.size ≤ V.heap.size := hV.size
  have hB3 : Blk V ab vt #[.slice A n c] := (hblk ab hab).trans hB
  refine ⟨hkk.from _, hkk.walks, A3, n3, c3, hB3.set_ 0 _, ho3.keep (fun q hq => Below.heap_setCell V ⟨ab, 0, none⟩ _ _ (by have := (ho3.lt q hq).1; simp only; omega)), ?_⟩
  refine ⟨hV.os.trans hg.os, hV.tape.trans hg.tape, hV.output.trans hg.output, by simpa [World.setCell] using Nat.le_trans hzW hz3, fun k hk hne => ?_⟩
  exact (Below.heap_setCell V ⟨ab, 0, none⟩ _ k (fun e => hne (by rw [e]))).trans ((hblk k hk).trans (hg.block k hk hne))
def encRu (x : Nat × Nat × Nat) : List Value := [.int .i32 (x.1 : Nat)]
theorem infoI32 : (Tryz.prog.info? 21).map (fun i => (i.zero, i.size, i.bytes)) = some (some (.int .i32 0), 1, 4) := by kernel_rfl
set_option maxRecDepth 100000 in
set_option maxHeartbeats 4000000 in
theorem eRunes_any (s : ByteArray) (w : World) (hs : s.size ≤ 1000000) : Calls Tryz.prog 16 #[.string s] w fun e w' => ∃ A n c, e = .returned (.slice A n c) ∧ Own w' w.heap.size 21 1 A n c ((runesP s).map encRu) ∧ RowKit.Below w.heap.size w w' := by
  have HB : RowKit.Below w.heap.size w (w.alloc (.cells #[.slice none 0 0] 23)) := (RowKit.Below.refl _ _).alloc (Nat.le_refl _) _
  have B0 : Blk (w.alloc (.cells #[.slice none 0 0] 23)) w.heap.size 23 #[.slice none 0 0] := Blk.new _ _ _
  refine (callsIn_wide (n := 6)).1 ?_
  refine callsIn_of_wp_marks Tryz.func16 rfl trivial ?_ rfl
  simp only [Tryz.ntmps16, List.size_toArray, List.length_cons, List.length_nil, Nat.reduceAdd, Nat.reduceSub, Array.replicate_succ, Array.replicate_zero, List.push_toArray, List.append_toArray, List.nil_append, List.cons_append]
  refine wpIn_wide.2 ?_
  go_wp2_with fail
  generalize (w.alloc (.cells #[.slice none 0 0] 23)) = w0 at HB B0 ⊢
  refine (uEach_any s w0).mono ?_
  rintro e w1 ⟨bs, rfl, hc, hb⟩
  have B1 := B0.below hb
  have hzb : w.heap.size < w1.heap.size := B1.lt
  replace HB := below_two HB hb
  have hrl := runesP_len s
  clear B0 hb
  go_wp2_with fail
  refine (wpIn_wide (n := 6)).1 ?_
  refine rngH rfl (by decide) (gf := 127) (lb := #[.pointer (some ⟨bs, 0, none⟩)]) rfl trivial (enters_of Tryz.func127 (by kernel_rfl) rfl)
    (uEach_stops 5 (by decide) w1 s bs hc) (fun h k => h.trans k) walksK_b (RowKit.Below.refl _ _) (fun _ => rfl) (fun _ => KeepsWalks.refl _)
    (fun (pre : List (Nat × Nat × Nat)) W => Gat w1 w.heap.size 23 21 (pre.map encRu) W) (fun _ _ _ => False) (Gat.own (f := fun (pre : List (Nat × Nat × Nat)) => pre.map encRu) (Nat.le_refl _)) (fun _ _ _ _ _ hs _ _ => hs)
    ⟨none, 0, 0, B1, Own.nil_ _ _ _ _, only_refl _ _⟩
    (fun T x => ((T.setIfInBounds 8 (.int .i64 (x.2.1 : Nat))).setIfInBounds 9 (.int .i32 (x.1 : Nat))).setIfInBounds 5 (.int .i32 (x.1 : Nat))) ?assign ?body ?done ?stop
  case assign =>
    intro l2 x V K hK
    simp only [List.setIfInBounds_toArray, List.set_cons_succ, List.set_cons_zero] at hK
    simp only [encU]
    gi_wp2
    exact hK
  case stop =>
    rintro D cc pre W _ hp h _
    exact absurd h id
  case body =>
    rintro l2 pre ⟨r, pp, qq⟩ W hl2 _ ⟨A9, n9, c9, BaW, oW, hgW⟩ hlen
    simp only [List.setIfInBounds_toArray, List.set_cons_succ, List.set_cons_zero]
    obtain ⟨i0, hi0, hz0, hz1, hz2⟩ := info_parts infoI32
    have hl9 : pre.length = n9 := by have h1 := oW.len; simpa using h1
    have hn9 : n9 ≤ 1000000 := by omega
    have c10 := BaW.cell 0
    simp only [List.getElem?_toArray, List.getElem?_cons_zero] at c10
    have hzW := hgW.size
    have hA9 := oW.lt
    have f10 := BaW.frozen 0
    clear hl9 hlen
    gi_wp2_with (gi_at_builtin; go_must (refine wpListIn_app rfl (.tmp 10) (.tmp 12) _ rfl w1.heap.size 21 i0 _ 1 4 Tryz.underlying23 hi0 hz0 hz1 hz2 rfl (by omega) A9 n9 c9 (pre.map encRu) rfl (oW.alloc _) _ 1 1 [[.int .i32 (r : Nat)]] rfl rfl (Rd.newAt (by simp) rfl) (fun y hy => by rw [List.mem_singleton] at hy; subst hy; exact ⟨rfl, by simp [Value.oneCell']⟩) (by unfold maxLen; omega) (by omega) (by simp; omega) ?_); intro A3 c3 w3 ho3 hg3 hA3; have B3 := (BaW.alloc (.cells #[.int .i32 (r : Nat)] 21)).grown hg3 (fun e => by cases A9 with | none => simp at e | some q => have := (hA9 q rfl).1; simp at e; omega); have f3 := B3.frozen 0; have c3b := B3.cell 0; simp only [List.getElem?_toArray, List.getElem?_cons_zero] at c3b)
    have hV : W.grownBy w3 (A9.map (·.block)) := only_trans (only_alloc (only_refl W _) _) hg3
    obtain ⟨k1, k2, k3⟩ := Gat.step hzb BaW oW hgW hV ho3
    exact ⟨k1, k2, by show Gat _ _ _ _ (List.map encRu _) _; rw [List.map_append]; exact k3⟩
  case done =>
    rintro D ys V hD hys ⟨A, n, c, B, ho, hg⟩ hK
    have c10 := B.cell 0
    simp only [List.getElem?_toArray, List.getElem?_cons_zero] at c10
    have hys2 : ys.map encRu = (runesP s).map encRu := by rw [hys]
    rw [hys2] at ho
    go_wp2
    refine ⟨by simp, .inl ⟨_, _, rfl, run_takeDeferred hK, ?_⟩⟩
    refine ⟨_, results_tmp rfl _ _ _, A, n, c, rfl, (ho.keep fun a ha => World.putObj_heap_other (fun e => ?_)).more (by omega), ?_⟩
    · rcases ho.2.2.2 with ⟨h0, _⟩ | ⟨g, cap, cur, hv, _, hh, _⟩
      · injection h0 with h0; rw [h0] at ha; cases ha
      · injection hv with hv
        rw [hv] at ha
        injection ha with ha
        subst ha
        simp only at e
        subst e
        rw [hh] at hK
        cases hK
    · exact (HB.trans (below_only (B := w.heap.size) hg (by omega) (Nat.le_refl _))).trans (belowK_b (w := w) (Nat.le_refl _) _ D _ _ (by omega) hK rfl rfl)
end Go.Proofs.YtdngkienloligaaGreatDoor

/- -/
namespace Go.Proofs.YtdngkienloligaaGreatDoor
open Go.RowKit Go.Shelf
attribute [local go_sem] Oper.semAt_some
structure KC (m : Nat) (X : Nat → Prop) (W W' : World) : Prop where
  size : W.heap.size ≤ W'.heap.size
  same : ∀ (k : Nat) (o : Obj), m ≤ k → ¬ X k → W.heap[k]? = some o → o.isCells = true → W'.heap[k]? = some o
  walks : KeepsWalks W W'
theorem KC.refl (m : Nat) (X : Nat → Prop) (W : World) : KC m X W W := ⟨Nat.le_refl _, fun _ _ _ _ h _ => h, KeepsWalks.refl _⟩
theorem KC.trans {m : Nat} {X : Nat → Prop} {A B C : World} (h : KC m X A B) (k : KC m X B C) : KC m X A C :=
  ⟨Nat.le_trans h.size k.size, fun i o hm hx ho hc => k.same i o hm hx (h.same i o hm hx ho hc) hc, h.walks.trans k.walks⟩
theorem KC.put {m : Nat} {X : Nat → Prop} (W : World) (l : Nat) (o o' : Obj) (h : W.heap[l]? = some o) (hc : o.isCells = false) (hw : o.isWalk = false) : KC m X W (W.putObj l o') :=
  ⟨by simp, fun k o2 _ _ hk hk2 => by
    by_cases e : k = l
    · subst e; rw [h] at hk; cases hk; rw [hc] at hk2; cases hk2
    · exact (World.putObj_heap_other e).trans hk, KeepsWalks.putObj o' h hw⟩
theorem KC.blk {m : Nat} {X : Nat → Prop} {W W' : World} (h : KC m X W W') {g : Nat} {t : TypeId} {cs : Array Value} (hB : Blk W g t cs) (hm : m ≤ g) (hx : ¬ X g) : Blk W' g t cs := h.same g _ hm hx hB rfl
theorem KC.cell {m : Nat} {X : Nat → Prop} {W W' : World} (h : KC m X W W') {b i : Nat} {v : Value} (hv : W.cell? ⟨b, i, none⟩ = some v) (hm : m ≤ b) (hx : ¬ X b) : W'.cell? ⟨b, i, none⟩ = some v := by
  cases ho : W.heap[b]? with
  | none => unfold World.cell? at hv; rw [ho] at hv; cases hv
  | some o =>
    cases hc : o.isCells with
    | true => exact (World.cell?_of_block ((h.same b o hm hx ho hc).trans ho.symm)).trans hv
    | false => unfold World.cell? at hv; rw [ho] at hv; cases o <;> simp_all [Obj.isCells]
theorem KC.rd {m : Nat} {X : Nat → Prop} {w w' : World} {s : Nat} {A : Option Addr} {cs : List (List Value)} (h : KC m X w w') (hr : Rd w s A cs) (hA : ∀ a, A = some a → m ≤ a.block ∧ ¬ X a.block) : Rd w' s A cs :=
  hr.keep fun b off _ _ ha hp => h.cell hp (hA ⟨b, off, none⟩ ha).1 (hA ⟨b, off, none⟩ ha).2
end Go.Proofs.YtdngkienloligaaGreatDoor

/- -/
namespace Go.Proofs.YtdngkienloligaaGreatDoor
open Go Go.RowKit
def KT (t : TypeId) (X : Nat → Prop) (W W' : World) : Prop := W.heap.size ≤ W'.heap.size ∧ ∀ (k : Nat) (cur : Array Value) (fz : Nat × Nat), ¬ X k → W.heap[k]? = some (.cells cur t fz) → W'.heap[k]? = some (.cells cur t fz)
theorem Rd.atQ {w : World} {A : Option Addr} {l : List Nat} {k x : Nat} (h : Rd w 1 A (l.map fun a => [.int .i64 (a : Nat)])) (hk : l[k]? = some x) : ∃ b off, A = some ⟨b, off, none⟩ ∧ w.cell? ⟨b, off + k, none⟩ = some (.int .i64 (x : Nat)) := by
  obtain ⟨b, off, rfl, hc⟩ := h (by intro e; have := congrArg List.length e; rw [List.length_map] at this; have h2 := (List.getElem?_eq_some_iff.1 hk).1; simp at this; rw [this] at h2; simp at h2)
  have h0 := hc k 0 [.int .i64 (x : Nat)] (.int .i64 (x : Nat)) (by simp [hk]) rfl
  refine ⟨b, off, rfl, ?_⟩
  simpa using h0
theorem Rd.manyQ (W : World) (t : TypeId) (s : Nat) (cs : List (List Value)) (arr : Array Value) (harr : arr = cs.flatten.toArray) (h : ∀ x ∈ cs, x.length = s) : Rd (W.alloc (.cells arr t)) s (some ⟨W.heap.size, 0, none⟩) cs := fun _ =>
  ⟨W.heap.size, 0, rfl, fun k j x u hx hu => by
    subst harr
    rw [(Blk.new W t cs.flatten.toArray).cell (0 + k * s + j), List.getElem?_toArray, Nat.zero_add]
    exact flatten_get h hx hu⟩
section
variable {t : TypeId} {X : Nat → Prop} {A B C : World}
theorem KT.refl (t : TypeId) (X : Nat → Prop) (W : World) : KT t X W W := ⟨Nat.le_refl _, fun _ _ _ _ h => h⟩
theorem KT.trans (h : KT t X A B) (k : KT t X B C) : KT t X A C := ⟨Nat.le_trans h.1 k.1, fun i c z hx hc => k.2 i c z hx (h.2 i c z hx hc)⟩
theorem KT.put (W : World) (l : Nat) (o o' : Obj) (h : W.heap[l]? = some o) (hc : o.isCells = false) : KT t X W (W.putObj l o') :=
  ⟨by simp, fun k c z _ hk => by
    by_cases e : k = l
    · subst e; rw [h] at hk; cases hk; cases hc
    · exact (World.putObj_heap_other e).trans hk⟩
theorem KT.below (h : Below A.heap.size A B) : KT t X A B := ⟨h.size, fun k _ _ _ hk => (h.block k (Array.getElem?_eq_some_iff.1 hk).1).trans hk⟩
theorem KT.own {base : Nat} {s : Nat} {P : Option Addr} {n c : Nat} {cs : List (List Value)} (h : KT t X A B) (ho : Own A base t s P n c cs) (hX : ∀ b, X b → b < base) : Own B base t s P n c cs := by
  refine ho.keep fun a ha => ?_
  rcases ho.2.2.2 with ⟨h0, _⟩ | ⟨g, cap, cur, hv, hg, hh, _⟩
  · injection h0 with h0; rw [h0] at ha; cases ha
  · injection hv with hv
    rw [hv] at ha
    injection ha with ha
    subst ha
    exact (h.2 _ _ _ (fun hx => by have := hX _ hx; omega) hh).trans hh.symm
theorem KT.blk (h : KT t X A B) {g : Nat} {cs : Array Value} (hB : Blk A g t cs) (hx : ¬ X g) : Blk B g t cs := h.2 g cs (0, 0) hx hB
theorem KT.setCell {b : Nat} {t' : TypeId} {cs : Array Value} (hB : Blk A b t' cs) (ht : t' ≠ t) (i : Nat) (u : Value) : KT t X A (A.setCell ⟨b, i, none⟩ u) :=
  ⟨by simp [World.setCell], fun k cur fz _ hk => (Below.heap_setCell A ⟨b, i, none⟩ u k (fun e => by
    subst e
    have h2 : A.heap[k]? = some _ := hB
    rw [h2] at hk
    injection hk with hk
    injection hk with _ hk
    exact ht hk)).trans hk⟩
end
end Go.Proofs.YtdngkienloligaaGreatDoor

/- -/
namespace Go.Proofs.YtdngkienloligaaGreatDoor
def piecesF : List Nat → List (Nat × Nat)
  | a :: b :: r => (a, b) :: piecesF (b :: r)
  | _ => []
theorem piecesF_len : ∀ (L : List Nat), (piecesF L).length = L.length - 1
  | [] => rfl
  | [_] => rfl
  | a :: b :: r => by rw [piecesF, List.length_cons, piecesF_len (b :: r)]; simp
theorem piecesF_at : ∀ (L : List Nat) (k x y : Nat), L[k]? = some x → L[k + 1]? = some y → (piecesF L)[k]? = some (x, y)
  | [], _, _, _, h, _ => by simp at h
  | [_], k, _, _, _, h => by simp at h
  | a :: b :: r, 0, x, y, hx, hy => by
    simp only [List.getElem?_cons_zero, List.getElem?_cons_succ, Option.some.injEq] at hx hy
    subst hx hy
    rfl
  | a :: b :: r, k + 1, x, y, hx, hy => by
    rw [piecesF, List.getElem?_cons_succ]
    exact piecesF_at (b :: r) k x y (by simpa using hx) (by simpa using hy)
theorem piecesF_le {s : ByteArray} : ∀ {L : List Nat}, L.Pairwise (· < ·) → (∀ a ∈ L, a ≤ s.size) → ∀ x ∈ piecesF L, x.1 ≤ x.2 ∧ x.2 ≤ s.size
  | [], _, _, x, h => by simp [piecesF] at h
  | [_], _, _, x, h => by simp [piecesF] at h
  | a :: b :: r, hp, hz, x, h => by
    rw [List.pairwise_cons] at hp
    rw [piecesF] at h
    rcases List.mem_cons.1 h with rfl | h
    · exact ⟨Nat.le_of_lt (hp.1 b (by simp)), hz b (by simp)⟩
    · exact piecesF_le hp.2 (fun c hc => hz c (by simp [hc])) x h
def clP (s : ByteArray) (x : Nat × Nat) : Nat × Nat := if x.1 ≤ x.2 ∧ x.2 ≤ s.size then x else (0, 0)
theorem clP_le (s : ByteArray) (x : Nat × Nat) : (clP s x).1 ≤ (clP s x).2 ∧ (clP s x).2 ≤ s.size := by
  unfold clP
  split
  · assumption
  · exact ⟨Nat.le_refl _, Nat.zero_le _⟩
theorem clP_in {s : ByteArray} {x : Nat × Nat} (h : x.1 ≤ x.2 ∧ x.2 ≤ s.size) : clP s x = x := if_pos h
end Go.Proofs.YtdngkienloligaaGreatDoor

/- -/
namespace Go.Proofs.YtdngkienloligaaGreatDoor
open Go Go.RowKit
section
variable {P : Program} {Q : Exit → Act → World → Prop} {l n : Nat}
def noDefer (ops : Array Oper) : Bool := ops.toList.all fun o => match o.op with | .defer _ => false | _ => true
theorem noDefer_at {ops : Array Oper} (h : noDefer ops = true) {i : Nat} {o : Oper} (ho : ops[i]? = some o) : ∀ c, o.op ≠ .defer c := fun c hc => by
  unfold noDefer at h
  rw [List.all_eq_true] at h
  have := h o (by rw [← Array.getElem?_toList] at ho; exact List.mem_of_getElem? ho)
  rw [hc] at this
  cases this
theorem wpIn_of_wp_round {o : Oper} (hd : ∀ c, o.op ≠ .defer c) {a : Act} {w : World} {K : Act → World → Prop} (h : o.wp P a w K Q) : o.wpIn (Fence.wide.inRound l) n P a w K Q := by
  refine ⟨fun _ _ => trivial, ?_⟩
  rw [Oper.semAt_plain _ _ _ hd]
  unfold Oper.wp at h
  generalize (execOp a.eval o).run P w = r at h ⊢
  cases r with
  | ok x w' =>
    cases x with
    | enter f args => exact ⟨fun h => by simp [Fence.wide, Fence.inRound] at h, CallsIn.inRound l (callsIn_wide.2 h)⟩
    | row row args => exact ⟨fun h => by simp [Fence.wide, Fence.inRound] at h, fun c cs _ => let ⟨v, w2, r1, s1⟩ := h c cs; ⟨v, w2, r1, stepsIn_wide.2 s1⟩⟩
    | round => exact False.elim h
    | _ => exact h
  | halt x w' => cases x <;> exact h
theorem wpOpsIn_round {ops : Array Oper} (hd : noDefer ops = true) (hL : ¬ LetsOut Q) : ∀ (L : List Nat) (a : Act) (w : World), wpOps P ops Q L a w → wpOpsIn (Fence.wide.inRound l) n P ops Q L a w
  | [], _, _, h => h
  | i :: rest, a, w, h => by
    unfold wpOps at h
    unfold wpOpsIn
    cases ho : ops[i]? with
    | none => simp only [ho] at h ⊢; exact wpOpsIn_round hd hL rest a w h
    | some o =>
      simp only [ho] at h ⊢
      by_cases hw : Region.wanted o (yielded ops a.tmps) = true
      · simp only [hw, if_true] at h ⊢
        rcases h with h | h
        · exact Oper.wpIn_mono (fun a w h => wpOpsIn_round hd hL rest a w h) (wpIn_of_wp_round (noDefer_at hd ho) h)
        · exact absurd h.2 hL
      · simp only [hw, if_false, Bool.false_eq_true] at h ⊢
        exact ⟨fun _ _ => trivial, wpOpsIn_round hd hL rest _ w h⟩
theorem wpIn_region_round {S : World → Prop} {id : Nat} {ops : Array Oper} {a : Act} {w : World} (hm : P.follows .mixedOrders = true) (hd : noDefer ops = true) (hL : ¬ LetsOut Q) (hS : S w.drew)
    (h : S w.drew → wpAnyH P .any ops Q S ops.size (Array.replicate ops.size false) a w.drew) : (Code.region id ops true).wpIn (Fence.wide.inRound l) n P Q a w :=
  wpIn_region_draw fun t => by
    simp only [Region.schedule, hm, Bool.true_or, if_true]
    exact wpOpsIn_round hd hL _ _ _ (wpAny_sound ops.size t _ a _ (wpAny_of_held _ _ _ _ (h hS)))
end
end Go.Proofs.YtdngkienloligaaGreatDoor

/- -/
namespace Go.Proofs.YtdngkienloligaaGreatDoor
open Go.RowKit Go.Shelf Go.Maps
attribute [local go_sem] Oper.semAt_some
def KpB (m : Nat) (X : Nat → Prop) (A B : World) : Prop := RowKit.Below m A B ∧ KC 0 X A B
theorem KpB.refl (m : Nat) (X : Nat → Prop) (W : World) : KpB m X W W := ⟨RowKit.Below.refl _ _, KC.refl _ _ _⟩
theorem KpB.trans {m : Nat} {X : Nat → Prop} {A B C : World} (h : KpB m X A B) (k : KpB m X B C) : KpB m X A C := ⟨h.1.trans k.1, h.2.trans k.2⟩
theorem KpB.put {m : Nat} {X : Nat → Prop} {w : World} (hm : m ≤ w.heap.size) (W : World) (l : Nat) (o o' : Obj) (hl : w.heap.size ≤ l) (h : W.heap[l]? = some o) (hc : o.isCells = false) (hw : o.isWalk = false) : KpB m X W (W.putObj l o') :=
  ⟨belowK_b (w := w) hm W l o o' hl h hc hw, KC.put W l o o' h hc hw⟩
end Go.Proofs.YtdngkienloligaaGreatDoor

/- -/
namespace Go.Proofs.YtdngkienloligaaGreatDoor
open Go.RowKit
end Go.Proofs.YtdngkienloligaaGreatDoor

/- -/
namespace Go.Proofs.YtdngkienloligaaGreatDoor
open Go.RowKit
end Go.Proofs.YtdngkienloligaaGreatDoor

