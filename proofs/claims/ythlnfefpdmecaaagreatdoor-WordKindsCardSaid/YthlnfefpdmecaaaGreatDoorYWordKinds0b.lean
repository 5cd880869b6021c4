/-
  Several texts in one, in their build order: RngC, Ge, Each, Kt, GraP, GraQ, WorT, Wl, Rgn, Va, VP, HexR, Bld, Grow, Upper, Repeat, Spell, Join, Print, Wi, Wj, Vb, Qt, Vc, Vd, Ve, Vf, PrintS, Qd, Vi.
-/
import Derived.RangeFuncBound
import Derived.RangeFuncKeeps
import Derived.Deep.RegionHeld3
import Derived.CallsIn
import Derived.OrdersIn
import Derived.RangeFuncCalls
import Derived.OwnWalkIn
import Derived.Deep.DeepMust
import Derived.Deep.LoopGhost
import Derived.Shelf.Strings.BuilderK
import Derived.Lib.OthersKept
import Derived.RangeFuncOwn
import Derived.Lib.Builder
import Derived.Lib.FrozenHead2
import Derived.Lib.AppendStr
import Derived.Lib.BufferRead
import Derived.Test.YthlnfefpdmecaaaGreatDoorYWordKinds0a
import Derived.Test.YthlnfefpdmecaaaGreatDoorZ0a
import Derived.Test.YthlnfefpdmecaaaGreatDoorZ1a
import Derived.Test.YthlnfefpdmecaaaGreatDoorZWc
import Derived.Test.YthlnfefpdmecaaaGreatDoorZ1b
import Derived.Test.YthlnfefpdmecaaaGreatDoorZRefU
import Derived.Test.YthlnfefpdmecaaaGreatDoorZ2a
import Derived.Test.YthlnfefpdmecaaaGreatDoorZ4a
/-
  Ranges over an iterator that itself ranges over another one: its own loop's record turns in every round, so its contract asks more of what is carried (OwnFrom: whatever is no cells, from the loop's first block on, may be turned). The law for the statement, ahead of a round and within one.
-/
namespace Go.Proofs.YthlnfefpdmecaaaGreatDoor
open Go.RowKit

section
variable {P : Program} {F : Fence} {n : Nat} {α : Type}
/-- An iterator's contract, where what is carried abides every turn of what is no cells. -/
def SeqC (F : Fence) (n : Nat) (P : Program) (g : Nat) (lb : Array Value) (encs : α → Array Value) (Kp : World → World → Prop) (S Sp : List α → Prop) (N : Nat) (w : World) : Prop :=
  ∀ (l : Nat) (J Jx : List α → World → Prop) (W : World), Below w.heap.size w W → OwnFrom W.heap.size J → OwnFrom W.heap.size Jx →
    (∀ pre x W1, J pre W1 → pre.length < N → YieldAt F (n - 1) P l (encs x) W1 fun e W' => (e = .returned (.bool true) ∧ J (pre ++ [x]) W' ∧ Kp W1 W' ∧ KeepsFrom W.heap.size W1 W') ∨ (e = .returned (.bool false) ∧ Jx (pre ++ [x]) W' ∧ KeepsFrom W.heap.size W1 W')) →
    J [] W → CallsIn F n P g (#[.func (.yield l) #[] #[]] ++ lb) W fun e W' => (∃ v, e = .returned v) ∧ ((∃ xs, S xs ∧ J xs W') ∨ (∃ pre, Sp pre ∧ Jx pre W'))
theorem SeqC.inRound {g : Nat} {lb : Array Value} {encs : α → Array Value} {Kp : World → World → Prop} {S Sp : List α → Prop} {N : Nat} {w : World} (l : Nat) (h : SeqC F n P g lb encs Kp S Sp N w) : SeqC (F.inRound l) n P g lb encs Kp S Sp N w := h

/-- A loop's record. -/
def recC (fn : FuncId) (tmps : Array Value) (ps : Array Tmp) (assign body : Code) (d : Nat) (st : LoopState) (pe : Option Code) : Loop := { state := st, pending := pe, fn, tmps, params := ps, assign, body, defers := d }
/-- What no round turns but the loop's own record. -/
structure StaysC (B l : Nat) (W W' : World) : Prop where
  size : W.heap.size ≤ W'.heap.size
  same : ∀ (k : Nat) (o : Obj), B ≤ k → k ≠ l → W.heap[k]? = some o → o.isCells = false → W'.heap[k]? = some o

variable {encs : α → Array Value} {Kp : World → World → Prop} {I : List α → World → Prop} {Ix : Code → List α → World → Prop} {ps : Array Tmp} {assign body : Code}
/-- One round, from yield's call to its answer. -/
theorem yieldC {fn : FuncId} {tmps : Array Value} {d l B m : Nat} {pre : List α} {x : α} {W : World} {a' : Act} (hfn : F.fn fn) (hps : (encs x).size = ps.size) (hB : B ≤ l)
    (hKt : ∀ {A B C : World}, Kp A B → Kp B C → Kp A C) (hKb : ∀ (W : World) (l : Nat) (o o' : Obj), B ≤ l → W.heap[l]? = some o → o.isCells = false → o.isWalk = false → Kp W (W.putObj l o'))
    (hI : OwnFrom B I) (hIx : ∀ c, OwnFrom B (Ix c)) (hi : I pre W) (hl : W.heap[l]? = some (.loop (recC fn tmps ps assign body d .ready none)))
    (hassign : ∀ K : Act → World → Prop, K a' W → assign.wpIn (F.inRound l) m P (Exit.then K (fun _ _ _ => False)) { tmps := (ps.zip (encs x)).foldl (fun t (p, v) => t.setIfInBounds p v) tmps, defers := [] } W)
    (hbody : ∀ W', (∃ r, W'.heap[l]? = some (.loop r)) → I pre W' → body.wpIn (F.inRound l) m P (ownPostG B Kp I Ix (pre ++ [x]) W') a' W') :
    YieldAt F m P l (encs x) W fun e W' =>
      (e = .returned (.bool true) ∧ (I (pre ++ [x]) W' ∧ W'.heap[l]? = some (.loop (recC fn tmps ps assign body d .ready none)) ∧ StaysC B l W W') ∧ Kp W W') ∨
      (e = .returned (.bool false) ∧ ∃ c, Ix c (pre ++ [x]) W' ∧ W'.heap[l]? = some (.loop (recC fn tmps ps assign body d .done (some c))) ∧ StaysC B l W W') := by
  refine ⟨fn, _, assign, body, run_yield (P := P) (args := encs x) hl hps, roundIn_of_wpIn hfn (hassign _ ?_)⟩
  have hlt := (Array.getElem?_eq_some_iff.1 hl).1
  refine ⟨_, run_beginRound hl rfl, ?_⟩
  have hl2 : (W.putObj l (.loop { recC fn tmps ps assign body d .ready none with state := .busy })).heap[l]? = some (.loop { recC fn tmps ps assign body d .ready none with state := .busy }) := World.putObj_heap_same hlt
  have hk2 : Kp W (W.putObj l (.loop { recC fn tmps ps assign body d .ready none with state := .busy })) := hKb _ _ _ _ hB hl rfl rfl
  refine wpIn_mono (hbody _ ⟨_, hl2⟩ (hI.putObj _ hi hB hl rfl)) ?_
  -- the round's end, whichever way it is left
  have last : ∀ (jump : Option Code) (W3 : World), KeepsFrom B (W.putObj l (.loop { recC fn tmps ps assign body d .ready none with state := .busy })) W3 →
      ∃ W4, (Instr.endRound l jump).run P W3 = .ok (.bool jump.isNone) W4 ∧ W4.heap[l]? = some (.loop (recC fn tmps ps assign body d (if jump.isNone then .ready else .done) jump)) ∧ StaysC B l W W4 ∧
        (∀ Y : World → Prop, (∀ (o o' : Obj), W3.heap[l]? = some o → o.isCells = false → o.isWalk = false → Y (W3.putObj l o')) → Y W4) := fun jump W3 hk => by
    have hl3 := hk.same _ _ hB hl2 rfl
    refine ⟨_, run_endRound (P := P) jump hl3, World.putObj_heap_same (Array.getElem?_eq_some_iff.1 hl3).1, ⟨by have := hk.size; simpa using this, fun k o hBk hne ho hc => ?_⟩, fun Y hY => hY _ _ hl3 rfl rfl⟩
    exact (World.putObj_heap_other hne).trans (hk.same k o hBk ((World.putObj_heap_other hne).trans ho) hc)
  rintro e a3 W3 hp
  cases e with
  | normal =>
    obtain ⟨hk, hkp, hi3⟩ := hp
    obtain ⟨W4, hr, h4, hs, hY⟩ := last none W3 hk
    exact ⟨_, _, hr, .inl ⟨rfl, ⟨hY (fun W => I (pre ++ [x]) W) (fun o o' ho hc _ => hI.putObj o' hi3 hB ho hc), h4, hs⟩, hKt (hKt hk2 hkp) (hY (Kp W3) (fun o o' ho hc hw => hKb W3 l o o' hB ho hc hw))⟩⟩
  | ret =>
    obtain ⟨hk, hi3⟩ := hp
    obtain ⟨W4, hr, h4, hs, hY⟩ := last (some .ret) W3 hk
    exact ⟨_, _, hr, .inr ⟨rfl, _, hY (fun W => Ix .ret (pre ++ [x]) W) (fun o o' ho hc _ => (hIx _).putObj o' hi3 hB ho hc), h4, hs⟩⟩
  | exit id =>
    obtain ⟨hk, hi3⟩ := hp
    obtain ⟨W4, hr, h4, hs, hY⟩ := last (some (.exit id)) W3 hk
    exact ⟨_, _, hr, .inr ⟨rfl, _, hY (fun W => Ix (.exit id) (pre ++ [x]) W) (fun o o' ho hc _ => (hIx _).putObj o' hi3 hB ho hc), h4, hs⟩⟩
  | goto t =>
    obtain ⟨hk, hi3⟩ := hp
    obtain ⟨W4, hr, h4, hs, hY⟩ := last (some (.goto t)) W3 hk
    exact ⟨_, _, hr, .inr ⟨rfl, _, hY (fun W => Ix (.goto t) (pre ++ [x]) W) (fun o o' ho hc _ => (hIx _).putObj o' hi3 hB ho hc), h4, hs⟩⟩
  | panic ch => exact hp.elim
  | outgrown => exact hp.elim

/-- What lies ahead of the loop's blocks' end stays where only later blocks turn. -/
theorem grown_later {A B : World} {row : Option Nat} {W1 : World} (hg : A.grownBy B row) (hr : ∀ r, row = some r → W1.heap.size ≤ r ∧ ∃ o : Obj, A.heap[r]? = some o ∧ o.isCells = false) {k : Nat} {o : Obj} (hk : k < W1.heap.size) (ho : A.heap[k]? = some o) : B.heap[k]? = some o :=
  (hg.block k (Array.getElem?_eq_some_iff.1 ho).1 (fun e => by have := (hr k e.symm).1; omega)).trans ho
theorem own_later {β : Type} {B : Nat} {I : β → World → Prop} (h : OwnFrom B I) {C : Nat} (hBC : B ≤ C) : OwnFrom C I := fun s X Y row hs hg hr => h s X Y row hs hg (fun r e => ⟨Nat.le_trans hBC (hr r e).1, (hr r e).2⟩)

variable {g : Operand} {Q : Exit → Act → World → Prop} {a : Act} {w : World}
theorem rngC (hro : F.round = none) (h1 : 1 ≤ n) {gf : Nat} {lb : Array Value} (hg : a.eval g = .func (.func gf) #[] lb) (hFg : F.fn gf) (eg : ∀ args w, (callFunc gf args).run P w = .ok (.enter gf args) w)
    {S Sp : List α → Prop} {N : Nat} {w0 : World} (hseq : SeqC F (n - 1) P gf lb encs Kp S Sp N w0)
    (hKt : ∀ {A B C : World}, Kp A B → Kp B C → Kp A C) (hKb : ∀ (W : World) (l : Nat) (o o' : Obj), w.heap.size ≤ l → W.heap[l]? = some o → o.isCells = false → o.isWalk = false → Kp W (W.putObj l o')) (hb0 : Below w0.heap.size w0 w) (hps : ∀ x, (encs x).size = ps.size)
    (I : List α → World → Prop) (Ix : Code → List α → World → Prop) (hI : OwnFrom w.heap.size I) (hIx : ∀ c, OwnFrom w.heap.size (Ix c)) (h0 : I [] w) (f : Array Value → α → Array Value)
    (hassign : ∀ (l : Nat) (x : α) (W : World) (K : Act → World → Prop), K { tmps := f a.tmps x, defers := [] } W →
      assign.wpIn (F.inRound l) (n - 1 - 1) P (Exit.then K (fun _ _ _ => False)) { tmps := (ps.zip (encs x)).foldl (fun t (p, v) => t.setIfInBounds p v) a.tmps, defers := [] } W)
    (hbody : ∀ (l : Nat) (pre : List α) (x : α) (W : World), w.heap.size ≤ l → (∃ r, W.heap[l]? = some (.loop r)) → I pre W → pre.length < N → body.wpIn (F.inRound l) (n - 1 - 1) P (ownPostG w.heap.size Kp I Ix (pre ++ [x]) W) { tmps := f a.tmps x, defers := [] } W)
    (hdone : ∀ (D : Nat) (xs : List α) (W : World), w.heap.size ≤ D → S xs → I xs W → W.heap[D]? = some (.deferred (some [])) → Q .normal { a with defers := { target := .collected D, args := #[] } :: a.defers } W)
    (hstop : ∀ (D : Nat) (c : Code) (pre : List α) (W : World), w.heap.size ≤ D → Sp pre → Ix c pre W → W.heap[D]? = some (.deferred (some [])) → c.wpIn F n P Q { a with defers := { target := .collected D, args := #[] } :: a.defers } W) :
    (Code.rangeFunc g ps assign body).wpIn F n P Q a w := by
  refine wpIn_rangeFunc (fun fn hfn => ?_)
  rw [hro]
  have z1 : (w.alloc (.deferred (some []))).heap.size = w.heap.size + 1 := by simp
  have hL : ((w.alloc (.deferred (some []))).alloc (.loop (recC fn a.tmps ps assign body w.heap.size .ready none))).heap[w.heap.size + 1]? = some (.loop (recC fn a.tmps ps assign body w.heap.size .ready none)) := by
    have := World.alloc_heap_new (w.alloc (.deferred (some []))) (.loop (recC fn a.tmps ps assign body w.heap.size .ready none)); rwa [z1] at this
  have hD : ((w.alloc (.deferred (some []))).alloc (.loop (recC fn a.tmps ps assign body w.heap.size .ready none))).heap[w.heap.size]? = some (.deferred (some [])) := (Below.heap_alloc _ _ _ (by simp)).trans (World.alloc_heap_new w _)
  have hz : ((w.alloc (.deferred (some []))).alloc (.loop (recC fn a.tmps ps assign body w.heap.size .ready none))).heap.size = w.heap.size + 2 := by simp
  have hi : I [] ((w.alloc (.deferred (some []))).alloc (.loop (recC fn a.tmps ps assign body w.heap.size .ready none))) := hI.alloc _ (hI.alloc _ h0)
  have hb1 : Below w0.heap.size w0 ((w.alloc (.deferred (some []))).alloc (.loop (recC fn a.tmps ps assign body w.heap.size .ready none))) := (hb0.alloc hb0.size _).alloc (by simp; have := hb0.size; omega) _
  refine ⟨w.heap.size + 1, [{ target := .collected w.heap.size, args := #[] }], (w.alloc (.deferred (some []))).alloc (.loop (recC fn a.tmps ps assign body w.heap.size .ready none)), { target := .fn (.func gf) lb, args := #[.func (.yield (w.heap.size + 1)) #[] #[]] },
    (w.alloc (.deferred (some []))).alloc (.loop (recC fn a.tmps ps assign body w.heap.size .ready none)), gf, #[.func (.yield (w.heap.size + 1)) #[] #[]] ++ lb, (w.alloc (.deferred (some []))).alloc (.loop (recC fn a.tmps ps assign body w.heap.size .ready none)), ?_, ?_, ?_, ?_, fun _ => h1, ?_⟩
  · exact run_enterLoop_outer _ _ _ _ _
  · simp only [resolve, hg]; simp [go_sem]
  · intro f' hf'; simp [Target.leads] at hf'; subst hf'; exact hFg
  · simp [invoke, go_sem, eg]
  · generalize hW1 : (w.alloc (.deferred (some []))).alloc (.loop (recC fn a.tmps ps assign body w.heap.size .ready none)) = W1 at hL hD hz hi hb1
    have hle : w.heap.size ≤ W1.heap.size := by omega
    refine (hseq (w.heap.size + 1)
      (fun pre W => I pre W ∧ W.heap[w.heap.size + 1]? = some (.loop (recC fn a.tmps ps assign body w.heap.size .ready none)) ∧ W.heap[w.heap.size]? = some (.deferred (some [])))
      (fun pre W => ∃ c, Ix c pre W ∧ W.heap[w.heap.size + 1]? = some (.loop (recC fn a.tmps ps assign body w.heap.size .done (some c))) ∧ W.heap[w.heap.size]? = some (.deferred (some [])))
      W1 hb1
      (fun s X Y row hs hg' hr => ⟨own_later hI hle s X Y row hs.1 hg' hr, grown_later hg' hr (by omega) hs.2.1, grown_later hg' hr (by omega) hs.2.2⟩)
      (fun s X Y row hs hg' hr => let ⟨c, h1, h2, h3⟩ := hs; ⟨c, own_later (hIx c) hle s X Y row h1 hg' hr, grown_later hg' hr (by omega) h2, grown_later hg' hr (by omega) h3⟩)
      (fun pre x W hj hlen => YieldAt.mono (yieldC (Kp := Kp) (l := w.heap.size + 1) hfn (hps x) (Nat.le_succ _) (fun h k => hKt h k) hKb hI hIx hj.1 hj.2.1 (hassign _ x W) (fun W' hr hi' => hbody _ pre x W' (Nat.le_succ _) hr hi' hlen)) ?_) ⟨hi, hL, hD⟩).mono ?_
    · rintro e W' (⟨he, ⟨h2, h3, h4⟩, h5⟩ | ⟨he, c, h2, h3, h4⟩)
      · exact .inl ⟨he, ⟨h2, h3, h4.same _ _ (Nat.le_refl _) (by omega) hj.2.2 rfl⟩, h5, ⟨h4.size, fun k o hk ho hc => h4.same k o (by omega) (by omega) ho hc⟩⟩
      · exact .inr ⟨he, ⟨c, h2, h3, h4.same _ _ (Nat.le_refl _) (by omega) hj.2.2 rfl⟩, ⟨h4.size, fun k o hk ho hc => h4.same k o (by omega) (by omega) ho hc⟩⟩
    · rintro e W2 ⟨⟨v, rfl⟩, (⟨xs, hS, hi, hl, hk⟩ | ⟨pre, hSp, c, hi, hl, hk⟩)⟩
      · exact ⟨none, _, run_endLoop (P := P) hl (by simp [recC]), hdone _ xs _ (Nat.le_refl _) hS (hI.putObj _ hi (Nat.le_succ _) hl rfl) ((World.putObj_heap_other (by omega)).trans hk)⟩
      · exact ⟨some c, _, run_endLoop (P := P) hl (by simp [recC]), hstop _ c pre _ (Nat.le_refl _) hSp ((hIx c).putObj _ hi (Nat.le_succ _) hl rfl) ((World.putObj_heap_other (by omega)).trans hk)⟩

theorem rngCN {l₀ : Nat} {r₀ : Loop} (hro : F.round = some l₀) (hl₀ : w.heap[l₀]? = some (.loop r₀)) (h1 : 1 ≤ n) {gf : Nat} {lb : Array Value} (hg : a.eval g = .func (.func gf) #[] lb) (hFg : F.fn gf) (eg : ∀ args w, (callFunc gf args).run P w = .ok (.enter gf args) w)
    {S Sp : List α → Prop} {N : Nat} {w0 : World} (hseq : SeqC F (n - 1) P gf lb encs Kp S Sp N w0)
    (hKt : ∀ {A B C : World}, Kp A B → Kp B C → Kp A C) (hKb : ∀ (W : World) (l : Nat) (o o' : Obj), w.heap.size ≤ l → W.heap[l]? = some o → o.isCells = false → o.isWalk = false → Kp W (W.putObj l o')) (hb0 : Below w0.heap.size w0 w) (hps : ∀ x, (encs x).size = ps.size)
    (I : List α → World → Prop) (Ix : Code → List α → World → Prop) (hI : OwnFrom w.heap.size I) (hIx : ∀ c, OwnFrom w.heap.size (Ix c)) (h0 : I [] w) (f : Array Value → α → Array Value)
    (hassign : ∀ (l : Nat) (x : α) (W : World) (K : Act → World → Prop), K { tmps := f a.tmps x, defers := [] } W →
      assign.wpIn (F.inRound l) (n - 1 - 1) P (Exit.then K (fun _ _ _ => False)) { tmps := (ps.zip (encs x)).foldl (fun t (p, v) => t.setIfInBounds p v) a.tmps, defers := [] } W)
    (hbody : ∀ (l : Nat) (pre : List α) (x : α) (W : World), w.heap.size ≤ l → (∃ r, W.heap[l]? = some (.loop r)) → I pre W → pre.length < N → body.wpIn (F.inRound l) (n - 1 - 1) P (ownPostG w.heap.size Kp I Ix (pre ++ [x]) W) { tmps := f a.tmps x, defers := [] } W)
    (hdone : ∀ (xs : List α) (W : World), S xs → I xs W → Q .normal a W)
    (hstop : ∀ (c : Code) (pre : List α) (W : World), Sp pre → Ix c pre W → c.wpIn F n P Q a W) :
    (Code.rangeFunc g ps assign body).wpIn F n P Q a w := by
  refine wpIn_rangeFunc (fun fn hfn => ?_)
  rw [hro]
  have hL : (w.alloc (.loop (recC fn a.tmps ps assign body r₀.defers .ready none))).heap[w.heap.size]? = some (.loop (recC fn a.tmps ps assign body r₀.defers .ready none)) := World.alloc_heap_new w _
  have hz : (w.alloc (.loop (recC fn a.tmps ps assign body r₀.defers .ready none))).heap.size = w.heap.size + 1 := by simp
  have hi : I [] (w.alloc (.loop (recC fn a.tmps ps assign body r₀.defers .ready none))) := hI.alloc _ h0
  have hb1 : Below w0.heap.size w0 (w.alloc (.loop (recC fn a.tmps ps assign body r₀.defers .ready none))) := hb0.alloc hb0.size _
  refine ⟨w.heap.size, [], w.alloc (.loop (recC fn a.tmps ps assign body r₀.defers .ready none)), { target := .fn (.func gf) lb, args := #[.func (.yield w.heap.size) #[] #[]] },
    w.alloc (.loop (recC fn a.tmps ps assign body r₀.defers .ready none)), gf, #[.func (.yield w.heap.size) #[] #[]] ++ lb, w.alloc (.loop (recC fn a.tmps ps assign body r₀.defers .ready none)), ?_, ?_, ?_, ?_, fun _ => h1, ?_⟩
  · exact run_enterLoop_inner hl₀ _ _ _ _ _
  · simp only [resolve, hg]; simp [go_sem]
  · intro f' hf'; simp [Target.leads] at hf'; subst hf'; exact hFg
  · simp [invoke, go_sem, eg]
  · generalize hW1 : w.alloc (.loop (recC fn a.tmps ps assign body r₀.defers .ready none)) = W1 at hL hz hi hb1
    have hle : w.heap.size ≤ W1.heap.size := by omega
    refine (hseq w.heap.size
      (fun pre W => I pre W ∧ W.heap[w.heap.size]? = some (.loop (recC fn a.tmps ps assign body r₀.defers .ready none)))
      (fun pre W => ∃ c, Ix c pre W ∧ W.heap[w.heap.size]? = some (.loop (recC fn a.tmps ps assign body r₀.defers .done (some c))))
      W1 hb1
      (fun s X Y row hs hg' hr => ⟨own_later hI hle s X Y row hs.1 hg' hr, grown_later hg' hr (by omega) hs.2⟩)
      (fun s X Y row hs hg' hr => let ⟨c, h1, h2⟩ := hs; ⟨c, own_later (hIx c) hle s X Y row h1 hg' hr, grown_later hg' hr (by omega) h2⟩)
      (fun pre x W hj hlen => YieldAt.mono (yieldC (Kp := Kp) (l := w.heap.size) hfn (hps x) (Nat.le_refl _) (fun h k => hKt h k) hKb hI hIx hj.1 hj.2 (hassign _ x W) (fun W' hr hi' => hbody _ pre x W' (Nat.le_refl _) hr hi' hlen)) ?_) ⟨hi, hL⟩).mono ?_
    · rintro e W' (⟨he, ⟨h2, h3, h4⟩, h5⟩ | ⟨he, c, h2, h3, h4⟩)
      · exact .inl ⟨he, ⟨h2, h3⟩, h5, ⟨h4.size, fun k o hk ho hc => h4.same k o (by omega) (by omega) ho hc⟩⟩
      · exact .inr ⟨he, ⟨c, h2, h3⟩, ⟨h4.size, fun k o hk ho hc => h4.same k o (by omega) (by omega) ho hc⟩⟩
    · rintro e W2 ⟨⟨v, rfl⟩, (⟨xs, hS, hi, hl⟩ | ⟨pre, hSp, c, hi, hl⟩)⟩
      · exact ⟨none, _, run_endLoop (P := P) hl (by simp [recC]), hdone xs _ hS (hI.putObj _ hi (Nat.le_refl _) hl rfl)⟩
      · exact ⟨some c, _, run_endLoop (P := P) hl (by simp [recC]), hstop c pre _ hSp ((hIx c).putObj _ hi (Nat.le_refl _) hl rfl)⟩
end
end Go.Proofs.YthlnfefpdmecaaaGreatDoor

/-
  utf.Runes, walked; what is gathered in a box.
-/
namespace Go.Proofs.YthlnfefpdmecaaaGreatDoor
open Go.RowKit Go.Shelf
attribute [local go_sem] Oper.semAt_some

theorem Own.kept1 {w w' : World} {base : Nat} {e : TypeId} {s : Nat} {A : Option Addr} {n c : Nat} {cs : List (List Value)} {row : Option Nat} (h : Own w base e s A n c cs) (hg : w.grownBy w' row) (hr : ∀ r, row = some r → ∃ o : Obj, w.heap[r]? = some o ∧ o.isCells = false) : Own w' base e s A n c cs := by
  refine h.keep fun a ha => ?_
  have hl := (h.lt a ha).2
  refine hg.block _ hl fun e => ?_
  obtain ⟨o, h1, h2⟩ := hr _ e.symm
  rcases h.2.2.2 with ⟨h0, _⟩ | ⟨g, cap, cur, hv, _, hh, _⟩
  · injection h0 with h0; rw [ha] at h0; cases h0
  · injection hv with hv
    rw [ha] at hv
    injection hv with hv
    subst hv
    rw [hh] at h1
    cases h1
    cases h2
/-- What is gathered in a box: a row of the call's own; nothing else has turned. -/
def Gat (w0 : World) (ab : Nat) (vt e : TypeId) (cs : List (List Value)) (W : World) : Prop :=
  ∃ A n c, Blk W ab vt #[.slice A n c] ∧ Own W w0.heap.size e 1 A n c cs ∧ w0.grownBy W (some ab)
theorem Gat.own {α : Type} {w0 : World} {ab B : Nat} {vt e : TypeId} {f : List α → List (List Value)} (hB : w0.heap.size ≤ B) : OwnFrom B (fun (pre : List α) W => Gat w0 ab vt e (f pre) W) := fun pre X Y row hs hg hr => by
  obtain ⟨A, n, c, h1, h2, h3⟩ := hs
  refine ⟨A, n, c, h1.kept hg (fun r e => (hr r e).2), h2.kept1 hg (fun r e => (hr r e).2), ⟨hg.os.trans h3.os, hg.tape.trans h3.tape, hg.output.trans h3.output, Nat.le_trans h3.size hg.size, fun k hk hne => ?_⟩⟩
  refine (hg.block k (Nat.lt_of_lt_of_le hk h3.size) (fun e => ?_)).trans (h3.block k hk hne)
  have := (hr k e.symm).1
  omega
/-- One step of gathering: the row has grown in V (behind W), then the box is written. -/
theorem Gat.step {w0 W V : World} {ab : Nat} {vt e : TypeId} {A A3 : Option Addr} {n c n3 c3 : Nat} {cs cs3 : List (List Value)} (hab : ab < w0.heap.size) (hB : Blk W ab vt #[.slice A n c]) (ho : Own W w0.heap.size e 1 A n c cs) (hg : w0.grownBy W (some ab))
    (hV : W.grownBy V (A.map (·.block))) (ho3 : Own V w0.heap.size e 1 A3 n3 c3 cs3) :
    KeepsFrom w0.heap.size W (V.setCell ⟨ab, 0, none⟩ (.slice A3 n3 c3)) ∧ KeepsWalks W (V.setCell ⟨ab, 0, none⟩ (.slice A3 n3 c3)) ∧ Gat w0 ab vt e cs3 (V.setCell ⟨ab, 0, none⟩ (.slice A3 n3 c3)) := by
  have hzW := hg.size
  have hA := ho.lt
  have hrow : ∀ (j : Nat) (o : Obj), A.map (·.block) = some j → W.heap[j]? = some o → o.isCells = true := fun j o hj hoo => by
    cases A with
    | none => simp at hj
    | some q =>
      simp at hj; subst hj
      rcases ho.2.2.2 with ⟨h0, _⟩ | ⟨g, cap, cur, hv, _, hh, _⟩
      · injection h0 with h0; cases h0
      · injection hv with hv
        injection hv with hv
        subst hv
        rw [hh] at hoo
        cases hoo; rfl
  have hkk := (KeepsOthers.of_grownBy hV hrow).trans (KeepsOthers.setCell V ⟨ab, 0, none⟩ (.slice A3 n3 c3))
  have hge : ∀ q, A.map (·.block) = some q → w0.heap.size ≤ q := fun q hq => by
    cases A with
    | none => simp at hq
    | some z => have := (hA z rfl).1; simp at hq; omega
  have hblk : ∀ k, k < w0.heap.size → V.heap[k]? = W.heap[k]? := fun k hk => hV.block k (by omega) (fun e => by have := hge k e.symm; omega)
  have hz3 : W.heap.size ≤ V.heap.size := hV.size
  have hB3 : Blk V ab vt #[.slice A n c] := (hblk ab hab).trans hB
  refine ⟨hkk.from _, hkk.walks, A3, n3, c3, hB3.set_ 0 _, ho3.keep (fun q hq => Below.heap_setCell V ⟨ab, 0, none⟩ _ _ (by have := (ho3.lt q hq).1; simp only; omega)), ?_⟩
  refine ⟨hV.os.trans hg.os, hV.tape.trans hg.tape, hV.output.trans hg.output, by simpa [World.setCell] using Nat.le_trans hzW hz3, fun k hk hne => ?_⟩
  exact (Below.heap_setCell V ⟨ab, 0, none⟩ _ k (fun e => hne (by rw [e]))).trans ((hblk k hk).trans (hg.block k hk hne))
/-- A rune's number as a list's item. -/
def encRu (x : Nat × Nat × Nat) : List Value := [.int .i32 (x.1 : Nat)]
theorem infoI32 : (Tryz.prog.info? 21).map (fun i => (i.zero, i.size, i.bytes)) = some (some (.int .i32 0), 1, 4) := by kernel_rfl
set_option maxRecDepth 100000 in
set_option maxHeartbeats 4000000 in
theorem eRunes_any (s : ByteArray) (w : World) (hs : s.size ≤ 1000000) : Calls Tryz.prog 34 #[.string s] w fun e w' => ∃ A n c, e = .returned (.slice A n c) ∧ Own w' w.heap.size 21 1 A n c ((runesP s).map encRu) ∧ RowKit.Below w.heap.size w w' := by
  have HB : RowKit.Below w.heap.size w (w.alloc (.cells #[.slice none 0 0] 43)) := (RowKit.Below.refl _ _).alloc (Nat.le_refl _) _
  have B0 : Blk (w.alloc (.cells #[.slice none 0 0] 43)) w.heap.size 43 #[.slice none 0 0] := Blk.new _ _ _
  refine (callsIn_wide (n := 6)).1 ?_
  refine callsIn_of_wp_marks Tryz.func34 rfl trivial ?_ rfl
  simp only [Tryz.ntmps34, List.size_toArray, List.length_cons, List.length_nil, Nat.reduceAdd, Nat.reduceSub, Array.replicate_succ, Array.replicate_zero, List.push_toArray, List.append_toArray, List.nil_append, List.cons_append]
  refine wpIn_wide.2 ?_
  go_wp2_with fail
  generalize (w.alloc (.cells #[.slice none 0 0] 43)) = w0 at HB B0 ⊢
  refine (uEach_any s w0).mono ?_
  rintro e w1 ⟨bs, rfl, hc, hb⟩
  have B1 := B0.below hb
  have hzb : w.heap.size < w1.heap.size := B1.lt
  replace HB := below_two HB hb
  have hrl := runesP_len s
  clear B0 hb
  go_wp2_with fail
  refine (wpIn_wide (n := 6)).1 ?_
  refine rngH rfl (by decide) (gf := 132) (lb := #[.pointer (some ⟨bs, 0, none⟩)]) rfl trivial (enters_of Tryz.func132 (by kernel_rfl) rfl)
    (uEach_stops 5 (by decide) w1 s bs hc) (fun h k => h.trans k) walksK_b (RowKit.Below.refl _ _) (fun _ => rfl) (fun _ => KeepsWalks.refl _)
    (fun (pre : List (Nat × Nat × Nat)) W => Gat w1 w.heap.size 43 21 (pre.map encRu) W) (fun _ _ _ => False) (Gat.own (f := fun (pre : List (Nat × Nat × Nat)) => pre.map encRu) (Nat.le_refl _)) (fun _ _ _ _ _ hs _ _ => hs)
    ⟨none, 0, 0, B1, Own.nil_ _ _ _ _, only_refl _ _⟩
    (fun T x => ((T.setIfInBounds 8 (.int .i64 (x.2.1 : Nat))).setIfInBounds 9 (.int .i32 (x.1 : Nat))).setIfInBounds 5 (.int .i32 (x.1 : Nat))) ?assign ?body ?done ?stop
  case assign =>
    intro l2 x V K hK
    simp only [List.setIfInBounds_toArray, List.set_cons_succ, List.set_cons_zero] at hK
    simp only [encU]
    gi_wp2
    exact hK
  case stop =>
    rintro D cc pre W _ hp h _
    exact absurd h id
  case body =>
    rintro l2 pre ⟨r, pp, qq⟩ W hl2 _ ⟨A9, n9, c9, BaW, oW, hgW⟩ hlen
    simp only [List.setIfInBounds_toArray, List.set_cons_succ, List.set_cons_zero]
    obtain ⟨i0, hi0, hz0, hz1, hz2⟩ := info_parts infoI32
    have hl9 : pre.length = n9 := by have h1 := oW.len; simpa using h1
    have hn9 : n9 ≤ 1000000 := by omega
    have c10 := BaW.cell 0
    simp only [List.getElem?_toArray, List.getElem?_cons_zero] at c10
    have hzW := hgW.size
    have hA9 := oW.lt
    have f10 := BaW.frozen 0
    clear hl9 hlen
    gi_wp2_with (gi_at_builtin; go_must (refine wpListIn_app rfl (.tmp 10) (.tmp 12) _ rfl w1.heap.size 21 i0 _ 1 4 Tryz.underlying43 hi0 hz0 hz1 hz2 rfl (by omega) A9 n9 c9 (pre.map encRu) rfl (oW.alloc _) _ 1 1 [[.int .i32 (r : Nat)]] rfl rfl (Rd.newAt (by simp) rfl) (fun y hy => by rw [List.mem_singleton] at hy; subst hy; exact ⟨rfl, by simp [Value.oneCell']⟩) (by unfold maxLen; omega) (by omega) (by simp; omega) ?_); intro A3 c3 w3 ho3 hg3 hA3; have B3 := (BaW.alloc (.cells #[.int .i32 (r : Nat)] 21)).grown hg3 (fun e => by cases A9 with | none => simp at e | some q => have := (hA9 q rfl).1; simp at e; omega); have f3 := B3.frozen 0; have c3b := B3.cell 0; simp only [List.getElem?_toArray, List.getElem?_cons_zero] at c3b)
    have hV : W.grownBy w3 (A9.map (·.block)) := only_trans (only_alloc (only_refl W _) _) hg3
    obtain ⟨k1, k2, k3⟩ := Gat.step hzb BaW oW hgW hV ho3
    exact ⟨k1, k2, by show Gat _ _ _ _ (List.map encRu _) _; rw [List.map_append]; exact k3⟩
  case done =>
    rintro D ys V hD hys ⟨A, n, c, B, ho, hg⟩ hK
    have c10 := B.cell 0
    simp only [List.getElem?_toArray, List.getElem?_cons_zero] at c10
    have hys2 : ys.map encRu = (runesP s).map encRu := by rw [hys]
    rw [hys2] at ho
    go_wp2
    refine ⟨by simp, .inl ⟨_, _, rfl, run_takeDeferred hK, ?_⟩⟩
    refine ⟨_, results_tmp rfl _ _ _, A, n, c, rfl, (ho.keep fun a ha => World.putObj_heap_other (fun e => ?_)).more (by omega), ?_⟩
    · rcases ho.2.2.2 with ⟨h0, _⟩ | ⟨g, cap, cur, hv, _, hh, _⟩
      · injection h0 with h0; rw [h0] at ha; cases ha
      · injection hv with hv
        rw [hv] at ha
        injection ha with ha
        subst ha
        simp only at e
        subst e
        rw [hh] at hK
        cases hK
    · exact (HB.trans (below_only (B := w.heap.size) hg (by omega) (Nat.le_refl _))).trans (belowK_b (w := w) (Nat.le_refl _) _ D _ _ (by omega) hK rfl rfl)
end Go.Proofs.YthlnfefpdmecaaaGreatDoor

/-
  runes.Each: the iterator over a set's runes.
-/
namespace Go.Proofs.YthlnfefpdmecaaaGreatDoor
open Go.RowKit Go.Shelf
attribute [local go_sem] Oper.semAt_some

/-- The runes of one range; of a list of ranges. -/
def spanR (lo : Int) (n : Nat) : List Int := (List.range n).map fun (i : Nat) => lo + (i : Int)
def eachL (L : List (Int × Int)) : List Int := L.flatMap fun x => spanR x.1 (x.2 - x.1 + 1).toNat
theorem spanR_succ (lo : Int) (n : Nat) : spanR lo (n + 1) = spanR lo n ++ [lo + (n : Int)] := by unfold spanR; rw [List.range_succ, List.map_append]; rfl
theorem spanR_prefix (lo : Int) {j n : Nat} (h : j ≤ n) : spanR lo j <+: spanR lo n := by
  obtain ⟨k, rfl⟩ := Nat.exists_eq_add_of_le h
  induction k with
  | zero => exact List.prefix_refl _
  | succ k ih => rw [← Nat.add_assoc, spanR_succ]; exact (ih (by omega)).trans (List.prefix_append _ _)
theorem eachL_take {L : List (Int × Int)} {i : Nat} {x : Int × Int} (h : L[i]? = some x) : eachL (L.take (i + 1)) = eachL (L.take i) ++ spanR x.1 (x.2 - x.1 + 1).toNat := by
  unfold eachL; rw [List.take_add_one, h, Option.toList_some, List.flatMap_append]; simp
theorem eachL_prefix {L : List (Int × Int)} {i j : Nat} {x : Int × Int} (h : L[i]? = some x) (hj : j ≤ (x.2 - x.1 + 1).toNat) : eachL (L.take i) ++ spanR x.1 j <+: eachL L := by
  have h1 : eachL (L.take i) ++ spanR x.1 j <+: eachL (L.take (i + 1)) := by rw [eachL_take h]; exact (List.prefix_append_right_inj _).2 (spanR_prefix _ hj)
  refine h1.trans ?_
  refine ⟨eachL (L.drop (i + 1)), ?_⟩
  unfold eachL
  rw [← List.flatMap_append, List.take_append_drop]
/-- Cells from block m on stand as they stood, but for the blocks of X. -/
structure KC (m : Nat) (X : Nat → Prop) (W W' : World) : Prop where
  size : W.heap.size ≤ W'.heap.size
  same : ∀ (k : Nat) (o : Obj), m ≤ k → ¬ X k → W.heap[k]? = some o → o.isCells = true → W'.heap[k]? = some o
  walks : KeepsWalks W W'
theorem KC.refl (m : Nat) (X : Nat → Prop) (W : World) : KC m X W W := ⟨Nat.le_refl _, fun _ _ _ _ h _ => h, KeepsWalks.refl _⟩
theorem KC.trans {m : Nat} {X : Nat → Prop} {A B C : World} (h : KC m X A B) (k : KC m X B C) : KC m X A C :=
  ⟨Nat.le_trans h.size k.size, fun i o hm hx ho hc => k.same i o hm hx (h.same i o hm hx ho hc) hc, h.walks.trans k.walks⟩
theorem KC.put {m : Nat} {X : Nat → Prop} (W : World) (l : Nat) (o o' : Obj) (h : W.heap[l]? = some o) (hc : o.isCells = false) (hw : o.isWalk = false) : KC m X W (W.putObj l o') :=
  ⟨by simp, fun k o2 _ _ hk hk2 => by
    by_cases e : k = l
    · subst e; rw [h] at hk; cases hk; rw [hc] at hk2; cases hk2
    · exact (World.putObj_heap_other e).trans hk, KeepsWalks.putObj o' h hw⟩
theorem KC.blk {m : Nat} {X : Nat → Prop} {W W' : World} (h : KC m X W W') {g : Nat} {t : TypeId} {cs : Array Value} (hB : Blk W g t cs) (hm : m ≤ g) (hx : ¬ X g) : Blk W' g t cs := h.same g _ hm hx hB rfl
theorem KC.cell {m : Nat} {X : Nat → Prop} {W W' : World} (h : KC m X W W') {b i : Nat} {v : Value} (hv : W.cell? ⟨b, i, none⟩ = some v) (hm : m ≤ b) (hx : ¬ X b) : W'.cell? ⟨b, i, none⟩ = some v := by
  cases ho : W.heap[b]? with
  | none => unfold World.cell? at hv; rw [ho] at hv; cases hv
  | some o =>
    cases hc : o.isCells with
    | true => exact (World.cell?_of_block ((h.same b o hm hx ho hc).trans ho.symm)).trans hv
    | false => unfold World.cell? at hv; rw [ho] at hv; cases o <;> simp_all [Obj.isCells]
theorem KC.rd {m : Nat} {X : Nat → Prop} {w w' : World} {s : Nat} {A : Option Addr} {cs : List (List Value)} (h : KC m X w w') (hr : Rd w s A cs) (hA : ∀ a, A = some a → m ≤ a.block ∧ ¬ X a.block) : Rd w' s A cs :=
  hr.keep fun b off _ _ ha hp => h.cell hp (hA ⟨b, off, none⟩ ha).1 (hA ⟨b, off, none⟩ ha).2

/-- What the iterator's box holds; m: where its blocks begin. -/
def EachIt (w : World) (L : List (Int × Int)) (m bx : Nat) : Prop :=
  ∃ A na ca, w.cell? ⟨bx, 0, none⟩ = some (.slice A na ca) ∧ Rd w 2 A (L.map encR) ∧ L.length = na ∧ na ≤ 4000000 ∧ m ≤ bx ∧ ∀ a, A = some a → m ≤ a.block ∧ a.block < w.heap.size
end Go.Proofs.YthlnfefpdmecaaaGreatDoor

/-
  WHAT AN ITERATOR NEEDS TO BE KEPT while it goes over a list of its own: the blocks of one element type. No program in sight.
-/
namespace Go.Proofs.YthlnfefpdmecaaaGreatDoor
open Go Go.RowKit

/-- The blocks of the element type t stand as they stood, but for those of X. -/
def KT (t : TypeId) (X : Nat → Prop) (W W' : World) : Prop := W.heap.size ≤ W'.heap.size ∧ ∀ (k : Nat) (cur : Array Value) (fz : Nat × Nat), ¬ X k → W.heap[k]? = some (.cells cur t fz) → W'.heap[k]? = some (.cells cur t fz)
/-- A list's number, by its place. -/
theorem Rd.atQ {w : World} {A : Option Addr} {l : List Nat} {k x : Nat} (h : Rd w 1 A (l.map fun a => [.int .i64 (a : Nat)])) (hk : l[k]? = some x) : ∃ b off, A = some ⟨b, off, none⟩ ∧ w.cell? ⟨b, off + k, none⟩ = some (.int .i64 (x : Nat)) := by
  obtain ⟨b, off, rfl, hc⟩ := h (by intro e; have := congrArg List.length e; rw [List.length_map] at this; have h2 := (List.getElem?_eq_some_iff.1 hk).1; simp at this; rw [this] at h2; simp at h2)
  have h0 := hc k 0 [.int .i64 (x : Nat)] (.int .i64 (x : Nat)) (by simp [hk]) rfl
  refine ⟨b, off, rfl, ?_⟩
  simpa using h0
/-- A list that was just laid. -/
theorem Rd.manyQ (W : World) (t : TypeId) (s : Nat) (cs : List (List Value)) (arr : Array Value) (harr : arr = cs.flatten.toArray) (h : ∀ x ∈ cs, x.length = s) : Rd (W.alloc (.cells arr t)) s (some ⟨W.heap.size, 0, none⟩) cs := fun _ =>
  ⟨W.heap.size, 0, rfl, fun k j x u hx hu => by
    subst harr
    rw [(Blk.new W t cs.flatten.toArray).cell (0 + k * s + j), List.getElem?_toArray, Nat.zero_add]
    exact flatten_get h hx hu⟩
theorem kcQ_setCell {m : Nat} {X : Nat → Prop} {A B : World} (h : KC m X A B) {p : Addr} (hp : p.block < m ∨ X p.block) (u : Value) : KC m X A (B.setCell p u) :=
  ⟨by simpa [World.setCell] using h.size, fun k o hm hx ho hc => (Below.heap_setCell B p u k (by
    rintro rfl
    rcases hp with hp | hp
    · omega
    · exact hx hp)).trans (h.same k o hm hx ho hc), h.walks.trans (KeepsWalks.setCell B p u)⟩
theorem kcQ_below {m : Nat} {X : Nat → Prop} {A B : World} (h : Below A.heap.size A B) : KC m X A B :=
  ⟨h.size, fun k _ _ _ hk _ => (h.block k (Array.getElem?_eq_some_iff.1 hk).1).trans hk, ⟨h.size, fun k _ hk _ => (h.block k (Array.getElem?_eq_some_iff.1 hk).1).trans hk⟩⟩
section
variable {t : TypeId} {X : Nat → Prop} {A B C : World}
theorem KT.refl (t : TypeId) (X : Nat → Prop) (W : World) : KT t X W W := ⟨Nat.le_refl _, fun _ _ _ _ h => h⟩
theorem KT.trans (h : KT t X A B) (k : KT t X B C) : KT t X A C := ⟨Nat.le_trans h.1 k.1, fun i c z hx hc => k.2 i c z hx (h.2 i c z hx hc)⟩
theorem KT.of_kc (h : KC 0 X A B) : KT t X A B := ⟨h.size, fun k _ _ hx hk => h.same k _ (Nat.zero_le _) hx hk rfl⟩
theorem KT.put (W : World) (l : Nat) (o o' : Obj) (h : W.heap[l]? = some o) (hc : o.isCells = false) : KT t X W (W.putObj l o') :=
  ⟨by simp, fun k c z _ hk => by
    by_cases e : k = l
    · subst e; rw [h] at hk; cases hk; cases hc
    · exact (World.putObj_heap_other e).trans hk⟩
theorem KT.below (h : Below A.heap.size A B) : KT t X A B := ⟨h.size, fun k _ _ _ hk => (h.block k (Array.getElem?_eq_some_iff.1 hk).1).trans hk⟩
theorem KT.own {base : Nat} {s : Nat} {P : Option Addr} {n c : Nat} {cs : List (List Value)} (h : KT t X A B) (ho : Own A base t s P n c cs) (hX : ∀ b, X b → b < base) : Own B base t s P n c cs := by
  refine ho.keep fun a ha => ?_
  rcases ho.2.2.2 with ⟨h0, _⟩ | ⟨g, cap, cur, hv, hg, hh, _⟩
  · injection h0 with h0; rw [h0] at ha; cases ha
  · injection hv with hv
    rw [hv] at ha
    injection ha with ha
    subst ha
    exact (h.2 _ _ _ (fun hx => by have := hX _ hx; omega) hh).trans hh.symm
theorem KT.blk (h : KT t X A B) {g : Nat} {cs : Array Value} (hB : Blk A g t cs) (hx : ¬ X g) : Blk B g t cs := h.2 g cs (0, 0) hx hB
theorem KT.setCell {b : Nat} {t' : TypeId} {cs : Array Value} (hB : Blk A b t' cs) (ht : t' ≠ t) (i : Nat) (u : Value) : KT t X A (A.setCell ⟨b, i, none⟩ u) :=
  ⟨by simp [World.setCell], fun k cur fz _ hk => (Below.heap_setCell A ⟨b, i, none⟩ u k (fun e => by
    subst e
    have h2 : A.heap[k]? = some _ := hB
    rw [h2] at hk
    injection hk with hk
    injection hk with _ hk
    exact ht hk)).trans hk⟩
/-- A step of gathering, in a box and a row of other types. -/
theorem Gat.stepT {w0 W V : World} {ab : Nat} {vt e : TypeId} {P : Option Addr} {n c : Nat} {cs : List (List Value)} (he : e ≠ t) (hv : vt ≠ t) (hB : Blk W ab vt #[.slice P n c]) (ho : Own W w0.heap.size e 1 P n c cs) (hV : W.grownBy V (P.map (·.block))) (x : Value) :
    KT t X W (V.setCell ⟨ab, 0, none⟩ x) := by
  refine ⟨by simpa [World.setCell] using hV.size, fun k cur fz _ hk => ?_⟩
  have h1 : k ≠ ab := fun e => by
    subst e
    have h2 : W.heap[k]? = some _ := hB
    rw [h2] at hk
    injection hk with hk
    injection hk with _ hk
    exact hv hk
  refine (Below.heap_setCell V ⟨ab, 0, none⟩ _ k h1).trans ((hV.block k (Array.getElem?_eq_some_iff.1 hk).1 (fun e2 => ?_)).trans hk)
  rcases ho.2.2.2 with ⟨h0, _⟩ | ⟨g, cap, cur2, hv2, _, hh, _⟩
  · injection h0 with h0; rw [h0] at e2; cases e2
  · injection hv2 with hv2
    rw [hv2] at e2
    injection e2 with e2
    simp only at e2
    subst e2
    rw [hh] at hk
    injection hk with hk
    injection hk with _ hk
    exact he hk
end
end Go.Proofs.YthlnfefpdmecaaaGreatDoor

/-
  PLAIN: letters: where a text is cut by the classes of its runes; what is never cut; a text's beginning. No walk.
-/
namespace Go.Proofs.YthlnfefpdmecaaaGreatDoor

def endG (c : Nat) : Bool := c == 1 || c == 2 || c == 3
/-- Two classes side by side that are never parted. -/
def joinG (x y : Nat) : Bool :=
  if x = 1 ∧ y = 2 then true
  else if endG x || endG y then false
  else if y == 4 || y == 5 || y == 6 || x == 7 then true
  else if x = 8 then y == 8 || y == 9 || y == 11
  else if x = 9 ∨ x = 11 then y == 9 || y == 10
  else x == 10 && y == 10
/-- What is known ahead of a rune. -/
structure GS where
  prev : Nat
  pict : Bool
  joined : Bool
  flags : Nat
def GS.cut (st : GS) (y : Nat) : Bool := !(joinG st.prev y || st.joined && y == 12 || y == 13 && st.flags % 2 == 1)
def GS.next (st : GS) (y : Nat) : GS := ⟨y, y == 12 || st.pict && y == 4, st.pict && y == 5, if y = 13 then st.flags + 1 else 0⟩
def GS.first (y : Nat) : GS := ⟨y, y == 12, false, if y = 13 then 1 else 0⟩
def cutSt : GS → List Nat → List Bool
  | _, [] => []
  | st, y :: r => st.cut y :: cutSt (st.next y) r
/-- Ahead of which runes a text is cut. -/
def cutsG : List Nat → List Bool
  | [] => []
  | y :: r => true :: cutSt (GS.first y) r
def stOf : GS → List Nat → GS
  | st, [] => st
  | st, y :: r => stOf (st.next y) r
theorem stOf_snoc : ∀ (st : GS) (l : List Nat) (y : Nat), stOf st (l ++ [y]) = (stOf st l).next y
  | _, [], _ => rfl
  | st, z :: l, y => stOf_snoc (st.next z) l y
theorem cutSt_snoc : ∀ (st : GS) (l : List Nat) (y : Nat), cutSt st (l ++ [y]) = cutSt st l ++ [(stOf st l).cut y]
  | _, [], _ => rfl
  | st, z :: l, y => by rw [List.cons_append, cutSt, cutSt_snoc (st.next z) l y]; rfl
theorem cutSt_len : ∀ (st : GS) (l : List Nat), (cutSt st l).length = l.length
  | _, [] => rfl
  | st, y :: r => by rw [cutSt, List.length_cons, cutSt_len (st.next y) r, List.length_cons]
theorem cutsG_len (l : List Nat) : (cutsG l).length = l.length := by
  cases l with
  | nil => rfl
  | cons y r => rw [cutsG, List.length_cons, cutSt_len, List.length_cons]
theorem cutSt_take : ∀ (st : GS) (l : List Nat) (k : Nat), cutSt st (l.take k) = (cutSt st l).take k
  | _, [], k => by simp [cutSt]
  | st, y :: r, 0 => by simp [cutSt]
  | st, y :: r, k + 1 => by rw [List.take_succ_cons, cutSt, cutSt, List.take_succ_cons, cutSt_take (st.next y) r k]
theorem cutsG_take (l : List Nat) (k : Nat) : cutsG (l.take k) = (cutsG l).take k := by
  cases l with
  | nil => simp [cutsG]
  | cons y r =>
    cases k with
    | zero => simp [cutsG]
    | succ k => rw [List.take_succ_cons, cutsG, cutsG, List.take_succ_cons, cutSt_take]
/-- What the state keeps. -/
structure GS.Good (st : GS) : Prop where
  joined : st.joined = true → st.prev = 5
  flags : st.flags ≠ 0 → st.prev = 13
theorem GS.first_good (y : Nat) : (GS.first y).Good := ⟨fun h => by simp [GS.first] at h, fun h => by unfold GS.first at h ⊢; simp only at h ⊢; split at h; assumption; exact absurd rfl h⟩
theorem GS.next_good (st : GS) (y : Nat) : (st.next y).Good := ⟨fun h => by simp [GS.next] at h ⊢; exact h.2, fun h => by unfold GS.next at h ⊢; simp only at h ⊢; split at h; assumption; exact absurd rfl h⟩
theorem stOf_good : ∀ {st : GS} (l : List Nat), st.Good → (stOf st l).Good
  | _, [], h => h
  | st, y :: r, _ => stOf_good r (GS.next_good st y)
theorem stOf_prev : ∀ (st : GS) (l : List Nat), (stOf st l).prev = (l.getLast?).getD st.prev
  | _, [] => rfl
  | st, [y] => rfl
  | st, y :: z :: r => by
    have := stOf_prev (st.next y) (z :: r)
    rw [stOf, this, List.getLast?_cons_cons]
    cases h : (z :: r).getLast? with
    | none => simp at h
    | some x => rfl
theorem cutSt_at : ∀ (st : GS) (l : List Nat) (k : Nat) (y : Nat), l[k]? = some y → (cutSt st l)[k]? = some ((stOf st (l.take k)).cut y)
  | _, [], _, _, h => by simp at h
  | st, z :: l, 0, y, h => by simp at h; subst h; rfl
  | st, z :: l, k + 1, y, h => by
    rw [List.getElem?_cons_succ] at h
    rw [cutSt, List.getElem?_cons_succ, cutSt_at (st.next z) l k y h]; rfl
/-- Ahead of a rune behind another one: a state that knows the class of that. -/
theorem cutsG_at {l : List Nat} {k p y : Nat} (hp : l[k]? = some p) (hy : l[k + 1]? = some y) : ∃ st : GS, st.Good ∧ st.prev = p ∧ (cutsG l)[k + 1]? = some (st.cut y) := by
  cases l with
  | nil => simp at hp
  | cons z l =>
    rw [List.getElem?_cons_succ] at hy
    refine ⟨stOf (GS.first z) (l.take k), stOf_good _ (GS.first_good z), ?_, by rw [cutsG, List.getElem?_cons_succ, cutSt_at _ _ _ _ hy]⟩
    rw [stOf_prev]
    cases k with
    | zero => simp at hp; subst hp; rfl
    | succ k =>
      rw [List.getElem?_cons_succ] at hp
      have hlt := (List.getElem?_eq_some_iff.1 hp).1
      rw [List.getLast?_eq_getElem?, List.length_take, Nat.min_eq_left (by omega), Nat.add_sub_cancel, List.getElem?_take_of_lt (by omega), hp]; rfl
/-- What is never cut. -/
theorem cut_joined {st : GS} {y : Nat} (h : st.prev = 1 ∧ y = 2 ∨ endG st.prev = false ∧ (y = 4 ∨ y = 5 ∨ y = 6)) : st.cut y = false := by
  have : joinG st.prev y = true := by
    rcases h with ⟨h1, h2⟩ | ⟨h1, h2⟩
    · unfold joinG; rw [if_pos ⟨h1, h2⟩]
    · have hy : endG y = false := by rcases h2 with rfl | rfl | rfl <;> rfl
      unfold joinG
      rw [if_neg (by rcases h2 with rfl | rfl | rfl <;> omega), h1, hy, if_neg (by simp)]
      rcases h2 with rfl | rfl | rfl <;> simp
  unfold GS.cut; rw [this]; rfl
/-- What is always cut. -/
theorem cut_always {st : GS} {y : Nat} (hg : st.Good) (h1 : ¬ (st.prev = 1 ∧ y = 2)) (h2 : endG st.prev = true ∨ endG y = true) : st.cut y = true := by
  have hj : joinG st.prev y = false := by
    unfold joinG
    rw [if_neg h1, if_pos (by rcases h2 with h | h <;> rw [h] <;> simp)]
  have ha : (st.joined && y == 12) = false := by
    cases hjn : st.joined with
    | false => rfl
    | true =>
      have hp := hg.joined hjn
      rcases h2 with h | h
      · rw [hp] at h; cases h
      · cases hy : (y == 12) with
        | false => rfl
        | true => rw [beq_iff_eq.1 hy] at h; cases h
  have hb : (y == 13 && st.flags % 2 == 1) = false := by
    cases hy : (y == 13) with
    | false => rfl
    | true =>
      have hy' := beq_iff_eq.1 hy
      cases hf : (st.flags % 2 == 1) with
      | false => rfl
      | true =>
        have := beq_iff_eq.1 hf
        have hp := hg.flags (by omega)
        rcases h2 with h | h
        · rw [hp] at h; cases h
        · rw [hy'] at h; cases h
  unfold GS.cut; rw [hj, ha, hb]; rfl
/-- Where all classes are plain every rune is cut off. -/
theorem cut_plain {st : GS} {y : Nat} (hg : st.Good) (h1 : st.prev = 0 ∨ st.prev = 2 ∨ st.prev = 3) (h2 : y = 0 ∨ y = 2 ∨ y = 3) : st.cut y = true := by
  by_cases he : endG st.prev = true ∨ endG y = true
  · exact cut_always hg (by omega) he
  · have e1 : st.prev = 0 := by
      rcases h1 with h | h | h
      · exact h
      · exact absurd (.inl (by rw [h]; rfl)) he
      · exact absurd (.inl (by rw [h]; rfl)) he
    have e2 : y = 0 := by
      rcases h2 with h | h | h
      · exact h
      · exact absurd (.inr (by rw [h]; rfl)) he
      · exact absurd (.inr (by rw [h]; rfl)) he
    subst e2
    unfold GS.cut; rw [e1]
    cases st.joined <;> rfl

/-- The places of a list of runes at which it is cut. -/
def pickG : List (Nat × Nat × Nat) → List Bool → List Nat
  | x :: r, b :: t => (if b then [x.2.1] else []) ++ pickG r t
  | _, _ => []
def clsG (g : Int → Nat) (r : List (Nat × Nat × Nat)) : List Nat := r.map fun x => g x.1
def startsG (g : Int → Nat) (s : ByteArray) : List Nat := pickG (runesP s) (cutsG (clsG g (runesP s)))
/-- The bounds of a text. -/
def boundsG (g : Int → Nat) (s : ByteArray) : List Nat := if s.size = 0 then [] else startsG g s ++ [s.size]
theorem pickG_snoc : ∀ (r : List (Nat × Nat × Nat)) (t : List Bool) (x : Nat × Nat × Nat) (b : Bool), t.length = r.length → pickG (r ++ [x]) (t ++ [b]) = pickG r t ++ (if b then [x.2.1] else [])
  | [], [], x, b, _ => by simp [pickG]
  | [], _ :: _, _, _, h => by simp at h
  | _ :: _, [], _, _, h => by simp at h
  | y :: r, c :: t, x, b, h => by
    rw [List.cons_append, List.cons_append, pickG, pickG, pickG_snoc r t x b (by simpa using h), List.append_assoc]
theorem pickG_mem : ∀ {r : List (Nat × Nat × Nat)} {t : List Bool} {a : Nat}, a ∈ pickG r t ↔ ∃ (k : Nat) (x : Nat × Nat × Nat), r[k]? = some x ∧ t[k]? = some true ∧ x.2.1 = a
  | [], t, a => by simp [pickG]
  | _ :: _, [], a => by simp [pickG]
  | x :: r, b :: t, a => by
    rw [pickG, List.mem_append, pickG_mem (r := r) (t := t)]
    constructor
    · rintro (h | ⟨k, y, h1, h2, h3⟩)
      · cases b with
        | false => simp at h
        | true => simp at h; exact ⟨0, x, rfl, rfl, h.symm⟩
      · exact ⟨k + 1, y, by simpa using h1, by simpa using h2, h3⟩
    · rintro ⟨k, y, h1, h2, h3⟩
      cases k with
      | zero => simp at h1 h2; subst h1; subst h2; exact .inl (by simp [h3])
      | succ k => exact .inr ⟨k, y, by simpa using h1, by simpa using h2, h3⟩
theorem pickG_take : ∀ (r : List (Nat × Nat × Nat)) (t : List Bool) (z : Nat), r.Pairwise (fun x y => x.2.1 < y.2.1) → pickG (r.takeWhile fun x => decide (x.2.1 < z)) (t.take (r.takeWhile fun x => decide (x.2.1 < z)).length) = (pickG r t).filter fun a => decide (a < z)
  | [], t, z, _ => by simp [pickG]
  | x :: r, [], z, _ => by simp [pickG]
  | x :: r, b :: t, z, h => by
    rw [List.pairwise_cons] at h
    rw [List.takeWhile_cons]
    by_cases hx : x.2.1 < z
    · rw [if_pos (by simpa using hx), List.length_cons, List.take_succ_cons, pickG, pickG, pickG_take r t z h.2, List.filter_append]
      congr 1
      cases b with
      | false => rfl
      | true => simp [hx]
    · rw [if_neg (by simpa using hx)]
      symm
      rw [show pickG [] (List.take ([] : List (Nat × Nat × Nat)).length (b :: t)) = [] by simp [pickG], List.filter_eq_nil_iff]
      intro a ha
      obtain ⟨k, y, h1, _, rfl⟩ := pickG_mem.1 ha
      have : x.2.1 ≤ y.2.1 := by
        cases k with
        | zero => simp at h1; subst h1; exact Nat.le_refl _
        | succ k => rw [List.getElem?_cons_succ] at h1; exact Nat.le_of_lt (h.1 y (List.mem_of_getElem? h1))
      simp; omega

theorem runes_rise (s : ByteArray) : (runesP s).Pairwise fun x y => x.2.1 < y.2.1 := by
  have : ∀ (f a : Nat), (runesGo s f a).Pairwise fun x y => x.2.1 < y.2.1 := by
    intro f
    induction f with
    | zero => intro a; exact .nil
    | succ f ih =>
      intro a
      rw [runesGo]
      split
      · rename_i hlt
        have hd := dec_bd s a hlt
        refine .cons (fun y hy => ?_) (ih _)
        have := runesGo_bd _ _ y hy
        simp only; omega
      · exact .nil
  exact this _ _
theorem clsG_len (g : Int → Nat) (r : List (Nat × Nat × Nat)) : (clsG g r).length = r.length := by simp [clsG]
/-- A text's beginning up to a place where it is cut has the cuts that it had. -/
theorem starts_prefix (g : Int → Nat) (s : ByteArray) {z : Nat} (hz : z ≤ s.size) (h : z = 0 ∨ z = s.size ∨ ∃ x ∈ runesP s, x.2.1 = z) : startsG g (s.extract 0 z) = (startsG g s).filter fun a => decide (a < z) := by
  unfold startsG
  rw [runesP_prefix s hz h, ← pickG_take _ _ _ (runes_rise s), ← cutsG_take]
  congr 1
  unfold clsG
  rw [← List.map_take]
  congr 2
  have := List.takeWhile_prefix (fun x : Nat × Nat × Nat => decide (x.2.1 < z)) (l := runesP s)
  exact (List.prefix_iff_eq_take.1 this)
theorem pick_rise : ∀ {r : List (Nat × Nat × Nat)} {t : List Bool}, (r.Pairwise fun x y => x.2.1 < y.2.1) → (pickG r t).Pairwise (· < ·)
  | [], t, _ => by cases t <;> exact .nil
  | _ :: _, [], _ => .nil
  | x :: r, b :: t, h => by
    rw [List.pairwise_cons] at h
    rw [pickG]
    cases b with
    | false => exact pick_rise h.2
    | true =>
      refine .cons (fun a ha => ?_) (pick_rise h.2)
      obtain ⟨k, y, h1, _, rfl⟩ := pickG_mem.1 ha
      exact h.1 y (List.mem_of_getElem? h1)
theorem starts_rise (g : Int → Nat) (s : ByteArray) : (startsG g s).Pairwise (· < ·) := pick_rise (runes_rise s)
theorem starts_lt (g : Int → Nat) (s : ByteArray) : ∀ a ∈ startsG g s, a < s.size := fun a ha => by
  obtain ⟨k, y, h1, _, rfl⟩ := pickG_mem.1 ha
  have := runesP_bd y (List.mem_of_getElem? h1); omega
theorem starts_at (g : Int → Nat) (s : ByteArray) : ∀ a ∈ startsG g s, ∃ x ∈ runesP s, x.2.1 = a := fun a ha => by
  obtain ⟨k, y, h1, _, h⟩ := pickG_mem.1 ha
  exact ⟨y, List.mem_of_getElem? h1, h⟩
theorem starts_zero (g : Int → Nat) {s : ByteArray} (h : 0 < s.size) : ∃ T, startsG g s = 0 :: T := by
  obtain ⟨k, hk, e⟩ := runesGo_step (s := s) (f := s.size) (a := 0) h (by omega)
  unfold startsG runesP
  rw [e]
  exact ⟨_, rfl⟩
theorem bounds_rise (g : Int → Nat) (s : ByteArray) : (boundsG g s).Pairwise (· < ·) := by
  unfold boundsG
  split
  · exact .nil
  · rw [List.pairwise_append]
    exact ⟨starts_rise g s, by simp, fun a ha b hb => by simp at hb; subst hb; exact starts_lt g s a ha⟩
/-- How many pieces a text has up to its n-th bound: n. -/
theorem bounds_cut (g : Int → Nat) (s : ByteArray) {n z : Nat} (h : (boundsG g s)[n]? = some z) : (boundsG g (s.extract 0 z)).length - 1 = n ∧ z ≤ s.size := by
  unfold boundsG at h
  split at h
  · simp at h
  · rename_i hs
    have hr := starts_rise g s
    have hl := starts_lt g s
    have hcut : z ≤ s.size ∧ (z = 0 ∨ z = s.size ∨ ∃ x ∈ runesP s, x.2.1 = z) ∧ (startsG g s).filter (fun a => decide (a < z)) = (startsG g s).take n ∧ n ≤ (startsG g s).length := by
      rcases Nat.lt_or_ge n (startsG g s).length with hn | hn
      · rw [List.getElem?_append_left hn] at h
        have hm := List.mem_of_getElem? h
        refine ⟨Nat.le_of_lt (hl z hm), .inr (.inr (starts_at g s z hm)), ?_, Nat.le_of_lt hn⟩
        have e : startsG g s = (startsG g s).take n ++ (startsG g s).drop n := (List.take_append_drop n _).symm
        have hp := List.pairwise_iff_getElem.1 hr
        rw [List.getElem?_eq_getElem hn] at h
        injection h with h
        conv => lhs; rw [e]
        rw [List.filter_append]
        have e1 : ((startsG g s).take n).filter (fun a => decide (a < z)) = (startsG g s).take n := by
          rw [List.filter_eq_self]
          intro a ha
          obtain ⟨i, hi, rfl⟩ := List.getElem_of_mem ha
          rw [List.length_take] at hi
          have := hp i n (by omega) hn (by omega)
          rw [List.getElem_take]; simp; omega
        have e2 : ((startsG g s).drop n).filter (fun a => decide (a < z)) = [] := by
          rw [List.filter_eq_nil_iff]
          intro a ha
          obtain ⟨i, hi, rfl⟩ := List.getElem_of_mem ha
          rw [List.length_drop] at hi
          rw [List.getElem_drop]
          rcases Nat.eq_zero_or_pos i with h0 | h0
          · subst h0; simp; omega
          · have := hp n (n + i) hn (by omega) (by omega); simp; omega
        rw [e1, e2, List.append_nil]
      · rw [List.getElem?_append_right hn] at h
        have hn0 : n - (startsG g s).length = 0 := by
          rcases Nat.eq_zero_or_pos (n - (startsG g s).length) with h0 | h0
          · exact h0
          · rw [List.getElem?_eq_none (by simp only [List.length_singleton]; omega)] at h; cases h
        rw [hn0] at h
        simp at h
        subst h
        refine ⟨Nat.le_refl _, .inr (.inl rfl), ?_, by omega⟩
        rw [List.take_of_length_le (by omega), List.filter_eq_self]
        intro a ha; simpa using hl a ha
    obtain ⟨hz, hx, hf, hn⟩ := hcut
    refine ⟨?_, hz⟩
    have hsz : (s.extract 0 z).size = z := by rw [ByteArray.size_extract]; omega
    unfold boundsG
    rw [hsz]
    split
    · rename_i hz0
      subst hz0
      have : (startsG g s).take n = [] := by rw [← hf, List.filter_eq_nil_iff]; simp
      have := congrArg List.length this
      simp only [List.length_take, List.length_nil] at this ⊢; omega
    · rw [starts_prefix g s hz hx, hf, List.length_append, List.length_take, Nat.min_eq_left hn]; simp
end Go.Proofs.YthlnfefpdmecaaaGreatDoor

/-
  PLAIN: letters turned; flags by twos; a text of whole runes in pieces. No walk.
-/
namespace Go.Proofs.YthlnfefpdmecaaaGreatDoor

/-- Flag letters behind a plain one: cut by twos. -/
theorem flags_two : ∀ n, n ≤ 20 → (cutsG (0 :: List.replicate n 13)).count true = 1 + (n + 1) / 2 := by
  have h : (List.range 21).all (fun n => decide ((cutsG (0 :: List.replicate n 13)).count true = 1 + (n + 1) / 2)) = true := by decide
  intro n hn
  rw [List.all_eq_true] at h
  exact of_decide_eq_true (h n (List.mem_range.2 (by omega)))
theorem pick_len : ∀ (r : List (Nat × Nat × Nat)) (t : List Bool), t.length = r.length → (pickG r t).length = t.count true
  | [], [], _ => rfl
  | [], _ :: _, h => by simp at h
  | _ :: _, [], h => by simp at h
  | x :: r, b :: t, h => by
    rw [pickG, List.length_append, pick_len r t (by simpa using h)]
    cases b with
    | false => simp
    | true => simp; omega
theorem starts_len (g : Int → Nat) (s : ByteArray) : (startsG g s).length = (cutsG (clsG g (runesP s))).count true := pick_len _ _ (by rw [cutsG_len, clsG_len])

/-- The pieces between bounds, the last one first. -/
def turnL (s : ByteArray) : List Nat → List UInt8
  | a :: b :: r => turnL s (b :: r) ++ (s.extract a b).data.toList
  | _ => []
theorem turnL_len (s : ByteArray) : ∀ (l : List Nat), l.Pairwise (· < ·) → (∀ a ∈ l, a ≤ s.size) → (turnL s l).length = l.getLast?.getD 0 - l.head?.getD 0
  | [], _, _ => rfl
  | [a], _, _ => by simp [turnL]
  | a :: b :: r, h, hz => by
    rw [List.pairwise_cons] at h
    have hab := h.1 b (by simp)
    have ih := turnL_len s (b :: r) h.2 (fun c hc => hz c (by simp [hc]))
    have hlast : b ≤ ((b :: r).getLast?).getD 0 := by
      rw [List.getLast?_eq_getElem?]
      have hlt : (b :: r).length - 1 < (b :: r).length := by simp
      rw [List.getElem?_eq_getElem hlt, Option.getD_some]
      rcases Nat.eq_zero_or_pos ((b :: r).length - 1) with h0 | h0
      · have : (b :: r)[(b :: r).length - 1] = b := by
          have : r = [] := List.eq_nil_of_length_eq_zero (by simpa using h0)
          subst this; rfl
        omega
      · exact Nat.le_of_lt (List.pairwise_iff_getElem.1 h.2 0 _ (by simp) hlt h0)
    rw [turnL, List.length_append, ih, extract_len s (hz b (by simp)), List.getLast?_cons_cons]
    simp only [List.head?_cons, Option.getD_some]
    omega
theorem turn_len (g : Int → Nat) (s : ByteArray) : (turnL s (boundsG g s)).length = s.size := by
  have h := turnL_len s (boundsG g s) (bounds_rise g s)
  by_cases hs : s.size = 0
  · unfold boundsG; rw [if_pos hs, hs]; rfl
  · obtain ⟨T, hT⟩ := starts_zero g (s := s) (by omega)
    have hb : boundsG g s = startsG g s ++ [s.size] := by unfold boundsG; rw [if_neg hs]
    rw [h (fun a ha => by
      rw [hb] at ha
      rcases List.mem_append.1 ha with ha | ha
      · exact Nat.le_of_lt (starts_lt g s a ha)
      · simp at ha; omega), hb]
    rw [List.getLast?_append, hT]
    simp

/- Whole runes. -/
/-- Bytes that are one whole rune. -/
def Chunk (c : List UInt8) : Prop := c ≠ [] ∧ (Utf8.decode (bytesOf c) 0).2 = c.length ∧ ((Utf8.decode (bytesOf c) 0).1 ≠ 65533 ∨ c.length = 3)
def chunksOf (s : ByteArray) (r : List (Nat × Nat × Nat)) : List (List UInt8) := r.map fun x => (s.extract x.2.1 x.2.2).data.toList
/-- A text of whole runes is read as these. -/
theorem chunks_go (t : ByteArray) : ∀ (C : List (List UInt8)) (pre : List UInt8) (f : Nat), (∀ c ∈ C, Chunk c) → t.data.toList = pre ++ C.flatten → t.size ≤ pre.length + f →
    chunksOf t (runesGo t f pre.length) = C ∧ (runesGo t f pre.length).map (·.1) = C.map fun c => (Utf8.decode (bytesOf c) 0).1
  | [], pre, f, _, ht, hf => by
    have : t.size = pre.length := by rw [← size_data, ht]; simp
    rw [runesGo_end (by omega)]; exact ⟨rfl, rfl⟩
  | c :: C, pre, f, hC, ht, hf => by
    obtain ⟨h1, h2, h3⟩ := hC c (by simp)
    have h1' : 0 < c.length := List.length_pos_iff.2 h1
    have hz : t.size = pre.length + c.length + C.flatten.length := by
      rw [← size_data, ht, List.flatten_cons, List.length_append, List.length_append]; omega
    obtain ⟨⟨R, W⟩, hD⟩ : ∃ d, Utf8.decode (bytesOf c) 0 = d := ⟨_, rfl⟩
    rw [hD] at h2 h3
    simp only at h2 h3
    subst h2
    have hd : Utf8.decode t pre.length = (R, c.length) := dec_same hD (by omega) h3 (by omega) fun k hk => by
      rw [bytesOf_get, Nat.zero_add, ← Lib.getD_get!' t, ht, List.flatten_cons, List.getD_eq_getElem?_getD, List.getD_eq_getElem?_getD, List.getElem?_append_right (by omega), Nat.add_sub_cancel_left, List.getElem?_append_left hk]
    obtain ⟨g, rfl, hg⟩ := runesGo_step (s := t) (f := f) (a := pre.length) (by omega) hf
    rw [hd] at hg
    simp only at hg
    obtain ⟨i1, i2⟩ := chunks_go t C (pre ++ c) g (fun y hy => hC y (by simp [hy])) (by rw [ht, List.flatten_cons, List.append_assoc]) (by rw [List.length_append]; omega)
    rw [List.length_append] at i1 i2
    have hx : (t.extract pre.length (pre.length + c.length)).data.toList = c := by
      rw [ByteArray.data_extract, Array.toList_extract, List.extract_eq_take_drop, ht, List.drop_left, Nat.add_sub_cancel_left, List.flatten_cons, List.take_left]
    rw [hg]
    unfold chunksOf at i1 ⊢
    rw [List.map_cons, List.map_cons, List.map_cons, i1, i2, hD]
    exact ⟨by rw [hx], rfl⟩
theorem chunks_flat {C : List (List UInt8)} (hC : ∀ c ∈ C, Chunk c) : chunksOf (bytesOf C.flatten) (runesP (bytesOf C.flatten)) = C ∧ (runesP (bytesOf C.flatten)).map (·.1) = C.map fun c => (Utf8.decode (bytesOf c) 0).1 :=
  chunks_go (bytesOf C.flatten) C [] _ hC (by rw [bytesOf_list]; rfl) (by simp)
theorem contig_flat (s : ByteArray) : ∀ (r : List (Nat × Nat × Nat)) (p z : Nat), Contig p r z → z ≤ s.size → (chunksOf s r).flatten = (s.data.toList.drop p).take (z - p)
  | [], p, z, h, _ => by have : p = z := h; subst this; simp [chunksOf]
  | x :: r, p, z, h, hz => by
    obtain ⟨h1, h2, h3⟩ := h
    have hle : ∀ {r : List (Nat × Nat × Nat)} {p z : Nat}, Contig p r z → p ≤ z := by
      intro r
      induction r with
      | nil => intro p z h; have : p = z := h; omega
      | cons y r ih => intro p z h; have := ih h.2.2; have := h.2.1; omega
    have h4 := hle h3
    have ih := contig_flat s r x.2.2 z h3 hz
    unfold chunksOf at ih ⊢
    rw [List.map_cons, List.flatten_cons, ih, h1, ByteArray.data_extract, Array.toList_extract, List.extract_eq_take_drop]
    rw [show z - p = (x.2.2 - p) + (z - x.2.2) by omega, List.take_add, List.drop_drop, show p + (x.2.2 - p) = x.2.2 by omega]
theorem chunks_all (s : ByteArray) : (chunksOf s (runesP s)).flatten = s.data.toList := by
  rw [contig_flat s _ 0 s.size (runesP_contig s) (Nat.le_refl _), List.drop_zero, Nat.sub_zero, List.take_of_length_le (by rw [size_data]; exact Nat.le_refl _)]
/-- Each rune of a valid text is whole. -/
theorem chunk_of {s : ByteArray} {x : Nat × Nat × Nat} (hx : x ∈ runesP s) (hv : x.1 ≠ 65533 ∨ x.2.2 - x.2.1 = 3) : Chunk (s.extract x.2.1 x.2.2).data.toList ∧ (Utf8.decode (bytesOf (s.extract x.2.1 x.2.2).data.toList) 0).1 = x.1 := by
  have hb := runesP_bd x hx
  have hd := runesGo_dec _ _ x hx
  have hl := extract_len s (a := x.2.1) hb.2.1
  have hD : Utf8.decode (bytesOf (s.extract x.2.1 x.2.2).data.toList) 0 = (x.1, x.2.2 - x.2.1) := dec_same hd (by omega) hv (by rw [bytesOf_size, hl]; omega) fun k hk => by
    rw [bytesOf_get, Nat.zero_add, ← Lib.getD_get!' s, ByteArray.data_extract, Array.toList_extract, List.extract_eq_take_drop, List.getD_eq_getElem?_getD, List.getD_eq_getElem?_getD, List.getElem?_take_of_lt hk, List.getElem?_drop]
  refine ⟨⟨fun h => ?_, ?_, ?_⟩, by rw [hD]⟩
  · rw [h] at hl; simp at hl; omega
  · rw [hD, hl]
  · rw [hD, hl]; exact hv
end Go.Proofs.YthlnfefpdmecaaaGreatDoor

/-
  Pieces of a text, plain: between bounds, in their order.
-/
namespace Go.Proofs.YthlnfefpdmecaaaGreatDoor

/-- The pieces between bounds. -/
def piecesF : List Nat → List (Nat × Nat)
  | a :: b :: r => (a, b) :: piecesF (b :: r)
  | _ => []
theorem piecesF_len : ∀ (L : List Nat), (piecesF L).length = L.length - 1
  | [] => rfl
  | [_] => rfl
  | a :: b :: r => by rw [piecesF, List.length_cons, piecesF_len (b :: r)]; simp
theorem piecesF_at : ∀ (L : List Nat) (k x y : Nat), L[k]? = some x → L[k + 1]? = some y → (piecesF L)[k]? = some (x, y)
  | [], _, _, _, h, _ => by simp at h
  | [_], k, _, _, _, h => by simp at h
  | a :: b :: r, 0, x, y, hx, hy => by
    simp only [List.getElem?_cons_zero, List.getElem?_cons_succ, Option.some.injEq] at hx hy
    subst hx hy
    rfl
  | a :: b :: r, k + 1, x, y, hx, hy => by
    rw [piecesF, List.getElem?_cons_succ]
    exact piecesF_at (b :: r) k x y (by simpa using hx) (by simpa using hy)
theorem piecesF_le {s : ByteArray} : ∀ {L : List Nat}, L.Pairwise (· < ·) → (∀ a ∈ L, a ≤ s.size) → ∀ x ∈ piecesF L, x.1 ≤ x.2 ∧ x.2 ≤ s.size
  | [], _, _, x, h => by simp [piecesF] at h
  | [_], _, _, x, h => by simp [piecesF] at h
  | a :: b :: r, hp, hz, x, h => by
    rw [List.pairwise_cons] at hp
    rw [piecesF] at h
    rcases List.mem_cons.1 h with rfl | h
    · exact ⟨Nat.le_of_lt (hp.1 b (by simp)), hz b (by simp)⟩
    · exact piecesF_le hp.2 (fun c hc => hz c (by simp [hc])) x h
/-- A piece that lies in the text; else the empty one. -/
def clP (s : ByteArray) (x : Nat × Nat) : Nat × Nat := if x.1 ≤ x.2 ∧ x.2 ≤ s.size then x else (0, 0)
theorem clP_le (s : ByteArray) (x : Nat × Nat) : (clP s x).1 ≤ (clP s x).2 ∧ (clP s x).2 ≤ s.size := by
  unfold clP
  split
  · assumption
  · exact ⟨Nat.le_refl _, Nat.zero_le _⟩
theorem clP_in {s : ByteArray} {x : Nat × Nat} (h : x.1 ≤ x.2 ∧ x.2 ≤ s.size) : clP s x = x := if_pos h
theorem wPick_sub (c : List Int) : ∀ (l : List Nat) (i : Nat), List.Sublist (wPick c i l) l
  | [], _ => List.Sublist.refl _
  | a :: r, i => by
    rw [wPick]
    split
    · exact (wPick_sub c r (i + 1)).cons_cons a
    · exact (wPick_sub c r (i + 1)).cons a
theorem wBounds_rise (g : Int → Nat) (s : ByteArray) : (wBounds g s).Pairwise (· < ·) := by
  have h1 : ((runesP s).map (fun x => x.2.1)).Pairwise (· < ·) := by
    rw [List.pairwise_map]; exact runes_rise s
  have h2 := h1.sublist (wPick_sub (wCls g s) _ 0)
  unfold wBounds
  split
  · rw [List.append_nil]; exact h2
  · rw [List.pairwise_append]
    refine ⟨h2, List.pairwise_singleton _ _, fun a ha b hb => ?_⟩
    rw [List.mem_singleton] at hb
    subst hb
    obtain ⟨x, hx, rfl⟩ := List.mem_map.1 ((wPick_sub _ _ 0).mem ha)
    have := runesP_bd x hx
    omega
theorem wBounds_le (g : Int → Nat) (s : ByteArray) : ∀ a ∈ wBounds g s, a ≤ s.size := fun a ha => by
  unfold wBounds at ha
  rcases List.mem_append.1 ha with h | h
  · obtain ⟨x, hx, rfl⟩ := List.mem_map.1 ((wPick_sub _ _ 0).mem h)
    have := runesP_bd x hx
    omega
  · split at h
    · simp at h
    · simp at h; omega
theorem wBounds_len (g : Int → Nat) (s : ByteArray) : (wBounds g s).length ≤ s.size + 1 := by
  unfold wBounds
  rw [List.length_append]
  have h1 := (wPick_sub (wCls g s) ((runesP s).map (fun x => x.2.1)) 0).length_le
  rw [List.length_map] at h1
  have h2 := runesP_len s
  have h3 : (if s.size = 0 then [] else [s.size]).length ≤ 1 := by split <;> simp
  omega
end Go.Proofs.YthlnfefpdmecaaaGreatDoor

/-
  props.(*Db).Each: an iterator over utf.Each's, walked.
-/
namespace Go.Proofs.YthlnfefpdmecaaaGreatDoor
open Go.RowKit Go.Shelf Go.Maps
attribute [local go_sem] Oper.semAt_some

/-- A round's contract at whatever depth, where no depth is asked. -/
theorem round_any {m m' : Nat} {P : Program} {l l2 : Nat} {f : FuncId} {tmps : Array Value} {assign body : Code} {w : World} {R : Ending → World → Prop} (h : RoundIn Fence.wide m P l f tmps assign body w R) : RoundIn (Fence.wide.inRound l2) m' P l f tmps assign body w R :=
  ⟨h.1, fun c cs _ => h.2 c cs (room_wide _)⟩
/-- What a round keeps: what lay below m; cells but in the blocks of X; iterators. -/
def KpB (m : Nat) (X : Nat → Prop) (A B : World) : Prop := RowKit.Below m A B ∧ KC 0 X A B
theorem KpB.refl (m : Nat) (X : Nat → Prop) (W : World) : KpB m X W W := ⟨RowKit.Below.refl _ _, KC.refl _ _ _⟩
theorem KpB.trans {m : Nat} {X : Nat → Prop} {A B C : World} (h : KpB m X A B) (k : KpB m X B C) : KpB m X A C := ⟨h.1.trans k.1, h.2.trans k.2⟩
theorem KpB.put {m : Nat} {X : Nat → Prop} {w : World} (hm : m ≤ w.heap.size) (W : World) (l : Nat) (o o' : Obj) (hl : w.heap.size ≤ l) (h : W.heap[l]? = some o) (hc : o.isCells = false) (hw : o.isWalk = false) : KpB m X W (W.putObj l o') :=
  ⟨belowK_b (w := w) hm W l o o' hl h hc hw, KC.put W l o o' h hc hw⟩
theorem keepsFrom_below {B : Nat} {A C : World} (h : RowKit.Below A.heap.size A C) : KeepsFrom B A C := ⟨h.size, fun k _ _ hk _ => (h.block k (Array.getElem?_eq_some_iff.1 hk).1).trans hk⟩
theorem keepsWalks_below {A C : World} (h : RowKit.Below A.heap.size A C) : KeepsWalks A C := ⟨h.size, fun k _ hk _ => (h.block k (Array.getElem?_eq_some_iff.1 hk).1).trans hk⟩
theorem keeps_later {B C : Nat} {A D : World} (h : KeepsFrom B A D) (hBC : B ≤ C) : KeepsFrom C A D := ⟨h.size, fun k o hk h0 ho => h.same k o (Nat.le_trans hBC hk) h0 ho⟩
/-- A rune's place and its class. -/
def encWc (d : DbP) (x : Nat × Nat × Nat) : Array Value := #[.int .i64 (x.2.1 : Nat), .int .i64 (d.get (x.1 : Nat) : Nat)]
end Go.Proofs.YthlnfefpdmecaaaGreatDoor

/-
  REGIONS THAT DRAW, IN A ROUND of a range over a function: what holds of such a region outside of rounds holds in them. No program's walk.
-/
namespace Go.Proofs.YthlnfefpdmecaaaGreatDoor
open Go Go.RowKit

section
variable {P : Program} {Q : Exit → Act → World → Prop} {l n : Nat}
/-- No operation is a defer statement. -/
def noDefer (ops : Array Oper) : Bool := ops.toList.all fun o => match o.op with | .defer _ => false | _ => true
theorem noDefer_at {ops : Array Oper} (h : noDefer ops = true) {i : Nat} {o : Oper} (ho : ops[i]? = some o) : ∀ c, o.op ≠ .defer c := fun c hc => by
  unfold noDefer at h
  rw [List.all_eq_true] at h
  have := h o (by rw [← Array.getElem?_toList] at ho; exact List.mem_of_getElem? ho)
  rw [hc] at this
  cases this
theorem wpIn_of_wp_round {o : Oper} (hd : ∀ c, o.op ≠ .defer c) {a : Act} {w : World} {K : Act → World → Prop} (h : o.wp P a w K Q) : o.wpIn (Fence.wide.inRound l) n P a w K Q := by
  refine ⟨fun _ _ => trivial, ?_⟩
  rw [Oper.semAt_plain _ _ _ hd]
  unfold Oper.wp at h
  generalize (execOp a.eval o).run P w = r at h ⊢
  cases r with
  | ok x w' =>
    cases x with
    | enter f args => exact ⟨fun h => by simp [Fence.wide, Fence.inRound] at h, CallsIn.inRound l (callsIn_wide.2 h)⟩
    | row row args => exact ⟨fun h => by simp [Fence.wide, Fence.inRound] at h, fun c cs _ => let ⟨v, w2, r1, s1⟩ := h c cs; ⟨v, w2, r1, stepsIn_wide.2 s1⟩⟩
    | round => exact False.elim h
    | _ => exact h
  | halt x w' => cases x <;> exact h
theorem wpOpsIn_round {ops : Array Oper} (hd : noDefer ops = true) (hL : ¬ LetsOut Q) : ∀ (L : List Nat) (a : Act) (w : World), wpOps P ops Q L a w → wpOpsIn (Fence.wide.inRound l) n P ops Q L a w
  | [], _, _, h => h
  | i :: rest, a, w, h => by
    unfold wpOps at h
    unfold wpOpsIn
    cases ho : ops[i]? with
    | none => simp only [ho] at h ⊢; exact wpOpsIn_round hd hL rest a w h
    | some o =>
      simp only [ho] at h ⊢
      by_cases hw : Region.wanted o (yielded ops a.tmps) = true
      · simp only [hw, if_true] at h ⊢
        rcases h with h | h
        · exact Oper.wpIn_mono (fun a w h => wpOpsIn_round hd hL rest a w h) (wpIn_of_wp_round (noDefer_at hd ho) h)
        · exact absurd h.2 hL
      · simp only [hw, if_false, Bool.false_eq_true] at h ⊢
        exact ⟨fun _ _ => trivial, wpOpsIn_round hd hL rest _ w h⟩
/-- A region that draws, in a round, by a condition S that holds all the while. -/
theorem wpIn_region_round {S : World → Prop} {id : Nat} {ops : Array Oper} {a : Act} {w : World} (hm : P.follows .mixedOrders = true) (hd : noDefer ops = true) (hL : ¬ LetsOut Q) (hS : S w.drew)
    (h : S w.drew → wpAnyH P .any ops Q S ops.size (Array.replicate ops.size false) a w.drew) : (Code.region id ops true).wpIn (Fence.wide.inRound l) n P Q a w :=
  wpIn_region_draw fun t => by
    simp only [Region.schedule, hm, Bool.true_or, if_true]
    exact wpOpsIn_round hd hL _ _ _ (wpAny_sound ops.size t _ a _ (wpAny_of_held _ _ _ _ (h hS)))
/-- An operation of the wide fence, in a round. -/
theorem wpIn_of_wide_round {o : Oper} (hd : ∀ c, o.op ≠ .defer c) {a : Act} {w : World} {K : Act → World → Prop} (h : o.wpIn Fence.wide n P a w K Q) : o.wpIn (Fence.wide.inRound l) n P a w K Q := by
  refine ⟨fun _ _ => trivial, ?_⟩
  have h2 := h.2
  rw [Oper.semAt_plain _ _ _ hd] at h2 ⊢
  generalize (execOp a.eval o).run P w = r at h2 ⊢
  cases r with
  | ok x w' =>
    cases x with
    | enter f args => exact ⟨fun h => by simp [Fence.wide, Fence.inRound] at h, CallsIn.inRound l h2.2⟩
    | row row args => exact ⟨fun h => by simp [Fence.wide, Fence.inRound] at h, fun c cs _ => h2.2 c cs (room_wide _)⟩
    | round => exact ⟨fun h => by simp [Fence.wide, Fence.inRound] at h, ⟨h2.2.1, fun c cs _ => h2.2.2 c cs (room_wide _)⟩⟩
    | _ => exact h2
  | halt x w' => cases x <;> exact h2
theorem wpOpsIn_wide_round {ops : Array Oper} (hd : noDefer ops = true) : ∀ (L : List Nat) (a : Act) (w : World), wpOpsIn Fence.wide n P ops Q L a w → wpOpsIn (Fence.wide.inRound l) n P ops Q L a w
  | [], _, _, h => h
  | i :: rest, a, w, h => by
    unfold wpOpsIn at h ⊢
    cases ho : ops[i]? with
    | none => simp only [ho] at h ⊢; exact wpOpsIn_wide_round hd rest a w h
    | some o =>
      simp only [ho] at h ⊢
      by_cases hw : Region.wanted o (yielded ops a.tmps) = true
      · simp only [hw, if_true] at h ⊢
        exact Oper.wpIn_mono (fun a w h => wpOpsIn_wide_round hd rest a w h) (wpIn_of_wide_round (noDefer_at hd ho) h)
      · simp only [hw, if_false, Bool.false_eq_true] at h ⊢
        exact ⟨fun _ _ => trivial, wpOpsIn_wide_round hd rest _ w h.2⟩
/-- A region that draws, in a round, by the wide fence's walk (a yield may stand in it). -/
theorem wpIn_region_wide {id : Nat} {ops : Array Oper} {a : Act} {w : World} (hm : P.follows .mixedOrders = true) (hd : noDefer ops = true)
    (h : wpAnyIn Fence.wide n P .any ops Q ops.size (Array.replicate ops.size false) a w.drew) : (Code.region id ops true).wpIn (Fence.wide.inRound l) n P Q a w :=
  wpIn_region_draw fun t => by
    simp only [Region.schedule, hm, Bool.true_or, if_true]
    exact wpOpsIn_wide_round hd _ _ _ (wpAnyIn_sound ops.size t _ a _ h)
theorem round_deep {m m' : Nat} {f : FuncId} {tmps : Array Value} {assign body : Code} {w : World} {R : Ending → World → Prop} (h : RoundIn Fence.wide m P l f tmps assign body w R) : RoundIn Fence.wide m' P l f tmps assign body w R :=
  ⟨h.1, fun c cs _ => h.2 c cs (room_wide _)⟩
end
end Go.Proofs.YthlnfefpdmecaaaGreatDoor

/-
  kerfref04: Name, walked.
-/
namespace Go.Proofs.YthlnfefpdmecaaaGreatDoor
open Go.RowKit Go.Maps

set_option maxRecDepth 100000 in
set_option maxHeartbeats 4000000 in
theorem vName_any (l : List UInt8) (w : World) (hs : l.length ≤ 9223372036854775807) : Calls Tryz.prog 151 #[.string (bytesOf l)] w fun e w' => e = .returned (.bool (nameL l)) ∧ Below w.heap.size w w' := by
  have hsz : (bytesOf l).size = l.length := bytesOf_size l
  go_enter Tryz.func151, Tryz.ntmps151
  go_wp2
  have hbw : Below w.heap.size w w := Below.refl _ _
  go_loop [3] (fun i => ∃ k : Nat, i = .int .i64 k ∧ k ≤ l.length ∧ Hid (nameU (l.take k) = true)) (fun i => l.length - (intOf i).toNat)
  case atStart => exact ⟨0, rfl, by omega, rfl⟩
  case round =>
    obtain ⟨k, rfl, hk, Hm⟩ := hrel
    by_cases hlt : k < l.length
    · have hkl : k < (bytesOf l).size := by rw [hsz]; exact hlt
      have hc := index_at (bytesOf l) k k rfl hkl
      obtain ⟨c, hce⟩ : ∃ c, (bytesOf l)[k]'hkl = c := ⟨_, rfl⟩
      have Hc : Hid (l[k]? = some c) := Lib.hid (by have := get_list hkl; rw [bytesOf_list, hce] at this; exact this)
      have hcc : (((bytesOf l)[k]'hkl).toNat : Int) = (c.toNat : Int) := by rw [hce]
      rw [hce] at hc
      clear hce
      have HN := Lib.hid (nameU_next Hc.out Hm.out)
      have HE : Hid (nameU (l.take (k + 1)) = false → nameL l = false) := Lib.hid (fun h => by rw [nameL_eq, nameU_take h, Bool.false_and])
      have hc0 : 0 ≤ (c.toNat : Int) := by omega
      have hc255 : (c.toNat : Int) ≤ 255 := by have := c.toNat_lt; omega
      have HLT : Hid ((65 ≤ (c.toNat : Int) ∧ (c.toNat : Int) ≤ 90) ∨ (97 ≤ (c.toNat : Int) ∧ (c.toNat : Int) ≤ 122) → letB c = true ∧ partB c = true) := Lib.hid (fun h => ⟨letB_t (by omega), partB_t (by omega)⟩)
      have HLF : Hid (¬ ((65 ≤ (c.toNat : Int) ∧ (c.toNat : Int) ≤ 90) ∨ (97 ≤ (c.toNat : Int) ∧ (c.toNat : Int) ≤ 122)) → letB c = false) := Lib.hid (fun h => letB_f (by omega))
      have HPT : Hid ((48 ≤ (c.toNat : Int) ∧ (c.toNat : Int) ≤ 57) ∨ (c.toNat : Int) = 95 → partB c = true) := Lib.hid (fun h => partB_t (by omega))
      have HPF : Hid (¬ ((65 ≤ (c.toNat : Int) ∧ (c.toNat : Int) ≤ 90) ∨ (97 ≤ (c.toNat : Int) ∧ (c.toNat : Int) ≤ 122) ∨ (48 ≤ (c.toNat : Int) ∧ (c.toNat : Int) ≤ 57) ∨ (c.toNat : Int) = 95) → partB c = false) := Lib.hid (fun h => partB_f (by omega))
      generalize (c.toNat : Int) = z at hc hcc hc0 hc255 HLT HLF HPT HPF
      rcases Nat.eq_zero_or_pos k with rfl | h0
      · rcases (by omega : (65 ≤ z ∧ z ≤ 90) ∨ (97 ≤ z ∧ z ≤ 122) ∨ (z < 65 ∨ (90 < z ∧ z < 97) ∨ 122 < z)) with ⟨hq, hq'⟩ | ⟨hq, hq'⟩ | hq
        iterate 2
          · have HV : Hid (nameU (l.take (0 + 1)) = true) := Lib.hid (by rw [HN.out, if_pos rfl]; exact (HLT.out (by omega)).1)
            clear HLT HLF HPT HPF HN HE
            try first | (have d65 : decide (65 ≤ z) = true := decide_eq_true (by omega)) | (have d65 : decide (65 ≤ z) = false := decide_eq_false (by omega))
            try first | (have d90 : decide (z ≤ 90) = true := decide_eq_true (by omega)) | (have d90 : decide (z ≤ 90) = false := decide_eq_false (by omega))
            try first | (have d97 : decide (97 ≤ z) = true := decide_eq_true (by omega)) | (have d97 : decide (97 ≤ z) = false := decide_eq_false (by omega))
            try first | (have d122 : decide (z ≤ 122) = true := decide_eq_true (by omega)) | (have d122 : decide (z ≤ 122) = false := decide_eq_false (by omega))
            try first | (have d48 : decide (z < 48) = true := decide_eq_true (by omega)) | (have d48 : decide (z < 48) = false := decide_eq_false (by omega))
            try first | (have d57 : decide (57 < z) = true := decide_eq_true (by omega)) | (have d57 : decide (57 < z) = false := decide_eq_false (by omega))
            try first | (have d95 : (z != 95) = true := bne_iff_ne.2 (by omega)) | (have d95 : (z != 95) = false := by rw [bne_eq_false_iff_eq]; omega)
            go_wp2
            refine ⟨⟨0 + 1, by go_num, by omega, HV⟩, ?_⟩
            simp [intOf]; omega
        · have HV : Hid (nameL l = false) := Lib.hid (HE.out (by rw [HN.out, if_pos rfl]; exact HLF.out (by omega)))
          clear HLT HLF HPT HPF HN HE
          rcases hq with hq | ⟨hq, hq'⟩ | hq
          all_goals
            try first | (have d65 : decide (65 ≤ z) = true := decide_eq_true (by omega)) | (have d65 : decide (65 ≤ z) = false := decide_eq_false (by omega))
            try first | (have d90 : decide (z ≤ 90) = true := decide_eq_true (by omega)) | (have d90 : decide (z ≤ 90) = false := decide_eq_false (by omega))
            try first | (have d97 : decide (97 ≤ z) = true := decide_eq_true (by omega)) | (have d97 : decide (97 ≤ z) = false := decide_eq_false (by omega))
            try first | (have d122 : decide (z ≤ 122) = true := decide_eq_true (by omega)) | (have d122 : decide (z ≤ 122) = false := decide_eq_false (by omega))
            try first | (have d48 : decide (z < 48) = true := decide_eq_true (by omega)) | (have d48 : decide (z < 48) = false := decide_eq_false (by omega))
            try first | (have d57 : decide (57 < z) = true := decide_eq_true (by omega)) | (have d57 : decide (57 < z) = false := decide_eq_false (by omega))
            try first | (have d95 : (z != 95) = true := bne_iff_ne.2 (by omega)) | (have d95 : (z != 95) = false := by rw [bne_eq_false_iff_eq]; omega)
            go_wp2
            go_ret
            exact ⟨by rw [HV.out]; rfl, hbw⟩
      · have hk0 : ((k : Int) == 0) = false := beq_eq_false_iff_ne.2 (by omega)
        rcases (by omega : (65 ≤ z ∧ z ≤ 90) ∨ (97 ≤ z ∧ z ≤ 122) ∨ (48 ≤ z ∧ z ≤ 57) ∨ z = 95 ∨ (z < 48 ∨ (57 < z ∧ z < 65) ∨ (90 < z ∧ z < 95) ∨ z = 96 ∨ 122 < z)) with ⟨hq, hq'⟩ | ⟨hq, hq'⟩ | ⟨hq, hq'⟩ | hq | hq
        iterate 4
          · have HV : Hid (nameU (l.take (k + 1)) = true) := Lib.hid (by rw [HN.out, if_neg (by omega)]; first | exact (HLT.out (by omega)).2 | exact HPT.out (by omega))
            clear HLT HLF HPT HPF HN HE
            try first | (have d65 : decide (65 ≤ z) = true := decide_eq_true (by omega)) | (have d65 : decide (65 ≤ z) = false := decide_eq_false (by omega))
            try first | (have d90 : decide (z ≤ 90) = true := decide_eq_true (by omega)) | (have d90 : decide (z ≤ 90) = false := decide_eq_false (by omega))
            try first | (have d97 : decide (97 ≤ z) = true := decide_eq_true (by omega)) | (have d97 : decide (97 ≤ z) = false := decide_eq_false (by omega))
            try first | (have d122 : decide (z ≤ 122) = true := decide_eq_true (by omega)) | (have d122 : decide (z ≤ 122) = false := decide_eq_false (by omega))
            try first | (have d48 : decide (z < 48) = true := decide_eq_true (by omega)) | (have d48 : decide (z < 48) = false := decide_eq_false (by omega))
            try first | (have d57 : decide (57 < z) = true := decide_eq_true (by omega)) | (have d57 : decide (57 < z) = false := decide_eq_false (by omega))
            try first | (have d95 : (z != 95) = true := bne_iff_ne.2 (by omega)) | (have d95 : (z != 95) = false := by rw [bne_eq_false_iff_eq]; omega)
            go_wp2
            refine ⟨⟨k + 1, by go_num, by omega, HV⟩, ?_⟩
            simp [intOf]; omega
        · have HV : Hid (nameL l = false) := Lib.hid (HE.out (by rw [HN.out, if_neg (by omega)]; exact HPF.out (by omega)))
          clear HLT HLF HPT HPF HN HE
          rcases hq with hq | ⟨hq, hq'⟩ | ⟨hq, hq'⟩ | hq | hq
          all_goals
            try first | (have d65 : decide (65 ≤ z) = true := decide_eq_true (by omega)) | (have d65 : decide (65 ≤ z) = false := decide_eq_false (by omega))
            try first | (have d90 : decide (z ≤ 90) = true := decide_eq_true (by omega)) | (have d90 : decide (z ≤ 90) = false := decide_eq_false (by omega))
            try first | (have d97 : decide (97 ≤ z) = true := decide_eq_true (by omega)) | (have d97 : decide (97 ≤ z) = false := decide_eq_false (by omega))
            try first | (have d122 : decide (z ≤ 122) = true := decide_eq_true (by omega)) | (have d122 : decide (z ≤ 122) = false := decide_eq_false (by omega))
            try first | (have d48 : decide (z < 48) = true := decide_eq_true (by omega)) | (have d48 : decide (z < 48) = false := decide_eq_false (by omega))
            try first | (have d57 : decide (57 < z) = true := decide_eq_true (by omega)) | (have d57 : decide (57 < z) = false := decide_eq_false (by omega))
            try first | (have d95 : (z != 95) = true := bne_iff_ne.2 (by omega)) | (have d95 : (z != 95) = false := by rw [bne_eq_false_iff_eq]; omega)
            go_wp2
            go_ret
            exact ⟨by rw [HV.out]; rfl, hbw⟩
    · have HE : Hid (nameL l = decide (1 ≤ l.length ∧ l.length ≤ 32)) := Lib.hid (by rw [nameL_eq, show nameU l = true by have := Hm.out; rwa [List.take_of_length_le (by omega)] at this, Bool.true_and])
      rcases (by omega : l.length = 0 ∨ (1 ≤ l.length ∧ l.length ≤ 32) ∨ 32 < l.length) with h | ⟨h, h'⟩ | h
      all_goals
        go_wp2
        go_ret
        exact ⟨ret_bool (by rw [HE.out]; first | exact (decide_eq_false (by omega)).symm | exact (decide_eq_true (by omega)).symm | (rw [decide_eq_decide]; omega)), hbw⟩

end Go.Proofs.YthlnfefpdmecaaaGreatDoor

/-
  PLAIN, for the walks of kerfref04: a rune in quotes by the document's word; the scan of a line, step by step; trimmed from both ends.
-/
namespace Go.Proofs.YthlnfefpdmecaaaGreatDoor

theorem runeAt_app : ∀ (p l : List UInt8) (a : Nat), runeAt (bytesOf (p ++ l)) (p.length + a) = runeAt (bytesOf l) a
  | [], l, a => by rw [List.nil_append, List.length_nil, Nat.zero_add]
  | c :: p, l, a => by rw [List.cons_append, List.length_cons, show p.length + 1 + a = (p.length + a) + 1 by omega, runeAt_sh]; exact runeAt_app p l a
theorem runeAt_drop (s : ByteArray) (a b : Nat) (h : a ≤ s.size) : runeAt s (a + b) = runeAt (bytesOf (s.data.toList.drop a)) b := by
  have h1 := runeAt_app (s.data.toList.take a) (s.data.toList.drop a) b
  rw [List.take_append_drop, bytesOf_data, List.length_take, size_data, Nat.min_eq_left h] at h1
  exact h1
/-- The document's word on a rune in quotes. -/
theorem quoted_qt (s : ByteArray) (a : Nat) (h : a ≤ s.size) : match qtL (s.data.toList.drop a) with
    | some k => (quotedP s a).2.2 = true ∧ (quotedP s a).2.1 + 2 = k
    | none => (quotedP s a).2.2 = false := by
  unfold quotedP
  cases hd : s.data.toList.drop a with
  | nil =>
    have : (rest s a).head? = none := by unfold rest; rw [hd]; rfl
    rw [if_neg (by rw [this]; simp)]; rfl
  | cons c r =>
    have h1 := runeAt_drop s a 1 h
    rw [hd] at h1
    rw [qtS_cons, ← h1]
    have h2 : (rest s a).head? = some c := by unfold rest; rw [hd]; rfl
    have h3 : (rest s (a + 1 + (runeAt s (a + 1)).2)).head? = r[(runeAt s (a + 1)).2]? := by
      unfold rest
      rw [Nat.add_assoc, ← List.drop_drop, hd, Nat.add_comm 1, List.drop_succ_cons, List.head?_drop]
    rw [h2, h3]
    by_cases hc : c = 39 ∧ (runeAt s (a + 1)).2 ≠ 0 ∧ r[(runeAt s (a + 1)).2]? = some 39
    · rw [if_pos hc, if_pos ⟨by rw [hc.1], hc.2⟩]
      exact ⟨rfl, rfl⟩
    · rw [if_neg hc, if_neg (fun k => hc ⟨by injection k.1, k.2⟩)]

def cutD (l : List UInt8) (i : Nat) (semi : Option Nat) : Nat × Option Nat := cutGo l.length l i semi
theorem cutD_fuel {f : Nat} {l : List UInt8} (i : Nat) (semi : Option Nat) (h : l.length ≤ f) : cutGo f l i semi = cutD l i semi := by
  unfold cutD
  rw [cutGo_eq f l i semi h, cutGo_eq l.length l i semi (Nat.le_refl _)]
/-- How far the scan has come. -/
def CutAt (L : List UInt8) (i : Nat) (semi : Option Nat) : Prop := i ≤ L.length ∧ cutD (L.drop i) i semi = cutD L 0 none ∧ ∀ k, semi = some k → k ≤ i
theorem cutAt_first (L : List UInt8) : CutAt L 0 none := ⟨by omega, by rw [List.drop_zero], fun k h => by cases h⟩
theorem cutAt_qt {L : List UInt8} {i k : Nat} {semi : Option Nat} (h : CutAt L i semi) (hq : qtL (L.drop i) = some k) : CutAt L (i + k) semi := by
  have hk := qtL_some hq
  rw [List.length_drop] at hk
  refine ⟨by omega, ?_, fun j hj => by have := h.2.2 j hj; omega⟩
  rw [← h.2.1]
  cases hd : L.drop i with
  | nil => rw [hd] at hq; cases hq
  | cons x r =>
    rw [hd] at hq
    unfold cutD
    rw [List.length_cons, cutGo]
    simp only [hq]
    have h2 : (x :: r).drop k = L.drop (i + k) := by rw [← hd, List.drop_drop]
    rw [h2]
    have h3 : (L.drop (i + k)).length ≤ r.length := by
      have : (L.drop i).length = r.length + 1 := by rw [hd]; rfl
      rw [List.length_drop] at this ⊢; omega
    rw [cutD_fuel (i + k) semi h3]; rfl
section
variable {L : List UInt8} {i : Nat} {semi : Option Nat} {x : UInt8} (h : CutAt L i semi) (hx : L[i]? = some x) (hq : qtL (L.drop i) = none)
include h hx hq
theorem cutAt_step : cutD L 0 none = if x = 35 then (i, semi) else if x = 59 ∧ semi = none then cutD (L.drop (i + 1)) (i + 1) (some i) else cutD (L.drop (i + 1)) (i + 1) semi := by
  rw [← h.2.1, drop_at hx]
  rw [drop_at hx] at hq
  unfold cutD
  rw [List.length_cons, cutGo]
  simp only [hq]
theorem cutAt_hash (he : x = 35) : cutD L 0 none = (i, semi) := by rw [cutAt_step h hx hq, if_pos he]
theorem cutAt_semi (he : x = 59) (hs : semi = none) : CutAt L (i + 1) (some i) :=
  ⟨(List.getElem?_eq_some_iff.1 hx).1, by rw [cutAt_step h hx hq, if_neg (by rw [he]; decide), if_pos ⟨he, hs⟩], fun k hk => by injection hk with hk; omega⟩
theorem cutAt_go (he : x ≠ 35) (hs : ¬ (x = 59 ∧ semi = none)) : CutAt L (i + 1) semi :=
  ⟨(List.getElem?_eq_some_iff.1 hx).1, by rw [cutAt_step h hx hq, if_neg he, if_neg hs], fun k hk => by have := h.2.2 k hk; omega⟩
end
theorem cutAt_end {L : List UInt8} {i : Nat} {semi : Option Nat} (h : CutAt L i semi) (hi : ¬ i < L.length) : cutD L 0 none = (L.length, semi) := by
  rw [← h.2.1, List.drop_of_length_le (by omega)]
  have : i = L.length := by have := h.1; omega
  rw [← this]; rfl
theorem cutD_is (L : List UInt8) : cutD L 0 none = (hashP L, findP 59 (L.take (hashP L))) := by
  unfold cutD
  rw [cutGo_eq L.length L 0 none (Nat.le_refl _), Nat.zero_add]
  congr 1
  cases findP 59 (L.take (hashP L)) <;> rfl

theorem ext_bytes (l : List UInt8) (a : Nat) : (bytesOf l).extract a (bytesOf l).size = bytesOf (l.drop a) := by
  apply ByteArray.ext; apply Array.toList_inj.1
  rw [rest_extract, bytesOf_list]; unfold rest; rw [bytesOf_list]
theorem ext_bytes0 (l : List UInt8) (a : Nat) : (bytesOf l).extract 0 a = bytesOf (l.take a) := by
  apply ByteArray.ext; apply Array.toList_inj.1
  rw [Lib.extract_data, bytesOf_list, bytesOf_list]; simp
theorem ext_bytes2 (l : List UInt8) (a b : Nat) : (bytesOf l).extract a b = bytesOf ((l.drop a).take (b - a)) := by
  apply ByteArray.ext; apply Array.toList_inj.1
  rw [Lib.extract_data, bytesOf_list, bytesOf_list]
theorem trim_last {l : List UInt8} {c : UInt8} (hl : l.getLast? = some c) : (blkB c = true → trimR l = trimR (l.take (l.length - 1))) ∧ (blkB c = false → trimR l = l) := by
  have hs : l = l.dropLast ++ [c] := by
    rcases List.eq_nil_or_concat l with rfl | ⟨o, y, rfl⟩
    · cases hl
    · simp at hl; subst hl; simp
  have hd : l.take (l.length - 1) = l.dropLast := by rw [List.dropLast_eq_take]
  rw [hd]
  constructor
  · intro h
    conv => lhs; rw [hs]
    exact trimR_app (by intro d hd; simp at hd; subst hd; exact h)
  · intro h
    unfold trimR
    rw [hs, List.reverse_append]
    rw [show [c].reverse ++ l.dropLast.reverse = c :: l.dropLast.reverse from rfl, dropWhile_stop h]
    simp
theorem trimR_nil : trimR [] = [] := rfl
theorem drop_blank {c : UInt8} {r : List UInt8} (h : blkB c = true) : (c :: r).dropWhile blkB = r.dropWhile blkB := by rw [List.dropWhile_cons, if_pos h]
end Go.Proofs.YthlnfefpdmecaaaGreatDoor

/-
  kerfref02.Hex: a rune's number in hexadecimal digits.
-/
namespace Go.Proofs.YthlnfefpdmecaaaGreatDoor
open Go.RowKit

theorem hexW_succ (j n : Nat) : hexW (j + 1) n = hexD (n / 16 ^ j % 16) :: hexW j n := by
  induction j generalizing n with
  | zero => simp [hexW]
  | succ j ih => rw [hexW, ih, hexW, Nat.div_div_eq_div_mul, ← Nat.pow_succ']; rfl
theorem digits_at (d : Nat) (h : d < 16) : ((⟨#[48, 49, 50, 51, 52, 53, 54, 55, 56, 57, 65, 66, 67, 68, 69, 70]⟩ : ByteArray).extract d (d + 1)).data.toList = [hexD d] := by
  rcases (by omega : d = 0 ∨ d = 1 ∨ d = 2 ∨ d = 3 ∨ d = 4 ∨ d = 5 ∨ d = 6 ∨ d = 7 ∨ d = 8 ∨ d = 9 ∨ d = 10 ∨ d = 11 ∨ d = 12 ∨ d = 13 ∨ d = 14 ∨ d = 15) with rfl | rfl | rfl | rfl | rfl | rfl | rfl | rfl | rfl | rfl | rfl | rfl | rfl | rfl | rfl | rfl <;> rfl
/-- How far Hex has come. -/
def HexAt (r j x : Nat) (t : ByteArray) : Prop := x = r / 16 ^ j ∧ t.data.toList = hexW j r ∧ j ≤ hexK r
theorem hexAt_next {r j x d q : Nat} {t : ByteArray} (h : HexAt r j x t) (hr : r ≤ 1114111) (hc : 0 < x ∨ j < 4) (hd : x = 16 * q + d) (h16 : d < 16) :
    HexAt r (j + 1) q ((⟨#[48, 49, 50, 51, 52, 53, 54, 55, 56, 57, 65, 66, 67, 68, 69, 70]⟩ : ByteArray).extract d (d + 1) ++ t) := by
  obtain ⟨rfl, h2, h3⟩ := h
  refine ⟨by rw [Nat.pow_succ, ← Nat.div_div_eq_div_mul]; omega, ?_, ?_⟩
  · rw [ByteArray.data_append, Array.toList_append, digits_at d h16, h2, hexW_succ]
    have : r / 16 ^ j % 16 = d := by omega
    rw [this]; rfl
  · unfold hexK at h3 ⊢
    rcases hc with hc | hc
    · rcases (by omega : j < 4 ∨ j = 4 ∨ j = 5 ∨ 6 ≤ j) with h | rfl | rfl | h
      · split <;> (try split) <;> omega
      · have : 0 < r / 65536 := hc
        split <;> (try split) <;> omega
      · have : 0 < r / 1048576 := hc
        split <;> (try split) <;> omega
      · have h7 : 16 ^ 6 ≤ 16 ^ j := Nat.pow_le_pow_right (by omega) h
        have h8 : (16 : Nat) ^ 6 = 16777216 := by decide
        have h6 : r / 16 ^ j = 0 := Nat.div_eq_of_lt (Nat.lt_of_lt_of_le (show r < 16 ^ 6 by rw [h8]; omega) h7)
        omega
    · split <;> (try split) <;> omega
theorem hexAt_end {r j : Nat} {t : ByteArray} (h : HexAt r j 0 t) (h4 : 4 ≤ j) : t = ⟨(hexS r).toArray⟩ := by
  obtain ⟨h1, h2, h3⟩ := h
  have hj : j = hexK r := by
    unfold hexK at h3 ⊢
    have hlt : r < 16 ^ j := by
      rcases Nat.lt_or_ge r (16 ^ j) with h | h
      · exact h
      · have := Nat.div_pos h (Nat.pow_pos (by decide : 0 < 16)); omega
    rcases (by omega : j = 4 ∨ j = 5 ∨ 6 ≤ j) with rfl | rfl | h
    · have : r < 65536 := hlt
      rw [if_pos this]
    · have : r < 1048576 := hlt
      split at h3
      · omega
      · rw [if_neg (by assumption), if_pos this]
    · have h9 : (if r < 65536 then 4 else if r < 1048576 then 5 else 6) ≤ 6 := by split <;> (try split) <;> omega
      have h10 : j = 6 := by omega
      subst h10
      by_cases h11 : r < 65536
      · rw [if_pos h11] at h3; omega
      · by_cases h12 : r < 1048576
        · rw [if_neg h11, if_pos h12] at h3; omega
        · rw [if_neg h11, if_neg h12]
  subst hj
  apply ByteArray.ext
  rw [← Array.toList_inj, h2]; rfl
theorem hexAt_len {r j x : Nat} {t : ByteArray} (h : HexAt r j x t) : t.size = j := by rw [← size_data, h.2.1, hexW_len]

end Go.Proofs.YthlnfefpdmecaaaGreatDoor

/-
  strings.Builder: copyCheck, WriteString (the shelf's layings fall at this dump).
-/
namespace Go.Proofs.YthlnfefpdmecaaaGreatDoor
open Go.RowKit

theorem bldSize : (Tryz.prog.info? 233).map (·.size) = some 2 := by kernel_rfl
theorem bldLies : liesAt Tryz.prog Tryz.prog.depth 233 (2 / Tryz.prog.cellsOf 233) 0 233 1 = true := by kernel_rfl
theorem infoU8 : (Tryz.prog.info? 5).map (fun i => (i.zero, i.size, i.bytes)) = some (some (.int .u8 0), 1, 1) := by kernel_rfl

set_option maxRecDepth 100000 in
set_option maxHeartbeats 1000000 in
theorem copyCheck_fresh (b : Nat) (w : World) (h0 : w.cell? ⟨b, 0, none⟩ = some (.pointer none)) (hsh : w.shape? b = some (233, 2)) (hfz : w.frozen? ⟨b, 0, none⟩ = false) :
    Calls Tryz.prog 278 #[.pointer (some ⟨b, 0, none⟩)] w fun e w' => e = .returned (.tuple #[]) ∧ w.setCell ⟨b, 0, none⟩ (.pointer (some ⟨b, 0, none⟩)) = w' := by
  obtain ⟨j, hj, hjs⟩ := Option.map_eq_some_iff.1 bldSize
  go_enter Tryz.func278, Tryz.ntmps278
  go_wp2
  rw [Lib.run_to_unsafe w ⟨b, 0, none⟩ Tryz.underlying231 Tryz.underlying278 hj (by rw [hjs]; decide) hsh (Nat.zero_lt_succ 1)]
  simp only [Result.andThen]
  rw [Oper.upon_value]
  go_wp2
  rw [run_callFunc_extern Tryz.func306 (by kernel_rfl) (by kernel_rfl) (by kernel_rfl) (e := Extern.AbiNoEscape.same) (by kernel_rfl)]
  rw [Lib.run_noEscape]
  simp only [Result.andThen]
  rw [Oper.upon_value]
  go_wp2
  rw [Lib.run_from_unsafe w ⟨b, 0, none⟩ Tryz.underlying278 Tryz.underlying231 hj hsh bldLies]
  simp only [Result.andThen]
  rw [Oper.upon_value]
  go_wp2
  go_end0
  exact ⟨rfl, rfl⟩
set_option maxRecDepth 100000 in
set_option maxHeartbeats 1000000 in
theorem copyCheck_used (b : Nat) (w : World) (h0 : w.cell? ⟨b, 0, none⟩ = some (.pointer (some ⟨b, 0, none⟩))) :
    Calls Tryz.prog 278 #[.pointer (some ⟨b, 0, none⟩)] w fun e w' => e = .returned (.tuple #[]) ∧ w = w' := by
  obtain ⟨j, hj, _⟩ := Option.map_eq_some_iff.1 bldSize
  go_enter Tryz.func278, Tryz.ntmps278
  go_wp2
  rw [Lib.run_neq_ptr_same w _ Tryz.underlying231 hj]
  go_wp2
  go_end0
  exact ⟨rfl, rfl⟩
/-- A builder at block b that holds the bytes l; its row lies at B or beyond. -/
def Bld (w : World) (b B : Nat) (l : List UInt8) : Prop :=
  ∃ p v, (p = .pointer none ∨ p = .pointer (some ⟨b, 0, none⟩)) ∧ w.heap[b]? = some (.cells #[p, v] 233 (0, 0)) ∧ w.ownsRowF B 5 1 v l.length (Lib.byteCells l)
theorem Bld.new (w : World) (B : Nat) : Bld (w.alloc (.cells #[.pointer none, .slice none 0 0] 233)) w.heap.size B [] :=
  ⟨_, _, .inl rfl, heap_alloc_new w _, World.ownsRowF_nil _ _ _ _⟩
theorem Bld.lt {w : World} {b B : Nat} {l : List UInt8} (h : Bld w b B l) : b < w.heap.size := by
  obtain ⟨p, v, _, hb, _⟩ := h; exact (Array.getElem?_eq_some_iff.1 hb).1
theorem Bld.row_ne {w : World} {b B : Nat} {n : Nat} {xs : List Value} {cs : Array Value} {v : Value} (hown : w.ownsRowF B 5 1 v n xs) (hb : w.heap[b]? = some (.cells cs 233 (0, 0))) : v.ownBlock ≠ some b := Lib.ownBlock_neF hown hb (by decide)
theorem Bld.keep {w w' : World} {b B : Nat} {l : List UInt8} (h : Bld w b B l) (hs : ∀ (k : Nat) (o : Obj), w.heap[k]? = some o → o.isCells = true → k = b ∨ B ≤ k → w'.heap[k]? = some o) : Bld w' b B l := by
  obtain ⟨p, v, hp, hb, hown⟩ := h
  refine ⟨p, v, hp, hs b _ hb rfl (.inl rfl), hown.1, ?_⟩
  rcases hown.2 with h0 | ⟨g, cap, cur, fz, hv, hg, hh, r⟩
  · exact .inl h0
  · exact .inr ⟨g, cap, cur, fz, hv, hg, hs g _ hh rfl (.inr hg), r⟩
theorem Bld.below {w w' : World} {b B : Nat} {l : List UInt8} (h : Bld w b B l) (hb : Below w.heap.size w w') : Bld w' b B l := h.keep fun k _ hk _ _ => (hb.block k (Array.getElem?_eq_some_iff.1 hk).1).trans hk
theorem Bld.kept {w w' : World} {row : Option Nat} {b B : Nat} {l : List UInt8} (h : Bld w b B l) (hg : w.grownBy w' row) (hr : ∀ r, row = some r → ∃ o : Obj, w.heap[r]? = some o ∧ o.isCells = false) : Bld w' b B l :=
  h.keep fun k o hk hc _ => (hg.block k (Array.getElem?_eq_some_iff.1 hk).1 (by
    rintro rfl
    obtain ⟨o', h1, h2⟩ := hr k rfl
    rw [hk] at h1; cases h1; rw [hc] at h2; cases h2)).trans hk
theorem Bld.more {w : World} {b B B' : Nat} {l : List UInt8} (h : Bld w b B l) (hB : B' ≤ B) : Bld w b B' l := by
  obtain ⟨p, v, hp, hb, hown⟩ := h
  refine ⟨p, v, hp, hb, hown.1, ?_⟩
  rcases hown.2 with h0 | ⟨g, cap, cur, fz, hv, hg, r⟩
  · exact .inl h0
  · exact .inr ⟨g, cap, cur, fz, hv, by omega, r⟩
theorem Bld.is {w : World} {b B : Nat} {l : List UInt8} (h : Bld w b B l) (hB : b ≤ B) : Lib.IsBuilderF 233 5 b b (Lib.byteCells l) w := by
  obtain ⟨p, v, hp, hb, hown⟩ := h.more hB
  have hl : (Lib.byteCells l).length = l.length := Lib.byteCells_length l
  rcases hp with rfl | rfl
  · exact .inl ⟨Nat.le_refl _, v, hb, by rw [hl]; exact hown, Bld.row_ne hown hb⟩
  · exact .inr ⟨Nat.le_refl _, v, hb, by rw [hl]; exact hown, Bld.row_ne hown hb⟩
theorem bString_any (b B : Nat) (l : List UInt8) (w : World) (h : Bld w b B l) (hB : b ≤ B) :
    Calls Tryz.prog 245 #[.pointer (some ⟨b, 0, none⟩)] w fun e w' => e = .returned (.string ⟨l.toArray⟩) ∧ Below b w w' ∧ Lib.OthersKept 5 (some b) w w' :=
  (Tryz.Builder_String_any_k b b l w (h.is hB) (Nat.le_of_lt h.lt)).mono fun _ _ ⟨h1, _, h2, h3⟩ => ⟨h1, h2, h3⟩

set_option maxRecDepth 100000 in
set_option maxHeartbeats 1000000 in
theorem lWriteString_any (b B : Nat) (l : List UInt8) (s : ByteArray) (w : World) (h : Bld w b B l) (hbB : b < B) (hlen : l.length + s.size ≤ 140737488355328) (hBw : B ≤ w.heap.size) :
    Calls Tryz.prog 244 #[.pointer (some ⟨b, 0, none⟩), .string s] w fun e w' => e = .returned (.tuple #[.int .i64 s.size, .nilIface]) ∧ Bld w' b B (l ++ s.data.toList) ∧ Below b w w' ∧ (∀ k, k ≠ b → k < B → w'.heap[k]? = w.heap[k]?) ∧ KeepsOthers w w' := by
  obtain ⟨i0, hi, hz0, hz1, hz2⟩ := info_parts infoU8
  obtain ⟨p, v, hp, hbk, hown⟩ := h
  have hcells : ∀ o, w.heap[b]? = some o → o.isCells = true := fun o ho => by rw [hbk] at ho; cases ho; rfl
  have Hcells := Lib.hid hcells
  clear hcells
  have Hchk : Hid (Calls Tryz.prog 278 #[.pointer (some ⟨b, 0, none⟩)] w fun e w' => e = .returned (.tuple #[]) ∧ w'.heap[b]? = some (.cells #[.pointer (some ⟨b, 0, none⟩), v] 233 (0, 0)) ∧ w'.ownsRowF B 5 1 v l.length (Lib.byteCells l) ∧ w.grownBy w' (some b)) := by
    rcases hp with rfl | rfl
    · refine Lib.hid ((copyCheck_fresh b w (by rw [Lib.cell_of_heap hbk]; rfl) (by simp [World.shape?, hbk]) (Lib.frozen_of_heap hbk 0)).mono ?_)
      rintro e w' ⟨rfl, rfl⟩
      have hg : w.grownBy (w.setCell ⟨b, 0, none⟩ (.pointer (some ⟨b, 0, none⟩))) (some b) :=
        ⟨rfl, rfl, rfl, by simp [World.setCell], fun k _ hk => Below.heap_setCell w ⟨b, 0, none⟩ _ k (fun e => hk (by rw [e]))⟩
      refine ⟨rfl, ?_, hown.kept hg ?_, hg⟩
      · simp [World.setCell, Array.getElem?_modify, hbk]
      · exact .inr (Bld.row_ne hown hbk)
    · refine Lib.hid ((copyCheck_used b w (by rw [Lib.cell_of_heap hbk]; rfl)).mono ?_)
      rintro e w' ⟨rfl, rfl⟩
      exact ⟨rfl, hbk, hown, World.grownBy.refl _ _⟩
  clear hp hown hbk
  go_enter Tryz.func244, Tryz.ntmps244
  go_wp2_with fail
  refine Hchk.out.mono ?_
  clear Hchk
  rintro e w1 ⟨rfl, hbk, hown, hg1⟩
  have c0 : w1.cell? ⟨b, 0, none⟩ = some (.pointer (some ⟨b, 0, none⟩)) := by rw [Lib.cell_of_heap hbk]; rfl
  have c1 : w1.cell? ⟨b, 1, none⟩ = some v := by rw [Lib.cell_of_heap hbk]; rfl
  have hs1 := hg1.size
  go_wp2_with (at_builtin; refine Lib.wpList_append_own_stringF _ rfl _ _ 112 9 rfl B 5 i0 Tryz.underlying112 Tryz.underlying9 hi hz0 hz1 hz2 _ _ _ rfl hown s rfl ?c3 ?c4 ?c5 ?_)
  case c3 => unfold maxLen; omega
  case c4 => omega
  case c5 => omega
  intro v' w2 hown' hgrow _
  have hlt : b < w1.heap.size := (Array.getElem?_eq_some_iff.1 hbk).1
  have hne := Bld.row_ne hown hbk
  have hb2 : w2.heap[b]? = some (.cells #[.pointer (some ⟨b, 0, none⟩), v] 233 (0, 0)) := by
    rw [hgrow.block b hlt (fun e => hne e.symm)]
    exact hbk
  have d0 : w2.cell? ⟨b, 0, none⟩ = some (.pointer (some ⟨b, 0, none⟩)) := by rw [Lib.cell_of_heap hb2]; rfl
  have d1 : w2.cell? ⟨b, 1, none⟩ = some v := by rw [Lib.cell_of_heap hb2]; rfl
  have f1 : w2.frozen? ⟨b, 1, none⟩ = false := Lib.frozen_of_heap hb2 1
  obtain ⟨ao, n', cap, rfl⟩ : ∃ ao n' cap, v' = .slice ao n' cap := by
    rcases hown'.2 with ⟨hv, _⟩ | ⟨g, cap, cur, fz, hv, _⟩
    · exact ⟨_, _, _, hv⟩
    · exact ⟨_, _, _, hv⟩
  have hs2 := hgrow.size
  go_wp2
  go_ret2
  have hblk : ∀ k, k ≠ b → k < B → (w2.setCell ⟨b, 1, none⟩ (.slice ao n' cap)).heap[k]? = w.heap[k]? := fun k hk hkB => by
    rw [Below.heap_setCell w2 ⟨b, 1, none⟩ _ k hk, hgrow.block k (by omega) (fun e => by have := (hown.lt k e.symm).1; omega), hg1.block k (by omega) (fun e => by injection e; omega)]
  refine ⟨rfl, ⟨_, .slice ao n' cap, .inr rfl, ?_, ?_⟩, ⟨?_, ?_, ?_, ?_, fun k hk => hblk k (by omega) (by omega)⟩, hblk, ?_⟩
  · simp [World.setCell, Array.getElem?_modify, hb2]
  · have hne' := Bld.row_ne hown' hb2
    have hg3 : w2.grownBy (w2.setCell ⟨b, 1, none⟩ (.slice ao n' cap)) (some b) :=
      ⟨rfl, rfl, rfl, by simp [World.setCell], fun k _ hk => Below.heap_setCell w2 ⟨b, 1, none⟩ _ k (fun e => hk (by rw [e]))⟩
    have h := hown'.kept hg3 (.inr hne')
    have e1 : Lib.byteCells (l ++ s.data.toList) = Lib.byteCells l ++ Lib.strCells s := by simp [Lib.byteCells, Lib.strCells]
    rw [e1, List.length_append, Array.length_toList]
    exact h
  · exact hgrow.os.trans hg1.os
  · exact hgrow.tape.trans hg1.tape
  · exact hgrow.output.trans hg1.output
  · simp [World.setCell]; omega
  · refine ⟨by simp [World.setCell]; omega, fun k o hk ho => ?_⟩
    have hkb : k ≠ b := fun e => by
      subst e
      have := Hcells.out o hk
      rw [ho] at this; cases this
    rw [Below.heap_setCell w2 ⟨b, 1, none⟩ _ k hkb, hgrow.block k (by have := (Array.getElem?_eq_some_iff.1 hk).1; omega) ?_, hg1.block k (Array.getElem?_eq_some_iff.1 hk).1 (fun e => by injection e; omega)]
    · exact hk
    · intro e
      obtain ⟨c, fz, hc⟩ := Lib.ownsRowF_kind hown k e.symm
      rw [hg1.block k (Array.getElem?_eq_some_iff.1 hk).1 (fun e => by injection e; omega), hk] at hc
      cases hc; cases ho
end Go.Proofs.YthlnfefpdmecaaaGreatDoor

/-
  strings.Builder: Grow at a fresh builder; WriteByte.
-/
namespace Go.Proofs.YthlnfefpdmecaaaGreatDoor
open Go.RowKit

theorem bGrow_any (b n : Nat) (w : World) (hbk : w.heap[b]? = some (.cells #[.pointer none, .slice none 0 0] 233 (0, 0))) (hn : n ≤ 281474976710656) :
    Calls Tryz.prog 243 #[.pointer (some ⟨b, 0, none⟩), .int .i64 n] w fun e w' => e = .returned (.tuple #[]) ∧ Bld w' b (b + 1) [] ∧ Below b w w' := by
  have hlt : b < w.heap.size := (Array.getElem?_eq_some_iff.1 hbk).1
  refine (Tryz.Builder_Grow_fresh b b n w (Nat.le_refl _) hbk (Nat.le_of_lt hlt) hn).mono ?_
  rintro e w' ⟨rfl, ⟨_, v, h1, h2, h3⟩, hb⟩
  refine ⟨rfl, ⟨_, v, .inr rfl, h1, ?_⟩, hb⟩
  have h4 := World.ownsRowF_of h2
  refine ⟨h4.1, ?_⟩
  rcases h4.2 with h | ⟨g, cap, cur, fz, hv, hg, r⟩
  · exact .inl h
  · refine .inr ⟨g, cap, cur, fz, hv, ?_, r⟩
    rw [hv] at h3
    have : g ≠ b := fun e => h3 (by rw [e]; rfl)
    omega

theorem cell_new1 (w : World) {t : TypeId} (x : Value) : ∀ j u, [x][j]? = some u → (w.alloc (.cells #[x] t)).cell? ((⟨w.heap.size, 0, none⟩ : Addr).add j) = some u := fun j u h => by
  match j, h with
  | 0, h =>
    obtain rfl : x = u := by simpa using h
    exact (Blk.new w t #[x]).cell 0

end Go.Proofs.YthlnfefpdmecaaaGreatDoor

/-
  strings.ToUpper of a text of ASCII bytes.
-/
namespace Go.Proofs.YthlnfefpdmecaaaGreatDoor
open Go.RowKit

def upB (c : UInt8) : UInt8 := if 97 ≤ c.toNat ∧ c.toNat ≤ 122 then c - 32 else c
def lowP (c : UInt8) : Prop := 97 ≤ c.toNat ∧ c.toNat ≤ 122
theorem upB_low {c : UInt8} (h : lowP c) : upB c = c - 32 := if_pos h
theorem upB_not {c : UInt8} (h : ¬ lowP c) : upB c = c := if_neg h
theorem upB_nat {c : UInt8} (h : lowP c) : ((c - 32 : UInt8).toNat : Int) = (c.toNat : Int) - 32 := by
  have h1 : (32 : UInt8) ≤ c := by rw [UInt8.le_iff_toNat_le]; have := h.1; show 32 ≤ c.toNat; omega
  rw [UInt8.toNat_sub_of_le _ _ h1]
  have := h.1
  show ((c.toNat - 32 : Nat) : Int) = _
  omega
/-- How far the upper-case text has come. -/
def UpAt (s : ByteArray) (i p : Nat) (l : List UInt8) : Prop := p ≤ i ∧ i ≤ s.size ∧ l = (s.data.toList.take p).map upB ∧ ∀ k c, p ≤ k → k < i → s.data.toList[k]? = some c → ¬ lowP c
theorem map_not {l : List UInt8} (h : ∀ c ∈ l, ¬ lowP c) : l.map upB = l := by
  induction l with
  | nil => rfl
  | cons c l ih => rw [List.map_cons, upB_not (h c (by simp)), ih (fun d hd => h d (by simp [hd]))]
theorem upAt_seg {s : ByteArray} {i p : Nat} {l : List UInt8} (h : UpAt s i p l) : l ++ (s.extract p i).data.toList = (s.data.toList.take i).map upB := by
  obtain ⟨h1, h2, rfl, h4⟩ := h
  have e : s.data.toList.take i = s.data.toList.take p ++ (s.extract p i).data.toList := by
    rw [Lib.extract_data, ← List.drop_take]
    have := (List.take_append_drop p (s.data.toList.take i)).symm
    rw [List.take_take, Nat.min_eq_left h1] at this
    exact this
  rw [e, List.map_append, map_not (l := (s.extract p i).data.toList)]
  intro c hc
  obtain ⟨k, hk, hkc⟩ := List.getElem_of_mem hc
  have hk' : (s.extract p i).data.toList[k]? = some c := by rw [List.getElem?_eq_getElem hk, hkc]
  rw [Lib.extract_data] at hk'
  have hlt : k < i - p := by
    have := (List.getElem?_eq_some_iff.1 hk').1
    rw [List.length_take] at this; omega
  rw [List.getElem?_take_of_lt hlt, List.getElem?_drop] at hk'
  exact h4 (p + k) c (by omega) (by omega) hk'
theorem upAt_skip {s : ByteArray} {i p : Nat} {l : List UInt8} {c : UInt8} (h : UpAt s i p l) (hi : i < s.size) (hc : s.data.toList[i]? = some c) (hn : ¬ lowP c) : UpAt s (i + 1) p l :=
  ⟨by have := h.1; omega, by omega, h.2.2.1, fun k d hk hk2 hd => by
    rcases Nat.lt_or_ge k i with hlt | hge
    · exact h.2.2.2 k d hk hlt hd
    · obtain rfl : k = i := by omega
      rw [hc] at hd; cases hd; exact hn⟩
theorem upAt_put {s : ByteArray} {i p : Nat} {l : List UInt8} {c : UInt8} (h : UpAt s i p l) (hi : i < s.size) (hc : s.data.toList[i]? = some c) (hn : lowP c) : UpAt s (i + 1) (i + 1) (l ++ (s.extract p i).data.toList ++ [c - 32]) :=
  ⟨by omega, by omega, by rw [upAt_seg h, List.take_add_one, hc, Option.toList_some, List.map_append, List.map_singleton, upB_low hn], fun k d hk hk2 _ => by omega⟩
theorem upAt_len {s : ByteArray} {i p : Nat} {l : List UInt8} (h : UpAt s i p l) : l.length = p := by
  have h1 := h.1; have h2 := h.2.1
  rw [h.2.2.1, List.length_map, List.length_take, size_data]; omega

end Go.Proofs.YthlnfefpdmecaaaGreatDoor

/-
  strings.Repeat of one nought, up to three times.
-/
namespace Go.Proofs.YthlnfefpdmecaaaGreatDoor
open Go.RowKit

theorem hasPre_any (s p : ByteArray) (b : Bool) (w : World) (h : Lib.hasPrefix s.data.toList p.data.toList = b) : Calls Tryz.prog 274 #[.string s, .string p] w fun e w' => e = .returned (.bool b) ∧ w = w' :=
  (Tryz.strings_HasPrefix s p w).mono fun _ _ ⟨h1, h2⟩ => ⟨by rw [h1, h], h2.symm⟩
end Go.Proofs.YthlnfefpdmecaaaGreatDoor

/-
  runes.spell: a rune's spelling.
-/
namespace Go.Proofs.YthlnfefpdmecaaaGreatDoor
open Go.RowKit

theorem upB_lowD (d : Nat) (h : d < 16) : upB (lowD d) = hexD d := by
  rcases (by omega : d = 0 ∨ d = 1 ∨ d = 2 ∨ d = 3 ∨ d = 4 ∨ d = 5 ∨ d = 6 ∨ d = 7 ∨ d = 8 ∨ d = 9 ∨ d = 10 ∨ d = 11 ∨ d = 12 ∨ d = 13 ∨ d = 14 ∨ d = 15) with rfl | rfl | rfl | rfl | rfl | rfl | rfl | rfl | rfl | rfl | rfl | rfl | rfl | rfl | rfl | rfl <;> rfl
theorem lowD_lt (d : Nat) (h : d < 16) : (lowD d).toNat < 128 := by
  rcases (by omega : d = 0 ∨ d = 1 ∨ d = 2 ∨ d = 3 ∨ d = 4 ∨ d = 5 ∨ d = 6 ∨ d = 7 ∨ d = 8 ∨ d = 9 ∨ d = 10 ∨ d = 11 ∨ d = 12 ∨ d = 13 ∨ d = 14 ∨ d = 15) with rfl | rfl | rfl | rfl | rfl | rfl | rfl | rfl | rfl | rfl | rfl | rfl | rfl | rfl | rfl | rfl <;> decide
theorem up_lowW : ∀ (k n : Nat), (lowW k n).map upB = hexW k n
  | 0, _ => rfl
  | k + 1, n => by rw [lowW, List.map_append, up_lowW k, List.map_singleton, upB_lowD _ (Nat.mod_lt _ (by decide)), hexW]
theorem lowW_ascii : ∀ (k n : Nat), ∀ c ∈ lowW k n, c.toNat < 128
  | 0, _, c, h => by simp [lowW] at h
  | k + 1, n, c, h => by
    rw [lowW] at h
    rcases List.mem_append.1 h with h | h
    · exact lowW_ascii k _ c h
    · simp at h; subst h; exact lowD_lt _ (Nat.mod_lt _ (by decide))
theorem hex_pad (n : Nat) : List.replicate (4 - hexL n) (48 : UInt8) ++ hexW (hexL n) n = hexS n := by
  unfold hexS
  by_cases h1 : n < 16
  · have e1 : hexL n = 1 := by unfold hexL; rw [if_pos h1]
    have e2 : hexK n = 4 := by unfold hexK; rw [if_pos (by omega)]
    rw [e1, e2, hexW_succ 3, hexW_succ 2, hexW_succ 1]
    have a1 : n / 16 ^ 3 % 16 = 0 := by rw [show (16 : Nat) ^ 3 = 4096 by decide]; omega
    have a2 : n / 16 ^ 2 % 16 = 0 := by rw [show (16 : Nat) ^ 2 = 256 by decide]; omega
    have a3 : n / 16 ^ 1 % 16 = 0 := by rw [show (16 : Nat) ^ 1 = 16 by decide]; omega
    rw [a1, a2, a3]; rfl
  · by_cases h2 : n < 256
    · have e1 : hexL n = 2 := by unfold hexL; rw [if_neg h1, if_pos h2]
      have e2 : hexK n = 4 := by unfold hexK; rw [if_pos (by omega)]
      rw [e1, e2, hexW_succ 3, hexW_succ 2]
      have a1 : n / 16 ^ 3 % 16 = 0 := by rw [show (16 : Nat) ^ 3 = 4096 by decide]; omega
      have a2 : n / 16 ^ 2 % 16 = 0 := by rw [show (16 : Nat) ^ 2 = 256 by decide]; omega
      rw [a1, a2]; rfl
    · by_cases h3 : n < 4096
      · have e1 : hexL n = 3 := by unfold hexL; rw [if_neg h1, if_neg h2, if_pos h3]
        have e2 : hexK n = 4 := by unfold hexK; rw [if_pos (by omega)]
        rw [e1, e2, hexW_succ 3]
        have a1 : n / 16 ^ 3 % 16 = 0 := by rw [show (16 : Nat) ^ 3 = 4096 by decide]; omega
        rw [a1]; rfl
      · have e1 : hexL n = hexK n := by unfold hexL; rw [if_neg h1, if_neg h2, if_neg h3]
        have := hexK_bd n
        rw [e1, show 4 - hexK n = 0 by omega]; rfl

theorem ret_str {x y : ByteArray} (h : x.data.toList = y.data.toList) : Ending.returned (.string x) = .returned (.string y) := by
  rw [ByteArray.ext (Array.toList_inj.1 h)]

end Go.Proofs.YthlnfefpdmecaaaGreatDoor

/-
  strings.Join with one blank between.
-/
namespace Go.Proofs.YthlnfefpdmecaaaGreatDoor
open Go.RowKit

def joinL : List ByteArray → List UInt8
  | [] => []
  | [x] => x.data.toList
  | x :: y :: r => x.data.toList ++ 32 :: joinL (y :: r)
theorem joinL_snoc : ∀ (l : List ByteArray) (x : ByteArray), l ≠ [] → joinL (l ++ [x]) = joinL l ++ [32] ++ x.data.toList
  | [], _, h => absurd rfl h
  | [y], x, _ => by simp [joinL]
  | y :: z :: r, x, _ => by
    have ih := joinL_snoc (z :: r) x (by simp)
    simp only [List.cons_append, joinL] at ih ⊢
    rw [ih]; simp
theorem joinL_len : ∀ (l : List ByteArray), (∀ x ∈ l, x.size ≤ 1000) → (joinL l).length ≤ 1001 * l.length
  | [], _ => by simp [joinL]
  | [x], h => by have := h x (by simp); simp [joinL] at this ⊢; have h2 : x.data.size = x.size := rfl; omega
  | x :: y :: r, h => by
    have h1 := h x (by simp)
    have ih := joinL_len (y :: r) (fun z hz => h z (by simp [hz]))
    have h2 := size_data x
    rw [joinL, List.length_append, List.length_cons, h2]
    simp only [List.length_cons] at ih ⊢
    omega
theorem joinL_step {ss : List ByteArray} {k : Nat} {x : ByteArray} (h : ss[k + 1]? = some x) : joinL (ss.take (k + 1 + 1)) = joinL (ss.take (k + 1)) ++ [32] ++ x.data.toList := by
  rw [List.take_add_one (i := k + 1), h, Option.toList_some, joinL_snoc]
  intro e
  have h1 : (ss.take (k + 1)).length = 0 := by rw [e]; rfl
  have h2 := (List.getElem?_eq_some_iff.1 h).1
  rw [List.length_take] at h1
  omega

end Go.Proofs.YthlnfefpdmecaaaGreatDoor

/-
  runes.Print: the spelling of a set.
-/
namespace Go.Proofs.YthlnfefpdmecaaaGreatDoor
open Go.RowKit

theorem TabB.below {w w' : World} (h : TabB w) (hb : Below w.heap.size w w') : TabB w' := by unfold TabB at h ⊢; exact cell_keep h hb
theorem infoStr : (Tryz.prog.info? 9).map (fun i => (i.zero, i.size, i.bytes)) = some (some (.string ByteArray.empty), 1, 16) := by kernel_rfl
/-- A text's one cell. -/
def encStr (s : ByteArray) : List Value := [.string s]
theorem encStr_ok (l : List ByteArray) : ∀ y ∈ l.map encStr, y.length = 1 ∧ ∀ u ∈ y, u.oneCell' = true := by
  intro y hy; obtain ⟨s, _, rfl⟩ := List.mem_map.1 hy
  exact ⟨rfl, by simp [encStr, Value.oneCell']⟩
def itemS (x : Int × Int) : ByteArray := ⟨(itemT x).toArray⟩
theorem joinL_print : ∀ (l : List (Int × Int)), joinL (l.map itemS) = printL l
  | [] => rfl
  | [x] => by simp [joinL, printL, itemS]
  | x :: y :: r => by
    have ih := joinL_print (y :: r)
    simp only [List.map_cons, joinL, printL] at ih ⊢
    rw [ih]; simp [itemS]
theorem itemS_size (x : Int × Int) : (itemS x).size ≤ 17 := by
  rw [← size_data]; simpa [itemS] using itemT_len x
theorem itemT_one {x : Int × Int} (h : x.2 = x.1) : itemT x = spellP x.1 := by unfold itemT; rw [if_pos h, List.append_nil]
theorem itemT_two {x : Int × Int} (h : ¬ x.2 = x.1) : itemT x = spellP x.1 ++ 45 :: spellP x.2 := by unfold itemT; rw [if_neg h]

end Go.Proofs.YthlnfefpdmecaaaGreatDoor

/-
  props.(*Db).Text, walked.
-/
namespace Go.Proofs.YthlnfefpdmecaaaGreatDoor
open Go.RowKit Go.Maps

theorem textG_le (N : List (List UInt8)) (S : List (List (Int × Int))) (k : Nat) (hN : ∀ n ∈ N, n.length ≤ 32) (hk : N.length ≤ 64) (hS : lenS S ≤ 1114112) : (textG (N.take k) (S.take k)).length ≤ 30000000 := by
  have h1 := textG_len (N.take k) (S.take k)
  have h2 : lenS (S.take k) ≤ lenS S := by
    have h3 : lenS S = lenS (S.take k) + lenS (S.drop k) := by
      conv => lhs; rw [← List.take_append_drop k S]
      exact lenS_append _ _
    omega
  have h4 : ∀ (M : List (List UInt8)), (∀ n ∈ M, n.length ≤ 32) → lenS M ≤ 32 * M.length := by
    intro M hM
    induction M with
    | nil => simp [lenS]
    | cons a r ih => have := hM a (by simp); have := ih (fun n hn => hM n (by simp [hn])); simp only [lenS, List.length_cons]; omega
  have h5 := h4 (N.take k) (fun n hn => hN n (List.mem_of_mem_take hn))
  rw [List.length_take] at h1 h5
  omega

theorem itemT_ne (x : Int × Int) : itemT x ≠ [] := fun h => by
  unfold itemT at h
  have := (List.append_eq_nil_iff.1 h).1
  unfold spellP at this
  simp at this

end Go.Proofs.YthlnfefpdmecaaaGreatDoor

/-
  kerflaw04: num, live, walked.
-/
namespace Go.Proofs.YthlnfefpdmecaaaGreatDoor
open Go.RowKit Go.Maps
theorem small_of : ofC smallD ⟨#[101, 204, 129, 255]⟩ = [2, 1, 0] := by
  have h : runesP ⟨#[101, 204, 129, 255]⟩ = [(101, 0, 1), (769, 1, 3), (65533, 3, 4)] := by decide +kernel
  unfold ofC
  rw [h]
  obtain ⟨h1, h2, h3⟩ := small_get
  show [smallD.get 101, smallD.get 769, smallD.get 65533] = [2, 1, 0]
  rw [h1, h2, h3]

end Go.Proofs.YthlnfefpdmecaaaGreatDoor

/-
  kerfref04: blank, trim, cut, walked.
-/
namespace Go.Proofs.YthlnfefpdmecaaaGreatDoor
open Go.RowKit Go.Maps

theorem blk_true {c : UInt8} (h : (c.toNat : Int) = 32 ∨ (c.toNat : Int) = 9) : blkB c = true := by
  have h1 : c = 32 ↔ c.toNat = 32 := u8_eq (n := 32) (by omega)
  have h2 : c = 9 ↔ c.toNat = 9 := u8_eq (n := 9) (by omega)
  simp only [blkB, Bool.or_eq_true, beq_iff_eq, h1, h2]; omega
theorem blk_false {c : UInt8} (h : ¬ ((c.toNat : Int) = 32 ∨ (c.toNat : Int) = 9)) : blkB c = false := by
  cases hb : blkB c with
  | false => rfl
  | true =>
    have h1 : c = 32 ↔ c.toNat = 32 := u8_eq (n := 32) (by omega)
    have h2 : c = 9 ↔ c.toNat = 9 := u8_eq (n := 9) (by omega)
    refine absurd ?_ h
    simp only [blkB, Bool.or_eq_true, beq_iff_eq, h1, h2] at hb; omega
theorem vblank_any (c : UInt8) (w : World) : Calls Tryz.prog 190 #[.int .u8 (c.toNat : Int)] w fun e w' => e = .returned (.bool (blkB c)) ∧ w = w' := by
  have HT := Lib.hid (@blk_true c)
  have HF := Lib.hid (@blk_false c)
  generalize (c.toNat : Int) = z at HT HF
  rcases (by omega : z = 32 ∨ z = 9 ∨ (z ≠ 32 ∧ z ≠ 9)) with h | h | ⟨h, h'⟩
  · have HV := Lib.hid (HT.out (.inl h))
    subst h
    go_enter Tryz.func190, Tryz.ntmps190
    go_wp2
    go_ret
    exact ⟨by rw [HV.out]; rfl, rfl⟩
  · have HV := Lib.hid (HT.out (.inr h))
    subst h
    go_enter Tryz.func190, Tryz.ntmps190
    go_wp2
    go_ret
    exact ⟨by rw [HV.out]; rfl, rfl⟩
  · have HV := Lib.hid (HF.out (by omega))
    have h1 : (z == 32) = false := beq_eq_false_iff_ne.2 h
    have h2 : (z == 9) = false := beq_eq_false_iff_ne.2 h'
    go_enter Tryz.func190, Tryz.ntmps190
    go_wp2
    go_ret
    exact ⟨by rw [HV.out]; rfl, rfl⟩

def strSize : Value → Nat
  | .string s => s.size
  | _ => 0
set_option maxRecDepth 100000 in
set_option maxHeartbeats 2000000 in
theorem vtrim_any (L : List UInt8) (w : World) (hL : L.length ≤ 1000000) : Calls Tryz.prog 150 #[.string (bytesOf L)] w fun e w' => e = .returned (.string (bytesOf (trimL L))) ∧ w = w' := by
  have HTE := Lib.hid (trimL_eq L)
  go_enter Tryz.func150, Tryz.ntmps150
  go_wp2
  go_loopw [0] (fun v wr => ∃ l : List UInt8, v = .string (bytesOf l) ∧ l.length ≤ L.length ∧ Hid (l.dropWhile blkB = L.dropWhile blkB) ∧ wr = w) (fun v _ => strSize v)
  case atStart => exact ⟨L, rfl, by omega, rfl, rfl⟩
  case round =>
    obtain ⟨l, rfl, hl, HD, rfl⟩ := hrel
    have hsz : (bytesOf l).size = l.length := bytesOf_size l
    by_cases hb : ∃ c r, l = c :: r ∧ blkB c = true
    · obtain ⟨c, r, rfl, hc⟩ := hb
      have h0 : 0 < (bytesOf (c :: r)).size := by rw [hsz]; simp
      have hix := index_at (bytesOf (c :: r)) 0 0 rfl h0
      have hg : (bytesOf (c :: r))[0]'h0 = c := by have := get_list h0; rw [bytesOf_list] at this; simpa using this.symm
      rw [hg] at hix
      have hgi : (((bytesOf (c :: r))[0]'h0).toNat : Int) = (c.toNat : Int) := by rw [hg]
      have HX := Lib.hid (ext_bytes (c :: r) 1)
      rw [hsz] at HX
      have hl2 : (r.length : Int) + 1 ≤ 1000000 := by simp at hl; omega
      clear hg
      go_wp2_with (go_at_call 190; refine (vblank_any c _).mono ?_; rw [hc]; rintro e w' ⟨rfl, rfl⟩)
      go_roundw
      case rel => exact ⟨r, by first | exact congrArg Value.string HX.out | (rw [← ext_bytes (c :: r) 1]; rfl), by simp at hl; omega, Lib.hid (by rw [← HD.out, drop_blank hc]), by first | rfl | trivial⟩
      case measure => simp only [strSize, ByteArray.size_extract, bytesOf_size, List.length_cons]; omega
    · have HLD : Hid (l = L.dropWhile blkB) := Lib.hid (by
        rw [← HD.out]
        cases l with
        | nil => rfl
        | cons c r =>
          have : blkB c = false := by
            cases hq : blkB c with
            | false => rfl
            | true => exact absurd ⟨c, r, rfl, hq⟩ hb
          exact (dropWhile_stop this).symm)
      have HTR : Hid (trimL L = trimR l) := Lib.hid (by rw [HTE.out, HLD.out])
      have hstop : l = [] ∨ ∃ c r, l = c :: r ∧ blkB c = false := by
        cases l with
        | nil => exact .inl rfl
        | cons c r =>
          refine .inr ⟨c, r, rfl, ?_⟩
          cases hq : blkB c with
          | false => rfl
          | true => exact absurd ⟨c, r, rfl, hq⟩ hb
      clear hb HD HLD
      rcases hstop with rfl | ⟨c, r, rfl, hc⟩
      · have HT0 : Hid (trimL L = []) := Lib.hid (by rw [HTR.out]; rfl)
        have hz0 : (bytesOf []).size = 0 := rfl
        go_wp2_with fail
        go_loopw [0] (fun v wq => v = .string (bytesOf []) ∧ wq = wr) (fun _ _ => 0)
        case atStart => exact ⟨rfl, rfl⟩
        case round =>
          obtain ⟨rfl, rfl⟩ := hrel
          go_wp2
          go_ret
          exact ⟨by rw [HT0.out]; rfl, rfl⟩
      · have h0 : 0 < (bytesOf (c :: r)).size := by rw [hsz]; simp
        have hix := index_at (bytesOf (c :: r)) 0 0 rfl h0
        have hg : (bytesOf (c :: r))[0]'h0 = c := by have := get_list h0; rw [bytesOf_list] at this; simpa using this.symm
        rw [hg] at hix
        have hgi : (((bytesOf (c :: r))[0]'h0).toNat : Int) = (c.toNat : Int) := by rw [hg]
        clear hg
        go_wp2_with (go_at_call 190; refine (vblank_any c _).mono ?_; rw [hc]; rintro e w' ⟨rfl, rfl⟩)
        go_loopw [0] (fun v wq => ∃ l : List UInt8, v = .string (bytesOf l) ∧ l.length ≤ L.length ∧ Hid (trimR l = trimL L) ∧ wq = wr) (fun v _ => strSize v)
        case atStart => exact ⟨c :: r, rfl, hl, Lib.hid HTR.out.symm, rfl⟩
        case round =>
          clear hix hgi h0
          obtain ⟨l, rfl, hl2, HD, rfl⟩ := hrel
          have hsz2 : (bytesOf l).size = l.length := bytesOf_size l
          rcases List.eq_nil_or_concat l with rfl | ⟨o, y, rfl⟩
          · have HT0 : Hid (trimL L = []) := Lib.hid (by rw [← HD.out]; rfl)
            have hz0 : (bytesOf []).size = 0 := rfl
            go_wp2
            go_ret
            exact ⟨by rw [HT0.out]; rfl, rfl⟩
          · rw [List.concat_eq_append] at *
            have hlast : (o ++ [y]).getLast? = some y := by simp
            have hol : (o ++ [y]).length = o.length + 1 := by simp
            rw [hol] at hsz2 hl2
            have hp : o.length < (bytesOf (o ++ [y])).size := by omega
            have hix := index_at (bytesOf (o ++ [y])) ((o.length : Int) + 1 - 1) o.length (by omega) hp
            have hix2 := index_at (bytesOf (o ++ [y])) (o.length : Int) o.length rfl hp
            have hg : (bytesOf (o ++ [y]))[o.length]'hp = y := by have := get_list hp; rw [bytesOf_list] at this; simpa using this.symm
            rw [hg] at hix hix2
            have hgi : (((bytesOf (o ++ [y]))[o.length]'hp).toNat : Int) = (y.toNat : Int) := by rw [hg]
            clear hg
            cases hy : blkB y with
            | true =>
              have HX : Hid ((bytesOf (o ++ [y])).extract 0 o.length = bytesOf o) := Lib.hid (by rw [ext_bytes0]; simp)
              have HD' : Hid (trimR o = trimL L) := Lib.hid (by rw [← HD.out, (trim_last hlast).1 hy, hol, Nat.add_sub_cancel]; simp)
              go_wp2_with (go_at_call 190; refine (vblank_any y _).mono ?_; rw [hy]; rintro e w' ⟨rfl, rfl⟩)
              go_roundw
              case rel => exact ⟨o, congrArg Value.string HX.out, by omega, HD', by first | rfl | trivial⟩
              case measure => simp only [strSize, ByteArray.size_extract, bytesOf_size, List.length_append, List.length_singleton]; omega
            | false =>
              have HD' : Hid (trimL L = o ++ [y]) := Lib.hid (by rw [← HD.out, (trim_last hlast).2 hy])
              go_wp2_with (go_at_call 190; refine (vblank_any y _).mono ?_; rw [hy]; rintro e w' ⟨rfl, rfl⟩)
              go_ret
              exact ⟨by rw [HD'.out]; rfl, rfl⟩
end Go.Proofs.YthlnfefpdmecaaaGreatDoor

/-
  kerflaw04: texts, ints, ranged, walked (two lists that are the same).
-/
namespace Go.Proofs.YthlnfefpdmecaaaGreatDoor
open Go.RowKit Go.Maps

theorem Rd.atS {w : World} {A : Option Addr} {l : List (List UInt8)} {k : Nat} {x : List UInt8} (h : Rd w 1 A (l.map encNm)) (hk : l[k]? = some x) : ∃ b off, A = some ⟨b, off, none⟩ ∧ w.cell? ⟨b, off + k, none⟩ = some (.string (bytesOf x)) := by
  obtain ⟨b, off, rfl, hc⟩ := h (by intro e; cases l with | nil => simp at hk | cons _ _ => simp at e)
  have h0 := hc k 0 (encNm x) (.string (bytesOf x)) (by simp [hk]) rfl
  exact ⟨b, off, rfl, by simpa using h0⟩
theorem newP_code {t : List UInt8} {x : Int × Nat} (h : newP t = .error x) : 1 ≤ x.1 := by
  unfold newP at h
  split at h
  · injection h with h; subst h; decide
  · have key : ∀ (L : List (List UInt8)) (d : DbP) (i : Nat), linesGo d L i = .error x → 1 ≤ x.1 := by
      intro L
      induction L with
      | nil => intro d i h; cases h
      | cons a r ih =>
        intro d i h
        unfold linesGo at h
        split at h
        · rename_i e he
          injection h with h; subst h
          simp only
          unfold stepL at he
          split at he
          · cases he
          · injection he with he; omega
          · have := addL_err he; omega
        · exact ih _ _ h
    exact key _ _ _ h
end Go.Proofs.YthlnfefpdmecaaaGreatDoor

/-
  kerfref04: cut, Class, meet, walked.
-/
namespace Go.Proofs.YthlnfefpdmecaaaGreatDoor
open Go.RowKit Go.Maps

theorem ret_pair {a b c d : Value} (h1 : a = c) (h2 : b = d) : Ending.returned (.tuple #[a, b]) = .returned (.tuple #[c, d]) := by rw [h1, h2]
set_option maxRecDepth 100000 in
set_option maxHeartbeats 2000000 in
theorem vcut_any (L : List UInt8) (w : World) (hL : L.length ≤ 1000000) :
    Calls Tryz.prog 149 #[.string (bytesOf L)] w fun e w' => e = .returned (.tuple #[.string (bytesOf (L.take (hashP L))), .int .i64 (fv (findP 59 (L.take (hashP L))))]) ∧ Below w.heap.size w w' := by
  have HIS := Lib.hid (cutD_is L)
  have hsz : (bytesOf L).size = L.length := bytesOf_size L
  go_enter Tryz.func149, Tryz.ntmps149
  go_wp2
  go_loopw [4, 5] (fun a v wr => ∃ (semi : Option Nat) (i : Nat), a = .int .i64 (fv semi) ∧ v = .int .i64 i ∧ i ≤ L.length ∧ Hid (CutAt L i semi) ∧ Below w.heap.size w wr) (fun _ v _ => L.length - (intOf v).toNat)
  case atStart => exact ⟨none, 0, rfl, rfl, by omega, cutAt_first L, Below.refl _ _⟩
  case round =>
    obtain ⟨semi, i, rfl, rfl, hi, HC, hb⟩ := hrel
    by_cases hlt : i < L.length
    · have HQ := Lib.hid (sQuoted_any (bytesOf L) i wr (by omega) (by omega))
      have hqq := quoted_qt (bytesOf L) i (by omega)
      rw [bytesOf_list] at hqq
      have hp : i < (bytesOf L).size := by omega
      have hix := index_at (bytesOf L) i i rfl hp
      obtain ⟨x, hx⟩ : ∃ x, (bytesOf L)[i]'hp = x := ⟨_, rfl⟩
      have Hx : Hid (L[i]? = some x) := Lib.hid (by have := get_list hp; rw [bytesOf_list, hx] at this; exact this)
      have hgi : (((bytesOf L)[i]'hp).toNat : Int) = (x.toNat : Int) := by rw [hx]
      rw [hx] at hix
      clear hx
      cases hq : qtL (L.drop i) with
      | some k =>
        rw [hq] at hqq
        obtain ⟨q1, q2⟩ := hqq
        have HC' := Lib.hid (cutAt_qt HC.out hq)
        have hik : i + k ≤ L.length := HC'.out.1
        generalize quotedP (bytesOf L) i = Q at HQ q1 q2
        obtain ⟨r, wd, ok⟩ := Q
        simp only at q1 q2
        subst q1
        have hk3 := (qtL_some hq).1
        clear hq
        go_wp2_with (go_at_call 189; refine HQ.out.mono ?_; rintro e w2 ⟨rfl, hb2⟩)
        go_roundw
        case rel => exact ⟨semi, i + k, rfl, by go_num, hik, HC', below_step hb hb2 hb.size⟩
        case measure => simp [intOf]; omega
      | none =>
        rw [hq] at hqq
        generalize quotedP (bytesOf L) i = Q at HQ hqq
        obtain ⟨r, wd, ok⟩ := Q
        simp only at hqq
        subst hqq
        have h35 : x = 35 ↔ (x.toNat : Int) = 35 := by have h1 : x = 35 ↔ x.toNat = 35 := u8_eq (n := 35) (by omega); rw [h1]; omega
        have h59 : x = 59 ↔ (x.toNat : Int) = 59 := by have h1 : x = 59 ↔ x.toNat = 59 := u8_eq (n := 59) (by omega); rw [h1]; omega
        have HH := Lib.hid (fun h => cutAt_hash HC.out Hx.out hq (h35.2 h))
        have HS := Lib.hid (fun h hs => cutAt_semi HC.out Hx.out hq (h59.2 h) hs)
        have HGo := Lib.hid (fun (h : ¬ (x.toNat : Int) = 35) (hs : ¬ ((x.toNat : Int) = 59 ∧ semi = none)) => cutAt_go HC.out Hx.out hq (fun k => h (h35.1 k)) (fun k => hs ⟨h59.1 k.1, k.2⟩))
        generalize (x.toNat : Int) = z at hix hgi HH HS HGo
        clear h35 h59 hq
        rcases (by omega : z = 35 ∨ z = 59 ∨ (z ≠ 35 ∧ z ≠ 59)) with hz | hz | ⟨hz, hz'⟩
        · have HE := HH.out hz
          rw [HIS.out] at HE
          injection HE with HE1 HE2
          have HE1 := Lib.hid HE1
          have HE2 := Lib.hid HE2
          have hzz : (z == 35) = true := by rw [hz]; rfl
          clear hz HH HS HGo
          go_wp2_with (go_at_call 189; refine HQ.out.mono ?_; rintro e w2 ⟨rfl, hb2⟩)
          go_ret2
          have h1 := ext_bytes0 L i
          rw [← HE1.out] at h1
          exact ⟨ret_pair (congrArg Value.string (by first | exact h1 | (rw [HE1.out] at h1 ⊢; exact h1) | rfl)) (congrArg (Value.int .i64) (by rw [HE2.out])), below_step hb hb2 hb.size⟩
        · have hzz : (z == 35) = false := by rw [hz]; rfl
          have hzy : (z == 59) = true := by rw [hz]; rfl
          cases semi with
          | none =>
            have HC' := Lib.hid (HS.out hz rfl)
            have hfn : decide (fv none < 0) = true := rfl
            clear hz HH HS HGo
            go_wp2_with (go_at_call 189; refine HQ.out.mono ?_; rintro e w2 ⟨rfl, hb2⟩)
            go_roundw
            case rel => exact ⟨some i, i + 1, rfl, by go_num, by omega, HC', below_step hb hb2 hb.size⟩
            case measure => simp [intOf]; omega
          | some k =>
            have HC' := Lib.hid (HGo.out (by omega) (fun h => by cases h.2))
            have hfn : decide (fv (some k) < 0) = false := decide_eq_false (by simp only [fv]; omega)
            clear hz HH HS HGo
            go_wp2_with (go_at_call 189; refine HQ.out.mono ?_; rintro e w2 ⟨rfl, hb2⟩)
            go_roundw
            case rel => exact ⟨some k, i + 1, rfl, by go_num, by omega, HC', below_step hb hb2 hb.size⟩
            case measure => simp [intOf]; omega
        · have hzz : (z == 35) = false := beq_eq_false_iff_ne.2 hz
          have hzy : (z == 59) = false := beq_eq_false_iff_ne.2 hz'
          have HC' := Lib.hid (HGo.out hz (fun h => hz' h.1))
          clear hz hz' HH HS HGo
          go_wp2_with (go_at_call 189; refine HQ.out.mono ?_; rintro e w2 ⟨rfl, hb2⟩)
          go_roundw
          case rel => exact ⟨semi, i + 1, rfl, by go_num, by omega, HC', below_step hb hb2 hb.size⟩
          case measure => simp [intOf]; omega
    · have HE := cutAt_end HC.out hlt
      rw [HIS.out] at HE
      injection HE with HE1 HE2
      have HE1 := Lib.hid HE1
      have HE2 := Lib.hid HE2
      go_wp2
      go_ret2
      exact ⟨ret_pair (congrArg Value.string (by rw [HE1.out, List.take_length]; try rfl)) (by rw [HE2.out]; try rfl), hb⟩
end Go.Proofs.YthlnfefpdmecaaaGreatDoor

/-
  kerfref04: Class, meet, walked.
-/
namespace Go.Proofs.YthlnfefpdmecaaaGreatDoor
open Go.RowKit Go.Maps

/-- The document's database, its parts. -/
structure RfX (w : World) (base p x : Nat) (An : Option Addr) (nn cn : Nat) (As : Option Addr) (ns cs : Nat) (xs : List (Option Addr × Nat × Nat)) (N : List (List UInt8)) (S : List (List (Int × Int))) : Prop where
  blk : Blk w p 84 #[.slice An nn cn, .slice As ns cs]
  pb : base ≤ p
  hn : Own w base 9 1 An nn cn (N.map encNm)
  hs : Own w base 111 1 As ns cs (xs.map encSl)
  hx : Sets w base xs S
  xp : x ≠ p
  xn : ∀ a, An = some a → a.block ≠ x
  xs_ : ∀ a, As = some a → a.block ≠ x
structure RfB (w : World) (base p x : Nat) (N : List (List UInt8)) (S : List (List (Int × Int))) : Prop where
  ex : ∃ (An : Option Addr) (nn cn : Nat) (As : Option Addr) (ns cs : Nat) (xs : List (Option Addr × Nat × Nat)), RfX w base p x An nn cn As ns cs xs N S
section
variable {w w' : World} {base p x : Nat} {An : Option Addr} {nn cn : Nat} {As : Option Addr} {ns cs : Nat} {xs : List (Option Addr × Nat × Nat)} {N : List (List UInt8)} {S : List (List (Int × Int))}
theorem RfX.below (h : RfX w base p x An nn cn As ns cs xs N S) (hb : Below w.heap.size w w') : RfX w' base p x An nn cn As ns cs xs N S := ⟨h.blk.below hb, h.pb, h.hn.below hb, h.hs.below hb, h.hx.below hb, h.xp, h.xn, h.xs_⟩
theorem RfB.below (h : RfB w base p x N S) (hb : Below w.heap.size w w') : RfB w' base p x N S := by
  obtain ⟨a1, a2, a3, a4, a5, a6, a7, h⟩ := h.ex
  exact ⟨a1, a2, a3, a4, a5, a6, a7, h.below hb⟩
theorem RfX.lenN (h : RfX w base p x An nn cn As ns cs xs N S) : N.length = nn := by simpa using h.hn.len
theorem RfX.lenS (h : RfX w base p x An nn cn As ns cs xs N S) : xs.length = ns ∧ S.length = ns := by
  have := h.hs.len; rw [List.length_map] at this
  exact ⟨this, by rw [← h.hx.len]; exact this⟩
theorem types_rf : (9 : TypeId) ≠ 111 ∧ (9 : TypeId) ≠ 84 ∧ (111 : TypeId) ≠ 84 ∧ (9 : TypeId) ≠ 146 ∧ (111 : TypeId) ≠ 146 ∧ (84 : TypeId) ≠ 146 := by decide
/-- A name more. -/
theorem RfX.named {w3 : World} {o : Obj} {n : List UInt8} {A3 : Option Addr} {c3 : Nat} (h : RfX w base p x An nn cn As ns cs xs N S) (ho3 : Own w3 base 9 1 A3 (nn + 1) c3 ((N ++ [n]).map encNm))
    (hg3 : (w.alloc o).grownBy w3 (An.map (·.block))) (hA3 : A3 = An ∨ A3 = some ⟨(w.alloc o).heap.size, 0, none⟩) (hx : x < w.heap.size) (hB : base ≤ w.heap.size) :
    Blk w3 p 84 #[.slice An nn cn, .slice As ns cs] ∧ RfX (w3.setCell ⟨p, 0, none⟩ (.slice A3 (nn + 1) c3)) base p x A3 (nn + 1) c3 As ns cs xs (N ++ [n]) S ∧
      KX base x w (w3.setCell ⟨p, 0, none⟩ (.slice A3 (nn + 1) c3)) ∧ KeepR base w (w3.setCell ⟨p, 0, none⟩ (.slice A3 (nn + 1) c3)) := by
  obtain ⟨t1, t2, t3, t4, t5, t6⟩ := types_rf
  have hg := grown_alloc hg3
  have b3 : Blk w3 p 84 #[.slice An nn cn, .slice As ns cs] := h.blk.grown hg (fun e => by cases An with | none => cases e | some a => simp at e; exact h.hn.off h.blk t2 a rfl e.symm)
  have s3 : Own w3 base 111 1 As ns cs (xs.map encSl) := h.hs.grown hg (fun a ha e => by cases An with | none => cases e | some b => simp at e; exact h.hn.apart h.hs t1 b a rfl ha e.symm)
  have x3 : Sets w3 base xs S := h.hx.grown hg (fun g q e => own_not_R h.hn t4 g q e)
  have hxA3 : ∀ a, A3 = some a → a.block ≠ x := fun a ha => by
    rcases hA3 with e | e
    · exact h.xn a (by rw [← e]; exact ha)
    · rw [e] at ha; injection ha with ha; subst ha; simp; omega
  refine ⟨b3, ⟨?_, h.pb, ?_, ?_, ?_, h.xp, hxA3, h.xs_⟩, ?_, ?_⟩
  · have := b3.set_ 0 (.slice A3 (nn + 1) c3)
    simpa using this
  · exact ho3.setCell (fun a ha => ho3.off b3 t2 a ha) _
  · exact s3.setCell (fun a ha => s3.off b3 t3 a ha) _
  · exact x3.setCell (blk_not_R b3 t6) _
  · refine (KX.grown hg hB (fun k hk => ?_)).trans (KX.setCell w3 h.pb (fun e => h.xp e.symm) _)
    cases An with
    | none => cases hk
    | some a => simp at hk; subst hk; exact ⟨(h.hn.lt a rfl).1, h.xn a rfl⟩
  · exact (KeepR.grown hg (fun g q e => own_not_R h.hn t4 g q e)).trans (KeepR.setCell (blk_not_R b3 t6) _)
/-- A set more: none yet. -/
theorem RfX.moreSet {w3 : World} {o : Obj} {A3 : Option Addr} {c3 : Nat} (h : RfX w base p x An nn cn As ns cs xs N S) (ho3 : Own w3 base 111 1 A3 (ns + 1) c3 ((xs ++ [(none, 0, 0)]).map encSl))
    (hg3 : (w.alloc o).grownBy w3 (As.map (·.block))) (hA3 : A3 = As ∨ A3 = some ⟨(w.alloc o).heap.size, 0, none⟩) (hx : x < w.heap.size) (hB : base ≤ w.heap.size) :
    Blk w3 p 84 #[.slice An nn cn, .slice As ns cs] ∧ RfX (w3.setCell ⟨p, 1, none⟩ (.slice A3 (ns + 1) c3)) base p x An nn cn A3 (ns + 1) c3 (xs ++ [(none, 0, 0)]) N (S ++ [[]]) ∧
      KX base x w (w3.setCell ⟨p, 1, none⟩ (.slice A3 (ns + 1) c3)) ∧ KeepR base w (w3.setCell ⟨p, 1, none⟩ (.slice A3 (ns + 1) c3)) := by
  obtain ⟨t1, t2, t3, t4, t5, t6⟩ := types_rf
  have hg := grown_alloc hg3
  have b3 : Blk w3 p 84 #[.slice An nn cn, .slice As ns cs] := h.blk.grown hg (fun e => by cases As with | none => cases e | some a => simp at e; exact h.hs.off h.blk t3 a rfl e.symm)
  have n3 : Own w3 base 9 1 An nn cn (N.map encNm) := h.hn.grown hg (fun a ha e => by cases As with | none => cases e | some b => simp at e; exact h.hn.apart h.hs t1 a b ha rfl e)
  have x3 : Sets w3 base xs S := h.hx.grown hg (fun g q e => own_not_R h.hs t5 g q e)
  have hxA3 : ∀ a, A3 = some a → a.block ≠ x := fun a ha => by
    rcases hA3 with e | e
    · exact h.xs_ a (by rw [← e]; exact ha)
    · rw [e] at ha; injection ha with ha; subst ha; simp; omega
  refine ⟨b3, ⟨?_, h.pb, ?_, ?_, ?_, h.xp, h.xn, hxA3⟩, ?_, ?_⟩
  · have := b3.set_ 1 (.slice A3 (ns + 1) c3)
    simpa using this
  · exact n3.setCell (fun a ha => n3.off b3 t2 a ha) _
  · exact ho3.setCell (fun a ha => ho3.off b3 t3 a ha) _
  · exact (x3.setCell (blk_not_R b3 t6) _).snoc (Own.nil_ _ _ _ _)
  · refine (KX.grown hg hB (fun k hk => ?_)).trans (KX.setCell w3 h.pb (fun e => h.xp e.symm) _)
    cases As with
    | none => cases hk
    | some a => simp at hk; subst hk; exact ⟨(h.hs.lt a rfl).1, h.xs_ a rfl⟩
  · exact (KeepR.grown hg (fun g q e => own_not_R h.hs t5 g q e)).trans (KeepR.setCell (blk_not_R b3 t6) _)
/-- A set stored. -/
theorem RfX.storeSet {g k b' : Nat} {y : Option Addr × Nat × Nat} {l : List (Int × Int)} (h : RfX w base p x An nn cn (some ⟨g, 0, none⟩) ns cs xs N S) (hk : k < ns) (ho : Own w b' 146 2 y.1 y.2.1 y.2.2 (l.map encR)) (hb : base ≤ b') :
    RfX (w.setCell ⟨g, k, none⟩ (.slice y.1 y.2.1 y.2.2)) base p x An nn cn (some ⟨g, 0, none⟩) ns cs (xs.set k y) N (S.set k l) ∧ KX base x w (w.setCell ⟨g, k, none⟩ (.slice y.1 y.2.1 y.2.2)) := by
  obtain ⟨t1, t2, t3, t4, t5, t6⟩ := types_rf
  have hgp : g ≠ p := h.hs.off h.blk t3 _ rfl
  refine ⟨⟨h.blk.far (p := ⟨g, k, none⟩) (Ne.symm hgp) _, h.pb, ?_, ?_, ?_, h.xp, h.xn, h.xs_⟩, KX.setCell w (q := ⟨g, k, none⟩) (h.hs.lt _ rfl).1 (h.xs_ ⟨g, 0, none⟩ rfl) _⟩
  · exact h.hn.setCell (p := ⟨g, k, none⟩) (fun a ha e => h.hn.apart h.hs t1 a ⟨g, 0, none⟩ ha rfl e) _
  · exact h.hs.storedSl (by rw [h.lenS.1]; exact hk) y
  · refine Sets.set_ (h.hx.setCell (q := ⟨g, k, none⟩) (fun r => own_not_R h.hs t5 g r rfl) _) ?_
    exact (ho.setCell (p := ⟨g, k, none⟩) (fun a ha e => ho.apart h.hs (Ne.symm t5) a ⟨g, 0, none⟩ ha rfl e) _).more hb
end

theorem bytes_inj {a b : List UInt8} : bytesOf a = bytesOf b ↔ a = b := ⟨fun h => by rw [← bytesOf_list a, ← bytesOf_list b, h], fun h => by rw [h]⟩
/-- Behind how many names a name stands. -/
theorem idx_step {N : List (List UInt8)} {n y : List UInt8} {i : Nat} (h : n ∉ N.take i) (hy : N[i]? = some y) : (y = n → N.idxOf? n = some i) ∧ (y ≠ n → n ∉ N.take (i + 1)) := by
  constructor
  · rintro rfl
    rw [List.idxOf?, List.findIdx?_eq_some_iff_getElem]
    obtain ⟨hlt, e⟩ := List.getElem?_eq_some_iff.1 hy
    refine ⟨hlt, by simp [e], fun j hj => ?_⟩
    simp only [Bool.not_eq_true, beq_eq_false_iff_ne]
    intro hjy
    exact h (List.mem_take_iff_getElem.2 ⟨j, by omega, by simpa using hjy⟩)
  · intro hne hm
    rw [List.take_add_one, hy] at hm
    simp at hm
    rcases hm with hm | hm
    · exact h hm
    · exact hne hm.symm
theorem idx_none {N : List (List UInt8)} {n : List UInt8} (h : n ∉ N) : N.idxOf? n = none := by
  rw [List.idxOf?, List.findIdx?_eq_none_iff]
  intro x hx
  simp only [beq_eq_false_iff_ne]
  rintro rfl; exact h hx
set_option maxRecDepth 100000 in
set_option maxHeartbeats 1000000 in
theorem vClass_any (base p x : Nat) (N : List (List UInt8)) (S : List (List (Int × Int))) (n : List UInt8) (w : World) (h : RfB w base p x N S) (hN : N.length ≤ 1000000) :
    Calls Tryz.prog 118 #[.pointer (some ⟨p, 0, none⟩), .string (bytesOf n)] w fun e w' => e = .returned (.tuple #[.int .i64 (((N.idxOf? n).getD 0 : Nat) : Int), .bool (N.idxOf? n).isSome]) ∧ w = w' := by
  obtain ⟨An, nn, cn, As, ns, cs, xs, hX⟩ := h.ex
  have hl := hX.lenN
  have Hl := Lib.hid hl
  have hrd := hX.hn.rd (by omega)
  have c0 := hX.blk.cell 0
  simp only [List.getElem?_toArray, List.getElem?_cons_zero] at c0
  have hnn : nn ≤ 1000000 := by omega
  clear hl h
  go_enter Tryz.func118, Tryz.ntmps118
  go_wp2
  go_loopw [6] (fun v wr => ∃ i : Nat, v = .int .i64 i ∧ i ≤ nn ∧ Hid (n ∉ N.take i) ∧ wr = w) (fun v _ => nn - (intOf v).toNat)
  case atStart => exact ⟨0, rfl, by omega, by simp [Hid], rfl⟩
  case round =>
    obtain ⟨i, rfl, hi, HN, rfl⟩ := hrel
    by_cases hlt : i < nn
    · obtain ⟨y, Hy⟩ : ∃ y, Hid (N[i]? = some y) := ⟨_, Lib.hid (List.getElem?_eq_getElem (show i < N.length by have := Hl.out; omega))⟩
      obtain ⟨b, off, rfl, hc⟩ := hrd.atS Hy.out
      have HI := Lib.hid (idx_step HN.out Hy.out)
      by_cases hyn : y = n
      · have HE := Lib.hid (HI.out.1 hyn)
        subst hyn
        go_wp2
        go_ret2
        exact ⟨by rw [HE.out]; rfl, rfl⟩
      · have HE := Lib.hid (HI.out.2 hyn)
        have e1 : ((bytesOf y).toList == (bytesOf n).toList) = false := by rw [ByteArray.toList_eq, ByteArray.toList_eq, bytesOf_list, bytesOf_list]; exact beq_eq_false_iff_ne.2 hyn
        have e3 : decide (bytesOf y = bytesOf n) = false := decide_eq_false (fun k => hyn (bytes_inj.1 k))
        clear hyn
        go_wp2
        go_roundw
        case rel => exact ⟨i + 1, by go_num, by omega, HE, by first | rfl | trivial⟩
        case measure => simp [intOf]; omega
    · have HE := Lib.hid (idx_none (N := N) (n := n) (by have := HN.out; rwa [List.take_of_length_le (by have := Hl.out; omega)] at this))
      go_wp2
      go_ret2
      exact ⟨by rw [HE.out]; rfl, rfl⟩
end Go.Proofs.YthlnfefpdmecaaaGreatDoor

/-
  kerfref04: meet, walked.
-/
namespace Go.Proofs.YthlnfefpdmecaaaGreatDoor
open Go.RowKit Go.Maps

def hitR (x y : Int × Int) : Bool := decide (x.1 ≤ y.2) && decide (y.1 ≤ x.2)
theorem meetB_any (a b : List (Int × Int)) : meetB a b = a.any fun x => b.any fun y => hitR x y := rfl
theorem any_next {α : Type} {l : List α} {i : Nat} {x : α} {f : α → Bool} (h : (l.take i).any f = false) (hx : l[i]? = some x) (hf : f x = false) : (l.take (i + 1)).any f = false := by
  rw [List.take_add_one, hx]; simp [List.any_append, h, hf]
theorem any_hit {α : Type} {l : List α} {i : Nat} {x : α} {f : α → Bool} (hx : l[i]? = some x) (hf : f x = true) : l.any f = true := List.any_eq_true.2 ⟨x, List.mem_of_getElem? hx, hf⟩
theorem any_all {α : Type} {l : List α} {i : Nat} {f : α → Bool} (h : (l.take i).any f = false) (hi : ¬ i < l.length) : l.any f = false := by rwa [List.take_of_length_le (by omega)] at h
set_option maxRecDepth 100000 in
set_option maxHeartbeats 2000000 in
theorem vmeet_any (A B : Option Addr) (n c m e : Nat) (l q : List (Int × Int)) (w : World) (hA : Rd w 2 A (l.map encR)) (hB : Rd w 2 B (q.map encR)) (hl : l.length = n) (hq : q.length = m) (hn : n ≤ 4000000) (hm : m ≤ 4000000) :
    Calls Tryz.prog 154 #[.slice A n c, .slice B m e] w fun e w' => e = .returned (.bool (meetB l q)) ∧ ∃ k, w' = w.drewN k := by
  have Hl := Lib.hid hl
  have Hq := Lib.hid hq
  have HMB := Lib.hid (meetB_any l q)
  go_enter Tryz.func154, Tryz.ntmps154
  go_wp2
  go_loopw [5] (fun v wr => ∃ i k : Nat, v = .int .i64 i ∧ i ≤ n ∧ Hid ((l.take i).any (fun x => q.any fun y => hitR x y) = false) ∧ wr = w.drewN k) (fun v _ => n - (intOf v).toNat)
  case atStart => exact ⟨0, 0, rfl, by omega, by simp [Hid], rfl⟩
  case round =>
    obtain ⟨i, k, rfl, hi, HI, rfl⟩ := hrel
    by_cases hlt : i < n
    · obtain ⟨bA, oA, x1, x2, rfl, Hx, hx1, hx2⟩ := hA.atR (k := i) (by have := Hl.out; omega)
      have hdi : decide (i < n) = true := decide_eq_true hlt
      go_wp2_with fail
      go_loopw [6] (fun v wr => ∃ j k2 : Nat, v = .int .i64 j ∧ j ≤ m ∧ Hid ((q.take j).any (fun y => hitR (x1, x2) y) = false) ∧ wr = w.drewN k2) (fun v _ => m - (intOf v).toNat)
      case atStart => exact ⟨0, k, rfl, by omega, by simp [Hid], rfl⟩
      case round =>
        obtain ⟨j, k2, rfl, hj, HJ, rfl⟩ := hrel
        by_cases hltj : j < m
        · obtain ⟨bB, oB, y1, y2, rfl, Hy, hy1, hy2⟩ := hB.atR (k := j) (by have := Hq.out; omega)
          rcases (by omega : ¬ x1 ≤ y2 ∨ (x1 ≤ y2 ∧ ¬ y1 ≤ x2) ∨ (x1 ≤ y2 ∧ y1 ≤ x2)) with h1 | ⟨h1, h2⟩ | ⟨h1, h2⟩
          · have HJ' := Lib.hid (any_next HJ.out Hy.out (show hitR (x1, x2) (y1, y2) = false by simp [hitR, h1]))
            have hd1 : decide (x1 ≤ y2) = false := decide_eq_false h1
            go_wp2_with fail
            go_quiet (fail)
            go_wp2
            go_roundw
            case rel => exact ⟨j + 1, _, by go_num, by omega, HJ', by first | rfl | exact World.drewN_drewN _ _ _⟩
            case measure => simp [intOf]; omega
          · have HJ' := Lib.hid (any_next HJ.out Hy.out (show hitR (x1, x2) (y1, y2) = false by simp [hitR, h2]))
            have hd1 : decide (x1 ≤ y2) = true := decide_eq_true h1
            have hd2 : decide (y1 ≤ x2) = false := decide_eq_false h2
            go_wp2_with fail
            go_quiet (fail)
            go_wp2
            go_roundw
            case rel => exact ⟨j + 1, _, by go_num, by omega, HJ', by first | rfl | exact World.drewN_drewN _ _ _⟩
            case measure => simp [intOf]; omega
          · have HE : Hid (meetB l q = true) := Lib.hid (by rw [HMB.out]; exact any_hit Hx.out (any_hit Hy.out (show hitR (x1, x2) (y1, y2) = true by simp [hitR, h1, h2])))
            have hd1 : decide (x1 ≤ y2) = true := decide_eq_true h1
            have hd2 : decide (y1 ≤ x2) = true := decide_eq_true h2
            go_wp2_with fail
            go_quiet (fail)
            go_wp2
            go_ret
            exact ⟨by rw [HE.out]; rfl, _, by first | rfl | exact World.drewN_drewN _ _ _⟩
        · have HI' := Lib.hid (any_next HI.out Hx.out (any_all HJ.out (show ¬ j < q.length by have := Hq.out; omega)))
          go_wp2
          go_roundw
          case rel => exact ⟨i + 1, k2, by go_num, by omega, HI', rfl⟩
          case measure => simp [intOf]; omega
    · have HE : Hid (meetB l q = false) := Lib.hid (by rw [HMB.out]; exact any_all HI.out (show ¬ i < l.length by have := Hl.out; omega))
      go_wp2
      go_ret
      exact ⟨by rw [HE.out]; rfl, k, rfl⟩
end Go.Proofs.YthlnfefpdmecaaaGreatDoor

/-
  kerfref04: spaced, Lines, walked.
-/
namespace Go.Proofs.YthlnfefpdmecaaaGreatDoor
open Go.RowKit Go.Maps

/-- A block of bytes that can be written. -/
structure Byt (w : World) (b : Nat) (L : List UInt8) : Prop where
  cell : ∀ j (h : j < L.length), w.cell? ⟨b, j, none⟩ = some (.int .u8 ((L[j]'h).toNat : Int))
  free : ∀ j, j < L.length → w.frozen? ⟨b, j, none⟩ = false
theorem Byt.set_ {w : World} {b : Nat} {L : List UInt8} (h : Byt w b L) {i : Nat} (hi : i < L.length) (c : UInt8) (v : Int) (hv : v = (c.toNat : Int)) : Byt (w.setCell ⟨b, i, none⟩ (.int .u8 v)) b (L.set i c) := by
  subst hv
  refine ⟨fun j hj => ?_, fun j hj => ?_⟩
  · rw [List.length_set] at hj
    by_cases e : i = j
    · subst e
      rw [World.cell?_setCell_same _ _ _ (h.cell i hi)]; simp
    · rw [World.cell?_setCell_other _ _ _ _ (fun k => e (by injection k)), h.cell j hj]; simp [List.getElem_set_ne e]
  · rw [List.length_set] at hj
    rw [World.frozen?_setCell]; exact h.free j hj
theorem byt_world (w : World) (l : List UInt8) : Byt (Lib.bytesWorld w 5 (bytesOf l)) w.heap.size l := by
  refine ⟨fun j hj => ?_, fun j hj => ?_⟩
  · have h1 := Lib.bytesWorld_cell w 5 (bytesOf l) j (by rw [bytesOf_size]; exact hj)
    rw [bytesOf_list, List.getD_eq_getElem?_getD, List.getElem?_eq_getElem hj] at h1
    exact h1
  · unfold World.frozen?
    rw [Lib.bytesWorld_at_new]
    have hc : l.length ≤ (Lib.bytesCells w 5 (bytesOf l)).size := by
      simp [Lib.bytesCells]
      rw [bytesOf_size]; omega
    simp; omega
set_option maxRecDepth 100000 in
set_option maxHeartbeats 2000000 in
theorem vspaced_any (l : List UInt8) (w : World) (hs : l.length ≤ 1000000) : Calls Tryz.prog 153 #[.string (bytesOf l)] w fun e w' => e = .returned (.string (bytesOf (spcL l))) ∧ Below w.heap.size w w' := by
  have hcv := fun W => Lib.run_convert_string_bytes (P := Tryz.prog) W 9 112 5 (bytesOf l) Tryz.underlying9 Tryz.underlying112 Tryz.underlying5
  have hsz : (bytesOf l).size = l.length := bytesOf_size l
  have Hlen : Hid ((spcL l).length = l.length) := Lib.hid (by unfold spcL; rw [List.length_map])
  go_enter Tryz.func153, Tryz.ntmps153
  go_wp2
  have hby := byt_world w l
  have hbw := below_bytesWorld w 5 (bytesOf l)
  generalize Lib.bytesWorld w 5 (bytesOf l) = w1 at hby hbw ⊢
  clear hcv
  go_loopw [4] (fun v wr => ∃ i : Nat, v = .int .i64 i ∧ i ≤ l.length ∧ Byt wr w.heap.size ((spcL l).take i ++ l.drop i) ∧ Below w.heap.size w wr) (fun v _ => l.length - (intOf v).toNat)
  case atStart => exact ⟨0, rfl, by omega, by simpa using hby, hbw⟩
  case round =>
    clear hby hbw
    obtain ⟨i, rfl, hi, hB, hb⟩ := hrel
    have hll : ((spcL l).take i ++ l.drop i).length = l.length := by rw [List.length_append, List.length_take, List.length_drop, Hlen.out]; omega
    by_cases hlt : i < l.length
    · obtain ⟨x, Hx⟩ : ∃ x, Hid (l[i]? = some x) := ⟨_, Lib.hid (List.getElem?_eq_getElem hlt)⟩
      have hgx : ((spcL l).take i ++ l.drop i)[i]'(by omega) = x := by
        have h1 : ((spcL l).take i ++ l.drop i)[i]? = some x := by
          rw [List.getElem?_append_right (by rw [List.length_take, Hlen.out]; omega), List.length_take, Hlen.out, Nat.min_eq_left (by omega), Nat.sub_self, List.getElem?_drop]; exact Hx.out
        obtain ⟨_, h2⟩ := List.getElem?_eq_some_iff.1 h1
        exact h2
      have hc := hB.cell i (by omega)
      rw [hgx] at hc
      have hf := hB.free i (by omega)
      have hnext : ∀ y, y = (if x = 9 then 32 else x) → ((spcL l).take i ++ l.drop i).set i y = (spcL l).take (i + 1) ++ l.drop (i + 1) := fun y hy => by
        have h1 : (spcL l)[i]? = some y := by unfold spcL; rw [List.getElem?_map, Hx.out, hy]; rfl
        rw [drop_at Hx.out, List.take_add_one, h1]
        have h2 : ((spcL l).take i).length = i := by rw [List.length_take, Hlen.out]; omega
        have h3 := set_mid ((spcL l).take i) x y (l.drop (i + 1))
        rw [h2] at h3
        rw [h3]; simp
      by_cases hx9 : x = 9
      · have hz : ((x.toNat : Int) == 9) = true := by rw [hx9]; rfl
        have HN := Lib.hid (hnext 32 (by rw [if_pos hx9]))
        have HB := Lib.hid (hB.set_ (i := i) (by omega) 32 32 rfl)
        rw [HN.out] at HB
        clear hnext hx9 hgx
        go_wp2
        go_roundw
        case rel => exact ⟨i + 1, by go_num, by omega, HB.out, hb.setCell (p := ⟨w.heap.size, i, none⟩) (Nat.le_refl _) _⟩
        case measure => simp [intOf]; omega
      · have hz : ((x.toNat : Int) == 9) = false := beq_eq_false_iff_ne.2 (fun e => hx9 ((u8_eq (n := 9) (by omega)).2 (by omega)))
        have HN := Lib.hid (hnext x (by rw [if_neg hx9]))
        have hsame : ((spcL l).take i ++ l.drop i).set i x = (spcL l).take i ++ l.drop i := by
          conv => lhs; rw [← hgx]
          exact List.set_getElem_self _
        rw [hsame] at HN
        clear hnext hx9 hgx hsame
        go_wp2
        go_roundw
        case rel => exact ⟨i + 1, by go_num, by omega, by rw [← HN.out]; exact hB, hb⟩
        case measure => simp [intOf]; omega
    · have HE : Hid ((spcL l).take i ++ l.drop i = spcL l) := Lib.hid (by rw [List.take_of_length_le (by rw [Hlen.out]; omega), List.drop_of_length_le (by omega), List.append_nil])
      rw [HE.out] at hB
      have hcb := fun c => run_convert_bytes_back (P := Tryz.prog) wr 112 9 5 ⟨w.heap.size, 0, none⟩ c (spcL l) Tryz.underlying112 Tryz.underlying5 Tryz.underlying9 (fun k hk => by
        have e : (⟨w.heap.size, 0, none⟩ : Addr).add k = ⟨w.heap.size, k, none⟩ := by
          unfold Addr.add
          split
          · rename_i h0; rw [h0]
          · simp
        rw [e]; exact hB.cell k hk)
      rw [Hlen.out] at hcb
      go_wp2
      go_ret
      exact ⟨rfl, hb⟩
theorem take_sub {l : List UInt8} {a b : Nat} : (bytesOf l).extract a b = bytesOf ((l.drop a).take (b - a)) := ext_bytes2 l a b
set_option maxRecDepth 100000 in
set_option maxHeartbeats 2000000 in
theorem vLines_any (t : List UInt8) (w : World) (ht : t.length ≤ 1000000) :
    Calls Tryz.prog 119 #[.string (bytesOf t)] w fun e w' => ∃ A n c, e = .returned (.slice A n c) ∧ Own w' w.heap.size 9 1 A n c ((splitL t).map encNm) ∧ Below w.heap.size w w' := by
  obtain ⟨i0, hi0, hz0, hz1, hz2⟩ := info_parts info_cloneS
  have hsz : (bytesOf t).size = t.length := bytesOf_size t
  go_enter Tryz.func119, Tryz.ntmps119
  go_wp2
  go_loopw [3, 4, 5] (fun a f v wr => ∃ (i frm : Nat) (done : List (List UInt8)) (A : Option Addr) (n c : Nat), a = .slice A n c ∧ f = .int .i64 frm ∧ v = .int .i64 i ∧ i ≤ t.length ∧ n ≤ i ∧ frm ≤ i ∧ Hid (LinesAt t i frm done) ∧ Own wr w.heap.size 9 1 A n c (done.map encNm) ∧ Below w.heap.size w wr) (fun _ _ v _ => t.length - (intOf v).toNat)
  case atStart => exact ⟨0, 0, [], none, 0, 0, rfl, rfl, rfl, by omega, by omega, by omega, LinesAt.start t, Own.nil_ _ _ _ _, Below.refl _ _⟩
  case round =>
    obtain ⟨i, frm, done, A, n, c, rfl, rfl, rfl, hi, hni, hfi, HL, ho, hb⟩ := hrel
    have hszr := hb.size
    by_cases hlt : i < t.length
    · have hp : i < (bytesOf t).size := by omega
      have hix := index_at (bytesOf t) i i rfl hp
      obtain ⟨x, hx⟩ : ∃ x, (bytesOf t)[i]'hp = x := ⟨_, rfl⟩
      have Hx : Hid (t[i]? = some x) := Lib.hid (by have := get_list hp; rw [bytesOf_list, hx] at this; exact this)
      have hgi : (((bytesOf t)[i]'hp).toNat : Int) = (x.toNat : Int) := by rw [hx]
      rw [hx] at hix
      clear hx
      by_cases hx10 : x = 10
      · have hz : ((x.toNat : Int) == 10) = true := by rw [hx10]; rfl
        have HL' := Lib.hid (LinesAt.line HL.out (by rw [Hx.out, hx10]))
        have HX := Lib.hid (take_sub (l := t) (a := frm) (b := i))
        clear hx10
        go_wp2_with (at_builtin; go_must (refine wpList_app rfl (.tmp 16) (.tmp 21) _ rfl w.heap.size 9 i0 _ 1 16 Tryz.underlying42 hi0 hz0 hz1 hz2 rfl (by omega) A n c (done.map encNm) rfl (ho.alloc _) _ 1 1 [encNm ((t.drop frm).take (i - frm))] rfl rfl (Rd.newAt (by simp) (by simp [encNm, HX.out])) (encNm_ok [(t.drop frm).take (i - frm)]) (by unfold maxLen; omega) (by omega) (by simp; omega) ?_); intro A3 c3 w3 ho3 hg3 hA3; have hb3 := below_app (hb.alloc (by omega) _) hg3 (by simp; omega) (fun a ha => (ho.lt a ha).1); clear hg3)
        have Ho3 : Own w3 w.heap.size 9 1 A3 (n + 1) c3 ((done ++ [(t.drop frm).take (i - frm)]).map encNm) := by rw [List.map_append]; exact ho3
        clear ho3
        go_roundw
        case rel => exact ⟨i + 1, i + 1, _, A3, n + 1, c3, rfl, by go_num, by go_num, by omega, by omega, by omega, HL', Ho3, hb3⟩
        case measure => simp [intOf]; omega
      · have hz : ((x.toNat : Int) == 10) = false := beq_eq_false_iff_ne.2 (fun e => hx10 ((u8_eq (n := 10) (by omega)).2 (by omega)))
        have HL' := Lib.hid (LinesAt.byte HL.out Hx.out hx10)
        clear hx10
        go_wp2
        go_roundw
        case rel => exact ⟨i + 1, frm, done, A, n, c, rfl, rfl, by go_num, by omega, by omega, by omega, HL', ho, hb⟩
        case measure => simp [intOf]; omega
    · obtain rfl : i = t.length := by omega
      have HE := Lib.hid (LinesAt.done HL.out)
      have HX := Lib.hid (ext_bytes t frm)
      rw [hsz] at HX
      go_wp2_with (at_builtin; go_must (refine wpList_app rfl (.tmp 25) (.tmp 29) _ rfl w.heap.size 9 i0 _ 1 16 Tryz.underlying42 hi0 hz0 hz1 hz2 rfl (by omega) A n c (done.map encNm) rfl (ho.alloc _) _ 1 1 [encNm (t.drop frm)] rfl rfl (Rd.newAt (by simp) (by simp [encNm, HX.out])) (encNm_ok [t.drop frm]) (by unfold maxLen; omega) (by omega) (by simp; omega) ?_); intro A3 c3 w3 ho3 hg3 hA3; have hb3 := below_app (hb.alloc (by omega) _) hg3 (by simp; omega) (fun a ha => (ho.lt a ha).1); clear hg3)
      go_ret
      exact ⟨A3, n + 1, c3, rfl, by rw [HE.out, List.map_append]; exact ho3, hb3⟩
end Go.Proofs.YthlnfefpdmecaaaGreatDoor

/-
  kerfref02.Print: the spelling of a set.
-/
namespace Go.Proofs.YthlnfefpdmecaaaGreatDoor
open Go.RowKit

theorem infoU8' : (Tryz.prog.info? 5).map (fun i => (i.zero, i.size, i.bytes)) = some (some (.int .u8 0), 1, 1) := by kernel_rfl
/-- Bytes that are the call's own. -/
def OwnB (w : World) (B : Nat) (v : Value) (l : List UInt8) : Prop := w.ownsRow B 5 1 v l.length (Lib.byteCells l)
theorem OwnB.below {w w' : World} {B : Nat} {v : Value} {l : List UInt8} (h : OwnB w B v l) (hb : Below w.heap.size w w') : OwnB w' B v l := by
  unfold OwnB at h ⊢
  refine ⟨h.1, ?_⟩
  rcases h.2 with h0 | ⟨g, cap, cur, hv, hg, hh, r⟩
  · exact .inl h0
  · exact .inr ⟨g, cap, cur, hv, hg, (hb.block g (Array.getElem?_eq_some_iff.1 hh).1).trans hh, r⟩
theorem OwnB.convert {w : World} {B : Nat} {v : Value} {l : List UInt8} (h : OwnB w B v l) : (convert 112 9 v).run Tryz.prog w = .ok (.string ⟨l.toArray⟩) w := by
  unfold OwnB at h
  rcases h.2 with ⟨rfl, h0⟩ | ⟨g, cap, cur, rfl, _, hg, _, _, _, ht⟩
  · have : l = [] := List.length_eq_zero_iff.1 h0
    subst this
    exact Lib.run_convert_nil_bytes w 112 9 5 0 Tryz.underlying112 Tryz.underlying5 Tryz.underlying9
  · exact run_convert_bytes_back w 112 9 5 ⟨g, 0, none⟩ cap l Tryz.underlying112 Tryz.underlying5 Tryz.underlying9 (Lib.bytes_of_row hg (by simpa using ht))
theorem OwnB.lt {w : World} {B : Nat} {v : Value} {l : List UInt8} (h : OwnB w B v l) : ∀ k, v.ownBlock = some k → B ≤ k := fun k hk => (World.ownsRow.lt h k hk).1
theorem OwnB.str {w : World} {B : Nat} {v : Value} {l : List UInt8} {s : ByteArray} {n : Nat} (h : w.ownsRow B 5 1 v (n + s.size) (Lib.byteCells l ++ Lib.strCells s)) (hn : n = l.length) : OwnB w B v (l ++ s.data.toList) := by
  unfold OwnB
  subst hn
  have e1 : Lib.byteCells (l ++ s.data.toList) = Lib.byteCells l ++ Lib.strCells s := by simp [Lib.byteCells, Lib.strCells]
  rw [e1, List.length_append, Array.length_toList]
  exact h
theorem OwnB.byte {w : World} {B : Nat} {v : Value} {l : List UInt8} {c : UInt8} {n : Nat} (h : w.ownsRow B 5 1 v (n + 1) (Lib.byteCells l ++ [.int .u8 c.toNat])) (hn : n = l.length) : OwnB w B v (l ++ [c]) := by
  unfold OwnB
  subst hn
  have e1 : Lib.byteCells (l ++ [c]) = Lib.byteCells l ++ [.int .u8 c.toNat] := by simp [Lib.byteCells]
  rw [e1, List.length_append]
  exact h
theorem OwnB.form {w : World} {B : Nat} {v : Value} {l : List UInt8} (h : OwnB w B v l) : ∃ A n c, v = .slice A n c := by
  unfold OwnB at h
  rcases h.2 with ⟨rfl, _⟩ | ⟨g, cap, cur, rfl, _⟩
  · exact ⟨_, _, _, rfl⟩
  · exact ⟨_, _, _, rfl⟩
theorem cell_grown {w w' : World} {o : Obj} {B b i : Nat} {v u : Value} {l : List UInt8} (hu : w.cell? ⟨b, i, none⟩ = some u) (ho : OwnB (w.alloc o) B v l) (hg : (w.alloc o).grownBy w' v.ownBlock) (hb : b < B) : w'.cell? ⟨b, i, none⟩ = some u := by
  have h1 : (w.alloc o).cell? ⟨b, i, none⟩ = some u := cell_keep hu ((Below.refl _ _).alloc (Nat.le_refl _) o)
  exact (World.cell?_of_block (hg.block b (cell_lt h1) (fun e => by have := ho.lt b e.symm; omega))).trans h1
theorem cell_grownS {w w' : World} {B b i : Nat} {v u : Value} {l : List UInt8} (hu : w.cell? ⟨b, i, none⟩ = some u) (ho : OwnB w B v l) (hg : w.grownBy w' v.ownBlock) (hb : b < B) : w'.cell? ⟨b, i, none⟩ = some u :=
  (World.cell?_of_block (hg.block b (cell_lt hu) (fun e => by have := ho.lt b e.symm; omega))).trans hu
theorem below_ownB {B : Nat} {a w w' : World} {v : Value} {l : List UInt8} (h : Below B a w) (ho : OwnB w B v l) (hg : w.grownBy w' v.ownBlock) (hB : B ≤ w.heap.size) : Below B a w' := h.grown hg hB fun k hk => ho.lt k hk
theorem cell_newB (w : World) {t : TypeId} (x : Value) : ∀ j u, [x][j]? = some u → (w.alloc (.cells #[x] t)).cell? ((⟨w.heap.size, 0, none⟩ : Addr).add j) = some u := fun j u h => by
  match j, h with
  | 0, h =>
    obtain rfl : x = u := by simpa using h
    exact (Blk.new w t #[x]).cell 0

end Go.Proofs.YthlnfefpdmecaaaGreatDoor

/-
  kerflaw04.PropsBack, walked.
-/
namespace Go.Proofs.YthlnfefpdmecaaaGreatDoor
open Go.RowKit Go.Maps

theorem setI_at {d : DbP} {i : Nat} {s : List (Int × Int)} (h : d.full[i]? = some s) : d.setI (i : Int) = s := by
  unfold DbP.setI
  rw [if_pos (by omega), List.getD_eq_getElem?_getD, show ((i : Int).toNat) = i by omega, h]; rfl
end Go.Proofs.YthlnfefpdmecaaaGreatDoor

/-
  kerfref04: Get, Set, Text, walked.
-/
namespace Go.Proofs.YthlnfefpdmecaaaGreatDoor
open Go.RowKit Go.Maps

theorem getGo_hit {q : Int} {i : Nat} {s : List (Int × Int)} {S : List (List (Int × Int))} (h : hasB s q = true) : getGo q i (s :: S) = i := by unfold getGo; rw [if_pos h]
theorem getGo_miss {q : Int} {i : Nat} {s : List (Int × Int)} {S : List (List (Int × Int))} (h : hasB s q = false) : getGo q i (s :: S) = getGo q (i + 1) S := by conv => lhs; unfold getGo; rw [if_neg (by rw [h]; simp)]
theorem getGo_end {q : Int} {i : Nat} : getGo q i [] = 0 := rfl
set_option maxRecDepth 100000 in
set_option maxHeartbeats 4000000 in
theorem vGet_any (base p x : Nat) (d : DbP) (r : Int) (w : World) (h : RfB w base p x d.names d.full) (ho : d.Ok) (hap : Apart d.sets) :
    Calls Tryz.prog 52 #[.pointer (some ⟨p, 0, none⟩), .int .i32 r] w fun e w' => e = .returned (.int .i64 (d.get r : Nat)) ∧ w = w' := by
  obtain ⟨An, nn, cn, As, ns, cs, xs, hX⟩ := h.ex
  have hls := hX.lenS
  have hfl := full_len ho
  have hn0 : 0 < ns := by
    have h3 := ho.head
    cases hd : d.names with
    | nil => rw [hd] at h3; cases h3
    | cons a b => rw [hd] at hfl; simp at hfl; omega
  have hn64 : ns ≤ 64 := by have := ho.few; omega
  obtain ⟨g, rfl, _, _⟩ := hX.hs.form hn0
  have c1 := hX.blk.cell 1
  simp only [List.getElem?_toArray, List.getElem?_cons_zero, List.getElem?_cons_succ] at c1
  have HF := Lib.hid (fun i s (hi : d.full[i]? = some s) => full_small ho hap hi)
  have HG : Hid (d.get r = getGo (askR r) 1 d.full.tail) := rfl
  have Hls := Lib.hid (show d.full.length = ns from hls.2)
  have hcase : (r < 0 ∧ askR r = 65533) ∨ (¬ r < 0 ∧ 1114111 < r ∧ askR r = 65533) ∨ (¬ r < 0 ∧ ¬ 1114111 < r ∧ askR r = r) := by
    unfold askR; split <;> omega
  obtain ⟨q, hq⟩ : ∃ q, askR r = q := ⟨_, rfl⟩
  rw [hq] at HG hcase
  clear ho hap h hfl hq
  rcases hcase with ⟨h1, rfl⟩ | ⟨h1, h2, rfl⟩ | ⟨h1, h2, rfl⟩
  · go_enter Tryz.func52, Tryz.ntmps52
    go_wp2_with fail
    go_loopw [5] (fun v wr => ∃ k : Nat, v = .int .i64 (k + 1 : Nat) ∧ k + 1 ≤ ns ∧ wr = w ∧ Hid (d.get r = getGo 65533 (k + 1) (d.full.tail.drop k))) (fun v _ => ns - (intOf v).toNat)
    case atStart => exact ⟨0, rfl, by omega, rfl, by rw [List.drop_zero]; exact HG⟩
    case round =>
      obtain ⟨k, rfl, hk, rfl, HK⟩ := hrel
      by_cases hlt : k + 1 < ns
      · obtain ⟨s, Hs⟩ : ∃ s, Hid (d.full[k + 1]? = some s) := ⟨_, Lib.hid (List.getElem?_eq_getElem (show k + 1 < d.full.length by have := Hls.out; omega))⟩
        obtain ⟨⟨yA, yn, yc⟩, Hy⟩ : ∃ y, Hid (xs[k + 1]? = some y) := ⟨_, Lib.hid (List.getElem?_eq_getElem (show k + 1 < xs.length by omega))⟩
        have hoy : Own wr base 146 2 yA yn yc (s.map encR) := hX.hx.own (k + 1) (yA, yn, yc) s Hy.out Hs.out
        have hly : s.length = yn := by simpa using hoy.len
        have hsm := HF.out _ s Hs.out
        have hcell := hX.hs.cell' rfl Hy.out
        have HH := Lib.hid (sHas_any yA yn yc s 65533 wr (hoy.rd (by omega)) hly (by omega))
        have HD := Lib.hid (drop_at (show d.full.tail[k]? = some s by rw [List.getElem?_tail]; exact Hs.out))
        have hI : (k : Int) + 1 < ns := by omega
        rw [HD.out] at HK
        cases hv : hasB s 65533 with
        | true =>
          have HE := Lib.hid (HK.out.trans (getGo_hit hv))
          rw [hv] at HH
          clear hv hly
          go_wp2_with (go_at_call 109; refine HH.out.mono ?_; rintro e w2 ⟨rfl, rfl⟩)
          go_ret
          exact ⟨by rw [HE.out]; rfl, rfl⟩
        | false =>
          have HE := Lib.hid (HK.out.trans (getGo_miss hv))
          rw [hv] at HH
          clear hv hly
          go_wp2_with (go_at_call 109; refine HH.out.mono ?_; rintro e w2 ⟨rfl, rfl⟩)
          go_roundw
          case rel => exact ⟨k + 1, by go_num, by omega, by first | rfl | trivial, HE⟩
          case measure => simp [intOf]; omega
      · have HE : Hid (d.get r = 0) := Lib.hid (by rw [HK.out, List.drop_of_length_le (by rw [List.length_tail]; have := Hls.out; omega)]; rfl)
        obtain rfl : k + 1 = ns := by omega
        go_wp2
        go_ret
        exact ⟨by rw [HE.out]; rfl, rfl⟩
  · go_enter Tryz.func52, Tryz.ntmps52
    go_wp2_with fail
    go_loopw [5] (fun v wr => ∃ k : Nat, v = .int .i64 (k + 1 : Nat) ∧ k + 1 ≤ ns ∧ wr = w ∧ Hid (d.get r = getGo 65533 (k + 1) (d.full.tail.drop k))) (fun v _ => ns - (intOf v).toNat)
    case atStart => exact ⟨0, rfl, by omega, rfl, by rw [List.drop_zero]; exact HG⟩
    case round =>
      obtain ⟨k, rfl, hk, rfl, HK⟩ := hrel
      by_cases hlt : k + 1 < ns
      · obtain ⟨s, Hs⟩ : ∃ s, Hid (d.full[k + 1]? = some s) := ⟨_, Lib.hid (List.getElem?_eq_getElem (show k + 1 < d.full.length by have := Hls.out; omega))⟩
        obtain ⟨⟨yA, yn, yc⟩, Hy⟩ : ∃ y, Hid (xs[k + 1]? = some y) := ⟨_, Lib.hid (List.getElem?_eq_getElem (show k + 1 < xs.length by omega))⟩
        have hoy : Own wr base 146 2 yA yn yc (s.map encR) := hX.hx.own (k + 1) (yA, yn, yc) s Hy.out Hs.out
        have hly : s.length = yn := by simpa using hoy.len
        have hsm := HF.out _ s Hs.out
        have hcell := hX.hs.cell' rfl Hy.out
        have HH := Lib.hid (sHas_any yA yn yc s 65533 wr (hoy.rd (by omega)) hly (by omega))
        have HD := Lib.hid (drop_at (show d.full.tail[k]? = some s by rw [List.getElem?_tail]; exact Hs.out))
        have hI : (k : Int) + 1 < ns := by omega
        rw [HD.out] at HK
        cases hv : hasB s 65533 with
        | true =>
          have HE := Lib.hid (HK.out.trans (getGo_hit hv))
          rw [hv] at HH
          clear hv hly
          go_wp2_with (go_at_call 109; refine HH.out.mono ?_; rintro e w2 ⟨rfl, rfl⟩)
          go_ret
          exact ⟨by rw [HE.out]; rfl, rfl⟩
        | false =>
          have HE := Lib.hid (HK.out.trans (getGo_miss hv))
          rw [hv] at HH
          clear hv hly
          go_wp2_with (go_at_call 109; refine HH.out.mono ?_; rintro e w2 ⟨rfl, rfl⟩)
          go_roundw
          case rel => exact ⟨k + 1, by go_num, by omega, by first | rfl | trivial, HE⟩
          case measure => simp [intOf]; omega
      · have HE : Hid (d.get r = 0) := Lib.hid (by rw [HK.out, List.drop_of_length_le (by rw [List.length_tail]; have := Hls.out; omega)]; rfl)
        obtain rfl : k + 1 = ns := by omega
        go_wp2
        go_ret
        exact ⟨by rw [HE.out]; rfl, rfl⟩
  · go_enter Tryz.func52, Tryz.ntmps52
    go_wp2_with fail
    go_loopw [5] (fun v wr => ∃ k : Nat, v = .int .i64 (k + 1 : Nat) ∧ k + 1 ≤ ns ∧ wr = w ∧ Hid (d.get q = getGo q (k + 1) (d.full.tail.drop k))) (fun v _ => ns - (intOf v).toNat)
    case atStart => exact ⟨0, rfl, by omega, rfl, by rw [List.drop_zero]; exact HG⟩
    case round =>
      obtain ⟨k, rfl, hk, rfl, HK⟩ := hrel
      by_cases hlt : k + 1 < ns
      · obtain ⟨s, Hs⟩ : ∃ s, Hid (d.full[k + 1]? = some s) := ⟨_, Lib.hid (List.getElem?_eq_getElem (show k + 1 < d.full.length by have := Hls.out; omega))⟩
        obtain ⟨⟨yA, yn, yc⟩, Hy⟩ : ∃ y, Hid (xs[k + 1]? = some y) := ⟨_, Lib.hid (List.getElem?_eq_getElem (show k + 1 < xs.length by omega))⟩
        have hoy : Own wr base 146 2 yA yn yc (s.map encR) := hX.hx.own (k + 1) (yA, yn, yc) s Hy.out Hs.out
        have hly : s.length = yn := by simpa using hoy.len
        have hsm := HF.out _ s Hs.out
        have hcell := hX.hs.cell' rfl Hy.out
        have HH := Lib.hid (sHas_any yA yn yc s q wr (hoy.rd (by omega)) hly (by omega))
        have HD := Lib.hid (drop_at (show d.full.tail[k]? = some s by rw [List.getElem?_tail]; exact Hs.out))
        have hI : (k : Int) + 1 < ns := by omega
        rw [HD.out] at HK
        cases hv : hasB s q with
        | true =>
          have HE := Lib.hid (HK.out.trans (getGo_hit hv))
          rw [hv] at HH
          clear hv hly
          go_wp2_with (go_at_call 109; refine HH.out.mono ?_; rintro e w2 ⟨rfl, rfl⟩)
          go_ret
          exact ⟨by rw [HE.out]; rfl, rfl⟩
        | false =>
          have HE := Lib.hid (HK.out.trans (getGo_miss hv))
          rw [hv] at HH
          clear hv hly
          go_wp2_with (go_at_call 109; refine HH.out.mono ?_; rintro e w2 ⟨rfl, rfl⟩)
          go_roundw
          case rel => exact ⟨k + 1, by go_num, by omega, by first | rfl | trivial, HE⟩
          case measure => simp [intOf]; omega
      · have HE : Hid (d.get q = 0) := Lib.hid (by rw [HK.out, List.drop_of_length_le (by rw [List.length_tail]; have := Hls.out; omega)]; rfl)
        obtain rfl : k + 1 = ns := by omega
        go_wp2
        go_ret
        exact ⟨by rw [HE.out]; rfl, rfl⟩
end Go.Proofs.YthlnfefpdmecaaaGreatDoor

