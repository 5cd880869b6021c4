/-
  Several texts in one, in their build order: Pie, Gu.
-/
import Derived.Laws.EntriesVeiled
import Derived.LoopN
import Derived.Test.YtdnkignhenkamaaGreatDoorZ0a
import Derived.Test.YtdnkignhenkamaaGreatDoorZ6a
import Derived.Test.YtdnkignhenkamaaGreatDoorZ7a
/- -/
namespace Go.Proofs.YtdnkignhenkamaaGreatDoor
open Go.RowKit Go.Shelf
theorem KT.setX {t : TypeId} {X : Nat → Prop} {A B : World} (h : KT t X A B) {b : Nat} (hx : X b) (i : Nat) (u : Value) : KT t X A (B.setCell ⟨b, i, none⟩ u) :=
  ⟨by simpa [World.setCell] using h.1, fun k cur fz hk0 hk => (Below.heap_setCell B ⟨b, i, none⟩ u k (fun e => by subst e; exact hk0 hx)).trans (h.2 k cur fz hk0 hk)⟩
theorem others_below {A B : World} (h : Below A.heap.size A B) : KeepsOthers A B := ⟨h.size, fun j _ hj _ => (h.block j (Array.getElem?_eq_some_iff.1 hj).1).trans hj⟩
structure PcF (w : World) (stop : Int) (A : Option Addr) (c : Nat) (L : List Nat) (K g5 g8 be bb : Nat) (s : ByteArray) (fb : Value) (V : World) : Prop where
  b3 : Blk V w.heap.size 3 #[.int .i64 stop]
  b4 : Blk V (w.heap.size + 1) 4 #[.bool false]
  b5 : Blk V g5 23 #[.slice A L.length c]
  b6 : Blk V (g5 + 1) 3 #[.int .i64 (K : Nat)]
  b8 : Blk V g8 31 #[fb]
  rd : Rd V 1 A (L.map encN)
  ce : V.cell? ⟨be, 0, none⟩ = some (.string s)
  cb : V.cell? ⟨bb, 0, none⟩ = some (.string s)
  hb : Below w.heap.size w V
theorem PcF.below {w V V' : World} {stop : Int} {A : Option Addr} {c : Nat} {L : List Nat} {K g5 g8 be bb : Nat} {s : ByteArray} {fb : Value} (h : PcF w stop A c L K g5 g8 be bb s fb V) (hb : Below V.heap.size V V') : PcF w stop A c L K g5 g8 be bb s fb V' :=
  ⟨h.b3.below hb, h.b4.below hb, h.b5.below hb, h.b6.below hb, h.b8.below hb, h.rd.below hb, cell_keep h.ce hb, cell_keep h.cb hb, below_two h.hb hb⟩
theorem prefix_nextP {α : Type} {R pre : List α} {x : α} (h : pre ++ [x] <+: R) : R[pre.length]? = some x := by
  obtain ⟨r, rfl⟩ := h
  simp
theorem seqP_nil (fn : Fn) (first captured : Array Value) (W : World) : (binOp .eql 31 (.func fn first captured) .nilFunc).run Tryz.prog W = .ok (.bool false) W := by kernel_rfl
variable {F : Fence} {n : Nat} {P : Program}
theorem rngJ {α : Type} {g : Operand} {ps : Array Tmp} {assign body : Code} {Q : Exit → Act → World → Prop} {a : Act} {w : World}
    (hro : F.round = none) (h1 : 1 ≤ n) {gf : Nat} {lb : Array Value} (hg : a.eval g = .func (.func gf) #[] lb) (hFg : F.fn gf) (eg : ∀ args w, (callFunc gf args).run P w = .ok (.enter gf args) w)
    {encs : α → Array Value} {Kp : World → World → Prop} {S Sp : List α → Prop} {N : Nat} {w0 : World} (hseq : SeqStopsK F (n - 1) P gf lb encs Kp S Sp N w0)
    (hKt : ∀ {A B C : World}, Kp A B → Kp B C → Kp A C) (hKb : ∀ (W : World) (l : Nat) (o o' : Obj), w.heap.size ≤ l → W.heap[l]? = some o → o.isCells = false → o.isWalk = false → Kp W (W.putObj l o')) (hb0 : Below w0.heap.size w0 w) (hps : ∀ x, (encs x).size = ps.size) (hKr : ∀ W, Kp W W)
    (I : List α → World → Prop) (Ix : Code → List α → World → Prop) (hI : OwnFrom w.heap.size I) (hIx : ∀ c, OwnFrom w.heap.size (Ix c)) (h0 : I [] w) (f : Array Value → α → Array Value) (R : World → Prop)
    (hassign : ∀ (l : Nat) (x : α) (W : World) (K : Act → World → Prop), K { tmps := f a.tmps x, defers := [] } W →
      assign.wpIn (F.inRound l) (n - 1 - 1) P (Exit.then K (fun _ _ _ => False)) { tmps := (ps.zip (encs x)).foldl (fun t (p, v) => t.setIfInBounds p v) a.tmps, defers := [] } W)
    (hbody : ∀ (l : Nat) (pre : List α) (x : α) (W : World), w.heap.size ≤ l → (∃ r, W.heap[l]? = some (.loop r)) → I pre W → pre.length < N → body.wpIn (F.inRound l) (n - 1 - 1) P (ownPostG w.heap.size Kp I Ix (pre ++ [x]) W) { tmps := f a.tmps x, defers := [] } W)
    (hdone : ∀ (xs : List α) (W : World), S xs → I xs W → R W)
    (hstop : ∀ (c : Code) (pre : List α) (W : World), Sp pre → Ix c pre W → (∃ j, c = .exit j ∧ ∀ a W, Q .normal a W → Q (.exit j) a W) ∧ R W)
    (hrest : ∀ (D : Nat) (W : World), w.heap.size ≤ D → R W → W.heap[D]? = some (.deferred (some [])) → Q .normal { a with defers := { target := .collected D, args := #[] } :: a.defers } W) :
    (Code.rangeFunc g ps assign body).wpIn F n P Q a w :=
  rngH hro h1 hg hFg eg hseq hKt hKb hb0 hps hKr I Ix hI hIx h0 f hassign hbody
    (fun D xs W hD hS hi hK => hrest D W hD (hdone xs W hS hi) hK)
    (fun D c pre W hD hS hi hK => by
      obtain ⟨⟨j, rfl, hj⟩, hR⟩ := hstop c pre W hS hi
      exact wpIn_exit (hj _ _ (hrest D W hD hR hK)))
theorem rngN2 {α : Type} {g : Operand} {ps : Array Tmp} {assign body : Code} {Q : Exit → Act → World → Prop} {a : Act} {w : World}
    {l₀ : Nat} {r₀ : Loop} (hro : F.round = some l₀) (hl₀ : w.heap[l₀]? = some (.loop r₀)) (h1 : 1 ≤ n) {gf : Nat} {lb : Array Value} (hg : a.eval g = .func (.func gf) #[] lb) (hFg : F.fn gf) (eg : ∀ args w, (callFunc gf args).run P w = .ok (.enter gf args) w)
    {encs : α → Array Value} {Kp : World → World → Prop} {S Sp : List α → Prop} {N : Nat} {w0 : World} (hseq : SeqStopsK F (n - 1) P gf lb encs Kp S Sp N w0)
    (hKt : ∀ {A B C : World}, Kp A B → Kp B C → Kp A C) (hKb : ∀ (W : World) (l : Nat) (o o' : Obj), w.heap.size ≤ l → W.heap[l]? = some o → o.isCells = false → o.isWalk = false → Kp W (W.putObj l o')) (hb0 : Below w0.heap.size w0 w) (hps : ∀ x, (encs x).size = ps.size) (hKr : ∀ W, Kp W W)
    (I : List α → World → Prop) (Ix : Code → List α → World → Prop) (hI : OwnFrom w.heap.size I) (hIx : ∀ c, OwnFrom w.heap.size (Ix c)) (h0 : I [] w) (f : Array Value → α → Array Value)
    (hassign : ∀ (l : Nat) (x : α) (W : World) (K : Act → World → Prop), K { tmps := f a.tmps x, defers := [] } W →
      assign.wpIn (F.inRound l) (n - 1 - 1) P (Exit.then K (fun _ _ _ => False)) { tmps := (ps.zip (encs x)).foldl (fun t (p, v) => t.setIfInBounds p v) a.tmps, defers := [] } W)
    (hbody : ∀ (l : Nat) (pre : List α) (x : α) (W : World), w.heap.size ≤ l → (∃ r, W.heap[l]? = some (.loop r)) → I pre W → pre.length < N → body.wpIn (F.inRound l) (n - 1 - 1) P (ownPostG w.heap.size Kp I Ix (pre ++ [x]) W) { tmps := f a.tmps x, defers := [] } W)
    (hdone : ∀ (xs : List α) (W : World), S xs → I xs W → Q .normal a W)
    (hstop : ∀ (c : Code) (pre : List α) (W : World), Sp pre → Ix c pre W → c.wpIn F n P Q a W) :
    (Code.rangeFunc g ps assign body).wpIn F n P Q a w :=
  wpIn_rangeFunc_ownN hro hl₀ h1 hg hFg eg hseq (fun h k => hKt h k) hKb hb0 hps I Ix hI hIx h0 (fun x a' _ => a' = { tmps := f a.tmps x, defers := [] }) (fun _ _ _ _ _ _ hs _ _ => hs)
    (fun l _ x W K hi hK => hassign l x W K (hK _ _ (KeepsFrom.refl _ _) (hKr W) hi rfl)) (fun l pre x a' W hl hr hi e => by subst e; exact hbody l pre x W hl hr hi) hdone hstop
end Go.Proofs.YtdnkignhenkamaaGreatDoor

/- -/
namespace Go.Proofs.YtdnkignhenkamaaGreatDoor
open Go.RowKit Go.Shelf
attribute [local go_sem] Oper.semAt_some
theorem res_piecesG (w : World) (b : Nat) (tmps : Array Value) (ht : tmps.getD 4 undef = .pointer (some ⟨b, 0, none⟩)) {v : Bool} (hc : w.cell? ⟨b, 0, none⟩ = some (.bool v)) : (results Tryz.f4 tmps).run Tryz.prog w = .ok (.bool v) w := by
  have ht' : tmps[4]?.getD undef = .pointer (some ⟨b, 0, none⟩) := by simpa [Array.getD_eq_getD_getElem?] using ht
  simp [results, Tryz.results4, go_sem, ht', hc]
set_option maxRecDepth 100000 in
set_option maxHeartbeats 8000000 in
theorem mPieces_any (s : ByteArray) (stop : Int) (w : World) (hE : Env w) (hs : s.size ≤ 140737488355328) :
    Calls Tryz.prog 4 #[.string s, .int .i64 stop] w fun e w' => e = .returned (.bool true) ∧ Below w.heap.size w w' := by
  have HB : Below w.heap.size w ((w.alloc (.cells #[.int .i64 stop] 3)).alloc (.cells #[.bool false] 4)) := ((Below.refl _ _).alloc (Nat.le_refl _) _).alloc (by simp) _
  have B3 : Blk ((w.alloc (.cells #[.int .i64 stop] 3)).alloc (.cells #[.bool false] 4)) w.heap.size 3 #[.int .i64 stop] := (Blk.new w 3 #[.int .i64 stop]).alloc _
  have B4 : Blk ((w.alloc (.cells #[.int .i64 stop] 3)).alloc (.cells #[.bool false] 4)) (w.heap.size + 1) 4 #[.bool false] := by
    have := Blk.new (w.alloc (.cells #[.int .i64 stop] 3)) 4 #[.bool false]
    simpa using this
  have HLv := Lib.hid (fun W (h : Env W) => glive_any W h)
  refine (callsIn_wide (n := 6)).1 ?_
  refine callsIn_of_wp_marks Tryz.func4 rfl trivial ?_ rfl
  simp only [Tryz.ntmps4, List.size_toArray, List.length_cons, List.length_nil, Nat.reduceAdd, Nat.reduceSub, Array.replicate_succ, Array.replicate_zero, List.push_toArray, List.append_toArray, List.nil_append, List.cons_append]
  refine wpIn_wide.2 ?_
  by_cases h1 : 80 < s.size
  · have g1 : (80 : Int) < (s.size : Int) := by omega
    clear hs B3
    go_wp2_with fail
    generalize ((w.alloc (.cells #[.int .i64 stop] 3)).alloc (.cells #[.bool false] 4)) = w0 at HB B4 ⊢
    refine (HLv.out _ (hE.below HB)).mono ?_
    rintro e wz ⟨rfl, hb⟩
    replace B4 := B4.below hb
    replace HB := below_two HB hb
    have c4 := B4.cell 0
    have f4 := B4.frozen 0
    simp only [List.getElem?_toArray, List.getElem?_cons_zero] at c4
    go_wp2_with fail
    have c7 := (B4.set_ 0 (.bool true)).cell 0
    simp only [List.getElem?_toArray, List.getElem?_cons_zero, List.setIfInBounds_toArray, List.set_cons_zero] at c7
    exact ⟨_, res_piecesG _ (w.heap.size + 1) _ rfl c7, rfl, HB.setCell (p := ⟨w.heap.size + 1, 0, none⟩) (by simp only; omega) _⟩
  have g1 : ¬ (80 : Int) < (s.size : Int) := by omega
  have hsz : s.size ≤ 80 := by omega
  have HN := Lib.hid (fun W => bNew_any W)
  have HBd := Lib.hid (fun base pb W (h : BrkB W base pb graphsD rulesG true) => bBoundsG_any base pb s W h (by omega))
  have hL := bounds_len s
  have HEa := Lib.hid (fun W => gEach_any s W)
  have HBa := Lib.hid (fun W => gBack_any s W)
  have HES := Lib.hid (fun W bs X (hX : ∀ b, X b → b < W.heap.size) (h : Env W) hc => gEach_seq 5 (by decide) W s bs X hX h (by omega) hc)
  have HBS5 := Lib.hid (fun W bs X (hX : ∀ b, X b → b < W.heap.size) (h : Env W) hc => gBack_seq 5 (by decide) W s bs X hX h (by omega) hc)
  have HBS3 := Lib.hid (fun W bs X (hX : ∀ b, X b → b < W.heap.size) (h : Env W) hc => gBack_seq 3 (by decide) W s bs X hX h (by omega) hc)
  have HF1 := Lib.hid (fun x (h : x ∈ piecesF (boundsG gG s)) => (clP_in (piecesF_le (bounds_rise gG s) (bounds_le gG s) x h) : clP s x = x))
  have HF2 := Lib.hid (fun x (h : x ∈ piecesB (boundsG gG s)) => (clP_in (piecesB_le (bounds_rise gG s) (bounds_le gG s) x h) : clP s x = x))
  generalize boundsG gG s = L at HBd hL HES HBS5 HBS3 HF1 HF2
  obtain ⟨K, hK⟩ : ∃ K, L.length - 1 = K := ⟨_, rfl⟩
  clear h1 hs
  go_wp2_with fail
  generalize ((w.alloc (.cells #[.int .i64 stop] 3)).alloc (.cells #[.bool false] 4)) = w0 at HB B3 B4 ⊢
  refine (HN.out w0).mono ?_
  rintro e w1 ⟨pb, rfl, hbk, hb1⟩
  go_wp2_with fail
  refine (HBd.out _ _ w1 hbk).mono ?_
  rintro e w2 ⟨A, n, c, rfl, ho, hb2⟩
  obtain rfl : L.length = n := by have := ho.len; simpa using this
  have hb02 := below_two hb1 hb2
  have B32 := B3.below hb02
  have B42 := B4.below hb02
  have HB2 := below_two HB hb02
  have rd2 := ho.rd (by decide)
  clear hbk hb1 hb2 hb02 ho B3 B4 HB
  have hmx : max ((L.length : Int) - 1) 0 = (K : Int) := by omega
  have hwr : IntKind.i64.wrap ((L.length : Int) - 1) = (L.length : Int) - 1 := IntWalk.i64_in _ (by omega)
  have B5 := Blk.new w2 23 #[.slice A L.length c]
  have rd5 := rd2.alloc (.cells #[.slice A L.length c] 23)
  have B35 := B32.alloc (.cells #[.slice A L.length c] 23)
  have B45 := B42.alloc (.cells #[.slice A L.length c] 23)
  have HB5 := HB2.alloc HB2.size (.cells #[.slice A L.length c] 23)
  have c5 := B5.cell 0
  simp only [List.getElem?_toArray, List.getElem?_cons_zero] at c5
  have HK := Lib.hid hK
  clear hK rd2 B32 B42 HB2
  go_upto_region 5 with fail
  have B56 := B5.alloc (.cells #[.int .i64 (K : Nat)] 3)
  have rd6 := rd5.alloc (.cells #[.int .i64 (K : Nat)] 3)
  have B36 := B35.alloc (.cells #[.int .i64 (K : Nat)] 3)
  have B46 := B45.alloc (.cells #[.int .i64 (K : Nat)] 3)
  have HB6 := HB5.alloc HB5.size (.cells #[.int .i64 (K : Nat)] 3)
  have B66 : Blk ((w2.alloc (.cells #[.slice A L.length c] 23)).alloc (.cells #[.int .i64 (K : Nat)] 3)) (w2.heap.size + 1) 3 #[.int .i64 (K : Nat)] := by
    have := Blk.new (w2.alloc (.cells #[.slice A L.length c] 23)) 3 #[.int .i64 (K : Nat)]
    simpa using this
  clear c5 rd5 B35 B45 HB5 B5 hmx hwr
  have hz2 := HB6.size
  generalize (w2.alloc (.cells #[.slice A L.length c] 23)).alloc (.cells #[.int .i64 (K : Nat)] 3) = w3 at B56 rd6 B36 B46 HB6 B66 hz2 ⊢
  generalize w2.heap.size = g5 at B56 B66 ⊢
  go_wp2_with fail
  refine (HEa.out w3).mono ?_
  rintro e w4 ⟨be, rfl, hce, hb4⟩
  go_wp2_with fail
  refine (HBa.out w4).mono ?_
  rintro e w5 ⟨bb, rfl, hcb, hb5⟩
  have hce5 := cell_keep hce hb5
  have hb35 := below_two hb4 hb5
  have hnil1 := seqP_nil (.func 66) #[] #[.pointer (some ⟨be, 0, none⟩)]
  have hnil2 := seqP_nil (.func 67) #[] #[.pointer (some ⟨bb, 0, none⟩)]
  have B87 := Blk.new w5 31 #[.func (.func 67) #[] #[.pointer (some ⟨bb, 0, none⟩)]]
  have hbA : Below w5.heap.size w5 (w5.alloc (.cells #[.func (.func 67) #[] #[.pointer (some ⟨bb, 0, none⟩)]] 31)) := (Below.refl _ _).alloc (Nat.le_refl _) _
  have hb37 := below_two hb35 hbA
  have B37 := B36.below hb37
  have B47 := B46.below hb37
  have B57 := B56.below hb37
  have B67 := B66.below hb37
  have rd7 := rd6.below hb37
  have HB7 := below_two HB6 hb37
  have hce7 := cell_keep hce5 hbA
  have hcb7 := cell_keep hcb hbA
  have c8 := B87.cell 0
  simp only [List.getElem?_toArray, List.getElem?_cons_zero] at c8
  clear B36 B46 B56 B66 rd6 HB6 hb35 hbA hb37 hce hce5 hcb hb4 hb5 hz2
  go_upto_region 9 with fail
  have hP7 : PcF w stop A c L K g5 w5.heap.size be bb s _ (w5.alloc (.cells #[.func (.func 67) #[] #[.pointer (some ⟨bb, 0, none⟩)]] 31)) := ⟨B37, B47, B57, B67, B87, rd7, hce7, hcb7, HB7⟩
  clear B37 B47 B57 B67 B87 rd7 hce7 hcb7 HB7 c8 hnil1 hnil2
  generalize World.alloc w5 _ = w7 at hP7 ⊢
  generalize w5.heap.size = g8 at hP7 ⊢
  have hP9 := hP7.below ((Below.refl _ _).alloc (Nat.le_refl _) (.cells #[.int .i64 0] 3))
  have BT := Blk.new w7 3 #[.int .i64 0]
  go_upto_block 0 with fail
  generalize World.alloc w7 _ = V at hP9 BT ⊢
  generalize w7.heap.size = gt at BT ⊢
  clear hP7
  have c90 := BT.cell 0
  simp only [List.getElem?_toArray, List.getElem?_cons_zero] at c90
  go_wp2_with fail
  refine wp_loop_rounds 3 ?_
  rw [rounds_succ]
  go_wp2_with fail
  have BI0 := Blk.new V 3 #[.int .i64 0]
  have hbV0 : Below V.heap.size V (V.alloc (.cells #[.int .i64 0] 3)) := (Below.refl _ _).alloc (Nat.le_refl _) _
  have hVz0 : V.heap.size + 1 ≤ (V.alloc (.cells #[.int .i64 0] 3)).heap.size := by simp
  generalize V.alloc (.cells #[.int .i64 0] 3) = V1 at BI0 hbV0 hVz0 ⊢
  have hPb0 := hP9.below hbV0
  have hzT0 := BT.lt
  have hz30 := hP9.b3.lt
  have hz40 := hP9.b4.lt
  have hzV0 := hbV0.size
  have hEb0 := hE.below hPb0.hb
  refine (wpIn_wide (n := 6)).1 ?_
  refine rngJ rfl (by decide) (gf := 66) (lb := #[.pointer (some ⟨be, 0, none⟩)]) rfl trivial (enters_of Tryz.func66 (by kernel_rfl) rfl)
    (HES.out V1 be (fun b => b = V.heap.size) (by rintro b rfl; omega) hEb0 hPb0.ce) (fun h k => h.trans k) (fun W l o o' _ h hc _ => KT.put W l o o' h hc) (Below.refl _ _) (fun _ => rfl) (fun W => KT.refl _ _ W)
    (fun (pre : List (Nat × Nat)) W => Blk W V.heap.size 3 #[.int .i64 (pre.length : Nat)] ∧ Below V.heap.size V W)
    (fun cc pre W => (cc = .exit 2 ∧ Below V.heap.size V W) ∨ (cc = .ret ∧ ¬ pre <+: piecesF L))
    (OwnFrom.and (Go.Own.from (fun s A B row hs hg hr => hs.kept hg hr) _) (ownFrom_below (Nat.le_refl _) (by omega)))
    (fun cc pre A B row hs hg hr => hs.imp (fun h => ⟨h.1, ownFrom_below (β := Unit) (Nat.le_refl V.heap.size) (by omega) () A B row h.2 hg hr⟩) id)
    ⟨BI0, hbV0⟩
    (fun T (x : Nat × Nat) => (((T.setIfInBounds 43 (.int .i64 ((clP s x).1 : Nat))).setIfInBounds 44 (.int .i64 ((clP s x).2 : Nat))).setIfInBounds 11 (.int .i64 ((clP s x).1 : Nat))).setIfInBounds 12 (.int .i64 ((clP s x).2 : Nat)))
    (fun W => Below V.heap.size V W) ?assign0 ?body0 ?done0 ?stop0 ?rest0
  case assign0 =>
    intro l2 x W K hK
    simp only [List.setIfInBounds_toArray, List.set_cons_succ, List.set_cons_zero] at hK
    simp only [encCl, encP2]
    gi_wp2
    exact hK
  case done0 =>
    rintro xs W rfl ⟨BIW, hbW⟩
    exact hbW
  case stop0 =>
    rintro cc pre W hp (⟨rfl, hbW⟩ | ⟨rfl, hnp⟩)
    · exact ⟨⟨2, rfl, fun _ _ h => h⟩, hbW⟩
    · exact absurd hp hnp
  case body0 =>
    rintro l2 pre y W hl2 ⟨r0, hr0⟩ ⟨BIW, hbW⟩ hlen
    simp only [List.setIfInBounds_toArray, List.set_cons_succ, List.set_cons_zero]
    obtain ⟨⟨a, b⟩, hab⟩ : ∃ z, clP s y = z := ⟨_, rfl⟩
    rw [hab]
    simp only
    rw [piecesF_len, HK.out] at hlen
    obtain ⟨x, hx⟩ : ∃ x, L[pre.length]? = some x := ⟨_, List.getElem?_eq_getElem (by have := HK.out; omega)⟩
    obtain ⟨z, hz⟩ : ∃ z, L[pre.length + 1]? = some z := ⟨_, List.getElem?_eq_getElem (by have := HK.out; omega)⟩
    have hat := piecesF_at _ _ x z hx hz
    have Hne : Hid (¬ (a = x ∧ b = z) → ¬ pre ++ [y] <+: piecesF L) := Lib.hid (fun h hp => by
      have h2 := prefix_nextP hp
      rw [hat] at h2
      injection h2 with h2
      have hm := HF1.out (x, z) (List.mem_of_getElem? hat)
      rw [h2, hab] at hm
      rw [← h2] at hm
      injection hm with e1 e2
      exact h ⟨e1, e2⟩)
    have PW := hP9.below hbW
    have hPW := PW
    obtain ⟨bk, off, rfl, cx⟩ := PW.rd.atP' hx
    obtain ⟨bk', off', e2, cz⟩ := PW.rd.atP' hz
    injection e2 with e2
    injection e2 with e2 e3
    subst e2 e3
    have ci := BIW.cell 0
    have fi := BIW.frozen 0
    have hziW := BIW.lt
    have hz3W : w.heap.size < W.heap.size := by omega
    have hz4W : w.heap.size + 1 < W.heap.size := by omega
    have ct := cell_keep c90 hbW
    have c3 := PW.b3.cell 0
    have c4 := PW.b4.cell 0
    have f4 := PW.b4.frozen 0
    have c5 := PW.b5.cell 0
    have c6 := PW.b6.cell 0
    have c8 := PW.b8.cell 0
    simp only [List.getElem?_toArray, List.getElem?_cons_zero] at ci c3 c4 c5 c6 c8
    obtain ⟨k, hk⟩ : ∃ k, k = pre.length := ⟨_, rfl⟩
    rw [← hk] at ci hlen cx cz BIW
    have hkL : k + 1 < L.length := by have := HK.out; omega
    have hkL0 : k < L.length := by omega
    have ew : IntKind.i64.wrap ((k : Int) + 1) = (k : Int) + 1 := IntWalk.i64_in _ (by omega)
    have Hk := Lib.hid hk
    have HBI := Lib.hid BIW
    clear hk hx hz hat hab
    by_cases ha : a = x
    · subst ha
      by_cases hb : b = z
      · subst hb
        clear Hne
        have hbk : Below W.heap.size W (W.alloc (.cells #[.int .i64 (K : Nat)] 3)) := (Below.refl _ _).alloc (Nat.le_refl _) _
        have BK : Blk (W.alloc (.cells #[.int .i64 (K : Nat)] 3)) W.heap.size 3 #[.int .i64 (K : Nat)] := Blk.new _ _ _
        have hzk : W.heap.size + 1 ≤ (W.alloc (.cells #[.int .i64 (K : Nat)] 3)).heap.size := by simp
        have c8k := cell_keep c8 hbk
        gi_wp2_with fail
        generalize (W.alloc (.cells #[.int .i64 (K : Nat)] 3)) = wk at hbk BK hzk c8k ⊢
        have hrk := (hbk.block l2 (Array.getElem?_eq_some_iff.1 hr0).1).trans hr0
        have PK := PW.below hbk
        have Hzk := Lib.hid hzk
        refine rngN2 (l₀ := l2) (r₀ := r0) rfl hrk (by decide) (gf := 67) (lb := #[.pointer (some ⟨bb, 0, none⟩)]) rfl trivial (enters_of Tryz.func67 (by kernel_rfl) rfl)
          ((HBS3.out wk bb (fun b => b = W.heap.size) (by rintro b rfl; omega) (hE.below PK.hb) PK.cb).inRound l2) (fun h k => h.trans k) (fun W l o o' _ h hc _ => KT.put W l o o' h hc) (Below.refl _ _) (fun _ => rfl) (fun W => KT.refl _ _ W)
          (fun (pre2 : List (Nat × Nat)) W2 => Blk W2 W.heap.size 3 #[.int .i64 ((K - pre2.length : Nat) : Int)] ∧ Below W.heap.size W W2)
          (fun cc pre2 W2 => (cc = .exit 4 ∧ Below W.heap.size W W2) ∨ (cc = .ret ∧ ¬ pre2 <+: piecesB L))
          (OwnFrom.and (Go.Own.from (fun s A B row hs hg hr => hs.kept hg hr) _) (ownFrom_below (Nat.le_refl _) (by omega)))
          (fun cc pre2 A B row hs hg hr => hs.imp (fun h => ⟨h.1, ownFrom_below (β := Unit) (Nat.le_refl W.heap.size) (by omega) () A B row h.2 hg hr⟩) id)
          ⟨BK, hbk⟩
          (fun T (x : Nat × Nat) => (((T.setIfInBounds 67 (.int .i64 ((clP s x).1 : Nat))).setIfInBounds 68 (.int .i64 ((clP s x).2 : Nat))).setIfInBounds 14 (.int .i64 ((clP s x).1 : Nat))).setIfInBounds 15 (.int .i64 ((clP s x).2 : Nat))) ?assignI0 ?bodyI0 ?doneI0 ?stopI0
        case assignI0 =>
          intro l3 x W K hK
          simp only [List.setIfInBounds_toArray, List.set_cons_succ, List.set_cons_zero] at hK
          simp only [encCl, encP2]
          gi_wp2
          exact hK
        case doneI0 =>
          rintro ys W2 _ ⟨_, hb2⟩
          have hkW2 := others_below hb2
          have kp2 := KT.below (t := 3) (X := fun b => b = V.heap.size) hb2
          have hbW2 : Below V.heap.size V W2 := hbW.trans (hb2.mono hbW.size)
          have BI2 := BIW.below hb2
          have ci2 := BI2.cell 0
          have fi2 := BI2.frozen 0
          have ct2 := cell_keep ct hb2
          have c32 := (PW.b3.below hb2).cell 0
          simp only [List.getElem?_toArray, List.getElem?_cons_zero] at ci2 c32
          clear ci fi ct c3 c4 f4 c5 c6 c8 cx cz
          by_cases hst : ((k : Int) + 1) = stop
          · have hq : (((k : Int) + 1) == stop) = true := by rw [hst]; exact beq_self_eq_true _
            clear hst
            gi_wp2
            have hkk := hkW2.trans (KeepsOthers.setCell W2 ⟨V.heap.size, 0, none⟩ (.int .i64 ((k : Int) + 1)))
            exact ⟨hkk.from _, .inl ⟨rfl, hbW2.setCell (p := ⟨V.heap.size, 0, none⟩) (Nat.le_refl _) _⟩⟩
          · have hq : (((k : Int) + 1) == stop) = false := by rw [beq_eq_false_iff_ne]; exact hst
            clear hst
            gi_wp2
            have hkk := hkW2.trans (KeepsOthers.setCell W2 ⟨V.heap.size, 0, none⟩ (.int .i64 ((k : Int) + 1)))
            refine ⟨hkk.from _, kp2.setX rfl 0 _, ?_, hbW2.setCell (p := ⟨V.heap.size, 0, none⟩) (Nat.le_refl _) _⟩
            exact cast (congrArg (fun z => Blk _ _ _ #[Value.int .i64 z]) (by have := Hk.out; simp only [List.length_append, List.length_singleton]; omega : (k : Int) + 1 = ((pre ++ [y]).length : Nat))) (BI2.set_ 0 (.int .i64 ((k : Int) + 1)))
        case stopI0 =>
          rintro cc pre2 W2 hp (⟨rfl, hb2⟩ | ⟨rfl, hnp⟩)
          · skip
            have hkW2 := others_below hb2
            have kp2 := KT.below (t := 3) (X := fun b => b = V.heap.size) hb2
            have hbW2 : Below V.heap.size V W2 := hbW.trans (hb2.mono hbW.size)
            have BI2 := BIW.below hb2
            have ci2 := BI2.cell 0
            have fi2 := BI2.frozen 0
            have ct2 := cell_keep ct hb2
            have c32 := (PW.b3.below hb2).cell 0
            simp only [List.getElem?_toArray, List.getElem?_cons_zero] at ci2 c32
            clear ci fi ct c3 c4 f4 c5 c6 c8 cx cz
            by_cases hst : ((k : Int) + 1) = stop
            · have hq : (((k : Int) + 1) == stop) = true := by rw [hst]; exact beq_self_eq_true _
              clear hst
              gi_wp2
              have hkk := hkW2.trans (KeepsOthers.setCell W2 ⟨V.heap.size, 0, none⟩ (.int .i64 ((k : Int) + 1)))
              exact ⟨hkk.from _, .inl ⟨rfl, hbW2.setCell (p := ⟨V.heap.size, 0, none⟩) (Nat.le_refl _) _⟩⟩
            · have hq : (((k : Int) + 1) == stop) = false := by rw [beq_eq_false_iff_ne]; exact hst
              clear hst
              gi_wp2
              have hkk := hkW2.trans (KeepsOthers.setCell W2 ⟨V.heap.size, 0, none⟩ (.int .i64 ((k : Int) + 1)))
              refine ⟨hkk.from _, kp2.setX rfl 0 _, ?_, hbW2.setCell (p := ⟨V.heap.size, 0, none⟩) (Nat.le_refl _) _⟩
              exact cast (congrArg (fun z => Blk _ _ _ #[Value.int .i64 z]) (by have := Hk.out; simp only [List.length_append, List.length_singleton]; omega : (k : Int) + 1 = ((pre ++ [y]).length : Nat))) (BI2.set_ 0 (.int .i64 ((k : Int) + 1)))
          · exact absurd hp hnp
        case bodyI0 =>
          rintro l3 pre2 y2 W2 hl3 _ ⟨BK2, hb2⟩ hlen2
          simp only [List.setIfInBounds_toArray, List.set_cons_succ, List.set_cons_zero]
          obtain ⟨⟨a2, b2⟩, hab2⟩ : ∃ z, clP s y2 = z := ⟨_, rfl⟩
          rw [hab2]
          simp only
          rw [piecesB_len, HK.out] at hlen2
          obtain ⟨i, hi⟩ : ∃ i, K - pre2.length = i + 1 := ⟨K - pre2.length - 1, by omega⟩
          obtain ⟨x2, hx2⟩ : ∃ x, L[i]? = some x := ⟨_, List.getElem?_eq_getElem (by have := HK.out; omega)⟩
          obtain ⟨z2, hz2⟩ : ∃ z, L[i + 1]? = some z := ⟨_, List.getElem?_eq_getElem (by have := HK.out; omega)⟩
          have hat2 := piecesB_at _ _ x2 z2 hx2 hz2
          rw [show L.length - 2 - i = pre2.length by have := HK.out; omega] at hat2
          have Hne2 : Hid (¬ (a2 = x2 ∧ b2 = z2) → ¬ pre2 ++ [y2] <+: piecesB L) := Lib.hid (fun h hp => by
            have h2 := prefix_nextP hp
            rw [hat2] at h2
            injection h2 with h2
            have hm := HF2.out (x2, z2) (List.mem_of_getElem? hat2)
            rw [h2, hab2] at hm
            rw [← h2] at hm
            injection hm with e1 e2
            exact h ⟨e1, e2⟩)
          rw [hi] at BK2
          have P2 := PW.below hb2
          obtain ⟨j, hj⟩ : ∃ j, i + 1 = j := ⟨_, rfl⟩
          obtain ⟨bk3, off3, e2, cx2⟩ := P2.rd.atP' hx2
          injection e2 with e2
          injection e2 with e2 e3
          subst e2 e3
          obtain ⟨bk3, off3, e2, cz2⟩ := P2.rd.atP' hz2
          injection e2 with e2
          injection e2 with e2 e3
          subst e2 e3
          rw [hj] at BK2 cz2
          have ck := BK2.cell 0
          have fk := BK2.frozen 0
          have c32 := P2.b3.cell 0
          have c42 := P2.b4.cell 0
          have f42 := P2.b4.frozen 0
          have c52 := P2.b5.cell 0
          simp only [List.getElem?_toArray, List.getElem?_cons_zero] at ck c32 c42 c52
          have e4 : (j : Int) - 1 = (i : Int) := by omega
          have e5 : IntKind.i64.wrap ((j : Int) - 1) = (i : Int) := by rw [e4]; exact IntWalk.i64_in _ (by have := HK.out; omega)
          have e6 : IntKind.i64.wrap (i : Int) = (i : Int) := IntWalk.i64_in _ (by have := HK.out; omega)
          have hi0 : (0 : Int) ≤ (i : Int) := by omega
          have hiL : (i : Int) < (L.length : Int) := by have := HK.out; omega
          have hiN : i < L.length := by omega
          have hjN : j < L.length := by have := HK.out; omega
          have hj1 : ¬ ((j : Int) < 1) := by omega
          have Hi := Lib.hid hi
          have Hj := Lib.hid hj
          clear hi hj hx2 hz2 hat2 hab2 ci fi ct c3 c4 f4 c5 c6 c8 cx cz c8k
          by_cases ha : a2 = x2
          · subst ha
            by_cases hb : b2 = z2
            · subst hb
              clear Hne2
              by_cases hst : (i : Int) = stop
              · have hq : ((i : Int) == stop) = true := by rw [hst]; exact beq_self_eq_true _
                clear hst
                gi_wp2
                have hkk := KeepsOthers.setCell W2 ⟨W.heap.size, 0, none⟩ (.int .i64 (i : Nat))
                exact ⟨hkk.from _, .inl ⟨rfl, hb2.setCell (p := ⟨W.heap.size, 0, none⟩) (Nat.le_refl _) _⟩⟩
              · have hq : ((i : Int) == stop) = false := by rw [beq_eq_false_iff_ne]; exact hst
                clear hst
                gi_wp2
                have hkk := KeepsOthers.setCell W2 ⟨W.heap.size, 0, none⟩ (.int .i64 (i : Nat))
                refine ⟨hkk.from _, (KT.refl _ (fun b => b = W.heap.size) _).setX rfl 0 _, ?_, hb2.setCell (p := ⟨W.heap.size, 0, none⟩) (Nat.le_refl _) _⟩
                exact cast (congrArg (fun z => Blk _ _ _ #[Value.int .i64 z]) (by have := Hi.out; simp only [List.length_append, List.length_singleton]; omega : (i : Int) = ((K - (pre2 ++ [y2]).length : Nat) : Int))) (BK2.set_ 0 (.int .i64 (i : Nat)))
            · have hne : ((b2 : Int) != (z2 : Int)) = true := by rw [bne_iff_ne]; omega
              have hnp := Lib.hid (Hne2.out (fun h => hb h.2))
              clear hb Hne2
              gi_wp2
              exact ⟨(KeepsOthers.setCell _ _ _).from _, .inr ⟨rfl, hnp.out⟩⟩
          · have hne : ((a2 : Int) != (x2 : Int)) = true := by rw [bne_iff_ne]; omega
            have hnp := Lib.hid (Hne2.out (fun h => ha h.1))
            clear ha Hne2
            gi_wp2
            exact ⟨(KeepsOthers.setCell _ _ _).from _, .inr ⟨rfl, hnp.out⟩⟩
      · have hne : ((b : Int) != (z : Int)) = true := by rw [bne_iff_ne]; omega
        have hnp := Lib.hid (Hne.out (fun h => hb h.2))
        clear hb Hne
        gi_wp2
        exact ⟨(KeepsOthers.setCell _ _ _).from _, .inr ⟨rfl, hnp.out⟩⟩
    · have hne : ((a : Int) != (x : Int)) = true := by rw [bne_iff_ne]; omega
      have hnp := Lib.hid (Hne.out (fun h => ha h.1))
      clear ha Hne
      gi_wp2
      exact ⟨(KeepsOthers.setCell _ _ _).from _, .inr ⟨rfl, hnp.out⟩⟩
  case rest0 =>
    rintro D0 W0 hD0 hbW0 hK0
    have ct0 := cell_keep c90 hbW0
    have hP0 := hP9.below hbW0
    clear c90 hP9 BT BI0 hPb0 hEb0 hzT0
    go_wp2_with fail
    rw [rounds_succ]
    have hbA0 : Below W0.heap.size W0 (W0.alloc (.cells #[.int .i64 1] 3)) := (Below.refl _ _).alloc (Nat.le_refl _) _
    have hPb := hP0.below hbA0
    have BTb := Blk.new W0 3 #[.int .i64 1]
    have hK0b := (hbA0.block D0 (Array.getElem?_eq_some_iff.1 hK0).1).trans hK0
    have hD0b : D0 < (W0.alloc (.cells #[.int .i64 1] 3)).heap.size := (Array.getElem?_eq_some_iff.1 hK0b).1
    have hD0w : w.heap.size + 1 < D0 := by omega
    clear hP0 ct0 hbA0 hK0 hbW0
    generalize W0.alloc (.cells #[.int .i64 1] 3) = Vb at hPb BTb hK0b hD0b ⊢
    generalize W0.heap.size = gtb at BTb ⊢
    have c91 := BTb.cell 0
    simp only [List.getElem?_toArray, List.getElem?_cons_zero] at c91
    go_wp2_with fail
    have BI1 := Blk.new Vb 3 #[.int .i64 0]
    have hbV1 : Below Vb.heap.size Vb (Vb.alloc (.cells #[.int .i64 0] 3)) := (Below.refl _ _).alloc (Nat.le_refl _) _
    have hVz1 : Vb.heap.size + 1 ≤ (Vb.alloc (.cells #[.int .i64 0] 3)).heap.size := by simp
    generalize Vb.alloc (.cells #[.int .i64 0] 3) = Vb1 at BI1 hbV1 hVz1 ⊢
    have hPb1 := hPb.below hbV1
    have hzT1 := BTb.lt
    have hz31 := hPb.b3.lt
    have hz41 := hPb.b4.lt
    have hzV1 := hbV1.size
    have hEb1 := hE.below hPb1.hb
    refine (wpIn_wide (n := 6)).1 ?_
    refine rngJ rfl (by decide) (gf := 66) (lb := #[.pointer (some ⟨be, 0, none⟩)]) rfl trivial (enters_of Tryz.func66 (by kernel_rfl) rfl)
      (HES.out Vb1 be (fun b => b = Vb.heap.size) (by rintro b rfl; omega) hEb1 hPb1.ce) (fun h k => h.trans k) (fun W l o o' _ h hc _ => KT.put W l o o' h hc) (Below.refl _ _) (fun _ => rfl) (fun W => KT.refl _ _ W)
      (fun (pre : List (Nat × Nat)) W => Blk W Vb.heap.size 3 #[.int .i64 (pre.length : Nat)] ∧ Below Vb.heap.size Vb W)
      (fun cc pre W => cc = .ret ∧ ¬ pre <+: piecesF L)
      (OwnFrom.and (Go.Own.from (fun s A B row hs hg hr => hs.kept hg hr) _) (ownFrom_below (Nat.le_refl _) (by omega)))
      (fun _ _ _ _ _ hs _ _ => hs)
      ⟨BI1, hbV1⟩
      (fun T (x : Nat × Nat) => (((T.setIfInBounds 43 (.int .i64 ((clP s x).1 : Nat))).setIfInBounds 44 (.int .i64 ((clP s x).2 : Nat))).setIfInBounds 11 (.int .i64 ((clP s x).1 : Nat))).setIfInBounds 12 (.int .i64 ((clP s x).2 : Nat)))
      (fun W => Blk W Vb.heap.size 3 #[.int .i64 (K : Nat)] ∧ Below Vb.heap.size Vb W) ?assign1 ?body1 ?done1 ?stop1 ?rest1
    case assign1 =>
      intro l2 x W K hK
      simp only [List.setIfInBounds_toArray, List.set_cons_succ, List.set_cons_zero] at hK
      simp only [encCl, encP2]
      gi_wp2
      exact hK
    case done1 =>
      rintro xs W rfl ⟨BIW, hbW⟩
      rw [piecesF_len, HK.out] at BIW; exact ⟨BIW, hbW⟩
    case stop1 =>
      rintro cc pre W hp ⟨rfl, hnp⟩
      exact absurd hp hnp
    case body1 =>
      rintro l2 pre y W hl2 ⟨r0, hr0⟩ ⟨BIW, hbW⟩ hlen
      simp only [List.setIfInBounds_toArray, List.set_cons_succ, List.set_cons_zero]
      obtain ⟨⟨a, b⟩, hab⟩ : ∃ z, clP s y = z := ⟨_, rfl⟩
      rw [hab]
      simp only
      rw [piecesF_len, HK.out] at hlen
      obtain ⟨x, hx⟩ : ∃ x, L[pre.length]? = some x := ⟨_, List.getElem?_eq_getElem (by have := HK.out; omega)⟩
      obtain ⟨z, hz⟩ : ∃ z, L[pre.length + 1]? = some z := ⟨_, List.getElem?_eq_getElem (by have := HK.out; omega)⟩
      have hat := piecesF_at _ _ x z hx hz
      have Hne : Hid (¬ (a = x ∧ b = z) → ¬ pre ++ [y] <+: piecesF L) := Lib.hid (fun h hp => by
        have h2 := prefix_nextP hp
        rw [hat] at h2
        injection h2 with h2
        have hm := HF1.out (x, z) (List.mem_of_getElem? hat)
        rw [h2, hab] at hm
        rw [← h2] at hm
        injection hm with e1 e2
        exact h ⟨e1, e2⟩)
      have PW := hPb.below hbW
      have hPW := PW
      obtain ⟨bk, off, rfl, cx⟩ := PW.rd.atP' hx
      obtain ⟨bk', off', e2, cz⟩ := PW.rd.atP' hz
      injection e2 with e2
      injection e2 with e2 e3
      subst e2 e3
      have ci := BIW.cell 0
      have fi := BIW.frozen 0
      have hziW := BIW.lt
      have hz3W : w.heap.size < W.heap.size := by omega
      have hz4W : w.heap.size + 1 < W.heap.size := by omega
      have ct := cell_keep c91 hbW
      have c3 := PW.b3.cell 0
      have c4 := PW.b4.cell 0
      have f4 := PW.b4.frozen 0
      have c5 := PW.b5.cell 0
      have c6 := PW.b6.cell 0
      have c8 := PW.b8.cell 0
      simp only [List.getElem?_toArray, List.getElem?_cons_zero] at ci c3 c4 c5 c6 c8
      obtain ⟨k, hk⟩ : ∃ k, k = pre.length := ⟨_, rfl⟩
      rw [← hk] at ci hlen cx cz BIW
      have hkL : k + 1 < L.length := by have := HK.out; omega
      have hkL0 : k < L.length := by omega
      have ew : IntKind.i64.wrap ((k : Int) + 1) = (k : Int) + 1 := IntWalk.i64_in _ (by omega)
      have Hk := Lib.hid hk
      have HBI := Lib.hid BIW
      clear hk hx hz hat hab
      by_cases ha : a = x
      · subst ha
        by_cases hb : b = z
        · subst hb
          clear Hne
          have hbk : Below W.heap.size W (W.alloc (.cells #[.int .i64 (K : Nat)] 3)) := (Below.refl _ _).alloc (Nat.le_refl _) _
          have BK : Blk (W.alloc (.cells #[.int .i64 (K : Nat)] 3)) W.heap.size 3 #[.int .i64 (K : Nat)] := Blk.new _ _ _
          have hzk : W.heap.size + 1 ≤ (W.alloc (.cells #[.int .i64 (K : Nat)] 3)).heap.size := by simp
          have c8k := cell_keep c8 hbk
          gi_wp2_with fail
          generalize (W.alloc (.cells #[.int .i64 (K : Nat)] 3)) = wk at hbk BK hzk c8k ⊢
          have hrk := (hbk.block l2 (Array.getElem?_eq_some_iff.1 hr0).1).trans hr0
          have PK := PW.below hbk
          have Hzk := Lib.hid hzk
          refine rngN2 (l₀ := l2) (r₀ := r0) rfl hrk (by decide) (gf := 67) (lb := #[.pointer (some ⟨bb, 0, none⟩)]) rfl trivial (enters_of Tryz.func67 (by kernel_rfl) rfl)
            ((HBS3.out wk bb (fun b => b = W.heap.size) (by rintro b rfl; omega) (hE.below PK.hb) PK.cb).inRound l2) (fun h k => h.trans k) (fun W l o o' _ h hc _ => KT.put W l o o' h hc) (Below.refl _ _) (fun _ => rfl) (fun W => KT.refl _ _ W)
            (fun (pre2 : List (Nat × Nat)) W2 => Blk W2 W.heap.size 3 #[.int .i64 ((K - pre2.length : Nat) : Int)] ∧ Below W.heap.size W W2)
            (fun cc pre2 W2 => (cc = .exit 4 ∧ Below W.heap.size W W2) ∨ (cc = .ret ∧ ¬ pre2 <+: piecesB L))
            (OwnFrom.and (Go.Own.from (fun s A B row hs hg hr => hs.kept hg hr) _) (ownFrom_below (Nat.le_refl _) (by omega)))
            (fun cc pre2 A B row hs hg hr => hs.imp (fun h => ⟨h.1, ownFrom_below (β := Unit) (Nat.le_refl W.heap.size) (by omega) () A B row h.2 hg hr⟩) id)
            ⟨BK, hbk⟩
            (fun T (x : Nat × Nat) => (((T.setIfInBounds 67 (.int .i64 ((clP s x).1 : Nat))).setIfInBounds 68 (.int .i64 ((clP s x).2 : Nat))).setIfInBounds 14 (.int .i64 ((clP s x).1 : Nat))).setIfInBounds 15 (.int .i64 ((clP s x).2 : Nat))) ?assignI1 ?bodyI1 ?doneI1 ?stopI1
          case assignI1 =>
            intro l3 x W K hK
            simp only [List.setIfInBounds_toArray, List.set_cons_succ, List.set_cons_zero] at hK
            simp only [encCl, encP2]
            gi_wp2
            exact hK
          case doneI1 =>
            rintro ys W2 _ ⟨_, hb2⟩
            have hkW2 := others_below hb2
            have kp2 := KT.below (t := 3) (X := fun b => b = Vb.heap.size) hb2
            have hbW2 : Below Vb.heap.size Vb W2 := hbW.trans (hb2.mono hbW.size)
            have BI2 := BIW.below hb2
            have ci2 := BI2.cell 0
            have fi2 := BI2.frozen 0
            have ct2 := cell_keep ct hb2
            have c32 := (PW.b3.below hb2).cell 0
            simp only [List.getElem?_toArray, List.getElem?_cons_zero] at ci2 c32
            clear ci fi ct c3 c4 f4 c5 c6 c8 cx cz
            gi_wp2
            have hkk := hkW2.trans (KeepsOthers.setCell W2 ⟨Vb.heap.size, 0, none⟩ (.int .i64 ((k : Int) + 1)))
            refine ⟨hkk.from _, kp2.setX rfl 0 _, ?_, hbW2.setCell (p := ⟨Vb.heap.size, 0, none⟩) (Nat.le_refl _) _⟩
            exact cast (congrArg (fun z => Blk _ _ _ #[Value.int .i64 z]) (by have := Hk.out; simp only [List.length_append, List.length_singleton]; omega : (k : Int) + 1 = ((pre ++ [y]).length : Nat))) (BI2.set_ 0 (.int .i64 ((k : Int) + 1)))
          case stopI1 =>
            rintro cc pre2 W2 hp (⟨rfl, hb2⟩ | ⟨rfl, hnp⟩)
            · skip
              have hkW2 := others_below hb2
              have kp2 := KT.below (t := 3) (X := fun b => b = Vb.heap.size) hb2
              have hbW2 : Below Vb.heap.size Vb W2 := hbW.trans (hb2.mono hbW.size)
              have BI2 := BIW.below hb2
              have ci2 := BI2.cell 0
              have fi2 := BI2.frozen 0
              have ct2 := cell_keep ct hb2
              have c32 := (PW.b3.below hb2).cell 0
              simp only [List.getElem?_toArray, List.getElem?_cons_zero] at ci2 c32
              clear ci fi ct c3 c4 f4 c5 c6 c8 cx cz
              gi_wp2
              have hkk := hkW2.trans (KeepsOthers.setCell W2 ⟨Vb.heap.size, 0, none⟩ (.int .i64 ((k : Int) + 1)))
              refine ⟨hkk.from _, kp2.setX rfl 0 _, ?_, hbW2.setCell (p := ⟨Vb.heap.size, 0, none⟩) (Nat.le_refl _) _⟩
              exact cast (congrArg (fun z => Blk _ _ _ #[Value.int .i64 z]) (by have := Hk.out; simp only [List.length_append, List.length_singleton]; omega : (k : Int) + 1 = ((pre ++ [y]).length : Nat))) (BI2.set_ 0 (.int .i64 ((k : Int) + 1)))
            · exact absurd hp hnp
          case bodyI1 =>
            rintro l3 pre2 y2 W2 hl3 _ ⟨BK2, hb2⟩ hlen2
            simp only [List.setIfInBounds_toArray, List.set_cons_succ, List.set_cons_zero]
            obtain ⟨⟨a2, b2⟩, hab2⟩ : ∃ z, clP s y2 = z := ⟨_, rfl⟩
            rw [hab2]
            simp only
            rw [piecesB_len, HK.out] at hlen2
            obtain ⟨i, hi⟩ : ∃ i, K - pre2.length = i + 1 := ⟨K - pre2.length - 1, by omega⟩
            obtain ⟨x2, hx2⟩ : ∃ x, L[i]? = some x := ⟨_, List.getElem?_eq_getElem (by have := HK.out; omega)⟩
            obtain ⟨z2, hz2⟩ : ∃ z, L[i + 1]? = some z := ⟨_, List.getElem?_eq_getElem (by have := HK.out; omega)⟩
            have hat2 := piecesB_at _ _ x2 z2 hx2 hz2
            rw [show L.length - 2 - i = pre2.length by have := HK.out; omega] at hat2
            have Hne2 : Hid (¬ (a2 = x2 ∧ b2 = z2) → ¬ pre2 ++ [y2] <+: piecesB L) := Lib.hid (fun h hp => by
              have h2 := prefix_nextP hp
              rw [hat2] at h2
              injection h2 with h2
              have hm := HF2.out (x2, z2) (List.mem_of_getElem? hat2)
              rw [h2, hab2] at hm
              rw [← h2] at hm
              injection hm with e1 e2
              exact h ⟨e1, e2⟩)
            rw [hi] at BK2
            have P2 := PW.below hb2
            obtain ⟨j, hj⟩ : ∃ j, i + 1 = j := ⟨_, rfl⟩
            obtain ⟨bk3, off3, e2, cx2⟩ := P2.rd.atP' hx2
            injection e2 with e2
            injection e2 with e2 e3
            subst e2 e3
            obtain ⟨bk3, off3, e2, cz2⟩ := P2.rd.atP' hz2
            injection e2 with e2
            injection e2 with e2 e3
            subst e2 e3
            rw [hj] at BK2 cz2
            have ck := BK2.cell 0
            have fk := BK2.frozen 0
            have c32 := P2.b3.cell 0
            have c42 := P2.b4.cell 0
            have f42 := P2.b4.frozen 0
            have c52 := P2.b5.cell 0
            simp only [List.getElem?_toArray, List.getElem?_cons_zero] at ck c32 c42 c52
            have e4 : (j : Int) - 1 = (i : Int) := by omega
            have e5 : IntKind.i64.wrap ((j : Int) - 1) = (i : Int) := by rw [e4]; exact IntWalk.i64_in _ (by have := HK.out; omega)
            have e6 : IntKind.i64.wrap (i : Int) = (i : Int) := IntWalk.i64_in _ (by have := HK.out; omega)
            have hi0 : (0 : Int) ≤ (i : Int) := by omega
            have hiL : (i : Int) < (L.length : Int) := by have := HK.out; omega
            have hiN : i < L.length := by omega
            have hjN : j < L.length := by have := HK.out; omega
            have hj1 : ¬ ((j : Int) < 1) := by omega
            have Hi := Lib.hid hi
            have Hj := Lib.hid hj
            clear hi hj hx2 hz2 hat2 hab2 ci fi ct c3 c4 f4 c5 c6 c8 cx cz c8k
            by_cases ha : a2 = x2
            · subst ha
              by_cases hb : b2 = z2
              · subst hb
                clear Hne2
                by_cases hst : (i : Int) = stop
                · have hq : ((i : Int) == stop) = true := by rw [hst]; exact beq_self_eq_true _
                  clear hst
                  gi_wp2
                  have hkk := KeepsOthers.setCell W2 ⟨W.heap.size, 0, none⟩ (.int .i64 (i : Nat))
                  exact ⟨hkk.from _, .inl ⟨rfl, hb2.setCell (p := ⟨W.heap.size, 0, none⟩) (Nat.le_refl _) _⟩⟩
                · have hq : ((i : Int) == stop) = false := by rw [beq_eq_false_iff_ne]; exact hst
                  clear hst
                  gi_wp2
                  have hkk := KeepsOthers.setCell W2 ⟨W.heap.size, 0, none⟩ (.int .i64 (i : Nat))
                  refine ⟨hkk.from _, (KT.refl _ (fun b => b = W.heap.size) _).setX rfl 0 _, ?_, hb2.setCell (p := ⟨W.heap.size, 0, none⟩) (Nat.le_refl _) _⟩
                  exact cast (congrArg (fun z => Blk _ _ _ #[Value.int .i64 z]) (by have := Hi.out; simp only [List.length_append, List.length_singleton]; omega : (i : Int) = ((K - (pre2 ++ [y2]).length : Nat) : Int))) (BK2.set_ 0 (.int .i64 (i : Nat)))
              · have hne : ((b2 : Int) != (z2 : Int)) = true := by rw [bne_iff_ne]; omega
                have hnp := Lib.hid (Hne2.out (fun h => hb h.2))
                clear hb Hne2
                gi_wp2
                exact ⟨(KeepsOthers.setCell _ _ _).from _, .inr ⟨rfl, hnp.out⟩⟩
            · have hne : ((a2 : Int) != (x2 : Int)) = true := by rw [bne_iff_ne]; omega
              have hnp := Lib.hid (Hne2.out (fun h => ha h.1))
              clear ha Hne2
              gi_wp2
              exact ⟨(KeepsOthers.setCell _ _ _).from _, .inr ⟨rfl, hnp.out⟩⟩
        · have hne : ((b : Int) != (z : Int)) = true := by rw [bne_iff_ne]; omega
          have hnp := Lib.hid (Hne.out (fun h => hb h.2))
          clear hb Hne
          gi_wp2
          exact ⟨(KeepsOthers.setCell _ _ _).from _, rfl, hnp.out⟩
      · have hne : ((a : Int) != (x : Int)) = true := by rw [bne_iff_ne]; omega
        have hnp := Lib.hid (Hne.out (fun h => ha h.1))
        clear ha Hne
        gi_wp2
        exact ⟨(KeepsOthers.setCell _ _ _).from _, rfl, hnp.out⟩
    case rest1 =>
      rintro D1 W1 hD1 ⟨BI1W, hbW1⟩ hK1
      have ct1 := cell_keep c91 hbW1
      have hP1 := hPb.below hbW1
      have ci1 := BI1W.cell 0
      have c61 := hP1.b6.cell 0
      simp only [List.getElem?_toArray, List.getElem?_cons_zero] at ci1 c61
      have hK01 := (hbW1.block D0 hD0b).trans hK0b
      clear c91 hPb BTb BI1 hPb1 hEb1 hzT1 BI1W hK0b
      go_wp2_with fail
      rw [rounds_succ]
      have hbA1 : Below W1.heap.size W1 (W1.alloc (.cells #[.int .i64 2] 3)) := (Below.refl _ _).alloc (Nat.le_refl _) _
      have hPc := hP1.below hbA1
      have BTc := Blk.new W1 3 #[.int .i64 2]
      have hK0c := (hbA1.block D0 (Array.getElem?_eq_some_iff.1 hK01).1).trans hK01
      have hK1c := (hbA1.block D1 (Array.getElem?_eq_some_iff.1 hK1).1).trans hK1
      have hD01 : D0 < D1 := by omega
      clear hP1 hbA1 hK01 hK1 ct1 ci1 c61 hbW1
      generalize W1.alloc (.cells #[.int .i64 2] 3) = Vc at hPc BTc hK0c hK1c ⊢
      generalize W1.heap.size = gtc at BTc ⊢
      have c92 := BTc.cell 0
      simp only [List.getElem?_toArray, List.getElem?_cons_zero] at c92
      have hbQ : Below Vc.heap.size Vc (Vc.alloc (.cells #[.int .i64 0] 3)) := (Below.refl _ _).alloc (Nat.le_refl _) _
      have hVzQ : Vc.heap.size + 1 ≤ (Vc.alloc (.cells #[.int .i64 0] 3)).heap.size := by simp
      have BQ := Blk.new Vc 3 #[.int .i64 0]
      have hPq := hPc.below hbQ
      have c8q := hPq.b8.cell 0
      simp only [List.getElem?_toArray, List.getElem?_cons_zero] at c8q
      go_wp2_with fail
      generalize Vc.alloc (.cells #[.int .i64 0] 3) = Vq at hbQ hVzQ BQ hPq c8q ⊢
      have hEq := hE.below hPq.hb
      have hzc := hPc.b4.lt
      have hD1c : D1 < Vc.heap.size := (Array.getElem?_eq_some_iff.1 hK1c).1
      clear c8q c92 BTc
      refine (wpIn_wide (n := 6)).1 ?_
      refine rngH rfl (by decide) (gf := 67) (lb := #[.pointer (some ⟨bb, 0, none⟩)]) rfl trivial (enters_of Tryz.func67 (by kernel_rfl) rfl)
        (HBS5.out Vq bb (fun b => b = Vc.heap.size) (by rintro b rfl; omega) hEq hPq.cb) (fun h k => h.trans k) (fun W l o o' _ h hc _ => KT.put W l o o' h hc) (Below.refl _ _) (fun _ => rfl) (fun W => KT.refl _ _ W)
        (fun (pre : List (Nat × Nat)) W => Blk W Vc.heap.size 3 #[.int .i64 (pre.length : Nat)] ∧ Below Vc.heap.size Vc W)
        (fun _ _ _ => False)
        (OwnFrom.and (Go.Own.from (fun s A B row hs hg hr => hs.kept hg hr) _) (ownFrom_below (Nat.le_refl _) (by omega)))
        (fun _ _ _ _ _ hs _ _ => hs)
        ⟨BQ, hbQ⟩
        (fun T (x : Nat × Nat) => (T.setIfInBounds 111 (.int .i64 ((clP s x).1 : Nat))).setIfInBounds 112 (.int .i64 ((clP s x).2 : Nat))) ?assignQ ?bodyQ ?doneQ ?stopQ
      case assignQ =>
        intro l2 x W K hK
        simp only [encCl, encP2]
        gi_wp2
        refine Eq.mp (congrArg (fun T => K { tmps := T, defers := [] } W) ?_) hK
        simp
      case stopQ =>
        rintro D cc pre W _ _ h _
        exact h.elim
      case bodyQ =>
        rintro l2 pre y W hl2 _ ⟨BW, hbW⟩ hlen
        simp only [List.setIfInBounds_toArray, List.set_cons_succ, List.set_cons_zero]
        rw [piecesB_len, HK.out] at hlen
        obtain ⟨k, hk⟩ : ∃ k, k = pre.length := ⟨_, rfl⟩
        rw [← hk] at BW hlen
        have cq := BW.cell 0
        have fq := BW.frozen 0
        simp only [List.getElem?_toArray, List.getElem?_cons_zero] at cq
        have ew : IntKind.i64.wrap ((k : Int) + 1) = (k : Int) + 1 := IntWalk.i64_in _ (by have := HK.out; omega)
        have hkL : k < L.length := by have := HK.out; omega
        have Hk := Lib.hid hk
        clear hk
        gi_wp2
        have hkk := KeepsOthers.setCell W ⟨Vc.heap.size, 0, none⟩ (.int .i64 ((k : Int) + 1))
        refine ⟨hkk.from _, (KT.refl _ (fun b => b = Vc.heap.size) _).setX rfl 0 _, ?_, hbW.setCell (p := ⟨Vc.heap.size, 0, none⟩) (Nat.le_refl _) _⟩
        exact cast (congrArg (fun z => Blk _ _ _ #[Value.int .i64 z]) (by have := Hk.out; simp only [List.length_append, List.length_singleton]; omega : (k : Int) + 1 = ((pre ++ [y]).length : Nat))) (BW.set_ 0 (.int .i64 ((k : Int) + 1)))
      case doneQ =>
        rintro D2 ys W hD2 rfl ⟨BW, hbW⟩ hK2
        rw [piecesB_len, HK.out] at BW
        have PZ := hPc.below hbW
        have cq := BW.cell 0
        have c6 := PZ.b6.cell 0
        simp only [List.getElem?_toArray, List.getElem?_cons_zero] at cq c6
        have HD := Lib.hid (And.intro ((hbW.block D0 (by omega)).trans hK0c) (And.intro ((hbW.block D1 hD1c).trans hK1c) hK2))
        have Hsz := Lib.hid (And.intro hD2 (And.intro hVzQ (And.intro hD1c (And.intro hD01 (And.intro hD0w hzc)))))
        clear hK0c hK1c hK2 BQ hPq hEq hbQ
        go_wp2_with fail
        refine (HLv.out W (hE.below PZ.hb)).mono ?_
        rintro e wz ⟨rfl, hbz⟩
        have PZ2 := PZ.below hbz
        have c4 := PZ2.b4.cell 0
        have f4 := PZ2.b4.frozen 0
        simp only [List.getElem?_toArray, List.getElem?_cons_zero] at c4
        clear cq c6
        go_wp2_with fail
        obtain ⟨s1, s2, s3, s4, s5, s6⟩ := Hsz.out
        have kk : ∀ D, (W.heap[D]? = some (.deferred (some []))) → w.heap.size + 1 < D → (wz.setCell ⟨w.heap.size + 1, 0, none⟩ (.bool true)).heap[D]? = some (.deferred (some [])) := fun D h hD =>
          (Below.heap_setCell wz ⟨w.heap.size + 1, 0, none⟩ (.bool true) D (by simp only; omega)).trans ((hbz.block D (Array.getElem?_eq_some_iff.1 h).1).trans h)
        have k0 := kk D0 HD.out.1 (by omega)
        have k1 := kk D1 HD.out.2.1 (by omega)
        have k2 := kk D2 HD.out.2.2 (by omega)
        have B4v := PZ2.b4.set_ 0 (.bool true)
        have c7 := B4v.cell 0
        simp only [List.getElem?_toArray, List.getElem?_cons_zero, List.setIfInBounds_toArray, List.set_cons_zero] at c7
        have HBv := PZ2.hb.setCell (p := ⟨w.heap.size + 1, 0, none⟩) (by simp only; omega) (.bool true)
        generalize wz.setCell ⟨w.heap.size + 1, 0, none⟩ (.bool true) = Wv at k0 k1 k2 c7 HBv ⊢
        refine ⟨by simp, .inl ⟨_, _, rfl, run_takeDeferred k2, ?_⟩⟩
        have k1' := (World.putObj_heap_other (w := Wv) (o := .deferred none) (show D1 ≠ D2 by omega)).trans k1
        refine ⟨by simp, .inl ⟨_, _, rfl, run_takeDeferred k1', ?_⟩⟩
        have k0' := (World.putObj_heap_other (w := Wv.putObj D2 (.deferred none)) (o := .deferred none) (show D0 ≠ D1 by omega)).trans ((World.putObj_heap_other (w := Wv) (o := .deferred none) (show D0 ≠ D2 by omega)).trans k0)
        refine ⟨by simp, .inl ⟨_, _, rfl, run_takeDeferred k0', ?_⟩⟩
        refine ⟨_, res_piecesG _ (w.heap.size + 1) _ rfl ((World.cell?_of_block (World.putObj_heap_other (by simp only; omega))).trans ((World.cell?_of_block (World.putObj_heap_other (by simp only; omega))).trans ((World.cell?_of_block (World.putObj_heap_other (by simp only; omega))).trans c7))), rfl, ?_⟩
        exact ((HBv.trans (belowK_b (w := w) (Nat.le_refl _) _ D2 _ _ (by omega) k2 rfl rfl)).trans (belowK_b (w := w) (Nat.le_refl _) _ D1 _ _ (by omega) k1' rfl rfl)).trans (belowK_b (w := w) (Nat.le_refl _) _ D0 _ _ (by omega) k0' rfl rfl)
end Go.Proofs.YtdnkignhenkamaaGreatDoor

