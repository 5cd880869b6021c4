/-
  Several texts in one, in their build order: Gd, Gh, PtI, PtJ, PtK, PrA, PrB, PrC, PrD, PrE, PrG, PrJ, PtL, PtM, PtN, PtO, TrE, PtP, Vh.
-/
import Derived.Deep.CutRange
import Derived.OwnWalk
import Derived.Deep.DeepCutAuto
import Derived.Test.YtdngkienloligaaGreatDoorYSentenceWholeGb
import Derived.Test.YtdngkienloligaaGreatDoorYSentenceWhole0a
import Derived.Test.YtdngkienloligaaGreatDoorZ0a
import Derived.Test.YtdngkienloligaaGreatDoorYSentenceWholePtH
import Derived.Test.YtdngkienloligaaGreatDoorYSentenceWholeVg
/- -/
namespace Go.Proofs.YtdngkienloligaaGreatDoor
open Go.RowKit
theorem search_own {w : World} {base : Nat} {A : Option Addr} {n c : Nat} {L : List Nat} (x : Int) (ho : Own w base 3 1 A n c (L.map encN)) (hr : L.Pairwise (· < ·)) (hz : n ≤ 4000000) :
    Calls Tryz.prog 81 #[.slice A n c, .int .i64 x] w fun e w' => (∃ k : Int, e = .returned (.tuple #[.int .i64 k, .bool ((L.map fun (a : Nat) => (a : Int)).contains x)])) ∧ Below w.heap.size w w' := by
  have hn : L.length = n := by have := ho.len; simpa using this
  have rd := ho.rd (by decide)
  cases L with
  | nil =>
    obtain rfl : 0 = n := hn
    refine (Tryz.slices_BinarySearch_int_empty A c x w).mono ?_
    rintro e w' ⟨rfl, rfl⟩
    exact ⟨⟨0, rfl⟩, Below.refl _ _⟩
  | cons a r =>
    obtain ⟨b, off, rfl, hc⟩ := rd (by simp)
    refine (Tryz.slices_BinarySearch_int b off n c ((a :: r).map fun (a : Nat) => (a : Int)) x w (by simp at hn ⊢; omega) (by omega) (fun j hj => ?_) ?_).mono ?_
    · rw [List.length_map] at hj
      have hx := List.getElem?_eq_getElem hj
      have := hc j 0 (encN (a :: r)[j]) (.int .i64 ((a :: r)[j] : Nat)) (by rw [List.getElem?_map, hx]; rfl) rfl
      rw [List.getD_eq_getElem?_getD, List.getElem?_map, hx]
      simpa using this
    · refine List.Pairwise.sublist (List.take_sublist _ _) ?_
      rw [List.pairwise_map]
      exact hr.imp fun h => by omega
    · rintro e w' ⟨rfl, q, rfl⟩
      rw [List.take_of_length_le (by rw [List.length_map]; omega)]
      exact ⟨⟨_, rfl⟩, below_refl_drewN w q⟩
end Go.Proofs.YtdngkienloligaaGreatDoor

/- -/
namespace Go.Proofs.YtdngkienloligaaGreatDoor
open Go.RowKit
def edgeT (s : ByteArray) (z b : Nat) : Bool := !(decide (b ≤ z) && decide (b < (Utf8.decode s (z - b)).2))
def edgeK (s : ByteArray) (z : Nat) : Nat → Nat → Bool
  | _, 0 => true
  | b, k + 1 => edgeT s z b && edgeK s z (b + 1) k
theorem edgeB_K (s : ByteArray) (z : Nat) : edgeB s z = edgeK s z 1 3 := by simp [edgeB, edgeK, edgeT]
theorem edgeK_far {s : ByteArray} {z : Nat} : ∀ (k b : Nat), z < b → edgeK s z b k = true
  | 0, _, _ => rfl
  | k + 1, b, h => by
    unfold edgeK
    rw [edgeK_far k (b + 1) (by omega)]
    unfold edgeT
    simp [show ¬ b ≤ z by omega]
set_option maxRecDepth 100000 in
set_option maxHeartbeats 2000000 in
theorem uIs_any (s : ByteArray) (z : Nat) (w : World) (hT : Tabs w) (hz : z ≤ s.size) (hs : s.size ≤ 1000000) :
    Calls Tryz.prog 27 #[.string s, .int .i64 (z : Nat)] w fun e w' => e = .returned (.bool (edgeB s z)) ∧ Below w.heap.size w w' := by
  have h1 : ((z : Int) < 0) = False := eq_false (by omega)
  have h2 : ((z : Int) > (s.size : Int)) = False := eq_false (by omega)
  go_enter Tryz.func27, Tryz.ntmps27
  go_wp2_with fail
  clear h1 h2
  go_loopw [5] (fun v wr => ∃ b k : Nat, v = .int .i64 b ∧ b + k = 4 ∧ 1 ≤ b ∧ Hid (edgeB s z = edgeK s z b k) ∧ Below w.heap.size w wr) (fun v _ => 4 - (intOf v).toNat)
  case atStart => exact ⟨1, 3, rfl, rfl, by omega, Lib.hid (edgeB_K s z), Below.refl _ _⟩
  case round =>
    obtain ⟨b, k, rfl, hbk, hb1, HK, hbw⟩ := hrel
    cases k with
    | zero =>
      obtain rfl : b = 4 := by omega
      have HV : Hid (edgeB s z = true) := Lib.hid HK.out
      go_wp2
      go_ret
      exact ⟨by rw [HV.out]; rfl, hbw⟩
    | succ k =>
      have hb4 : b < 4 := by omega
      by_cases hbz : b ≤ z
      · obtain ⟨y, hyb⟩ : ∃ y, y + b = z := ⟨z - b, by omega⟩
        have e1 : (z : Int) - (b : Int) = (y : Int) := by omega
        have Hyb : Hid (z - b = y) := Lib.hid (by omega)
        have hy0 : (0 : Int) ≤ (y : Int) := by omega
        have hys : (y : Int) ≤ (s.size : Int) := by omega
        have HD := Lib.hid (lDecode_any s y _ (hT.below hbw) (by omega))
        obtain ⟨⟨R, W⟩, hD⟩ : ∃ d, Utf8.decode s y = d := ⟨_, rfl⟩
        have hrA : runeAt s y = (R, W) := by unfold runeAt; rw [if_pos (by omega)]; exact hD
        have hbd := dec_bd s y (by omega)
        rw [hD] at hbd
        simp only at hbd
        rw [hrA] at HD
        have HK2 := HK.out
        unfold edgeK edgeT at HK2
        rw [Hyb.out, hD] at HK2
        simp only at HK2
        have HK3 := Lib.hid HK2
        clear HK HK2 hD hrA hyb
        go_wp2_with fail
        refine HD.out.mono ?_
        rintro e w2 ⟨rfl, hb2⟩
        by_cases hw : b < W
        · have HV : Hid (edgeB s z = false) := Lib.hid (by rw [HK3.out]; simp [hw, hbz])
          obtain ⟨q, hq⟩ : ∃ q, ((R : Int) == 65533) = q := ⟨_, rfl⟩
          have hw1 : ((W : Int) == 1) = false := by simp; omega
          cases q with
          | true =>
            go_wp2
            go_ret
            exact ⟨by rw [HV.out]; rfl, below_two hbw hb2⟩
          | false =>
            go_wp2
            go_ret
            exact ⟨by rw [HV.out]; rfl, below_two hbw hb2⟩
        · have HV : Hid (edgeB s z = edgeK s z (b + 1) k) := Lib.hid (by rw [HK3.out]; simp [hw, hbz])
          go_wp2
          go_roundw
          case rel => exact ⟨b + 1, k, by go_num, by omega, by omega, HV, below_two hbw hb2⟩
          case measure => simp [intOf]; omega
      · have HV : Hid (edgeB s z = true) := Lib.hid (by rw [HK.out]; exact edgeK_far _ _ (by omega))
        go_wp2
        go_ret
        exact ⟨by rw [HV.out]; rfl, hbw⟩
def onGo (s : ByteArray) : Nat → Nat → Nat
  | 0, _ => s.size
  | f + 1, z => if z < s.size then (if edgeB s (z + 1) then z + 1 else onGo s f (z + 1)) else s.size
def onP (s : ByteArray) (z : Nat) : Nat := onGo s (s.size - z) z
theorem onP_end {s : ByteArray} {z : Nat} (h : ¬ z < s.size) : onP s z = s.size := by
  unfold onP
  rw [show s.size - z = 0 by omega]; rfl
theorem onP_step {s : ByteArray} {z : Nat} (h : z < s.size) : onP s z = if edgeB s (z + 1) then z + 1 else onP s (z + 1) := by
  unfold onP
  obtain ⟨f, hf⟩ : ∃ f, s.size - z = f + 1 := ⟨s.size - z - 1, by omega⟩
  rw [hf, show s.size - (z + 1) = f by omega, onGo, if_pos h]
theorem onP_next {s : ByteArray} {x : Nat × Nat × Nat} (hx : x ∈ runesP s) : onP s x.2.1 = x.2.2 := by
  have hcon := runesP_contig s
  have hin : x.2.1 < x.2.2 ∧ x.2.2 ≤ s.size ∧ PlaceAt s x.2.2 := place_next hx
  obtain ⟨h1, h2, h3⟩ := hin
  have key : ∀ (d y : Nat), y + d + 1 = x.2.2 → x.2.1 ≤ y → onP s y = x.2.2 := by
    intro d
    induction d with
    | zero =>
      intro y hy _
      rw [onP_step (by omega), show y + 1 = x.2.2 by omega, (edge_iff s h2).2 h3]; rfl
    | succ d ih =>
      intro y hy hle
      rw [onP_step (by omega)]
      have hne : edgeB s (y + 1) = false := by
        cases hq : edgeB s (y + 1) with
        | false => rfl
        | true =>
          rcases (edge_iff s (by omega)).1 hq with h | ⟨u, hu, hu2⟩
          · omega
          · exact absurd ⟨by omega, by omega⟩ (place_gap s _ 0 s.size hcon x hx u hu)
      rw [hne]
      exact ih (y + 1) (by omega) (by omega)
  exact key (x.2.2 - x.2.1 - 1) x.2.1 (by omega) (Nat.le_refl _)
set_option maxRecDepth 100000 in
set_option maxHeartbeats 2000000 in
theorem uOn_any (s : ByteArray) (z : Nat) (w : World) (hT : Tabs w) (hz : z ≤ s.size) (hs : s.size ≤ 1000000) :
    Calls Tryz.prog 19 #[.string s, .int .i64 (z : Nat)] w fun e w' => e = .returned (.int .i64 (onP s z : Nat)) ∧ Below w.heap.size w w' := by
  have h1 : ((z : Int) < 0) = False := eq_false (by omega)
  go_enter Tryz.func19, Tryz.ntmps19
  go_wp2_with fail
  clear h1
  go_loopw [1] (fun v wr => ∃ y : Nat, v = .int .i64 y ∧ y ≤ s.size ∧ Hid (onP s z = onP s y) ∧ Below w.heap.size w wr) (fun v _ => s.size - (intOf v).toNat)
  case atStart => exact ⟨z, rfl, hz, Lib.hid rfl, Below.refl _ _⟩
  case round =>
    obtain ⟨y, rfl, hy, HN, hbw⟩ := hrel
    by_cases hlt : y < s.size
    · have HI : Hid (Calls Tryz.prog 27 #[.string s, .int .i64 ((y : Int) + 1)] wr fun e w' => e = .returned (.bool (edgeB s (y + 1))) ∧ Below wr.heap.size wr w') := Lib.hid (uIs_any s (y + 1) _ (hT.below hbw) (by omega) hs)
      have HN2 := HN.out
      rw [onP_step hlt] at HN2
      obtain ⟨q, Hq⟩ : ∃ q, Hid (edgeB s (y + 1) = q) := ⟨_, Lib.hid rfl⟩
      rw [Hq.out] at HI HN2
      have HN3 := Lib.hid HN2
      clear HN HN2
      go_wp2_with fail
      refine HI.out.mono ?_
      rintro e w2 ⟨rfl, hb2⟩
      cases q with
      | true =>
        have HV : Hid (onP s z = y + 1) := Lib.hid HN3.out
        go_wp2
        go_ret
        exact ⟨by rw [HV.out]; first | rfl | (push_cast; rfl), below_two hbw hb2⟩
      | false =>
        have HV : Hid (onP s z = onP s (y + 1)) := Lib.hid HN3.out
        go_wp2
        go_roundw
        case rel => exact ⟨y + 1, by first | rfl | go_num, by omega, HV, below_two hbw hb2⟩
        case measure => simp [intOf]; omega
    · have HV : Hid (onP s z = s.size) := Lib.hid (by rw [HN.out, onP_end hlt])
      go_wp2
      go_ret
      exact ⟨by rw [HV.out]; rfl, hbw⟩
set_option maxRecDepth 100000 in
set_option maxHeartbeats 2000000 in
theorem zPlaces_same (A B : Option Addr) (n c e : Nat) (l : List Nat) (w : World) (hA : Rd w 1 A (l.map encN)) (hB : Rd w 1 B (l.map encN)) (hl : l.length = n) (hn : n ≤ 4000000) :
    Calls Tryz.prog 75 #[.slice A n c, .slice B n e] w fun e w' => e = .returned (.bool true) ∧ Below w.heap.size w w' := by
  have Hl := Lib.hid hl
  clear hl
  go_enter Tryz.func75, Tryz.ntmps75
  go_wp2
  go_loopw [5] (fun v wr => ∃ i k : Nat, v = .int .i64 i ∧ i ≤ n ∧ wr = w.drewN k) (fun v _ => n - (intOf v).toNat)
  case atStart => exact ⟨0, 0, rfl, by omega, rfl⟩
  case round =>
    obtain ⟨i, k, rfl, hi, rfl⟩ := hrel
    by_cases hlt : i < n
    · obtain ⟨x, Hx⟩ : ∃ x, Hid (l[i]? = some x) := ⟨_, Lib.hid (List.getElem?_eq_getElem (by have := Hl.out; omega))⟩
      obtain ⟨b, off, rfl, h1⟩ := hA.atP' Hx.out
      obtain ⟨b', off', rfl, k1⟩ := hB.atP' Hx.out
      go_wp2_with fail
      go_region
      go_wp2
      go_roundw
      case rel => exact ⟨i + 1, _, by go_num, by omega, by first | rfl | exact World.drewN_drewN _ _ _⟩
      case measure => simp [intOf]; omega
    · go_wp2
      go_ret
      exact ⟨rfl, below_refl_drewN w k⟩
end Go.Proofs.YtdngkienloligaaGreatDoor

/- -/
namespace Go.Proofs.YtdngkienloligaaGreatDoor
open Go.RowKit
theorem MtEnd.more {w w1 : World} {n : Nat} {m m' : Mtx} {e : Ending} {w' : World} (h : MtEnd w1 n m e w') (hb : Below w.heap.size w w1) (hm : ∀ i j, i < n → j < n → m' i j = m i j) : MtEnd w n m' e w' := by
  obtain ⟨A, c, rows, C, he, ho, hB, hbw⟩ := h
  exact ⟨A, c, rows, C, he, ho.more hb.size, hB.congr hm, below_two hb hbw⟩
theorem MtEnd.rd {w : World} {n : Nat} {m : Mtx} {e : Ending} {w' : World} (h : MtEnd w n m e w') : ∃ A c C, e = .returned (.slice A n c) ∧ MtR w' (A, n, c) n (n / 64 + 1) C ∧ BitsM n C m ∧ Below w.heap.size w w' := by
  obtain ⟨A, c, rows, C, he, ho, hB, hbw⟩ := h
  exact ⟨A, c, C, he, ho.rd, hB, hbw⟩
section
variable {cl : List Nat} {C0 : Option Addr} {n c0 : Nat}
end
end Go.Proofs.YtdngkienloligaaGreatDoor

/- -/
namespace Go.Proofs.YtdngkienloligaaGreatDoor
open Go.RowKit
section
variable {cl : List Nat} {C0 : Option Addr} {n c0 : Nat}
end
end Go.Proofs.YtdngkienloligaaGreatDoor

/- -/
namespace Go.Proofs.YtdngkienloligaaGreatDoor
open Go.RowKit
end Go.Proofs.YtdngkienloligaaGreatDoor

/- -/
namespace Go.Proofs.YtdngkienloligaaGreatDoor
open Go.RowKit
structure RS (w : World) (p : Nat) (s : ByteArray) (A : Option Addr) (nn cn : Nat) (names : List (List UInt8)) (a d k : Nat) : Prop where
  blk : Blk w p 222 #[.string s, .int .i64 (a : Int), .slice A nn cn, .int .i64 (d : Int), .int .i64 (k : Int), .int .i64 0, .int .i64 0]
  nm : Rd w 1 A (names.map encNm)
  len : names.length = nn
  off : ∀ x, A = some x → x.block ≠ p ∧ x.block < w.heap.size
section
variable {w w' : World} {p : Nat} {s : ByteArray} {A : Option Addr} {nn cn : Nat} {names : List (List UInt8)} {a d k : Nat}
theorem RS.c0 (h : RS w p s A nn cn names a d k) : w.cell? ⟨p, 0, none⟩ = some (.string s) := h.blk.cell 0
theorem RS.c1 (h : RS w p s A nn cn names a d k) : w.cell? ⟨p, 1, none⟩ = some (.int .i64 (a : Int)) := h.blk.cell 1
theorem RS.c2 (h : RS w p s A nn cn names a d k) : w.cell? ⟨p, 2, none⟩ = some (.slice A nn cn) := h.blk.cell 2
theorem RS.c3 (h : RS w p s A nn cn names a d k) : w.cell? ⟨p, 3, none⟩ = some (.int .i64 (d : Int)) := h.blk.cell 3
theorem RS.c4 (h : RS w p s A nn cn names a d k) : w.cell? ⟨p, 4, none⟩ = some (.int .i64 (k : Int)) := h.blk.cell 4
theorem RS.c5 (h : RS w p s A nn cn names a d k) : w.cell? ⟨p, 5, none⟩ = some (.int .i64 0) := h.blk.cell 5
theorem RS.f (h : RS w p s A nn cn names a d k) (i : Nat) : w.frozen? ⟨p, i, none⟩ = false := h.blk.frozen i
theorem RS.lt (h : RS w p s A nn cn names a d k) : p < w.heap.size := h.blk.lt
theorem RS.drewN (h : RS w p s A nn cn names a d k) (q : Nat) : RS (w.drewN q) p s A nn cn names a d k := ⟨h.blk.drewN q, h.nm.drewN q, h.len, h.off⟩
theorem RS.drew (h : RS w p s A nn cn names a d k) : RS w.drew p s A nn cn names a d k := ⟨h.blk.drew, h.nm.drew, h.len, h.off⟩
theorem RS.below (h : RS w p s A nn cn names a d k) (hb : Below w.heap.size w w') : RS w' p s A nn cn names a d k := ⟨h.blk.below hb, h.nm.below hb, h.len, fun x hx => ⟨(h.off x hx).1, Nat.lt_of_lt_of_le (h.off x hx).2 hb.size⟩⟩
theorem RS.atOf (h : RS w p s A nn cn names a d k) : atOf w p = a := by unfold YtdngkienloligaaGreatDoor.atOf; rw [h.c1]; simp [intOf]
end
end Go.Proofs.YtdngkienloligaaGreatDoor

/- -/
namespace Go.Proofs.YtdngkienloligaaGreatDoor
open Go.RowKit
end Go.Proofs.YtdngkienloligaaGreatDoor

/- -/
namespace Go.Proofs.YtdngkienloligaaGreatDoor
open Go.RowKit
end Go.Proofs.YtdngkienloligaaGreatDoor

/- -/
namespace Go.Proofs.YtdngkienloligaaGreatDoor
open Go.RowKit
end Go.Proofs.YtdngkienloligaaGreatDoor

/- -/
namespace Go.Proofs.YtdngkienloligaaGreatDoor
open Go.RowKit
end Go.Proofs.YtdngkienloligaaGreatDoor

/- -/
namespace Go.Proofs.YtdngkienloligaaGreatDoor
open Go.RowKit
def UpTo (k k' : Nat) : Prop := k ≤ k' ∧ (k ≤ 512 → k' ≤ 512)
theorem UpTo.refl (k : Nat) : UpTo k k := ⟨Nat.le_refl _, id⟩
theorem UpTo.trans {a b c : Nat} (h : UpTo a b) (k : UpTo b c) : UpTo a c := ⟨Nat.le_trans h.1 k.1, fun q => k.2 (h.2 q)⟩
theorem UpTo.one {k : Nat} (h : k < 512) : UpTo k (k + 1) := ⟨Nat.le_succ _, fun _ => h⟩
end Go.Proofs.YtdngkienloligaaGreatDoor

/- -/
namespace Go.Proofs.YtdngkienloligaaGreatDoor
open Go.RowKit
end Go.Proofs.YtdngkienloligaaGreatDoor

/- -/
namespace Go.Proofs.YtdngkienloligaaGreatDoor
open Go.RowKit
end Go.Proofs.YtdngkienloligaaGreatDoor

/- -/
namespace Go.Proofs.YtdngkienloligaaGreatDoor
open Go.RowKit
abbrev Ruv := Bool × Bool × Bool × Pv × Pv
def encRul (v : Ruv) : List Value := [.bool v.1, .bool v.2.1, .bool v.2.2.1] ++ encPt v.2.2.2.1 ++ encPt v.2.2.2.2
structure RuX (w : World) (X : Nat → Prop) (r : RuleP) (v : Ruv) : Prop where
  cut : v.1 = r.cut
  start : v.2.1 = r.start
  stop : v.2.2.1 = r.stop
  left : PatX w X r.left v.2.2.2.1
  right : PatX w X r.right v.2.2.2.2
theorem RuX.keep {X X' : Nat → Prop} {w w' : World} {r : RuleP} {v : Ruv} (h : RuX w X r v) (k : KeepX X X' w w') : RuX w' X' r v := ⟨h.cut, h.start, h.stop, h.left.keep k, h.right.keep k⟩
theorem RuX.below {X : Nat → Prop} {w w' : World} {r : RuleP} {v : Ruv} (h : RuX w X r v) (hb : Below w.heap.size w w') : RuX w' X r v := h.keep (KeepX.below hb)
end Go.Proofs.YtdngkienloligaaGreatDoor

/- -/
namespace Go.Proofs.YtdngkienloligaaGreatDoor
open Go.RowKit
structure RsX (w : World) (X : Nat → Prop) (rules : List RuleP) (v : Sv) : Prop where
  ex : ∃ vs : List Ruv, SlX w X 9 v (vs.map encRul) ∧ vs.length = rules.length ∧ ∀ (i : Nat) (r : RuleP) (u : Ruv), rules[i]? = some r → vs[i]? = some u → RuX w X r u
theorem RsX.keep {X X' : Nat → Prop} {w w' : World} {rules : List RuleP} {v : Sv} (h : RsX w X rules v) (k : KeepX X X' w w') : RsX w' X' rules v := by
  obtain ⟨vs, h1, h2, h3⟩ := h.ex
  exact ⟨vs, h1.keep k, h2, fun i r u hr hu => (h3 i r u hr hu).keep k⟩
theorem RsX.below {X : Nat → Prop} {w w' : World} {rules : List RuleP} {v : Sv} (h : RsX w X rules v) (hb : Below w.heap.size w w') : RsX w' X rules v := h.keep (KeepX.below hb)
theorem RsX.len {X : Nat → Prop} {w : World} {rules : List RuleP} {v : Sv} (h : RsX w X rules v) : v.2.1 = rules.length := by
  obtain ⟨vs, h1, h2, h3⟩ := h.ex
  have := h1.len
  rw [List.length_map] at this
  omega
theorem RsX.at_ {X : Nat → Prop} {w : World} {rules : List RuleP} {v : Sv} {i : Nat} {r : RuleP} (h : RsX w X rules v) (hr : rules[i]? = some r) :
    ∃ (b off : Nat) (u : Ruv), v.1 = some ⟨b, off, none⟩ ∧ RuX w X r u ∧ w.cell? ⟨b, off + i * 9, none⟩ = some (.bool u.1) ∧ w.cell? ⟨b, off + i * 9 + 1, none⟩ = some (.bool u.2.1) ∧ w.cell? ⟨b, off + i * 9 + 2, none⟩ = some (.bool u.2.2.1) ∧
      w.cell? ⟨b, off + i * 9 + 3, none⟩ = some (.int .i64 (u.2.2.2.1.1 : Int)) ∧ w.cell? ⟨b, off + i * 9 + 4, none⟩ = some (.slice u.2.2.2.1.2.1.1 u.2.2.2.1.2.1.2.1 u.2.2.2.1.2.1.2.2) ∧ w.cell? ⟨b, off + i * 9 + 5, none⟩ = some (.slice u.2.2.2.1.2.2.1 u.2.2.2.1.2.2.2.1 u.2.2.2.1.2.2.2.2) ∧
      w.cell? ⟨b, off + i * 9 + 6, none⟩ = some (.int .i64 (u.2.2.2.2.1 : Int)) ∧ w.cell? ⟨b, off + i * 9 + 7, none⟩ = some (.slice u.2.2.2.2.2.1.1 u.2.2.2.2.2.1.2.1 u.2.2.2.2.2.1.2.2) ∧ w.cell? ⟨b, off + i * 9 + 8, none⟩ = some (.slice u.2.2.2.2.2.2.1 u.2.2.2.2.2.2.2.1 u.2.2.2.2.2.2.2.2) := by
  obtain ⟨vs, h1, h2, h3⟩ := h.ex
  obtain ⟨u, hu⟩ : ∃ u, vs[i]? = some u := ⟨_, List.getElem?_eq_getElem (by have := (List.getElem?_eq_some_iff.1 hr).1; omega)⟩
  obtain ⟨b, off, e, hc⟩ := h1.rd (by intro e; cases vs with | nil => simp at hu | cons _ _ => simp at e)
  have hg := fun j (x : Value) (hx : (encRul u)[j]? = some x) => hc i j (encRul u) x (by simp [hu]) hx
  exact ⟨b, off, u, e, h3 i r u hr hu, hg 0 _ rfl, hg 1 _ rfl, hg 2 _ rfl, hg 3 _ rfl, hg 4 _ rfl, hg 5 _ rfl, hg 6 _ rfl, hg 7 _ rfl, hg 8 _ rfl⟩
end Go.Proofs.YtdngkienloligaaGreatDoor

/- -/
namespace Go.Proofs.YtdngkienloligaaGreatDoor
open Go.RowKit
end Go.Proofs.YtdngkienloligaaGreatDoor

/- -/
namespace Go.Proofs.YtdngkienloligaaGreatDoor
open Go.RowKit
end Go.Proofs.YtdngkienloligaaGreatDoor

/- -/
namespace Go.Proofs.YtdngkienloligaaGreatDoor
open Go.RowKit
structure BrkB (w : World) (base pb : Nat) (d : DbP) (rules : List RuleP) (rest : Bool) : Prop where
  ex : ∃ (p x n c : Nat) (A : Option Addr) (X : Nat → Prop), Blk w pb 99 #[.pointer (some ⟨p, 0, none⟩), .slice A n c, .bool rest] ∧ RfB w base p x d.names d.full ∧ RsX w X rules (A, n, c)
theorem BrkB.below {w w' : World} {base pb : Nat} {d : DbP} {rules : List RuleP} {rest : Bool} (h : BrkB w base pb d rules rest) (hb : Below w.heap.size w w') : BrkB w' base pb d rules rest := by
  obtain ⟨p, x, n, c, A, X, h1, h2, h3⟩ := h.ex
  exact ⟨p, x, n, c, A, X, h1.below hb, h2.below hb, h3.below hb⟩
end Go.Proofs.YtdngkienloligaaGreatDoor

/- -/
namespace Go.Proofs.YtdngkienloligaaGreatDoor
open Go.RowKit Go.Maps
def RNewEnd (r : Except (Int × Nat) DbP) (e : Ending) (w' : World) (base : Nat) : Prop :=
  match r with
  | .error x => e = .returned (.tuple #[.pointer none, .int .i64 x.1, .int .i64 (x.2 : Int)])
  | .ok d => ∃ p x, e = .returned (.tuple #[.pointer (some ⟨p, 0, none⟩), .int .i64 0, .int .i64 0]) ∧ RfB w' base p x d.names d.full
theorem RNewEnd.err {r : Except (Int × Nat) DbP} {k : Int} {i : Nat} {w' : World} {base : Nat} (h : r = .error (k, i)) : RNewEnd r (.returned (.tuple #[.pointer none, .int .i64 k, .int .i64 (i : Int)])) w' base := by rw [h]; exact rfl
theorem RNewEnd.fine {r : Except (Int × Nat) DbP} {d : DbP} {p x : Nat} {w' : World} {base : Nat} (h : r = .ok d) (hd : RfB w' base p x d.names d.full) : RNewEnd r (.returned (.tuple #[.pointer (some ⟨p, 0, none⟩), .int .i64 0, .int .i64 0])) w' base := by rw [h]; exact ⟨p, x, rfl, hd⟩
end Go.Proofs.YtdngkienloligaaGreatDoor

