/-
  Several texts in one, in their build order: LinR, Dl, Shelf2, UtfS, UtfI, UtfL, HexR, Bld, Grow, Upper, Repeat, Spell, Join, PrintS.
-/
import Derived.Shelf.Unicode.DecodeLast
import Derived.Shelf.Slices.SearchI
import Derived.Shelf.Slices.Empties
import Derived.Ground.Names2Prog
import Derived.Lib.SpaceU
import Derived.Deep.LoopGhost
import Derived.Shelf.Strings.BuilderK
import Derived.Lib.OthersKept
import Derived.RangeFuncOwn
import Derived.Lib.Builder
import Derived.Lib.FrozenHead2
import Derived.Lib.AppendStr
import Derived.Lib.BufferRead
import Derived.Test.YtinfnfgflcjfmaaGreatDoorZ1b
import Derived.Test.YtinfnfgflcjfmaaGreatDoorZShelf
import Derived.Test.YtinfnfgflcjfmaaGreatDoorZ1a
import Derived.Test.YtinfnfgflcjfmaaGreatDoorZ0a
/-
  PLAIN: lines: the chances of a text; a line's end parts them; blanks. No walk.
-/
namespace Go.Proofs.YtinfnfgflcjfmaaGreatDoor

/- Two texts with a whole rune between them. -/
theorem decN_tail {n b0 b1 b2 b3 R W : Nat} (h : Lib.decodeN n b0 b1 b2 b3 = (R, W)) : (2 ≤ W → b1 / 64 = 2) ∧ (3 ≤ W → b2 / 64 = 2) ∧ (4 ≤ W → b3 / 64 = 2) ∧ W ≤ 4 := by
  unfold Lib.decodeN at h
  repeat' split at h
  all_goals (injection h with _ h; omega)
theorem dec_tail {s : ByteArray} {i k R W : Nat} (h : Utf8.decode s i = (R, W)) (hk : 0 < k) (hW : k < W) : (s.get! (i + k)).toNat / 64 = 2 := by
  rw [Lib.decode_at] at h
  obtain ⟨h1, h2, h3, h4⟩ := decN_tail h
  rcases (show k = 1 ∨ k = 2 ∨ k = 3 by omega) with rfl | rfl | rfl
  · exact h1 (by omega)
  · exact h2 (by omega)
  · exact h3 (by omega)
/-- Where a byte stands that begins a rune a rune begins. -/
theorem lead_at (s : ByteArray) {z : Nat} (hz : z < s.size) (ha : (s.get! z).toNat / 64 ≠ 2) : ∀ (f a : Nat), s.size ≤ a + f → a ≤ z → ∃ x ∈ runesGo s f a, x.2.1 = z
  | 0, a, hf, hle => by omega
  | f + 1, a, hf, hle => by
    have hlt : a < s.size := by omega
    have hd := dec_bd s a hlt
    obtain ⟨⟨R, W⟩, hD⟩ : ∃ d, Utf8.decode s a = d := ⟨_, rfl⟩
    rw [hD] at hd
    simp only at hd
    have hr : runesGo s (f + 1) a = (R, a, a + W) :: runesGo s f (a + W) := by rw [runesGo, if_pos hlt, hD]
    rw [hr]
    by_cases haz : a = z
    · exact ⟨_, List.mem_cons_self, haz⟩
    · have hle2 : a + W ≤ z := by
        rcases Nat.lt_or_ge z (a + W) with h | h
        · have := dec_tail hD (k := z - a) (by omega) (by omega)
          rw [show a + (z - a) = z by omega] at this; omega
        · exact h
      obtain ⟨x, hx, e⟩ := lead_at s hz ha f (a + W) (by omega) hle2
      exact ⟨x, List.mem_cons_of_mem _ hx, e⟩
theorem runes_joinM (s t : ByteArray) (m : List UInt8) (R : Nat) (hm : Chunk m) (hR : (Utf8.decode (bytesOf m) 0).1 = R) (hl : (m.getD 0 0).toNat / 64 ≠ 2) {u : ByteArray} (hu : u.data.toList = s.data.toList ++ m ++ t.data.toList) :
    runesP u = runesP s ++ (R, s.size, s.size + m.length) :: (runesP t).map (shR (s.size + m.length)) := by
  obtain ⟨m1, m2, m3⟩ := hm
  have m1' : 0 < m.length := List.length_pos_iff.2 m1
  have hz : u.size = s.size + m.length + t.size := by rw [← size_data, hu, List.length_append, List.length_append, size_data, size_data]
  have hget : ∀ k, u.get! k = u.data.toList.getD k 0 := fun k => (Lib.getD_get!' u k).symm
  have hgm : ∀ k, k < m.length → u.get! (s.size + k) = m.getD k 0 := fun k hk => by
    rw [hget, hu, List.append_assoc, List.getD_eq_getElem?_getD, List.getD_eq_getElem?_getD, List.getElem?_append_right (by rw [size_data]; omega), size_data, Nat.add_sub_cancel_left, List.getElem?_append_left hk]
  have hplace := lead_at u (z := s.size) (by omega) (by have := hgm 0 m1'; rw [Nat.add_zero] at this; rw [this]; exact hl) u.size 0 (by omega) (Nat.zero_le _)
  have hs : u.extract 0 s.size = s := by
    have : (u.extract 0 s.size).data.toList = s.data.toList := by
      rw [ByteArray.data_extract, Array.toList_extract, List.extract_eq_take_drop, List.drop_zero, Nat.sub_zero, hu, List.append_assoc, List.take_append_of_le_length (by rw [size_data]; exact Nat.le_refl _), List.take_of_length_le (by rw [size_data]; exact Nat.le_refl _)]
    rw [← bytesOf_data (u.extract 0 s.size), this, bytesOf_data]
  have h1 : runesP s = (runesP u).takeWhile fun x => decide (x.2.1 < s.size) := by
    have := runesP_prefix u (z := s.size) (by omega) (.inr (.inr hplace))
    rw [hs] at this; exact this
  have h2 := split_at_place u (z := s.size) u.size 0 (by omega) hplace
  rw [h1]
  unfold runesP at h2 ⊢
  conv => lhs; rw [h2]
  congr 1
  obtain ⟨k, hk, e⟩ := runesGo_step (s := u) (f := u.size) (a := s.size) (by omega) (by omega)
  obtain ⟨⟨R', W⟩, hD⟩ : ∃ d, Utf8.decode (bytesOf m) 0 = d := ⟨_, rfl⟩
  rw [hD] at m2 m3 hR
  simp only at m2 m3 hR
  subst m2; subst hR
  have hd : Utf8.decode u s.size = (R', m.length) := dec_same hD (by omega) m3 (by omega) fun k hk => by rw [hgm k hk, bytesOf_get, Nat.zero_add]
  rw [e, hd]
  simp only
  congr 1
  have := runes_shift u t (s.size + m.length) (by omega) (fun k => by
    rw [hget, hu, ← Lib.getD_get!' t, List.getD_eq_getElem?_getD, List.getD_eq_getElem?_getD, List.getElem?_append_right (by rw [List.length_append, size_data]; omega), List.length_append, size_data, Nat.add_sub_cancel_left]) t.size k 0 (by omega) (by omega)
  rw [Nat.zero_add] at this
  exact this

def lCls (g : Int → Nat) (s : ByteArray) : List Int := (runesP s).map fun x => (g x.1 : Int)
def lPick (c : List Int) : Nat → List Nat → List (Nat × Bool)
  | _, [] => []
  | i, a :: r => (if i ≠ 0 ∧ lCut c i = true then [(a, lMust (c.getD (i - 1) 0))] else []) ++ lPick c (i + 1) r
/-- The chances of a text. -/
def lChances (g : Int → Nat) (s : ByteArray) : List (Nat × Bool) := lPick (lCls g s) 0 ((runesP s).map (·.2.1)) ++ (if s.size = 0 then [] else [(s.size, true)])
theorem lCls_len (g : Int → Nat) (s : ByteArray) : (lCls g s).length = (runesP s).length := by simp [lCls]
theorem lPick_append (c : List Int) : ∀ (P Q : List Nat) (i : Nat), lPick c i (P ++ Q) = lPick c i P ++ lPick c (i + P.length) Q
  | [], Q, i => by simp [lPick]
  | a :: P, Q, i => by
    rw [List.cons_append, lPick, lPick, lPick_append c P Q (i + 1), List.append_assoc, List.length_cons, show i + 1 + P.length = i + (P.length + 1) by omega]
theorem lPick_congr {c d : List Int} : ∀ (P : List Nat) (i j : Nat), (∀ k, k < P.length → ((i + k ≠ 0 ∧ lCut c (i + k) = true) ↔ (j + k ≠ 0 ∧ lCut d (j + k) = true)) ∧ (i + k ≠ 0 → c.getD (i + k - 1) 0 = d.getD (j + k - 1) 0)) → lPick c i P = lPick d j P
  | [], _, _, _ => rfl
  | a :: P, i, j, h => by
    have h0 := h 0 (by simp)
    simp only [Nat.add_zero] at h0
    rw [lPick, lPick, lPick_congr P (i + 1) (j + 1) (fun k hk => by
      have := h (k + 1) (by simpa using hk)
      rw [show i + 1 + k = i + (k + 1) by omega, show j + 1 + k = j + (k + 1) by omega]; exact this)]
    congr 1
    by_cases hc : i ≠ 0 ∧ lCut c i = true
    · rw [if_pos hc, if_pos (h0.1.1 hc), h0.2 hc.1]
    · rw [if_neg hc, if_neg (fun k => hc (h0.1.2 k))]
def shC (p : Nat) (x : Nat × Bool) : Nat × Bool := (x.1 + p, x.2)
theorem lPick_map (c : List Int) (p : Nat) : ∀ (P : List Nat) (i : Nat), lPick c i (P.map (· + p)) = (lPick c i P).map (shC p)
  | [], _ => rfl
  | a :: P, i => by
    rw [List.map_cons, lPick, lPick, lPick_map c p P (i + 1), List.map_append]
    congr 1
    split <;> rfl
/-- Behind a line's end a text begins anew. -/
theorem lChances_parts {g : Int → Nat} {m : List UInt8} {R : Nat} (hm : Chunk m) (hR : (Utf8.decode (bytesOf m) 0).1 = R) (hl : (m.getD 0 0).toNat / 64 ≠ 2) (hg : g R = 1 ∨ g R = 3) {s t u v : ByteArray} (hu : u.data.toList = s.data.toList ++ m) (hv : v.data.toList = s.data.toList ++ m ++ t.data.toList) :
    lChances g v = lChances g u ++ (lChances g t).map (shC u.size) := by
  have m1' : 0 < m.length := List.length_pos_iff.2 hm.1
  have zu : u.size = s.size + m.length := by rw [← size_data, hu, List.length_append, size_data]
  have zv : v.size = u.size + t.size := by rw [← size_data, hv, List.length_append, List.length_append, size_data, size_data]; omega
  have ru : runesP u = runesP s ++ [(R, s.size, s.size + m.length)] := by
    have := runes_joinM s (bytesOf []) m R hm hR hl (u := u) (by rw [hu, bytesOf_list, List.append_nil])
    rw [this]; rfl
  have rv := runes_joinM s t m R hm hR hl hv
  rw [← zu] at ru rv
  have he : (g R : Int) = 1 ∨ (g R : Int) = 3 := by omega
  have cu : lCls g u = lCls g s ++ [(g R : Int)] := by unfold lCls; rw [ru, List.map_append]; rfl
  have cv : lCls g v = lCls g s ++ (g R : Int) :: lCls g t := by
    unfold lCls
    rw [rv, List.map_append, List.map_cons, List.map_map]; rfl
  have pu : (runesP u).map (·.2.1) = (runesP s).map (·.2.1) ++ [s.size] := by rw [ru, List.map_append]; rfl
  have pv : (runesP v).map (·.2.1) = ((runesP s).map (·.2.1) ++ [s.size]) ++ ((runesP t).map (·.2.1)).map (· + u.size) := by
    rw [rv, List.map_append, List.map_cons, List.map_map, List.map_map, List.append_assoc]; rfl
  unfold lChances
  rw [pv, pu, cv, cu, lPick_append]
  generalize hA : lCls g s = A
  generalize hB : lCls g t = B
  have lA : A.length = (runesP s).length := by rw [← hA, lCls_len]
  have e1 : lPick (A ++ (g R : Int) :: B) 0 ((runesP s).map (·.2.1) ++ [s.size]) = lPick (A ++ [(g R : Int)]) 0 ((runesP s).map (·.2.1) ++ [s.size]) := lPick_congr _ 0 0 fun k hk => by
    rw [List.length_append, List.length_map, List.length_singleton, ← lA] at hk
    rw [Nat.zero_add]
    refine ⟨?_, fun h0 => by rw [gl_left (by omega), gl_left (by omega)]⟩
    by_cases h0 : k = 0
    · subst h0; simp
    · rw [lCut_left he (by omega) (by omega)]
  rw [e1, if_neg (by omega : ¬ u.size = 0), Nat.zero_add, List.length_append, List.length_map, List.length_singleton, ← lA]
  by_cases ht : t.size = 0
  · have : runesP t = [] := by unfold runesP; rw [ht]; rfl
    rw [this, if_neg (by omega), if_pos ht, zv, ht]
    simp [lPick]
  · rw [if_neg (by omega), if_neg ht]
    obtain ⟨k, hk, er⟩ := runesGo_step (s := t) (f := t.size) (a := 0) (by omega) (by omega)
    have hP : ∃ Q, (runesP t).map (·.2.1) = 0 :: Q := ⟨_, by unfold runesP; rw [er, List.map_cons]⟩
    obtain ⟨Q, hQ⟩ := hP
    rw [hQ, List.map_cons, lPick, if_pos ⟨by omega, lCut_begin he⟩, Nat.add_sub_cancel, gl_mid, lPick_map]
    have hmu : lMust (g R : Int) = true := by rcases he with h | h <;> rw [h] <;> rfl
    have e2 : lPick (A ++ (g R : Int) :: B) (A.length + 1 + 1) Q = lPick B 1 Q := lPick_congr _ _ _ fun k _ => by
      rw [show A.length + 1 + 1 + k = A.length + 1 + (k + 1) by omega, show 1 + k = k + 1 by omega, lCut_right he]
      refine ⟨by simp, fun _ => ?_⟩
      rw [show A.length + 1 + (k + 1) - 1 = A.length + 1 + k by omega, gl_right]; rfl
    have e3 : lPick B 0 (0 :: Q) = lPick B 1 Q := by rw [lPick, if_neg (by simp)]; rfl
    rw [e2, e3, hmu, zv, List.map_append]
    simp [shC, Nat.add_comm]
end Go.Proofs.YtinfnfgflcjfmaaGreatDoor

/-
  PLAIN: the database of lines' runes, as a row of names and sets; printed by gen_db.py. No walk.
-/
namespace Go.Proofs.YtinfnfgflcjfmaaGreatDoor

def linesD : DbP := ⟨[otherL, [66, 107], [67, 114], [76, 102], [83, 112], [90, 119], [87, 106], [71, 108], [67, 109], [79, 112], [67, 112], [67, 108], [81, 117], [69, 120], [73, 115], [83, 121], [72, 121], [66, 97], [68, 97, 115, 104], [73, 110], [78, 117], [80, 111], [80, 114], [73, 100], [78, 115], [82, 105]], [[], [(11, 12), (133, 133), (8232, 8233)], [(13, 13)], [(10, 10)], [(32, 32)], [(8203, 8203)], [(8288, 8288), (65279, 65279)], [(160, 160), (8199, 8199), (8239, 8239)], [(768, 879), (1425, 1469), (8204, 8205), (12441, 12442), (65024, 65039), (127995, 127999)], [(40, 40), (91, 91), (123, 123), (161, 161), (191, 191), (8218, 8218), (12296, 12296), (12298, 12298), (12300, 12300)], [(41, 41), (93, 93)], [(125, 125), (12289, 12290), (12297, 12297), (12299, 12299), (12301, 12301)], [(34, 34), (39, 39), (171, 171), (187, 187), (8216, 8217), (8220, 8221)], [(33, 33), (63, 63)], [(44, 44), (46, 46), (58, 59)], [(47, 47)], [(45, 45)], [(9, 9), (173, 173), (8208, 8208), (8211, 8211)], [(8212, 8212)], [(8230, 8230)], [(48, 57), (1632, 1641)], [(37, 37), (162, 162), (176, 176), (8240, 8240)], [(36, 36), (43, 43), (92, 92), (163, 165), (177, 177), (8364, 8364)], [(12353, 12438), (12449, 12538), (13312, 19903), (19968, 40959), (127744, 127994), (128000, 128591)], [(12293, 12293), (12316, 12316), (12443, 12446), (12539, 12542)], [(127462, 127487)]]⟩
set_option maxRecDepth 100000 in
theorem lines_ok : linesD.okB = true := by kernel_rfl
theorem linesOk : linesD.Ok ∧ Apart linesD.sets ∧ linesD.Named := DbP.okB_spec lines_ok
/-- The number of a rune's class. -/
def gL (r : Int) : Nat := linesD.get r
theorem gL_lt (r : Int) : gL r < 26 := get_lt linesOk.1 r
end Go.Proofs.YtinfnfgflcjfmaaGreatDoor

/- Contracts of the library's shelf at this seat's program that Shelf lacks, as the kit's own tools lay them. -/
namespace Go.Proofs
open Go.Shelf Go.RowKit
def Tryz.lays271_ren : Go.Shelf.Ren := ⟨fun | 271 => 90 | 120 => 134 | 197 => 118 | 260 => 152 | n => n, fun | 9 => 9 | 21 => 21 | 3 => 3 | 4 => 4 | 5 => 5 | 105 => 67 | 119 => 123 | 0 => 0 | 46 => 121 | 139 => 126 | 138 => 125 | n => n, fun | 3 => 0 | 4 => 1 | n => n⟩
theorem Tryz.lays271 : Go.Proofs.Lays.n271 Tryz.prog Tryz.lays271_ren := {
  mixed := by kernel_rfl
  f120 := Tryz.func134.trans (congrArg some (by kernel_rfl))
  f197 := Tryz.func118.trans (congrArg some (by kernel_rfl))
  f260 := Tryz.func152.trans (congrArg some (by kernel_rfl))
  f271 := Tryz.func90.trans (congrArg some (by kernel_rfl))
  t0 := Tryz.underlying0
  a0 := Tryz.isAgg0
  z0 := Tryz.sizeOf0
  v0 := Tryz.zeroValue0
  t3 := Tryz.underlying3
  a3 := Tryz.isAgg3
  z3 := Tryz.sizeOf3
  v3 := Tryz.zeroValue3
  t4 := Tryz.underlying4
  a4 := Tryz.isAgg4
  z4 := Tryz.sizeOf4
  v4 := Tryz.zeroValue4
  t5 := Tryz.underlying5
  a5 := Tryz.isAgg5
  z5 := Tryz.sizeOf5
  v5 := Tryz.zeroValue5
  t9 := Tryz.underlying9
  a9 := Tryz.isAgg9
  z9 := Tryz.sizeOf9
  v9 := Tryz.zeroValue9
  t21 := Tryz.underlying21
  a21 := Tryz.isAgg21
  z21 := Tryz.sizeOf21
  v21 := Tryz.zeroValue21
  t46 := Tryz.underlying121
  a46 := Tryz.isAgg121
  z46 := Tryz.sizeOf121
  v46 := Tryz.zeroValue121
  t105 := Tryz.underlying67
  a105 := Tryz.isAgg67
  z105 := Tryz.sizeOf67
  v105 := Tryz.zeroValue67
  t119 := Tryz.underlying123
  a119 := Tryz.isAgg123
  z119 := Tryz.sizeOf123
  t138 := Tryz.underlying125
  a138 := Tryz.isAgg125
  z138 := Tryz.sizeOf125
  v138 := Tryz.zeroValue125
  t139 := Tryz.underlying126
  a139 := Tryz.isAgg126
  z139 := Tryz.sizeOf126
  v139 := Tryz.zeroValue126
  g3 := by kernel_rfl
  g4 := by kernel_rfl }
theorem Tryz.utf8_DecodeLastRuneInString (s : ByteArray) (w : World) (hs : s.size ≤ 9223372036854775807) (hT : Lib.Utf8Tabs 0 1 w) :
    Calls Tryz.prog 90 #[.string s] w fun e w' => e = .returned (.tuple #[.int .i32 (Lib.decodeLastL s.data.toList).1, .int .i64 (Lib.decodeLastL s.data.toList).2]) ∧ Below w.heap.size w w' := Any.utf8_DecodeLastRuneInString Tryz.lays271 s w hs hT
def Tryz.laysNm237_ren : Go.Shelf.Ren := ⟨fun | 37 => 151 | n => n, fun | 3 => 3 | 4 => 4 | n => n, fun | n => n⟩
theorem Tryz.laysNm237 : Go.Proofs.Lays2.n37 Tryz.prog Tryz.laysNm237_ren := {
  mixed := by kernel_rfl
  f37 := Tryz.func151.trans (congrArg some (by kernel_rfl))
  t3 := Tryz.underlying3
  a3 := Tryz.isAgg3
  z3 := Tryz.sizeOf3
  v3 := Tryz.zeroValue3
  t4 := Tryz.underlying4
  a4 := Tryz.isAgg4
  z4 := Tryz.sizeOf4
  v4 := Tryz.zeroValue4 }
theorem Tryz.cmp_isNaN_int2 (x : Int) (w : World) :
    Calls Tryz.prog 151 #[.int .i64 x] w fun e w' => e = .returned (.bool false) ∧ w' = w := Any.cmp_isNaN_int2 Tryz.laysNm237 x w
def Tryz.laysNm232_ren : Go.Shelf.Ren := ⟨fun | 32 => 117 | n => n, fun | 3 => 3 | 4 => 4 | n => n, fun | n => n⟩
theorem Tryz.laysNm232 : Go.Proofs.Lays2.n32 Tryz.prog Tryz.laysNm232_ren := {
  mixed := by kernel_rfl
  f32 := Tryz.func117.trans (congrArg some (by kernel_rfl))
  t3 := Tryz.underlying3
  a3 := Tryz.isAgg3
  z3 := Tryz.sizeOf3
  v3 := Tryz.zeroValue3
  t4 := Tryz.underlying4
  a4 := Tryz.isAgg4
  z4 := Tryz.sizeOf4
  v4 := Tryz.zeroValue4 }
theorem Tryz.slices_isNaN_int2 (x : Int) (w : World) :
    Calls Tryz.prog 117 #[.int .i64 x] w fun e w' => e = .returned (.bool false) ∧ w' = w := Any.slices_isNaN_int2 Tryz.laysNm232 x w
def Tryz.laysNm231_ren : Go.Shelf.Ren := ⟨fun | 31 => 116 | 37 => 151 | n => n, fun | 3 => 3 | 4 => 4 | n => n, fun | n => n⟩
theorem Tryz.laysNm231 : Go.Proofs.Lays2.n31 Tryz.prog Tryz.laysNm231_ren := {
  mixed := by kernel_rfl
  f31 := Tryz.func116.trans (congrArg some (by kernel_rfl))
  f37 := Tryz.func151.trans (congrArg some (by kernel_rfl))
  t3 := Tryz.underlying3
  a3 := Tryz.isAgg3
  z3 := Tryz.sizeOf3
  v3 := Tryz.zeroValue3
  t4 := Tryz.underlying4
  a4 := Tryz.isAgg4
  z4 := Tryz.sizeOf4
  v4 := Tryz.zeroValue4 }
theorem Tryz.cmp_Less_int2 (x y : Int) (w : World) :
    Calls Tryz.prog 116 #[.int .i64 x, .int .i64 y] w fun e w' => e = .returned (.bool (decide (x < y))) ∧ w' = w := Any.cmp_Less_int2 Tryz.laysNm231 x y w
def Tryz.laysNm225_ren : Go.Shelf.Ren := ⟨fun | 25 => 80 | 31 => 116 | 32 => 117 | 37 => 151 | n => n, fun | 22 => 42 | 3 => 3 | 4 => 4 | 40 => 121 | 0 => 0 | n => n, fun | n => n⟩
theorem Tryz.laysNm225 : Go.Proofs.Lays2.n25 Tryz.prog Tryz.laysNm225_ren := {
  mixed := by kernel_rfl
  f25 := Tryz.func80.trans (congrArg some (by kernel_rfl))
  f31 := Tryz.func116.trans (congrArg some (by kernel_rfl))
  f32 := Tryz.func117.trans (congrArg some (by kernel_rfl))
  f37 := Tryz.func151.trans (congrArg some (by kernel_rfl))
  t0 := Tryz.underlying0
  a0 := Tryz.isAgg0
  z0 := Tryz.sizeOf0
  v0 := Tryz.zeroValue0
  t3 := Tryz.underlying3
  a3 := Tryz.isAgg3
  z3 := Tryz.sizeOf3
  v3 := Tryz.zeroValue3
  t4 := Tryz.underlying4
  a4 := Tryz.isAgg4
  z4 := Tryz.sizeOf4
  v4 := Tryz.zeroValue4
  t22 := Tryz.underlying42
  a22 := Tryz.isAgg42
  z22 := Tryz.sizeOf42
  v22 := Tryz.zeroValue42
  t40 := Tryz.underlying121
  a40 := Tryz.isAgg121
  z40 := Tryz.sizeOf121
  v40 := Tryz.zeroValue121 }
theorem Tryz.slices_BinarySearch_int (b off n c : Nat) (zs : List Int) (x : Int) (w : World) (hz : n ≤ zs.length) (hbig : n < 4611686018427387904) (hc : ∀ j, j < zs.length → w.cell? ⟨b, off + j, none⟩ = some (.int .i64 (zs.getD j 0))) (hs : (zs.take n).Pairwise (· ≤ ·)) :
    Calls Tryz.prog 80 #[.slice (some ⟨b, off, none⟩) n c, .int .i64 x] w fun e w' => e = .returned (.tuple #[.int .i64 ((zs.take n).countP (· < x) : Nat), .bool ((zs.take n).contains x)]) ∧ ∃ q, w' = w.drewN q := Any.slices_BinarySearch_int Tryz.laysNm225 b off n c zs x w hz hbig hc hs
theorem Tryz.slices_BinarySearch_int_empty (a : Option Addr) (c : Nat) (x : Int) (w : World) :
    Calls Tryz.prog 80 #[.slice a 0 c, .int .i64 x] w fun e w' => e = .returned (.tuple #[.int .i64 0, .bool false]) ∧ w' = w := Any.slices_BinarySearch_int_empty Tryz.laysNm225 a c x w
end Go.Proofs

/-
  PLAIN: the runes of a part of a text that begins and ends where runes begin. No walk.
-/
namespace Go.Proofs.YtinfnfgflcjfmaaGreatDoor

theorem runes_rise' (s : ByteArray) : (runesP s).Pairwise fun x y => x.2.1 < y.2.1 := by
  have : ∀ (f a : Nat), (runesGo s f a).Pairwise fun x y => x.2.1 < y.2.1 := by
    intro f
    induction f with
    | zero => intro a; exact .nil
    | succ f ih =>
      intro a
      rw [runesGo]
      split
      · rename_i hlt
        have hd := dec_bd s a hlt
        refine .cons (fun y hy => ?_) (ih _)
        have := runesGo_bd _ _ y hy
        simp only; omega
      · exact .nil
  exact this _ _
/-- A place where a rune begins, or the end. -/
def PlaceAt (s : ByteArray) (z : Nat) : Prop := z = s.size ∨ ∃ x ∈ runesP s, x.2.1 = z
theorem PlaceAt.le {s : ByteArray} {z : Nat} (h : PlaceAt s z) : z ≤ s.size := by
  rcases h with rfl | ⟨x, hx, rfl⟩
  · exact Nat.le_refl _
  · have := runesP_bd x hx; omega
theorem tw_mem {z : Nat} {x : Nat × Nat × Nat} : ∀ {l : List (Nat × Nat × Nat)}, x ∈ l.takeWhile (fun x => decide (x.2.1 < z)) → x.2.1 < z
  | [], h => by simp at h
  | y :: l, h => by
    rw [List.takeWhile_cons] at h
    split at h
    · rename_i hy
      rcases List.mem_cons.1 h with rfl | h
      · simpa using hy
      · exact tw_mem h
    · simp at h
theorem tw_pre (z : Nat) : ∀ (l : List (Nat × Nat × Nat)), (l.Pairwise fun x y => x.2.1 < y.2.1) → ∃ Q, l = (l.takeWhile fun x => decide (x.2.1 < z)) ++ Q ∧ ∀ x ∈ Q, z ≤ x.2.1
  | [], _ => ⟨[], rfl, by simp⟩
  | y :: l, h => by
    rw [List.pairwise_cons] at h
    rw [List.takeWhile_cons]
    by_cases hy : y.2.1 < z
    · obtain ⟨Q, h1, h2⟩ := tw_pre z l h.2
      refine ⟨Q, ?_, h2⟩
      rw [if_pos (by simpa using hy), List.cons_append, ← h1]
    · rw [if_neg (by simpa using hy)]
      refine ⟨y :: l, rfl, fun x hx => ?_⟩
      rcases List.mem_cons.1 hx with rfl | hx
      · omega
      · have := h.1 x hx; omega
theorem get_sub (s : ByteArray) {a b : Nat} (hb : b ≤ s.size) (k : Nat) : (s.extract 0 b).get! (a + k) = (s.extract a b).get! k := by
  rw [← Lib.getD_get!', ← Lib.getD_get!', ByteArray.data_extract, ByteArray.data_extract, Array.toList_extract, Array.toList_extract, List.extract_eq_take_drop, List.extract_eq_take_drop, List.getD_eq_getElem?_getD, List.getD_eq_getElem?_getD, List.drop_zero, Nat.sub_zero]
  by_cases h : a + k < b
  · rw [List.getElem?_take_of_lt h, List.getElem?_take_of_lt (by omega), List.getElem?_drop]
  · rw [List.getElem?_eq_none (by rw [List.length_take, size_data]; omega), List.getElem?_eq_none (by rw [List.length_take, List.length_drop, size_data]; omega)]
/-- The runes of a part. -/
theorem runes_sub (s : ByteArray) {a b : Nat} (hab : a ≤ b) (ha : PlaceAt s a) (hb : PlaceAt s b) : ∃ P Q, runesP s = P ++ (runesP (s.extract a b)).map (shR a) ++ Q ∧ (∀ x ∈ P, x.2.1 < a) ∧ (∀ x ∈ Q, b ≤ x.2.1) := by
  have hbz := hb.le
  have hu : (s.extract 0 b).size = b := by rw [ByteArray.size_extract]; omega
  have ht : (s.extract a b).size = b - a := by rw [ByteArray.size_extract]; omega
  have h1 : runesP (s.extract 0 b) = (runesP s).takeWhile fun x => decide (x.2.1 < b) := by
    refine runesP_prefix s hbz ?_
    rcases hb with h | h
    · exact .inr (.inl h)
    · exact .inr (.inr h)
  obtain ⟨Q, hQ, hQb⟩ := tw_pre b (runesP s) (runes_rise' s)
  have hsh : runesGo (s.extract 0 b) b (0 + a) = (runesGo (s.extract a b) (s.extract a b).size 0).map (shR a) := runes_shift _ _ a (by omega) (fun k => get_sub s hbz k) _ _ 0 (by omega) (by omega)
  rw [Nat.zero_add] at hsh
  by_cases hae : a = b
  · subst hae
    have : runesP (s.extract a a) = [] := by unfold runesP; rw [ht, Nat.sub_self]; rfl
    rw [this]
    exact ⟨_, Q, by rw [List.map_nil, List.append_nil]; exact hQ, fun x hx => tw_mem hx, hQb⟩
  · have hpl : ∃ x ∈ runesP (s.extract 0 b), x.2.1 = a := by
      rcases ha with h | ⟨x, hx, e⟩
      · omega
      · refine ⟨x, ?_, e⟩
        rw [h1]
        have hx' := hx
        rw [hQ] at hx'
        rcases List.mem_append.1 hx' with h | h
        · exact h
        · have := hQb x h; omega
    have h2 := split_at_place (s.extract 0 b) (z := a) b 0 (by omega) (by unfold runesP at hpl; rw [hu] at hpl; exact hpl)
    rw [hu, hsh] at h2
    refine ⟨(runesGo (s.extract 0 b) b 0).takeWhile fun x => decide (x.2.1 < a), Q, ?_, fun x hx => tw_mem hx, hQb⟩
    conv => lhs; rw [hQ, ← h1]
    congr 1
    unfold runesP
    rw [hu]
    exact h2
end Go.Proofs.YtinfnfgflcjfmaaGreatDoor

/-
  PLAIN: whether a place is an edge, told by looking back three bytes. No walk.
-/
namespace Go.Proofs.YtinfnfgflcjfmaaGreatDoor

/-- A rune of several bytes begins with a byte that begins runes. -/
theorem decN_lead {n b0 b1 b2 b3 R W : Nat} (h : Lib.decodeN n b0 b1 b2 b3 = (R, W)) (hW : 2 ≤ W) (h0 : b0 < 256) : b0 / 64 = 3 := by
  unfold Lib.decodeN at h
  repeat' split at h
  all_goals (injection h with _ h; omega)
theorem dec_lead {s : ByteArray} {i R W : Nat} (h : Utf8.decode s i = (R, W)) (hW : 2 ≤ W) : (s.get! i).toNat / 64 = 3 := by
  rw [Lib.decode_at] at h
  exact decN_lead h hW (s.get! i).toNat_lt
theorem decN_room {n b0 b1 b2 b3 R W : Nat} (h : Lib.decodeN n b0 b1 b2 b3 = (R, W)) (hW : 2 ≤ W) : W ≤ n := by
  unfold Lib.decodeN at h
  repeat' split at h
  all_goals (injection h with _ h; omega)
theorem dec_in {s : ByteArray} {i R W : Nat} (h : Utf8.decode s i = (R, W)) (hW : 2 ≤ W) : i + W ≤ s.size := by
  rw [Lib.decode_at] at h
  have := decN_room h hW; omega
/-- Looked back: does a rune that begins one, two or three bytes ahead reach over the place? -/
def edgeB (s : ByteArray) (z : Nat) : Bool := [1, 2, 3].all fun b => !(decide (b ≤ z) && decide (b < (Utf8.decode s (z - b)).2))
theorem place_gap (s : ByteArray) : ∀ (r : List (Nat × Nat × Nat)) (p z : Nat), Contig p r z → ∀ x ∈ r, ∀ y ∈ r, ¬ (x.2.1 < y.2.1 ∧ y.2.1 < x.2.2)
  | [], _, _, _, x, hx, _, _ => by simp at hx
  | a :: r, p, z, h, x, hx, y, hy => by
    obtain ⟨h1, h2, h3⟩ := h
    have hle : ∀ {r : List (Nat × Nat × Nat)} {p z : Nat}, Contig p r z → ∀ x ∈ r, p ≤ x.2.1 := by
      intro r
      induction r with
      | nil => intro p z _ x hx; simp at hx
      | cons w r ih =>
        intro p z h x hx
        obtain ⟨k1, k2, k3⟩ := h
        rcases List.mem_cons.1 hx with rfl | hx
        · omega
        · have := ih k3 x hx; omega
    rcases List.mem_cons.1 hx with ex | hx'
    · rcases List.mem_cons.1 hy with ey | hy'
      · rw [ex, ey]; omega
      · have := hle h3 y hy'; rw [ex]; omega
    · rcases List.mem_cons.1 hy with ey | hy'
      · have := hle h3 x hx'; rw [ey]; omega
      · exact place_gap s r _ z h3 x hx' y hy'
theorem in_rune : ∀ (r : List (Nat × Nat × Nat)) (p z q : Nat), Contig p r z → p ≤ q → q < z → ∃ x ∈ r, x.2.1 ≤ q ∧ q < x.2.2
  | [], p, z, q, h, h1, h2 => by have : p = z := h; omega
  | a :: r, p, z, q, h, h1, h2 => by
    obtain ⟨k1, k2, k3⟩ := h
    rcases Nat.lt_or_ge q a.2.2 with hlt | hge
    · exact ⟨a, by simp, by omega, hlt⟩
    · obtain ⟨x, hx, e⟩ := in_rune r _ z q k3 hge h2
      exact ⟨x, by simp [hx], e⟩
/-- An edge is a place where a rune begins, or the end. -/
theorem edge_iff (s : ByteArray) {z : Nat} (hz : z ≤ s.size) : edgeB s z = true ↔ PlaceAt s z := by
  unfold edgeB
  rw [List.all_eq_true]
  constructor
  · intro h
    rcases Nat.lt_or_ge z s.size with hlt | hge
    · obtain ⟨x, hx, h1, h2⟩ := in_rune _ 0 s.size z (runesP_contig s) (Nat.zero_le _) hlt
      have hb := runesP_bd x hx
      have hd := runesGo_dec _ _ x hx
      rcases Nat.lt_or_ge x.2.1 z with h3 | h3
      · exfalso
        have := h (z - x.2.1) (by simp; omega)
        rw [show z - (z - x.2.1) = x.2.1 by omega, hd] at this
        simp at this
        omega
      · exact .inr ⟨x, hx, by omega⟩
    · exact .inl (by omega)
  · intro hp b hb
    simp only [List.mem_cons, List.not_mem_nil, or_false] at hb
    rw [Bool.not_eq_true', Bool.and_eq_false_iff, decide_eq_false_iff_not, decide_eq_false_iff_not]
    by_cases hbz : b ≤ z
    · refine .inr fun hw => ?_
      obtain ⟨⟨R, W⟩, hD⟩ : ∃ d, Utf8.decode s (z - b) = d := ⟨_, rfl⟩
      rw [hD] at hw
      simp only at hw
      have hroom := dec_in hD (by omega)
      have hl := dec_lead hD (by omega)
      obtain ⟨x, hx, e⟩ := lead_at s (z := z - b) (by omega) (by omega) s.size 0 (by omega) (Nat.zero_le _)
      have hd := runesGo_dec _ _ x hx
      rw [e, hD] at hd
      injection hd with _ hd2
      have hbd := runesP_bd x hx
      rcases hp with h | ⟨y, hy, h⟩
      · omega
      · exact place_gap s _ 0 s.size (runesP_contig s) x hx y hy (by omega)
    · exact .inl hbz
end Go.Proofs.YtinfnfgflcjfmaaGreatDoor

/-
  PLAIN: the last rune of a text, as the library finds it from behind, is the last of its runes. No walk.
-/
namespace Go.Proofs.YtinfnfgflcjfmaaGreatDoor

theorem lastStart_eq (l : List UInt8) : Lib.lastStart l = if l.length < 2 then 0 else if Lib.runeStartB (l.getD (l.length - 2) 0) = true then l.length - 2 else if l.length < 3 then 0 else if Lib.runeStartB (l.getD (l.length - 3) 0) = true then l.length - 3 else if l.length < 4 then 0 else if Lib.runeStartB (l.getD (l.length - 4) 0) = true then l.length - 4 else if l.length < 5 then 0 else l.length - 5 := rfl
theorem start_iff (b : UInt8) : Lib.runeStartB b = true ↔ b.toNat / 64 ≠ 2 := by unfold Lib.runeStartB; simp
theorem dec_drop (s : ByteArray) (k : Nat) : Lib.decodeL (s.data.toList.drop k) = Utf8.decode s k := by
  unfold Lib.decodeL
  have h := Lib.tail_decode s k 0
  rw [Nat.add_zero] at h
  rw [← h]
  congr 1
  have : (s.extract k s.size).data.toList = s.data.toList.drop k := by
    rw [ByteArray.data_extract, Array.toList_extract, List.extract_eq_take_drop, List.take_of_length_le (by rw [List.length_drop, size_data]; exact Nat.le_refl _)]
  rw [← this]
theorem last_rune (s : ByteArray) {x : Nat × Nat × Nat} (hx : x ∈ runesP s) (he : x.2.2 = s.size) : Lib.decodeLastL s.data.toList = (x.1, x.2.2 - x.2.1) := by
  have hb := runesP_bd x hx
  have hd := runesGo_dec _ _ x hx
  have hsz := size_data s
  have hget : ∀ k, s.data.toList.getD k 0 = s.get! k := fun k => Lib.getD_get!' s k
  have hne : s.data.toList ≠ [] := fun h => by rw [h] at hsz; simp at hsz; omega
  -- no other rune ends there
  have huniq : ∀ y ∈ runesP s, y.2.1 < s.size → x.2.1 ≤ y.2.1 → y.2.1 = x.2.1 := fun y hy h1 h2 => by
    rcases Nat.lt_or_ge x.2.1 y.2.1 with h3 | h3
    · exact absurd ⟨h3, by omega⟩ (place_gap s _ 0 s.size (runesP_contig s) x hx y hy)
    · omega
  unfold Lib.decodeLastL
  rw [if_neg hne, hsz, hget]
  by_cases hasc : (s.get! (s.size - 1)).toNat < 128
  · rw [if_pos hasc]
    obtain ⟨y, hy, e⟩ := ascii_at s (z := s.size - 1) (by omega) hasc s.size 0 (by omega) (Nat.zero_le _)
    have := huniq y hy (by omega) (by omega)
    have hp : x.2.1 = s.size - 1 := by omega
    rw [hp, Lib.decode_at] at hd
    unfold Lib.decodeN at hd
    rw [if_pos hasc] at hd
    rw [hp, ← hd]
  · rw [if_neg hasc]
    have hst : Lib.lastStart s.data.toList < s.size ∧ (Lib.lastStart s.data.toList + 1 = s.size → s.size = 1) := by
      rw [lastStart_eq, hsz]
      repeat' split
      all_goals omega
    rw [dec_drop s _]
    simp only
    rcases Nat.lt_or_ge (x.2.2 - x.2.1) 2 with hW | hW
    · -- one byte
      have hp : x.2.1 = s.size - 1 := by omega
      have hW1 : x.2.2 - x.2.1 = 1 := by omega
      have hR : x.1 = 65533 := by
        rw [hW1, hp, Lib.decode_at] at hd
        unfold Lib.decodeN at hd
        rw [if_neg hasc] at hd
        repeat' split at hd
        all_goals (injection hd with h1 h2; omega)
      obtain ⟨⟨R', W'⟩, hD⟩ : ∃ d, Utf8.decode s (Lib.lastStart s.data.toList) = d := ⟨_, rfl⟩
      have hbd := dec_bd s _ hst.1
      rw [hD] at hbd ⊢
      simp only at hbd ⊢
      split
      · rename_i hsum
        rcases Nat.lt_or_ge W' 2 with h1 | h1
        · have h0 : Lib.lastStart s.data.toList = x.2.1 := by have := hst.2 (by omega); omega
          rw [h0, hd] at hD
          exact hD.symm
        · exfalso
          have hl := dec_lead hD h1
          obtain ⟨y, hy, e⟩ := lead_at s hst.1 (by omega) s.size 0 (by omega) (Nat.zero_le _)
          have hdy := runesGo_dec _ _ y hy
          rw [e, hD] at hdy
          injection hdy with _ h2
          have hby := runesP_bd y hy
          exact place_gap s _ 0 s.size (runesP_contig s) y hy x hx (by omega)
      · rw [hR, hW1]; rfl
    · -- several bytes
      have hl := dec_lead hd hW
      have htail : ∀ k, 0 < k → k < x.2.2 - x.2.1 → ¬ Lib.runeStartB (s.data.toList.getD (x.2.1 + k) 0) = true := fun k h0 h1 => by
        rw [start_iff, hget]
        have := dec_tail hd h0 h1
        omega
      have hlead : Lib.runeStartB (s.data.toList.getD x.2.1 0) = true := by rw [start_iff, hget]; omega
      have hls : Lib.lastStart s.data.toList = x.2.1 := by
        rw [lastStart_eq, hsz]
        rcases (show x.2.2 - x.2.1 = 2 ∨ x.2.2 - x.2.1 = 3 ∨ x.2.2 - x.2.1 = 4 by omega) with h | h | h
        · rw [if_neg (by omega), show s.size - 2 = x.2.1 by omega, if_pos hlead]
        · rw [if_neg (by omega), show s.size - 2 = x.2.1 + 1 by omega, if_neg (htail 1 (by omega) (by omega)), if_neg (by omega), show s.size - 3 = x.2.1 by omega, if_pos hlead]
        · rw [if_neg (by omega), show s.size - 2 = x.2.1 + 2 by omega, if_neg (htail 2 (by omega) (by omega)), if_neg (by omega), show s.size - 3 = x.2.1 + 1 by omega, if_neg (htail 1 (by omega) (by omega)), if_neg (by omega), show s.size - 4 = x.2.1 by omega, if_pos hlead]
      rw [hls, hd, if_pos (by simp only; omega)]
end Go.Proofs.YtinfnfgflcjfmaaGreatDoor

/-
  kerfref02.Hex: a rune's number in hexadecimal digits.
-/
namespace Go.Proofs.YtinfnfgflcjfmaaGreatDoor
open Go.RowKit

theorem hexW_succ (j n : Nat) : hexW (j + 1) n = hexD (n / 16 ^ j % 16) :: hexW j n := by
  induction j generalizing n with
  | zero => simp [hexW]
  | succ j ih => rw [hexW, ih, hexW, Nat.div_div_eq_div_mul, ← Nat.pow_succ']; rfl
theorem digits_at (d : Nat) (h : d < 16) : ((⟨#[48, 49, 50, 51, 52, 53, 54, 55, 56, 57, 65, 66, 67, 68, 69, 70]⟩ : ByteArray).extract d (d + 1)).data.toList = [hexD d] := by
  rcases (by omega : d = 0 ∨ d = 1 ∨ d = 2 ∨ d = 3 ∨ d = 4 ∨ d = 5 ∨ d = 6 ∨ d = 7 ∨ d = 8 ∨ d = 9 ∨ d = 10 ∨ d = 11 ∨ d = 12 ∨ d = 13 ∨ d = 14 ∨ d = 15) with rfl | rfl | rfl | rfl | rfl | rfl | rfl | rfl | rfl | rfl | rfl | rfl | rfl | rfl | rfl | rfl <;> rfl
/-- How far Hex has come. -/
def HexAt (r j x : Nat) (t : ByteArray) : Prop := x = r / 16 ^ j ∧ t.data.toList = hexW j r ∧ j ≤ hexK r
theorem hexAt_next {r j x d q : Nat} {t : ByteArray} (h : HexAt r j x t) (hr : r ≤ 1114111) (hc : 0 < x ∨ j < 4) (hd : x = 16 * q + d) (h16 : d < 16) :
    HexAt r (j + 1) q ((⟨#[48, 49, 50, 51, 52, 53, 54, 55, 56, 57, 65, 66, 67, 68, 69, 70]⟩ : ByteArray).extract d (d + 1) ++ t) := by
  obtain ⟨rfl, h2, h3⟩ := h
  refine ⟨by rw [Nat.pow_succ, ← Nat.div_div_eq_div_mul]; omega, ?_, ?_⟩
  · rw [ByteArray.data_append, Array.toList_append, digits_at d h16, h2, hexW_succ]
    have : r / 16 ^ j % 16 = d := by omega
    rw [this]; rfl
  · unfold hexK at h3 ⊢
    rcases hc with hc | hc
    · rcases (by omega : j < 4 ∨ j = 4 ∨ j = 5 ∨ 6 ≤ j) with h | rfl | rfl | h
      · split <;> (try split) <;> omega
      · have : 0 < r / 65536 := hc
        split <;> (try split) <;> omega
      · have : 0 < r / 1048576 := hc
        split <;> (try split) <;> omega
      · have h7 : 16 ^ 6 ≤ 16 ^ j := Nat.pow_le_pow_right (by omega) h
        have h8 : (16 : Nat) ^ 6 = 16777216 := by decide
        have h6 : r / 16 ^ j = 0 := Nat.div_eq_of_lt (Nat.lt_of_lt_of_le (show r < 16 ^ 6 by rw [h8]; omega) h7)
        omega
    · split <;> (try split) <;> omega
theorem hexAt_end {r j : Nat} {t : ByteArray} (h : HexAt r j 0 t) (h4 : 4 ≤ j) : t = ⟨(hexS r).toArray⟩ := by
  obtain ⟨h1, h2, h3⟩ := h
  have hj : j = hexK r := by
    unfold hexK at h3 ⊢
    have hlt : r < 16 ^ j := by
      rcases Nat.lt_or_ge r (16 ^ j) with h | h
      · exact h
      · have := Nat.div_pos h (Nat.pow_pos (by decide : 0 < 16)); omega
    rcases (by omega : j = 4 ∨ j = 5 ∨ 6 ≤ j) with rfl | rfl | h
    · have : r < 65536 := hlt
      rw [if_pos this]
    · have : r < 1048576 := hlt
      split at h3
      · omega
      · rw [if_neg (by assumption), if_pos this]
    · have h9 : (if r < 65536 then 4 else if r < 1048576 then 5 else 6) ≤ 6 := by split <;> (try split) <;> omega
      have h10 : j = 6 := by omega
      subst h10
      by_cases h11 : r < 65536
      · rw [if_pos h11] at h3; omega
      · by_cases h12 : r < 1048576
        · rw [if_neg h11, if_pos h12] at h3; omega
        · rw [if_neg h11, if_neg h12]
  subst hj
  apply ByteArray.ext
  rw [← Array.toList_inj, h2]; rfl
theorem hexAt_len {r j x : Nat} {t : ByteArray} (h : HexAt r j x t) : t.size = j := by rw [← size_data, h.2.1, hexW_len]

end Go.Proofs.YtinfnfgflcjfmaaGreatDoor

/-
  strings.Builder: copyCheck, WriteString (the shelf's layings fall at this dump).
-/
namespace Go.Proofs.YtinfnfgflcjfmaaGreatDoor
open Go.RowKit

theorem bldSize : (Tryz.prog.info? 179).map (·.size) = some 2 := by kernel_rfl
theorem bldLies : liesAt Tryz.prog Tryz.prog.depth 179 (2 / Tryz.prog.cellsOf 179) 0 179 1 = true := by kernel_rfl
theorem infoU8 : (Tryz.prog.info? 5).map (fun i => (i.zero, i.size, i.bytes)) = some (some (.int .u8 0), 1, 1) := by kernel_rfl

set_option maxRecDepth 100000 in
set_option maxHeartbeats 1000000 in
theorem copyCheck_fresh (b : Nat) (w : World) (h0 : w.cell? ⟨b, 0, none⟩ = some (.pointer none)) (hsh : w.shape? b = some (179, 2)) (hfz : w.frozen? ⟨b, 0, none⟩ = false) :
    Calls Tryz.prog 209 #[.pointer (some ⟨b, 0, none⟩)] w fun e w' => e = .returned (.tuple #[]) ∧ w.setCell ⟨b, 0, none⟩ (.pointer (some ⟨b, 0, none⟩)) = w' := by
  obtain ⟨j, hj, hjs⟩ := Option.map_eq_some_iff.1 bldSize
  go_enter Tryz.func209, Tryz.ntmps209
  go_wp2
  rw [Lib.run_to_unsafe w ⟨b, 0, none⟩ Tryz.underlying177 Tryz.underlying217 hj (by rw [hjs]; decide) hsh (Nat.zero_lt_succ 1)]
  simp only [Result.andThen]
  rw [Oper.upon_value]
  go_wp2
  rw [run_callFunc_extern Tryz.func231 (by kernel_rfl) (by kernel_rfl) (by kernel_rfl) (e := Extern.AbiNoEscape.same) (by kernel_rfl)]
  rw [Lib.run_noEscape]
  simp only [Result.andThen]
  rw [Oper.upon_value]
  go_wp2
  rw [Lib.run_from_unsafe w ⟨b, 0, none⟩ Tryz.underlying217 Tryz.underlying177 hj hsh bldLies]
  simp only [Result.andThen]
  rw [Oper.upon_value]
  go_wp2
  go_end0
  exact ⟨rfl, rfl⟩
set_option maxRecDepth 100000 in
set_option maxHeartbeats 1000000 in
theorem copyCheck_used (b : Nat) (w : World) (h0 : w.cell? ⟨b, 0, none⟩ = some (.pointer (some ⟨b, 0, none⟩))) :
    Calls Tryz.prog 209 #[.pointer (some ⟨b, 0, none⟩)] w fun e w' => e = .returned (.tuple #[]) ∧ w = w' := by
  obtain ⟨j, hj, _⟩ := Option.map_eq_some_iff.1 bldSize
  go_enter Tryz.func209, Tryz.ntmps209
  go_wp2
  rw [Lib.run_neq_ptr_same w _ Tryz.underlying177 hj]
  go_wp2
  go_end0
  exact ⟨rfl, rfl⟩
/-- A builder at block b that holds the bytes l; its row lies at B or beyond. -/
def Bld (w : World) (b B : Nat) (l : List UInt8) : Prop :=
  ∃ p v, (p = .pointer none ∨ p = .pointer (some ⟨b, 0, none⟩)) ∧ w.heap[b]? = some (.cells #[p, v] 179 (0, 0)) ∧ w.ownsRowF B 5 1 v l.length (Lib.byteCells l)
theorem Bld.new (w : World) (B : Nat) : Bld (w.alloc (.cells #[.pointer none, .slice none 0 0] 179)) w.heap.size B [] :=
  ⟨_, _, .inl rfl, heap_alloc_new w _, World.ownsRowF_nil _ _ _ _⟩
theorem Bld.lt {w : World} {b B : Nat} {l : List UInt8} (h : Bld w b B l) : b < w.heap.size := by
  obtain ⟨p, v, _, hb, _⟩ := h; exact (Array.getElem?_eq_some_iff.1 hb).1
theorem Bld.row_ne {w : World} {b B : Nat} {n : Nat} {xs : List Value} {cs : Array Value} {v : Value} (hown : w.ownsRowF B 5 1 v n xs) (hb : w.heap[b]? = some (.cells cs 179 (0, 0))) : v.ownBlock ≠ some b := Lib.ownBlock_neF hown hb (by decide)
theorem Bld.keep {w w' : World} {b B : Nat} {l : List UInt8} (h : Bld w b B l) (hs : ∀ (k : Nat) (o : Obj), w.heap[k]? = some o → o.isCells = true → k = b ∨ B ≤ k → w'.heap[k]? = some o) : Bld w' b B l := by
  obtain ⟨p, v, hp, hb, hown⟩ := h
  refine ⟨p, v, hp, hs b _ hb rfl (.inl rfl), hown.1, ?_⟩
  rcases hown.2 with h0 | ⟨g, cap, cur, fz, hv, hg, hh, r⟩
  · exact .inl h0
  · exact .inr ⟨g, cap, cur, fz, hv, hg, hs g _ hh rfl (.inr hg), r⟩
theorem Bld.below {w w' : World} {b B : Nat} {l : List UInt8} (h : Bld w b B l) (hb : Below w.heap.size w w') : Bld w' b B l := h.keep fun k _ hk _ _ => (hb.block k (Array.getElem?_eq_some_iff.1 hk).1).trans hk
theorem Bld.kept {w w' : World} {row : Option Nat} {b B : Nat} {l : List UInt8} (h : Bld w b B l) (hg : w.grownBy w' row) (hr : ∀ r, row = some r → ∃ o : Obj, w.heap[r]? = some o ∧ o.isCells = false) : Bld w' b B l :=
  h.keep fun k o hk hc _ => (hg.block k (Array.getElem?_eq_some_iff.1 hk).1 (by
    rintro rfl
    obtain ⟨o', h1, h2⟩ := hr k rfl
    rw [hk] at h1; cases h1; rw [hc] at h2; cases h2)).trans hk
theorem Bld.more {w : World} {b B B' : Nat} {l : List UInt8} (h : Bld w b B l) (hB : B' ≤ B) : Bld w b B' l := by
  obtain ⟨p, v, hp, hb, hown⟩ := h
  refine ⟨p, v, hp, hb, hown.1, ?_⟩
  rcases hown.2 with h0 | ⟨g, cap, cur, fz, hv, hg, r⟩
  · exact .inl h0
  · exact .inr ⟨g, cap, cur, fz, hv, by omega, r⟩
theorem Bld.is {w : World} {b B : Nat} {l : List UInt8} (h : Bld w b B l) (hB : b ≤ B) : Lib.IsBuilderF 179 5 b b (Lib.byteCells l) w := by
  obtain ⟨p, v, hp, hb, hown⟩ := h.more hB
  have hl : (Lib.byteCells l).length = l.length := Lib.byteCells_length l
  rcases hp with rfl | rfl
  · exact .inl ⟨Nat.le_refl _, v, hb, by rw [hl]; exact hown, Bld.row_ne hown hb⟩
  · exact .inr ⟨Nat.le_refl _, v, hb, by rw [hl]; exact hown, Bld.row_ne hown hb⟩
theorem bString_any (b B : Nat) (l : List UInt8) (w : World) (h : Bld w b B l) (hB : b ≤ B) :
    Calls Tryz.prog 185 #[.pointer (some ⟨b, 0, none⟩)] w fun e w' => e = .returned (.string ⟨l.toArray⟩) ∧ Below b w w' ∧ Lib.OthersKept 5 (some b) w w' :=
  (Tryz.Builder_String_any_k b b l w (h.is hB) (Nat.le_of_lt h.lt)).mono fun _ _ ⟨h1, _, h2, h3⟩ => ⟨h1, h2, h3⟩

set_option maxRecDepth 100000 in
set_option maxHeartbeats 1000000 in
theorem lWriteString_any (b B : Nat) (l : List UInt8) (s : ByteArray) (w : World) (h : Bld w b B l) (hbB : b < B) (hlen : l.length + s.size ≤ 140737488355328) (hBw : B ≤ w.heap.size) :
    Calls Tryz.prog 184 #[.pointer (some ⟨b, 0, none⟩), .string s] w fun e w' => e = .returned (.tuple #[.int .i64 s.size, .nilIface]) ∧ Bld w' b B (l ++ s.data.toList) ∧ Below b w w' ∧ (∀ k, k ≠ b → k < B → w'.heap[k]? = w.heap[k]?) ∧ KeepsOthers w w' := by
  obtain ⟨i0, hi, hz0, hz1, hz2⟩ := info_parts infoU8
  obtain ⟨p, v, hp, hbk, hown⟩ := h
  have hcells : ∀ o, w.heap[b]? = some o → o.isCells = true := fun o ho => by rw [hbk] at ho; cases ho; rfl
  have Hcells := Lib.hid hcells
  clear hcells
  have Hchk : Hid (Calls Tryz.prog 209 #[.pointer (some ⟨b, 0, none⟩)] w fun e w' => e = .returned (.tuple #[]) ∧ w'.heap[b]? = some (.cells #[.pointer (some ⟨b, 0, none⟩), v] 179 (0, 0)) ∧ w'.ownsRowF B 5 1 v l.length (Lib.byteCells l) ∧ w.grownBy w' (some b)) := by
    rcases hp with rfl | rfl
    · refine Lib.hid ((copyCheck_fresh b w (by rw [Lib.cell_of_heap hbk]; rfl) (by simp [World.shape?, hbk]) (Lib.frozen_of_heap hbk 0)).mono ?_)
      rintro e w' ⟨rfl, rfl⟩
      have hg : w.grownBy (w.setCell ⟨b, 0, none⟩ (.pointer (some ⟨b, 0, none⟩))) (some b) :=
        ⟨rfl, rfl, rfl, by simp [World.setCell], fun k _ hk => Below.heap_setCell w ⟨b, 0, none⟩ _ k (fun e => hk (by rw [e]))⟩
      refine ⟨rfl, ?_, hown.kept hg ?_, hg⟩
      · simp [World.setCell, Array.getElem?_modify, hbk]
      · exact .inr (Bld.row_ne hown hbk)
    · refine Lib.hid ((copyCheck_used b w (by rw [Lib.cell_of_heap hbk]; rfl)).mono ?_)
      rintro e w' ⟨rfl, rfl⟩
      exact ⟨rfl, hbk, hown, World.grownBy.refl _ _⟩
  clear hp hown hbk
  go_enter Tryz.func184, Tryz.ntmps184
  go_wp2_with fail
  refine Hchk.out.mono ?_
  clear Hchk
  rintro e w1 ⟨rfl, hbk, hown, hg1⟩
  have c0 : w1.cell? ⟨b, 0, none⟩ = some (.pointer (some ⟨b, 0, none⟩)) := by rw [Lib.cell_of_heap hbk]; rfl
  have c1 : w1.cell? ⟨b, 1, none⟩ = some v := by rw [Lib.cell_of_heap hbk]; rfl
  have hs1 := hg1.size
  go_wp2_with (at_builtin; refine Lib.wpList_append_own_stringF _ rfl _ _ 96 9 rfl B 5 i0 Tryz.underlying96 Tryz.underlying9 hi hz0 hz1 hz2 _ _ _ rfl hown s rfl ?c3 ?c4 ?c5 ?_)
  case c3 => unfold maxLen; omega
  case c4 => omega
  case c5 => omega
  intro v' w2 hown' hgrow _
  have hlt : b < w1.heap.size := (Array.getElem?_eq_some_iff.1 hbk).1
  have hne := Bld.row_ne hown hbk
  have hb2 : w2.heap[b]? = some (.cells #[.pointer (some ⟨b, 0, none⟩), v] 179 (0, 0)) := by
    rw [hgrow.block b hlt (fun e => hne e.symm)]
    exact hbk
  have d0 : w2.cell? ⟨b, 0, none⟩ = some (.pointer (some ⟨b, 0, none⟩)) := by rw [Lib.cell_of_heap hb2]; rfl
  have d1 : w2.cell? ⟨b, 1, none⟩ = some v := by rw [Lib.cell_of_heap hb2]; rfl
  have f1 : w2.frozen? ⟨b, 1, none⟩ = false := Lib.frozen_of_heap hb2 1
  obtain ⟨ao, n', cap, rfl⟩ : ∃ ao n' cap, v' = .slice ao n' cap := by
    rcases hown'.2 with ⟨hv, _⟩ | ⟨g, cap, cur, fz, hv, _⟩
    · exact ⟨_, _, _, hv⟩
    · exact ⟨_, _, _, hv⟩
  have hs2 := hgrow.size
  go_wp2
  go_ret2
  have hblk : ∀ k, k ≠ b → k < B → (w2.setCell ⟨b, 1, none⟩ (.slice ao n' cap)).heap[k]? = w.heap[k]? := fun k hk hkB => by
    rw [Below.heap_setCell w2 ⟨b, 1, none⟩ _ k hk, hgrow.block k (by omega) (fun e => by have := (hown.lt k e.symm).1; omega), hg1.block k (by omega) (fun e => by injection e; omega)]
  refine ⟨rfl, ⟨_, .slice ao n' cap, .inr rfl, ?_, ?_⟩, ⟨?_, ?_, ?_, ?_, fun k hk => hblk k (by omega) (by omega)⟩, hblk, ?_⟩
  · simp [World.setCell, Array.getElem?_modify, hb2]
  · have hne' := Bld.row_ne hown' hb2
    have hg3 : w2.grownBy (w2.setCell ⟨b, 1, none⟩ (.slice ao n' cap)) (some b) :=
      ⟨rfl, rfl, rfl, by simp [World.setCell], fun k _ hk => Below.heap_setCell w2 ⟨b, 1, none⟩ _ k (fun e => hk (by rw [e]))⟩
    have h := hown'.kept hg3 (.inr hne')
    have e1 : Lib.byteCells (l ++ s.data.toList) = Lib.byteCells l ++ Lib.strCells s := by simp [Lib.byteCells, Lib.strCells]
    rw [e1, List.length_append, Array.length_toList]
    exact h
  · exact hgrow.os.trans hg1.os
  · exact hgrow.tape.trans hg1.tape
  · exact hgrow.output.trans hg1.output
  · simp [World.setCell]; omega
  · refine ⟨by simp [World.setCell]; omega, fun k o hk ho => ?_⟩
    have hkb : k ≠ b := fun e => by
      subst e
      have := Hcells.out o hk
      rw [ho] at this; cases this
    rw [Below.heap_setCell w2 ⟨b, 1, none⟩ _ k hkb, hgrow.block k (by have := (Array.getElem?_eq_some_iff.1 hk).1; omega) ?_, hg1.block k (Array.getElem?_eq_some_iff.1 hk).1 (fun e => by injection e; omega)]
    · exact hk
    · intro e
      obtain ⟨c, fz, hc⟩ := Lib.ownsRowF_kind hown k e.symm
      rw [hg1.block k (Array.getElem?_eq_some_iff.1 hk).1 (fun e => by injection e; omega), hk] at hc
      cases hc; cases ho
end Go.Proofs.YtinfnfgflcjfmaaGreatDoor

/-
  strings.Builder: Grow at a fresh builder; WriteByte.
-/
namespace Go.Proofs.YtinfnfgflcjfmaaGreatDoor
open Go.RowKit

theorem bGrow_any (b n : Nat) (w : World) (hbk : w.heap[b]? = some (.cells #[.pointer none, .slice none 0 0] 179 (0, 0))) (hn : n ≤ 281474976710656) :
    Calls Tryz.prog 183 #[.pointer (some ⟨b, 0, none⟩), .int .i64 n] w fun e w' => e = .returned (.tuple #[]) ∧ Bld w' b (b + 1) [] ∧ Below b w w' := by
  have hlt : b < w.heap.size := (Array.getElem?_eq_some_iff.1 hbk).1
  refine (Tryz.Builder_Grow_fresh b b n w (Nat.le_refl _) hbk (Nat.le_of_lt hlt) hn).mono ?_
  rintro e w' ⟨rfl, ⟨_, v, h1, h2, h3⟩, hb⟩
  refine ⟨rfl, ⟨_, v, .inr rfl, h1, ?_⟩, hb⟩
  have h4 := World.ownsRowF_of h2
  refine ⟨h4.1, ?_⟩
  rcases h4.2 with h | ⟨g, cap, cur, fz, hv, hg, r⟩
  · exact .inl h
  · refine .inr ⟨g, cap, cur, fz, hv, ?_, r⟩
    rw [hv] at h3
    have : g ≠ b := fun e => h3 (by rw [e]; rfl)
    omega

theorem cell_new1 (w : World) {t : TypeId} (x : Value) : ∀ j u, [x][j]? = some u → (w.alloc (.cells #[x] t)).cell? ((⟨w.heap.size, 0, none⟩ : Addr).add j) = some u := fun j u h => by
  match j, h with
  | 0, h =>
    obtain rfl : x = u := by simpa using h
    exact (Blk.new w t #[x]).cell 0

end Go.Proofs.YtinfnfgflcjfmaaGreatDoor

/-
  strings.ToUpper of a text of ASCII bytes.
-/
namespace Go.Proofs.YtinfnfgflcjfmaaGreatDoor
open Go.RowKit

def upB (c : UInt8) : UInt8 := if 97 ≤ c.toNat ∧ c.toNat ≤ 122 then c - 32 else c
def lowP (c : UInt8) : Prop := 97 ≤ c.toNat ∧ c.toNat ≤ 122
theorem upB_low {c : UInt8} (h : lowP c) : upB c = c - 32 := if_pos h
theorem upB_not {c : UInt8} (h : ¬ lowP c) : upB c = c := if_neg h
theorem upB_nat {c : UInt8} (h : lowP c) : ((c - 32 : UInt8).toNat : Int) = (c.toNat : Int) - 32 := by
  have h1 : (32 : UInt8) ≤ c := by rw [UInt8.le_iff_toNat_le]; have := h.1; show 32 ≤ c.toNat; omega
  rw [UInt8.toNat_sub_of_le _ _ h1]
  have := h.1
  show ((c.toNat - 32 : Nat) : Int) = _
  omega
/-- How far the upper-case text has come. -/
def UpAt (s : ByteArray) (i p : Nat) (l : List UInt8) : Prop := p ≤ i ∧ i ≤ s.size ∧ l = (s.data.toList.take p).map upB ∧ ∀ k c, p ≤ k → k < i → s.data.toList[k]? = some c → ¬ lowP c
theorem map_not {l : List UInt8} (h : ∀ c ∈ l, ¬ lowP c) : l.map upB = l := by
  induction l with
  | nil => rfl
  | cons c l ih => rw [List.map_cons, upB_not (h c (by simp)), ih (fun d hd => h d (by simp [hd]))]
theorem upAt_seg {s : ByteArray} {i p : Nat} {l : List UInt8} (h : UpAt s i p l) : l ++ (s.extract p i).data.toList = (s.data.toList.take i).map upB := by
  obtain ⟨h1, h2, rfl, h4⟩ := h
  have e : s.data.toList.take i = s.data.toList.take p ++ (s.extract p i).data.toList := by
    rw [Lib.extract_data, ← List.drop_take]
    have := (List.take_append_drop p (s.data.toList.take i)).symm
    rw [List.take_take, Nat.min_eq_left h1] at this
    exact this
  rw [e, List.map_append, map_not (l := (s.extract p i).data.toList)]
  intro c hc
  obtain ⟨k, hk, hkc⟩ := List.getElem_of_mem hc
  have hk' : (s.extract p i).data.toList[k]? = some c := by rw [List.getElem?_eq_getElem hk, hkc]
  rw [Lib.extract_data] at hk'
  have hlt : k < i - p := by
    have := (List.getElem?_eq_some_iff.1 hk').1
    rw [List.length_take] at this; omega
  rw [List.getElem?_take_of_lt hlt, List.getElem?_drop] at hk'
  exact h4 (p + k) c (by omega) (by omega) hk'
theorem upAt_skip {s : ByteArray} {i p : Nat} {l : List UInt8} {c : UInt8} (h : UpAt s i p l) (hi : i < s.size) (hc : s.data.toList[i]? = some c) (hn : ¬ lowP c) : UpAt s (i + 1) p l :=
  ⟨by have := h.1; omega, by omega, h.2.2.1, fun k d hk hk2 hd => by
    rcases Nat.lt_or_ge k i with hlt | hge
    · exact h.2.2.2 k d hk hlt hd
    · obtain rfl : k = i := by omega
      rw [hc] at hd; cases hd; exact hn⟩
theorem upAt_put {s : ByteArray} {i p : Nat} {l : List UInt8} {c : UInt8} (h : UpAt s i p l) (hi : i < s.size) (hc : s.data.toList[i]? = some c) (hn : lowP c) : UpAt s (i + 1) (i + 1) (l ++ (s.extract p i).data.toList ++ [c - 32]) :=
  ⟨by omega, by omega, by rw [upAt_seg h, List.take_add_one, hc, Option.toList_some, List.map_append, List.map_singleton, upB_low hn], fun k d hk hk2 _ => by omega⟩
theorem upAt_len {s : ByteArray} {i p : Nat} {l : List UInt8} (h : UpAt s i p l) : l.length = p := by
  have h1 := h.1; have h2 := h.2.1
  rw [h.2.2.1, List.length_map, List.length_take, size_data]; omega

end Go.Proofs.YtinfnfgflcjfmaaGreatDoor

/-
  strings.Repeat of one nought, up to three times.
-/
namespace Go.Proofs.YtinfnfgflcjfmaaGreatDoor
open Go.RowKit

theorem hasPre_any (s p : ByteArray) (b : Bool) (w : World) (h : Lib.hasPrefix s.data.toList p.data.toList = b) : Calls Tryz.prog 205 #[.string s, .string p] w fun e w' => e = .returned (.bool b) ∧ w = w' :=
  (Tryz.strings_HasPrefix s p w).mono fun _ _ ⟨h1, h2⟩ => ⟨by rw [h1, h], h2.symm⟩
end Go.Proofs.YtinfnfgflcjfmaaGreatDoor

/-
  runes.spell: a rune's spelling.
-/
namespace Go.Proofs.YtinfnfgflcjfmaaGreatDoor
open Go.RowKit

theorem upB_lowD (d : Nat) (h : d < 16) : upB (lowD d) = hexD d := by
  rcases (by omega : d = 0 ∨ d = 1 ∨ d = 2 ∨ d = 3 ∨ d = 4 ∨ d = 5 ∨ d = 6 ∨ d = 7 ∨ d = 8 ∨ d = 9 ∨ d = 10 ∨ d = 11 ∨ d = 12 ∨ d = 13 ∨ d = 14 ∨ d = 15) with rfl | rfl | rfl | rfl | rfl | rfl | rfl | rfl | rfl | rfl | rfl | rfl | rfl | rfl | rfl | rfl <;> rfl
theorem lowD_lt (d : Nat) (h : d < 16) : (lowD d).toNat < 128 := by
  rcases (by omega : d = 0 ∨ d = 1 ∨ d = 2 ∨ d = 3 ∨ d = 4 ∨ d = 5 ∨ d = 6 ∨ d = 7 ∨ d = 8 ∨ d = 9 ∨ d = 10 ∨ d = 11 ∨ d = 12 ∨ d = 13 ∨ d = 14 ∨ d = 15) with rfl | rfl | rfl | rfl | rfl | rfl | rfl | rfl | rfl | rfl | rfl | rfl | rfl | rfl | rfl | rfl <;> decide
theorem up_lowW : ∀ (k n : Nat), (lowW k n).map upB = hexW k n
  | 0, _ => rfl
  | k + 1, n => by rw [lowW, List.map_append, up_lowW k, List.map_singleton, upB_lowD _ (Nat.mod_lt _ (by decide)), hexW]
theorem lowW_ascii : ∀ (k n : Nat), ∀ c ∈ lowW k n, c.toNat < 128
  | 0, _, c, h => by simp [lowW] at h
  | k + 1, n, c, h => by
    rw [lowW] at h
    rcases List.mem_append.1 h with h | h
    · exact lowW_ascii k _ c h
    · simp at h; subst h; exact lowD_lt _ (Nat.mod_lt _ (by decide))
theorem hex_pad (n : Nat) : List.replicate (4 - hexL n) (48 : UInt8) ++ hexW (hexL n) n = hexS n := by
  unfold hexS
  by_cases h1 : n < 16
  · have e1 : hexL n = 1 := by unfold hexL; rw [if_pos h1]
    have e2 : hexK n = 4 := by unfold hexK; rw [if_pos (by omega)]
    rw [e1, e2, hexW_succ 3, hexW_succ 2, hexW_succ 1]
    have a1 : n / 16 ^ 3 % 16 = 0 := by rw [show (16 : Nat) ^ 3 = 4096 by decide]; omega
    have a2 : n / 16 ^ 2 % 16 = 0 := by rw [show (16 : Nat) ^ 2 = 256 by decide]; omega
    have a3 : n / 16 ^ 1 % 16 = 0 := by rw [show (16 : Nat) ^ 1 = 16 by decide]; omega
    rw [a1, a2, a3]; rfl
  · by_cases h2 : n < 256
    · have e1 : hexL n = 2 := by unfold hexL; rw [if_neg h1, if_pos h2]
      have e2 : hexK n = 4 := by unfold hexK; rw [if_pos (by omega)]
      rw [e1, e2, hexW_succ 3, hexW_succ 2]
      have a1 : n / 16 ^ 3 % 16 = 0 := by rw [show (16 : Nat) ^ 3 = 4096 by decide]; omega
      have a2 : n / 16 ^ 2 % 16 = 0 := by rw [show (16 : Nat) ^ 2 = 256 by decide]; omega
      rw [a1, a2]; rfl
    · by_cases h3 : n < 4096
      · have e1 : hexL n = 3 := by unfold hexL; rw [if_neg h1, if_neg h2, if_pos h3]
        have e2 : hexK n = 4 := by unfold hexK; rw [if_pos (by omega)]
        rw [e1, e2, hexW_succ 3]
        have a1 : n / 16 ^ 3 % 16 = 0 := by rw [show (16 : Nat) ^ 3 = 4096 by decide]; omega
        rw [a1]; rfl
      · have e1 : hexL n = hexK n := by unfold hexL; rw [if_neg h1, if_neg h2, if_neg h3]
        have := hexK_bd n
        rw [e1, show 4 - hexK n = 0 by omega]; rfl

theorem ret_str {x y : ByteArray} (h : x.data.toList = y.data.toList) : Ending.returned (.string x) = .returned (.string y) := by
  rw [ByteArray.ext (Array.toList_inj.1 h)]

end Go.Proofs.YtinfnfgflcjfmaaGreatDoor

/-
  strings.Join with one blank between.
-/
namespace Go.Proofs.YtinfnfgflcjfmaaGreatDoor
open Go.RowKit

def joinL : List ByteArray → List UInt8
  | [] => []
  | [x] => x.data.toList
  | x :: y :: r => x.data.toList ++ 32 :: joinL (y :: r)
theorem joinL_snoc : ∀ (l : List ByteArray) (x : ByteArray), l ≠ [] → joinL (l ++ [x]) = joinL l ++ [32] ++ x.data.toList
  | [], _, h => absurd rfl h
  | [y], x, _ => by simp [joinL]
  | y :: z :: r, x, _ => by
    have ih := joinL_snoc (z :: r) x (by simp)
    simp only [List.cons_append, joinL] at ih ⊢
    rw [ih]; simp
theorem joinL_len : ∀ (l : List ByteArray), (∀ x ∈ l, x.size ≤ 1000) → (joinL l).length ≤ 1001 * l.length
  | [], _ => by simp [joinL]
  | [x], h => by have := h x (by simp); simp [joinL] at this ⊢; have h2 : x.data.size = x.size := rfl; omega
  | x :: y :: r, h => by
    have h1 := h x (by simp)
    have ih := joinL_len (y :: r) (fun z hz => h z (by simp [hz]))
    have h2 := size_data x
    rw [joinL, List.length_append, List.length_cons, h2]
    simp only [List.length_cons] at ih ⊢
    omega
theorem joinL_step {ss : List ByteArray} {k : Nat} {x : ByteArray} (h : ss[k + 1]? = some x) : joinL (ss.take (k + 1 + 1)) = joinL (ss.take (k + 1)) ++ [32] ++ x.data.toList := by
  rw [List.take_add_one (i := k + 1), h, Option.toList_some, joinL_snoc]
  intro e
  have h1 : (ss.take (k + 1)).length = 0 := by rw [e]; rfl
  have h2 := (List.getElem?_eq_some_iff.1 h).1
  rw [List.length_take] at h1
  omega

end Go.Proofs.YtinfnfgflcjfmaaGreatDoor

/-
  kerfref02.Print: the spelling of a set.
-/
namespace Go.Proofs.YtinfnfgflcjfmaaGreatDoor
open Go.RowKit

theorem infoU8' : (Tryz.prog.info? 5).map (fun i => (i.zero, i.size, i.bytes)) = some (some (.int .u8 0), 1, 1) := by kernel_rfl
/-- Bytes that are the call's own. -/
def OwnB (w : World) (B : Nat) (v : Value) (l : List UInt8) : Prop := w.ownsRow B 5 1 v l.length (Lib.byteCells l)
theorem OwnB.below {w w' : World} {B : Nat} {v : Value} {l : List UInt8} (h : OwnB w B v l) (hb : Below w.heap.size w w') : OwnB w' B v l := by
  unfold OwnB at h ⊢
  refine ⟨h.1, ?_⟩
  rcases h.2 with h0 | ⟨g, cap, cur, hv, hg, hh, r⟩
  · exact .inl h0
  · exact .inr ⟨g, cap, cur, hv, hg, (hb.block g (Array.getElem?_eq_some_iff.1 hh).1).trans hh, r⟩
theorem OwnB.convert {w : World} {B : Nat} {v : Value} {l : List UInt8} (h : OwnB w B v l) : (convert 96 9 v).run Tryz.prog w = .ok (.string ⟨l.toArray⟩) w := by
  unfold OwnB at h
  rcases h.2 with ⟨rfl, h0⟩ | ⟨g, cap, cur, rfl, _, hg, _, _, _, ht⟩
  · have : l = [] := List.length_eq_zero_iff.1 h0
    subst this
    exact Lib.run_convert_nil_bytes w 96 9 5 0 Tryz.underlying96 Tryz.underlying5 Tryz.underlying9
  · exact run_convert_bytes_back w 96 9 5 ⟨g, 0, none⟩ cap l Tryz.underlying96 Tryz.underlying5 Tryz.underlying9 (Lib.bytes_of_row hg (by simpa using ht))
theorem OwnB.lt {w : World} {B : Nat} {v : Value} {l : List UInt8} (h : OwnB w B v l) : ∀ k, v.ownBlock = some k → B ≤ k := fun k hk => (World.ownsRow.lt h k hk).1
theorem OwnB.str {w : World} {B : Nat} {v : Value} {l : List UInt8} {s : ByteArray} {n : Nat} (h : w.ownsRow B 5 1 v (n + s.size) (Lib.byteCells l ++ Lib.strCells s)) (hn : n = l.length) : OwnB w B v (l ++ s.data.toList) := by
  unfold OwnB
  subst hn
  have e1 : Lib.byteCells (l ++ s.data.toList) = Lib.byteCells l ++ Lib.strCells s := by simp [Lib.byteCells, Lib.strCells]
  rw [e1, List.length_append, Array.length_toList]
  exact h
theorem OwnB.byte {w : World} {B : Nat} {v : Value} {l : List UInt8} {c : UInt8} {n : Nat} (h : w.ownsRow B 5 1 v (n + 1) (Lib.byteCells l ++ [.int .u8 c.toNat])) (hn : n = l.length) : OwnB w B v (l ++ [c]) := by
  unfold OwnB
  subst hn
  have e1 : Lib.byteCells (l ++ [c]) = Lib.byteCells l ++ [.int .u8 c.toNat] := by simp [Lib.byteCells]
  rw [e1, List.length_append]
  exact h
theorem OwnB.form {w : World} {B : Nat} {v : Value} {l : List UInt8} (h : OwnB w B v l) : ∃ A n c, v = .slice A n c := by
  unfold OwnB at h
  rcases h.2 with ⟨rfl, _⟩ | ⟨g, cap, cur, rfl, _⟩
  · exact ⟨_, _, _, rfl⟩
  · exact ⟨_, _, _, rfl⟩
theorem cell_grown {w w' : World} {o : Obj} {B b i : Nat} {v u : Value} {l : List UInt8} (hu : w.cell? ⟨b, i, none⟩ = some u) (ho : OwnB (w.alloc o) B v l) (hg : (w.alloc o).grownBy w' v.ownBlock) (hb : b < B) : w'.cell? ⟨b, i, none⟩ = some u := by
  have h1 : (w.alloc o).cell? ⟨b, i, none⟩ = some u := cell_keep hu ((Below.refl _ _).alloc (Nat.le_refl _) o)
  exact (World.cell?_of_block (hg.block b (cell_lt h1) (fun e => by have := ho.lt b e.symm; omega))).trans h1
theorem cell_grownS {w w' : World} {B b i : Nat} {v u : Value} {l : List UInt8} (hu : w.cell? ⟨b, i, none⟩ = some u) (ho : OwnB w B v l) (hg : w.grownBy w' v.ownBlock) (hb : b < B) : w'.cell? ⟨b, i, none⟩ = some u :=
  (World.cell?_of_block (hg.block b (cell_lt hu) (fun e => by have := ho.lt b e.symm; omega))).trans hu
theorem below_ownB {B : Nat} {a w w' : World} {v : Value} {l : List UInt8} (h : Below B a w) (ho : OwnB w B v l) (hg : w.grownBy w' v.ownBlock) (hB : B ≤ w.heap.size) : Below B a w' := h.grown hg hB fun k hk => ho.lt k hk
theorem cell_newB (w : World) {t : TypeId} (x : Value) : ∀ j u, [x][j]? = some u → (w.alloc (.cells #[x] t)).cell? ((⟨w.heap.size, 0, none⟩ : Addr).add j) = some u := fun j u h => by
  match j, h with
  | 0, h =>
    obtain rfl : x = u := by simpa using h
    exact (Blk.new w t #[x]).cell 0

end Go.Proofs.YtinfnfgflcjfmaaGreatDoor

