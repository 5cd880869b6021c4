/-
  kerfref02.First, digit, Quoted.
-/
import Derived.Test.YteelepiaegpkhaaGreatDoorRefT
import Derived.Lib.DecodeN
namespace Go.Proofs.YteelepiaegpkhaaGreatDoor
open Go.RowKit

theorem ret_eq {v v' : Value} (h : v = v') : Ending.returned v = .returned v' := by rw [h]

def digP (c : Int) : Int × Bool := if isHexN c then (hexDig c, true) else (0, false)
theorem digP_t {c : Int} (h : isHexN c = true) : digP c = (hexDig c, true) := if_pos h
theorem digP_f {c : Int} (h : isHexN c = false) : digP c = (0, false) := if_neg (by rw [h]; exact Bool.false_ne_true)
theorem get_bang (s : ByteArray) (i : Nat) : s.get! i = s.data.toList.getD i 0 := by
  cases s with
  | mk d =>
    show d[i]! = d.toList.getD i 0
    by_cases h : i < d.size
    · rw [getElem!_pos d i h]; simp [List.getD, h]
    · rw [getElem!_neg d i h]; simp [List.getD, h]; rfl
theorem decodeN_more {n m : Nat} (b0 b1 b2 b3 : Nat) (hn : 4 ≤ n) (hm : 4 ≤ m) : Lib.decodeN n b0 b1 b2 b3 = Lib.decodeN m b0 b1 b2 b3 := by
  unfold Lib.decodeN
  simp only [show 1 < n by omega, show 2 < n by omega, show 3 < n by omega, show 1 < m by omega, show 2 < m by omega, show 3 < m by omega]
theorem window_get (s : ByteArray) (p e j : Nat) (he : e = min (p + 5) s.size) (hj : j < 4) : (s.extract p e).get! j = s.get! (p + j) := by
  rw [get_bang, get_bang, Lib.extract_data]
  by_cases h : p + j < s.size
  · simp [List.getD, List.getElem?_drop, show j < e - p by omega]
  · have h1 : s.data.toList.length ≤ p + j := by rw [size_data]; omega
    simp only [List.getD, List.getElem?_take, List.getElem?_drop]
    rw [List.getElem?_eq_none h1]
    split <;> rfl
/-- A window of five bytes shows the rune that stands there. -/
theorem decode_window (s : ByteArray) (p e : Nat) (hp : p < s.size) (he : e = min (p + 5) s.size) : Utf8.decode (s.extract p e) 0 = Utf8.decode s p := by
  have hsz : (s.extract p e).size = e - p := by rw [← size_data, Lib.extract_data, List.length_take, List.length_drop, size_data]; omega
  have g0 := window_get s p e 0 he (by omega)
  have g1 := window_get s p e 1 he (by omega)
  have g2 := window_get s p e 2 he (by omega)
  have g3 := window_get s p e 3 he (by omega)
  rw [Lib.decode_at, Lib.decode_at, hsz]
  simp only [Nat.zero_add, Nat.add_zero, Nat.sub_zero] at g0 g1 g2 g3 ⊢
  rw [g0, g1, g2, g3]
  by_cases h5 : s.size - p < 5
  · rw [show e - p = s.size - p by omega]
  · exact decodeN_more _ _ _ _ (by omega) (by omega)
theorem first_window (s : ByteArray) (a e : Nat) (ha : a ≤ s.size) (he : e = min (a + 5) s.size) : ((firstP (s.extract a e)).2 = (runeAt s a).2) ∧ ((runeAt s a).2 ≠ 0 → (firstP (s.extract a e)).1 = (runeAt s a).1) := by
  have hsz : (s.extract a e).size = e - a := by rw [← size_data, Lib.extract_data, List.length_take, List.length_drop, size_data]; omega
  rw [firstP_eq, hsz]
  unfold runeAt
  by_cases h : a < s.size
  · rw [if_pos (by omega), if_pos h, decode_window s a e h he]
    exact ⟨rfl, fun _ => rfl⟩
  · rw [if_neg (by omega), if_neg h]
    exact ⟨rfl, fun h => absurd rfl h⟩

/-- A rune between two ' : the rune, its width, and whether all of it is there. -/
def quotedP (s : ByteArray) (a : Nat) : Nat × Nat × Bool :=
  if (rest s a).head? = some 39 ∧ (runeAt s (a + 1)).2 ≠ 0 ∧ (rest s (a + 1 + (runeAt s (a + 1)).2)).head? = some 39 then ((runeAt s (a + 1)).1, (runeAt s (a + 1)).2, true) else (0, 0, false)
theorem byte_ne' {x : UInt8} {n : Nat} (h : ¬ x = UInt8.ofNat n) (hn : n < 256 := by decide) : ((x.toNat : Int) != (n : Int)) = true := by
  rw [bne_iff_ne]; intro e
  exact h (UInt8.toNat_inj.1 (by rw [show x.toNat = n by omega]; exact (UInt8.toNat_ofNat_of_lt' hn).symm))

end Go.Proofs.YteelepiaegpkhaaGreatDoor
