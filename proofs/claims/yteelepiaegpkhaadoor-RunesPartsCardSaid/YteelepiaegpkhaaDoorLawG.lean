/-
  kerflaw02.RunesParts, walked.
-/
import Derived.Test.YteelepiaegpkhaaDoorLawG1
import Derived.Test.YteelepiaegpkhaaDoorLawG2
namespace Go.Proofs.YteelepiaegpkhaaDoor
open Go.RowKit
theorem kRunesParts_any (s : ByteArray) (A : Option Addr) (n c : Nat) (l : List (Int × Int)) (w : World) (hT : Tabs w) (hm : s.size ≤ maxLen) (hA : Rd w 2 A (l.map encR)) (ha : l.length = n) (hn : n ≤ maxLen) :
    Calls Tryd.prog 8 #[.string s, .slice A n c] w fun e w' => e = .returned (.bool true) ∧ RowKit.Below w.heap.size w w' := by
  cases hv : vldB s (runesP s).length with
  | false => exact kRunesParts_f s A n c l w hT hm hA ha hn hv
  | true => exact kRunesParts_t s A n c l w hT hm hA ha hn hv
end Go.Proofs.YteelepiaegpkhaaDoor
