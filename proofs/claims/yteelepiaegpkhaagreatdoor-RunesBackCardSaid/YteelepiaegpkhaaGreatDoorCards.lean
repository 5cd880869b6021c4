/-
  DERIVED. GIVEN WITH THE SEED: THE CARDS: each row of YteelepiaegpkhaaGreatDoorRows.lean that lists a variable, with what it lists TIED to the program's text (the seventh form; the later family's looks); each row that meets fmt, with fmt's text TOLD by the authors' own Lean function (tested against real Go, not proved from fmt's source: count such statements apart). THE CARD IS WHAT COUNTS. Prove the row's statement (the work); the ties are given (YteelepiaegpkhaaGreatDoorTie.lean); close each card by the builder's one call (the guide's Derived/Test/ToyasCard.lean, 'card_holds'). Laid BY PROGRAM, IN A SANDBOX (cutbox-door.mjs). By AI agents, Wed Nov 11 2026. No macro, syntax, notation, axiom, sorry.
-/
import Derived.Test.YteelepiaegpkhaaGreatDoorRows
import GoSem.ClaimSeven
namespace Go.Proofs.YteelepiaegpkhaaGreatDoor
namespace Rows

/-- THE TIED CARD OF 'kerflaw02.RunesBack'. -/
def runesBackCard : Claim7 := { stood := { row := runesBackRow, standIns := [], harness := (true, "b81f183e69aded8497f0c2ff2fefce56c9c1fd02366f3458a1c1b7ab5b016eb9"), looks := true }, kinds := [], alts := [], laidByText := true, laidKinds := [.data, .data, .data, .data, .sentinel, .sentinel, .pinned, .pinned], laidTests := true, laidLooks := .later }
def RunesBackCardSaid : Prop := Claim7.holds Tryz.pinned (.plain (OpenSpec.ofChange runesBackSpec)) runesBackCard

/-- THE SECOND FORM's CARD OF 'kerflaw02.RunesBack'. -/
def runesBackUptoCard : Claim7 := { stood := { row := runesBackUptoRow, standIns := [], harness := (true, "b81f183e69aded8497f0c2ff2fefce56c9c1fd02366f3458a1c1b7ab5b016eb9"), looks := true }, kinds := [], alts := [], laidByText := true, laidKinds := [.data, .data, .data, .data, .sentinel, .sentinel, .pinned, .pinned], laidTests := true, laidLooks := .later }
def RunesBackUptoCardSaid : Prop := Claim7.holds Tryz.pinned (.plain (OpenSpec.upto runesBackSpec)) runesBackUptoCard
end Rows
end Go.Proofs.YteelepiaegpkhaaGreatDoor
