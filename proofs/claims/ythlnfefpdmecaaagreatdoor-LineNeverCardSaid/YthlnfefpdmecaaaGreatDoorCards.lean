/-
  DERIVED. GIVEN WITH THE SEED: THE CARDS: each row of YthlnfefpdmecaaaGreatDoorRows.lean that lists a variable, with what it lists TIED to the program's text (the seventh form; the later family's looks); each row that meets fmt, with fmt's text TOLD by the authors' own Lean function (tested against real Go, not proved from fmt's source: count such statements apart). THE CARD IS WHAT COUNTS. Prove the row's statement (the work); the ties are given (YthlnfefpdmecaaaGreatDoorTie.lean); close each card by the builder's one call (the guide's Derived/Test/ToyasCard.lean, 'card_holds'). Laid BY PROGRAM, IN A SANDBOX (cutbox-door.mjs). By AI agents, Wed Nov 11 2026. No macro, syntax, notation, axiom, sorry.
-/
import Derived.Test.YthlnfefpdmecaaaGreatDoorRows
import GoSem.ClaimSeven
namespace Go.Proofs.YthlnfefpdmecaaaGreatDoor
namespace Rows

/-- THE TIED CARD OF 'kerflaw12.WordKinds'. -/
def wordKindsCard : Claim7 := { stood := { row := wordKindsRow, standIns := [], harness := (true, "f24c88c9094915a2efa85781e361b3b33ce9170ff55a2bf8e931e765605f833c"), looks := true }, kinds := [], alts := [], laidByText := true, laidKinds := [.data, .data, .data, .data, .sentinel, .sentinel, .pinned], laidTests := true, laidLooks := .later }
def WordKindsCardSaid : Prop := Claim7.holds Tryz.pinned (.plain (OpenSpec.ofChange wordKindsSpec)) wordKindsCard

/-- THE TIED CARD OF 'kerflaw12.WordAlone'. -/
def wordAloneCard : Claim7 := { stood := { row := wordAloneRow, standIns := [], harness := (true, "f24c88c9094915a2efa85781e361b3b33ce9170ff55a2bf8e931e765605f833c"), looks := true }, kinds := [], alts := [], laidByText := true, laidKinds := [.data, .data, .data, .data, .sentinel, .sentinel, .pinned], laidTests := true, laidLooks := .later }
def WordAloneCardSaid : Prop := Claim7.holds Tryz.pinned (.plain (OpenSpec.ofChange wordAloneSpec)) wordAloneCard

/-- THE TIED CARD OF 'kerflaw12.WordHolds'. -/
def wordHoldsCard : Claim7 := { stood := { row := wordHoldsRow, standIns := [], harness := (true, "f24c88c9094915a2efa85781e361b3b33ce9170ff55a2bf8e931e765605f833c"), looks := true }, kinds := [], alts := [], laidByText := true, laidKinds := [.data, .data, .data, .data, .sentinel, .sentinel, .pinned], laidTests := true, laidLooks := .later }
def WordHoldsCardSaid : Prop := Claim7.holds Tryz.pinned (.plain (OpenSpec.ofChange wordHoldsSpec)) wordHoldsCard

/-- THE TIED CARD OF 'kerflaw12.WordFlags'. -/
def wordFlagsCard : Claim7 := { stood := { row := wordFlagsRow, standIns := [], harness := (true, "f24c88c9094915a2efa85781e361b3b33ce9170ff55a2bf8e931e765605f833c"), looks := true }, kinds := [], alts := [], laidByText := true, laidKinds := [.data, .data, .data, .data, .sentinel, .sentinel, .pinned], laidTests := true, laidLooks := .later }
def WordFlagsCardSaid : Prop := Claim7.holds Tryz.pinned (.plain (OpenSpec.ofChange wordFlagsSpec)) wordFlagsCard

/-- THE TIED CARD OF 'kerflaw14.LineNever'. -/
def lineNeverCard : Claim7 := { stood := { row := lineNeverRow, standIns := [], harness := (true, "f24c88c9094915a2efa85781e361b3b33ce9170ff55a2bf8e931e765605f833c"), looks := true }, kinds := [], alts := [], laidByText := true, laidKinds := [.data, .data, .data, .data, .sentinel, .sentinel, .pinned], laidTests := true, laidLooks := .later }
def LineNeverCardSaid : Prop := Claim7.holds Tryz.pinned (.plain (OpenSpec.ofChange lineNeverSpec)) lineNeverCard

/-- THE TIED CARD OF 'kerflaw13.SentenceNames'. -/
def sentenceNamesCard : Claim7 := { stood := { row := sentenceNamesRow, standIns := [], harness := (true, "f24c88c9094915a2efa85781e361b3b33ce9170ff55a2bf8e931e765605f833c"), looks := true }, kinds := [], alts := [], laidByText := true, laidKinds := [.data, .data, .data, .data, .sentinel, .sentinel, .pinned], laidTests := true, laidLooks := .later }
def SentenceNamesCardSaid : Prop := Claim7.holds Tryz.pinned (.plain (OpenSpec.ofChange sentenceNamesSpec)) sentenceNamesCard

/-- THE TIED CARD OF 'kerflaw13.SentenceWhole'. -/
def sentenceWholeCard : Claim7 := { stood := { row := sentenceWholeRow, standIns := [], harness := (true, "f24c88c9094915a2efa85781e361b3b33ce9170ff55a2bf8e931e765605f833c"), looks := true }, kinds := [], alts := [], laidByText := true, laidKinds := [.data, .data, .data, .data, .sentinel, .sentinel, .pinned], laidTests := true, laidLooks := .later }
def SentenceWholeCardSaid : Prop := Claim7.holds Tryz.pinned (.plain (OpenSpec.ofChange sentenceWholeSpec)) sentenceWholeCard

/-- THE TIED CARD OF 'kerflaw11.GraphemeBounds'. -/
def graphemeBoundsCard : Claim7 := { stood := { row := graphemeBoundsRow, standIns := [], harness := (true, "f24c88c9094915a2efa85781e361b3b33ce9170ff55a2bf8e931e765605f833c"), looks := true }, kinds := [], alts := [], laidByText := true, laidKinds := [.data, .data, .data, .data, .sentinel, .sentinel, .pinned], laidTests := true, laidLooks := .later }
def GraphemeBoundsCardSaid : Prop := Claim7.holds Tryz.pinned (.plain (OpenSpec.ofChange graphemeBoundsSpec)) graphemeBoundsCard

/-- THE TIED CARD OF 'kerflaw11.GraphemePieces'. -/
def graphemePiecesCard : Claim7 := { stood := { row := graphemePiecesRow, standIns := [], harness := (true, "f24c88c9094915a2efa85781e361b3b33ce9170ff55a2bf8e931e765605f833c"), looks := true }, kinds := [], alts := [], laidByText := true, laidKinds := [.data, .data, .data, .data, .sentinel, .sentinel, .pinned], laidTests := true, laidLooks := .later }
def GraphemePiecesCardSaid : Prop := Claim7.holds Tryz.pinned (.plain (OpenSpec.ofChange graphemePiecesSpec)) graphemePiecesCard

/-- THE TIED CARD OF 'kerflaw11.GraphemeUses'. -/
def graphemeUsesCard : Claim7 := { stood := { row := graphemeUsesRow, standIns := [], harness := (true, "f24c88c9094915a2efa85781e361b3b33ce9170ff55a2bf8e931e765605f833c"), looks := true }, kinds := [], alts := [], laidByText := true, laidKinds := [.data, .data, .data, .data, .sentinel, .sentinel, .pinned], laidTests := true, laidLooks := .later }
def GraphemeUsesCardSaid : Prop := Claim7.holds Tryz.pinned (.plain (OpenSpec.ofChange graphemeUsesSpec)) graphemeUsesCard

/-- THE TIED CARD OF 'kerflaw11.GraphemeMoves'. -/
def graphemeMovesCard : Claim7 := { stood := { row := graphemeMovesRow, standIns := [], harness := (true, "f24c88c9094915a2efa85781e361b3b33ce9170ff55a2bf8e931e765605f833c"), looks := true }, kinds := [], alts := [], laidByText := true, laidKinds := [.data, .data, .data, .data, .sentinel, .sentinel, .pinned], laidTests := true, laidLooks := .later }
def GraphemeMovesCardSaid : Prop := Claim7.holds Tryz.pinned (.plain (OpenSpec.ofChange graphemeMovesSpec)) graphemeMovesCard

/-- THE TIED CARD OF 'kerflaw11.GraphemeSafe'. -/
def graphemeSafeCard : Claim7 := { stood := { row := graphemeSafeRow, standIns := [], harness := (true, "f24c88c9094915a2efa85781e361b3b33ce9170ff55a2bf8e931e765605f833c"), looks := true }, kinds := [], alts := [], laidByText := true, laidKinds := [.data, .data, .data, .data, .sentinel, .sentinel, .pinned], laidTests := true, laidLooks := .later }
def GraphemeSafeCardSaid : Prop := Claim7.holds Tryz.pinned (.plain (OpenSpec.ofChange graphemeSafeSpec)) graphemeSafeCard

/-- THE SECOND FORM's CARD OF 'kerflaw12.WordKinds'. -/
def wordKindsUptoCard : Claim7 := { stood := { row := wordKindsUptoRow, standIns := [], harness := (true, "f24c88c9094915a2efa85781e361b3b33ce9170ff55a2bf8e931e765605f833c"), looks := true }, kinds := [], alts := [], laidByText := true, laidKinds := [.data, .data, .data, .data, .sentinel, .sentinel, .pinned], laidTests := true, laidLooks := .later }
def WordKindsUptoCardSaid : Prop := Claim7.holds Tryz.pinned (.plain (OpenSpec.upto wordKindsSpec)) wordKindsUptoCard

/-- THE SECOND FORM's CARD OF 'kerflaw12.WordAlone'. -/
def wordAloneUptoCard : Claim7 := { stood := { row := wordAloneUptoRow, standIns := [], harness := (true, "f24c88c9094915a2efa85781e361b3b33ce9170ff55a2bf8e931e765605f833c"), looks := true }, kinds := [], alts := [], laidByText := true, laidKinds := [.data, .data, .data, .data, .sentinel, .sentinel, .pinned], laidTests := true, laidLooks := .later }
def WordAloneUptoCardSaid : Prop := Claim7.holds Tryz.pinned (.plain (OpenSpec.upto wordAloneSpec)) wordAloneUptoCard

/-- THE SECOND FORM's CARD OF 'kerflaw12.WordHolds'. -/
def wordHoldsUptoCard : Claim7 := { stood := { row := wordHoldsUptoRow, standIns := [], harness := (true, "f24c88c9094915a2efa85781e361b3b33ce9170ff55a2bf8e931e765605f833c"), looks := true }, kinds := [], alts := [], laidByText := true, laidKinds := [.data, .data, .data, .data, .sentinel, .sentinel, .pinned], laidTests := true, laidLooks := .later }
def WordHoldsUptoCardSaid : Prop := Claim7.holds Tryz.pinned (.plain (OpenSpec.upto wordHoldsSpec)) wordHoldsUptoCard

/-- THE SECOND FORM's CARD OF 'kerflaw12.WordFlags'. -/
def wordFlagsUptoCard : Claim7 := { stood := { row := wordFlagsUptoRow, standIns := [], harness := (true, "f24c88c9094915a2efa85781e361b3b33ce9170ff55a2bf8e931e765605f833c"), looks := true }, kinds := [], alts := [], laidByText := true, laidKinds := [.data, .data, .data, .data, .sentinel, .sentinel, .pinned], laidTests := true, laidLooks := .later }
def WordFlagsUptoCardSaid : Prop := Claim7.holds Tryz.pinned (.plain (OpenSpec.upto wordFlagsSpec)) wordFlagsUptoCard

/-- THE SECOND FORM's CARD OF 'kerflaw14.LineNever'. -/
def lineNeverUptoCard : Claim7 := { stood := { row := lineNeverUptoRow, standIns := [], harness := (true, "f24c88c9094915a2efa85781e361b3b33ce9170ff55a2bf8e931e765605f833c"), looks := true }, kinds := [], alts := [], laidByText := true, laidKinds := [.data, .data, .data, .data, .sentinel, .sentinel, .pinned], laidTests := true, laidLooks := .later }
def LineNeverUptoCardSaid : Prop := Claim7.holds Tryz.pinned (.plain (OpenSpec.upto lineNeverSpec)) lineNeverUptoCard

/-- THE SECOND FORM's CARD OF 'kerflaw13.SentenceNames'. -/
def sentenceNamesUptoCard : Claim7 := { stood := { row := sentenceNamesUptoRow, standIns := [], harness := (true, "f24c88c9094915a2efa85781e361b3b33ce9170ff55a2bf8e931e765605f833c"), looks := true }, kinds := [], alts := [], laidByText := true, laidKinds := [.data, .data, .data, .data, .sentinel, .sentinel, .pinned], laidTests := true, laidLooks := .later }
def SentenceNamesUptoCardSaid : Prop := Claim7.holds Tryz.pinned (.plain (OpenSpec.upto sentenceNamesSpec)) sentenceNamesUptoCard

/-- THE SECOND FORM's CARD OF 'kerflaw13.SentenceWhole'. -/
def sentenceWholeUptoCard : Claim7 := { stood := { row := sentenceWholeUptoRow, standIns := [], harness := (true, "f24c88c9094915a2efa85781e361b3b33ce9170ff55a2bf8e931e765605f833c"), looks := true }, kinds := [], alts := [], laidByText := true, laidKinds := [.data, .data, .data, .data, .sentinel, .sentinel, .pinned], laidTests := true, laidLooks := .later }
def SentenceWholeUptoCardSaid : Prop := Claim7.holds Tryz.pinned (.plain (OpenSpec.upto sentenceWholeSpec)) sentenceWholeUptoCard

/-- THE SECOND FORM's CARD OF 'kerflaw11.GraphemeBounds'. -/
def graphemeBoundsUptoCard : Claim7 := { stood := { row := graphemeBoundsUptoRow, standIns := [], harness := (true, "f24c88c9094915a2efa85781e361b3b33ce9170ff55a2bf8e931e765605f833c"), looks := true }, kinds := [], alts := [], laidByText := true, laidKinds := [.data, .data, .data, .data, .sentinel, .sentinel, .pinned], laidTests := true, laidLooks := .later }
def GraphemeBoundsUptoCardSaid : Prop := Claim7.holds Tryz.pinned (.plain (OpenSpec.upto graphemeBoundsSpec)) graphemeBoundsUptoCard

/-- THE SECOND FORM's CARD OF 'kerflaw11.GraphemePieces'. -/
def graphemePiecesUptoCard : Claim7 := { stood := { row := graphemePiecesUptoRow, standIns := [], harness := (true, "f24c88c9094915a2efa85781e361b3b33ce9170ff55a2bf8e931e765605f833c"), looks := true }, kinds := [], alts := [], laidByText := true, laidKinds := [.data, .data, .data, .data, .sentinel, .sentinel, .pinned], laidTests := true, laidLooks := .later }
def GraphemePiecesUptoCardSaid : Prop := Claim7.holds Tryz.pinned (.plain (OpenSpec.upto graphemePiecesSpec)) graphemePiecesUptoCard

/-- THE SECOND FORM's CARD OF 'kerflaw11.GraphemeUses'. -/
def graphemeUsesUptoCard : Claim7 := { stood := { row := graphemeUsesUptoRow, standIns := [], harness := (true, "f24c88c9094915a2efa85781e361b3b33ce9170ff55a2bf8e931e765605f833c"), looks := true }, kinds := [], alts := [], laidByText := true, laidKinds := [.data, .data, .data, .data, .sentinel, .sentinel, .pinned], laidTests := true, laidLooks := .later }
def GraphemeUsesUptoCardSaid : Prop := Claim7.holds Tryz.pinned (.plain (OpenSpec.upto graphemeUsesSpec)) graphemeUsesUptoCard

/-- THE SECOND FORM's CARD OF 'kerflaw11.GraphemeMoves'. -/
def graphemeMovesUptoCard : Claim7 := { stood := { row := graphemeMovesUptoRow, standIns := [], harness := (true, "f24c88c9094915a2efa85781e361b3b33ce9170ff55a2bf8e931e765605f833c"), looks := true }, kinds := [], alts := [], laidByText := true, laidKinds := [.data, .data, .data, .data, .sentinel, .sentinel, .pinned], laidTests := true, laidLooks := .later }
def GraphemeMovesUptoCardSaid : Prop := Claim7.holds Tryz.pinned (.plain (OpenSpec.upto graphemeMovesSpec)) graphemeMovesUptoCard

/-- THE SECOND FORM's CARD OF 'kerflaw11.GraphemeSafe'. -/
def graphemeSafeUptoCard : Claim7 := { stood := { row := graphemeSafeUptoRow, standIns := [], harness := (true, "f24c88c9094915a2efa85781e361b3b33ce9170ff55a2bf8e931e765605f833c"), looks := true }, kinds := [], alts := [], laidByText := true, laidKinds := [.data, .data, .data, .data, .sentinel, .sentinel, .pinned], laidTests := true, laidLooks := .later }
def GraphemeSafeUptoCardSaid : Prop := Claim7.holds Tryz.pinned (.plain (OpenSpec.upto graphemeSafeSpec)) graphemeSafeUptoCard
end Rows
end Go.Proofs.YthlnfefpdmecaaaGreatDoor
