/-
  DERIVED. GIVEN WITH THE SEED: THE CARDS: each row of YtdnkignhenkamaaGreatDoorRows.lean that lists a variable, with what it lists TIED to the program's text (the seventh form; the later family's looks); each row that meets fmt, with fmt's text TOLD by the authors' own Lean function (tested against real Go, not proved from fmt's source: count such statements apart). THE CARD IS WHAT COUNTS. Prove the row's statement (the work); the ties are given (YtdnkignhenkamaaGreatDoorTie.lean); close each card by the builder's one call (the guide's Derived/Test/ToyasCard.lean, 'card_holds'). Laid BY PROGRAM, IN A SANDBOX (cutbox-door.mjs). By AI agents, Wed Nov 11 2026. No macro, syntax, notation, axiom, sorry.
-/
import Derived.Test.YtdnkignhenkamaaGreatDoorRows
import GoSem.ClaimSeven
namespace Go.Proofs.YtdnkignhenkamaaGreatDoor
namespace Rows

/-- THE TIED CARD OF 'kerflaw11.GraphemeBounds'. -/
def graphemeBoundsCard : Claim7 := { stood := { row := graphemeBoundsRow, standIns := [], harness := (true, "d78b3e9c13a20a53ab31b10ec8cf4aec1d047a110306077ffde1d0b1fbddc58a"), looks := true }, kinds := [], alts := [], laidByText := true, laidKinds := [.data, .data, .data, .data, .sentinel, .sentinel, .pinned], laidTests := true, laidLooks := .later }
def GraphemeBoundsCardSaid : Prop := Claim7.holds Tryz.pinned (.plain (OpenSpec.ofChange graphemeBoundsSpec)) graphemeBoundsCard

/-- THE TIED CARD OF 'kerflaw11.GraphemePieces'. -/
def graphemePiecesCard : Claim7 := { stood := { row := graphemePiecesRow, standIns := [], harness := (true, "d78b3e9c13a20a53ab31b10ec8cf4aec1d047a110306077ffde1d0b1fbddc58a"), looks := true }, kinds := [], alts := [], laidByText := true, laidKinds := [.data, .data, .data, .data, .sentinel, .sentinel, .pinned], laidTests := true, laidLooks := .later }
def GraphemePiecesCardSaid : Prop := Claim7.holds Tryz.pinned (.plain (OpenSpec.ofChange graphemePiecesSpec)) graphemePiecesCard

/-- THE TIED CARD OF 'kerflaw11.GraphemeUses'. -/
def graphemeUsesCard : Claim7 := { stood := { row := graphemeUsesRow, standIns := [], harness := (true, "d78b3e9c13a20a53ab31b10ec8cf4aec1d047a110306077ffde1d0b1fbddc58a"), looks := true }, kinds := [], alts := [], laidByText := true, laidKinds := [.data, .data, .data, .data, .sentinel, .sentinel, .pinned], laidTests := true, laidLooks := .later }
def GraphemeUsesCardSaid : Prop := Claim7.holds Tryz.pinned (.plain (OpenSpec.ofChange graphemeUsesSpec)) graphemeUsesCard

/-- THE TIED CARD OF 'kerflaw11.GraphemeMoves'. -/
def graphemeMovesCard : Claim7 := { stood := { row := graphemeMovesRow, standIns := [], harness := (true, "d78b3e9c13a20a53ab31b10ec8cf4aec1d047a110306077ffde1d0b1fbddc58a"), looks := true }, kinds := [], alts := [], laidByText := true, laidKinds := [.data, .data, .data, .data, .sentinel, .sentinel, .pinned], laidTests := true, laidLooks := .later }
def GraphemeMovesCardSaid : Prop := Claim7.holds Tryz.pinned (.plain (OpenSpec.ofChange graphemeMovesSpec)) graphemeMovesCard

/-- THE TIED CARD OF 'kerflaw11.GraphemeSafe'. -/
def graphemeSafeCard : Claim7 := { stood := { row := graphemeSafeRow, standIns := [], harness := (true, "d78b3e9c13a20a53ab31b10ec8cf4aec1d047a110306077ffde1d0b1fbddc58a"), looks := true }, kinds := [], alts := [], laidByText := true, laidKinds := [.data, .data, .data, .data, .sentinel, .sentinel, .pinned], laidTests := true, laidLooks := .later }
def GraphemeSafeCardSaid : Prop := Claim7.holds Tryz.pinned (.plain (OpenSpec.ofChange graphemeSafeSpec)) graphemeSafeCard

/-- THE TIED CARD OF 'kerflaw13.SentenceNames'. -/
def sentenceNamesCard : Claim7 := { stood := { row := sentenceNamesRow, standIns := [], harness := (true, "d78b3e9c13a20a53ab31b10ec8cf4aec1d047a110306077ffde1d0b1fbddc58a"), looks := true }, kinds := [], alts := [], laidByText := true, laidKinds := [.data, .data, .data, .data, .sentinel, .sentinel, .pinned], laidTests := true, laidLooks := .later }
def SentenceNamesCardSaid : Prop := Claim7.holds Tryz.pinned (.plain (OpenSpec.ofChange sentenceNamesSpec)) sentenceNamesCard

/-- THE TIED CARD OF 'kerflaw13.SentenceWhole'. -/
def sentenceWholeCard : Claim7 := { stood := { row := sentenceWholeRow, standIns := [], harness := (true, "d78b3e9c13a20a53ab31b10ec8cf4aec1d047a110306077ffde1d0b1fbddc58a"), looks := true }, kinds := [], alts := [], laidByText := true, laidKinds := [.data, .data, .data, .data, .sentinel, .sentinel, .pinned], laidTests := true, laidLooks := .later }
def SentenceWholeCardSaid : Prop := Claim7.holds Tryz.pinned (.plain (OpenSpec.ofChange sentenceWholeSpec)) sentenceWholeCard

/-- THE TIED CARD OF 'kerflaw13.SentenceBounds'. -/
def sentenceBoundsCard : Claim7 := { stood := { row := sentenceBoundsRow, standIns := [], harness := (true, "d78b3e9c13a20a53ab31b10ec8cf4aec1d047a110306077ffde1d0b1fbddc58a"), looks := true }, kinds := [], alts := [], laidByText := true, laidKinds := [.data, .data, .data, .data, .sentinel, .sentinel, .pinned], laidTests := true, laidLooks := .later }
def SentenceBoundsCardSaid : Prop := Claim7.holds Tryz.pinned (.plain (OpenSpec.ofChange sentenceBoundsSpec)) sentenceBoundsCard

/-- THE TIED CARD OF 'kerflaw13.SentencePieces'. -/
def sentencePiecesCard : Claim7 := { stood := { row := sentencePiecesRow, standIns := [], harness := (true, "d78b3e9c13a20a53ab31b10ec8cf4aec1d047a110306077ffde1d0b1fbddc58a"), looks := true }, kinds := [], alts := [], laidByText := true, laidKinds := [.data, .data, .data, .data, .sentinel, .sentinel, .pinned], laidTests := true, laidLooks := .later }
def SentencePiecesCardSaid : Prop := Claim7.holds Tryz.pinned (.plain (OpenSpec.ofChange sentencePiecesSpec)) sentencePiecesCard

/-- THE TIED CARD OF 'kerflaw13.SentenceUses'. -/
def sentenceUsesCard : Claim7 := { stood := { row := sentenceUsesRow, standIns := [], harness := (true, "d78b3e9c13a20a53ab31b10ec8cf4aec1d047a110306077ffde1d0b1fbddc58a"), looks := true }, kinds := [], alts := [], laidByText := true, laidKinds := [.data, .data, .data, .data, .sentinel, .sentinel, .pinned], laidTests := true, laidLooks := .later }
def SentenceUsesCardSaid : Prop := Claim7.holds Tryz.pinned (.plain (OpenSpec.ofChange sentenceUsesSpec)) sentenceUsesCard

/-- THE TIED CARD OF 'kerflaw13.SentenceMoves'. -/
def sentenceMovesCard : Claim7 := { stood := { row := sentenceMovesRow, standIns := [], harness := (true, "d78b3e9c13a20a53ab31b10ec8cf4aec1d047a110306077ffde1d0b1fbddc58a"), looks := true }, kinds := [], alts := [], laidByText := true, laidKinds := [.data, .data, .data, .data, .sentinel, .sentinel, .pinned], laidTests := true, laidLooks := .later }
def SentenceMovesCardSaid : Prop := Claim7.holds Tryz.pinned (.plain (OpenSpec.ofChange sentenceMovesSpec)) sentenceMovesCard

/-- THE SECOND FORM's CARD OF 'kerflaw11.GraphemeBounds'. -/
def graphemeBoundsUptoCard : Claim7 := { stood := { row := graphemeBoundsUptoRow, standIns := [], harness := (true, "d78b3e9c13a20a53ab31b10ec8cf4aec1d047a110306077ffde1d0b1fbddc58a"), looks := true }, kinds := [], alts := [], laidByText := true, laidKinds := [.data, .data, .data, .data, .sentinel, .sentinel, .pinned], laidTests := true, laidLooks := .later }
def GraphemeBoundsUptoCardSaid : Prop := Claim7.holds Tryz.pinned (.plain (OpenSpec.upto graphemeBoundsSpec)) graphemeBoundsUptoCard

/-- THE SECOND FORM's CARD OF 'kerflaw11.GraphemePieces'. -/
def graphemePiecesUptoCard : Claim7 := { stood := { row := graphemePiecesUptoRow, standIns := [], harness := (true, "d78b3e9c13a20a53ab31b10ec8cf4aec1d047a110306077ffde1d0b1fbddc58a"), looks := true }, kinds := [], alts := [], laidByText := true, laidKinds := [.data, .data, .data, .data, .sentinel, .sentinel, .pinned], laidTests := true, laidLooks := .later }
def GraphemePiecesUptoCardSaid : Prop := Claim7.holds Tryz.pinned (.plain (OpenSpec.upto graphemePiecesSpec)) graphemePiecesUptoCard

/-- THE SECOND FORM's CARD OF 'kerflaw11.GraphemeUses'. -/
def graphemeUsesUptoCard : Claim7 := { stood := { row := graphemeUsesUptoRow, standIns := [], harness := (true, "d78b3e9c13a20a53ab31b10ec8cf4aec1d047a110306077ffde1d0b1fbddc58a"), looks := true }, kinds := [], alts := [], laidByText := true, laidKinds := [.data, .data, .data, .data, .sentinel, .sentinel, .pinned], laidTests := true, laidLooks := .later }
def GraphemeUsesUptoCardSaid : Prop := Claim7.holds Tryz.pinned (.plain (OpenSpec.upto graphemeUsesSpec)) graphemeUsesUptoCard

/-- THE SECOND FORM's CARD OF 'kerflaw11.GraphemeMoves'. -/
def graphemeMovesUptoCard : Claim7 := { stood := { row := graphemeMovesUptoRow, standIns := [], harness := (true, "d78b3e9c13a20a53ab31b10ec8cf4aec1d047a110306077ffde1d0b1fbddc58a"), looks := true }, kinds := [], alts := [], laidByText := true, laidKinds := [.data, .data, .data, .data, .sentinel, .sentinel, .pinned], laidTests := true, laidLooks := .later }
def GraphemeMovesUptoCardSaid : Prop := Claim7.holds Tryz.pinned (.plain (OpenSpec.upto graphemeMovesSpec)) graphemeMovesUptoCard

/-- THE SECOND FORM's CARD OF 'kerflaw11.GraphemeSafe'. -/
def graphemeSafeUptoCard : Claim7 := { stood := { row := graphemeSafeUptoRow, standIns := [], harness := (true, "d78b3e9c13a20a53ab31b10ec8cf4aec1d047a110306077ffde1d0b1fbddc58a"), looks := true }, kinds := [], alts := [], laidByText := true, laidKinds := [.data, .data, .data, .data, .sentinel, .sentinel, .pinned], laidTests := true, laidLooks := .later }
def GraphemeSafeUptoCardSaid : Prop := Claim7.holds Tryz.pinned (.plain (OpenSpec.upto graphemeSafeSpec)) graphemeSafeUptoCard

/-- THE SECOND FORM's CARD OF 'kerflaw13.SentenceNames'. -/
def sentenceNamesUptoCard : Claim7 := { stood := { row := sentenceNamesUptoRow, standIns := [], harness := (true, "d78b3e9c13a20a53ab31b10ec8cf4aec1d047a110306077ffde1d0b1fbddc58a"), looks := true }, kinds := [], alts := [], laidByText := true, laidKinds := [.data, .data, .data, .data, .sentinel, .sentinel, .pinned], laidTests := true, laidLooks := .later }
def SentenceNamesUptoCardSaid : Prop := Claim7.holds Tryz.pinned (.plain (OpenSpec.upto sentenceNamesSpec)) sentenceNamesUptoCard

/-- THE SECOND FORM's CARD OF 'kerflaw13.SentenceWhole'. -/
def sentenceWholeUptoCard : Claim7 := { stood := { row := sentenceWholeUptoRow, standIns := [], harness := (true, "d78b3e9c13a20a53ab31b10ec8cf4aec1d047a110306077ffde1d0b1fbddc58a"), looks := true }, kinds := [], alts := [], laidByText := true, laidKinds := [.data, .data, .data, .data, .sentinel, .sentinel, .pinned], laidTests := true, laidLooks := .later }
def SentenceWholeUptoCardSaid : Prop := Claim7.holds Tryz.pinned (.plain (OpenSpec.upto sentenceWholeSpec)) sentenceWholeUptoCard

/-- THE SECOND FORM's CARD OF 'kerflaw13.SentenceBounds'. -/
def sentenceBoundsUptoCard : Claim7 := { stood := { row := sentenceBoundsUptoRow, standIns := [], harness := (true, "d78b3e9c13a20a53ab31b10ec8cf4aec1d047a110306077ffde1d0b1fbddc58a"), looks := true }, kinds := [], alts := [], laidByText := true, laidKinds := [.data, .data, .data, .data, .sentinel, .sentinel, .pinned], laidTests := true, laidLooks := .later }
def SentenceBoundsUptoCardSaid : Prop := Claim7.holds Tryz.pinned (.plain (OpenSpec.upto sentenceBoundsSpec)) sentenceBoundsUptoCard

/-- THE SECOND FORM's CARD OF 'kerflaw13.SentencePieces'. -/
def sentencePiecesUptoCard : Claim7 := { stood := { row := sentencePiecesUptoRow, standIns := [], harness := (true, "d78b3e9c13a20a53ab31b10ec8cf4aec1d047a110306077ffde1d0b1fbddc58a"), looks := true }, kinds := [], alts := [], laidByText := true, laidKinds := [.data, .data, .data, .data, .sentinel, .sentinel, .pinned], laidTests := true, laidLooks := .later }
def SentencePiecesUptoCardSaid : Prop := Claim7.holds Tryz.pinned (.plain (OpenSpec.upto sentencePiecesSpec)) sentencePiecesUptoCard

/-- THE SECOND FORM's CARD OF 'kerflaw13.SentenceUses'. -/
def sentenceUsesUptoCard : Claim7 := { stood := { row := sentenceUsesUptoRow, standIns := [], harness := (true, "d78b3e9c13a20a53ab31b10ec8cf4aec1d047a110306077ffde1d0b1fbddc58a"), looks := true }, kinds := [], alts := [], laidByText := true, laidKinds := [.data, .data, .data, .data, .sentinel, .sentinel, .pinned], laidTests := true, laidLooks := .later }
def SentenceUsesUptoCardSaid : Prop := Claim7.holds Tryz.pinned (.plain (OpenSpec.upto sentenceUsesSpec)) sentenceUsesUptoCard

/-- THE SECOND FORM's CARD OF 'kerflaw13.SentenceMoves'. -/
def sentenceMovesUptoCard : Claim7 := { stood := { row := sentenceMovesUptoRow, standIns := [], harness := (true, "d78b3e9c13a20a53ab31b10ec8cf4aec1d047a110306077ffde1d0b1fbddc58a"), looks := true }, kinds := [], alts := [], laidByText := true, laidKinds := [.data, .data, .data, .data, .sentinel, .sentinel, .pinned], laidTests := true, laidLooks := .later }
def SentenceMovesUptoCardSaid : Prop := Claim7.holds Tryz.pinned (.plain (OpenSpec.upto sentenceMovesSpec)) sentenceMovesUptoCard
end Rows
end Go.Proofs.YtdnkignhenkamaaGreatDoor
