/-
  DERIVED. GIVEN WITH THE SEED: THE CARDS: each row of YtdngkienloligaaGreatDoorRows.lean that lists a variable, with what it lists TIED to the program's text (the seventh form; the later family's looks); each row that meets fmt, with fmt's text TOLD by the authors' own Lean function (tested against real Go, not proved from fmt's source: count such statements apart). THE CARD IS WHAT COUNTS. Prove the row's statement (the work); the ties are given (YtdngkienloligaaGreatDoorTie.lean); close each card by the builder's one call (the guide's Derived/Test/ToyasCard.lean, 'card_holds'). Laid BY PROGRAM, IN A SANDBOX (cutbox-door.mjs). By AI agents, Wed Nov 11 2026. No macro, syntax, notation, axiom, sorry.
-/
import Derived.Test.YtdngkienloligaaGreatDoorRows
import GoSem.ClaimSeven
namespace Go.Proofs.YtdngkienloligaaGreatDoor
namespace Rows

/-- THE TIED CARD OF 'kerflaw13.SentenceWhole'. -/
def sentenceWholeCard : Claim7 := { stood := { row := sentenceWholeRow, standIns := [], harness := (true, "c4b1fb4dde6cdb431412a46d53bdd2ef5d1fe7b86f61b9d2b894622f104727aa"), looks := true }, kinds := [], alts := [], laidByText := true, laidKinds := [.data, .data, .data, .data, .sentinel, .sentinel, .pinned], laidTests := true, laidLooks := .later }
def SentenceWholeCardSaid : Prop := Claim7.holds Tryz.pinned (.plain (OpenSpec.ofChange sentenceWholeSpec)) sentenceWholeCard

/-- THE TIED CARD OF 'kerflaw11.GraphemeSafe'. -/
def graphemeSafeCard : Claim7 := { stood := { row := graphemeSafeRow, standIns := [], harness := (true, "c4b1fb4dde6cdb431412a46d53bdd2ef5d1fe7b86f61b9d2b894622f104727aa"), looks := true }, kinds := [], alts := [], laidByText := true, laidKinds := [.data, .data, .data, .data, .sentinel, .sentinel, .pinned], laidTests := true, laidLooks := .later }
def GraphemeSafeCardSaid : Prop := Claim7.holds Tryz.pinned (.plain (OpenSpec.ofChange graphemeSafeSpec)) graphemeSafeCard

/-- THE TIED CARD OF 'kerflaw12.WordBounds'. -/
def wordBoundsCard : Claim7 := { stood := { row := wordBoundsRow, standIns := [], harness := (true, "c4b1fb4dde6cdb431412a46d53bdd2ef5d1fe7b86f61b9d2b894622f104727aa"), looks := true }, kinds := [], alts := [], laidByText := true, laidKinds := [.data, .data, .data, .data, .sentinel, .sentinel, .pinned], laidTests := true, laidLooks := .later }
def WordBoundsCardSaid : Prop := Claim7.holds Tryz.pinned (.plain (OpenSpec.ofChange wordBoundsSpec)) wordBoundsCard

/-- THE TIED CARD OF 'kerflaw12.WordEach'. -/
def wordEachCard : Claim7 := { stood := { row := wordEachRow, standIns := [], harness := (true, "c4b1fb4dde6cdb431412a46d53bdd2ef5d1fe7b86f61b9d2b894622f104727aa"), looks := true }, kinds := [], alts := [], laidByText := true, laidKinds := [.data, .data, .data, .data, .sentinel, .sentinel, .pinned], laidTests := true, laidLooks := .later }
def WordEachCardSaid : Prop := Claim7.holds Tryz.pinned (.plain (OpenSpec.ofChange wordEachSpec)) wordEachCard

/-- THE TIED CARD OF 'kerflaw12.WordMoves'. -/
def wordMovesCard : Claim7 := { stood := { row := wordMovesRow, standIns := [], harness := (true, "c4b1fb4dde6cdb431412a46d53bdd2ef5d1fe7b86f61b9d2b894622f104727aa"), looks := true }, kinds := [], alts := [], laidByText := true, laidKinds := [.data, .data, .data, .data, .sentinel, .sentinel, .pinned], laidTests := true, laidLooks := .later }
def WordMovesCardSaid : Prop := Claim7.holds Tryz.pinned (.plain (OpenSpec.ofChange wordMovesSpec)) wordMovesCard

/-- THE TIED CARD OF 'kerflaw12.WordWords'. -/
def wordWordsCard : Claim7 := { stood := { row := wordWordsRow, standIns := [], harness := (true, "c4b1fb4dde6cdb431412a46d53bdd2ef5d1fe7b86f61b9d2b894622f104727aa"), looks := true }, kinds := [], alts := [], laidByText := true, laidKinds := [.data, .data, .data, .data, .sentinel, .sentinel, .pinned], laidTests := true, laidLooks := .later }
def WordWordsCardSaid : Prop := Claim7.holds Tryz.pinned (.plain (OpenSpec.ofChange wordWordsSpec)) wordWordsCard

/-- THE TIED CARD OF 'kerflaw14.LineChances'. -/
def lineChancesCard : Claim7 := { stood := { row := lineChancesRow, standIns := [], harness := (true, "c4b1fb4dde6cdb431412a46d53bdd2ef5d1fe7b86f61b9d2b894622f104727aa"), looks := true }, kinds := [], alts := [], laidByText := true, laidKinds := [.data, .data, .data, .data, .sentinel, .sentinel, .pinned], laidTests := true, laidLooks := .later }
def LineChancesCardSaid : Prop := Claim7.holds Tryz.pinned (.plain (OpenSpec.ofChange lineChancesSpec)) lineChancesCard

/-- THE TIED CARD OF 'kerflaw14.LineMoves'. -/
def lineMovesCard : Claim7 := { stood := { row := lineMovesRow, standIns := [], harness := (true, "c4b1fb4dde6cdb431412a46d53bdd2ef5d1fe7b86f61b9d2b894622f104727aa"), looks := true }, kinds := [], alts := [], laidByText := true, laidKinds := [.data, .data, .data, .data, .sentinel, .sentinel, .pinned], laidTests := true, laidLooks := .later }
def LineMovesCardSaid : Prop := Claim7.holds Tryz.pinned (.plain (OpenSpec.ofChange lineMovesSpec)) lineMovesCard

/-- THE TIED CARD OF 'kerflaw14.LineEach'. -/
def lineEachCard : Claim7 := { stood := { row := lineEachRow, standIns := [], harness := (true, "c4b1fb4dde6cdb431412a46d53bdd2ef5d1fe7b86f61b9d2b894622f104727aa"), looks := true }, kinds := [], alts := [], laidByText := true, laidKinds := [.data, .data, .data, .data, .sentinel, .sentinel, .pinned], laidTests := true, laidLooks := .later }
def LineEachCardSaid : Prop := Claim7.holds Tryz.pinned (.plain (OpenSpec.ofChange lineEachSpec)) lineEachCard

/-- THE TIED CARD OF 'kerflaw17.PlacesNames'. -/
def placesNamesCard : Claim7 := { stood := { row := placesNamesRow, standIns := [], harness := (true, "c4b1fb4dde6cdb431412a46d53bdd2ef5d1fe7b86f61b9d2b894622f104727aa"), looks := true }, kinds := [], alts := [], laidByText := true, laidKinds := [.data, .data, .data, .data, .sentinel, .sentinel, .pinned], laidTests := true, laidLooks := .later }
def PlacesNamesCardSaid : Prop := Claim7.holds Tryz.pinned (.plain (OpenSpec.ofChange placesNamesSpec)) placesNamesCard

/-- THE TIED CARD OF 'kerflaw17.PlacesBack'. -/
def placesBackCard : Claim7 := { stood := { row := placesBackRow, standIns := [], harness := (true, "c4b1fb4dde6cdb431412a46d53bdd2ef5d1fe7b86f61b9d2b894622f104727aa"), looks := true }, kinds := [], alts := [], laidByText := true, laidKinds := [.data, .data, .data, .data, .sentinel, .sentinel, .pinned], laidTests := true, laidLooks := .later }
def PlacesBackCardSaid : Prop := Claim7.holds Tryz.pinned (.plain (OpenSpec.ofChange placesBackSpec)) placesBackCard

/-- THE TIED CARD OF 'kerflaw17.PlacesMove'. -/
def placesMoveCard : Claim7 := { stood := { row := placesMoveRow, standIns := [], harness := (true, "c4b1fb4dde6cdb431412a46d53bdd2ef5d1fe7b86f61b9d2b894622f104727aa"), looks := true }, kinds := [], alts := [], laidByText := true, laidKinds := [.data, .data, .data, .data, .sentinel, .sentinel, .pinned], laidTests := true, laidLooks := .later }
def PlacesMoveCardSaid : Prop := Claim7.holds Tryz.pinned (.plain (OpenSpec.ofChange placesMoveSpec)) placesMoveCard

/-- THE SECOND FORM's CARD OF 'kerflaw13.SentenceWhole'. -/
def sentenceWholeUptoCard : Claim7 := { stood := { row := sentenceWholeUptoRow, standIns := [], harness := (true, "c4b1fb4dde6cdb431412a46d53bdd2ef5d1fe7b86f61b9d2b894622f104727aa"), looks := true }, kinds := [], alts := [], laidByText := true, laidKinds := [.data, .data, .data, .data, .sentinel, .sentinel, .pinned], laidTests := true, laidLooks := .later }
def SentenceWholeUptoCardSaid : Prop := Claim7.holds Tryz.pinned (.plain (OpenSpec.upto sentenceWholeSpec)) sentenceWholeUptoCard

/-- THE SECOND FORM's CARD OF 'kerflaw11.GraphemeSafe'. -/
def graphemeSafeUptoCard : Claim7 := { stood := { row := graphemeSafeUptoRow, standIns := [], harness := (true, "c4b1fb4dde6cdb431412a46d53bdd2ef5d1fe7b86f61b9d2b894622f104727aa"), looks := true }, kinds := [], alts := [], laidByText := true, laidKinds := [.data, .data, .data, .data, .sentinel, .sentinel, .pinned], laidTests := true, laidLooks := .later }
def GraphemeSafeUptoCardSaid : Prop := Claim7.holds Tryz.pinned (.plain (OpenSpec.upto graphemeSafeSpec)) graphemeSafeUptoCard

/-- THE SECOND FORM's CARD OF 'kerflaw12.WordBounds'. -/
def wordBoundsUptoCard : Claim7 := { stood := { row := wordBoundsUptoRow, standIns := [], harness := (true, "c4b1fb4dde6cdb431412a46d53bdd2ef5d1fe7b86f61b9d2b894622f104727aa"), looks := true }, kinds := [], alts := [], laidByText := true, laidKinds := [.data, .data, .data, .data, .sentinel, .sentinel, .pinned], laidTests := true, laidLooks := .later }
def WordBoundsUptoCardSaid : Prop := Claim7.holds Tryz.pinned (.plain (OpenSpec.upto wordBoundsSpec)) wordBoundsUptoCard

/-- THE SECOND FORM's CARD OF 'kerflaw12.WordEach'. -/
def wordEachUptoCard : Claim7 := { stood := { row := wordEachUptoRow, standIns := [], harness := (true, "c4b1fb4dde6cdb431412a46d53bdd2ef5d1fe7b86f61b9d2b894622f104727aa"), looks := true }, kinds := [], alts := [], laidByText := true, laidKinds := [.data, .data, .data, .data, .sentinel, .sentinel, .pinned], laidTests := true, laidLooks := .later }
def WordEachUptoCardSaid : Prop := Claim7.holds Tryz.pinned (.plain (OpenSpec.upto wordEachSpec)) wordEachUptoCard

/-- THE SECOND FORM's CARD OF 'kerflaw12.WordMoves'. -/
def wordMovesUptoCard : Claim7 := { stood := { row := wordMovesUptoRow, standIns := [], harness := (true, "c4b1fb4dde6cdb431412a46d53bdd2ef5d1fe7b86f61b9d2b894622f104727aa"), looks := true }, kinds := [], alts := [], laidByText := true, laidKinds := [.data, .data, .data, .data, .sentinel, .sentinel, .pinned], laidTests := true, laidLooks := .later }
def WordMovesUptoCardSaid : Prop := Claim7.holds Tryz.pinned (.plain (OpenSpec.upto wordMovesSpec)) wordMovesUptoCard

/-- THE SECOND FORM's CARD OF 'kerflaw12.WordWords'. -/
def wordWordsUptoCard : Claim7 := { stood := { row := wordWordsUptoRow, standIns := [], harness := (true, "c4b1fb4dde6cdb431412a46d53bdd2ef5d1fe7b86f61b9d2b894622f104727aa"), looks := true }, kinds := [], alts := [], laidByText := true, laidKinds := [.data, .data, .data, .data, .sentinel, .sentinel, .pinned], laidTests := true, laidLooks := .later }
def WordWordsUptoCardSaid : Prop := Claim7.holds Tryz.pinned (.plain (OpenSpec.upto wordWordsSpec)) wordWordsUptoCard

/-- THE SECOND FORM's CARD OF 'kerflaw14.LineChances'. -/
def lineChancesUptoCard : Claim7 := { stood := { row := lineChancesUptoRow, standIns := [], harness := (true, "c4b1fb4dde6cdb431412a46d53bdd2ef5d1fe7b86f61b9d2b894622f104727aa"), looks := true }, kinds := [], alts := [], laidByText := true, laidKinds := [.data, .data, .data, .data, .sentinel, .sentinel, .pinned], laidTests := true, laidLooks := .later }
def LineChancesUptoCardSaid : Prop := Claim7.holds Tryz.pinned (.plain (OpenSpec.upto lineChancesSpec)) lineChancesUptoCard

/-- THE SECOND FORM's CARD OF 'kerflaw14.LineMoves'. -/
def lineMovesUptoCard : Claim7 := { stood := { row := lineMovesUptoRow, standIns := [], harness := (true, "c4b1fb4dde6cdb431412a46d53bdd2ef5d1fe7b86f61b9d2b894622f104727aa"), looks := true }, kinds := [], alts := [], laidByText := true, laidKinds := [.data, .data, .data, .data, .sentinel, .sentinel, .pinned], laidTests := true, laidLooks := .later }
def LineMovesUptoCardSaid : Prop := Claim7.holds Tryz.pinned (.plain (OpenSpec.upto lineMovesSpec)) lineMovesUptoCard

/-- THE SECOND FORM's CARD OF 'kerflaw14.LineEach'. -/
def lineEachUptoCard : Claim7 := { stood := { row := lineEachUptoRow, standIns := [], harness := (true, "c4b1fb4dde6cdb431412a46d53bdd2ef5d1fe7b86f61b9d2b894622f104727aa"), looks := true }, kinds := [], alts := [], laidByText := true, laidKinds := [.data, .data, .data, .data, .sentinel, .sentinel, .pinned], laidTests := true, laidLooks := .later }
def LineEachUptoCardSaid : Prop := Claim7.holds Tryz.pinned (.plain (OpenSpec.upto lineEachSpec)) lineEachUptoCard

/-- THE SECOND FORM's CARD OF 'kerflaw17.PlacesNames'. -/
def placesNamesUptoCard : Claim7 := { stood := { row := placesNamesUptoRow, standIns := [], harness := (true, "c4b1fb4dde6cdb431412a46d53bdd2ef5d1fe7b86f61b9d2b894622f104727aa"), looks := true }, kinds := [], alts := [], laidByText := true, laidKinds := [.data, .data, .data, .data, .sentinel, .sentinel, .pinned], laidTests := true, laidLooks := .later }
def PlacesNamesUptoCardSaid : Prop := Claim7.holds Tryz.pinned (.plain (OpenSpec.upto placesNamesSpec)) placesNamesUptoCard

/-- THE SECOND FORM's CARD OF 'kerflaw17.PlacesBack'. -/
def placesBackUptoCard : Claim7 := { stood := { row := placesBackUptoRow, standIns := [], harness := (true, "c4b1fb4dde6cdb431412a46d53bdd2ef5d1fe7b86f61b9d2b894622f104727aa"), looks := true }, kinds := [], alts := [], laidByText := true, laidKinds := [.data, .data, .data, .data, .sentinel, .sentinel, .pinned], laidTests := true, laidLooks := .later }
def PlacesBackUptoCardSaid : Prop := Claim7.holds Tryz.pinned (.plain (OpenSpec.upto placesBackSpec)) placesBackUptoCard

/-- THE SECOND FORM's CARD OF 'kerflaw17.PlacesMove'. -/
def placesMoveUptoCard : Claim7 := { stood := { row := placesMoveUptoRow, standIns := [], harness := (true, "c4b1fb4dde6cdb431412a46d53bdd2ef5d1fe7b86f61b9d2b894622f104727aa"), looks := true }, kinds := [], alts := [], laidByText := true, laidKinds := [.data, .data, .data, .data, .sentinel, .sentinel, .pinned], laidTests := true, laidLooks := .later }
def PlacesMoveUptoCardSaid : Prop := Claim7.holds Tryz.pinned (.plain (OpenSpec.upto placesMoveSpec)) placesMoveUptoCard
end Rows
end Go.Proofs.YtdngkienloligaaGreatDoor
