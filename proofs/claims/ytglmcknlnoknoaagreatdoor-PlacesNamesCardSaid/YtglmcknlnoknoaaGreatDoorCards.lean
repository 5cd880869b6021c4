/-
  DERIVED. GIVEN WITH THE SEED: THE CARDS: each row of YtglmcknlnoknoaaGreatDoorRows.lean that lists a variable, with what it lists TIED to the program's text (the seventh form; the later family's looks); each row that meets fmt, with fmt's text TOLD by the authors' own Lean function (tested against real Go, not proved from fmt's source: count such statements apart). THE CARD IS WHAT COUNTS. Prove the row's statement (the work); the ties are given (YtglmcknlnoknoaaGreatDoorTie.lean); close each card by the builder's one call (the guide's Derived/Test/ToyasCard.lean, 'card_holds'). Laid BY PROGRAM, IN A SANDBOX (cutbox-door.mjs). By AI agents, Wed Nov 11 2026. No macro, syntax, notation, axiom, sorry.
-/
import Derived.Test.YtglmcknlnoknoaaGreatDoorRows
import GoSem.ClaimSeven
namespace Go.Proofs.YtglmcknlnoknoaaGreatDoor
namespace Rows

/-- THE TIED CARD OF 'kerflaw11.GraphemeSafe'. -/
def graphemeSafeCard : Claim7 := { stood := { row := graphemeSafeRow, standIns := [], harness := (true, "6a965061ed8c54f60594d256551f425ceb9e73ca0ce709f5f8bb6363365625fc"), looks := true }, kinds := [], alts := [], laidByText := true, laidKinds := [.data, .data, .data, .data, .sentinel, .sentinel, .pinned], laidTests := true, laidLooks := .later }
def GraphemeSafeCardSaid : Prop := Claim7.holds Tryz.pinned (.plain (OpenSpec.ofChange graphemeSafeSpec)) graphemeSafeCard

/-- THE TIED CARD OF 'kerflaw12.WordWords'. -/
def wordWordsCard : Claim7 := { stood := { row := wordWordsRow, standIns := [], harness := (true, "6a965061ed8c54f60594d256551f425ceb9e73ca0ce709f5f8bb6363365625fc"), looks := true }, kinds := [], alts := [], laidByText := true, laidKinds := [.data, .data, .data, .data, .sentinel, .sentinel, .pinned], laidTests := true, laidLooks := .later }
def WordWordsCardSaid : Prop := Claim7.holds Tryz.pinned (.plain (OpenSpec.ofChange wordWordsSpec)) wordWordsCard

/-- THE TIED CARD OF 'kerflaw14.LineMoves'. -/
def lineMovesCard : Claim7 := { stood := { row := lineMovesRow, standIns := [], harness := (true, "6a965061ed8c54f60594d256551f425ceb9e73ca0ce709f5f8bb6363365625fc"), looks := true }, kinds := [], alts := [], laidByText := true, laidKinds := [.data, .data, .data, .data, .sentinel, .sentinel, .pinned], laidTests := true, laidLooks := .later }
def LineMovesCardSaid : Prop := Claim7.holds Tryz.pinned (.plain (OpenSpec.ofChange lineMovesSpec)) lineMovesCard

/-- THE TIED CARD OF 'kerflaw14.LineEach'. -/
def lineEachCard : Claim7 := { stood := { row := lineEachRow, standIns := [], harness := (true, "6a965061ed8c54f60594d256551f425ceb9e73ca0ce709f5f8bb6363365625fc"), looks := true }, kinds := [], alts := [], laidByText := true, laidKinds := [.data, .data, .data, .data, .sentinel, .sentinel, .pinned], laidTests := true, laidLooks := .later }
def LineEachCardSaid : Prop := Claim7.holds Tryz.pinned (.plain (OpenSpec.ofChange lineEachSpec)) lineEachCard

/-- THE TIED CARD OF 'kerflaw17.PlacesNames'. -/
def placesNamesCard : Claim7 := { stood := { row := placesNamesRow, standIns := [], harness := (true, "6a965061ed8c54f60594d256551f425ceb9e73ca0ce709f5f8bb6363365625fc"), looks := true }, kinds := [], alts := [], laidByText := true, laidKinds := [.data, .data, .data, .data, .sentinel, .sentinel, .pinned], laidTests := true, laidLooks := .later }
def PlacesNamesCardSaid : Prop := Claim7.holds Tryz.pinned (.plain (OpenSpec.ofChange placesNamesSpec)) placesNamesCard

/-- THE TIED CARD OF 'kerflaw17.PlacesBack'. -/
def placesBackCard : Claim7 := { stood := { row := placesBackRow, standIns := [], harness := (true, "6a965061ed8c54f60594d256551f425ceb9e73ca0ce709f5f8bb6363365625fc"), looks := true }, kinds := [], alts := [], laidByText := true, laidKinds := [.data, .data, .data, .data, .sentinel, .sentinel, .pinned], laidTests := true, laidLooks := .later }
def PlacesBackCardSaid : Prop := Claim7.holds Tryz.pinned (.plain (OpenSpec.ofChange placesBackSpec)) placesBackCard

/-- THE TIED CARD OF 'kerflaw17.PlacesMove'. -/
def placesMoveCard : Claim7 := { stood := { row := placesMoveRow, standIns := [], harness := (true, "6a965061ed8c54f60594d256551f425ceb9e73ca0ce709f5f8bb6363365625fc"), looks := true }, kinds := [], alts := [], laidByText := true, laidKinds := [.data, .data, .data, .data, .sentinel, .sentinel, .pinned], laidTests := true, laidLooks := .later }
def PlacesMoveCardSaid : Prop := Claim7.holds Tryz.pinned (.plain (OpenSpec.ofChange placesMoveSpec)) placesMoveCard

/-- THE TIED CARD OF 'kerflaw17.PlacesTells'. -/
def placesTellsCard : Claim7 := { stood := { row := placesTellsRow, standIns := [], harness := (true, "6a965061ed8c54f60594d256551f425ceb9e73ca0ce709f5f8bb6363365625fc"), looks := true }, kinds := [], alts := [], laidByText := true, laidKinds := [.data, .data, .data, .data, .sentinel, .sentinel, .pinned], laidTests := true, laidLooks := .later }
def PlacesTellsCardSaid : Prop := Claim7.holds Tryz.pinned (.plain (OpenSpec.ofChange placesTellsSpec)) placesTellsCard

/-- THE TIED CARD OF 'kerflaw17.PlacesChange'. -/
def placesChangeCard : Claim7 := { stood := { row := placesChangeRow, standIns := [], harness := (true, "6a965061ed8c54f60594d256551f425ceb9e73ca0ce709f5f8bb6363365625fc"), looks := true }, kinds := [], alts := [], laidByText := true, laidKinds := [.data, .data, .data, .data, .sentinel, .sentinel, .pinned], laidTests := true, laidLooks := .later }
def PlacesChangeCardSaid : Prop := Claim7.holds Tryz.pinned (.plain (OpenSpec.ofChange placesChangeSpec)) placesChangeCard

/-- THE TIED CARD OF 'kerflaw17.PlacesEach'. -/
def placesEachCard : Claim7 := { stood := { row := placesEachRow, standIns := [], harness := (true, "6a965061ed8c54f60594d256551f425ceb9e73ca0ce709f5f8bb6363365625fc"), looks := true }, kinds := [], alts := [], laidByText := true, laidKinds := [.data, .data, .data, .data, .sentinel, .sentinel, .pinned], laidTests := true, laidLooks := .later }
def PlacesEachCardSaid : Prop := Claim7.holds Tryz.pinned (.plain (OpenSpec.ofChange placesEachSpec)) placesEachCard

/-- THE TIED CARD OF 'kerflaw25.AgainNames'. -/
def againNamesCard : Claim7 := { stood := { row := againNamesRow, standIns := [], harness := (true, "6a965061ed8c54f60594d256551f425ceb9e73ca0ce709f5f8bb6363365625fc"), looks := true }, kinds := [], alts := [], laidByText := true, laidKinds := [.data, .data, .data, .data, .sentinel, .sentinel, .pinned], laidTests := true, laidLooks := .later }
def AgainNamesCardSaid : Prop := Claim7.holds Tryz.pinned (.plain (OpenSpec.ofChange againNamesSpec)) againNamesCard

/-- THE TIED CARD OF 'kerflaw25.AgainKeeps'. -/
def againKeepsCard : Claim7 := { stood := { row := againKeepsRow, standIns := [], harness := (true, "6a965061ed8c54f60594d256551f425ceb9e73ca0ce709f5f8bb6363365625fc"), looks := true }, kinds := [], alts := [], laidByText := true, laidKinds := [.data, .data, .data, .data, .sentinel, .sentinel, .pinned], laidTests := true, laidLooks := .later }
def AgainKeepsCardSaid : Prop := Claim7.holds Tryz.pinned (.plain (OpenSpec.ofChange againKeepsSpec)) againKeepsCard

/-- THE SECOND FORM's CARD OF 'kerflaw11.GraphemeSafe'. -/
def graphemeSafeUptoCard : Claim7 := { stood := { row := graphemeSafeUptoRow, standIns := [], harness := (true, "6a965061ed8c54f60594d256551f425ceb9e73ca0ce709f5f8bb6363365625fc"), looks := true }, kinds := [], alts := [], laidByText := true, laidKinds := [.data, .data, .data, .data, .sentinel, .sentinel, .pinned], laidTests := true, laidLooks := .later }
def GraphemeSafeUptoCardSaid : Prop := Claim7.holds Tryz.pinned (.plain (OpenSpec.upto graphemeSafeSpec)) graphemeSafeUptoCard

/-- THE SECOND FORM's CARD OF 'kerflaw12.WordWords'. -/
def wordWordsUptoCard : Claim7 := { stood := { row := wordWordsUptoRow, standIns := [], harness := (true, "6a965061ed8c54f60594d256551f425ceb9e73ca0ce709f5f8bb6363365625fc"), looks := true }, kinds := [], alts := [], laidByText := true, laidKinds := [.data, .data, .data, .data, .sentinel, .sentinel, .pinned], laidTests := true, laidLooks := .later }
def WordWordsUptoCardSaid : Prop := Claim7.holds Tryz.pinned (.plain (OpenSpec.upto wordWordsSpec)) wordWordsUptoCard

/-- THE SECOND FORM's CARD OF 'kerflaw14.LineMoves'. -/
def lineMovesUptoCard : Claim7 := { stood := { row := lineMovesUptoRow, standIns := [], harness := (true, "6a965061ed8c54f60594d256551f425ceb9e73ca0ce709f5f8bb6363365625fc"), looks := true }, kinds := [], alts := [], laidByText := true, laidKinds := [.data, .data, .data, .data, .sentinel, .sentinel, .pinned], laidTests := true, laidLooks := .later }
def LineMovesUptoCardSaid : Prop := Claim7.holds Tryz.pinned (.plain (OpenSpec.upto lineMovesSpec)) lineMovesUptoCard

/-- THE SECOND FORM's CARD OF 'kerflaw14.LineEach'. -/
def lineEachUptoCard : Claim7 := { stood := { row := lineEachUptoRow, standIns := [], harness := (true, "6a965061ed8c54f60594d256551f425ceb9e73ca0ce709f5f8bb6363365625fc"), looks := true }, kinds := [], alts := [], laidByText := true, laidKinds := [.data, .data, .data, .data, .sentinel, .sentinel, .pinned], laidTests := true, laidLooks := .later }
def LineEachUptoCardSaid : Prop := Claim7.holds Tryz.pinned (.plain (OpenSpec.upto lineEachSpec)) lineEachUptoCard

/-- THE SECOND FORM's CARD OF 'kerflaw17.PlacesNames'. -/
def placesNamesUptoCard : Claim7 := { stood := { row := placesNamesUptoRow, standIns := [], harness := (true, "6a965061ed8c54f60594d256551f425ceb9e73ca0ce709f5f8bb6363365625fc"), looks := true }, kinds := [], alts := [], laidByText := true, laidKinds := [.data, .data, .data, .data, .sentinel, .sentinel, .pinned], laidTests := true, laidLooks := .later }
def PlacesNamesUptoCardSaid : Prop := Claim7.holds Tryz.pinned (.plain (OpenSpec.upto placesNamesSpec)) placesNamesUptoCard

/-- THE SECOND FORM's CARD OF 'kerflaw17.PlacesBack'. -/
def placesBackUptoCard : Claim7 := { stood := { row := placesBackUptoRow, standIns := [], harness := (true, "6a965061ed8c54f60594d256551f425ceb9e73ca0ce709f5f8bb6363365625fc"), looks := true }, kinds := [], alts := [], laidByText := true, laidKinds := [.data, .data, .data, .data, .sentinel, .sentinel, .pinned], laidTests := true, laidLooks := .later }
def PlacesBackUptoCardSaid : Prop := Claim7.holds Tryz.pinned (.plain (OpenSpec.upto placesBackSpec)) placesBackUptoCard

/-- THE SECOND FORM's CARD OF 'kerflaw17.PlacesMove'. -/
def placesMoveUptoCard : Claim7 := { stood := { row := placesMoveUptoRow, standIns := [], harness := (true, "6a965061ed8c54f60594d256551f425ceb9e73ca0ce709f5f8bb6363365625fc"), looks := true }, kinds := [], alts := [], laidByText := true, laidKinds := [.data, .data, .data, .data, .sentinel, .sentinel, .pinned], laidTests := true, laidLooks := .later }
def PlacesMoveUptoCardSaid : Prop := Claim7.holds Tryz.pinned (.plain (OpenSpec.upto placesMoveSpec)) placesMoveUptoCard

/-- THE SECOND FORM's CARD OF 'kerflaw17.PlacesTells'. -/
def placesTellsUptoCard : Claim7 := { stood := { row := placesTellsUptoRow, standIns := [], harness := (true, "6a965061ed8c54f60594d256551f425ceb9e73ca0ce709f5f8bb6363365625fc"), looks := true }, kinds := [], alts := [], laidByText := true, laidKinds := [.data, .data, .data, .data, .sentinel, .sentinel, .pinned], laidTests := true, laidLooks := .later }
def PlacesTellsUptoCardSaid : Prop := Claim7.holds Tryz.pinned (.plain (OpenSpec.upto placesTellsSpec)) placesTellsUptoCard

/-- THE SECOND FORM's CARD OF 'kerflaw17.PlacesChange'. -/
def placesChangeUptoCard : Claim7 := { stood := { row := placesChangeUptoRow, standIns := [], harness := (true, "6a965061ed8c54f60594d256551f425ceb9e73ca0ce709f5f8bb6363365625fc"), looks := true }, kinds := [], alts := [], laidByText := true, laidKinds := [.data, .data, .data, .data, .sentinel, .sentinel, .pinned], laidTests := true, laidLooks := .later }
def PlacesChangeUptoCardSaid : Prop := Claim7.holds Tryz.pinned (.plain (OpenSpec.upto placesChangeSpec)) placesChangeUptoCard

/-- THE SECOND FORM's CARD OF 'kerflaw17.PlacesEach'. -/
def placesEachUptoCard : Claim7 := { stood := { row := placesEachUptoRow, standIns := [], harness := (true, "6a965061ed8c54f60594d256551f425ceb9e73ca0ce709f5f8bb6363365625fc"), looks := true }, kinds := [], alts := [], laidByText := true, laidKinds := [.data, .data, .data, .data, .sentinel, .sentinel, .pinned], laidTests := true, laidLooks := .later }
def PlacesEachUptoCardSaid : Prop := Claim7.holds Tryz.pinned (.plain (OpenSpec.upto placesEachSpec)) placesEachUptoCard

/-- THE SECOND FORM's CARD OF 'kerflaw25.AgainNames'. -/
def againNamesUptoCard : Claim7 := { stood := { row := againNamesUptoRow, standIns := [], harness := (true, "6a965061ed8c54f60594d256551f425ceb9e73ca0ce709f5f8bb6363365625fc"), looks := true }, kinds := [], alts := [], laidByText := true, laidKinds := [.data, .data, .data, .data, .sentinel, .sentinel, .pinned], laidTests := true, laidLooks := .later }
def AgainNamesUptoCardSaid : Prop := Claim7.holds Tryz.pinned (.plain (OpenSpec.upto againNamesSpec)) againNamesUptoCard

/-- THE SECOND FORM's CARD OF 'kerflaw25.AgainKeeps'. -/
def againKeepsUptoCard : Claim7 := { stood := { row := againKeepsUptoRow, standIns := [], harness := (true, "6a965061ed8c54f60594d256551f425ceb9e73ca0ce709f5f8bb6363365625fc"), looks := true }, kinds := [], alts := [], laidByText := true, laidKinds := [.data, .data, .data, .data, .sentinel, .sentinel, .pinned], laidTests := true, laidLooks := .later }
def AgainKeepsUptoCardSaid : Prop := Claim7.holds Tryz.pinned (.plain (OpenSpec.upto againKeepsSpec)) againKeepsUptoCard
end Rows
end Go.Proofs.YtglmcknlnoknoaaGreatDoor
