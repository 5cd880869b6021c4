/-
  DERIVED. GIVEN WITH THE SEED: THE CARDS: each row of YtlfpdpbbkjnapaaGreatDoorRows.lean that lists a variable, with what it lists TIED to the program's text (the seventh form; the later family's looks); each row that meets fmt, with fmt's text TOLD by the authors' own Lean function (tested against real Go, not proved from fmt's source: count such statements apart). THE CARD IS WHAT COUNTS. Prove the row's statement (the work); the ties are given (YtlfpdpbbkjnapaaGreatDoorTie.lean); close each card by the builder's one call (the guide's Derived/Test/ToyasCard.lean, 'card_holds'). Laid BY PROGRAM, IN A SANDBOX (cutbox-door.mjs). By AI agents, Wed Nov 11 2026. No macro, syntax, notation, axiom, sorry.
-/
import Derived.Test.YtlfpdpbbkjnapaaGreatDoorRows
import GoSem.ClaimSeven
namespace Go.Proofs.YtlfpdpbbkjnapaaGreatDoor
namespace Rows

/-- THE TIED CARD OF 'kerflaw17.PlacesBack'. -/
def placesBackCard : Claim7 := { stood := { row := placesBackRow, standIns := [], harness := (true, "45b5ef349b9e8c5f526d45c61404d849be2fa5a2871aaef321bcbe9309821bbf"), looks := true }, kinds := [], alts := [], laidByText := true, laidKinds := [.data, .data, .data, .data, .sentinel, .sentinel, .pinned], laidTests := true, laidLooks := .later }
def PlacesBackCardSaid : Prop := Claim7.holds Tryz.pinned (.plain (OpenSpec.ofChange placesBackSpec)) placesBackCard

/-- THE TIED CARD OF 'kerflaw17.PlacesMove'. -/
def placesMoveCard : Claim7 := { stood := { row := placesMoveRow, standIns := [], harness := (true, "45b5ef349b9e8c5f526d45c61404d849be2fa5a2871aaef321bcbe9309821bbf"), looks := true }, kinds := [], alts := [], laidByText := true, laidKinds := [.data, .data, .data, .data, .sentinel, .sentinel, .pinned], laidTests := true, laidLooks := .later }
def PlacesMoveCardSaid : Prop := Claim7.holds Tryz.pinned (.plain (OpenSpec.ofChange placesMoveSpec)) placesMoveCard

/-- THE TIED CARD OF 'kerflaw17.PlacesTells'. -/
def placesTellsCard : Claim7 := { stood := { row := placesTellsRow, standIns := [], harness := (true, "45b5ef349b9e8c5f526d45c61404d849be2fa5a2871aaef321bcbe9309821bbf"), looks := true }, kinds := [], alts := [], laidByText := true, laidKinds := [.data, .data, .data, .data, .sentinel, .sentinel, .pinned], laidTests := true, laidLooks := .later }
def PlacesTellsCardSaid : Prop := Claim7.holds Tryz.pinned (.plain (OpenSpec.ofChange placesTellsSpec)) placesTellsCard

/-- THE TIED CARD OF 'kerflaw17.PlacesChange'. -/
def placesChangeCard : Claim7 := { stood := { row := placesChangeRow, standIns := [], harness := (true, "45b5ef349b9e8c5f526d45c61404d849be2fa5a2871aaef321bcbe9309821bbf"), looks := true }, kinds := [], alts := [], laidByText := true, laidKinds := [.data, .data, .data, .data, .sentinel, .sentinel, .pinned], laidTests := true, laidLooks := .later }
def PlacesChangeCardSaid : Prop := Claim7.holds Tryz.pinned (.plain (OpenSpec.ofChange placesChangeSpec)) placesChangeCard

/-- THE TIED CARD OF 'kerflaw17.PlacesEach'. -/
def placesEachCard : Claim7 := { stood := { row := placesEachRow, standIns := [], harness := (true, "45b5ef349b9e8c5f526d45c61404d849be2fa5a2871aaef321bcbe9309821bbf"), looks := true }, kinds := [], alts := [], laidByText := true, laidKinds := [.data, .data, .data, .data, .sentinel, .sentinel, .pinned], laidTests := true, laidLooks := .later }
def PlacesEachCardSaid : Prop := Claim7.holds Tryz.pinned (.plain (OpenSpec.ofChange placesEachSpec)) placesEachCard

/-- THE TIED CARD OF 'kerflaw25.AgainNames'. -/
def againNamesCard : Claim7 := { stood := { row := againNamesRow, standIns := [], harness := (true, "45b5ef349b9e8c5f526d45c61404d849be2fa5a2871aaef321bcbe9309821bbf"), looks := true }, kinds := [], alts := [], laidByText := true, laidKinds := [.data, .data, .data, .data, .sentinel, .sentinel, .pinned], laidTests := true, laidLooks := .later }
def AgainNamesCardSaid : Prop := Claim7.holds Tryz.pinned (.plain (OpenSpec.ofChange againNamesSpec)) againNamesCard

/-- THE TIED CARD OF 'kerflaw25.AgainKeeps'. -/
def againKeepsCard : Claim7 := { stood := { row := againKeepsRow, standIns := [], harness := (true, "45b5ef349b9e8c5f526d45c61404d849be2fa5a2871aaef321bcbe9309821bbf"), looks := true }, kinds := [], alts := [], laidByText := true, laidKinds := [.data, .data, .data, .data, .sentinel, .sentinel, .pinned], laidTests := true, laidLooks := .later }
def AgainKeepsCardSaid : Prop := Claim7.holds Tryz.pinned (.plain (OpenSpec.ofChange againKeepsSpec)) againKeepsCard

/-- THE TIED CARD OF 'kerflaw25.AgainEach'. -/
def againEachCard : Claim7 := { stood := { row := againEachRow, standIns := [], harness := (true, "45b5ef349b9e8c5f526d45c61404d849be2fa5a2871aaef321bcbe9309821bbf"), looks := true }, kinds := [], alts := [], laidByText := true, laidKinds := [.data, .data, .data, .data, .sentinel, .sentinel, .pinned], laidTests := true, laidLooks := .later }
def AgainEachCardSaid : Prop := Claim7.holds Tryz.pinned (.plain (OpenSpec.ofChange againEachSpec)) againEachCard

/-- THE TIED CARD OF 'kerflaw25.AgainNil'. -/
def againNilCard : Claim7 := { stood := { row := againNilRow, standIns := [], harness := (true, "45b5ef349b9e8c5f526d45c61404d849be2fa5a2871aaef321bcbe9309821bbf"), looks := true }, kinds := [], alts := [], laidByText := true, laidKinds := [.data, .data, .data, .data, .sentinel, .sentinel, .pinned], laidTests := true, laidLooks := .later }
def AgainNilCardSaid : Prop := Claim7.holds Tryz.pinned (.plain (OpenSpec.ofChange againNilSpec)) againNilCard

/-- THE TIED CARD OF 'kerflaw25.AgainPlays'. -/
def againPlaysCard : Claim7 := { stood := { row := againPlaysRow, standIns := [], harness := (true, "45b5ef349b9e8c5f526d45c61404d849be2fa5a2871aaef321bcbe9309821bbf"), looks := true }, kinds := [], alts := [], laidByText := true, laidKinds := [.data, .data, .data, .data, .sentinel, .sentinel, .pinned], laidTests := true, laidLooks := .later }
def AgainPlaysCardSaid : Prop := Claim7.holds Tryz.pinned (.plain (OpenSpec.ofChange againPlaysSpec)) againPlaysCard

/-- THE SECOND FORM's CARD OF 'kerflaw17.PlacesBack'. -/
def placesBackUptoCard : Claim7 := { stood := { row := placesBackUptoRow, standIns := [], harness := (true, "45b5ef349b9e8c5f526d45c61404d849be2fa5a2871aaef321bcbe9309821bbf"), looks := true }, kinds := [], alts := [], laidByText := true, laidKinds := [.data, .data, .data, .data, .sentinel, .sentinel, .pinned], laidTests := true, laidLooks := .later }
def PlacesBackUptoCardSaid : Prop := Claim7.holds Tryz.pinned (.plain (OpenSpec.upto placesBackSpec)) placesBackUptoCard

/-- THE SECOND FORM's CARD OF 'kerflaw17.PlacesMove'. -/
def placesMoveUptoCard : Claim7 := { stood := { row := placesMoveUptoRow, standIns := [], harness := (true, "45b5ef349b9e8c5f526d45c61404d849be2fa5a2871aaef321bcbe9309821bbf"), looks := true }, kinds := [], alts := [], laidByText := true, laidKinds := [.data, .data, .data, .data, .sentinel, .sentinel, .pinned], laidTests := true, laidLooks := .later }
def PlacesMoveUptoCardSaid : Prop := Claim7.holds Tryz.pinned (.plain (OpenSpec.upto placesMoveSpec)) placesMoveUptoCard

/-- THE SECOND FORM's CARD OF 'kerflaw17.PlacesTells'. -/
def placesTellsUptoCard : Claim7 := { stood := { row := placesTellsUptoRow, standIns := [], harness := (true, "45b5ef349b9e8c5f526d45c61404d849be2fa5a2871aaef321bcbe9309821bbf"), looks := true }, kinds := [], alts := [], laidByText := true, laidKinds := [.data, .data, .data, .data, .sentinel, .sentinel, .pinned], laidTests := true, laidLooks := .later }
def PlacesTellsUptoCardSaid : Prop := Claim7.holds Tryz.pinned (.plain (OpenSpec.upto placesTellsSpec)) placesTellsUptoCard

/-- THE SECOND FORM's CARD OF 'kerflaw17.PlacesChange'. -/
def placesChangeUptoCard : Claim7 := { stood := { row := placesChangeUptoRow, standIns := [], harness := (true, "45b5ef349b9e8c5f526d45c61404d849be2fa5a2871aaef321bcbe9309821bbf"), looks := true }, kinds := [], alts := [], laidByText := true, laidKinds := [.data, .data, .data, .data, .sentinel, .sentinel, .pinned], laidTests := true, laidLooks := .later }
def PlacesChangeUptoCardSaid : Prop := Claim7.holds Tryz.pinned (.plain (OpenSpec.upto placesChangeSpec)) placesChangeUptoCard

/-- THE SECOND FORM's CARD OF 'kerflaw17.PlacesEach'. -/
def placesEachUptoCard : Claim7 := { stood := { row := placesEachUptoRow, standIns := [], harness := (true, "45b5ef349b9e8c5f526d45c61404d849be2fa5a2871aaef321bcbe9309821bbf"), looks := true }, kinds := [], alts := [], laidByText := true, laidKinds := [.data, .data, .data, .data, .sentinel, .sentinel, .pinned], laidTests := true, laidLooks := .later }
def PlacesEachUptoCardSaid : Prop := Claim7.holds Tryz.pinned (.plain (OpenSpec.upto placesEachSpec)) placesEachUptoCard

/-- THE SECOND FORM's CARD OF 'kerflaw25.AgainNames'. -/
def againNamesUptoCard : Claim7 := { stood := { row := againNamesUptoRow, standIns := [], harness := (true, "45b5ef349b9e8c5f526d45c61404d849be2fa5a2871aaef321bcbe9309821bbf"), looks := true }, kinds := [], alts := [], laidByText := true, laidKinds := [.data, .data, .data, .data, .sentinel, .sentinel, .pinned], laidTests := true, laidLooks := .later }
def AgainNamesUptoCardSaid : Prop := Claim7.holds Tryz.pinned (.plain (OpenSpec.upto againNamesSpec)) againNamesUptoCard

/-- THE SECOND FORM's CARD OF 'kerflaw25.AgainKeeps'. -/
def againKeepsUptoCard : Claim7 := { stood := { row := againKeepsUptoRow, standIns := [], harness := (true, "45b5ef349b9e8c5f526d45c61404d849be2fa5a2871aaef321bcbe9309821bbf"), looks := true }, kinds := [], alts := [], laidByText := true, laidKinds := [.data, .data, .data, .data, .sentinel, .sentinel, .pinned], laidTests := true, laidLooks := .later }
def AgainKeepsUptoCardSaid : Prop := Claim7.holds Tryz.pinned (.plain (OpenSpec.upto againKeepsSpec)) againKeepsUptoCard

/-- THE SECOND FORM's CARD OF 'kerflaw25.AgainEach'. -/
def againEachUptoCard : Claim7 := { stood := { row := againEachUptoRow, standIns := [], harness := (true, "45b5ef349b9e8c5f526d45c61404d849be2fa5a2871aaef321bcbe9309821bbf"), looks := true }, kinds := [], alts := [], laidByText := true, laidKinds := [.data, .data, .data, .data, .sentinel, .sentinel, .pinned], laidTests := true, laidLooks := .later }
def AgainEachUptoCardSaid : Prop := Claim7.holds Tryz.pinned (.plain (OpenSpec.upto againEachSpec)) againEachUptoCard

/-- THE SECOND FORM's CARD OF 'kerflaw25.AgainNil'. -/
def againNilUptoCard : Claim7 := { stood := { row := againNilUptoRow, standIns := [], harness := (true, "45b5ef349b9e8c5f526d45c61404d849be2fa5a2871aaef321bcbe9309821bbf"), looks := true }, kinds := [], alts := [], laidByText := true, laidKinds := [.data, .data, .data, .data, .sentinel, .sentinel, .pinned], laidTests := true, laidLooks := .later }
def AgainNilUptoCardSaid : Prop := Claim7.holds Tryz.pinned (.plain (OpenSpec.upto againNilSpec)) againNilUptoCard

/-- THE SECOND FORM's CARD OF 'kerflaw25.AgainPlays'. -/
def againPlaysUptoCard : Claim7 := { stood := { row := againPlaysUptoRow, standIns := [], harness := (true, "45b5ef349b9e8c5f526d45c61404d849be2fa5a2871aaef321bcbe9309821bbf"), looks := true }, kinds := [], alts := [], laidByText := true, laidKinds := [.data, .data, .data, .data, .sentinel, .sentinel, .pinned], laidTests := true, laidLooks := .later }
def AgainPlaysUptoCardSaid : Prop := Claim7.holds Tryz.pinned (.plain (OpenSpec.upto againPlaysSpec)) againPlaysUptoCard
end Rows
end Go.Proofs.YtlfpdpbbkjnapaaGreatDoor
