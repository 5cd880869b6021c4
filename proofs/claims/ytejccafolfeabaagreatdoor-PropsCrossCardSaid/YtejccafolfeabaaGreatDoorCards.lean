/-
  DERIVED. GIVEN WITH THE SEED: THE CARDS: each row of YtejccafolfeabaaGreatDoorRows.lean that lists a variable, with what it lists TIED to the program's text (the seventh form; the later family's looks); each row that meets fmt, with fmt's text TOLD by the authors' own Lean function (tested against real Go, not proved from fmt's source: count such statements apart). THE CARD IS WHAT COUNTS. Prove the row's statement (the work); the ties are given (YtejccafolfeabaaGreatDoorTie.lean); close each card by the builder's one call (the guide's Derived/Test/ToyasCard.lean, 'card_holds'). Laid BY PROGRAM, IN A SANDBOX (cutbox-door.mjs). By AI agents, Wed Nov 11 2026. No macro, syntax, notation, axiom, sorry.
-/
import Derived.Test.YtejccafolfeabaaGreatDoorRows
import GoSem.ClaimSeven
namespace Go.Proofs.YtejccafolfeabaaGreatDoor
namespace Rows

/-- THE TIED CARD OF 'kerflaw04.PropsNames'. -/
def propsNamesCard : Claim7 := { stood := { row := propsNamesRow, standIns := [], harness := (true, "800507371290241d6819d147bd77ebb96c3d52d5d9d0566c7a82fda8f5027bd9"), looks := true }, kinds := [], alts := [], laidByText := true, laidKinds := [.data, .data, .data, .data, .sentinel, .sentinel, .pinned, .pinned], laidTests := true, laidLooks := .later }
def PropsNamesCardSaid : Prop := Claim7.holds Tryz.pinned (.plain (OpenSpec.ofChange propsNamesSpec)) propsNamesCard

/-- THE TIED CARD OF 'kerflaw04.PropsReads'. -/
def propsReadsCard : Claim7 := { stood := { row := propsReadsRow, standIns := [], harness := (true, "800507371290241d6819d147bd77ebb96c3d52d5d9d0566c7a82fda8f5027bd9"), looks := true }, kinds := [], alts := [], laidByText := true, laidKinds := [.data, .data, .data, .data, .sentinel, .sentinel, .pinned, .pinned], laidTests := true, laidLooks := .later }
def PropsReadsCardSaid : Prop := Claim7.holds Tryz.pinned (.plain (OpenSpec.ofChange propsReadsSpec)) propsReadsCard

/-- THE TIED CARD OF 'kerflaw04.PropsEvery'. -/
def propsEveryCard : Claim7 := { stood := { row := propsEveryRow, standIns := [], harness := (true, "800507371290241d6819d147bd77ebb96c3d52d5d9d0566c7a82fda8f5027bd9"), looks := true }, kinds := [], alts := [], laidByText := true, laidKinds := [.data, .data, .data, .data, .sentinel, .sentinel, .pinned, .pinned], laidTests := true, laidLooks := .later }
def PropsEveryCardSaid : Prop := Claim7.holds Tryz.pinned (.plain (OpenSpec.ofChange propsEverySpec)) propsEveryCard

/-- THE TIED CARD OF 'kerflaw04.PropsBack'. -/
def propsBackCard : Claim7 := { stood := { row := propsBackRow, standIns := [], harness := (true, "800507371290241d6819d147bd77ebb96c3d52d5d9d0566c7a82fda8f5027bd9"), looks := true }, kinds := [], alts := [], laidByText := true, laidKinds := [.data, .data, .data, .data, .sentinel, .sentinel, .pinned, .pinned], laidTests := true, laidLooks := .later }
def PropsBackCardSaid : Prop := Claim7.holds Tryz.pinned (.plain (OpenSpec.ofChange propsBackSpec)) propsBackCard

/-- THE TIED CARD OF 'kerflaw04.PropsTexts'. -/
def propsTextsCard : Claim7 := { stood := { row := propsTextsRow, standIns := [], harness := (true, "800507371290241d6819d147bd77ebb96c3d52d5d9d0566c7a82fda8f5027bd9"), looks := true }, kinds := [], alts := [], laidByText := true, laidKinds := [.data, .data, .data, .data, .sentinel, .sentinel, .pinned, .pinned], laidTests := true, laidLooks := .later }
def PropsTextsCardSaid : Prop := Claim7.holds Tryz.pinned (.plain (OpenSpec.ofChange propsTextsSpec)) propsTextsCard

/-- THE TIED CARD OF 'kerflaw04.PropsCross'. -/
def propsCrossCard : Claim7 := { stood := { row := propsCrossRow, standIns := [], harness := (true, "800507371290241d6819d147bd77ebb96c3d52d5d9d0566c7a82fda8f5027bd9"), looks := true }, kinds := [], alts := [], laidByText := true, laidKinds := [.data, .data, .data, .data, .sentinel, .sentinel, .pinned, .pinned], laidTests := true, laidLooks := .later }
def PropsCrossCardSaid : Prop := Claim7.holds Tryz.pinned (.plain (OpenSpec.ofChange propsCrossSpec)) propsCrossCard

/-- THE TIED CARD OF 'kerflaw04.PropsNil'. -/
def propsNilCard : Claim7 := { stood := { row := propsNilRow, standIns := [], harness := (true, "800507371290241d6819d147bd77ebb96c3d52d5d9d0566c7a82fda8f5027bd9"), looks := true }, kinds := [], alts := [], laidByText := true, laidKinds := [.data, .data, .data, .data, .sentinel, .sentinel, .pinned, .pinned], laidTests := true, laidLooks := .later }
def PropsNilCardSaid : Prop := Claim7.holds Tryz.pinned (.plain (OpenSpec.ofChange propsNilSpec)) propsNilCard

/-- THE SECOND FORM's CARD OF 'kerflaw04.PropsNames'. -/
def propsNamesUptoCard : Claim7 := { stood := { row := propsNamesUptoRow, standIns := [], harness := (true, "800507371290241d6819d147bd77ebb96c3d52d5d9d0566c7a82fda8f5027bd9"), looks := true }, kinds := [], alts := [], laidByText := true, laidKinds := [.data, .data, .data, .data, .sentinel, .sentinel, .pinned, .pinned], laidTests := true, laidLooks := .later }
def PropsNamesUptoCardSaid : Prop := Claim7.holds Tryz.pinned (.plain (OpenSpec.upto propsNamesSpec)) propsNamesUptoCard

/-- THE SECOND FORM's CARD OF 'kerflaw04.PropsReads'. -/
def propsReadsUptoCard : Claim7 := { stood := { row := propsReadsUptoRow, standIns := [], harness := (true, "800507371290241d6819d147bd77ebb96c3d52d5d9d0566c7a82fda8f5027bd9"), looks := true }, kinds := [], alts := [], laidByText := true, laidKinds := [.data, .data, .data, .data, .sentinel, .sentinel, .pinned, .pinned], laidTests := true, laidLooks := .later }
def PropsReadsUptoCardSaid : Prop := Claim7.holds Tryz.pinned (.plain (OpenSpec.upto propsReadsSpec)) propsReadsUptoCard

/-- THE SECOND FORM's CARD OF 'kerflaw04.PropsEvery'. -/
def propsEveryUptoCard : Claim7 := { stood := { row := propsEveryUptoRow, standIns := [], harness := (true, "800507371290241d6819d147bd77ebb96c3d52d5d9d0566c7a82fda8f5027bd9"), looks := true }, kinds := [], alts := [], laidByText := true, laidKinds := [.data, .data, .data, .data, .sentinel, .sentinel, .pinned, .pinned], laidTests := true, laidLooks := .later }
def PropsEveryUptoCardSaid : Prop := Claim7.holds Tryz.pinned (.plain (OpenSpec.upto propsEverySpec)) propsEveryUptoCard

/-- THE SECOND FORM's CARD OF 'kerflaw04.PropsBack'. -/
def propsBackUptoCard : Claim7 := { stood := { row := propsBackUptoRow, standIns := [], harness := (true, "800507371290241d6819d147bd77ebb96c3d52d5d9d0566c7a82fda8f5027bd9"), looks := true }, kinds := [], alts := [], laidByText := true, laidKinds := [.data, .data, .data, .data, .sentinel, .sentinel, .pinned, .pinned], laidTests := true, laidLooks := .later }
def PropsBackUptoCardSaid : Prop := Claim7.holds Tryz.pinned (.plain (OpenSpec.upto propsBackSpec)) propsBackUptoCard

/-- THE SECOND FORM's CARD OF 'kerflaw04.PropsTexts'. -/
def propsTextsUptoCard : Claim7 := { stood := { row := propsTextsUptoRow, standIns := [], harness := (true, "800507371290241d6819d147bd77ebb96c3d52d5d9d0566c7a82fda8f5027bd9"), looks := true }, kinds := [], alts := [], laidByText := true, laidKinds := [.data, .data, .data, .data, .sentinel, .sentinel, .pinned, .pinned], laidTests := true, laidLooks := .later }
def PropsTextsUptoCardSaid : Prop := Claim7.holds Tryz.pinned (.plain (OpenSpec.upto propsTextsSpec)) propsTextsUptoCard

/-- THE SECOND FORM's CARD OF 'kerflaw04.PropsCross'. -/
def propsCrossUptoCard : Claim7 := { stood := { row := propsCrossUptoRow, standIns := [], harness := (true, "800507371290241d6819d147bd77ebb96c3d52d5d9d0566c7a82fda8f5027bd9"), looks := true }, kinds := [], alts := [], laidByText := true, laidKinds := [.data, .data, .data, .data, .sentinel, .sentinel, .pinned, .pinned], laidTests := true, laidLooks := .later }
def PropsCrossUptoCardSaid : Prop := Claim7.holds Tryz.pinned (.plain (OpenSpec.upto propsCrossSpec)) propsCrossUptoCard

/-- THE SECOND FORM's CARD OF 'kerflaw04.PropsNil'. -/
def propsNilUptoCard : Claim7 := { stood := { row := propsNilUptoRow, standIns := [], harness := (true, "800507371290241d6819d147bd77ebb96c3d52d5d9d0566c7a82fda8f5027bd9"), looks := true }, kinds := [], alts := [], laidByText := true, laidKinds := [.data, .data, .data, .data, .sentinel, .sentinel, .pinned, .pinned], laidTests := true, laidLooks := .later }
def PropsNilUptoCardSaid : Prop := Claim7.holds Tryz.pinned (.plain (OpenSpec.upto propsNilSpec)) propsNilUptoCard
end Rows
end Go.Proofs.YtejccafolfeabaaGreatDoor
