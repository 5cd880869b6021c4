/-
  DERIVED. GIVEN WITH THE SEED: THE CARDS: each row of YtlbfbkdcjdeagaaGreatDoorRows.lean that lists a variable, with what it lists TIED to the program's text (the seventh form; the later family's looks); each row that meets fmt, with fmt's text TOLD by the authors' own Lean function (tested against real Go, not proved from fmt's source: count such statements apart). THE CARD IS WHAT COUNTS. Prove the row's statement (the work); the ties are given (YtlbfbkdcjdeagaaGreatDoorTie.lean); close each card by the builder's one call (the guide's Derived/Test/ToyasCard.lean, 'card_holds'). Laid BY PROGRAM, IN A SANDBOX (cutbox-door.mjs). By AI agents, Wed Nov 11 2026. No macro, syntax, notation, axiom, sorry.
-/
import Derived.Test.YtlbfbkdcjdeagaaGreatDoorRows
import GoSem.ClaimSeven
namespace Go.Proofs.YtlbfbkdcjdeagaaGreatDoor
namespace Rows

/-- THE TIED CARD OF 'kerflaw12.WordKinds'. -/
def wordKindsCard : Claim7 := { stood := { row := wordKindsRow, standIns := [], harness := (true, "097b71e01c3aee81340fe54a1e5fc20c40d0408639c2094941e4b1cad5e2a80f"), looks := true }, kinds := [], alts := [], laidByText := true, laidKinds := [.data, .data, .data, .data, .sentinel, .sentinel, .pinned], laidTests := true, laidLooks := .later }
def WordKindsCardSaid : Prop := Claim7.holds Tryz.pinned (.plain (OpenSpec.ofChange wordKindsSpec)) wordKindsCard

/-- THE TIED CARD OF 'kerflaw12.WordParts'. -/
def wordPartsCard : Claim7 := { stood := { row := wordPartsRow, standIns := [], harness := (true, "097b71e01c3aee81340fe54a1e5fc20c40d0408639c2094941e4b1cad5e2a80f"), looks := true }, kinds := [], alts := [], laidByText := true, laidKinds := [.data, .data, .data, .data, .sentinel, .sentinel, .pinned], laidTests := true, laidLooks := .later }
def WordPartsCardSaid : Prop := Claim7.holds Tryz.pinned (.plain (OpenSpec.ofChange wordPartsSpec)) wordPartsCard

/-- THE TIED CARD OF 'kerflaw12.WordAlone'. -/
def wordAloneCard : Claim7 := { stood := { row := wordAloneRow, standIns := [], harness := (true, "097b71e01c3aee81340fe54a1e5fc20c40d0408639c2094941e4b1cad5e2a80f"), looks := true }, kinds := [], alts := [], laidByText := true, laidKinds := [.data, .data, .data, .data, .sentinel, .sentinel, .pinned], laidTests := true, laidLooks := .later }
def WordAloneCardSaid : Prop := Claim7.holds Tryz.pinned (.plain (OpenSpec.ofChange wordAloneSpec)) wordAloneCard

/-- THE TIED CARD OF 'kerflaw12.WordHolds'. -/
def wordHoldsCard : Claim7 := { stood := { row := wordHoldsRow, standIns := [], harness := (true, "097b71e01c3aee81340fe54a1e5fc20c40d0408639c2094941e4b1cad5e2a80f"), looks := true }, kinds := [], alts := [], laidByText := true, laidKinds := [.data, .data, .data, .data, .sentinel, .sentinel, .pinned], laidTests := true, laidLooks := .later }
def WordHoldsCardSaid : Prop := Claim7.holds Tryz.pinned (.plain (OpenSpec.ofChange wordHoldsSpec)) wordHoldsCard

/-- THE TIED CARD OF 'kerflaw12.WordFlags'. -/
def wordFlagsCard : Claim7 := { stood := { row := wordFlagsRow, standIns := [], harness := (true, "097b71e01c3aee81340fe54a1e5fc20c40d0408639c2094941e4b1cad5e2a80f"), looks := true }, kinds := [], alts := [], laidByText := true, laidKinds := [.data, .data, .data, .data, .sentinel, .sentinel, .pinned], laidTests := true, laidLooks := .later }
def WordFlagsCardSaid : Prop := Claim7.holds Tryz.pinned (.plain (OpenSpec.ofChange wordFlagsSpec)) wordFlagsCard

/-- THE TIED CARD OF 'kerflaw14.LineTrails'. -/
def lineTrailsCard : Claim7 := { stood := { row := lineTrailsRow, standIns := [], harness := (true, "097b71e01c3aee81340fe54a1e5fc20c40d0408639c2094941e4b1cad5e2a80f"), looks := true }, kinds := [], alts := [], laidByText := true, laidKinds := [.data, .data, .data, .data, .sentinel, .sentinel, .pinned], laidTests := true, laidLooks := .later }
def LineTrailsCardSaid : Prop := Claim7.holds Tryz.pinned (.plain (OpenSpec.ofChange lineTrailsSpec)) lineTrailsCard

/-- THE TIED CARD OF 'kerflaw14.LineNever'. -/
def lineNeverCard : Claim7 := { stood := { row := lineNeverRow, standIns := [], harness := (true, "097b71e01c3aee81340fe54a1e5fc20c40d0408639c2094941e4b1cad5e2a80f"), looks := true }, kinds := [], alts := [], laidByText := true, laidKinds := [.data, .data, .data, .data, .sentinel, .sentinel, .pinned], laidTests := true, laidLooks := .later }
def LineNeverCardSaid : Prop := Claim7.holds Tryz.pinned (.plain (OpenSpec.ofChange lineNeverSpec)) lineNeverCard

/-- THE TIED CARD OF 'kerflaw14.LineParts'. -/
def linePartsCard : Claim7 := { stood := { row := linePartsRow, standIns := [], harness := (true, "097b71e01c3aee81340fe54a1e5fc20c40d0408639c2094941e4b1cad5e2a80f"), looks := true }, kinds := [], alts := [], laidByText := true, laidKinds := [.data, .data, .data, .data, .sentinel, .sentinel, .pinned], laidTests := true, laidLooks := .later }
def LinePartsCardSaid : Prop := Claim7.holds Tryz.pinned (.plain (OpenSpec.ofChange linePartsSpec)) linePartsCard

/-- THE TIED CARD OF 'kerflaw14.LineBlank'. -/
def lineBlankCard : Claim7 := { stood := { row := lineBlankRow, standIns := [], harness := (true, "097b71e01c3aee81340fe54a1e5fc20c40d0408639c2094941e4b1cad5e2a80f"), looks := true }, kinds := [], alts := [], laidByText := true, laidKinds := [.data, .data, .data, .data, .sentinel, .sentinel, .pinned], laidTests := true, laidLooks := .later }
def LineBlankCardSaid : Prop := Claim7.holds Tryz.pinned (.plain (OpenSpec.ofChange lineBlankSpec)) lineBlankCard

/-- THE TIED CARD OF 'kerflaw14.LineWhole'. -/
def lineWholeCard : Claim7 := { stood := { row := lineWholeRow, standIns := [], harness := (true, "097b71e01c3aee81340fe54a1e5fc20c40d0408639c2094941e4b1cad5e2a80f"), looks := true }, kinds := [], alts := [], laidByText := true, laidKinds := [.data, .data, .data, .data, .sentinel, .sentinel, .pinned], laidTests := true, laidLooks := .later }
def LineWholeCardSaid : Prop := Claim7.holds Tryz.pinned (.plain (OpenSpec.ofChange lineWholeSpec)) lineWholeCard

/-- THE TIED CARD OF 'kerflaw11.GraphemeWhole'. -/
def graphemeWholeCard : Claim7 := { stood := { row := graphemeWholeRow, standIns := [], harness := (true, "097b71e01c3aee81340fe54a1e5fc20c40d0408639c2094941e4b1cad5e2a80f"), looks := true }, kinds := [], alts := [], laidByText := true, laidKinds := [.data, .data, .data, .data, .sentinel, .sentinel, .pinned], laidTests := true, laidLooks := .later }
def GraphemeWholeCardSaid : Prop := Claim7.holds Tryz.pinned (.plain (OpenSpec.ofChange graphemeWholeSpec)) graphemeWholeCard

/-- THE TIED CARD OF 'kerflaw11.GraphemePlain'. -/
def graphemePlainCard : Claim7 := { stood := { row := graphemePlainRow, standIns := [], harness := (true, "097b71e01c3aee81340fe54a1e5fc20c40d0408639c2094941e4b1cad5e2a80f"), looks := true }, kinds := [], alts := [], laidByText := true, laidKinds := [.data, .data, .data, .data, .sentinel, .sentinel, .pinned], laidTests := true, laidLooks := .later }
def GraphemePlainCardSaid : Prop := Claim7.holds Tryz.pinned (.plain (OpenSpec.ofChange graphemePlainSpec)) graphemePlainCard

/-- THE SECOND FORM's CARD OF 'kerflaw12.WordKinds'. -/
def wordKindsUptoCard : Claim7 := { stood := { row := wordKindsUptoRow, standIns := [], harness := (true, "097b71e01c3aee81340fe54a1e5fc20c40d0408639c2094941e4b1cad5e2a80f"), looks := true }, kinds := [], alts := [], laidByText := true, laidKinds := [.data, .data, .data, .data, .sentinel, .sentinel, .pinned], laidTests := true, laidLooks := .later }
def WordKindsUptoCardSaid : Prop := Claim7.holds Tryz.pinned (.plain (OpenSpec.upto wordKindsSpec)) wordKindsUptoCard

/-- THE SECOND FORM's CARD OF 'kerflaw12.WordParts'. -/
def wordPartsUptoCard : Claim7 := { stood := { row := wordPartsUptoRow, standIns := [], harness := (true, "097b71e01c3aee81340fe54a1e5fc20c40d0408639c2094941e4b1cad5e2a80f"), looks := true }, kinds := [], alts := [], laidByText := true, laidKinds := [.data, .data, .data, .data, .sentinel, .sentinel, .pinned], laidTests := true, laidLooks := .later }
def WordPartsUptoCardSaid : Prop := Claim7.holds Tryz.pinned (.plain (OpenSpec.upto wordPartsSpec)) wordPartsUptoCard

/-- THE SECOND FORM's CARD OF 'kerflaw12.WordAlone'. -/
def wordAloneUptoCard : Claim7 := { stood := { row := wordAloneUptoRow, standIns := [], harness := (true, "097b71e01c3aee81340fe54a1e5fc20c40d0408639c2094941e4b1cad5e2a80f"), looks := true }, kinds := [], alts := [], laidByText := true, laidKinds := [.data, .data, .data, .data, .sentinel, .sentinel, .pinned], laidTests := true, laidLooks := .later }
def WordAloneUptoCardSaid : Prop := Claim7.holds Tryz.pinned (.plain (OpenSpec.upto wordAloneSpec)) wordAloneUptoCard

/-- THE SECOND FORM's CARD OF 'kerflaw12.WordHolds'. -/
def wordHoldsUptoCard : Claim7 := { stood := { row := wordHoldsUptoRow, standIns := [], harness := (true, "097b71e01c3aee81340fe54a1e5fc20c40d0408639c2094941e4b1cad5e2a80f"), looks := true }, kinds := [], alts := [], laidByText := true, laidKinds := [.data, .data, .data, .data, .sentinel, .sentinel, .pinned], laidTests := true, laidLooks := .later }
def WordHoldsUptoCardSaid : Prop := Claim7.holds Tryz.pinned (.plain (OpenSpec.upto wordHoldsSpec)) wordHoldsUptoCard

/-- THE SECOND FORM's CARD OF 'kerflaw12.WordFlags'. -/
def wordFlagsUptoCard : Claim7 := { stood := { row := wordFlagsUptoRow, standIns := [], harness := (true, "097b71e01c3aee81340fe54a1e5fc20c40d0408639c2094941e4b1cad5e2a80f"), looks := true }, kinds := [], alts := [], laidByText := true, laidKinds := [.data, .data, .data, .data, .sentinel, .sentinel, .pinned], laidTests := true, laidLooks := .later }
def WordFlagsUptoCardSaid : Prop := Claim7.holds Tryz.pinned (.plain (OpenSpec.upto wordFlagsSpec)) wordFlagsUptoCard

/-- THE SECOND FORM's CARD OF 'kerflaw14.LineTrails'. -/
def lineTrailsUptoCard : Claim7 := { stood := { row := lineTrailsUptoRow, standIns := [], harness := (true, "097b71e01c3aee81340fe54a1e5fc20c40d0408639c2094941e4b1cad5e2a80f"), looks := true }, kinds := [], alts := [], laidByText := true, laidKinds := [.data, .data, .data, .data, .sentinel, .sentinel, .pinned], laidTests := true, laidLooks := .later }
def LineTrailsUptoCardSaid : Prop := Claim7.holds Tryz.pinned (.plain (OpenSpec.upto lineTrailsSpec)) lineTrailsUptoCard

/-- THE SECOND FORM's CARD OF 'kerflaw14.LineNever'. -/
def lineNeverUptoCard : Claim7 := { stood := { row := lineNeverUptoRow, standIns := [], harness := (true, "097b71e01c3aee81340fe54a1e5fc20c40d0408639c2094941e4b1cad5e2a80f"), looks := true }, kinds := [], alts := [], laidByText := true, laidKinds := [.data, .data, .data, .data, .sentinel, .sentinel, .pinned], laidTests := true, laidLooks := .later }
def LineNeverUptoCardSaid : Prop := Claim7.holds Tryz.pinned (.plain (OpenSpec.upto lineNeverSpec)) lineNeverUptoCard

/-- THE SECOND FORM's CARD OF 'kerflaw14.LineParts'. -/
def linePartsUptoCard : Claim7 := { stood := { row := linePartsUptoRow, standIns := [], harness := (true, "097b71e01c3aee81340fe54a1e5fc20c40d0408639c2094941e4b1cad5e2a80f"), looks := true }, kinds := [], alts := [], laidByText := true, laidKinds := [.data, .data, .data, .data, .sentinel, .sentinel, .pinned], laidTests := true, laidLooks := .later }
def LinePartsUptoCardSaid : Prop := Claim7.holds Tryz.pinned (.plain (OpenSpec.upto linePartsSpec)) linePartsUptoCard

/-- THE SECOND FORM's CARD OF 'kerflaw14.LineBlank'. -/
def lineBlankUptoCard : Claim7 := { stood := { row := lineBlankUptoRow, standIns := [], harness := (true, "097b71e01c3aee81340fe54a1e5fc20c40d0408639c2094941e4b1cad5e2a80f"), looks := true }, kinds := [], alts := [], laidByText := true, laidKinds := [.data, .data, .data, .data, .sentinel, .sentinel, .pinned], laidTests := true, laidLooks := .later }
def LineBlankUptoCardSaid : Prop := Claim7.holds Tryz.pinned (.plain (OpenSpec.upto lineBlankSpec)) lineBlankUptoCard

/-- THE SECOND FORM's CARD OF 'kerflaw14.LineWhole'. -/
def lineWholeUptoCard : Claim7 := { stood := { row := lineWholeUptoRow, standIns := [], harness := (true, "097b71e01c3aee81340fe54a1e5fc20c40d0408639c2094941e4b1cad5e2a80f"), looks := true }, kinds := [], alts := [], laidByText := true, laidKinds := [.data, .data, .data, .data, .sentinel, .sentinel, .pinned], laidTests := true, laidLooks := .later }
def LineWholeUptoCardSaid : Prop := Claim7.holds Tryz.pinned (.plain (OpenSpec.upto lineWholeSpec)) lineWholeUptoCard

/-- THE SECOND FORM's CARD OF 'kerflaw11.GraphemeWhole'. -/
def graphemeWholeUptoCard : Claim7 := { stood := { row := graphemeWholeUptoRow, standIns := [], harness := (true, "097b71e01c3aee81340fe54a1e5fc20c40d0408639c2094941e4b1cad5e2a80f"), looks := true }, kinds := [], alts := [], laidByText := true, laidKinds := [.data, .data, .data, .data, .sentinel, .sentinel, .pinned], laidTests := true, laidLooks := .later }
def GraphemeWholeUptoCardSaid : Prop := Claim7.holds Tryz.pinned (.plain (OpenSpec.upto graphemeWholeSpec)) graphemeWholeUptoCard

/-- THE SECOND FORM's CARD OF 'kerflaw11.GraphemePlain'. -/
def graphemePlainUptoCard : Claim7 := { stood := { row := graphemePlainUptoRow, standIns := [], harness := (true, "097b71e01c3aee81340fe54a1e5fc20c40d0408639c2094941e4b1cad5e2a80f"), looks := true }, kinds := [], alts := [], laidByText := true, laidKinds := [.data, .data, .data, .data, .sentinel, .sentinel, .pinned], laidTests := true, laidLooks := .later }
def GraphemePlainUptoCardSaid : Prop := Claim7.holds Tryz.pinned (.plain (OpenSpec.upto graphemePlainSpec)) graphemePlainUptoCard
end Rows
end Go.Proofs.YtlbfbkdcjdeagaaGreatDoor
