/-
  DERIVED. GIVEN WITH THE SEED: THE CARDS: each row of YteelepiaegpkhaaDoorRows.lean that lists a variable, with what it lists TIED to the program's text (the seventh form; the later family's looks); each row that meets fmt, with fmt's text TOLD by the authors' own Lean function (tested against real Go, not proved from fmt's source: count such statements apart). THE CARD IS WHAT COUNTS. Prove the row's statement (the work); the ties are given (YteelepiaegpkhaaDoorTie.lean); close each card by the builder's one call (the guide's Derived/Test/ToyasCard.lean, 'card_holds'). Laid BY PROGRAM, IN A SANDBOX (cutbox-door.mjs). By AI agents, Wed Nov 11 2026. No macro, syntax, notation, axiom, sorry.
-/
import Derived.Test.YteelepiaegpkhaaDoorRows
import GoSem.ClaimSeven
namespace Go.Proofs.YteelepiaegpkhaaDoor
namespace Rows

/-- THE TIED CARD OF 'kerflaw02.RunesReads'. -/
def runesReadsCard : Claim7 := { stood := { row := runesReadsRow, standIns := [], harness := (true, "8d5a7489e291ddc20b0e7bf6f5d6f363288ad3bcb5c43a0734df71c13b25edad"), looks := true }, kinds := [], alts := [], laidByText := true, laidKinds := [.data, .data, .data, .data, .sentinel, .sentinel, .pinned], laidTests := true, laidLooks := .later }
def RunesReadsCardSaid : Prop := Claim7.holds Tryd.pinned (.plain (OpenSpec.ofChange runesReadsSpec)) runesReadsCard

/-- THE TIED CARD OF 'kerflaw02.RunesNorm'. -/
def runesNormCard : Claim7 := { stood := { row := runesNormRow, standIns := [], harness := (true, "8d5a7489e291ddc20b0e7bf6f5d6f363288ad3bcb5c43a0734df71c13b25edad"), looks := true }, kinds := [], alts := [], laidByText := true, laidKinds := [.data, .data, .data, .data, .sentinel, .sentinel, .pinned], laidTests := true, laidLooks := .later }
def RunesNormCardSaid : Prop := Claim7.holds Tryd.pinned (.plain (OpenSpec.ofChange runesNormSpec)) runesNormCard

/-- THE TIED CARD OF 'kerflaw02.RunesEach'. -/
def runesEachCard : Claim7 := { stood := { row := runesEachRow, standIns := [], harness := (true, "8d5a7489e291ddc20b0e7bf6f5d6f363288ad3bcb5c43a0734df71c13b25edad"), looks := true }, kinds := [], alts := [], laidByText := true, laidKinds := [.data, .data, .data, .data, .sentinel, .sentinel, .pinned], laidTests := true, laidLooks := .later }
def RunesEachCardSaid : Prop := Claim7.holds Tryd.pinned (.plain (OpenSpec.ofChange runesEachSpec)) runesEachCard

/-- THE TIED CARD OF 'kerflaw02.RunesTexts'. -/
def runesTextsCard : Claim7 := { stood := { row := runesTextsRow, standIns := [], harness := (true, "8d5a7489e291ddc20b0e7bf6f5d6f363288ad3bcb5c43a0734df71c13b25edad"), looks := true }, kinds := [], alts := [], laidByText := true, laidKinds := [.data, .data, .data, .data, .sentinel, .sentinel, .pinned], laidTests := true, laidLooks := .later }
def RunesTextsCardSaid : Prop := Claim7.holds Tryd.pinned (.plain (OpenSpec.ofChange runesTextsSpec)) runesTextsCard

/-- THE TIED CARD OF 'kerflaw02.RunesOps'. -/
def runesOpsCard : Claim7 := { stood := { row := runesOpsRow, standIns := [], harness := (true, "8d5a7489e291ddc20b0e7bf6f5d6f363288ad3bcb5c43a0734df71c13b25edad"), looks := true }, kinds := [], alts := [], laidByText := true, laidKinds := [.data, .data, .data, .data, .sentinel, .sentinel, .pinned], laidTests := true, laidLooks := .later }
def RunesOpsCardSaid : Prop := Claim7.holds Tryd.pinned (.plain (OpenSpec.ofChange runesOpsSpec)) runesOpsCard

/-- THE TIED CARD OF 'kerflaw02.RunesParts'. -/
def runesPartsCard : Claim7 := { stood := { row := runesPartsRow, standIns := [], harness := (true, "8d5a7489e291ddc20b0e7bf6f5d6f363288ad3bcb5c43a0734df71c13b25edad"), looks := true }, kinds := [], alts := [], laidByText := true, laidKinds := [.data, .data, .data, .data, .sentinel, .sentinel, .pinned], laidTests := true, laidLooks := .later }
def RunesPartsCardSaid : Prop := Claim7.holds Tryd.pinned (.plain (OpenSpec.ofChange runesPartsSpec)) runesPartsCard

/-- THE TIED CARD OF 'kerflaw02.RunesAlgebra'. -/
def runesAlgebraCard : Claim7 := { stood := { row := runesAlgebraRow, standIns := [], harness := (true, "8d5a7489e291ddc20b0e7bf6f5d6f363288ad3bcb5c43a0734df71c13b25edad"), looks := true }, kinds := [], alts := [], laidByText := true, laidKinds := [.data, .data, .data, .data, .sentinel, .sentinel, .pinned], laidTests := true, laidLooks := .later }
def RunesAlgebraCardSaid : Prop := Claim7.holds Tryd.pinned (.plain (OpenSpec.ofChange runesAlgebraSpec)) runesAlgebraCard

/-- THE TIED CARD OF 'kerflaw02.RunesCounts'. -/
def runesCountsCard : Claim7 := { stood := { row := runesCountsRow, standIns := [], harness := (true, "8d5a7489e291ddc20b0e7bf6f5d6f363288ad3bcb5c43a0734df71c13b25edad"), looks := true }, kinds := [], alts := [], laidByText := true, laidKinds := [.data, .data, .data, .data, .sentinel, .sentinel, .pinned], laidTests := true, laidLooks := .later }
def RunesCountsCardSaid : Prop := Claim7.holds Tryd.pinned (.plain (OpenSpec.ofChange runesCountsSpec)) runesCountsCard

/-- THE SECOND FORM's CARD OF 'kerflaw02.RunesReads'. -/
def runesReadsUptoCard : Claim7 := { stood := { row := runesReadsUptoRow, standIns := [], harness := (true, "8d5a7489e291ddc20b0e7bf6f5d6f363288ad3bcb5c43a0734df71c13b25edad"), looks := true }, kinds := [], alts := [], laidByText := true, laidKinds := [.data, .data, .data, .data, .sentinel, .sentinel, .pinned], laidTests := true, laidLooks := .later }
def RunesReadsUptoCardSaid : Prop := Claim7.holds Tryd.pinned (.plain (OpenSpec.upto runesReadsSpec)) runesReadsUptoCard

/-- THE SECOND FORM's CARD OF 'kerflaw02.RunesNorm'. -/
def runesNormUptoCard : Claim7 := { stood := { row := runesNormUptoRow, standIns := [], harness := (true, "8d5a7489e291ddc20b0e7bf6f5d6f363288ad3bcb5c43a0734df71c13b25edad"), looks := true }, kinds := [], alts := [], laidByText := true, laidKinds := [.data, .data, .data, .data, .sentinel, .sentinel, .pinned], laidTests := true, laidLooks := .later }
def RunesNormUptoCardSaid : Prop := Claim7.holds Tryd.pinned (.plain (OpenSpec.upto runesNormSpec)) runesNormUptoCard

/-- THE SECOND FORM's CARD OF 'kerflaw02.RunesEach'. -/
def runesEachUptoCard : Claim7 := { stood := { row := runesEachUptoRow, standIns := [], harness := (true, "8d5a7489e291ddc20b0e7bf6f5d6f363288ad3bcb5c43a0734df71c13b25edad"), looks := true }, kinds := [], alts := [], laidByText := true, laidKinds := [.data, .data, .data, .data, .sentinel, .sentinel, .pinned], laidTests := true, laidLooks := .later }
def RunesEachUptoCardSaid : Prop := Claim7.holds Tryd.pinned (.plain (OpenSpec.upto runesEachSpec)) runesEachUptoCard

/-- THE SECOND FORM's CARD OF 'kerflaw02.RunesTexts'. -/
def runesTextsUptoCard : Claim7 := { stood := { row := runesTextsUptoRow, standIns := [], harness := (true, "8d5a7489e291ddc20b0e7bf6f5d6f363288ad3bcb5c43a0734df71c13b25edad"), looks := true }, kinds := [], alts := [], laidByText := true, laidKinds := [.data, .data, .data, .data, .sentinel, .sentinel, .pinned], laidTests := true, laidLooks := .later }
def RunesTextsUptoCardSaid : Prop := Claim7.holds Tryd.pinned (.plain (OpenSpec.upto runesTextsSpec)) runesTextsUptoCard

/-- THE SECOND FORM's CARD OF 'kerflaw02.RunesOps'. -/
def runesOpsUptoCard : Claim7 := { stood := { row := runesOpsUptoRow, standIns := [], harness := (true, "8d5a7489e291ddc20b0e7bf6f5d6f363288ad3bcb5c43a0734df71c13b25edad"), looks := true }, kinds := [], alts := [], laidByText := true, laidKinds := [.data, .data, .data, .data, .sentinel, .sentinel, .pinned], laidTests := true, laidLooks := .later }
def RunesOpsUptoCardSaid : Prop := Claim7.holds Tryd.pinned (.plain (OpenSpec.upto runesOpsSpec)) runesOpsUptoCard

/-- THE SECOND FORM's CARD OF 'kerflaw02.RunesParts'. -/
def runesPartsUptoCard : Claim7 := { stood := { row := runesPartsUptoRow, standIns := [], harness := (true, "8d5a7489e291ddc20b0e7bf6f5d6f363288ad3bcb5c43a0734df71c13b25edad"), looks := true }, kinds := [], alts := [], laidByText := true, laidKinds := [.data, .data, .data, .data, .sentinel, .sentinel, .pinned], laidTests := true, laidLooks := .later }
def RunesPartsUptoCardSaid : Prop := Claim7.holds Tryd.pinned (.plain (OpenSpec.upto runesPartsSpec)) runesPartsUptoCard

/-- THE SECOND FORM's CARD OF 'kerflaw02.RunesAlgebra'. -/
def runesAlgebraUptoCard : Claim7 := { stood := { row := runesAlgebraUptoRow, standIns := [], harness := (true, "8d5a7489e291ddc20b0e7bf6f5d6f363288ad3bcb5c43a0734df71c13b25edad"), looks := true }, kinds := [], alts := [], laidByText := true, laidKinds := [.data, .data, .data, .data, .sentinel, .sentinel, .pinned], laidTests := true, laidLooks := .later }
def RunesAlgebraUptoCardSaid : Prop := Claim7.holds Tryd.pinned (.plain (OpenSpec.upto runesAlgebraSpec)) runesAlgebraUptoCard

/-- THE SECOND FORM's CARD OF 'kerflaw02.RunesCounts'. -/
def runesCountsUptoCard : Claim7 := { stood := { row := runesCountsUptoRow, standIns := [], harness := (true, "8d5a7489e291ddc20b0e7bf6f5d6f363288ad3bcb5c43a0734df71c13b25edad"), looks := true }, kinds := [], alts := [], laidByText := true, laidKinds := [.data, .data, .data, .data, .sentinel, .sentinel, .pinned], laidTests := true, laidLooks := .later }
def RunesCountsUptoCardSaid : Prop := Claim7.holds Tryd.pinned (.plain (OpenSpec.upto runesCountsSpec)) runesCountsUptoCard
end Rows
end Go.Proofs.YteelepiaegpkhaaDoor
