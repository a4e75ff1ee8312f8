/-
  DERIVED. GIVEN WITH THE SEED: THE CARDS: each row of YtdomfdcebdimlaaGreatDoorRows.lean that lists a variable, with what it lists TIED to the program's text (the seventh form; the later family's looks); each row that meets fmt, with fmt's text TOLD by the authors' own Lean function (tested against real Go, not proved from fmt's source: count such statements apart). THE CARD IS WHAT COUNTS. Prove the row's statement (the work); the ties are given (YtdomfdcebdimlaaGreatDoorTie.lean); close each card by the builder's one call (the guide's Derived/Test/ToyasCard.lean, 'card_holds'). Laid BY PROGRAM, IN A SANDBOX (cutbox-door.mjs). By AI agents, Wed Nov 11 2026. No macro, syntax, notation, axiom, sorry.
-/
import Derived.Test.YtdomfdcebdimlaaGreatDoorRows
import GoSem.ClaimSeven
namespace Go.Proofs.YtdomfdcebdimlaaGreatDoor
namespace Rows

/-- THE TIED CARD OF 'binnaclelaw07.NumeralShortest'. -/
def numeralShortestCard : Claim7 := { stood := { row := numeralShortestRow, standIns := [], harness := (true, "f9dfeaa1304dd56bfcdaacef26896f56eb178f0831dcdbe9f1f50020b3c64817"), looks := true }, kinds := [], alts := [], laidByText := true, laidKinds := [.data, .data, .data, .data, .sentinel, .sentinel, .pinned], laidTests := true, laidLooks := .later }
def NumeralShortestCardSaid : Prop := Claim7.holds Tryz.pinned (.plain (OpenSpec.ofChange numeralShortestSpec)) numeralShortestCard

/-- THE TIED CARD OF 'binnaclelaw07.NumeralRises'. -/
def numeralRisesCard : Claim7 := { stood := { row := numeralRisesRow, standIns := [], harness := (true, "f9dfeaa1304dd56bfcdaacef26896f56eb178f0831dcdbe9f1f50020b3c64817"), looks := true }, kinds := [], alts := [], laidByText := true, laidKinds := [.data, .data, .data, .data, .sentinel, .sentinel, .pinned], laidTests := true, laidLooks := .later }
def NumeralRisesCardSaid : Prop := Claim7.holds Tryz.pinned (.plain (OpenSpec.ofChange numeralRisesSpec)) numeralRisesCard

/-- THE TIED CARD OF 'binnaclelaw07.NumeralBack'. -/
def numeralBackCard : Claim7 := { stood := { row := numeralBackRow, standIns := [], harness := (true, "f9dfeaa1304dd56bfcdaacef26896f56eb178f0831dcdbe9f1f50020b3c64817"), looks := true }, kinds := [], alts := [], laidByText := true, laidKinds := [.data, .data, .data, .data, .sentinel, .sentinel, .pinned], laidTests := true, laidLooks := .later }
def NumeralBackCardSaid : Prop := Claim7.holds Tryz.pinned (.plain (OpenSpec.ofChange numeralBackSpec)) numeralBackCard

/-- THE TIED CARD OF 'binnaclelaw07.NumeralTexts'. -/
def numeralTextsCard : Claim7 := { stood := { row := numeralTextsRow, standIns := [], harness := (true, "f9dfeaa1304dd56bfcdaacef26896f56eb178f0831dcdbe9f1f50020b3c64817"), looks := true }, kinds := [], alts := [], laidByText := true, laidKinds := [.data, .data, .data, .data, .data, .sentinel, .sentinel, .pinned, .pinned, .pinned], laidTests := true, laidLooks := .later }
def NumeralTextsCardSaid : Prop := Claim7.holds Tryz.pinned (.plain (OpenSpec.ofChange numeralTextsSpec)) numeralTextsCard

/-- THE TIED CARD OF 'binnaclelaw07.NumeralReads'. -/
def numeralReadsCard : Claim7 := { stood := { row := numeralReadsRow, standIns := [], harness := (true, "f9dfeaa1304dd56bfcdaacef26896f56eb178f0831dcdbe9f1f50020b3c64817"), looks := true }, kinds := [], alts := [], laidByText := true, laidKinds := [.data, .data, .widerDeep, .widerDeep, .data, .data, .data, .data, .data, .data, .sentinel, .sentinel, .pinned, .pinned, .pinned], laidTests := true, laidLooks := .later }
def NumeralReadsCardSaid : Prop := Claim7.holds Tryz.pinned (.plain (OpenSpec.ofChange numeralReadsSpec)) numeralReadsCard

/-- THE TIED CARD OF 'binnaclelaw07.NumeralReadLists'. -/
def numeralReadListsCard : Claim7 := { stood := { row := numeralReadListsRow, standIns := [], harness := (true, "f9dfeaa1304dd56bfcdaacef26896f56eb178f0831dcdbe9f1f50020b3c64817"), looks := true }, kinds := [], alts := [], laidByText := true, laidKinds := [.data, .data, .widerDeep, .widerDeep, .data, .data, .data, .data, .data, .data, .sentinel, .sentinel, .pinned, .pinned, .pinned], laidTests := true, laidLooks := .later }
def NumeralReadListsCardSaid : Prop := Claim7.holds Tryz.pinned (.plain (OpenSpec.ofChange numeralReadListsSpec)) numeralReadListsCard

/-- THE SECOND FORM's CARD OF 'binnaclelaw07.NumeralShortest'. -/
def numeralShortestUptoCard : Claim7 := { stood := { row := numeralShortestUptoRow, standIns := [], harness := (true, "f9dfeaa1304dd56bfcdaacef26896f56eb178f0831dcdbe9f1f50020b3c64817"), looks := true }, kinds := [], alts := [], laidByText := true, laidKinds := [.data, .data, .data, .data, .sentinel, .sentinel, .pinned], laidTests := true, laidLooks := .later }
def NumeralShortestUptoCardSaid : Prop := Claim7.holds Tryz.pinned (.plain (OpenSpec.upto numeralShortestSpec)) numeralShortestUptoCard

/-- THE SECOND FORM's CARD OF 'binnaclelaw07.NumeralRises'. -/
def numeralRisesUptoCard : Claim7 := { stood := { row := numeralRisesUptoRow, standIns := [], harness := (true, "f9dfeaa1304dd56bfcdaacef26896f56eb178f0831dcdbe9f1f50020b3c64817"), looks := true }, kinds := [], alts := [], laidByText := true, laidKinds := [.data, .data, .data, .data, .sentinel, .sentinel, .pinned], laidTests := true, laidLooks := .later }
def NumeralRisesUptoCardSaid : Prop := Claim7.holds Tryz.pinned (.plain (OpenSpec.upto numeralRisesSpec)) numeralRisesUptoCard

/-- THE SECOND FORM's CARD OF 'binnaclelaw07.NumeralBack'. -/
def numeralBackUptoCard : Claim7 := { stood := { row := numeralBackUptoRow, standIns := [], harness := (true, "f9dfeaa1304dd56bfcdaacef26896f56eb178f0831dcdbe9f1f50020b3c64817"), looks := true }, kinds := [], alts := [], laidByText := true, laidKinds := [.data, .data, .data, .data, .sentinel, .sentinel, .pinned], laidTests := true, laidLooks := .later }
def NumeralBackUptoCardSaid : Prop := Claim7.holds Tryz.pinned (.plain (OpenSpec.upto numeralBackSpec)) numeralBackUptoCard

/-- THE SECOND FORM's CARD OF 'binnaclelaw07.NumeralTexts'. -/
def numeralTextsUptoCard : Claim7 := { stood := { row := numeralTextsUptoRow, standIns := [], harness := (true, "f9dfeaa1304dd56bfcdaacef26896f56eb178f0831dcdbe9f1f50020b3c64817"), looks := true }, kinds := [], alts := [], laidByText := true, laidKinds := [.data, .data, .data, .data, .data, .sentinel, .sentinel, .pinned, .pinned, .pinned], laidTests := true, laidLooks := .later }
def NumeralTextsUptoCardSaid : Prop := Claim7.holds Tryz.pinned (.plain (OpenSpec.upto numeralTextsSpec)) numeralTextsUptoCard

/-- THE SECOND FORM's CARD OF 'binnaclelaw07.NumeralReads'. -/
def numeralReadsUptoCard : Claim7 := { stood := { row := numeralReadsUptoRow, standIns := [], harness := (true, "f9dfeaa1304dd56bfcdaacef26896f56eb178f0831dcdbe9f1f50020b3c64817"), looks := true }, kinds := [], alts := [], laidByText := true, laidKinds := [.data, .data, .widerDeep, .widerDeep, .data, .data, .data, .data, .data, .data, .sentinel, .sentinel, .pinned, .pinned, .pinned], laidTests := true, laidLooks := .later }
def NumeralReadsUptoCardSaid : Prop := Claim7.holds Tryz.pinned (.plain (OpenSpec.upto numeralReadsSpec)) numeralReadsUptoCard

/-- THE SECOND FORM's CARD OF 'binnaclelaw07.NumeralReadLists'. -/
def numeralReadListsUptoCard : Claim7 := { stood := { row := numeralReadListsUptoRow, standIns := [], harness := (true, "f9dfeaa1304dd56bfcdaacef26896f56eb178f0831dcdbe9f1f50020b3c64817"), looks := true }, kinds := [], alts := [], laidByText := true, laidKinds := [.data, .data, .widerDeep, .widerDeep, .data, .data, .data, .data, .data, .data, .sentinel, .sentinel, .pinned, .pinned, .pinned], laidTests := true, laidLooks := .later }
def NumeralReadListsUptoCardSaid : Prop := Claim7.holds Tryz.pinned (.plain (OpenSpec.upto numeralReadListsSpec)) numeralReadListsUptoCard
end Rows
end Go.Proofs.YtdomfdcebdimlaaGreatDoor
