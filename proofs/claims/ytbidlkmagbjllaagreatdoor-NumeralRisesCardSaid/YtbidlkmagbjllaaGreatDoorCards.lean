/-
  DERIVED. GIVEN WITH THE SEED: THE CARDS: each row of YtbidlkmagbjllaaGreatDoorRows.lean that lists a variable, with what it lists TIED to the program's text (the seventh form; the later family's looks); each row that meets fmt, with fmt's text TOLD by the authors' own Lean function (tested against real Go, not proved from fmt's source: count such statements apart). THE CARD IS WHAT COUNTS. Prove the row's statement (the work); the ties are given (YtbidlkmagbjllaaGreatDoorTie.lean); close each card by the builder's one call (the guide's Derived/Test/ToyasCard.lean, 'card_holds'). Laid BY PROGRAM, IN A SANDBOX (cutbox-door.mjs). By AI agents, Wed Nov 11 2026. No macro, syntax, notation, axiom, sorry.
-/
import Derived.Test.YtbidlkmagbjllaaGreatDoorRows
import GoSem.ClaimSeven
namespace Go.Proofs.YtbidlkmagbjllaaGreatDoor
namespace Rows

/-- THE TIED CARD OF 'binnaclelaw07.NumeralRises'. -/
def numeralRisesCard : Claim7 := { stood := { row := numeralRisesRow, standIns := [], harness := (true, "9b50c7e51c0532a25bf9b5a5ae14bb9f0f6b1e16165ac07de27431b5d6e75a41"), looks := true }, kinds := [], alts := [], laidByText := true, laidKinds := [.data, .data, .data, .data, .sentinel, .sentinel, .pinned], laidTests := true, laidLooks := .later }
def NumeralRisesCardSaid : Prop := Claim7.holds Tryz.pinned (.plain (OpenSpec.ofChange numeralRisesSpec)) numeralRisesCard

/-- THE SECOND FORM's CARD OF 'binnaclelaw07.NumeralRises'. -/
def numeralRisesUptoCard : Claim7 := { stood := { row := numeralRisesUptoRow, standIns := [], harness := (true, "9b50c7e51c0532a25bf9b5a5ae14bb9f0f6b1e16165ac07de27431b5d6e75a41"), looks := true }, kinds := [], alts := [], laidByText := true, laidKinds := [.data, .data, .data, .data, .sentinel, .sentinel, .pinned], laidTests := true, laidLooks := .later }
def NumeralRisesUptoCardSaid : Prop := Claim7.holds Tryz.pinned (.plain (OpenSpec.upto numeralRisesSpec)) numeralRisesUptoCard
end Rows
end Go.Proofs.YtbidlkmagbjllaaGreatDoor
