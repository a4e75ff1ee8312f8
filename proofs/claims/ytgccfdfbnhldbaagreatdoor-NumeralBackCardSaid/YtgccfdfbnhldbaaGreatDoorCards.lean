/-
  DERIVED. GIVEN WITH THE SEED: THE CARDS: each row of YtgccfdfbnhldbaaGreatDoorRows.lean that lists a variable, with what it lists TIED to the program's text (the seventh form; the later family's looks); each row that meets fmt, with fmt's text TOLD by the authors' own Lean function (tested against real Go, not proved from fmt's source: count such statements apart). THE CARD IS WHAT COUNTS. Prove the row's statement (the work); the ties are given (YtgccfdfbnhldbaaGreatDoorTie.lean); close each card by the builder's one call (the guide's Derived/Test/ToyasCard.lean, 'card_holds'). Laid BY PROGRAM, IN A SANDBOX (cutbox-door.mjs). By AI agents, Wed Nov 11 2026. No macro, syntax, notation, axiom, sorry.
-/
import Derived.Test.YtgccfdfbnhldbaaGreatDoorRows
import GoSem.ClaimSeven
namespace Go.Proofs.YtgccfdfbnhldbaaGreatDoor
namespace Rows

/-- THE TIED CARD OF 'binnaclelaw07.NumeralBack'. -/
def numeralBackCard : Claim7 := { stood := { row := numeralBackRow, standIns := [], harness := (true, "9051dc668a532704f435856525a15b37285e9f69708b6e3953d24f3ebeec8a75"), looks := true }, kinds := [], alts := [], laidByText := true, laidKinds := [.data, .data, .data, .data, .sentinel, .sentinel, .pinned], laidTests := true, laidLooks := .later }
def NumeralBackCardSaid : Prop := Claim7.holds Tryz.pinned (.plain (OpenSpec.ofChange numeralBackSpec)) numeralBackCard

/-- THE SECOND FORM's CARD OF 'binnaclelaw07.NumeralBack'. -/
def numeralBackUptoCard : Claim7 := { stood := { row := numeralBackUptoRow, standIns := [], harness := (true, "9051dc668a532704f435856525a15b37285e9f69708b6e3953d24f3ebeec8a75"), looks := true }, kinds := [], alts := [], laidByText := true, laidKinds := [.data, .data, .data, .data, .sentinel, .sentinel, .pinned], laidTests := true, laidLooks := .later }
def NumeralBackUptoCardSaid : Prop := Claim7.holds Tryz.pinned (.plain (OpenSpec.upto numeralBackSpec)) numeralBackUptoCard
end Rows
end Go.Proofs.YtgccfdfbnhldbaaGreatDoor
