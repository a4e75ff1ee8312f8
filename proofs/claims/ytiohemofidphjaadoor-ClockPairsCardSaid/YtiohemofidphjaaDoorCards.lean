/-
  DERIVED. GIVEN WITH THE SEED: THE CARDS: each row of YtiohemofidphjaaDoorRows.lean that lists a variable, with what it lists TIED to the program's text (the seventh form; the later family's looks); each row that meets fmt, with fmt's text TOLD by the authors' own Lean function (tested against real Go, not proved from fmt's source: count such statements apart). THE CARD IS WHAT COUNTS. Prove the row's statement (the work); the ties are given (YtiohemofidphjaaDoorTie.lean); close each card by the builder's one call (the guide's Derived/Test/ToyasCard.lean, 'card_holds'). Laid BY PROGRAM, IN A SANDBOX (cutbox-door.mjs). By AI agents, Wed Nov 11 2026. No macro, syntax, notation, axiom, sorry.
-/
import Derived.Test.YtiohemofidphjaaDoorRows
import GoSem.ClaimSeven
namespace Go.Proofs.YtiohemofidphjaaDoor
namespace Rows

/-- THE TIED CARD OF 'binnaclelaw13.ClockFits'. -/
def clockFitsCard : Claim7 := { stood := { row := clockFitsRow, standIns := [], harness := (true, "94dd1c4d23c2355c678706adb217ccb133b6c32d99f4561745379aab0cf2949f"), looks := false }, kinds := [], alts := [], laidByText := true, laidKinds := [.data], laidTests := true, laidLooks := .later }
def ClockFitsCardSaid : Prop := Claim7.holds Tryd.pinned (.plain (OpenSpec.ofChange clockFitsSpec)) clockFitsCard

/-- THE TIED CARD OF 'binnaclelaw13.ClockPairs'. -/
def clockPairsCard : Claim7 := { stood := { row := clockPairsRow, standIns := [], harness := (true, "94dd1c4d23c2355c678706adb217ccb133b6c32d99f4561745379aab0cf2949f"), looks := false }, kinds := [], alts := [], laidByText := true, laidKinds := [.data], laidTests := true, laidLooks := .later }
def ClockPairsCardSaid : Prop := Claim7.holds Tryd.pinned (.plain (OpenSpec.ofChange clockPairsSpec)) clockPairsCard

/-- THE SECOND FORM's CARD OF 'binnaclelaw13.ClockFits'. -/
def clockFitsUptoCard : Claim7 := { stood := { row := clockFitsUptoRow, standIns := [], harness := (true, "94dd1c4d23c2355c678706adb217ccb133b6c32d99f4561745379aab0cf2949f"), looks := false }, kinds := [], alts := [], laidByText := true, laidKinds := [.data], laidTests := true, laidLooks := .later }
def ClockFitsUptoCardSaid : Prop := Claim7.holds Tryd.pinned (.plain (OpenSpec.upto clockFitsSpec)) clockFitsUptoCard

/-- THE SECOND FORM's CARD OF 'binnaclelaw13.ClockPairs'. -/
def clockPairsUptoCard : Claim7 := { stood := { row := clockPairsUptoRow, standIns := [], harness := (true, "94dd1c4d23c2355c678706adb217ccb133b6c32d99f4561745379aab0cf2949f"), looks := false }, kinds := [], alts := [], laidByText := true, laidKinds := [.data], laidTests := true, laidLooks := .later }
def ClockPairsUptoCardSaid : Prop := Claim7.holds Tryd.pinned (.plain (OpenSpec.upto clockPairsSpec)) clockPairsUptoCard
end Rows
end Go.Proofs.YtiohemofidphjaaDoor
