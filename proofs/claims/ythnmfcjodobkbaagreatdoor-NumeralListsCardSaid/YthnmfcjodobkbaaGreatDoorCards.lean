/-
  DERIVED. GIVEN WITH THE SEED: THE CARDS: each row of YthnmfcjodobkbaaGreatDoorRows.lean that lists a variable, with what it lists TIED to the program's text (the seventh form; the later family's looks); each row that meets fmt, with fmt's text TOLD by the authors' own Lean function (tested against real Go, not proved from fmt's source: count such statements apart). THE CARD IS WHAT COUNTS. Prove the row's statement (the work); the ties are given (YthnmfcjodobkbaaGreatDoorTie.lean); close each card by the builder's one call (the guide's Derived/Test/ToyasCard.lean, 'card_holds'). Laid BY PROGRAM, IN A SANDBOX (cutbox-door.mjs). By AI agents, Wed Nov 11 2026. No macro, syntax, notation, axiom, sorry.
-/
import Derived.Test.YthnmfcjodobkbaaGreatDoorRows
import GoSem.ClaimSeven
namespace Go.Proofs.YthnmfcjodobkbaaGreatDoor
namespace Rows

/-- THE TIED CARD OF 'binnaclelaw07.NumeralTimes'. -/
def numeralTimesCard : Claim7 := { stood := { row := numeralTimesRow, standIns := [], harness := (true, "2e0e4b9b9969ef5be10d849122f8a31d513a4bffc859c1f92427bbde771c7496"), looks := true }, kinds := [], alts := [], laidByText := true, laidKinds := [.data, .data, .data, .data, .sentinel, .sentinel, .pinned], laidTests := true, laidLooks := .later }
def NumeralTimesCardSaid : Prop := Claim7.holds Tryz.pinned (.plain (OpenSpec.ofChange numeralTimesSpec)) numeralTimesCard

/-- THE TIED CARD OF 'binnaclelaw07.NumeralLists'. -/
def numeralListsCard : Claim7 := { stood := { row := numeralListsRow, standIns := [], harness := (true, "2e0e4b9b9969ef5be10d849122f8a31d513a4bffc859c1f92427bbde771c7496"), looks := true }, kinds := [], alts := [], laidByText := true, laidKinds := [.data, .data, .data, .data, .sentinel, .sentinel, .pinned], laidTests := true, laidLooks := .later }
def NumeralListsCardSaid : Prop := Claim7.holds Tryz.pinned (.plain (OpenSpec.ofChange numeralListsSpec)) numeralListsCard

/-- THE SECOND FORM's CARD OF 'binnaclelaw07.NumeralTimes'. -/
def numeralTimesUptoCard : Claim7 := { stood := { row := numeralTimesUptoRow, standIns := [], harness := (true, "2e0e4b9b9969ef5be10d849122f8a31d513a4bffc859c1f92427bbde771c7496"), looks := true }, kinds := [], alts := [], laidByText := true, laidKinds := [.data, .data, .data, .data, .sentinel, .sentinel, .pinned], laidTests := true, laidLooks := .later }
def NumeralTimesUptoCardSaid : Prop := Claim7.holds Tryz.pinned (.plain (OpenSpec.upto numeralTimesSpec)) numeralTimesUptoCard

/-- THE SECOND FORM's CARD OF 'binnaclelaw07.NumeralLists'. -/
def numeralListsUptoCard : Claim7 := { stood := { row := numeralListsUptoRow, standIns := [], harness := (true, "2e0e4b9b9969ef5be10d849122f8a31d513a4bffc859c1f92427bbde771c7496"), looks := true }, kinds := [], alts := [], laidByText := true, laidKinds := [.data, .data, .data, .data, .sentinel, .sentinel, .pinned], laidTests := true, laidLooks := .later }
def NumeralListsUptoCardSaid : Prop := Claim7.holds Tryz.pinned (.plain (OpenSpec.upto numeralListsSpec)) numeralListsUptoCard
end Rows
end Go.Proofs.YthnmfcjodobkbaaGreatDoor
