/-
  DERIVED. GIVEN WITH THE SEED: THE CARDS: each row of YtmecnlgndaeidaaGreatDoorRows.lean that lists a variable, with what it lists TIED to the program's text (the seventh form; the later family's looks); each row that meets fmt, with fmt's text TOLD by the authors' own Lean function (tested against real Go, not proved from fmt's source: count such statements apart). THE CARD IS WHAT COUNTS. Prove the row's statement (the work); the ties are given (YtmecnlgndaeidaaGreatDoorTie.lean); close each card by the builder's one call (the guide's Derived/Test/ToyasCard.lean, 'card_holds'). Laid BY PROGRAM, IN A SANDBOX (cutbox-door.mjs). By AI agents, Wed Nov 11 2026. No macro, syntax, notation, axiom, sorry.
-/
import Derived.Test.YtmecnlgndaeidaaGreatDoorRows
import GoSem.ClaimSeven
namespace Go.Proofs.YtmecnlgndaeidaaGreatDoor
namespace Rows

/-- THE TIED CARD OF 'binnaclelaw07.NumeralShortest'. -/
def numeralShortestCard : Claim7 := { stood := { row := numeralShortestRow, standIns := [], harness := (true, "811f3c77ee097d19c0925f8df08d49d330186530c770aaa61f8ff05b489432ba"), looks := true }, kinds := [], alts := [], laidByText := true, laidKinds := [.data, .data, .data, .data, .sentinel, .sentinel, .pinned], laidTests := true, laidLooks := .later }
def NumeralShortestCardSaid : Prop := Claim7.holds Tryz.pinned (.plain (OpenSpec.ofChange numeralShortestSpec)) numeralShortestCard

/-- THE SECOND FORM's CARD OF 'binnaclelaw07.NumeralShortest'. -/
def numeralShortestUptoCard : Claim7 := { stood := { row := numeralShortestUptoRow, standIns := [], harness := (true, "811f3c77ee097d19c0925f8df08d49d330186530c770aaa61f8ff05b489432ba"), looks := true }, kinds := [], alts := [], laidByText := true, laidKinds := [.data, .data, .data, .data, .sentinel, .sentinel, .pinned], laidTests := true, laidLooks := .later }
def NumeralShortestUptoCardSaid : Prop := Claim7.holds Tryz.pinned (.plain (OpenSpec.upto numeralShortestSpec)) numeralShortestUptoCard
end Rows
end Go.Proofs.YtmecnlgndaeidaaGreatDoor
