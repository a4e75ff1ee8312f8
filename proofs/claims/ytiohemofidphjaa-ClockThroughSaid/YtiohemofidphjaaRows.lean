/-
  No cell of these rows narrows 'for every input' (looked for: loops, veiled, ifaces, maps, wideKeys, modest, calm, conditions, laid).
  DERIVED. THE GIVEN ROWS OF THIS SEAT. 7 by the template 'for every input the law returns true; each argument reads behind the call as it read before'; 0 by the template 'total and deterministic' (their statements: YtiohemofidphjaaTotals.lean).
  GIVEN WITH THE SEED: the statements are not yours to turn. If you find one false, say at which input.
  Laid BY PROGRAM, IN A SANDBOX (cutbox-rows.mjs): the forced cells as the released guide's own fill.sh prints them over the translation e05a17f1de147011… (all of the seat's roots in one cut). By AI agents, Wed Nov 11 2026. No macro, syntax, notation, axiom, sorry.
-/
import Derived.Test.YtiohemofidphjaaChecked
import GoSem.Claim
import GoSem.ClaimJoined
import GoSem.ClaimMapViews
import Derived.JoinedTies
import Derived.KernelRfl
namespace Go.Proofs.Ytiohemofidphjaa
/- THE CELL 'sum', in the pinned program and in every row, IS THE sha256 OF THE DUMP (.gsa) THAT YtiohemofidphjaaProg.lean LOADS. Nothing in Lean hashes anything: it is a label: what it is worth is what the hold of that sum in a sandbox is worth. -/
noncomputable def Try.pinned : Pinned := { name := "ytiohemofidphjaa", sum := "e05a17f1de147011e70d571ebb4b9fee90a8f2b9c34b08249ed738daabbc424d", checked := Try.checked }
namespace Rows
def none {H : Type} : Left H := { results := [], args := [] }

/-- 'binnaclelaw13.ClockUnwraps': WHATEVER THE INPUT: true; the input reads as it did. -/
def clockUnwrapsSpec : ChangeSpec := { name := "clockUnwraps", fn := fun _ => fun
  | [d1, d2] => { results := [.lit (.bool true)], args := [d1, d2] }
  | _ => none }
def clockUnwrapsRow : OpenClaim := { program := "ytiohemofidphjaa", sum := "e05a17f1de147011e70d571ebb4b9fee90a8f2b9c34b08249ed738daabbc424d", func := "binnacle/binnaclelaw13.ClockUnwraps", spec := "clockUnwraps", named := ["math/bits.divideError", "math/bits.overflowError"], apart := false }
def ClockUnwrapsSaid : Prop := clockUnwrapsRow.holds Try.pinned (OpenSpec.ofChange clockUnwrapsSpec)

/-- ITS FALSE NEIGHBOUR: 'it returns false'. Refute it at one input. -/
def clockUnwrapsWrong : ChangeSpec := { name := "clockUnwraps", fn := fun _ => fun
  | [d1, d2] => { results := [.lit (.bool false)], args := [d1, d2] }
  | _ => none }
def ClockUnwrapsWrongFalsely : Prop := clockUnwrapsRow.holds Try.pinned (OpenSpec.ofChange clockUnwrapsWrong)

/-- 'binnaclelaw13.ClockRises': WHATEVER THE INPUT: true; the input reads as it did. -/
def clockRisesSpec : ChangeSpec := { name := "clockRises", fn := fun _ => fun
  | [d1, d2, d3] => { results := [.lit (.bool true)], args := [d1, d2, d3] }
  | _ => none }
def clockRisesRow : OpenClaim := { program := "ytiohemofidphjaa", sum := "e05a17f1de147011e70d571ebb4b9fee90a8f2b9c34b08249ed738daabbc424d", func := "binnacle/binnaclelaw13.ClockRises", spec := "clockRises", named := ["math/bits.divideError", "math/bits.overflowError"], apart := false }
def ClockRisesSaid : Prop := clockRisesRow.holds Try.pinned (OpenSpec.ofChange clockRisesSpec)

/-- ITS FALSE NEIGHBOUR: 'it returns false'. Refute it at one input. -/
def clockRisesWrong : ChangeSpec := { name := "clockRises", fn := fun _ => fun
  | [d1, d2, d3] => { results := [.lit (.bool false)], args := [d1, d2, d3] }
  | _ => none }
def ClockRisesWrongFalsely : Prop := clockRisesRow.holds Try.pinned (OpenSpec.ofChange clockRisesWrong)

/-- 'binnaclelaw13.ClockBack': WHATEVER THE INPUT: true; the input reads as it did. -/
def clockBackSpec : ChangeSpec := { name := "clockBack", fn := fun _ => fun
  | [d1, d2, d3] => { results := [.lit (.bool true)], args := [d1, d2, d3] }
  | _ => none }
def clockBackRow : OpenClaim := { program := "ytiohemofidphjaa", sum := "e05a17f1de147011e70d571ebb4b9fee90a8f2b9c34b08249ed738daabbc424d", func := "binnacle/binnaclelaw13.ClockBack", spec := "clockBack", named := ["math/bits.divideError", "math/bits.overflowError"], apart := false }
def ClockBackSaid : Prop := clockBackRow.holds Try.pinned (OpenSpec.ofChange clockBackSpec)

/-- ITS FALSE NEIGHBOUR: 'it returns false'. Refute it at one input. -/
def clockBackWrong : ChangeSpec := { name := "clockBack", fn := fun _ => fun
  | [d1, d2, d3] => { results := [.lit (.bool false)], args := [d1, d2, d3] }
  | _ => none }
def ClockBackWrongFalsely : Prop := clockBackRow.holds Try.pinned (OpenSpec.ofChange clockBackWrong)

/-- 'binnaclelaw13.ClockWraps': WHATEVER THE INPUT: true; the input reads as it did. -/
def clockWrapsSpec : ChangeSpec := { name := "clockWraps", fn := fun _ => fun
  | [d1, d2] => { results := [.lit (.bool true)], args := [d1, d2] }
  | _ => none }
def clockWrapsRow : OpenClaim := { program := "ytiohemofidphjaa", sum := "e05a17f1de147011e70d571ebb4b9fee90a8f2b9c34b08249ed738daabbc424d", func := "binnacle/binnaclelaw13.ClockWraps", spec := "clockWraps", named := ["math/bits.divideError", "math/bits.overflowError"], apart := false }
def ClockWrapsSaid : Prop := clockWrapsRow.holds Try.pinned (OpenSpec.ofChange clockWrapsSpec)

/-- ITS FALSE NEIGHBOUR: 'it returns false'. Refute it at one input. -/
def clockWrapsWrong : ChangeSpec := { name := "clockWraps", fn := fun _ => fun
  | [d1, d2] => { results := [.lit (.bool false)], args := [d1, d2] }
  | _ => none }
def ClockWrapsWrongFalsely : Prop := clockWrapsRow.holds Try.pinned (OpenSpec.ofChange clockWrapsWrong)

/-- 'binnaclelaw13.ClockTimes': WHATEVER THE INPUT: true; the input reads as it did. -/
def clockTimesSpec : ChangeSpec := { name := "clockTimes", fn := fun _ => fun
  | [d1, d2, d3] => { results := [.lit (.bool true)], args := [d1, d2, d3] }
  | _ => none }
def clockTimesRow : OpenClaim := { program := "ytiohemofidphjaa", sum := "e05a17f1de147011e70d571ebb4b9fee90a8f2b9c34b08249ed738daabbc424d", func := "binnacle/binnaclelaw13.ClockTimes", spec := "clockTimes", named := ["math/bits.divideError", "math/bits.overflowError"], apart := false }
def ClockTimesSaid : Prop := clockTimesRow.holds Try.pinned (OpenSpec.ofChange clockTimesSpec)

/-- ITS FALSE NEIGHBOUR: 'it returns false'. Refute it at one input. -/
def clockTimesWrong : ChangeSpec := { name := "clockTimes", fn := fun _ => fun
  | [d1, d2, d3] => { results := [.lit (.bool false)], args := [d1, d2, d3] }
  | _ => none }
def ClockTimesWrongFalsely : Prop := clockTimesRow.holds Try.pinned (OpenSpec.ofChange clockTimesWrong)

/-- 'binnaclelaw13.ClockThen': WHATEVER THE INPUT: true; the input reads as it did. -/
def clockThenSpec : ChangeSpec := { name := "clockThen", fn := fun _ => fun
  | [d1, d2, d3] => { results := [.lit (.bool true)], args := [d1, d2, d3] }
  | _ => none }
def clockThenRow : OpenClaim := { program := "ytiohemofidphjaa", sum := "e05a17f1de147011e70d571ebb4b9fee90a8f2b9c34b08249ed738daabbc424d", func := "binnacle/binnaclelaw13.ClockThen", spec := "clockThen", named := ["math/bits.divideError", "math/bits.overflowError"], apart := false }
def ClockThenSaid : Prop := clockThenRow.holds Try.pinned (OpenSpec.ofChange clockThenSpec)

/-- ITS FALSE NEIGHBOUR: 'it returns false'. Refute it at one input. -/
def clockThenWrong : ChangeSpec := { name := "clockThen", fn := fun _ => fun
  | [d1, d2, d3] => { results := [.lit (.bool false)], args := [d1, d2, d3] }
  | _ => none }
def ClockThenWrongFalsely : Prop := clockThenRow.holds Try.pinned (OpenSpec.ofChange clockThenWrong)

/-- 'binnaclelaw13.ClockThrough': WHATEVER THE INPUT: true; the input reads as it did. -/
def clockThroughSpec : ChangeSpec := { name := "clockThrough", fn := fun _ => fun
  | [d1, d2, d3] => { results := [.lit (.bool true)], args := [d1, d2, d3] }
  | _ => none }
def clockThroughRow : OpenClaim := { program := "ytiohemofidphjaa", sum := "e05a17f1de147011e70d571ebb4b9fee90a8f2b9c34b08249ed738daabbc424d", func := "binnacle/binnaclelaw13.ClockThrough", spec := "clockThrough", named := ["math/bits.divideError", "math/bits.overflowError"], apart := false }
def ClockThroughSaid : Prop := clockThroughRow.holds Try.pinned (OpenSpec.ofChange clockThroughSpec)

/-- ITS FALSE NEIGHBOUR: 'it returns false'. Refute it at one input. -/
def clockThroughWrong : ChangeSpec := { name := "clockThrough", fn := fun _ => fun
  | [d1, d2, d3] => { results := [.lit (.bool false)], args := [d1, d2, d3] }
  | _ => none }
def ClockThroughWrongFalsely : Prop := clockThroughRow.holds Try.pinned (OpenSpec.ofChange clockThroughWrong)

/- THE SECOND FORM. 'bulk': how many values and letters a reading holds, each counted each time it is reached (what is shared counts as often as it is met; a slice's spare places count too). A statement '..UptoSaid' is the law's where the arguments, and the package variables that the reading takes, are together of bulk at most 1048576: NARROWER than '..Said'. Prove '..Said' where nothing that the law and all that it calls make is longer than what came in: it says more and counts as full. Else prove '..UptoSaid'. A law counts once. -/
mutual
def uptoBulk {H : Type} : DataW H → Nat
  | .lit (.string bytes) => bytes.length + 1
  | .lit _ => 1
  | .nil => 1
  | .ptr d => uptoBulk d + 1
  | .slice elems spare => uptoBulkAll elems + uptoBulkAll spare + 1
  | .agg parts => uptoBulkAll parts + 1
  | .iface _ d => uptoBulk d + 1
  | .map entries => uptoBulkEntries entries + 1
  | .held _ => 1
def uptoBulkAll {H : Type} : List (DataW H) → Nat
  | [] => 0
  | d :: r => uptoBulk d + uptoBulkAll r
def uptoBulkEntries {H : Type} : List (Lit × DataW H) → Nat
  | [] => 0
  | x :: r => uptoBulkEntry x + uptoBulkEntries r
def uptoBulkEntry {H : Type} : Lit × DataW H → Nat
  | (.string bytes, d) => bytes.length + uptoBulk d + 1
  | (_, d) => uptoBulk d + 1
 end
def uptoSmall : (H : Type) → List (DataW H) → Bool := fun _ ds => decide (uptoBulkAll ds ≤ 1048576)
def OpenSpec.upto (s : _root_.Go.ChangeSpec) : _root_.Go.OpenSpec := { _root_.Go.OpenSpec.ofChange s with cond := some uptoSmall }

/-- 'binnaclelaw13.ClockUnwraps', WHERE WHAT IT READS IS OF BULK AT MOST 1048576: true; the input reads as it did. -/
def clockUnwrapsUptoRow : OpenClaim := { program := "ytiohemofidphjaa", sum := "e05a17f1de147011e70d571ebb4b9fee90a8f2b9c34b08249ed738daabbc424d", func := "binnacle/binnaclelaw13.ClockUnwraps", spec := "clockUnwraps", named := ["math/bits.divideError", "math/bits.overflowError"], apart := false, narrowed := true }
def ClockUnwrapsUptoSaid : Prop := clockUnwrapsUptoRow.holds Try.pinned (OpenSpec.upto clockUnwrapsSpec)

/-- 'binnaclelaw13.ClockRises', WHERE WHAT IT READS IS OF BULK AT MOST 1048576: true; the input reads as it did. -/
def clockRisesUptoRow : OpenClaim := { program := "ytiohemofidphjaa", sum := "e05a17f1de147011e70d571ebb4b9fee90a8f2b9c34b08249ed738daabbc424d", func := "binnacle/binnaclelaw13.ClockRises", spec := "clockRises", named := ["math/bits.divideError", "math/bits.overflowError"], apart := false, narrowed := true }
def ClockRisesUptoSaid : Prop := clockRisesUptoRow.holds Try.pinned (OpenSpec.upto clockRisesSpec)

/-- 'binnaclelaw13.ClockBack', WHERE WHAT IT READS IS OF BULK AT MOST 1048576: true; the input reads as it did. -/
def clockBackUptoRow : OpenClaim := { program := "ytiohemofidphjaa", sum := "e05a17f1de147011e70d571ebb4b9fee90a8f2b9c34b08249ed738daabbc424d", func := "binnacle/binnaclelaw13.ClockBack", spec := "clockBack", named := ["math/bits.divideError", "math/bits.overflowError"], apart := false, narrowed := true }
def ClockBackUptoSaid : Prop := clockBackUptoRow.holds Try.pinned (OpenSpec.upto clockBackSpec)

/-- 'binnaclelaw13.ClockWraps', WHERE WHAT IT READS IS OF BULK AT MOST 1048576: true; the input reads as it did. -/
def clockWrapsUptoRow : OpenClaim := { program := "ytiohemofidphjaa", sum := "e05a17f1de147011e70d571ebb4b9fee90a8f2b9c34b08249ed738daabbc424d", func := "binnacle/binnaclelaw13.ClockWraps", spec := "clockWraps", named := ["math/bits.divideError", "math/bits.overflowError"], apart := false, narrowed := true }
def ClockWrapsUptoSaid : Prop := clockWrapsUptoRow.holds Try.pinned (OpenSpec.upto clockWrapsSpec)

/-- 'binnaclelaw13.ClockTimes', WHERE WHAT IT READS IS OF BULK AT MOST 1048576: true; the input reads as it did. -/
def clockTimesUptoRow : OpenClaim := { program := "ytiohemofidphjaa", sum := "e05a17f1de147011e70d571ebb4b9fee90a8f2b9c34b08249ed738daabbc424d", func := "binnacle/binnaclelaw13.ClockTimes", spec := "clockTimes", named := ["math/bits.divideError", "math/bits.overflowError"], apart := false, narrowed := true }
def ClockTimesUptoSaid : Prop := clockTimesUptoRow.holds Try.pinned (OpenSpec.upto clockTimesSpec)

/-- 'binnaclelaw13.ClockThen', WHERE WHAT IT READS IS OF BULK AT MOST 1048576: true; the input reads as it did. -/
def clockThenUptoRow : OpenClaim := { program := "ytiohemofidphjaa", sum := "e05a17f1de147011e70d571ebb4b9fee90a8f2b9c34b08249ed738daabbc424d", func := "binnacle/binnaclelaw13.ClockThen", spec := "clockThen", named := ["math/bits.divideError", "math/bits.overflowError"], apart := false, narrowed := true }
def ClockThenUptoSaid : Prop := clockThenUptoRow.holds Try.pinned (OpenSpec.upto clockThenSpec)

/-- 'binnaclelaw13.ClockThrough', WHERE WHAT IT READS IS OF BULK AT MOST 1048576: true; the input reads as it did. -/
def clockThroughUptoRow : OpenClaim := { program := "ytiohemofidphjaa", sum := "e05a17f1de147011e70d571ebb4b9fee90a8f2b9c34b08249ed738daabbc424d", func := "binnacle/binnaclelaw13.ClockThrough", spec := "clockThrough", named := ["math/bits.divideError", "math/bits.overflowError"], apart := false, narrowed := true }
def ClockThroughUptoSaid : Prop := clockThroughUptoRow.holds Try.pinned (OpenSpec.upto clockThroughSpec)

end Rows
end Go.Proofs.Ytiohemofidphjaa
