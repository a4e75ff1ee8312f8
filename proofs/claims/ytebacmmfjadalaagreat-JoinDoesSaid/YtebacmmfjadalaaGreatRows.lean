/-
  No cell of these rows narrows 'for every input' (looked for: loops, veiled, ifaces, maps, wideKeys, modest, calm, conditions, laid).
  DERIVED. THE GIVEN ROWS OF THIS SEAT. 3 by the template 'for every input the law returns true; each argument reads behind the call as it read before'; 0 by the template 'total and deterministic' (their statements: YtebacmmfjadalaaGreatTotals.lean).
  GIVEN WITH THE SEED: the statements are not yours to turn. If you find one false, say at which input.
  Laid BY PROGRAM, IN A SANDBOX (cutbox-rows.mjs): the forced cells as the released guide's own fill.sh prints them over the translation da1ae94a31cb9ff8… (all of the seat's roots in one cut). By AI agents, Wed Nov 11 2026. No macro, syntax, notation, axiom, sorry.
-/
import Derived.Test.YtebacmmfjadalaaGreatChecked
import GoSem.Claim
import GoSem.ClaimJoined
import GoSem.ClaimMapViews
import Derived.JoinedTies
import Derived.KernelRfl
namespace Go.Proofs.YtebacmmfjadalaaGreat
/- THE CELL 'sum', in the pinned program and in every row, IS THE sha256 OF THE DUMP (.gsa) THAT YtebacmmfjadalaaGreatProg.lean LOADS. Nothing in Lean hashes anything: it is a label: what it is worth is what the hold of that sum in a sandbox is worth. -/
noncomputable def Tryz.pinned : Pinned := { name := "ytebacmmfjadalaagreat", sum := "da1ae94a31cb9ff8adfb4912a9b8966ae4575ac28a1ce286d65f5bc19f138827", checked := Tryz.checked }
namespace Rows
def none {H : Type} : Left H := { results := [], args := [] }

/-- 'binnaclelaw23.JoinWindow': WHATEVER THE INPUT: true; the input reads as it did. -/
def joinWindowSpec : ChangeSpec := { name := "joinWindow", fn := fun _ => fun
  | [d1, d2, d3] => { results := [.lit (.bool true)], args := [d1, d2, d3] }
  | _ => none }
def joinWindowRow : OpenClaim := { program := "ytebacmmfjadalaagreat", sum := "da1ae94a31cb9ff8adfb4912a9b8966ae4575ac28a1ce286d65f5bc19f138827", func := "binnacle/binnaclelaw23.JoinWindow", spec := "joinWindow", inPlace := ["math.Float64bits", "math.Float64frombits"], unfollowed := true, recurses := true, named := ["math/bits.divideError", "math/bits.overflowError"], apart := false }
def JoinWindowSaid : Prop := joinWindowRow.holds Tryz.pinned (OpenSpec.ofChange joinWindowSpec)

/-- ITS FALSE NEIGHBOUR: 'it returns false'. Refute it at one input. -/
def joinWindowWrong : ChangeSpec := { name := "joinWindow", fn := fun _ => fun
  | [d1, d2, d3] => { results := [.lit (.bool false)], args := [d1, d2, d3] }
  | _ => none }
def JoinWindowWrongFalsely : Prop := joinWindowRow.holds Tryz.pinned (OpenSpec.ofChange joinWindowWrong)

/-- 'binnaclelaw23.JoinAnyOrder': WHATEVER THE INPUT: true; the input reads as it did. -/
def joinAnyOrderSpec : ChangeSpec := { name := "joinAnyOrder", fn := fun _ => fun
  | [d1, d2, d3, d4] => { results := [.lit (.bool true)], args := [d1, d2, d3, d4] }
  | _ => none }
def joinAnyOrderRow : OpenClaim := { program := "ytebacmmfjadalaagreat", sum := "da1ae94a31cb9ff8adfb4912a9b8966ae4575ac28a1ce286d65f5bc19f138827", func := "binnacle/binnaclelaw23.JoinAnyOrder", spec := "joinAnyOrder", inPlace := ["math.Float64bits", "math.Float64frombits"], unfollowed := true, recurses := true, named := ["math/bits.divideError", "math/bits.overflowError"], apart := false }
def JoinAnyOrderSaid : Prop := joinAnyOrderRow.holds Tryz.pinned (OpenSpec.ofChange joinAnyOrderSpec)

/-- ITS FALSE NEIGHBOUR: 'it returns false'. Refute it at one input. -/
def joinAnyOrderWrong : ChangeSpec := { name := "joinAnyOrder", fn := fun _ => fun
  | [d1, d2, d3, d4] => { results := [.lit (.bool false)], args := [d1, d2, d3, d4] }
  | _ => none }
def JoinAnyOrderWrongFalsely : Prop := joinAnyOrderRow.holds Tryz.pinned (OpenSpec.ofChange joinAnyOrderWrong)

/-- 'binnaclelaw23.JoinDoes': WHATEVER THE INPUT: true; the input reads as it did. -/
def joinDoesSpec : ChangeSpec := { name := "joinDoes", fn := fun _ => fun
  | [d1, d2, d3] => { results := [.lit (.bool true)], args := [d1, d2, d3] }
  | _ => none }
def joinDoesRow : OpenClaim := { program := "ytebacmmfjadalaagreat", sum := "da1ae94a31cb9ff8adfb4912a9b8966ae4575ac28a1ce286d65f5bc19f138827", func := "binnacle/binnaclelaw23.JoinDoes", spec := "joinDoes", inPlace := ["math.Float64bits", "math.Float64frombits"], unfollowed := true, recurses := true, named := ["math/bits.divideError", "math/bits.overflowError"], apart := false }
def JoinDoesSaid : Prop := joinDoesRow.holds Tryz.pinned (OpenSpec.ofChange joinDoesSpec)

/-- ITS FALSE NEIGHBOUR: 'it returns false'. Refute it at one input. -/
def joinDoesWrong : ChangeSpec := { name := "joinDoes", fn := fun _ => fun
  | [d1, d2, d3] => { results := [.lit (.bool false)], args := [d1, d2, d3] }
  | _ => none }
def JoinDoesWrongFalsely : Prop := joinDoesRow.holds Tryz.pinned (OpenSpec.ofChange joinDoesWrong)

/- THE SECOND FORM. 'bulk': how many values and letters a reading holds, each counted each time it is reached (what is shared counts as often as it is met; a slice's spare places count too). A statement '..UptoSaid' is the law's where the arguments, and the package variables that the reading takes, are together of bulk at most 1048576: NARROWER than '..Said'. Prove '..Said' where nothing that the law and all that it calls make is longer than what came in: it says more and counts as full. Else prove '..UptoSaid'. A law counts once. -/
mutual
def uptoBulk {H : Type} : DataW H → Nat
  | .lit (.string bytes) => bytes.length + 1
  | .lit _ => 1
  | .nil => 1
  | .ptr d => uptoBulk d + 1
  | .slice elems spare => uptoBulkAll elems + uptoBulkAll spare + 1
  | .agg parts => uptoBulkAll parts + 1
  | .iface _ d => uptoBulk d + 1
  | .map entries => uptoBulkEntries entries + 1
  | .held _ => 1
def uptoBulkAll {H : Type} : List (DataW H) → Nat
  | [] => 0
  | d :: r => uptoBulk d + uptoBulkAll r
def uptoBulkEntries {H : Type} : List (Lit × DataW H) → Nat
  | [] => 0
  | x :: r => uptoBulkEntry x + uptoBulkEntries r
def uptoBulkEntry {H : Type} : Lit × DataW H → Nat
  | (.string bytes, d) => bytes.length + uptoBulk d + 1
  | (_, d) => uptoBulk d + 1
 end
def uptoSmall : (H : Type) → List (DataW H) → Bool := fun _ ds => decide (uptoBulkAll ds ≤ 1048576)
def OpenSpec.upto (s : _root_.Go.ChangeSpec) : _root_.Go.OpenSpec := { _root_.Go.OpenSpec.ofChange s with cond := some uptoSmall }

/-- 'binnaclelaw23.JoinWindow', WHERE WHAT IT READS IS OF BULK AT MOST 1048576: true; the input reads as it did. -/
def joinWindowUptoRow : OpenClaim := { program := "ytebacmmfjadalaagreat", sum := "da1ae94a31cb9ff8adfb4912a9b8966ae4575ac28a1ce286d65f5bc19f138827", func := "binnacle/binnaclelaw23.JoinWindow", spec := "joinWindow", inPlace := ["math.Float64bits", "math.Float64frombits"], unfollowed := true, recurses := true, named := ["math/bits.divideError", "math/bits.overflowError"], apart := false, narrowed := true }
def JoinWindowUptoSaid : Prop := joinWindowUptoRow.holds Tryz.pinned (OpenSpec.upto joinWindowSpec)

/-- 'binnaclelaw23.JoinAnyOrder', WHERE WHAT IT READS IS OF BULK AT MOST 1048576: true; the input reads as it did. -/
def joinAnyOrderUptoRow : OpenClaim := { program := "ytebacmmfjadalaagreat", sum := "da1ae94a31cb9ff8adfb4912a9b8966ae4575ac28a1ce286d65f5bc19f138827", func := "binnacle/binnaclelaw23.JoinAnyOrder", spec := "joinAnyOrder", inPlace := ["math.Float64bits", "math.Float64frombits"], unfollowed := true, recurses := true, named := ["math/bits.divideError", "math/bits.overflowError"], apart := false, narrowed := true }
def JoinAnyOrderUptoSaid : Prop := joinAnyOrderUptoRow.holds Tryz.pinned (OpenSpec.upto joinAnyOrderSpec)

/-- 'binnaclelaw23.JoinDoes', WHERE WHAT IT READS IS OF BULK AT MOST 1048576: true; the input reads as it did. -/
def joinDoesUptoRow : OpenClaim := { program := "ytebacmmfjadalaagreat", sum := "da1ae94a31cb9ff8adfb4912a9b8966ae4575ac28a1ce286d65f5bc19f138827", func := "binnacle/binnaclelaw23.JoinDoes", spec := "joinDoes", inPlace := ["math.Float64bits", "math.Float64frombits"], unfollowed := true, recurses := true, named := ["math/bits.divideError", "math/bits.overflowError"], apart := false, narrowed := true }
def JoinDoesUptoSaid : Prop := joinDoesUptoRow.holds Tryz.pinned (OpenSpec.upto joinDoesSpec)

end Rows
end Go.Proofs.YtebacmmfjadalaaGreat
