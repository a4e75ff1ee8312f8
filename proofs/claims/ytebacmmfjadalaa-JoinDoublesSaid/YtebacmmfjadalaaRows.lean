/-
  No cell of these rows narrows 'for every input' (looked for: loops, veiled, ifaces, maps, wideKeys, modest, calm, conditions, laid).
  DERIVED. THE GIVEN ROWS OF THIS SEAT. 4 by the template 'for every input the law returns true; each argument reads behind the call as it read before'; 0 by the template 'total and deterministic' (their statements: YtebacmmfjadalaaTotals.lean).
  GIVEN WITH THE SEED: the statements are not yours to turn. If you find one false, say at which input.
  Laid BY PROGRAM, IN A SANDBOX (cutbox-rows.mjs): the forced cells as the released guide's own fill.sh prints them over the translation 6d7237badb15c1fe… (all of the seat's roots in one cut). By AI agents, Wed Nov 11 2026. No macro, syntax, notation, axiom, sorry.
-/
import Derived.Test.YtebacmmfjadalaaChecked
import GoSem.Claim
import GoSem.ClaimJoined
import GoSem.ClaimMapViews
import Derived.JoinedTies
import Derived.KernelRfl
namespace Go.Proofs.Ytebacmmfjadalaa
/- THE CELL 'sum', in the pinned program and in every row, IS THE sha256 OF THE DUMP (.gsa) THAT YtebacmmfjadalaaProg.lean LOADS. Nothing in Lean hashes anything: it is a label: what it is worth is what the hold of that sum in a sandbox is worth. -/
noncomputable def Try.pinned : Pinned := { name := "ytebacmmfjadalaa", sum := "6d7237badb15c1fe4febf8f3b0d54c635cd34e8efa048c110ee30bbc7f854ea7", checked := Try.checked }
namespace Rows
def none {H : Type} : Left H := { results := [], args := [] }

/-- 'binnaclelaw23.JoinOrders': WHATEVER THE INPUT: true; the input reads as it did. -/
def joinOrdersSpec : ChangeSpec := { name := "joinOrders", fn := fun _ => fun
  | [d] => { results := [.lit (.bool true)], args := [d] }
  | _ => none }
def joinOrdersRow : OpenClaim := { program := "ytebacmmfjadalaa", sum := "6d7237badb15c1fe4febf8f3b0d54c635cd34e8efa048c110ee30bbc7f854ea7", func := "binnacle/binnaclelaw23.JoinOrders", spec := "joinOrders", inPlace := ["math.Float64bits", "math.Float64frombits"], unfollowed := true, recurses := true, named := ["math/bits.divideError", "math/bits.overflowError"], apart := false }
def JoinOrdersSaid : Prop := joinOrdersRow.holds Try.pinned (OpenSpec.ofChange joinOrdersSpec)

/-- ITS FALSE NEIGHBOUR: 'it returns false'. Refute it at one input. -/
def joinOrdersWrong : ChangeSpec := { name := "joinOrders", fn := fun _ => fun
  | [d] => { results := [.lit (.bool false)], args := [d] }
  | _ => none }
def JoinOrdersWrongFalsely : Prop := joinOrdersRow.holds Try.pinned (OpenSpec.ofChange joinOrdersWrong)

/-- 'binnaclelaw23.JoinTells': WHATEVER THE INPUT: true; the input reads as it did. -/
def joinTellsSpec : ChangeSpec := { name := "joinTells", fn := fun _ => fun
  | [d1, d2, d3] => { results := [.lit (.bool true)], args := [d1, d2, d3] }
  | _ => none }
def joinTellsRow : OpenClaim := { program := "ytebacmmfjadalaa", sum := "6d7237badb15c1fe4febf8f3b0d54c635cd34e8efa048c110ee30bbc7f854ea7", func := "binnacle/binnaclelaw23.JoinTells", spec := "joinTells", inPlace := ["math.Float64bits", "math.Float64frombits"], unfollowed := true, recurses := true, named := ["math/bits.divideError", "math/bits.overflowError"], apart := false }
def JoinTellsSaid : Prop := joinTellsRow.holds Try.pinned (OpenSpec.ofChange joinTellsSpec)

/-- ITS FALSE NEIGHBOUR: 'it returns false'. Refute it at one input. -/
def joinTellsWrong : ChangeSpec := { name := "joinTells", fn := fun _ => fun
  | [d1, d2, d3] => { results := [.lit (.bool false)], args := [d1, d2, d3] }
  | _ => none }
def JoinTellsWrongFalsely : Prop := joinTellsRow.holds Try.pinned (OpenSpec.ofChange joinTellsWrong)

/-- 'binnaclelaw23.JoinDoubles': WHATEVER THE INPUT: true; the input reads as it did. -/
def joinDoublesSpec : ChangeSpec := { name := "joinDoubles", fn := fun _ => fun
  | [d1, d2, d3, d4] => { results := [.lit (.bool true)], args := [d1, d2, d3, d4] }
  | _ => none }
def joinDoublesRow : OpenClaim := { program := "ytebacmmfjadalaa", sum := "6d7237badb15c1fe4febf8f3b0d54c635cd34e8efa048c110ee30bbc7f854ea7", func := "binnacle/binnaclelaw23.JoinDoubles", spec := "joinDoubles", inPlace := ["math.Float64bits", "math.Float64frombits"], unfollowed := true, recurses := true, named := ["math/bits.divideError", "math/bits.overflowError"], apart := false }
def JoinDoublesSaid : Prop := joinDoublesRow.holds Try.pinned (OpenSpec.ofChange joinDoublesSpec)

/-- ITS FALSE NEIGHBOUR: 'it returns false'. Refute it at one input. -/
def joinDoublesWrong : ChangeSpec := { name := "joinDoubles", fn := fun _ => fun
  | [d1, d2, d3, d4] => { results := [.lit (.bool false)], args := [d1, d2, d3, d4] }
  | _ => none }
def JoinDoublesWrongFalsely : Prop := joinDoublesRow.holds Try.pinned (OpenSpec.ofChange joinDoublesWrong)

/-- 'binnaclelaw23.JoinNone': WHATEVER THE INPUT: true; the input reads as it did. -/
def joinNoneSpec : ChangeSpec := { name := "joinNone", fn := fun _ => fun
  | [d] => { results := [.lit (.bool true)], args := [d] }
  | _ => none }
def joinNoneRow : OpenClaim := { program := "ytebacmmfjadalaa", sum := "6d7237badb15c1fe4febf8f3b0d54c635cd34e8efa048c110ee30bbc7f854ea7", func := "binnacle/binnaclelaw23.JoinNone", spec := "joinNone", inPlace := ["math.Float64frombits", "math.Float64bits"], unfollowed := true, recurses := true, named := ["math/bits.divideError", "math/bits.overflowError"], apart := false }
def JoinNoneSaid : Prop := joinNoneRow.holds Try.pinned (OpenSpec.ofChange joinNoneSpec)

/-- ITS FALSE NEIGHBOUR: 'it returns false'. Refute it at one input. -/
def joinNoneWrong : ChangeSpec := { name := "joinNone", fn := fun _ => fun
  | [d] => { results := [.lit (.bool false)], args := [d] }
  | _ => none }
def JoinNoneWrongFalsely : Prop := joinNoneRow.holds Try.pinned (OpenSpec.ofChange joinNoneWrong)

/- THE SECOND FORM. 'bulk': how many values and letters a reading holds, each counted each time it is reached (what is shared counts as often as it is met; a slice's spare places count too). A statement '..UptoSaid' is the law's where the arguments, and the package variables that the reading takes, are together of bulk at most 1048576: NARROWER than '..Said'. Prove '..Said' where nothing that the law and all that it calls make is longer than what came in: it says more and counts as full. Else prove '..UptoSaid'. A law counts once. -/
mutual
def uptoBulk {H : Type} : DataW H → Nat
  | .lit (.string bytes) => bytes.length + 1
  | .lit _ => 1
  | .nil => 1
  | .ptr d => uptoBulk d + 1
  | .slice elems spare => uptoBulkAll elems + uptoBulkAll spare + 1
  | .agg parts => uptoBulkAll parts + 1
  | .iface _ d => uptoBulk d + 1
  | .map entries => uptoBulkEntries entries + 1
  | .held _ => 1
def uptoBulkAll {H : Type} : List (DataW H) → Nat
  | [] => 0
  | d :: r => uptoBulk d + uptoBulkAll r
def uptoBulkEntries {H : Type} : List (Lit × DataW H) → Nat
  | [] => 0
  | x :: r => uptoBulkEntry x + uptoBulkEntries r
def uptoBulkEntry {H : Type} : Lit × DataW H → Nat
  | (.string bytes, d) => bytes.length + uptoBulk d + 1
  | (_, d) => uptoBulk d + 1
 end
def uptoSmall : (H : Type) → List (DataW H) → Bool := fun _ ds => decide (uptoBulkAll ds ≤ 1048576)
def OpenSpec.upto (s : _root_.Go.ChangeSpec) : _root_.Go.OpenSpec := { _root_.Go.OpenSpec.ofChange s with cond := some uptoSmall }

/-- 'binnaclelaw23.JoinOrders', WHERE WHAT IT READS IS OF BULK AT MOST 1048576: true; the input reads as it did. -/
def joinOrdersUptoRow : OpenClaim := { program := "ytebacmmfjadalaa", sum := "6d7237badb15c1fe4febf8f3b0d54c635cd34e8efa048c110ee30bbc7f854ea7", func := "binnacle/binnaclelaw23.JoinOrders", spec := "joinOrders", inPlace := ["math.Float64bits", "math.Float64frombits"], unfollowed := true, recurses := true, named := ["math/bits.divideError", "math/bits.overflowError"], apart := false, narrowed := true }
def JoinOrdersUptoSaid : Prop := joinOrdersUptoRow.holds Try.pinned (OpenSpec.upto joinOrdersSpec)

/-- 'binnaclelaw23.JoinTells', WHERE WHAT IT READS IS OF BULK AT MOST 1048576: true; the input reads as it did. -/
def joinTellsUptoRow : OpenClaim := { program := "ytebacmmfjadalaa", sum := "6d7237badb15c1fe4febf8f3b0d54c635cd34e8efa048c110ee30bbc7f854ea7", func := "binnacle/binnaclelaw23.JoinTells", spec := "joinTells", inPlace := ["math.Float64bits", "math.Float64frombits"], unfollowed := true, recurses := true, named := ["math/bits.divideError", "math/bits.overflowError"], apart := false, narrowed := true }
def JoinTellsUptoSaid : Prop := joinTellsUptoRow.holds Try.pinned (OpenSpec.upto joinTellsSpec)

/-- 'binnaclelaw23.JoinDoubles', WHERE WHAT IT READS IS OF BULK AT MOST 1048576: true; the input reads as it did. -/
def joinDoublesUptoRow : OpenClaim := { program := "ytebacmmfjadalaa", sum := "6d7237badb15c1fe4febf8f3b0d54c635cd34e8efa048c110ee30bbc7f854ea7", func := "binnacle/binnaclelaw23.JoinDoubles", spec := "joinDoubles", inPlace := ["math.Float64bits", "math.Float64frombits"], unfollowed := true, recurses := true, named := ["math/bits.divideError", "math/bits.overflowError"], apart := false, narrowed := true }
def JoinDoublesUptoSaid : Prop := joinDoublesUptoRow.holds Try.pinned (OpenSpec.upto joinDoublesSpec)

/-- 'binnaclelaw23.JoinNone', WHERE WHAT IT READS IS OF BULK AT MOST 1048576: true; the input reads as it did. -/
def joinNoneUptoRow : OpenClaim := { program := "ytebacmmfjadalaa", sum := "6d7237badb15c1fe4febf8f3b0d54c635cd34e8efa048c110ee30bbc7f854ea7", func := "binnacle/binnaclelaw23.JoinNone", spec := "joinNone", inPlace := ["math.Float64frombits", "math.Float64bits"], unfollowed := true, recurses := true, named := ["math/bits.divideError", "math/bits.overflowError"], apart := false, narrowed := true }
def JoinNoneUptoSaid : Prop := joinNoneUptoRow.holds Try.pinned (OpenSpec.upto joinNoneSpec)

end Rows
end Go.Proofs.Ytebacmmfjadalaa
