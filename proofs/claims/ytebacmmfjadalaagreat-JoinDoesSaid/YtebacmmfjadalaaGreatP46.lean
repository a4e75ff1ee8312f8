/- Clk in one text. -/
import Derived.Test.YtebacmmfjadalaaGreatRows
import Derived.Test.YtebacmmfjadalaaGreatP45
import Derived.OpenShut

namespace Go.Proofs.YtebacmmfjadalaaGreat
open Go.ChangeShapes Go.WideShapes Go.ChangeAt Go.RowKit Go.Joins

theorem own : ownKnob Tryz.prog.godebug = none := by kernel_rfl
theorem cells_clock : Tryz.prog.cellsOf 53 = 3 := by kernel_rfl
theorem laid : laidOutB Tryz.prog = true := by kernel_rfl
def readableAll (P : Program) (ts : List TypeId) : Bool := ts.all fun t => P.readableRec t && decide (t < P.types.size)
theorem readable_of {P : Program} {ts : List TypeId} (h : readableAll P ts = true) : ∀ t ∈ ts, P.readableRec t = true ∧ t < P.types.size := by
  simpa [readableAll] using h

section
variable {H : Type} {enc : TypeId × Value → H}
set_option maxRecDepth 100000 in
theorem open_clock {W : World} {r : Reach} {b0 base : Nat} {sp : Nat → Bool} {held : Bool} {v : Value} {d : DataW H} {p : List MemPlace}
    (hv : Value.okWide Tryz.prog W r b0 53 v) (h : DataW.Trod enc Tryz.prog W base sp held 53 v d p) :
    ∃ o n k : Int, v = .agg #[.int .i64 o, .int .i64 n, .int .i64 k] ∧ (Lit.int .i64 o).wf = true ∧ (Lit.int .i64 n).wf = true ∧ (Lit.int .i64 k).wf = true := by
  obtain ⟨c0, c1, c2, y0, y1, y2, m, rfl, -, -, h0, h1, h2⟩ := open_agg3 Tryz.underlying53 (by kernel_rfl) cells_clock hv h
  obtain ⟨o, e0, -, w0⟩ := DataW.trod_int Tryz.underlying2 h0
  obtain ⟨n, e1, -, w1⟩ := DataW.trod_int Tryz.underlying2 h1
  obtain ⟨k, e2, -, w2⟩ := DataW.trod_int Tryz.underlying2 h2
  simp at e0 e1 e2
  subst e0 e1 e2
  exact ⟨o, n, k, rfl, w0, w1, w2⟩
end
end Go.Proofs.YtebacmmfjadalaaGreat
