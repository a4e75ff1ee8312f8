/- The walk of ClockRises: it answers true for every clock and every two counts. No condition. -/
import Derived.Test.YtiohemofidphjaaDoorA6
namespace Go.Proofs.YtiohemofidphjaaDoor
open Go.RowKit

theorem keep_in {P : Program} {f : FuncId} {args : Array Value} {W0 x : World} {v : Ending} (h : Calls P f args x fun e w' => e = v ∧ Below x.heap.size x w') (hx : Below W0.heap.size W0 x) :
    Calls P f args x fun e w' => e = v ∧ Below W0.heap.size W0 w' := h.mono fun _ _ ⟨a, b⟩ => ⟨a, hx.trans (b.mono hx.size)⟩

/-- the time of a count, where there is one -/
theorem time_ok (o n d c t : Int) (w : World) (h : Ck.timeOk o n d c = true ∧ o + c * n / d = t) :
    Calls Tryd.prog 31 #[.agg #[.int .i64 o, .int .i64 n, .int .i64 d], .int .i64 c] w fun e w' => e = .returned (.tuple #[.int .i64 t, .int .i64 0]) ∧ Below w.heap.size w w' := by
  have hh := time_any o n d c w
  rw [show Ck.timeV o n d c = t by simp [Ck.timeV, h.1, h.2], show Ck.timeE o n d c = 0 by simp [Ck.timeE, h.1, (Ck.timeOk_iff.1 h.1).1]] at hh
  exact hh
/-- .. where there is none -/
theorem time_no (o n d c : Int) (w : World) (h : Ck.timeOk o n d c = false) :
    Calls Tryd.prog 31 #[.agg #[.int .i64 o, .int .i64 n, .int .i64 d], .int .i64 c] w fun e w' => e = .returned (.tuple #[.int .i64 0, .int .i64 (if Ck.okc o n d then 1 else 130)]) ∧ Below w.heap.size w w' := by
  have hh := time_any o n d c w
  rw [show Ck.timeV o n d c = 0 by simp [Ck.timeV, h], show Ck.timeE o n d c = if Ck.okc o n d then 1 else 130 by simp [Ck.timeE, h]] at hh
  exact hh

end Go.Proofs.YtiohemofidphjaaDoor
