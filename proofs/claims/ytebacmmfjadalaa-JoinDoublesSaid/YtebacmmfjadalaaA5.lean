/- Contract of clock Count: every clock, every time. No condition. -/
import Derived.Test.YtebacmmfjadalaaA4
namespace Go.Proofs.Ytebacmmfjadalaa
open Go.RowKit

theorem keep_three {a b c : Addr} {x y z : Value} {B : Nat} {W0 w1 w2 : World} (h : w1.cell? a = some x ∧ w1.cell? b = some y ∧ w1.cell? c = some z ∧ Below B W0 w1) (hb : Below w1.heap.size w1 w2) (hB : B ≤ W0.heap.size) (ha : a.block < B) (hb' : b.block < B) (hc : c.block < B) :
    w2.cell? a = some x ∧ w2.cell? b = some y ∧ w2.cell? c = some z ∧ Below B W0 w2 := by
  have hs := h.2.2.2.size
  exact ⟨(hb.cell (by omega)).trans h.1, (hb.cell (by omega)).trans h.2.1, (hb.cell (by omega)).trans h.2.2.1, h.2.2.2.trans (hb.mono (by omega))⟩

end Go.Proofs.Ytebacmmfjadalaa
