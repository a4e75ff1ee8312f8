/- NRj in one text. -/
import Derived.Test.YtbidlkmagbjllaaGreatDoorRows
import Derived.Test.YtbidlkmagbjllaaGreatDoorProg
import Derived.JoinedOf

namespace Go.Proofs.YtbidlkmagbjllaaGreatDoor
open Go

theorem and_t {a b : Bool} (h : a = true) (k : b = true) : (a && b) = true := by rw [h, k]; rfl
set_option maxHeartbeats 4000000 in
theorem rises_joined : joinedFacts Tryz.prog 3 Tryz.f3 Rows.numeralRisesSpec Rows.numeralRisesRow = true := by
  unfold joinedFacts
  iterate 31 refine and_t ?_ ?_
  all_goals (as_aux_lemma => kernel_rfl)
end Go.Proofs.YtbidlkmagbjllaaGreatDoor
