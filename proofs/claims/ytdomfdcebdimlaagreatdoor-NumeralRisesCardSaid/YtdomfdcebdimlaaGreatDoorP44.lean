/- NRj in one text. -/
import Derived.Test.YtdomfdcebdimlaaGreatDoorRows
import Derived.Test.YtdomfdcebdimlaaGreatDoorProg
import Derived.JoinedOf

namespace Go.Proofs.YtdomfdcebdimlaaGreatDoor
open Go

theorem and_t {a b : Bool} (h : a = true) (k : b = true) : (a && b) = true := by rw [h, k]; rfl
set_option maxHeartbeats 4000000 in
theorem rises_joined : joinedFacts Tryz.prog 4 Tryz.f4 Rows.numeralRisesSpec Rows.numeralRisesRow = true := by
  unfold joinedFacts
  iterate 31 refine and_t ?_ ?_
  all_goals (as_aux_lemma => kernel_rfl)
end Go.Proofs.YtdomfdcebdimlaaGreatDoor
