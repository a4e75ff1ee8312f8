/- NumeralRises: for every two texts the law answers true. Condition: the listed tables of the library lie as their initialisers lay them (tied by the card). -/
import Derived.Test.YtdomfdcebdimlaaGreatDoorP46
import Derived.Test.YtdomfdcebdimlaaGreatDoorTie
import Derived.Test.YtdomfdcebdimlaaGreatDoorCards
import Derived.SevenTiedAt

namespace Go.Proofs.YtdomfdcebdimlaaGreatDoor
open Go

theorem rises_holds : Rows.NumeralRisesCardSaid :=
  Claim7.holds_tied_plain_at .later [] [.data, .data, .data, .data, .sentinel, .sentinel, .pinned] true (true, "f9dfeaa1304dd56bfcdaacef26896f56eb178f0831dcdbe9f1f50020b3c64817") true
    rises_row_holds (fun _ h => by cases h) (by as_aux_lemma => kernel_rfl) (fun _ h => by cases h) numeralRises_row_tie rfl ⟨rfl, rfl⟩ (by as_aux_lemma => kernel_rfl) rfl
    (fun f fn hf hfn => by
      obtain rfl : f = 4 := Option.some.inj ((show Tryz.prog.funcNamed "binnacle/binnaclelaw07.NumeralRises" = some 4 by kernel_rfl).symm.trans hf) |>.symm
      obtain rfl : fn = Tryz.f4 := (Option.some.inj (Tryz.func4.symm.trans hfn)).symm
      exact ⟨by as_aux_lemma => kernel_rfl, fun j t ht => by
        rw [Tryz.params4] at ht
        have hm : t ∈ [9, 9] := by simpa using Array.mem_of_getElem? ht
        have hall : ([9, 9].all fun u => !Tryz.prog.wantsStandIn u) = true := by kernel_rfl
        exact (show Tryz.prog.wantsStandIn t = false by simpa using List.all_eq_true.1 hall t hm)⟩)
    (by as_aux_lemma => kernel_rfl)
#print axioms rises_holds
end Go.Proofs.YtdomfdcebdimlaaGreatDoor
