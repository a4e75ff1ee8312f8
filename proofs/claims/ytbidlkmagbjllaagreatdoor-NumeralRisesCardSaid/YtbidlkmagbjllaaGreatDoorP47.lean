/- NumeralRises: for every two texts the law answers true. Condition: the listed tables of the library lie as their initialisers lay them (tied by the card). -/
import Derived.Test.YtbidlkmagbjllaaGreatDoorP46
import Derived.Test.YtbidlkmagbjllaaGreatDoorTie
import Derived.Test.YtbidlkmagbjllaaGreatDoorCards
import Derived.SevenTiedAt

namespace Go.Proofs.YtbidlkmagbjllaaGreatDoor
open Go

theorem rises_holds : Rows.NumeralRisesCardSaid :=
  Claim7.holds_tied_plain_at .later [] [.data, .data, .data, .data, .sentinel, .sentinel, .pinned] true (true, "9b50c7e51c0532a25bf9b5a5ae14bb9f0f6b1e16165ac07de27431b5d6e75a41") true
    rises_row_holds (fun _ h => by cases h) (by kernel_rfl) (fun _ h => by cases h) numeralRises_row_tie rfl ⟨rfl, rfl⟩ (by kernel_rfl) rfl
    (fun f fn hf hfn => by
      obtain rfl : f = 3 := Option.some.inj ((show Tryz.prog.funcNamed "binnacle/binnaclelaw07.NumeralRises" = some 3 by kernel_rfl).symm.trans hf) |>.symm
      obtain rfl : fn = Tryz.f3 := (Option.some.inj (Tryz.func3.symm.trans hfn)).symm
      exact ⟨by kernel_rfl, fun j t ht => by
        rw [Tryz.params3] at ht
        have hm : t ∈ [9, 9] := by simpa using Array.mem_of_getElem? ht
        have hall : ([9, 9].all fun u => !Tryz.prog.wantsStandIn u) = true := by kernel_rfl
        exact (show Tryz.prog.wantsStandIn t = false by simpa using List.all_eq_true.1 hall t hm)⟩)
    (by kernel_rfl)
#print axioms rises_holds
end Go.Proofs.YtbidlkmagbjllaaGreatDoor
