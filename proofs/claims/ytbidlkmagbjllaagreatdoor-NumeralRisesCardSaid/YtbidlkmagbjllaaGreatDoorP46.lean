/- NRr in one text. -/
import Derived.Test.YtbidlkmagbjllaaGreatDoorP18
import Derived.Test.YtbidlkmagbjllaaGreatDoorP43
import Derived.Test.YtbidlkmagbjllaaGreatDoorP44
import Derived.Test.YtbidlkmagbjllaaGreatDoorP45
import Derived.Test.YtbidlkmagbjllaaGreatDoorTie
import Derived.Test.YtbidlkmagbjllaaGreatDoorCards
import Derived.SevenTiedAt
import Derived.OpenShut
import Derived.ChangeMaps5

namespace Go.Proofs.YtbidlkmagbjllaaGreatDoor
open Go Go.ChangeShapes Go.WideShapes Go.ChangeAt Go.RowKit Go.Joins Nb
open Go.ChangeMaps (open_string shut_string)

theorem own : ownKnob Tryz.prog.godebug = none := by kernel_rfl
theorem laid : laidOutB Tryz.prog = true := by kernel_rfl
def readableAll (P : Program) (ts : List TypeId) : Bool := ts.all fun t => P.readableRec t && decide (t < P.types.size)
theorem readable_of {P : Program} {ts : List TypeId} (h : readableAll P ts = true) : ∀ t ∈ ts, P.readableRec t = true ∧ t < P.types.size := by
  simpa [readableAll] using h
theorem laid_rises : Rows.numeralRisesRow.laid = laidD := rfl

theorem rises_all (s u : ByteArray) (w : World) (hT : Tab64 w) (hP : TabP w) (hs : s.size ≤ 9223372036854775807) (hu : u.size ≤ 9223372036854775807) :
    Calls Tryz.prog 3 #[.string s, .string u] w (Rs.Yes w) := by
  by_cases h : 2000 < s.size ∨ 2000 < u.size
  · exact Rs.rises_far s u w hT hP h hs hu
  · exact Rs.rises_walk s u w hT hP (by omega) (by omega)

set_option linter.unusedVariables false
set_option maxRecDepth 100000 in
theorem rises_lifted (os : Os) (started : os.Started) (H : Type) (enc : TypeId × Value → H) :
    ReturnsInHanded {} Tryz.checked os 3 .any (fun w args => (Rows.numeralRisesSpec.pre enc Tryz.prog Tryz.f3 [] false w args ∧ laidMetH Tryz.prog laidD w) ∧ sizedMet enc Tryz.prog Tryz.f3 (OpenSpec.ofChange Rows.numeralRisesSpec) false w args)
      (Rows.numeralRisesSpec.post enc Tryz.prog Tryz.f3 false true false false) := by
  refine returnsInHanded_of_change_and (C := Tryz.checked) (X := fun w _ => laidMetH Tryz.prog laidD w) (fun _ _ _ hh h => h.of_heap hh) own started (by kernel_rfl) Tryz.func3
    (ChangeSpec.witness_shaped (enc := enc) (C := Tryz.checked) (os := os) (X := fun w _ => laidMetH Tryz.prog laidD w) false (World.laidAll Tryz.prog os laidD) #[.string ⟨#[]⟩, .string ⟨#[]⟩] 8 rfl (World.shaped_of_ZipB (by kernel_rfl) (by kernel_rfl)) (by kernel_rfl) (by kernel_rfl) (by kernel_rfl) (door_met os _)) ?_
  intro W base args ds gs before hval0 hW _ hsz0 hL _
  have hval : ∀ (j : Nat) t v, Tryz.f3.params[j]? = some t → args[j]? = some v → Value.okWide Tryz.prog W .any base t v := hval0
  have hW' := hW
  obtain ⟨p, q, hA0, hV, rfl, hfz, hnd⟩ := hW
  have hA : DataW.TrodAll enc Tryz.prog W 0 (fun _ => true) true Tryz.f3.params.toList args.toList ds p := hA0
  rw [Tryz.params3] at hA hval
  obtain ⟨v0, v1, d0, d1, p0, p1, rfl, rfl, rfl, h0, h1⟩ := trodAll_two hA
  obtain ⟨rfl, rfl⟩ := trodVars_none hV
  obtain ⟨x1, rfl, rfl, rfl, wx1⟩ := open_string Tryz.underlying9 (hval 0 9 v0 rfl rfl) h0
  obtain ⟨x2, rfl, rfl, rfl, wx2⟩ := open_string Tryz.underlying9 (hval 1 9 v1 rfl rfl) h1
  refine (rises_all x1 x2 W (tabs_of_laid hL).1 (tabs_of_laid hL).2 (by simpa [maxLen] using wx1) (by simpa [maxLen] using wx2)).mono fun e W' ⟨he, hb⟩ => ⟨_, he, ?_⟩
  exact Ck.law_post laid (readable_of (by kernel_rfl)) rfl Tryz.underlying4 rfl rfl hW' hb

theorem rises_row_holds : Rows.NumeralRisesSaid :=
  OpenClaim.holds_of_wide 3 Tryz.f3 rfl rfl rfl rfl rfl rfl rfl ⟨rfl, rfl, rfl, rfl, rfl⟩ rfl rfl rfl rfl rfl (by kernel_rfl) Tryz.func3 rises_joined
    (of_decide_eq_true (by kernel_rfl)) (by unfold Func.isWrapper; first | (rw [if_pos (by decide +kernel)]; kernel_rfl) | (rw [if_neg (by decide +kernel)]; exact ⟨rfl, rfl⟩))
    (fun os started H enc _ => rises_lifted os started H enc)

end Go.Proofs.YtbidlkmagbjllaaGreatDoor
