/- ClockWraps: for every first count and every list of steps the law answers true. No condition. -/
import Derived.Test.YtiohemofidphjaaClk
import Derived.Test.YtiohemofidphjaaA9
namespace Go.Proofs.Ytiohemofidphjaa
open Go.ChangeShapes Go.WideShapes Go.ChangeAt Go.RowKit

theorem cells21 : Try.prog.cellsOf 21 = 1 := by kernel_rfl

theorem wraps_all {W : World} {H : Type} {enc : TypeId × Value → H} {first : Int} {v : Value} {d : DataW H} {p : List MemPlace} {r : Reach} {b0 : Nat}
    (hv : Value.okWide Try.prog W r b0 34 v) (h : DataW.Trod enc Try.prog W 0 (fun _ => true) true 34 v d p) :
    Calls Try.prog 6 #[.int .i64 first, v] W fun e w' => e = .returned (.bool true) ∧ Below W.heap.size W w' := by
  obtain ⟨a0, len, cap, rfl⟩ := okWide_slice Try.underlying34 hv
  obtain ⟨fuel, hf⟩ := h
  rcases open_ints Try.underlying34 Try.underlying21 cells21 hf with ⟨hcs, -⟩ | ⟨a, len', cap', zs, hcs, -, hl, hm, hz, -, hcell, hwf⟩
  · simp only [Value.cells, List.cons.injEq, Value.slice.injEq, and_true] at hcs
    obtain ⟨rfl, rfl, rfl⟩ := hcs
    by_cases hc : -562949953421312 ≤ first ∧ first ≤ 562949953421312
    · exact wraps_empty first _ _ W hc.1 hc.2
    · exact wraps_out first _ _ _ W (by omega) (by omega)
  · simp only [Value.cells, List.cons.injEq, Value.slice.injEq, and_true] at hcs
    obtain ⟨rfl, rfl, rfl⟩ := hcs
    unfold maxLen at hm
    by_cases hc : -562949953421312 ≤ first ∧ first ≤ 562949953421312 ∧ len ≤ 10000
    · by_cases h0 : len = 0
      · subst h0
        exact wraps_empty first _ _ W hc.1 hc.2.1
      · have hz' : zs.length = cap := by simpa using hz
        obtain ⟨b, off, rfl, hcl⟩ := ints_at hcell (by omega)
        refine wraps_loop first b off len cap (fun j => zs.getD j 0) W hc.1 hc.2.1 hc.2.2 (fun j hj => ?_) (fun j hj => hcl j (by omega))
        have hj' : j < zs.length := by omega
        have := bounds_i32 (hwf (zs.getD j 0) (by rw [List.getD_eq_getElem?_getD, List.getElem?_eq_getElem hj']; exact List.getElem_mem hj'))
        exact this
    · exact wraps_out first _ _ _ W (by omega) hc

set_option linter.unusedVariables false
set_option maxRecDepth 100000 in
theorem wraps_lifted (os : Os) (started : os.Started) (H : Type) (enc : TypeId × Value → H) :
    ReturnsInHanded {} Try.checked os 6 .any (Rows.clockWrapsSpec.pre6 enc Try.prog Try.f6 Rows.clockWrapsRow.domain false) (Rows.clockWrapsSpec.post enc Try.prog Try.f6 false true false false) := by
  refine returnsInHanded_of_change_sized (C := Try.checked) own started (by kernel_rfl) Try.func6
    (ChangeSpec.witness6 (enc := enc) (C := Try.checked) false ⟨#[], #[.int .i64 0, .slice none 0 0], []⟩ 8 (by kernel_rfl) (by kernel_rfl) (by kernel_rfl) (by kernel_rfl)) ?_
  intro W base args ds gs before hval0 hW _ _ _
  have hval : ∀ (j : Nat) t v, Try.f6.params[j]? = some t → args[j]? = some v → Value.okWide Try.prog W .any base t v := hval0
  have hW' := hW
  obtain ⟨p, q, hA0, hV, rfl, hfz, hnd⟩ := hW
  have hA : DataW.TrodAll enc Try.prog W 0 (fun _ => true) true Try.f6.params.toList args.toList ds p := hA0
  rw [Try.params6] at hA hval
  obtain ⟨v0, v1, d0, d1, p0, p1, rfl, rfl, rfl, h0, h1⟩ := trodAll_two hA
  obtain ⟨rfl, rfl⟩ := trodVars_none hV
  obtain ⟨x0, rfl, rfl, rfl, wx0⟩ := open_int Try.underlying2 (hval 0 2 v0 rfl rfl) h0
  refine (wraps_all (hval 1 34 v1 rfl rfl) h1).mono fun e W' ⟨he, hb⟩ => ⟨_, he, ?_⟩
  exact Ck.law_post laid (readable_of (by kernel_rfl)) rfl Try.underlying4 rfl rfl hW' hb

theorem wraps_holds : Rows.ClockWrapsSaid :=
  OpenClaim.holds_of_wide 6 Try.f6 rfl rfl rfl rfl rfl rfl rfl ⟨rfl, rfl, rfl, rfl, rfl⟩ rfl rfl rfl rfl rfl (by kernel_rfl) Try.func6 (by kernel_rfl)
    (of_decide_eq_true (by kernel_rfl)) (by unfold Func.isWrapper; first | (rw [if_pos (by decide +kernel)]; kernel_rfl) | (rw [if_neg (by decide +kernel)]; exact ⟨rfl, rfl⟩))
    (fun os started H enc _ => wraps_lifted os started H enc)
#print axioms wraps_holds
end Go.Proofs.Ytiohemofidphjaa
