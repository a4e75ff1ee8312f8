/- ClockThrough: for every list of pairs, every clock and every list of steps the law answers true. No condition. -/
import Derived.Test.YtiohemofidphjaaClk
import Derived.Test.YtiohemofidphjaaF6
namespace Go.Proofs.Ytiohemofidphjaa
open Go.ChangeShapes Go.WideShapes Go.ChangeAt Go.RowKit

theorem through_all {W : World} {H : Type} {enc : TypeId × Value → H} {o n k : Int} {v v2 : Value} {d d1 d2 : DataW H} {p p2 : List MemPlace} {r : Reach} {b0 : Nat}
    (hsz : (DataW.weightsEach Try.prog [42, 31, 43] [d, d1, d2]).all (· ≤ reachBytes) = true)
    (hv : Value.okWide Try.prog W r b0 42 v) (h : DataW.Trod enc Try.prog W 0 (fun _ => true) true 42 v d p)
    (hv2 : Value.okWide Try.prog W r b0 43 v2) (h2 : DataW.Trod enc Try.prog W 0 (fun _ => true) true 43 v2 d2 p2) :
    Calls Try.prog 9 #[v, .agg #[.int .i64 o, .int .i64 n, .int .i64 k], v2] W fun e w' => e = .returned (.bool true) ∧ Below W.heap.size W w' := by
  obtain ⟨ps, hP, hd, hcap⟩ := open_pairs hv h
  have hl : ps.length * 16 ≤ 140737488355328 := by
    rcases hd with h0 | ⟨es, sps, rfl, he⟩
    · omega
    · have := sized_slice hsz (j := 0) rfl rfl Try.underlying42
      rw [bytesP, he] at this
      have := reachBytes_lt
      omega
  obtain ⟨A, c, rfl, hc, hcell⟩ := hP
  have hcm := hcap _ _ _ rfl
  obtain ⟨a0, len, cap, rfl⟩ := okWide_slice Try.underlying43 hv2
  obtain ⟨fuel, hf⟩ := h2
  rcases open_ints Try.underlying43 Try.underlying2 (by kernel_rfl) hf with ⟨hcs, -⟩ | ⟨a, len', cap', zs, hcs, -, hl', hm, hz, -, hcell', hwf⟩
  · simp only [Value.cells, List.cons.injEq, Value.slice.injEq, and_true] at hcs
    obtain ⟨rfl, rfl, rfl⟩ := hcs
    exact through_walk A ps.length c ps o n k none 0 0 (fun _ => 0) W rfl ⟨A, c, rfl, hc, hcell⟩ hcm hl (by omega) (fun h => by omega)
  · simp only [Value.cells, List.cons.injEq, Value.slice.injEq, and_true] at hcs
    obtain ⟨rfl, rfl, rfl⟩ := hcs
    unfold maxLen at hm
    refine through_walk A ps.length c ps o n k (some a) len cap (fun j => zs.getD j 0) W rfl ⟨A, c, rfl, hc, hcell⟩ hcm hl (by omega) (fun h => ?_)
    have hz' : zs.length = cap := by simpa using hz
    obtain ⟨b, off, rfl, hcl⟩ := ints_at hcell' (by omega)
    refine ⟨b, off, rfl, cell_lt (a := ⟨b, off + 0, none⟩) (hcl 0 (by omega)), fun j hj => ⟨hcl j (by omega), ?_⟩⟩
    have hj' : j < zs.length := by omega
    have := bounds_i64 (hwf (zs.getD j 0) (by rw [List.getD_eq_getElem?_getD, List.getElem?_eq_getElem hj']; exact List.getElem_mem hj'))
    exact this

set_option linter.unusedVariables false
set_option maxRecDepth 100000 in
theorem through_lifted (os : Os) (started : os.Started) (H : Type) (enc : TypeId × Value → H) :
    ReturnsInHanded {} Try.checked os 9 .any (Rows.clockThroughSpec.pre6 enc Try.prog Try.f9 Rows.clockThroughRow.domain false) (Rows.clockThroughSpec.post enc Try.prog Try.f9 false true false false) := by
  refine returnsInHanded_of_change_sized (C := Try.checked) own started (by kernel_rfl) Try.func9
    (ChangeSpec.witness6 (enc := enc) (C := Try.checked) false ⟨#[], #[.slice none 0 0, .agg #[.int .i64 0, .int .i64 0, .int .i64 0], .slice none 0 0], []⟩ 8 (by kernel_rfl) (by kernel_rfl) (by kernel_rfl) (by kernel_rfl)) ?_
  intro W base args ds gs before hval0 hW _ hsz0 _
  have hval : ∀ (j : Nat) t v, Try.f9.params[j]? = some t → args[j]? = some v → Value.okWide Try.prog W .any base t v := hval0
  have hW' := hW
  obtain ⟨p, q, hA0, hV, rfl, hfz, hnd⟩ := hW
  have hA : DataW.TrodAll enc Try.prog W 0 (fun _ => true) true Try.f9.params.toList args.toList ds p := hA0
  rw [Try.params9] at hA hval hsz0
  obtain ⟨v0, v1, v2, d0, d1, d2, p0, p1, p2, rfl, rfl, rfl, h0, h1, h2⟩ := trodAll_three hA
  obtain ⟨rfl, rfl⟩ := trodVars_none hV
  obtain ⟨o1, n1, k1, rfl, -, -, -⟩ := open_clock (hval 1 31 v1 rfl rfl) h1
  refine (through_all (d1 := d1) hsz0 (hval 0 42 v0 rfl rfl) h0 (hval 2 43 v2 rfl rfl) h2).mono fun e W' ⟨he, hb⟩ => ⟨_, he, ?_⟩
  exact Ck.law_post laid (readable_of (by kernel_rfl)) rfl Try.underlying4 rfl rfl hW' hb

theorem through_holds : Rows.ClockThroughSaid :=
  OpenClaim.holds_of_wide 9 Try.f9 rfl rfl rfl rfl rfl rfl rfl ⟨rfl, rfl, rfl, rfl, rfl⟩ rfl rfl rfl rfl rfl (by kernel_rfl) Try.func9 (by kernel_rfl)
    (of_decide_eq_true (by kernel_rfl)) (by unfold Func.isWrapper; first | (rw [if_pos (by decide +kernel)]; kernel_rfl) | (rw [if_neg (by decide +kernel)]; exact ⟨rfl, rfl⟩))
    (fun os started H enc _ => through_lifted os started H enc)
#print axioms through_holds
end Go.Proofs.Ytiohemofidphjaa
