/- JoinAnyOrder: for every list of clocks, every window, every list of readings and every list of picks the law answers true. No condition. -/
import Derived.Test.YtebacmmfjadalaaGreatP51

namespace Go.Proofs.YtebacmmfjadalaaGreat
open Go.ChangeShapes Go.WideShapes Go.ChangeAt Go.RowKit Go.Joins

theorem rd_some {W : World} {A : Option Addr} {xs : List In} (h : RdAt W A xs) : xs.length = 0 ∨ A ≠ none := by
  rcases h with h | ⟨b, off, h, -⟩
  · exact .inl (by rw [h]; rfl)
  · exact .inr (by rw [h]; simp)
theorem sized_each {H : Type} {P : Program} {ts : List TypeId} {ds : List (DataW H)} (h : (DataW.weightsEach P ts ds).all (· ≤ reachBytes) = true) {j : Nat} {t : TypeId} {d : DataW H} (ht : ts[j]? = some t) (hd : ds[j]? = some d) : ∀ k ∈ d.weights P t, k ≤ reachBytes := fun k hk => by
  simpa using List.all_eq_true.1 h k (DataW.weights_mem_each ht hd k hk)
section
variable {H : Type} {enc : TypeId × Value → H}
set_option maxRecDepth 100000 in
/-- a list of ints -/
theorem open_picks {W : World} {r : Reach} {b0 : Nat} {v : Value} {d : DataW H} {p : List MemPlace} (hv : Value.okWide Tryz.prog W r b0 60 v) (h : DataW.Trod enc Tryz.prog W 0 (fun _ => true) true 60 v d p) :
    ∃ (A : Option Addr) (n c : Nat) (ps : Nat → Int), v = .slice A n c ∧ (0 < n → ∃ b off, A = some ⟨b, off, none⟩ ∧ b < W.heap.size ∧ ∀ i, i < n → W.cell? ⟨b, off + i, none⟩ = some (.int .i64 (ps i)) ∧ -9223372036854775808 ≤ ps i ∧ ps i ≤ 9223372036854775807) := by
  obtain ⟨a0, len, cap, rfl⟩ := okWide_slice Tryz.underlying60 hv
  obtain ⟨fuel, hf⟩ := h
  rcases open_ints Tryz.underlying60 Tryz.underlying3 (by kernel_rfl) hf with ⟨hcs, -⟩ | ⟨a, len', cap', zs, hcs, -, hl', hm, hz, hd, hcell', hwf⟩
  · simp only [Value.cells, List.cons.injEq, Value.slice.injEq, and_true] at hcs
    obtain ⟨rfl, rfl, rfl⟩ := hcs
    exact ⟨none, 0, 0, fun _ => 0, rfl, fun h => by omega⟩
  · simp only [Value.cells, List.cons.injEq, Value.slice.injEq, and_true] at hcs
    obtain ⟨rfl, rfl, rfl⟩ := hcs
    have hz' : zs.length = cap := by simpa using hz
    refine ⟨some a, len, cap, fun i => zs.getD i 0, rfl, fun h0 => ?_⟩
    obtain ⟨b, off, rfl, hcl⟩ := ints_at hcell' (by omega)
    refine ⟨b, off, rfl, cell_lt (a := ⟨b, off + 0, none⟩) (hcl 0 (by omega)), fun i hi => ⟨hcl i (by omega), ?_⟩⟩
    have hmem : zs.getD i 0 ∈ zs := by
      rw [List.getD_eq_getElem?_getD, List.getElem?_eq_getElem (show i < zs.length by omega)]
      exact List.getElem_mem _
    exact bounds_i64 (hwf _ hmem)
end
set_option linter.unusedVariables false
set_option maxRecDepth 100000 in
theorem any_lifted (os : Os) (started : os.Started) (H : Type) (enc : TypeId × Value → H) :
    ReturnsInHanded {} Tryz.checked os 4 .any (Rows.joinAnyOrderSpec.pre6 enc Tryz.prog Tryz.f4 Rows.joinAnyOrderRow.domain false) (Rows.joinAnyOrderSpec.post enc Tryz.prog Tryz.f4 false true false false) := by
  refine returnsInHanded_of_change_sized (C := Tryz.checked) own started (by kernel_rfl) Tryz.func4
    (ChangeSpec.witness6 (enc := enc) (C := Tryz.checked) false ⟨#[], #[.slice none 0 0, .int .i64 0, .slice none 0 0, .slice none 0 0], []⟩ 8 (by kernel_rfl) (by kernel_rfl) (by kernel_rfl) (by kernel_rfl)) ?_
  intro W base args ds gs before hval0 hW _ hsz0 _
  have hval : ∀ (j : Nat) t v, Tryz.f4.params[j]? = some t → args[j]? = some v → Value.okWide Tryz.prog W .any base t v := hval0
  have hW' := hW
  obtain ⟨p, q, hA0, hV, rfl, hfz, hnd⟩ := hW
  have hA : DataW.TrodAll enc Tryz.prog W 0 (fun _ => true) true Tryz.f4.params.toList args.toList ds p := hA0
  rw [Tryz.params4] at hA hval hsz0
  obtain ⟨v0, v1, v2, v3, d0, d1, d2, d3, p0, p1, p2, p3, rfl, rfl, rfl, h0, h1, h2, h3⟩ := trodAll_four hA
  obtain ⟨rfl, rfl⟩ := trodVars_none hV
  obtain ⟨win, rfl, -, -, -⟩ := open_int Tryz.underlying2 (hval 1 2 v1 rfl rfl) h1
  obtain ⟨A0, c0, cs, rfl, hc, hn, hl⟩ := open_clocks (sized_each hsz0 (j := 0) rfl rfl) (hval 0 22 v0 rfl rfl) h0
  obtain ⟨A1, c1, ls, rfl, hr, hok⟩ := open_readings (sized_each hsz0 (j := 2) rfl rfl) (hval 2 23 v2 rfl rfl) h2
  obtain ⟨A3, np, c3, ps, rfl, hp⟩ := open_picks (hval 3 60 v3 rfl rfl) h3
  refine (any_walk A0 c0 cs win A1 c1 ls A3 np c3 ps W hc hn hl hr hok (rd_some hr) hp).mono fun e W' ⟨he, hb⟩ => ⟨_, he, ?_⟩
  exact Ck.law_post laid (readable_of (by kernel_rfl)) rfl Tryz.underlying4 rfl rfl hW' hb

theorem any_holds : Rows.JoinAnyOrderSaid :=
  OpenClaim.holds_of_wide 4 Tryz.f4 rfl rfl rfl rfl rfl rfl rfl ⟨rfl, rfl, rfl, rfl, rfl⟩ rfl rfl rfl rfl rfl (by kernel_rfl) Tryz.func4 (by kernel_rfl)
    (of_decide_eq_true (by kernel_rfl)) (by unfold Func.isWrapper; first | (rw [if_pos (by decide +kernel)]; kernel_rfl) | (rw [if_neg (by decide +kernel)]; exact ⟨rfl, rfl⟩))
    (fun os started H enc _ => any_lifted os started H enc)
#print axioms any_holds
end Go.Proofs.YtebacmmfjadalaaGreat
