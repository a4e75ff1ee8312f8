/- Lists of pairs in memory: an append of a list to the nil slice; an append of one pair to a list of the call's own; an argument that is a list of pairs. -/
import Derived.Test.YtiohemofidphjaaF3
import Derived.Test.YtiohemofidphjaaF4
import Derived.Test.YtiohemofidphjaaClk
import Derived.Maps.AppendAt
import Derived.OwnWalk
import Derived.SizedLaws
import Derived.Deep.Slices
import Derived.Deep.Fields
import Derived.ChangeSame
namespace Go.Proofs.Ytiohemofidphjaa
open Go Go.RowKit Go.ChangeShapes Go.WideShapes Go.Deep

theorem cell_lt {w : World} {a : Addr} {v : Value} (h : w.cell? a = some v) : a.block < w.heap.size := by
  rcases Nat.lt_or_ge a.block w.heap.size with h' | h'
  · exact h'
  · rw [World.cell?, Array.getElem?_eq_none h'] at h
    simp at h

theorem infoP : (Try.prog.info? 47).map (fun i => (i.zero, i.size, i.bytes)) = some (some (.agg #[.int .i64 0, .int .i64 0]), 2, 16) := by kernel_rfl

/-- pairs as cells -/
def flat : List (Int × Int) → List Value
  | [] => []
  | p :: l => .int .i64 p.1 :: .int .i64 p.2 :: flat l
theorem flat_length : ∀ ps : List (Int × Int), (flat ps).length = ps.length * 2
  | [] => rfl
  | p :: l => by simp [flat, flat_length l]; omega
theorem flat_get : ∀ (ps : List (Int × Int)) (j : Nat), j < ps.length → (flat ps)[j * 2]? = some (.int .i64 (ps.getD j (0, 0)).1) ∧ (flat ps)[j * 2 + 1]? = some (.int .i64 (ps.getD j (0, 0)).2)
  | [], _, h => by simp at h
  | p :: l, 0, _ => by simp [flat]
  | p :: l, j + 1, h => by
    have := flat_get l j (by simpa using h)
    rw [show (j + 1) * 2 = j * 2 + 1 + 1 by omega]
    simpa [flat] using this
theorem flat_one : ∀ ps : List (Int × Int), ∀ u ∈ flat ps, u.oneCell' = true
  | [], u, h => by simp [flat] at h
  | p :: l, u, h => by
    simp only [flat, List.mem_cons] at h
    rcases h with rfl | rfl | h
    · rfl
    · rfl
    · exact flat_one l u h
theorem flat_append : ∀ a b : List (Int × Int), flat (a ++ b) = flat a ++ flat b
  | [], b => rfl
  | p :: l, b => by simp [flat, flat_append l b]

/-- an owned row of pairs is a list of pairs -/
theorem Prs.of_own {w : World} {base : Nat} {v : Value} {ps : List (Int × Int)} (h : w.ownsRow base 47 2 v ps.length (flat ps)) : Prs w v ps ∧ ∀ A n c, v = .slice A n c → c ≤ 9223372036854775807 := by
  rcases h.2 with ⟨rfl, hl⟩ | ⟨g, cap, cur, rfl, hb, hh, hc, hm, hs, ht⟩
  · refine ⟨⟨none, 0, by rw [hl], by omega, fun h0 => by omega⟩, fun A n c e => ?_⟩
    injection e with _ _ e
    omega
  · refine ⟨⟨_, cap, rfl, hc, fun h0 => ⟨g, 0, rfl, (h.lt g rfl).2, fun j hj => ?_⟩⟩, fun A n c e => ?_⟩
    · have hf := flat_get ps j hj
      have hl := flat_length ps
      have hcl := h.cells (g := g) rfl
      have e1 := hcl (j * 2) _ hf.1
      have e2 := hcl (j * 2 + 1) _ hf.2
      rw [add_plain] at e1 e2
      exact ⟨e1, e2⟩
    · injection e with _ _ e
      simp only [maxLen] at hm
      omega

theorem run_append_pairs (w : World) (v : Value) (ps : List (Int × Int)) (h : Prs w v ps) (hl : ps.length * 16 ≤ 140737488355328) (ty : TypeId) :
    ∃ v' w', (Builtin.append_ #[42, 42] ty #[.slice none 0 0, v]).run Try.prog w = .ok v' w' ∧ (Prs w' v' ps ∧ ∀ A n c, v' = .slice A n c → c ≤ 9223372036854775807) ∧ Below w.heap.size w w' := by
  obtain ⟨i0, hi0, hz0, hz1, hz2⟩ := info_parts infoP
  obtain ⟨A, c, rfl, hc0, hcell⟩ := h
  rcases A with _ | ad
  · have h0 : ps.length = 0 := by
      rcases Nat.eq_zero_or_pos ps.length with h0 | h0
      · exact h0
      · obtain ⟨b, off, e, -⟩ := hcell h0
        cases e
    have hn : ps = [] := List.eq_nil_of_length_eq_zero h0
    subst hn
    refine ⟨.slice none 0 0, w, ?_, Prs.of_own (base := 0) (World.ownsRow_nil _ _ _ _), Below.refl _ _⟩
    simp [Builtin.append_, run_underlying Try.underlying42, sizeOf, typeInfo, hi0, Builtin.lenOf, Builtin.firstCells]
  · have hnews : ∀ j u, (flat ps)[j]? = some u → w.cell? (ad.add j) = some u := by
      intro j u hu
      have hj : j < ps.length * 2 := by
        have := (List.getElem?_eq_some_iff.1 hu).1
        rwa [flat_length] at this
      obtain ⟨b, off, e, -, hcl⟩ := hcell (by omega)
      injection e with e
      subst e
      have hq := flat_get ps (j / 2) (by omega)
      have hcq := hcl (j / 2) (by omega)
      rw [add_plain]
      rcases (show j = j / 2 * 2 ∨ j = j / 2 * 2 + 1 by omega) with hjj | hjj
      · rw [hjj] at hu ⊢
        rw [hq.1] at hu
        rw [← hu]
        exact hcq.1
      · rw [hjj] at hu ⊢
        rw [hq.2] at hu
        rw [← hu]
        exact hcq.2
    obtain ⟨v', w', hrun, hown, hg, -, -⟩ := run_append_own_at (P := Try.prog) w w.heap.size 42 ty 47 i0 _ 2 16 Try.underlying42 hi0 hz0 hz1 hz2 rfl (by omega) (.slice none 0 0) 0 [] (World.ownsRow_nil _ _ _ _)
      ad ps.length c (flat ps) (flat_length ps) hnews (flat_one ps) (by simp only [maxLen]; omega) (by omega) (Nat.le_refl _)
    refine ⟨v', w', hrun, ?_, (Below.refl _ _).grown hg (Nat.le_refl _) (by simp [Value.ownBlock])⟩
    rw [Nat.zero_add, List.nil_append] at hown
    exact Prs.of_own hown

section
variable (w : World)
theorem wp_append_pairs {o : Oper} {a : Act} {K : Act → World → Prop} {Q : Exit → Act → World → Prop} (s x : Operand)
    (ho : o.op = .call { callee := .builtin .append, args := #[s, x], argTypes := #[42, 42] }) (v : Value) (ps : List (Int × Int)) (hs : a.eval s = .slice none 0 0) (hx : a.eval x = v) (hm : Prs w v ps) (hl : ps.length * 16 ≤ 140737488355328)
    (h : ∀ v' w', (Prs w' v' ps ∧ ∀ A n c, v' = .slice A n c → c ≤ 9223372036854775807) → Below w.heap.size w w' → K (a.put o.dst v') w') : o.wp Try.prog a w K Q := by
  obtain ⟨v', w', hrun, h2, h3⟩ := run_append_pairs w v ps hm hl o.type
  unfold Oper.wp execOp
  simp only [ho, resolve, invoke, builtin, Sem.run_bind, Sem.run_pure, Result.andThen_ok, List.map_toArray, List.map_cons, List.map_nil, hs, hx, hrun]
  exact h v' w' h2 h3
theorem wpList_append_pairs {ops : Array Oper} {rest : List Oper} {o : Oper} {a : Act} {Q : Exit → Act → World → Prop} (hgd : o.guard = none) (s x : Operand)
    (ho : o.op = .call { callee := .builtin .append, args := #[s, x], argTypes := #[42, 42] }) (v : Value) (ps : List (Int × Int)) (hs : a.eval s = .slice none 0 0) (hx : a.eval x = v) (hm : Prs w v ps) (hl : ps.length * 16 ≤ 140737488355328)
    (h : ∀ v' w', (Prs w' v' ps ∧ ∀ A n c, v' = .slice A n c → c ≤ 9223372036854775807) → Below w.heap.size w w' → wpList Try.prog ops Q rest (a.put o.dst v') w') : wpList Try.prog ops Q (o :: rest) a w :=
  wpList_plain hgd fun _ hK => wp_append_pairs w s x ho v ps hs hx hm hl fun v' w' h2 h3 => hK _ _ (h v' w' h2 h3)
end

section
variable {H : Type} {enc : TypeId × Value → H}
theorem cells42e : Try.prog.cellsOf 47 = 2 := by kernel_rfl
theorem bytesP : Try.prog.bytesOf 47 = 16 := by kernel_rfl
/-- an argument that is a list of pairs -/
theorem open_pairs {W : World} {r : Reach} {b0 base : Nat} {sp : Nat → Bool} {held : Bool} {v : Value} {d : DataW H} {p : List MemPlace}
    (hv : Value.okWide Try.prog W r b0 42 v) (h : DataW.Trod enc Try.prog W base sp held 42 v d p) :
    ∃ ps : List (Int × Int), Prs W v ps ∧ (ps.length = 0 ∨ ∃ es sps, d = .slice es sps ∧ es.length = ps.length) ∧ ∀ A n c, v = .slice A n c → c ≤ 9223372036854775807 := by
  obtain ⟨a0, len, cap, rfl⟩ := okWide_slice Try.underlying42 hv
  obtain ⟨fuel, hf⟩ := h
  rcases open_slice Try.underlying42 hf with ⟨hcs, hx⟩ | ⟨a, len', cap', m, n, D, Pl, hcs, hb, hl, hm, hmm, hx, hi⟩
  · simp only [Value.cells, List.cons.injEq, Value.slice.injEq, and_true] at hcs
    obtain ⟨rfl, rfl, rfl⟩ := hcs
    exact ⟨[], ⟨none, 0, rfl, by simp, fun h0 => by simp at h0⟩, .inl rfl, fun A n c e => by injection e with _ _ e; omega⟩
  · simp only [Value.cells, List.cons.injEq, Value.slice.injEq, and_true] at hcs
    obtain ⟨rfl, rfl, rfl⟩ := hcs
    rw [cells42e] at hi
    have hmlen : len ≤ m := by rw [hmm]; split <;> omega
    have hrow : ∀ i, i < len → ∃ x y : Int, W.cell? (a.add (i * 2)) = some (.int .i64 x) ∧ W.cell? (a.add (i * 2 + 1)) = some (.int .i64 y) := by
      intro i hi'
      obtain ⟨cs', hc, ht'⟩ := hi i (by omega)
      obtain ⟨xs, n', hn', hy, hlen, hyl, hfld⟩ := DataW.trod_struct Try.underlying47 ht'
      obtain ⟨_, hcl, hat⟩ := World.cells?_some hc
      match cs', hcl with
      | [c0, c1], _ =>
        have g0 := hfld 0 _ rfl
        have g1 := hfld 1 _ rfl
        have a0 := hat 0 (by omega)
        have a1 := hat 1 (by omega)
        obtain ⟨x, e0, -, -⟩ := DataW.trod_int Try.underlying2 (show DataW.trod enc Try.prog W base sp held _ 2 [c0] = some _ from g0.trans (List.getElem?_eq_getElem (show 0 < xs.length by rw [hyl]; decide)))
        obtain ⟨y, e1, -, -⟩ := DataW.trod_int Try.underlying2 (show DataW.trod enc Try.prog W base sp held _ 2 [c1] = some _ from g1.trans (List.getElem?_eq_getElem (show 1 < xs.length by rw [hyl]; decide)))
        simp at e0 e1
        subst e0 e1
        refine ⟨x, y, ?_, ?_⟩
        · have := a0; rw [Go.Deep.add_add] at this; simpa using this
        · have := a1; rw [Go.Deep.add_add] at this; simpa using this
    have hsk : ∀ i, ∃ q : Int × Int, i < len → W.cell? (a.add (i * 2)) = some (.int .i64 q.1) ∧ W.cell? (a.add (i * 2 + 1)) = some (.int .i64 q.2) := by
      intro i
      by_cases hi' : i < len
      · obtain ⟨x, y, e1, e2⟩ := hrow i hi'
        exact ⟨(x, y), fun _ => ⟨e1, e2⟩⟩
      · exact ⟨(0, 0), fun h => absurd h hi'⟩
    obtain ⟨f, hf'⟩ := Classical.axiomOfChoice hsk
    have hlf : ((List.range len).map f).length = len := by simp
    have hgf : ∀ j, j < len → ((List.range len).map f).getD j (0, 0) = f j := fun j hj => by simp [List.getD_eq_getElem?_getD, List.getElem?_range hj]
    refine ⟨(List.range len).map f, ⟨some a, cap, by rw [hlf], by rw [hlf]; exact hl, fun h0 => ?_⟩, .inr ⟨_, _, by simp only [Prod.mk.injEq] at hx; exact hx.1, by simp⟩, fun A n c e => by injection e with _ _ e; simp only [maxLen] at hm; omega⟩
    rw [hlf] at h0 ⊢
    obtain ⟨b, off, spot⟩ := a
    have hspot : spot = none := by simpa [Addr.add] using World.cell?_spot (hf' 0 h0).1
    subst hspot
    refine ⟨b, off, rfl, ?_, fun j hj => ?_⟩
    · exact cell_lt (hf' 0 h0).1
    · rw [hgf j hj]
      have := hf' j hj
      rw [add_plain, add_plain] at this
      exact this
end
end Go.Proofs.Ytiohemofidphjaa
