/- An append of a list of words to the nil slice: the same words, in new memory. As an equation of the run, and as a step of a walk. -/
import Derived.Test.YtiohemofidphjaaDoorQ3
import Derived.Maps.AppendAt
import Derived.Deep.RegionHeld3
import Derived.OwnWalk
import Derived.SizedLaws
namespace Go.Proofs.YtiohemofidphjaaDoor.Bg
open Go Go.RowKit

theorem infoW : (Tryd.prog.info? 73).map (fun i => (i.zero, i.size, i.bytes)) = some (some (.int .u32 0), 1, 4) := by kernel_rfl

/-- words as values -/
def vals (ws : List Nat) : List Value := ws.map fun x => .int .u32 (x : Nat)
theorem vals_get {ws : List Nat} {j : Nat} (hj : j < ws.length) : (vals ws)[j]? = some (.int .u32 (ws.getD j 0 : Nat)) := by
  unfold vals
  rw [List.getElem?_map, List.getElem?_eq_getElem hj, List.getD_eq_getElem?_getD, List.getElem?_eq_getElem hj]; rfl
theorem vals_one (ws : List Nat) : ∀ u ∈ vals ws, u.oneCell' = true := by
  intro u hu
  obtain ⟨x, -, rfl⟩ := List.mem_map.1 hu
  rfl
/-- an owned row of words is a list of words -/
theorem Mag.of_own {w : World} {base : Nat} {v : Value} {ws : List Nat} (h : w.ownsRow base 73 1 v ws.length (vals ws)) (hw : W32 ws) : Mag w v ws := by
  rcases h.2 with ⟨rfl, hl⟩ | ⟨g, cap, cur, rfl, hb, hh, hc, hm, hs, ht⟩
  · rw [List.eq_nil_of_length_eq_zero hl]; exact Mag.nil w none 0 (by omega)
  · refine ⟨_, cap, rfl, hc, by simpa [maxLen] using hm, hw, fun h0 => ⟨g, 0, rfl, ?_, fun j hj => ?_⟩⟩
    · exact (h.lt g rfl).2
    · rw [Nat.zero_add, h.cellAt j (by omega), vals_get hj]

set_option maxRecDepth 8000 in
theorem run_append_words (w : World) (v : Value) (ws : List Nat) (h : Mag w v ws) (hl : ws.length ≤ 1099511627776) (ty : TypeId) :
    ∃ v' w', (Builtin.append_ #[66, 66] ty #[.slice none 0 0, v]).run Tryd.prog w = .ok v' w' ∧ Mag w' v' ws ∧ Below w.heap.size w w' := by
  obtain ⟨i0, hi0, hz0, hz1, hz2⟩ := info_parts infoW
  obtain ⟨A, c, rfl, hc0, hc1, hw, hcell⟩ := h
  rcases A with _ | ad
  · have h0 : ws.length = 0 := by
      rcases Nat.eq_zero_or_pos ws.length with h0 | h0
      · exact h0
      · obtain ⟨b, off, e, -⟩ := hcell h0
        cases e
    have hn : ws = [] := List.eq_nil_of_length_eq_zero h0
    subst hn
    refine ⟨.slice none 0 0, w, ?_, Mag.nil w none 0 (by omega), Below.refl _ _⟩
    simp [Builtin.append_, run_underlying Tryd.underlying66, sizeOf, typeInfo, hi0, Builtin.lenOf, Builtin.firstCells]
  · have hnews : ∀ j u, (vals ws)[j]? = some u → w.cell? (ad.add j) = some u := by
      intro j u hu
      have hj : j < ws.length := by
        have := (List.getElem?_eq_some_iff.1 hu).1
        simpa [vals] using this
      obtain ⟨b, off, e, -, hcl⟩ := hcell (by omega)
      injection e with e
      subst e
      rw [vals_get hj] at hu
      injection hu with hu
      subst hu
      rw [← hcl j hj, Go.WideShapes.add_plain]
    obtain ⟨v', w', hrun, hown, hg, -, -⟩ := run_append_own_at (P := Tryd.prog) w w.heap.size 66 ty 73 i0 _ 1 4 Tryd.underlying66 hi0 hz0 hz1 hz2 rfl (by omega) (.slice none 0 0) 0 [] (World.ownsRow_nil _ _ _ _)
      ad ws.length c (vals ws) (by simp [vals]) hnews (vals_one ws) (by simp only [maxLen]; omega) (by omega) (Nat.le_refl _)
    refine ⟨v', w', hrun, ?_, (Below.refl _ _).grown hg (Nat.le_refl _) (by simp [Value.ownBlock])⟩
    rw [Nat.zero_add, List.nil_append] at hown
    exact Mag.of_own hown hw

section
variable (w : World)
theorem wp_append_words {o : Oper} {a : Act} {K : Act → World → Prop} {Q : Exit → Act → World → Prop} (s x : Operand)
    (ho : o.op = .call { callee := .builtin .append, args := #[s, x], argTypes := #[66, 66] }) (v : Value) (ws : List Nat) (hs : a.eval s = .slice none 0 0) (hx : a.eval x = v) (hm : Mag w v ws) (hl : ws.length ≤ 1099511627776)
    (h : ∀ v' w', Mag w' v' ws → Below w.heap.size w w' → K (a.put o.dst v') w') : o.wp Tryd.prog a w K Q := by
  obtain ⟨v', w', hrun, h2, h3⟩ := run_append_words w v ws hm hl o.type
  unfold Oper.wp execOp
  simp only [ho, resolve, invoke, builtin, Sem.run_bind, Sem.run_pure, Result.andThen_ok, List.map_toArray, List.map_cons, List.map_nil, hs, hx, hrun]
  exact h v' w' h2 h3
theorem wpList_append_words {ops : Array Oper} {rest : List Oper} {o : Oper} {a : Act} {Q : Exit → Act → World → Prop} (hgd : o.guard = none) (s x : Operand)
    (ho : o.op = .call { callee := .builtin .append, args := #[s, x], argTypes := #[66, 66] }) (v : Value) (ws : List Nat) (hs : a.eval s = .slice none 0 0) (hx : a.eval x = v) (hm : Mag w v ws) (hl : ws.length ≤ 1099511627776)
    (h : ∀ v' w', Mag w' v' ws → Below w.heap.size w w' → wpList Tryd.prog ops Q rest (a.put o.dst v') w') : wpList Tryd.prog ops Q (o :: rest) a w :=
  wpList_plain hgd fun _ hK => wp_append_words w s x ho v ws hs hx hm hl fun v' w' h2 h3 => hK _ _ (h v' w' h2 h3)
theorem step_append_words {ops : Array Oper} {o : Oper} {a : Act} {K : Act → World → Prop} {Q : Exit → Act → World → Prop} {E : Prop} (hgd : o.guard = none) (s x : Operand)
    (ho : o.op = .call { callee := .builtin .append, args := #[s, x], argTypes := #[66, 66] }) (v : Value) (ws : List Nat) (hs : a.eval s = .slice none 0 0) (hx : a.eval x = v) (hm : Mag w v ws) (hl : ws.length ≤ 1099511627776)
    (h : ∀ v' w', Mag w' v' ws → Below w.heap.size w w' → K (a.put o.dst v') w') : if Region.wanted o (yielded ops a.tmps) = true then Oper.wp Tryd.prog o a w K Q else E := by
  have hw : Region.wanted o (yielded ops a.tmps) = true := by simp [Region.wanted, hgd]
  rw [if_pos hw]
  exact wp_append_words w s x ho v ws hs hx hm hl h
end
end Go.Proofs.YtiohemofidphjaaDoor.Bg
