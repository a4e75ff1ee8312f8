/- G6 in one text. -/
import Derived.Test.YtebacmmfjadalaaGreatP19
import Derived.Test.YtebacmmfjadalaaGreatP15

namespace Go.Proofs.YtebacmmfjadalaaGreat
open Go Go.RowKit Go.WideShapes

theorem run_append_els (B D : Nat) (t : TypeId) (ht : Tryz.prog.underlying t = some (.slice 63)) (w : World) (v u : Value) (xs ys : List El) (hr : Row B w v xs) (hB : B ≤ w.heap.size) (hu : Row D w u ys) (hlen : xs.length + ys.length ≤ 1099511627776) (ty : TypeId) :
    ∃ v' w', (Builtin.append_ #[t, t] ty #[v, u]).run Tryz.prog w = .ok v' w' ∧ Row B w' v' (xs ++ ys) ∧ w.grownBy w' v.ownBlock ∧ (v'.ownBlock = v.ownBlock ∨ v'.ownBlock = some w.heap.size) := by
  obtain ⟨i0, hi0, hz0, hz1, hz2⟩ := info_parts infoT
  rcases hu.2 with ⟨hn, h0⟩ | ⟨g, cap, cur, hv, h1, h2, -⟩
  · have hy : ys = [] := by
      cases ys with
      | nil => rfl
      | cons a l => simp at h0
    subst hy hn
    rw [List.append_nil]
    refine ⟨v, w, ?_, hr, ⟨rfl, rfl, rfl, Nat.le_refl _, fun _ _ _ => rfl⟩, .inl rfl⟩
    rcases hr.2 with ⟨h3, h4⟩ | ⟨g', cap', cur', h3, h4, h5, h6⟩
    · rw [h3]
      simp [Builtin.append_, run_underlying ht, sizeOf, typeInfo, hi0, Builtin.lenOf, Builtin.firstCells]
    · rw [h3]
      simp [Builtin.append_, run_underlying ht, sizeOf, typeInfo, hi0, Builtin.lenOf, Builtin.firstCells, h6.1, storeCells]
  · subst hv
    obtain ⟨v', w', hrun, hown, hg, -, hat⟩ := run_append_own_at (P := Tryz.prog) w B t ty 63 i0 _ 5 48 ht hi0 hz0 hz1 hz2 rfl (by omega) v xs.length (flat xs) hr
      ⟨g, 0, none⟩ ys.length cap (flat ys) (flat_len _) (fun j q hq => by
        have hj : j < ys.length * 5 := by
          have := (List.getElem?_eq_some_iff.1 hq).1
          rwa [flat_len] at this
        rw [add_plain, Nat.zero_add]
        exact (World.ownsRow.cellAt hu j (by omega)).trans hq) (flat_one _) (by simp only [maxLen]; omega) (by omega) hB
    refine ⟨v', w', hrun, ?_, hg, hat⟩
    unfold Row
    rw [List.length_append, flat_app]
    exact hown
section
variable (w : World)
theorem wp_append_els {o : Oper} {a : Act} {K : Act → World → Prop} {Q : Exit → Act → World → Prop} (s x : Operand) (t : TypeId) (B D : Nat)
    (ho : o.op = .call { callee := .builtin .append, args := #[s, x], argTypes := #[t, t] }) (ht : Tryz.prog.underlying t = some (.slice 63)) (v u : Value) (xs ys : List El) (hs : a.eval s = v) (hx : a.eval x = u) (hr : Row B w v xs) (hB : B ≤ w.heap.size) (hu : Row D w u ys) (hlen : xs.length + ys.length ≤ 1099511627776)
    (h : ∀ v' w', Row B w' v' (xs ++ ys) → w.grownBy w' v.ownBlock → (v'.ownBlock = v.ownBlock ∨ v'.ownBlock = some w.heap.size) → K (a.put o.dst v') w') : o.wp Tryz.prog a w K Q := by
  obtain ⟨v', w', hrun, h2, h3, h4⟩ := run_append_els B D t ht w v u xs ys hr hB hu hlen o.type
  unfold Oper.wp execOp
  simp only [ho, resolve, invoke, builtin, Sem.run_bind, Sem.run_pure, Result.andThen_ok, List.map_toArray, List.map_cons, List.map_nil, hs, hx, hrun]
  exact h v' w' h2 h3 h4
theorem wpList_append_els {ops : Array Oper} {rest : List Oper} {o : Oper} {a : Act} {Q : Exit → Act → World → Prop} (hgd : o.guard = none) (s x : Operand) (t : TypeId) (B D : Nat)
    (ho : o.op = .call { callee := .builtin .append, args := #[s, x], argTypes := #[t, t] }) (ht : Tryz.prog.underlying t = some (.slice 63)) (v u : Value) (xs ys : List El) (hs : a.eval s = v) (hx : a.eval x = u) (hr : Row B w v xs) (hB : B ≤ w.heap.size) (hu : Row D w u ys) (hlen : xs.length + ys.length ≤ 1099511627776)
    (h : ∀ v' w', Row B w' v' (xs ++ ys) → w.grownBy w' v.ownBlock → (v'.ownBlock = v.ownBlock ∨ v'.ownBlock = some w.heap.size) → wpList Tryz.prog ops Q rest (a.put o.dst v') w') : wpList Tryz.prog ops Q (o :: rest) a w :=
  wpList_plain hgd fun _ hK => wp_append_els w s x t B D ho ht v u xs ys hs hx hr hB hu hlen fun v' w' h2 h3 h4 => hK _ _ (h v' w' h2 h3 h4)
end

theorem infoC : (Tryz.prog.info? 53).map (fun i => (i.zero, i.size, i.bytes)) = some (some (.agg #[.int .i64 0, .int .i64 0, .int .i64 0]), 3, 24) := by kernel_rfl
def flat3 : List (Int × Int × Int) → List Value
  | [] => []
  | c :: l => .int .i64 c.1 :: .int .i64 c.2.1 :: .int .i64 c.2.2 :: flat3 l
theorem flat3_len : ∀ cs : List (Int × Int × Int), (flat3 cs).length = cs.length * 3
  | [] => rfl
  | c :: l => by simp [flat3, flat3_len l]; omega
theorem flat3_get : ∀ (cs : List (Int × Int × Int)) (i : Nat), i < cs.length → (flat3 cs)[i * 3]? = some (.int .i64 (cs.getD i (0, 0, 0)).1) ∧ (flat3 cs)[i * 3 + 1]? = some (.int .i64 (cs.getD i (0, 0, 0)).2.1) ∧ (flat3 cs)[i * 3 + 2]? = some (.int .i64 (cs.getD i (0, 0, 0)).2.2)
  | [], _, h => by simp at h
  | c :: l, 0, _ => by simp [flat3]
  | c :: l, i + 1, h => by
    have := flat3_get l i (by simpa using h)
    rw [show (i + 1) * 3 = i * 3 + 1 + 1 + 1 by omega, show i * 3 + 1 + 1 + 1 + 1 = (i * 3 + 1) + 1 + 1 + 1 by omega, show i * 3 + 1 + 1 + 1 + 2 = (i * 3 + 2) + 1 + 1 + 1 by omega]
    simpa [flat3] using this
theorem flat3_one : ∀ cs : List (Int × Int × Int), ∀ u ∈ flat3 cs, u.oneCell' = true
  | [], u, h => by simp [flat3] at h
  | c :: l, u, h => by
    simp only [flat3, List.mem_cons] at h
    rcases h with rfl | rfl | rfl | h
    · rfl
    · rfl
    · rfl
    · exact flat3_one l u h
/-- clocks appended to the nil slice: clocks in new memory -/
theorem run_append_clocks (w : World) (A : Option Addr) (n c : Nat) (cs : List (Int × Int × Int)) (hn : cs.length = n) (h : ClRow w A cs) (hA : n = 0 ∨ A ≠ none) (hl : n * 24 ≤ 140737488355328) (ty : TypeId) :
    ∃ A' c' w', (Builtin.append_ #[22, 22] ty #[.slice none 0 0, .slice A n c]).run Tryz.prog w = .ok (.slice A' n c') w' ∧ ClRow w' A' cs ∧ Below w.heap.size w w' := by
  obtain ⟨i0, hi0, hz0, hz1, hz2⟩ := info_parts infoC
  rcases Nat.eq_zero_or_pos n with h0 | h0
  · subst h0
    have hcs : cs = [] := List.length_eq_zero_iff.1 hn
    cases A with
    | none =>
      refine ⟨none, 0, w, ?_, .inl hcs, Below.refl _ _⟩
      simp [Builtin.append_, run_underlying Tryz.underlying22, sizeOf, typeInfo, hi0, Builtin.lenOf, Builtin.firstCells]
    | some ad =>
      obtain ⟨v', w', hrun, hown, hg, -, -⟩ := run_append_own_at (P := Tryz.prog) w w.heap.size 22 ty 53 i0 _ 3 24 Tryz.underlying22 hi0 hz0 hz1 hz2 rfl (by omega) (.slice none 0 0) 0 [] (World.ownsRow_nil _ _ _ _)
        ad 0 c [] rfl (fun j u hu => by simp at hu) (fun u hu => by simp at hu) (by simp only [maxLen]; omega) (by omega) (Nat.le_refl _)
      rcases hown.2 with ⟨h1, -⟩ | ⟨g, cap, cur, h1, -⟩
      · exact ⟨none, 0, w', by rw [hrun, h1], .inl hcs, (Below.refl _ _).grown hg (Nat.le_refl _) (by simp [Value.ownBlock])⟩
      · exact ⟨_, _, w', by rw [hrun, h1], .inl hcs, (Below.refl _ _).grown hg (Nat.le_refl _) (by simp [Value.ownBlock])⟩
  · have hne : cs ≠ [] := by intro e; rw [e] at hn; simp at hn; omega
    rcases h with h | ⟨b, off, rfl, hb, hcell⟩
    · exact absurd h hne
    obtain ⟨v', w', hrun, hown, hg, -, -⟩ := run_append_own_at (P := Tryz.prog) w w.heap.size 22 ty 53 i0 _ 3 24 Tryz.underlying22 hi0 hz0 hz1 hz2 rfl (by omega) (.slice none 0 0) 0 [] (World.ownsRow_nil _ _ _ _)
      ⟨b, off, none⟩ n c (flat3 cs) (by rw [flat3_len, hn]) (fun j u hu => by
        have hj : j < cs.length * 3 := by
          have := (List.getElem?_eq_some_iff.1 hu).1
          rwa [flat3_len] at this
        have hq := flat3_get cs (j / 3) (by omega)
        have hcq := hcell (j / 3) (by omega)
        rw [add_plain]
        rcases (show j = j / 3 * 3 ∨ j = j / 3 * 3 + 1 ∨ j = j / 3 * 3 + 2 by omega) with hjj | hjj | hjj
        · rw [hjj] at hu ⊢
          rw [hq.1] at hu
          rw [← hu]
          exact hcq.1
        · rw [hjj] at hu ⊢
          rw [hq.2.1] at hu
          rw [← hu]
          exact hcq.2.1
        · rw [hjj] at hu ⊢
          rw [hq.2.2] at hu
          rw [← hu]
          exact hcq.2.2) (flat3_one cs) (by simp only [maxLen]; omega) (by omega) (Nat.le_refl _)
    rw [Nat.zero_add, List.nil_append] at hown
    rcases hown.2 with ⟨h1, h2⟩ | ⟨g, cap, cur, h1, h2, h3, -⟩
    · omega
    · refine ⟨_, _, w', by rw [hrun, h1], .inr ⟨g, 0, rfl, (Array.getElem?_eq_some_iff.1 h3).1, fun i hi => ?_⟩, (Below.refl _ _).grown hg (Nat.le_refl _) (by simp [Value.ownBlock])⟩
      have hq := flat3_get cs i hi
      rw [h1] at hown
      have hc := fun j u (hu : (flat3 cs)[j]? = some u) => (World.ownsRow.cellAt hown j (by
        have := (List.getElem?_eq_some_iff.1 hu).1
        rw [flat3_len] at this
        omega)).trans hu
      rw [Nat.zero_add]
      exact ⟨hc _ _ hq.1, hc _ _ hq.2.1, hc _ _ hq.2.2⟩
section
variable (w : World)
theorem wp_append_clocks {o : Oper} {a : Act} {K : Act → World → Prop} {Q : Exit → Act → World → Prop} (s x : Operand)
    (ho : o.op = .call { callee := .builtin .append, args := #[s, x], argTypes := #[22, 22] }) (A : Option Addr) (n c : Nat) (cs : List (Int × Int × Int)) (hs : a.eval s = .slice none 0 0) (hx : a.eval x = .slice A n c) (hn : cs.length = n) (hm : ClRow w A cs) (hA : n = 0 ∨ A ≠ none) (hl : n * 24 ≤ 140737488355328)
    (h : ∀ A' c' w', ClRow w' A' cs → Below w.heap.size w w' → K (a.put o.dst (.slice A' n c')) w') : o.wp Tryz.prog a w K Q := by
  obtain ⟨A', c', w', hrun, h2, h3⟩ := run_append_clocks w A n c cs hn hm hA hl o.type
  unfold Oper.wp execOp
  simp only [ho, resolve, invoke, builtin, Sem.run_bind, Sem.run_pure, Result.andThen_ok, List.map_toArray, List.map_cons, List.map_nil, hs, hx, hrun]
  exact h A' c' w' h2 h3
theorem wpList_append_clocks {ops : Array Oper} {rest : List Oper} {o : Oper} {a : Act} {Q : Exit → Act → World → Prop} (hgd : o.guard = none) (s x : Operand)
    (ho : o.op = .call { callee := .builtin .append, args := #[s, x], argTypes := #[22, 22] }) (A : Option Addr) (n c : Nat) (cs : List (Int × Int × Int)) (hs : a.eval s = .slice none 0 0) (hx : a.eval x = .slice A n c) (hn : cs.length = n) (hm : ClRow w A cs) (hA : n = 0 ∨ A ≠ none) (hl : n * 24 ≤ 140737488355328)
    (h : ∀ A' c' w', ClRow w' A' cs → Below w.heap.size w w' → wpList Tryz.prog ops Q rest (a.put o.dst (.slice A' n c')) w') : wpList Tryz.prog ops Q (o :: rest) a w :=
  wpList_plain hgd fun _ hK => wp_append_clocks w s x ho A n c cs hs hx hn hm hA hl fun A' c' w' h2 h3 => hK _ _ (h A' c' w' h2 h3)
end
end Go.Proofs.YtebacmmfjadalaaGreat
