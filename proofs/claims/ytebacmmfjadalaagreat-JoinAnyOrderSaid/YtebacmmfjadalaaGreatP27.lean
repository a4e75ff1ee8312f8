/- I4 in one text. -/
import Derived.Test.YtebacmmfjadalaaGreatP19
import Derived.Test.YtebacmmfjadalaaGreatP26

namespace Go.Proofs.YtebacmmfjadalaaGreat
open Go Go.RowKit Go.WideShapes

/-- readings in a row of the call's own -/
def flat4 : List In → List Value
  | [] => []
  | e :: l => e.row4 ++ flat4 l
theorem flat4_len : ∀ xs : List In, (flat4 xs).length = xs.length * 4
  | [] => rfl
  | e :: l => by simp [flat4, flat4_len l, In.row4]; omega
theorem flat4_app : ∀ xs ys : List In, flat4 (xs ++ ys) = flat4 xs ++ flat4 ys
  | [], _ => rfl
  | e :: l, ys => by simp [flat4, flat4_app l ys]
theorem flat4_get : ∀ (xs : List In) (i : Nat) (e : In), xs[i]? = some e → ∀ j, j < 4 → (flat4 xs)[i * 4 + j]? = e.row4[j]?
  | [], i, e, h, _, _ => by simp at h
  | a :: l, 0, e, h, j, hj => by
    simp only [List.getElem?_cons_zero, Option.some.injEq] at h
    subst h
    rw [flat4, Nat.zero_mul, Nat.zero_add, List.getElem?_append_left (by simpa [In.row4] using hj)]
  | a :: l, i + 1, e, h, j, hj => by
    rw [List.getElem?_cons_succ] at h
    have := flat4_get l i e h j hj
    rw [flat4, List.getElem?_append_right (by simp [In.row4]; omega), show (i + 1) * 4 + j - a.row4.length = i * 4 + j by simp [In.row4]; omega]
    exact this
theorem flat4_one : ∀ xs : List In, ∀ u ∈ flat4 xs, u.oneCell' = true
  | [], u, h => by simp [flat4] at h
  | e :: l, u, h => by
    rw [flat4] at h
    rcases List.mem_append.1 h with h | h
    · simp only [In.row4, List.mem_cons, List.not_mem_nil, or_false] at h
      rcases h with rfl | rfl | rfl | rfl <;> rfl
    · exact flat4_one l u h
theorem infoR : (Tryz.prog.info? 35).map (fun i => (i.zero, i.size, i.bytes)) = some (some (.agg #[.int .i64 0, .int .u32 0, .int .u32 0, .slice none 0 0]), 4, 40) := by kernel_rfl
def Row4 (B : Nat) (w : World) (v : Value) (xs : List In) : Prop := w.ownsRow B 35 4 v xs.length (flat4 xs)
theorem Row4.slice {B : Nat} {w : World} {v : Value} {xs : List In} (h : Row4 B w v xs) : ∃ A c, v = .slice A xs.length c := by
  rcases h.2 with ⟨h1, h2⟩ | ⟨g, cap, cur, h1, -⟩
  · exact ⟨none, 0, by rw [h1, h2]⟩
  · exact ⟨_, _, h1⟩
theorem Row4.rd {B : Nat} {w : World} {A : Option Addr} {n c : Nat} {xs : List In} (h : Row4 B w (.slice A n c) xs) : RdAt w A xs ∧ ∀ b f, A = some ⟨b, f, none⟩ → B ≤ b ∧ b < w.heap.size := by
  have h0 := h
  rcases h.2 with ⟨h1, h2⟩ | ⟨g, cap, cur, h1, h2, h3, -⟩
  · have : xs = [] := List.length_eq_zero_iff.1 h2
    injection h1 with h1
    exact ⟨.inl this, fun b f e => by rw [h1] at e; cases e⟩
  · injection h1 with e1 e2 e3
    subst e1 e2 e3
    have hl := (Array.getElem?_eq_some_iff.1 h3).1
    refine ⟨.inr ⟨g, 0, rfl, hl, fun i e he j hj => ?_⟩, fun b f e => by injection e with e; injection e with e; subst e; exact ⟨h2, hl⟩⟩
    have hi : i < xs.length := (List.getElem?_eq_some_iff.1 he).1
    have := World.ownsRow.cellAt h0 (i * 4 + j) (by omega)
    rw [Nat.zero_add]
    rw [this]
    exact flat4_get xs i e he j hj
/-- readings appended to a row of the call's own -/
theorem run_append_reads (B : Nat) (w : World) (v : Value) (xs ys : List In) (hr : Row4 B w v xs) (hB : B ≤ w.heap.size) (A : Option Addr) (n c : Nat) (hn : ys.length = n) (h : RdAt w A ys) (hA : n = 0 ∨ A ≠ none) (hl : xs.length + n ≤ 1099511627776) (ty : TypeId) :
    ∃ v' w', (Builtin.append_ #[23, 23] ty #[v, .slice A n c]).run Tryz.prog w = .ok v' w' ∧ Row4 B w' v' (xs ++ ys) ∧ Below B w w' := by
  obtain ⟨i0, hi0, hz0, hz1, hz2⟩ := info_parts infoR
  have hown0 : ∀ k, v.ownBlock = some k → B ≤ k := fun k hk => by
    rcases hr.2 with ⟨h1, -⟩ | ⟨g, cap, cur, h1, h2, -⟩
    · rw [h1] at hk; simp [Value.ownBlock] at hk
    · rw [h1] at hk
      simp only [Value.ownBlock] at hk
      injection hk with hk
      omega
  rcases (show (ys = [] ∧ A = none) ∨ ∃ ad, A = some ad by cases A with
    | none => exact .inl ⟨List.length_eq_zero_iff.1 (by rcases hA with q | q; omega; exact absurd rfl q), rfl⟩
    | some ad => exact .inr ⟨ad, rfl⟩) with ⟨hy, hA⟩ | ⟨ad, hA⟩
  · subst hy hA
    have hn0 : n = 0 := by simpa using hn.symm
    subst hn0
    rw [List.append_nil]
    refine ⟨v, w, ?_, hr, Below.refl _ _⟩
    rcases hr.2 with ⟨h3, h4⟩ | ⟨g', cap', cur', h3, h4, h5, h6⟩
    · rw [h3]
      simp [Builtin.append_, run_underlying Tryz.underlying23, sizeOf, typeInfo, hi0, Builtin.lenOf, Builtin.firstCells]
    · rw [h3]
      simp [Builtin.append_, run_underlying Tryz.underlying23, sizeOf, typeInfo, hi0, Builtin.lenOf, Builtin.firstCells, h6.1, storeCells]
  · subst hA
    have hcells : ∀ j u, (flat4 ys)[j]? = some u → w.cell? (ad.add j) = some u := by
      intro j u hu
      have hj : j < ys.length * 4 := by
        have := (List.getElem?_eq_some_iff.1 hu).1
        rwa [flat4_len] at this
      rcases h with h | ⟨b, off, hb, hlt, hc⟩
      · rw [h] at hj; simp at hj
      · obtain rfl := Option.some.inj hb
        have hi : j / 4 < ys.length := by omega
        obtain ⟨e, he⟩ := get_someI hi
        have e1 := hc (j / 4) e he (j % 4) (by omega)
        have e2 := flat4_get ys (j / 4) e he (j % 4) (by omega)
        rw [show off + j / 4 * 4 + j % 4 = off + j by omega] at e1
        rw [show j / 4 * 4 + j % 4 = j by omega] at e2
        rw [add_plain, e1, ← e2, hu]
    obtain ⟨v', w', hrun, hown, hg, -, -⟩ := run_append_own_at (P := Tryz.prog) w B 23 ty 35 i0 _ 4 40 Tryz.underlying23 hi0 hz0 hz1 hz2 rfl (by omega) v xs.length (flat4 xs) hr
      ad n c (flat4 ys) (by rw [flat4_len, hn]) hcells (flat4_one ys) (by simp only [maxLen]; omega) (by omega) hB
    refine ⟨v', w', hrun, ?_, (Below.refl _ _).grown hg hB hown0⟩
    unfold Row4
    rw [List.length_append, flat4_app, hn]
    exact hown
section
variable (w : World)
theorem wp_append_reads {o : Oper} {a : Act} {K : Act → World → Prop} {Q : Exit → Act → World → Prop} (s x : Operand)
    (ho : o.op = .call { callee := .builtin .append, args := #[s, x], argTypes := #[23, 23] }) (B : Nat) (v : Value) (A : Option Addr) (n c : Nat) (xs ys : List In) (hs : a.eval s = v) (hx : a.eval x = .slice A n c) (hr : Row4 B w v xs) (hB : B ≤ w.heap.size) (hn : ys.length = n) (hm : RdAt w A ys) (hA : n = 0 ∨ A ≠ none) (hl : xs.length + n ≤ 1099511627776)
    (h : ∀ v' w', Row4 B w' v' (xs ++ ys) → Below B w w' → K (a.put o.dst v') w') : o.wp Tryz.prog a w K Q := by
  obtain ⟨v', w', hrun, h2, h3⟩ := run_append_reads B w v xs ys hr hB A n c hn hm hA hl o.type
  unfold Oper.wp execOp
  simp only [ho, resolve, invoke, builtin, Sem.run_bind, Sem.run_pure, Result.andThen_ok, List.map_toArray, List.map_cons, List.map_nil, hs, hx, hrun]
  exact h v' w' h2 h3
theorem wpList_append_reads {ops : Array Oper} {rest : List Oper} {o : Oper} {a : Act} {Q : Exit → Act → World → Prop} (hgd : o.guard = none) (s x : Operand)
    (ho : o.op = .call { callee := .builtin .append, args := #[s, x], argTypes := #[23, 23] }) (B : Nat) (v : Value) (A : Option Addr) (n c : Nat) (xs ys : List In) (hs : a.eval s = v) (hx : a.eval x = .slice A n c) (hr : Row4 B w v xs) (hB : B ≤ w.heap.size) (hn : ys.length = n) (hm : RdAt w A ys) (hA : n = 0 ∨ A ≠ none) (hl : xs.length + n ≤ 1099511627776)
    (h : ∀ v' w', Row4 B w' v' (xs ++ ys) → Below B w w' → wpList Tryz.prog ops Q rest (a.put o.dst v') w') : wpList Tryz.prog ops Q (o :: rest) a w :=
  wpList_plain hgd fun _ hK => wp_append_reads w s x ho B v A n c xs ys hs hx hr hB hn hm hA hl fun v' w' h2 h3 => hK _ _ (h v' w' h2 h3)
end
end Go.Proofs.YtebacmmfjadalaaGreat
