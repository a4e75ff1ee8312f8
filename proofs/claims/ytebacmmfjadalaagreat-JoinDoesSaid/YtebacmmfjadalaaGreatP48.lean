/- I3 O3 in one text. -/
import Derived.Test.YtebacmmfjadalaaGreatP47
import Derived.Test.YtebacmmfjadalaaGreatP15

namespace Go.Proofs.YtebacmmfjadalaaGreat
open Go Go.RowKit Go.ChangeShapes Go.WideShapes Go.Deep

theorem bytesC : Tryz.prog.bytesOf 53 = 24 := by kernel_rfl
section
variable {H : Type} {enc : TypeId × Value → H}
set_option maxRecDepth 100000 in
/-- a list of clocks -/
theorem open_clocks {W : World} {r : Reach} {b0 : Nat} {v : Value} {d : DataW H} {p : List MemPlace} (hsz : ∀ m ∈ d.weights Tryz.prog 22, m ≤ reachBytes)
    (hv : Value.okWide Tryz.prog W r b0 22 v) (h : DataW.Trod enc Tryz.prog W 0 (fun _ => true) true 22 v d p) :
    ∃ (A : Option Addr) (c : Nat) (cs : List (Int × Int × Int)), v = .slice A cs.length c ∧ ClRow W A cs ∧ (cs.length = 0 ∨ A ≠ none) ∧ cs.length * 24 ≤ 140737488355328 := by
  obtain ⟨a0, len, cap, rfl⟩ := okWide_slice Tryz.underlying22 hv
  obtain ⟨fuel, hf⟩ := h
  rcases open_slice Tryz.underlying22 hf with ⟨hcs, hx⟩ | ⟨a, len', cap', m, n, D, Pl, hcs, hb, hl, hm, hmm, hx, hi⟩
  · simp only [Value.cells, List.cons.injEq, Value.slice.injEq, and_true] at hcs
    obtain ⟨rfl, rfl, rfl⟩ := hcs
    exact ⟨none, 0, [], rfl, .inl rfl, .inl rfl, by simp⟩
  · simp only [Value.cells, List.cons.injEq, Value.slice.injEq, and_true] at hcs
    obtain ⟨rfl, rfl, rfl⟩ := hcs
    rw [show Tryz.prog.cellsOf 53 = 3 by kernel_rfl] at hi
    have hmc : m = cap := by rw [hmm]; simp
    simp only [Prod.mk.injEq] at hx
    have hrow : ∀ i, i < len → ∃ q : Int × Int × Int, W.cell? (a.add (i * 3)) = some (.int .i64 q.1) ∧ W.cell? (a.add (i * 3 + 1)) = some (.int .i64 q.2.1) ∧ W.cell? (a.add (i * 3 + 2)) = some (.int .i64 q.2.2) := by
      intro i hi'
      obtain ⟨cs', hc, ht'⟩ := hi i (by omega)
      obtain ⟨xs, n', hn', hy, hlen, hyl, hfld⟩ := DataW.trod_struct Tryz.underlying53 ht'
      obtain ⟨_, hcl, hat⟩ := World.cells?_some hc
      match cs', hcl with
      | [c0, c1, c2], _ =>
        have hx3 : xs.length = 3 := hyl
        have g0 := hfld 0 _ rfl
        have g1 := hfld 1 _ rfl
        have g2 := hfld 2 _ rfl
        have a0 := hat 0 (by omega)
        have a1 := hat 1 (by omega)
        have a2 := hat 2 (by omega)
        obtain ⟨x, e0, -, -⟩ := DataW.trod_int Tryz.underlying2 (show DataW.trod enc Tryz.prog W 0 (fun _ => true) true _ 2 [c0] = some _ from g0.trans (List.getElem?_eq_getElem (show 0 < xs.length by omega)))
        obtain ⟨y, e1, -, -⟩ := DataW.trod_int Tryz.underlying2 (show DataW.trod enc Tryz.prog W 0 (fun _ => true) true _ 2 [c1] = some _ from g1.trans (List.getElem?_eq_getElem (show 1 < xs.length by omega)))
        obtain ⟨z, e2, -, -⟩ := DataW.trod_int Tryz.underlying2 (show DataW.trod enc Tryz.prog W 0 (fun _ => true) true _ 2 [c2] = some _ from g2.trans (List.getElem?_eq_getElem (show 2 < xs.length by omega)))
        simp at e0 e1 e2
        subst e0 e1 e2
        refine ⟨(x, y, z), ?_, ?_, ?_⟩
        · have := a0; rw [Go.Deep.add_add] at this; simpa using this
        · have := a1; rw [Go.Deep.add_add] at this; simpa using this
        · have := a2; rw [Go.Deep.add_add] at this; simpa using this
    have hsk : ∀ i, ∃ q : Int × Int × Int, i < len → W.cell? (a.add (i * 3)) = some (.int .i64 q.1) ∧ W.cell? (a.add (i * 3 + 1)) = some (.int .i64 q.2.1) ∧ W.cell? (a.add (i * 3 + 2)) = some (.int .i64 q.2.2) := by
      intro i
      by_cases hi' : i < len
      · obtain ⟨q, hq⟩ := hrow i hi'
        exact ⟨q, fun _ => hq⟩
      · exact ⟨(0, 0, 0), fun h => absurd h hi'⟩
    obtain ⟨f, hf'⟩ := Classical.axiomOfChoice hsk
    have hlf : ((List.range len).map f).length = len := by simp
    have hgf : ∀ j, j < len → ((List.range len).map f).getD j (0, 0, 0) = f j := fun j hj => by simp [List.getD_eq_getElem?_getD, List.getElem?_range hj]
    refine ⟨some a, cap, (List.range len).map f, by rw [hlf], ?_, .inr (by simp), ?_⟩
    · rcases Nat.eq_zero_or_pos len with h0 | h0
      · subst h0; exact .inl rfl
      · right
        obtain ⟨b, off, spot⟩ := a
        have hspot : spot = none := by simpa [Addr.add] using World.cell?_spot (hf' 0 h0).1
        subst hspot
        refine ⟨b, off, rfl, cell_lt (a := ⟨b, off, none⟩) (by have := (hf' 0 h0).1; rw [add_plain] at this; exact this), fun j hj => ?_⟩
        rw [hlf] at hj
        rw [hgf j hj]
        have := hf' j hj
        rw [add_plain, add_plain, add_plain] at this
        exact this
    · rw [hlf]
      have h1 := hsz ((len + (m - len)) * 24) (by
        rw [hx.1]
        simp only [DataW.weights, Tryz.underlying22, bytesC, List.length_map, List.length_range]
        exact List.mem_cons_self)
      have := reachBytes_lt
      omega

/-- readings of bits behind a slice -/
def In.row4 (e : In) : List Value := [.int .i64 e.se, .int .u32 e.sq, .int .u32 e.st, .slice e.v e.n e.c]
def RdAt (w : World) (A : Option Addr) (xs : List In) : Prop := xs = [] ∨ ∃ b off, A = some ⟨b, off, none⟩ ∧ b < w.heap.size ∧ ∀ i e, xs[i]? = some e → ∀ j, j < 4 → w.cell? ⟨b, off + i * 4 + j, none⟩ = e.row4[j]?
theorem RdAt.below {w w' : World} {A : Option Addr} {xs : List In} (h : RdAt w A xs) (hb : Below w.heap.size w w') : RdAt w' A xs := by
  refine h.imp id ?_
  rintro ⟨b, off, h3, h4, h5⟩
  exact ⟨b, off, h3, Nat.lt_of_lt_of_le h4 hb.size, fun i e he j hj => (hb.cell (p := ⟨b, off + i * 4 + j, none⟩) h4).trans (h5 i e he j hj)⟩
set_option maxRecDepth 100000 in
theorem open_readings {W : World} {r : Reach} {b0 : Nat} {v : Value} {d : DataW H} {p : List MemPlace} (hsz : ∀ m ∈ d.weights Tryz.prog 23, m ≤ reachBytes)
    (hv : Value.okWide Tryz.prog W r b0 23 v) (h : DataW.Trod enc Tryz.prog W 0 (fun _ => true) true 23 v d p) :
    ∃ (A : Option Addr) (c : Nat) (xs : List In), v = .slice A xs.length c ∧ RdAt W A xs ∧ ∀ e ∈ xs, InOk W e := by
  obtain ⟨a0, len, cap, rfl⟩ := okWide_slice Tryz.underlying23 hv
  obtain ⟨fuel, hf⟩ := h
  rcases open_slice Tryz.underlying23 hf with ⟨hcs, hx⟩ | ⟨a, len', cap', m, n, D, Pl, hcs, hb, hl, hm, hmm, hx, hi⟩
  · simp only [Value.cells, List.cons.injEq, Value.slice.injEq, and_true] at hcs
    obtain ⟨rfl, rfl, rfl⟩ := hcs
    exact ⟨none, 0, [], rfl, .inl rfl, fun e he => by simp at he⟩
  · simp only [Value.cells, List.cons.injEq, Value.slice.injEq, and_true] at hcs
    obtain ⟨rfl, rfl, rfl⟩ := hcs
    rw [show Tryz.prog.cellsOf 35 = 4 by kernel_rfl] at hi
    have hmc : m = cap := by rw [hmm]; simp
    simp only [Prod.mk.injEq] at hx
    have hrow : ∀ i, i < len → ∃ e : In, InOk W e ∧ ∀ j, j < 4 → W.cell? (a.add (i * 4 + j)) = e.row4[j]? := by
      intro i hi'
      obtain ⟨cs', hc, ht'⟩ := hi i (by omega)
      have hwt : ∀ k ∈ (D i).weights Tryz.prog 35, k ≤ reachBytes := by
        intro k hk
        refine hsz k ?_
        rw [hx.1]
        simp only [DataW.weights, Tryz.underlying23, List.mem_cons, List.mem_append]
        right; left
        exact weights_all (List.mem_map.2 ⟨i, List.mem_range.2 hi', rfl⟩) k hk
      obtain ⟨_, hcl, hat⟩ := World.cells?_some hc
      obtain ⟨se, sq, st, v, k, c, us, r1, r2, r3, r4, r5, r6, -⟩ := open_reading ht' hwt
      subst r1
      refine ⟨⟨0, se, sq, st, v, k, c, us⟩, ⟨r2, r3, r4, r5, r6⟩, fun j hj => ?_⟩
      have := hat j hj
      rw [Go.Deep.add_add] at this
      rw [this]
      rfl
    have hsk : ∀ i, ∃ e : In, i < len → InOk W e ∧ ∀ j, j < 4 → W.cell? (a.add (i * 4 + j)) = e.row4[j]? := by
      intro i
      by_cases hi' : i < len
      · obtain ⟨e, he⟩ := hrow i hi'
        exact ⟨e, fun _ => he⟩
      · exact ⟨⟨0, 0, 0, 0, none, 0, 0, []⟩, fun h => absurd h hi'⟩
    obtain ⟨f, hf'⟩ := Classical.axiomOfChoice hsk
    have hlf : ((List.range len).map f).length = len := by simp
    refine ⟨some a, cap, (List.range len).map f, by rw [hlf], ?_, fun e he => ?_⟩
    · rcases Nat.eq_zero_or_pos len with h0 | h0
      · subst h0; exact .inl rfl
      · right
        obtain ⟨b, off, spot⟩ := a
        have hspot : spot = none := by simpa [Addr.add] using World.cell?_spot ((hf' 0 h0).2 0 (by omega))
        subst hspot
        refine ⟨b, off, rfl, cell_lt (a := ⟨b, off, none⟩) (by have := (hf' 0 h0).2 0 (by omega); rw [add_plain] at this; exact this), fun i e he j hj => ?_⟩
        rw [List.getElem?_map] at he
        have hi' : i < len := by
          rcases Nat.lt_or_ge i len with h | h
          · exact h
          · rw [List.getElem?_eq_none (by simp; omega)] at he; simp at he
        rw [List.getElem?_range hi'] at he
        simp only [Option.map_some, Option.some.injEq] at he
        subst he
        have := (hf' i hi').2 j hj
        rw [add_plain] at this
        rw [Nat.add_assoc]
        exact this
    · obtain ⟨i, hi', rfl⟩ := List.mem_map.1 he
      exact (hf' i (List.mem_range.1 hi')).1
end
end Go.Proofs.YtebacmmfjadalaaGreat

namespace Go.Proofs.YtebacmmfjadalaaGreat
open Go Go.RowKit Go.ChangeShapes Go.WideShapes Go.Deep
section
variable {H : Type} {enc : TypeId × Value → H}
set_option maxRecDepth 100000 in
theorem open_steps {W : World} {r : Reach} {b0 : Nat} {v : Value} {d : DataW H} {p : List MemPlace} (hsz : ∀ m ∈ d.weights Tryz.prog 68, m ≤ reachBytes)
    (hv : Value.okWide Tryz.prog W r b0 68 v) (h : DataW.Trod enc Tryz.prog W 0 (fun _ => true) true 68 v d p) :
    ∃ xs : List In, InAt W v xs ∧ ∀ e ∈ xs, InOk W e := by
  obtain ⟨a0, len, cap, rfl⟩ := okWide_slice Tryz.underlying68 hv
  obtain ⟨fuel, hf⟩ := h
  rcases open_slice Tryz.underlying68 hf with ⟨hcs, hx⟩ | ⟨a, len', cap', m, n, D, Pl, hcs, hb, hl, hm, hmm, hx, hi⟩
  · simp only [Value.cells, List.cons.injEq, Value.slice.injEq, and_true] at hcs
    obtain ⟨rfl, rfl, rfl⟩ := hcs
    exact ⟨[], ⟨none, 0, rfl, .inl rfl⟩, fun e he => by simp at he⟩
  · simp only [Value.cells, List.cons.injEq, Value.slice.injEq, and_true] at hcs
    obtain ⟨rfl, rfl, rfl⟩ := hcs
    rw [show Tryz.prog.cellsOf 70 = 5 by kernel_rfl] at hi
    have hmc : m = cap := by rw [hmm]; simp
    simp only [Prod.mk.injEq] at hx
    have hrow : ∀ i, i < len → ∃ e : In, InOk W e ∧ ∀ j, j < 5 → W.cell? (a.add (i * 5 + j)) = e.row[j]? := by
      intro i hi'
      obtain ⟨cs', hc, ht'⟩ := hi i (by omega)
      have hwt : ∀ k ∈ (D i).weights Tryz.prog 70, k ≤ reachBytes := by
        intro k hk
        refine hsz k ?_
        rw [hx.1]
        simp only [DataW.weights, Tryz.underlying68, List.mem_cons, List.mem_append]
        right; left
        exact weights_all (List.mem_map.2 ⟨i, List.mem_range.2 hi', rfl⟩) k hk
      obtain ⟨ys, n', -, hy, hlen, hyl, hfld⟩ := DataW.trod_struct Tryz.underlying70 ht'
      obtain ⟨_, hcl, hat⟩ := World.cells?_some hc
      match cs', hcl with
      | [c0, c1, c2, c3, c4], _ =>
        have hy2 : ys.length = 2 := hyl
        have g0 := hfld 0 _ rfl
        have g1 := hfld 1 _ rfl
        obtain ⟨at_, e0, -, -⟩ := DataW.trod_int Tryz.underlying3 (show DataW.trod enc Tryz.prog W 0 (fun _ => true) true _ 3 [c0] = some _ from g0.trans (List.getElem?_eq_getElem (show 0 < ys.length by omega)))
        have h1 : DataW.trod enc Tryz.prog W 0 (fun _ => true) true n' 35 [c1, c2, c3, c4] = some (ys[1]'(by omega)) := g1.trans (List.getElem?_eq_getElem (show 1 < ys.length by omega))
        obtain ⟨se, sq, st, v, k, c, us, r1, r2, r3, r4, r5, r6, -⟩ := open_reading h1 (fun k hk => hwt k (by
          simp only [Prod.ext_iff] at hy
          rw [hy.1]
          simp only [DataW.weights, Tryz.underlying70]
          exact DataW.weights_mem_each (j := 1) (t := 35) (d := (ys[1]'(by omega)).1) rfl (by rw [List.getElem?_map, List.getElem?_eq_getElem (show 1 < ys.length by omega)]; rfl) k hk))
        simp only [List.cons.injEq, and_true] at e0 r1
        obtain ⟨rfl, rfl, rfl, rfl⟩ := r1
        subst e0
        refine ⟨⟨at_, se, sq, st, v, k, c, us⟩, ⟨r2, r3, r4, r5, r6⟩, fun j hj => ?_⟩
        have := hat j hj
        rw [Go.Deep.add_add] at this
        rw [this]
        rfl
    have hsk : ∀ i, ∃ e : In, i < len → InOk W e ∧ ∀ j, j < 5 → W.cell? (a.add (i * 5 + j)) = e.row[j]? := by
      intro i
      by_cases hi' : i < len
      · obtain ⟨e, he⟩ := hrow i hi'
        exact ⟨e, fun _ => he⟩
      · exact ⟨⟨0, 0, 0, 0, none, 0, 0, []⟩, fun h => absurd h hi'⟩
    obtain ⟨f, hf'⟩ := Classical.axiomOfChoice hsk
    have hlf : ((List.range len).map f).length = len := by simp
    refine ⟨(List.range len).map f, ⟨some a, cap, by rw [hlf], ?_⟩, fun e he => ?_⟩
    · rcases Nat.eq_zero_or_pos len with h0 | h0
      · subst h0
        exact .inl rfl
      · right
        obtain ⟨b, off, spot⟩ := a
        have hspot : spot = none := by simpa [Addr.add] using World.cell?_spot ((hf' 0 h0).2 0 (by omega))
        subst hspot
        refine ⟨b, off, rfl, ?_, fun i e he j hj => ?_⟩
        · exact cell_lt (a := ⟨b, off, none⟩) (by have := (hf' 0 h0).2 0 (by omega); rw [add_plain] at this; exact this)
        · rw [List.getElem?_map] at he
          have hi' : i < len := by
            rcases Nat.lt_or_ge i len with h | h
            · exact h
            · rw [List.getElem?_eq_none (by simp; omega)] at he; simp at he
          rw [List.getElem?_range hi'] at he
          simp only [Option.map_some, Option.some.injEq] at he
          subst he
          have := (hf' i hi').2 j hj
          rw [add_plain] at this
          rw [Nat.add_assoc]
          exact this
    · obtain ⟨i, hi', rfl⟩ := List.mem_map.1 he
      exact (hf' i (List.mem_range.1 hi')).1
end
end Go.Proofs.YtebacmmfjadalaaGreat
