/- What a joiner knows of its sensors, in a row of its own: an append of one. -/
import Derived.Test.YtebacmmfjadalaaJ13
namespace Go.Proofs.Ytebacmmfjadalaa
open Go Go.RowKit Go.WideShapes

theorem infoSn : (Try.prog.info? 83).map (fun i => (i.zero, i.size, i.bytes)) = some (some (.agg #[.int .i64 0, .int .i64 0, .int .i64 0, .int .i64 0, .bool false, .int .u32 0, .int .u64 0]), 7, 48) := by kernel_rfl
def Sn.row (s : Sn) : List Value := [.int .i64 s.o, .int .i64 s.n, .int .i64 s.d, .int .i64 s.last, .bool s.some, .int .u32 s.most, .int .u64 s.taken]
def flat7 : List Sn → List Value
  | [] => []
  | s :: l => s.row ++ flat7 l
theorem flat7_len : ∀ xs : List Sn, (flat7 xs).length = xs.length * 7
  | [] => rfl
  | e :: l => by simp [flat7, Sn.row, flat7_len l]; omega
theorem flat7_app : ∀ xs ys : List Sn, flat7 (xs ++ ys) = flat7 xs ++ flat7 ys
  | [], _ => rfl
  | e :: l, ys => by simp [flat7, flat7_app l ys]
theorem flat7_one : ∀ xs : List Sn, ∀ u ∈ flat7 xs, u.oneCell' = true
  | [], u, h => by simp [flat7] at h
  | e :: l, u, h => by
    rw [flat7, List.mem_append] at h
    rcases h with h | h
    · simp only [Sn.row, List.mem_cons, List.not_mem_nil, or_false] at h
      rcases h with rfl | rfl | rfl | rfl | rfl | rfl | rfl <;> rfl
    · exact flat7_one l u h
theorem flat7_get : ∀ (xs : List Sn) (i j : Nat) (e : Sn), xs[i]? = some e → j < 7 → (flat7 xs)[i * 7 + j]? = e.row[j]?
  | [], i, j, e, h, _ => by simp at h
  | x :: l, 0, j, e, h, hj => by
    simp at h
    subst h
    rw [flat7, Nat.zero_mul, Nat.zero_add, List.getElem?_append_left (by simpa [Sn.row] using hj)]
  | x :: l, i + 1, j, e, h, hj => by
    simp at h
    rw [flat7, List.getElem?_append_right (by simp [Sn.row]; omega), show (i + 1) * 7 + j - x.row.length = i * 7 + j by simp [Sn.row]; omega]
    exact flat7_get l i j e h hj
/-- sensors in a row of the call's own, in blocks from B on -/
def SRow (B : Nat) (w : World) (v : Value) (xs : List Sn) : Prop := w.ownsRow B 83 7 v xs.length (flat7 xs)
theorem SRow.below {B : Nat} {w w' : World} {v : Value} {xs : List Sn} (h : SRow B w v xs) (hb : Below w.heap.size w w') : SRow B w' v xs := by
  refine ⟨h.1, ?_⟩
  rcases h.2 with hn | ⟨g, cap, cur, hv, h1, h2, h3⟩
  · exact .inl hn
  · exact .inr ⟨g, cap, cur, hv, h1, (hb.block g (Array.getElem?_eq_some_iff.1 h2).1).trans h2, h3⟩
theorem SRow.slice {B : Nat} {w : World} {v : Value} {xs : List Sn} (h : SRow B w v xs) : ∃ A c, v = .slice A xs.length c := by
  rcases h.2 with ⟨hn, h0⟩ | ⟨g, cap, cur, hv, -⟩
  · exact ⟨none, 0, by rw [hn, h0]⟩
  · exact ⟨_, _, hv⟩
theorem SRow.own {B : Nat} {w : World} {v : Value} {xs : List Sn} (h : SRow B w v xs) {k : Nat} (hk : k < B) : v.ownBlock ≠ some k := by
  rcases h.2 with ⟨hn, h0⟩ | ⟨g, cap, cur, hv, h1, -⟩
  · rw [hn]; simp [Value.ownBlock]
  · rw [hv]
    simp only [Value.ownBlock]
    intro e
    injection e with e
    omega
theorem SRow.set {B : Nat} {w : World} {v : Value} {xs : List Sn} (h : SRow B w v xs) {p : Addr} (hk : p.block < B) (u : Value) : SRow B (w.setCell p u) v xs := by
  refine ⟨h.1, ?_⟩
  rcases h.2 with hn | ⟨g, cap, cur, hv, h1, h2, h3⟩
  · exact .inl hn
  · refine .inr ⟨g, cap, cur, hv, h1, ?_, h3⟩
    rw [← h2]
    simp only [World.setCell, Array.getElem?_modify]
    rw [if_neg (by omega)]
/-- a sensor in its place -/
theorem SRow.at {B : Nat} {w : World} {v : Value} {xs : List Sn} (h : SRow B w v xs) {i : Nat} {s : Sn} (hi : xs[i]? = some s) : ∃ g cap, v = .slice (some ⟨g, 0, none⟩) xs.length cap ∧ B ≤ g ∧ g < w.heap.size ∧ SnAt w g (i * 7) s ∧ (∀ j, w.frozen? ⟨g, j, none⟩ = false) := by
  have hil : i < xs.length := (List.getElem?_eq_some_iff.1 hi).1
  rcases h.2 with ⟨hn, h0⟩ | ⟨g, cap, cur, hv, h1, h2, h3⟩
  · omega
  · subst hv
    have hc : ∀ j, j < 7 → w.cell? ⟨g, i * 7 + j, none⟩ = s.row[j]? := fun j hj => (World.ownsRow.cellAt h (i * 7 + j) (by omega)).trans (flat7_get xs i j s hi hj)
    exact ⟨g, cap, rfl, h1, (Array.getElem?_eq_some_iff.1 h2).1, ⟨hc 0 (by omega), hc 1 (by omega), hc 2 (by omega), hc 3 (by omega), hc 4 (by omega), hc 5 (by omega), hc 6 (by omega)⟩, fun j => World.ownsRow.frozenAt h j⟩

theorem step_append_sn {B : Nat} {ops : Array Oper} {o : Oper} {a : Act} {w : World} {K : Act → World → Prop} {Q : Exit → Act → World → Prop} {E : Prop} (hg : o.guard = none) (s x : Operand) (t : TypeId)
    (hop : o.op = Op.call { callee := Callee.builtin Builtin.append, args := #[s, x], argTypes := #[t, t] }) (ht : Try.prog.underlying t = some (.slice 83)) (v : Value) (xs : List Sn) (e : Sn) (hs : a.eval s = v) (hr : SRow B w v xs) (hB : B ≤ w.heap.size) (hlen : xs.length ≤ 1099511627776)
    (ad : Addr) (c : Nat) (hx : a.eval x = .slice (some ad) 1 c) (hnews : ∀ j, j < 7 → w.cell? (ad.add j) = e.row[j]?)
    (hK : ∀ v' w', SRow B w' v' (xs ++ [e]) → w.grownBy w' v.ownBlock → (v'.ownBlock = v.ownBlock ∨ v'.ownBlock = some w.heap.size) → K (a.put o.dst v') w') :
    if Region.wanted o (yielded ops a.tmps) = true then Oper.wp Try.prog o a w K Q else E := by
  have hw : Region.wanted o (yielded ops a.tmps) = true := by simp [Region.wanted, hg]
  rw [if_pos hw]
  obtain ⟨i0, hi0, hz0, hz1, hz2⟩ := info_parts infoSn
  obtain ⟨v', w', hrun, hown, hgr, -, hat⟩ := run_append_own_at (P := Try.prog) w B t o.type 83 i0 _ 7 48 ht hi0 hz0 hz1 hz2 rfl (by omega) v xs.length (flat7 xs) hr
    ad 1 c (flat7 [e]) (flat7_len _) (fun j u hu => by
      have hj : j < 7 := by
        have := (List.getElem?_eq_some_iff.1 hu).1
        rwa [flat7_len] at this
      rw [hnews j hj]
      rwa [flat7, flat7, List.append_nil] at hu) (flat7_one _) (by simp only [maxLen]; omega) (by omega) hB
  unfold Oper.wp
  simp [execOp, hop, resolve, invoke, builtin, hs, hx, hrun, Result.andThen]
  refine hK v' w' ?_ hgr hat
  unfold SRow
  rw [List.length_append, flat7_app]
  exact hown
theorem sn_new (w : World) (a b c d : Int) (s : Bool) (m t : Int) (T : TypeId) : ∀ j, j < 7 → (w.alloc (.cells #[.int .i64 a, .int .i64 b, .int .i64 c, .int .i64 d, .bool s, .int .u32 m, .int .u64 t] T)).drew.cell? ((⟨w.heap.size, 0, none⟩ : Addr).add j) = (Sn.row ⟨a, b, c, d, s, m, t⟩)[j]? := by
  intro j hj
  rw [Go.WideShapes.add_plain, Nat.zero_add]
  rcases (by omega : j = 0 ∨ j = 1 ∨ j = 2 ∨ j = 3 ∨ j = 4 ∨ j = 5 ∨ j = 6) with rfl | rfl | rfl | rfl | rfl | rfl | rfl <;> simp [go_sem, Sn.row]
end Go.Proofs.Ytebacmmfjadalaa
