/- J19 in one text. -/
import Derived.Test.YtebacmmfjadalaaGreatP11

namespace Go.Proofs.YtebacmmfjadalaaGreat
open Go Go.RowKit

theorem JnAt.same {w w' : World} {x : Nat} {j : Jn} (h : JnAt w x j) (e : ∀ i, w'.cell? ⟨x, i, none⟩ = w.cell? ⟨x, i, none⟩) : JnAt w' x j := by
  obtain ⟨g0, g1, g2, g3, g4, g5, ⟨g6, g7, g8, g9, g10⟩, g11⟩ := h
  exact ⟨(e _).trans g0, (e _).trans g1, (e _).trans g2, (e _).trans g3, (e _).trans g4, (e _).trans g5, ⟨(e _).trans g6, (e _).trans g7, (e _).trans g8, (e _).trans g9, (e _).trans g10⟩, (e _).trans g11⟩
theorem SnAt.same {w w' : World} {b off : Nat} {s : Sn} (h : SnAt w b off s) (e : ∀ i, w'.cell? ⟨b, i, none⟩ = w.cell? ⟨b, i, none⟩) : SnAt w' b off s := by
  obtain ⟨g0, g1, g2, g3, g4, g5, g6⟩ := h
  exact ⟨(e _).trans g0, (e _).trans g1, (e _).trans g2, (e _).trans g3, (e _).trans g4, (e _).trans g5, (e _).trans g6⟩
/-- the lowest of a joiner's own blocks: its own, its sensors' (never the same) -/
def lo (x : Nat) (v : Value) : Nat := match v.ownBlock with | some g => if g = x then x + 1 else min x g | none => x
theorem SRow.ge {B : Nat} {w : World} {v : Value} {xs : List Sn} (h : SRow B w v xs) {g : Nat} (hg : v.ownBlock = some g) : B ≤ g := by
  rcases Nat.lt_or_ge g B with q | q
  · exact absurd hg (h.own q)
  · exact q
theorem SRow.ne {x : Nat} {W : World} {v : Value} {xs : List Sn} (h : SRow (lo x v) W v xs) : v.ownBlock ≠ some x := fun e => by
  have h1 := h.ge e
  unfold lo at h1
  rw [e] at h1
  simp only [if_true] at h1
  omega
theorem lo_le {x : Nat} {v : Value} (h : v.ownBlock ≠ some x) : lo x v ≤ x := by
  unfold lo
  split
  · rename_i g hg
    split
    · rename_i q
      rw [q] at hg
      exact absurd hg h
    · omega
  · omega
theorem lo_sen {x g : Nat} {v : Value} (h : v.ownBlock = some g) (hx : x ≠ g) : lo x v ≤ g := by
  unfold lo
  rw [h]
  simp only
  split
  · rename_i q; exact absurd q.symm hx
  · omega
theorem lo_of {x : Nat} {W : World} {v : Value} {xs : List Sn} (h : SRow (x + 1) W v xs) : lo x v = x := by
  unfold lo
  split
  · rename_i g hg
    have := h.ge hg
    split
    · omega
    · omega
  · rfl
theorem SRow.setN {B : Nat} {w : World} {v : Value} {xs : List Sn} (h : SRow B w v xs) {p : Addr} (hk : v.ownBlock ≠ some p.block) (u : Value) : SRow B (w.setCell p u) v xs := by
  refine ⟨h.1, ?_⟩
  rcases h.2 with hn | ⟨g, cap, cur, hv, h1, h2, h3⟩
  · exact .inl hn
  · refine .inr ⟨g, cap, cur, hv, h1, ?_, h3⟩
    rw [← h2]
    simp only [World.setCell, Array.getElem?_modify]
    rw [if_neg (by intro e; rw [hv] at hk; exact hk (by rw [e]; rfl))]
/-- a joiner at x, its sensors in sb, all that waits in blocks from B on; below both all is as it was in w -/
structure Inv (w W : World) (x B : Nat) (j : Jn) (sns : List Sn) (xs : List El) : Prop where
  jn : JnAt W x j
  sn : SRow (lo x j.sen) W j.sen sns
  row : Row B W j.wait xs
  fz : ∀ i, W.frozen? ⟨x, i, none⟩ = false
  big : B ≤ W.heap.size
  xB : x < B
  bel : Below (lo x j.sen) w W
theorem Inv.lox {w W : World} {x B : Nat} {j : Jn} {sns : List Sn} {xs : List El} (h : Inv w W x B j sns xs) : lo x j.sen ≤ x := lo_le h.sn.ne
theorem Inv.below {w W W' : World} {x B : Nat} {j : Jn} {sns : List Sn} {xs : List El} (h : Inv w W x B j sns xs) (hb : Below W.heap.size W W') : Inv w W' x B j sns xs := by
  have hx : x < W.heap.size := by have := h.big; have := h.xB; omega
  exact ⟨h.jn.same (fun i => hb.cell (by exact hx)), h.sn.below hb, h.row.below hb, fun i => (hb.frozen (p := ⟨x, i, none⟩) (by exact hx)).trans (h.fz i), Nat.le_trans h.big hb.size, h.xB, h.bel.trans (hb.mono (by have := h.lox; omega))⟩

theorem tkW_cell {w : World} {b off : Nat} {s : Sn} {q : Int} {a : Addr} (h : a.block ≠ b) : (tkW w b off s q).cell? a = w.cell? a := by
  have e : ∀ (W : World) (i : Nat) (v : Value), (W.setCell ⟨b, i, none⟩ v).cell? a = W.cell? a := fun W i v => World.cell?_setCell_other _ _ _ _ (by rintro rfl; exact h rfl)
  unfold tkW
  split
  · exact e _ _ _
  · exact (e _ _ _).trans ((e _ _ _).trans ((e _ _ _).trans (e _ _ _)))
theorem tkW_frozen {w : World} {b off : Nat} {s : Sn} {q : Int} (a : Addr) : (tkW w b off s q).frozen? a = w.frozen? a := by
  have e : ∀ (W : World) (i : Nat) (v : Value), (W.setCell ⟨b, i, none⟩ v).frozen? a = W.frozen? a := fun W i v => by simp [go_sem]
  unfold tkW
  split
  · exact e _ _ _
  · exact (e _ _ _).trans ((e _ _ _).trans ((e _ _ _).trans (e _ _ _)))
theorem tkW_size (w : World) (b off : Nat) (s : Sn) (q : Int) : (tkW w b off s q).heap.size = w.heap.size := by
  have e : ∀ (W : World) (i : Nat) (v : Value), (W.setCell ⟨b, i, none⟩ v).heap.size = W.heap.size := fun W i v => by simp [World.setCell]
  unfold tkW
  split
  · exact e _ _ _
  · exact (e _ _ _).trans ((e _ _ _).trans ((e _ _ _).trans (e _ _ _)))
theorem tkW_below {w W : World} {x b off : Nat} {s : Sn} {q : Int} (h : Below x w W) (hb : x ≤ b) : Below x w (tkW W b off s q) := by
  unfold tkW
  split
  · exact (h.setCell (p := ⟨b, off + 6, none⟩) hb _).drew
  · exact ((((h.setCell (p := ⟨b, off + 6, none⟩) hb _).setCell (p := ⟨b, off + 6, none⟩) hb _).setCell (p := ⟨b, off + 5, none⟩) hb _).setCell (p := ⟨b, off + 4, none⟩) hb _).drew
theorem tkW_row {B : Nat} {W : World} {b off : Nat} {s : Sn} {q : Int} {v : Value} {xs : List El} (h : Row B W v xs) (hb : b < B) : Row B (tkW W b off s q) v xs := by
  unfold tkW
  split
  · exact h.set (p := ⟨b, off + 6, none⟩) hb _
  · exact (((h.set (p := ⟨b, off + 6, none⟩) hb _).set (p := ⟨b, off + 6, none⟩) hb _).set (p := ⟨b, off + 5, none⟩) hb _).set (p := ⟨b, off + 4, none⟩) hb _
theorem Inv.take {w W : World} {x B sb n cap i : Nat} {j : Jn} {sns : List Sn} {xs : List El} {s : Sn} (h : Inv w W x B j sns xs) (hv : j.sen = .slice (some ⟨sb, 0, none⟩) n cap) (hs : sns[i]? = some s) (hsb : sb < B) (hx : x ≠ sb) (q : Int) :
    Inv w (tkW W sb (i * 7) s q) x B j (sns.set i (tk s q)) xs := by
  refine ⟨h.jn.same (fun k => tkW_cell (by show x ≠ sb; omega)), ?_, tkW_row h.row hsb, fun k => (tkW_frozen _).trans (h.fz k), by rw [tkW_size]; exact h.big, h.xB, tkW_below h.bel (lo_sen (by rw [hv]; rfl) hx)⟩
  have h1 := h.sn
  rw [hv] at h1 ⊢
  exact h1.take hs q
theorem Inv.last {w W : World} {x B sb n cap i : Nat} {j : Jn} {sns : List Sn} {xs : List El} {s : Sn} (h : Inv w W x B j sns xs) (hv : j.sen = .slice (some ⟨sb, 0, none⟩) n cap) (hs : sns[i]? = some s) (hsb : sb < B) (hx : x ≠ sb) (m : Int) :
    Inv w (W.setCell ⟨sb, i * 7 + 3, none⟩ (.int .i64 m)) x B j (sns.set i { s with last := m }) xs := by
  refine ⟨h.jn.same (fun k => World.cell?_setCell_other _ _ _ _ (by intro e; injection e with e _ _; omega)), ?_, h.row.set (p := ⟨sb, i * 7 + 3, none⟩) hsb _, fun k => ?_, by simp [World.setCell]; exact h.big, h.xB, h.bel.setCell (p := ⟨sb, i * 7 + 3, none⟩) (lo_sen (by rw [hv]; rfl) hx) _⟩
  · have h1 := h.sn
    rw [hv] at h1 ⊢
    exact h1.st (j := 3) hs rfl (by omega)
  · rw [← h.fz k]; simp [go_sem]
theorem Inv.ct {w W : World} {x B : Nat} {j : Jn} {sns : List Sn} {xs : List El} (h : Inv w W x B j sns xs) (m : Int) : Inv w (W.setCell ⟨x, 6, none⟩ (.int .i64 m)) x B { j with ct := m } sns xs := by
  obtain ⟨g0, g1, g2, g3, g4, g5, ⟨g6, g7, g8, g9, g10⟩, g11⟩ := h.jn
  refine ⟨?_, h.sn.setN (p := ⟨x, 6, none⟩) h.sn.ne _, h.row.set (p := ⟨x, 6, none⟩) h.xB _, fun k => ?_, by simp [World.setCell]; exact h.big, h.xB, h.bel.setCell (p := ⟨x, 6, none⟩) h.lox _⟩
  · simp [JnAt, go_sem, g0, g1, g2, g3, g4, g5, g6, g7, g8, g9, g10, g11]
  · rw [← h.fz k]; simp [go_sem]

theorem Row.old {B : Nat} {w : World} {v : Value} {xs : List El} (h : Row B w v xs) : v.ownBlock ≠ some w.heap.size := by
  rcases h.2 with ⟨hn, h0⟩ | ⟨g, cap, cur, hv, h1, h2, h3⟩
  · rw [hn]; simp [Value.ownBlock]
  · rw [hv]
    have := (Array.getElem?_eq_some_iff.1 h2).1
    simp only [Value.ownBlock]
    intro e
    injection e with e
    omega
theorem Row.heap {B : Nat} {w w' : World} {v : Value} {xs : List El} (h : Row B w v xs) (e : ∀ k, B ≤ k → k < w.heap.size → w'.heap[k]? = w.heap[k]?) : Row B w' v xs := by
  refine ⟨h.1, ?_⟩
  rcases h.2 with hn | ⟨g, cap, cur, hv, h1, h2, h3⟩
  · exact .inl hn
  · exact .inr ⟨g, cap, cur, hv, h1, (e g h1 (Array.getElem?_eq_some_iff.1 h2).1).trans h2, h3⟩
theorem SRow.heap {B : Nat} {w w' : World} {v : Value} {xs : List Sn} (h : SRow B w v xs) (e : ∀ k, B ≤ k → v.ownBlock = some k → k < w.heap.size → w'.heap[k]? = w.heap[k]?) : SRow B w' v xs := by
  refine ⟨h.1, ?_⟩
  rcases h.2 with hn | ⟨g, cap, cur, hv, h1, h2, h3⟩
  · exact .inl hn
  · exact .inr ⟨g, cap, cur, hv, h1, (e g h1 (by rw [hv]; rfl) (Array.getElem?_eq_some_iff.1 h2).1).trans h2, h3⟩
theorem Inv.push {w W W' : World} {x B sb n cap : Nat} {j : Jn} {sns : List Sn} {xs ys : List El} {v : Value} (h : Inv w W x B j sns xs) (hv : j.sen = .slice (some ⟨sb, 0, none⟩) n cap) (hsb : sb < B) (hxsb : x ≠ sb) (hF : Fr W W' j.wait.ownBlock ⟨x, 2, none⟩) (hr : Row B W' v ys) (hc : W'.cell? ⟨x, 2, none⟩ = some v) :
    Inv w W' x B { j with wait := v } sns ys := by
  have hx : x < W.heap.size := by have := h.big; have := h.xB; omega
  have hown : ∀ k, k < B → some k ≠ j.wait.ownBlock := fun k hk e => h.row.own hk e.symm
  have e : ∀ i, i ≠ 2 → W'.cell? ⟨x, i, none⟩ = W.cell? ⟨x, i, none⟩ := fun i hi => hF.cell ⟨x, i, none⟩ rfl (by intro e; injection e with _ e _; exact hi e)
  obtain ⟨g0, g1, g2, g3, g4, g5, ⟨g6, g7, g8, g9, g10⟩, g11⟩ := h.jn
  refine ⟨⟨(e 0 (by omega)).trans g0, (e 1 (by omega)).trans g1, hc, (e 3 (by omega)).trans g3, (e 4 (by omega)).trans g4, (e 5 (by omega)).trans g5, ⟨(e 6 (by omega)).trans g6, (e 7 (by omega)).trans g7, (e 8 (by omega)).trans g8, (e 9 (by omega)).trans g9, (e 10 (by omega)).trans g10⟩, (e 11 (by omega)).trans g11⟩,
    h.sn.heap (fun k h1 h2 h3 => ?_), hr, fun i => (hF.frozen ⟨x, i, none⟩ rfl).trans (h.fz i), Nat.le_trans h.big hF.size, h.xB, ?_⟩
  · rw [hv] at h2
    injection h2 with h2
    subst h2
    exact hF.block _ h3 (fun e => hxsb (Eq.symm e)) (hown sb hsb)
  · have hxB := h.xB
    have hlo := h.lox
    exact ⟨hF.os.trans h.bel.os, hF.tape.trans h.bel.tape, hF.output.trans h.bel.output, Nat.le_trans h.bel.size hF.size, fun k (hk : k < lo x j.sen) => (hF.block k (by omega) (by intro e; have : k = x := e; omega) (hown k (by omega))).trans (h.bel.block k hk)⟩
theorem Inv.ch {w W W' : World} {x B : Nat} {j j' : Jn} {sns : List Sn} {xs : List El} {ok : Addr → Prop} (h : Inv w W x B j sns xs) (hC : Ch W W' none ok) (hok : ∀ a, ok a → a.block = x) (hj : JnAt W' x j') (e1 : j'.sen = j.sen) (e2 : j'.wait = j.wait) : Inv w W' x B j' sns xs := by
  have hxB := h.xB
  have hbig := h.big
  have hb : ∀ k, k < W.heap.size → k ≠ x → W'.heap[k]? = W.heap[k]? := fun k h1 h2 => hC.block k h1 (by simp) (fun i hi => h2 (hok _ hi))
  refine ⟨hj, ?_, ?_, fun i => (hC.frozen ⟨x, i, none⟩ (by show x < _; omega) (by simp)).trans (h.fz i), Nat.le_trans hbig hC.size, hxB, ?_⟩
  · rw [e1]
    exact h.sn.heap (fun k h1 h2 h3 => hb k h3 (fun q => h.sn.ne (by rw [← q]; exact h2)))
  · rw [e2]
    exact h.row.heap (fun k h1 h2 => hb k h2 (by omega))
  · have hlo := h.lox
    rw [e1]
    exact ⟨hC.os.trans h.bel.os, hC.tape.trans h.bel.tape, hC.output.trans h.bel.output, Nat.le_trans h.bel.size hC.size, fun k hk => (hb k (by omega) (by omega)).trans (h.bel.block k hk)⟩
theorem two_other {W : World} {sb i x k bx m : Nat} {u v : Value} (h1 : bx ≠ sb) (h2 : bx ≠ x) : ((W.setCell ⟨sb, i, none⟩ u).setCell ⟨x, k, none⟩ v).cell? ⟨bx, m, none⟩ = W.cell? ⟨bx, m, none⟩ :=
  (World.cell?_setCell_other _ _ _ _ (by intro e; injection e with e _ _; exact h2 e.symm)).trans (World.cell?_setCell_other _ _ _ _ (by intro e; injection e with e _ _; exact h1 e.symm))
/-- what is known of a sensor behind a reading that was taken -/
def tkL (s : Sn) (q cnt : Int) : Sn := { tk s q with last := max s.last cnt }
theorem Inv.due {w W W' : World} {x B sb n cap : Nat} {j : Jn} {sns : List Sn} {xs ys : List El} {v : Value} {m : Int} (h : Inv w W x B j sns xs) (hv : j.sen = .slice (some ⟨sb, 0, none⟩) n cap) (hsb : sb < B) (hxsb : x ≠ sb) (hC : Ch W W' j.wait.ownBlock (fun a => a = ⟨x, 2, none⟩ ∨ a = ⟨x, 10, none⟩)) (hr : Row B W' v ys)
    (hc : W'.cell? ⟨x, 2, none⟩ = some v) (hm : W'.cell? ⟨x, 10, none⟩ = some (.int .i64 m)) : Inv w W' x B { j with wait := v, cs := m } sns ys := by
  have hx : x < W.heap.size := by have := h.big; have := h.xB; omega
  have hown : ∀ k, k < B → some k ≠ j.wait.ownBlock := fun k hk e => h.row.own hk e.symm
  have e : ∀ i, i ≠ 2 → i ≠ 10 → W'.cell? ⟨x, i, none⟩ = W.cell? ⟨x, i, none⟩ := fun i hi hi2 => hC.cell ⟨x, i, none⟩ hx (hown x h.xB) (by
    rintro (e | e)
    · injection e with _ e _; exact hi e
    · injection e with _ e _; exact hi2 e)
  have hb : ∀ k, k < W.heap.size → k ≠ x → some k ≠ j.wait.ownBlock → W'.heap[k]? = W.heap[k]? := fun k h1 h2 h3 => hC.block k h1 h3 (by
    rintro i (e | e)
    · injection e with e _ _; exact h2 e
    · injection e with e _ _; exact h2 e)
  obtain ⟨g0, g1, g2, g3, g4, g5, ⟨g6, g7, g8, g9, g10⟩, g11⟩ := h.jn
  refine ⟨⟨(e 0 (by omega) (by omega)).trans g0, (e 1 (by omega) (by omega)).trans g1, hc, (e 3 (by omega) (by omega)).trans g3, (e 4 (by omega) (by omega)).trans g4, (e 5 (by omega) (by omega)).trans g5, ⟨(e 6 (by omega) (by omega)).trans g6, (e 7 (by omega) (by omega)).trans g7, (e 8 (by omega) (by omega)).trans g8, (e 9 (by omega) (by omega)).trans g9, hm⟩, (e 11 (by omega) (by omega)).trans g11⟩,
    h.sn.heap (fun k h1 h2 h3 => ?_), hr, fun i => (hC.frozen ⟨x, i, none⟩ hx (hown x h.xB)).trans (h.fz i), Nat.le_trans h.big hC.size, h.xB, ?_⟩
  · rw [hv] at h2
    injection h2 with h2
    subst h2
    exact hb _ h3 (fun e => hxsb e.symm) (hown sb hsb)
  · have hxB := h.xB
    have hlo := h.lox
    exact ⟨hC.os.trans h.bel.os, hC.tape.trans h.bel.tape, hC.output.trans h.bel.output, Nat.le_trans h.bel.size hC.size, fun k (hk : k < lo x j.sen) => (hb k (by omega) (by omega) (hown k (by omega))).trans (h.bel.block k hk)⟩
theorem timeV_bd (o n d c : Int) : -1125899906842624 ≤ Ck.timeV o n d c ∧ Ck.timeV o n d c ≤ 1125899906842624 := by
  unfold Ck.timeV
  split
  · rename_i h
    exact Ck.inT_iff.1 (Ck.timeOk_iff.1 h).2.2
  · omega

set_option maxRecDepth 100000 in
set_option maxHeartbeats 8000000 in
theorem push_first (x B sb scap sn : Nat) (j : Jn) (sns : List Sn) (xs : List El) (n se : Nat) (sq st cnt t : Int) (s : Sn) (w0 w : World) (hi : Inv w0 w x B j sns xs) (hsen : j.sen = .slice (some ⟨sb, 0, none⟩) sn scap) (hsn : sns.length = sn) (hsb : sb < B) (hs : sns[se]? = some s) (hse : se < 64)
    (hn : xs.length = n) (hn2 : n < 4096) (hv : ∀ a ∈ xs, a.n = 0) (u1 : Ck.unwV s.last st = cnt) (u2 : Ck.unwE s.last st = 0) (t1 : Ck.timeV s.o s.n s.d cnt = t) (t2 : Ck.timeE s.o s.n s.d cnt = 0) (st0 : 0 ≤ st) (st1 : st ≤ 4294967295) (q0 : 0 ≤ sq) (q1 : sq ≤ 4294967295)
    (m0 : 0 ≤ s.most) (m1 : s.most ≤ 4294967295) (hnew : (s.some && decide (sq ≤ s.most)) = false) (hsm : j.some = false) (c0 : 0 ≤ j.ct) (c1 : j.ct ≤ 4611686018427387904) (d0 : 0 ≤ j.cs) (d1 : j.cs ≤ 4611686018427387904) (b3 : -2251799813685248 ≤ j.top) (b4 : j.top ≤ 2251799813685248) (b5 : 0 ≤ j.win) (b6 : j.win ≤ 2251799813685248) :
    Calls Tryz.prog 12 #[.pointer (some ⟨x, 0, none⟩), .agg #[.int .i64 se, .int .u32 sq, .int .u32 st, .slice none 0 0]] w fun e w' => ∃ ov D v', e = .returned (.tuple #[.int .i64 1, ov, .int .i64 0]) ∧ Row D w' ov (dueL headC (n + 2) (upL headC (n + 1) (xs ++ [⟨t, se, sq, st, none, 0, 0, []⟩]) n) (riseH j t) []).1 ∧
      Inv w0 w' x B { riseJ j t with ct := j.ct + 1, wait := v', cs := j.cs + (dueL headC (n + 2) (upL headC (n + 1) (xs ++ [⟨t, se, sq, st, none, 0, 0, []⟩]) n) (riseH j t) []).1.length } (sns.set se (tkL s sq cnt)) (dueL headC (n + 2) (upL headC (n + 1) (xs ++ [⟨t, se, sq, st, none, 0, 0, []⟩]) n) (riseH j t) []).2 := by
  obtain ⟨g, cap, hgv, hg1, hg2, hsa, hsz⟩ := hi.sn.at hs
  rw [hsen] at hgv
  injection hgv with e1 e2 e3
  injection e1 with e1
  injection e1 with e1 _ _
  subst e1 e3 e2
  have hHead := Lib.hid (And.intro hsen (And.intro hsn hs))
  have HI := Lib.hid hi
  have HU := Lib.hid (And.intro (And.intro u1 u2) (And.intro t1 t2))
  have hxw : x < w.heap.size := by have := hi.big; have := hi.xB; omega
  obtain ⟨S, win, V, sm, top, hor, ct, cd, co, cl, cs⟩ := j
  obtain ⟨so, sn', sd, slast, ssm, smost, staken⟩ := s
  simp only at hsen hnew hsm c0 c1 m0 m1 d0 d1 b3 b4 b5 b6
  subst hsen hsm
  have HSA := Lib.hid hsa
  have HVO := Lib.hid hi.row.old
  have hb1 := (Below.refl w.heap.size w).alloc (Nat.le_refl _) (.cells #[.int .i64 se, .int .u32 sq, .int .u32 st, .slice none 0 0] 38)
  have hi1 := hi.below hb1
  have HI1 := Lib.hid hi1
  have HB1 := Lib.hid hb1
  have hse0 : (0 : Int) ≤ (se : Int) := by omega
  clear hi hsa u1 u2 t1 t2 hb1 hs hsn
  go_enter Tryz.func12, Tryz.ntmps12
  go_wp2_with fail
  refine (ready_any x true _ hi1.jn.2.2.2.2.2.2.2).mono ?_
  rintro e w1 ⟨rfl, rfl⟩
  go_wp2_with fail
  refine (pcheck_nil se sq st _ (by omega) (by omega)).mono ?_
  rintro e w2 ⟨rfl, hb2⟩
  have HI2 := Lib.hid (hi1.below hb2)
  have hbb := HB1.out.trans (hb2.mono HB1.out.size)
  have r0 : w2.cell? ⟨w.heap.size, 0, none⟩ = some (.int .i64 se) := (hb2.cell (p := ⟨w.heap.size, 0, none⟩) (by simp)).trans (by simp [go_sem])
  have r1 : w2.cell? ⟨w.heap.size, 1, none⟩ = some (.int .u32 sq) := (hb2.cell (p := ⟨w.heap.size, 1, none⟩) (by simp)).trans (by simp [go_sem])
  have r2 : w2.cell? ⟨w.heap.size, 2, none⟩ = some (.int .u32 st) := (hb2.cell (p := ⟨w.heap.size, 2, none⟩) (by simp)).trans (by simp [go_sem])
  have r3 : w2.cell? ⟨w.heap.size, 3, none⟩ = some (.slice none 0 0) := (hb2.cell (p := ⟨w.heap.size, 3, none⟩) (by simp)).trans (by simp [go_sem])
  have HSA2 := Lib.hid (HSA.out.same (fun i => hbb.cell (p := ⟨sb, i, none⟩) hg2))
  have HW2 := Lib.hid (And.intro hbb.size (fun i => (hbb.frozen (p := ⟨sb, i, none⟩) hg2).trans (hsz i)))
  have hbx : w.heap.size < w2.heap.size := Nat.lt_of_lt_of_le (by simp) hb2.size
  obtain ⟨g0, g1, g2, g3, g4, g5, ⟨g6, g7, g8, g9, g10⟩, g11⟩ := HI2.out.jn
  simp only at g0 g1 g2 g3 g4 g5 g6 g7 g8 g9 g10 g11
  obtain ⟨s0, s1, s2, s3, s4, s5, s6⟩ := HSA2.out
  simp only at s0 s1 s2 s3 s4 s5 s6
  have hsel : se < sns.length := (List.getElem?_eq_some_iff.1 hHead.out.2.2).1
  have hsel' : (se : Int) < (sns.length : Int) := by omega
  clear hi1 hb2 hbb HI1 HB1 HSA hsz
  generalize w.heap.size = bx at *
  go_wp2_with fail
  go_region
  all_goals go_wp2_with fail
  go_region
  all_goals go_wp2_with fail
  have HUN := Lib.hid (fun W => unwrap_any slast st W st0 st1)
  rw [HU.out.1.1, HU.out.1.2] at HUN
  go_region_held3 (fun w' => w'.cell? ⟨sb, se * 7 + 3, none⟩ = some (.int .i64 slast) ∧ w'.cell? ⟨bx, 2, none⟩ = some (.int .u32 st))
    (first | exact ⟨s3, r2⟩)
    (first | (go_at_call 31; refine (HUN.out _).mono ?_; rintro e w3 ⟨rfl, rfl⟩))
  have HTB := timeV_bd so sn' sd cnt
  rw [HU.out.2.1] at HTB
  obtain ⟨ht0, ht1⟩ := HTB
  have HTI := Lib.hid (fun W => time_any so sn' sd cnt W)
  rw [HU.out.2.1, HU.out.2.2] at HTI
  unfold clk at HTI
  go_wp2_with fail
  refine (HTI.out _).mono ?_
  rintro e w3 ⟨rfl, hb3⟩
  have hb23 : Below w2.heap.size w2 w3 := (Below.refl w2.heap.size w2).drew.drew.drew.trans hb3
  have HI3 := Lib.hid (HI2.out.below hb23)
  have HSA3 := Lib.hid (HSA2.out.same (fun i => hb23.cell (p := ⟨sb, i, none⟩) (Nat.lt_of_lt_of_le hsb HI2.out.big)))
  have HZS := Lib.hid (fun i => (hb23.frozen (p := ⟨sb, i, none⟩) (Nat.lt_of_lt_of_le hsb HI2.out.big)).trans (HW2.out.2 i))
  have p0 := (hb23.cell (p := ⟨bx, 0, none⟩) hbx).trans r0
  have p1 := (hb23.cell (p := ⟨bx, 1, none⟩) hbx).trans r1
  have p2 := (hb23.cell (p := ⟨bx, 2, none⟩) hbx).trans r2
  have p3 := (hb23.cell (p := ⟨bx, 3, none⟩) hbx).trans r3
  have hbx3 := Nat.lt_of_lt_of_le hbx hb23.size
  have HAG := Lib.hid (age_any sb (se * 7) _ sq w3 HSA3.out)
  simp only at HAG
  rw [hnew] at HAG
  have HNEW := Lib.hid hnew
  clear HTI HUN hb3 hb23 r0 r1 r2 r3 g0 g1 g2 g3 g4 g5 g6 g7 g8 g9 g10 g11 s0 s1 s2 s3 s4 s5 s6 HI2 HSA2 HW2 hnew
  go_wp2_with fail
  refine HAG.out.mono ?_
  rintro e w4 ⟨rfl, rfl⟩
  obtain ⟨g0, g1, g2, g3, g4, g5, ⟨g6, g7, g8, g9, g10⟩, g11⟩ := HI3.out.jn
  simp only at g0 g1 g2 g3 g4 g5 g6 g7 g8 g9 g10 g11
  obtain ⟨A, c, hV⟩ := HI3.out.row.slice
  simp only at hV
  rw [hn] at hV
  subst hV
  have hn3 : (n : Int) < 4096 := by omega
  clear HAG
  go_wp2_with fail
  have hxsb : x ≠ sb := fun e => HI.out.sn.ne (congrArg some e.symm)
  have hg2' : sb < bx := hg2
  have HI5 := Lib.hid (((HI3.out.below ((Below.refl w3.heap.size w3).drew)).take rfl hHead.out.2.2 hsb hxsb sq))
  have hd : Below w3.heap.size w3 w3.drew := (Below.refl w3.heap.size w3).drew
  have HTK := Lib.hid (take_sets sb (se * 7) _ sq w3.drew (HSA3.out.same (fun i => rfl)) (fun i => HZS.out i) q0 (by omega) m0 (by simp only; omega) (fun hh1 hh2 => by
    have := HNEW.out
    simp only at hh1 hh2
    rw [hh1] at this
    simp at this
    omega))
  refine HTK.out.mono ?_
  rintro e w5 ⟨rfl, rfl⟩
  have y0 := (tkW_cell (w := w3.drew) (b := sb) (off := se * 7) (s := ⟨so, sn', sd, slast, ssm, smost, staken⟩) (q := sq) (a := ⟨bx, 0, none⟩) (by show bx ≠ sb; omega)).trans p0
  have y1 := (tkW_cell (w := w3.drew) (b := sb) (off := se * 7) (s := ⟨so, sn', sd, slast, ssm, smost, staken⟩) (q := sq) (a := ⟨bx, 1, none⟩) (by show bx ≠ sb; omega)).trans p1
  have y2 := (tkW_cell (w := w3.drew) (b := sb) (off := se * 7) (s := ⟨so, sn', sd, slast, ssm, smost, staken⟩) (q := sq) (a := ⟨bx, 2, none⟩) (by show bx ≠ sb; omega)).trans p2
  have y3 := (tkW_cell (w := w3.drew) (b := sb) (off := se * 7) (s := ⟨so, sn', sd, slast, ssm, smost, staken⟩) (q := sq) (a := ⟨bx, 3, none⟩) (by show bx ≠ sb; omega)).trans p3
  have hbx5 : bx < (tkW w3.drew sb (se * 7) ⟨so, sn', sd, slast, ssm, smost, staken⟩ sq).heap.size := by rw [tkW_size]; exact hbx3
  clear HTK g0 g1 g2 g3 g4 g5 g6 g7 g8 g9 g10 g11 p0 p1 p2 p3 hbx3 hd HSA3 HZS HI3
  generalize tkW w3.drew sb (se * 7) ⟨so, sn', sd, slast, ssm, smost, staken⟩ sq = w5 at *
  have hsI : (sns.set se (tk ⟨so, sn', sd, slast, ssm, smost, staken⟩ sq))[se]? = some (tk ⟨so, sn', sd, slast, ssm, smost, staken⟩ sq) := by rw [List.getElem?_set_self hsel]
  have hlast : (tk ⟨so, sn', sd, slast, ssm, smost, staken⟩ sq).last = slast := by unfold tk; split <;> rfl
  obtain ⟨s', hs'⟩ : ∃ s', tk ⟨so, sn', sd, slast, ssm, smost, staken⟩ sq = s' := ⟨_, rfl⟩
  rw [hs'] at HI5 hsI hlast
  have HTKE := Lib.hid hs'
  obtain ⟨g', cap', hgv', _, _, hsa', hsz'⟩ := HI5.out.sn.at hsI
  have e1 : sb = g' := by injection hgv' with e1; injection e1 with e1; injection e1
  subst e1
  clear hgv'
  have s3 := hsa'.2.2.2.1
  rw [hlast] at s3
  have HSI := Lib.hid hsI
  have g6 := HI5.out.jn.2.2.2.2.2.2.1.1
  simp only at g6
  have g6f := HI5.out.fz 6
  have hsbx : ¬ sb = x := by omega
  have hxsb' : ¬ x = sb := by omega
  have HHL := Lib.hid hlast
  have s3f := hsz' (se * 7 + 3)
  clear hs' hsI hlast hsa' HNEW hsz'
  go_wp2_with fail
  have HI6 := Lib.hid ((HI5.out.last rfl HSI.out hsb hxsb (max slast cnt)).ct (ct + 1))
  have hbsb : bx ≠ sb := by omega
  have hbxx : bx ≠ x := by omega
  have z0 := (two_other (W := w5) (i := se * 7 + 3) (k := 6) (m := 0) (u := .int .i64 (max slast cnt)) (v := .int .i64 (ct + 1)) hbsb hbxx).trans y0
  have z1 := (two_other (W := w5) (i := se * 7 + 3) (k := 6) (m := 1) (u := .int .i64 (max slast cnt)) (v := .int .i64 (ct + 1)) hbsb hbxx).trans y1
  have z2 := (two_other (W := w5) (i := se * 7 + 3) (k := 6) (m := 2) (u := .int .i64 (max slast cnt)) (v := .int .i64 (ct + 1)) hbsb hbxx).trans y2
  have z3 := (two_other (W := w5) (i := se * 7 + 3) (k := 6) (m := 3) (u := .int .i64 (max slast cnt)) (v := .int .i64 (ct + 1)) hbsb hbxx).trans y3
  have hbx6 : bx < ((w5.setCell ⟨sb, se * 7 + 3, none⟩ (.int .i64 (max slast cnt))).setCell ⟨x, 6, none⟩ (.int .i64 (ct + 1))).heap.size := by simp [World.setCell]; exact hbx5
  clear y0 y1 y2 y3 s3 s3f g6 g6f hbx5 HI5
  generalize (w5.setCell ⟨sb, se * 7 + 3, none⟩ (.int .i64 (max slast cnt))).setCell ⟨x, 6, none⟩ (.int .i64 (ct + 1)) = w6 at *
  obtain ⟨e0, he0⟩ : ∃ y : El, (⟨t, se, sq, st, none, 0, 0, []⟩ : El) = y := ⟨_, rfl⟩
  have hval : e0.val = .agg #[.int .i64 t, .int .i64 se, .int .u32 sq, .int .u32 st, .slice none 0 0] := by rw [← he0]; rfl
  have hcn : ∀ a ∈ xs ++ [e0], a.n = 0 := by
    intro a ha
    rcases List.mem_append.1 ha with h | h
    · exact hv a h
    · rw [List.mem_singleton.1 h, ← he0]
  have HPU := Lib.hid (fun W (hI : Inv w0 W x B ⟨.slice (some ⟨sb, 0, none⟩) sns.length scap, win, .slice A n c, false, top, hor, ct + 1, cd, co, cl, cs⟩ ((sns.set se s').set se { s' with last := max slast cnt }) xs) =>
    hpush_any headC B ⟨x, 2, none⟩ (.slice A n c) xs n e0 W hI.row hn hI.big hI.jn.2.2.1 (hI.fz 2) hI.xB (by omega) (fun a ha b hb W' _ => order_nil a b W' (hcn a ha)))
  rw [hval] at HPU
  have HE0 := Lib.hid (And.intro he0 hcn)
  have hvo : ¬ (Value.slice A n c).ownBlock = some bx := HVO.out
  clear he0 hval hcn HVO
  have HVB := Lib.hid hvo
  clear hvo
  go_region_held3 (fun w' => w'.cell? ⟨bx, 0, none⟩ = some (.int .i64 se) ∧ w'.cell? ⟨bx, 1, none⟩ = some (.int .u32 sq) ∧ w'.cell? ⟨bx, 2, none⟩ = some (.int .u32 st) ∧ w'.cell? ⟨bx, 3, none⟩ = some (.slice none 0 0))
    (first | exact ⟨z0, z1, z2, z3⟩ | exact ⟨(hb7.cell (by exact hbx6)).trans z0, (hb7.cell (by exact hbx6)).trans z1, (hb7.cell (by exact hbx6)).trans z2, (hb7.cell (by exact hbx6)).trans z3⟩ | exact ⟨(hk8 0).trans z0, (hk8 1).trans z1, (hk8 2).trans z2, (hk8 3).trans z3⟩)
    (first | (go_at_call 36; refine (copied_nil t se sq st _).mono ?_; rintro e w7 ⟨rfl, hb7⟩; have HI7 := Lib.hid (HI6.out.below ((Below.refl w6.heap.size w6).drew.trans hb7))) | (go_at_call 35; refine (HPU.out w7 HI7.out).mono ?_; rintro e w8 ⟨rfl, ⟨v8, hr8, hc8, ha8⟩, hF8⟩; have hk8 : ∀ i, w8.cell? ⟨bx, i, none⟩ = w6.cell? ⟨bx, i, none⟩ := (fun i => (World.cell?_of_block (hF8.block bx (Nat.lt_of_lt_of_le hbx6 hb7.size) (by exact hbxx) (fun e => HVB.out e.symm))).trans (hb7.cell (p := ⟨bx, i, none⟩) (by exact hbx6)))))
  have HI8 := Lib.hid (HI7.out.push rfl hsb hxsb hF8 hr8 hc8)
  clear hk8 hr8 hc8 ha8 hF8 hb7 HI7 HPU HI6 z0 z1 z2 z3
  go_wp2_with fail
  refine (rise_any x _ t w8 HI8.out.jn HI8.out.fz (by omega) (by omega) b3 b4 b5 b6).mono ?_
  rintro e w9 ⟨rfl, hj9, hch9⟩
  have hI9 := HI8.out.ch hch9 (by rintro a (rfl | rfl | rfl) <;> rfl) hj9 rfl rfl
  have hch := hI9.jn.2.2.2.2.2.1
  have HI9 := Lib.hid hI9
  clear hch9 hj9 hI9 HI8
  have HDU := Lib.hid (fun W (hI : Inv w0 W x B (riseJ ⟨.slice (some ⟨sb, 0, none⟩) sns.length scap, win, v8, false, top, hor, ct + 1, cd, co, cl, cs⟩ t) ((sns.set se s').set se { s' with last := max slast cnt }) (upL headC (n + 1) (xs ++ [e0]) n)) =>
    due_walk headC B x v8 _ (riseH ⟨.slice (some ⟨sb, 0, none⟩) sns.length scap, win, v8, false, top, hor, ct + 1, cd, co, cl, cs⟩ t) cs W hI.row hI.big hI.xB hI.jn.2.2.1 hI.jn.2.2.2.2.2.2.1.2.2.2.2 hI.fz (by rw [upL_len, List.length_append, hn]; simp; omega) d0 d1 (fun a ha b hb W' _ => order_nil a b W' (HE0.out.2 a (upL_mem _ _ _ _ _ ha))))
  obtain ⟨RH, hRH⟩ : ∃ y, riseH ⟨.slice (some ⟨sb, 0, none⟩) sns.length scap, win, v8, false, top, hor, ct + 1, cd, co, cl, cs⟩ t = y := ⟨_, rfl⟩
  have hch' : w9.cell? ⟨x, 5, none⟩ = some (.int .i64 RH) := by rw [← hRH]; exact hch
  rw [hRH] at HDU
  have HRH := Lib.hid hRH
  clear hch hRH
  go_wp2_with fail
  go_region_held3 (fun w' => w'.cell? ⟨x, 5, none⟩ = some (.int .i64 RH))
    (first | exact hch' | exact hk10)
    (first | (go_at_call 38; refine (HDU.out _ (HI9.out.below (Below.refl w9.heap.size w9).drew)).mono ?_; rintro e w10 ⟨ov, v10, rfl, ho, hr10, hc10, hv10, hs10, hch10⟩; have hI10 := (HI9.out.below (Below.refl w9.heap.size w9).drew).due rfl hsb hxsb hch10 hr10 hc10 hs10; have hk10 : w10.cell? ⟨x, 5, none⟩ = some (.int .i64 RH) := (by rw [← HRH.out]; exact hI10.jn.2.2.2.2.2.1)))
  have HFIN := Lib.hid (And.intro ho hI10)
  clear ho hI10 hk10 hr10 hc10 hv10 hs10 hch10
  go_wp2_with fail
  go_ret3
  have hl : (upL headC (n + 1) (xs ++ [e0]) n).length + 1 = n + 2 := by rw [upL_len, List.length_append, hn]; rfl
  have hf := HFIN.out
  rw [hl, List.set_set] at hf
  have hrh : riseH ⟨.slice (some ⟨sb, 0, none⟩) sns.length scap, win, .slice A n c, false, top, hor, ct, cd, co, cl, cs⟩ t = RH := HRH.out
  have htl : tkL ⟨so, sn', sd, slast, ssm, smost, staken⟩ sq cnt = { s' with last := max slast cnt } := by unfold tkL; rw [HTKE.out]
  rw [HE0.out.1, hrh, htl]
  exact ⟨ov, _, v10, rfl, hf.1, hf.2⟩
end Go.Proofs.YtebacmmfjadalaaGreat
