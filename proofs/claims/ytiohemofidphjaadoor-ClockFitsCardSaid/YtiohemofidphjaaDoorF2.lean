/- clock.Fit: what it means that a slice holds pairs; the walk (under way). -/
import Derived.Test.YtiohemofidphjaaDoorF1

namespace Go.Proofs.YtiohemofidphjaaDoor
open Go Go.RowKit

/-- the slice value v holds the pairs ps: two cells each -/
def Prs (w : World) (v : Value) (ps : List (Int × Int)) : Prop :=
  ∃ (A : Option Addr) (c : Nat), v = .slice A ps.length c ∧ ps.length ≤ c ∧
    (0 < ps.length → ∃ b off, A = some ⟨b, off, none⟩ ∧ b < w.heap.size ∧ ∀ j, j < ps.length →
      w.cell? ⟨b, off + j * 2, none⟩ = some (.int .i64 (ps.getD j (0, 0)).1) ∧ w.cell? ⟨b, off + j * 2 + 1, none⟩ = some (.int .i64 (ps.getD j (0, 0)).2))
theorem Prs.below {w w' : World} {v : Value} {ps : List (Int × Int)} (h : Prs w v ps) (hb : Below w.heap.size w w') : Prs w' v ps := by
  obtain ⟨A, c, h1, h2, h3⟩ := h
  refine ⟨A, c, h1, h2, fun h0 => ?_⟩
  obtain ⟨b, off, e, hlt, hc⟩ := h3 h0
  refine ⟨b, off, e, Nat.lt_of_lt_of_le hlt hb.size, fun j hj => ?_⟩
  exact ⟨(hb.cell (by exact hlt)).trans (hc j hj).1, (hb.cell (by exact hlt)).trans (hc j hj).2⟩

/-- the world in the loops: all that stood before, and the answer's cells, are as they were -/
def Fit1 (w : World) (wr : World) : Prop :=
  Below (w.heap.size + 1) (w.alloc (.cells #[.int .i64 0, .int .i64 0, .int .i64 0] 24)) wr
theorem Fit1.row {w wr : World} (h : Fit1 w wr) {b off k : Nat} {x y : Int} (hb : b < w.heap.size) (hc : w.cell? ⟨b, off + k * 2, none⟩ = some (.int .i64 x) ∧ w.cell? ⟨b, off + k * 2 + 1, none⟩ = some (.int .i64 y)) :
    wr.cell? ⟨b, off + k * 2, none⟩ = some (.int .i64 x) ∧ wr.cell? ⟨b, off + k * 2 + 1, none⟩ = some (.int .i64 y) := by
  have hne : b ≠ w.heap.size := by omega
  refine ⟨(Below.cell h (by show b < _; omega)).trans ?_, (Below.cell h (by show b < _; omega)).trans ?_⟩
  · rw [((Below.refl w.heap.size w).alloc (Nat.le_refl _) _).cell (by exact hb)]; exact hc.1
  · rw [((Below.refl w.heap.size w).alloc (Nat.le_refl _) _).cell (by exact hb)]; exact hc.2

theorem Fit1.room {w wr : World} (h : Fit1 w wr) : w.heap.size < wr.heap.size ∧ ¬ w.heap.size = wr.heap.size ∧ wr.frozen? ⟨w.heap.size, 0, none⟩ = false ∧ wr.frozen? ⟨w.heap.size, 1, none⟩ = false ∧ wr.frozen? ⟨w.heap.size, 2, none⟩ = false ∧
    wr.cell? ⟨w.heap.size, 0, none⟩ = some (.int .i64 0) ∧ wr.cell? ⟨w.heap.size, 1, none⟩ = some (.int .i64 0) ∧ wr.cell? ⟨w.heap.size, 2, none⟩ = some (.int .i64 0) := by
  have hs := Below.size h
  simp at hs
  refine ⟨by omega, by omega, ?_, ?_, ?_, ?_, ?_, ?_⟩
  · exact (Below.frozen h (by simp)).trans (by simp [go_sem])
  · exact (Below.frozen h (by simp)).trans (by simp [go_sem])
  · exact (Below.frozen h (by simp)).trans (by simp [go_sem])
  · exact (Below.cell h (by simp)).trans (by simp [go_sem])
  · exact (Below.cell h (by simp)).trans (by simp [go_sem])
  · exact (Below.cell h (by simp)).trans (by simp [go_sem])

theorem Fit1.under {w wr : World} (h : Fit1 w wr) : Below w.heap.size w wr := ((Below.refl _ _).alloc (Nat.le_refl _) _).trans (Below.mono h (by omega))

theorem Fit1.two {w wr : World} (h : Fit1 w wr) (o1 o2 : Obj) : Fit1 w ((wr.alloc o1).alloc o2).drew := by
  have hs := Below.size h
  simp at hs
  exact ((Below.alloc h (by omega) _).alloc (by simp; omega) _).drew
theorem Fit1.on {w wr wq : World} (h : Fit1 w wr) (hb : Below wr.heap.size wr wq) : Fit1 w wq := Below.trans h (hb.mono (by have := Below.size h; simp at this; omega))
theorem miss_step {O N D M x y T : Int} {ps : List (Int × Int)} {t : Nat} (h : ((ps.getD t (0, 0)).1 = x ∧ (ps.getD t (0, 0)).2 = y) ∧ O + x * N / D = T ∧ Ck.missN O N D ps t = M) :
    (if (if M < T - y then T - y else M) < y - T then y - T else if M < T - y then T - y else M) = Ck.missN O N D ps (t + 1) := by
  obtain ⟨⟨h1, h2⟩, h3, h4⟩ := h
  simp only [Ck.missN, h1, h2, h3, h4]
  split <;> split <;> omega
theorem new_clk (W : World) (o n d : Int) (T : TypeId) : (W.alloc (.cells #[.int .i64 o, .int .i64 n, .int .i64 d] T)).cell? ⟨W.heap.size, 0, none⟩ = some (.int .i64 o) ∧ (W.alloc (.cells #[.int .i64 o, .int .i64 n, .int .i64 d] T)).cell? ⟨W.heap.size, 1, none⟩ = some (.int .i64 n) ∧ (W.alloc (.cells #[.int .i64 o, .int .i64 n, .int .i64 d] T)).cell? ⟨W.heap.size, 2, none⟩ = some (.int .i64 d) ∧ (W.alloc (.cells #[.int .i64 o, .int .i64 n, .int .i64 d] T)).frozen? ⟨W.heap.size, 0, none⟩ = false ∧ W.heap.size < (W.alloc (.cells #[.int .i64 o, .int .i64 n, .int .i64 d] T)).heap.size := by
  refine ⟨?_, ?_, ?_, ?_, ?_⟩ <;> simp [go_sem]
theorem old_clk {W X : World} (hb : Below W.heap.size W X) (o : Obj) {g : Nat} {i : Nat} {x : Value} (hg : g < W.heap.size) (h : W.cell? ⟨g, i, none⟩ = some x) : (X.alloc o).cell? ⟨g, i, none⟩ = some x := by
  rw [World.cell?_alloc_lt X o ⟨g, i, none⟩ (Nat.lt_of_lt_of_le hg hb.size)]
  exact (hb.cell (p := ⟨g, i, none⟩) hg).trans h
theorem err_below {w W : World} (h : Below w.heap.size w W) (u v z : Value) (o : Obj) : Below w.heap.size w ((((W.setCell ⟨w.heap.size, 0, none⟩ u).setCell ⟨w.heap.size, 1, none⟩ v).setCell ⟨w.heap.size, 2, none⟩ z).alloc o) :=
  (((h.setCell (p := ⟨w.heap.size, 0, none⟩) (Nat.le_refl _) _).setCell (p := ⟨w.heap.size, 1, none⟩) (Nat.le_refl _) _).setCell (p := ⟨w.heap.size, 2, none⟩) (Nat.le_refl _) _).alloc (by simp; exact h.size) _

/-- what Fit answers, as a value -/
def fitR (ps : List (Int × Int)) : Value :=
  if Ck.fitE ps = 0 then .tuple #[clk (Ck.fitO (Ck.fstP ps) (Ck.lstP ps)) (Ck.fitN (Ck.fstP ps) (Ck.lstP ps)) (Ck.fitD (Ck.fstP ps) (Ck.lstP ps)), .int .i64 (Ck.fitW ps), .int .i64 0]
  else .tuple #[.agg #[.int .i64 0, .int .i64 0, .int .i64 0], .int .i64 0, .int .i64 (Ck.fitE ps)]
theorem fitR_bad {ps : List (Int × Int)} {e : Int} (h : Ck.fitE ps = e) (he : e ≠ 0) : fitR ps = .tuple #[.agg #[.int .i64 0, .int .i64 0, .int .i64 0], .int .i64 0, .int .i64 e] := by
  unfold fitR; rw [if_neg (by rw [h]; exact he), h]

set_option maxRecDepth 8000 in
set_option maxHeartbeats 8000000 in
theorem fit_walk (b off c n : Nat) (ps : List (Int × Int)) (w : World) (hlen : ps.length = n) (hb : b < w.heap.size)
    (hc : ∀ j, j < n → w.cell? ⟨b, off + j * 2, none⟩ = some (.int .i64 (ps.getD j (0, 0)).1) ∧ w.cell? ⟨b, off + j * 2 + 1, none⟩ = some (.int .i64 (ps.getD j (0, 0)).2)) (hn : n ≤ 1024) (hn2 : 2 ≤ n) (hcc : n ≤ c) (hcm : c ≤ 9223372036854775807) :
    Calls Tryd.prog 5 #[.slice (some ⟨b, off, none⟩) n c] w fun e w' => e = .returned (fitR ps) ∧ Below w.heap.size w w' := by
  have H := Lib.hid hc
  have HL := Lib.hid hlen
  clear hc hlen
  go_enter Tryd.func5, Tryd.ntmps5
  go_wp2_with fail
  have HS := Lib.hid (show Fit1 w (w.alloc (.cells #[.int .i64 0, .int .i64 0, .int .i64 0] 24)) from Below.refl _ _)
  go_loopw [25] (fun i wr => ∃ k : Nat, k ≤ n ∧ i = .int .i64 (k : Int) ∧ Hid (∀ j, j < k → Ck.inT (ps.getD j (0, 0)).1 = true ∧ Ck.inT (ps.getD j (0, 0)).2 = true) ∧ Hid (Fit1 w wr)) (fun i _ => n - (intOf i).toNat)
  case atStart => exact ⟨0, by omega, rfl, Lib.hid (fun j hj => by omega), HS⟩
  case round =>
    obtain ⟨k, hk, rfl, hin, hst⟩ := hrel
    by_cases hlt : k < n
    · obtain ⟨x, hx⟩ : ∃ x, (ps.getD k (0, 0)).1 = x := ⟨_, rfl⟩
      obtain ⟨y, hy⟩ : ∃ y, (ps.getD k (0, 0)).2 = y := ⟨_, rfl⟩
      have hrow := H.out k hlt
      rw [hx, hy] at hrow
      obtain ⟨r1, r2⟩ := hst.out.row hb hrow
      have HX := Lib.hid (And.intro hx hy)
      clear hrow hx hy
      have hki : (k : Int) < (n : Int) := by omega
      by_cases ix : Ck.inT x = true
      · have IX := Lib.hid ix
        clear ix
        by_cases iy : Ck.inT y = true
        · have IY := Lib.hid iy
          clear iy
          have HB := Lib.hid (show Fit1 w (wr.alloc (.cells #[.int .i64 x, .int .i64 y] 44)) from Below.alloc hst.out (by have := Below.size hst.out; simp at this; omega) _)
          go_wp2_with (go_at_call 14; refine (withinT _ _).mono ?_; (first | rw [IX.out] | rw [IY.out]); rintro e w' ⟨rfl, rfl⟩)
          go_roundw
          case rel => exact ⟨k + 1, by omega, by go_num, Lib.hid (fun j hj => by
              rcases Nat.lt_or_ge j k with h | h
              · exact hin.out j h
              · rw [show j = k by omega, HX.out.1, HX.out.2]; exact ⟨IX.out, IY.out⟩), HB⟩
          case measure => simp [intOf]; omega
        · have iy' : Ck.inT y = false := by simpa using iy
          have IY := Lib.hid iy'
          clear iy iy'
          obtain ⟨q0, q1, q2, q3, q4, q5, q6, q7⟩ := hst.out.room
          go_wp2_with (go_at_call 14; refine (withinT _ _).mono ?_; (first | rw [IX.out] | rw [IY.out]); rintro e w' ⟨rfl, rfl⟩)
          have hst3 := three_set (X := wr) (b := w.heap.size) (.int .i64 0) (.int .i64 0) (.int .i64 0) q5 q6 q7
          exact bodyPost_ret (by simp only [results, Tryd.results5]; simp [go_sem, World.cell?_alloc_lt, q0, hst3.1, hst3.2.1, hst3.2.2]; try rfl) rfl ⟨by rw [fitR_bad (Ck.fitE_range (by have := HL.out; omega) (j := k) (by have := HL.out; omega) (by first | (rw [HX.out.1, IX.out]; exact .inl rfl) | (rw [HX.out.2, IY.out]; exact .inr rfl))) (by decide)], (((hst.out.under.setCell (p := ⟨w.heap.size, 0, none⟩) (Nat.le_refl _) _).setCell (p := ⟨w.heap.size, 1, none⟩) (Nat.le_refl _) _).setCell (p := ⟨w.heap.size, 2, none⟩) (Nat.le_refl _) _).alloc (by simp; omega) _⟩
      · have ix' : Ck.inT x = false := by simpa using ix
        have IX := Lib.hid ix'
        clear ix ix'
        obtain ⟨q0, q1, q2, q3, q4, q5, q6, q7⟩ := hst.out.room
        go_wp2_with (go_at_call 14; refine (withinT _ _).mono ?_; rw [IX.out]; rintro e w' ⟨rfl, rfl⟩)
        have hst3 := three_set (X := wr) (b := w.heap.size) (.int .i64 0) (.int .i64 0) (.int .i64 0) q5 q6 q7
        exact bodyPost_ret (by simp only [results, Tryd.results5]; simp [go_sem, World.cell?_alloc_lt, q0, hst3.1, hst3.2.1, hst3.2.2]; try rfl) rfl ⟨by rw [fitR_bad (Ck.fitE_range (by have := HL.out; omega) (j := k) (by have := HL.out; omega) (by first | (rw [HX.out.1, IX.out]; exact .inl rfl) | (rw [HX.out.2, IY.out]; exact .inr rfl))) (by decide)], (((hst.out.under.setCell (p := ⟨w.heap.size, 0, none⟩) (Nat.le_refl _) _).setCell (p := ⟨w.heap.size, 1, none⟩) (Nat.le_refl _) _).setCell (p := ⟨w.heap.size, 2, none⟩) (Nat.le_refl _) _).alloc (by simp; omega) _⟩
    · have hkn : k = n := by omega
      subst hkn
      have hc1 : 1 < c := by omega
      have hc2 : ¬ c = 1 := by omega
      have hc3 : ¬ c - 1 = 0 := by omega
      go_wp2_with fail
      have HC1 := Lib.hid (And.intro hc1 (And.intro hc2 hc3))
      clear hc1 hc2 hc3
      obtain ⟨K1, hK1⟩ : ∃ K1, k - 1 = K1 := ⟨_, rfl⟩
      rw [hK1]
      go_loopw [48] (fun i wr => ∃ j : Nat, j ≤ K1 ∧ i = .int .i64 (j : Int) ∧ Hid (∀ t, t < j → (ps.getD t (0, 0)).1 < (ps.getD (t + 1) (0, 0)).1 ∧ (ps.getD t (0, 0)).2 < (ps.getD (t + 1) (0, 0)).2) ∧ Hid (Fit1 w wr)) (fun i _ => K1 - (intOf i).toNat)
      case atStart => exact ⟨0, by omega, rfl, Lib.hid (fun t ht => by omega), hst⟩
      case round =>
        obtain ⟨j, hj, rfl, hup, hst2⟩ := hrel
        by_cases hlt2 : j < K1
        · obtain ⟨x, hx⟩ : ∃ x, (ps.getD (j + 1) (0, 0)).1 = x := ⟨_, rfl⟩
          obtain ⟨y, hy⟩ : ∃ y, (ps.getD (j + 1) (0, 0)).2 = y := ⟨_, rfl⟩
          obtain ⟨x0, hx0⟩ : ∃ x, (ps.getD j (0, 0)).1 = x := ⟨_, rfl⟩
          obtain ⟨y0, hy0⟩ : ∃ y, (ps.getD j (0, 0)).2 = y := ⟨_, rfl⟩
          have hrow := H.out (j + 1) (by omega)
          have hrow0 := H.out j (by omega)
          rw [show off + (j + 1) * 2 = off + 2 + j * 2 by omega, hx, hy] at hrow
          rw [hx0, hy0] at hrow0
          obtain ⟨r1, r2⟩ := hst2.out.row hb hrow
          obtain ⟨r3, r4⟩ := hst2.out.row hb hrow0
          have H0 := Lib.hid hrow0
          have HX := Lib.hid (And.intro (And.intro hx hy) (And.intro hx0 hy0))
          clear hrow hrow0 hx hy hx0 hy0
          have hki : (j : Int) < (K1 : Int) := by omega
          have hkj : (j : Int) < (k : Int) := by omega
          by_cases ix : x0 < x
          · by_cases iy : y0 < y
            · have HB := Lib.hid (show Fit1 w (World.alloc _ (.cells #[.int .i64 x, .int .i64 y] 44)) from Below.alloc hst2.out (by have := Below.size hst2.out; simp at this; omega) _)
              go_wp2_with fail
              have p1 : (wr.alloc (.cells #[.int .i64 x, .int .i64 y] 44)).cell? ⟨wr.heap.size, 0, none⟩ = some (.int .i64 x) := by simp [go_sem]
              have p2 : (wr.alloc (.cells #[.int .i64 x, .int .i64 y] 44)).cell? ⟨wr.heap.size, 1, none⟩ = some (.int .i64 y) := by simp [go_sem]
              obtain ⟨p3, p4⟩ := HB.out.row hb H0.out
              clear r1 r2 r3 r4
              generalize wr.alloc (.cells #[.int .i64 x, .int .i64 y] 44) = W2 at *
              go_quiet (fail)
              go_wp2_with fail
              go_roundw
              case rel => exact ⟨j + 1, by omega, by go_num, Lib.hid (fun t ht => by
                  rcases Nat.lt_or_ge t j with h | h
                  · exact hup.out t h
                  · rw [show t = j by omega, HX.out.1.1, HX.out.1.2, HX.out.2.1, HX.out.2.2]; exact ⟨ix, iy⟩), Lib.hid (show Fit1 w _ from below_drewN HB.out _)⟩
              case measure => simp [intOf]; omega
            · have HB := Lib.hid (show Fit1 w (World.alloc _ (.cells #[.int .i64 x, .int .i64 y] 44)) from Below.alloc hst2.out (by have := Below.size hst2.out; simp at this; omega) _)
              go_wp2_with fail
              have p1 : (wr.alloc (.cells #[.int .i64 x, .int .i64 y] 44)).cell? ⟨wr.heap.size, 0, none⟩ = some (.int .i64 x) := by simp [go_sem]
              have p2 : (wr.alloc (.cells #[.int .i64 x, .int .i64 y] 44)).cell? ⟨wr.heap.size, 1, none⟩ = some (.int .i64 y) := by simp [go_sem]
              obtain ⟨p3, p4⟩ := HB.out.row hb H0.out
              clear r1 r2 r3 r4
              generalize wr.alloc (.cells #[.int .i64 x, .int .i64 y] 44) = W2 at *
              go_quiet (fail)
              obtain ⟨q0, q1, q2, q3, q4, q5, q6, q7⟩ := HB.out.room
              go_wp2_with fail
              have hst3 := three_set (X := W2.drewN nq) (b := w.heap.size) (.int .i64 0) (.int .i64 0) (.int .i64 0) (by simpa using q5) (by simpa using q6) (by simpa using q7)
              exact bodyPost_ret (by simp only [results, Tryd.results5]; simp [go_sem, hst3.1, hst3.2.1, hst3.2.2]; try rfl) rfl ⟨by rw [fitR_bad (Ck.fitE_fall (by have := HL.out; omega) (by rw [Ck.inL, decide_eq_true_eq, HL.out]; exact hin.out) (j := j) (by have := HL.out; omega) (.inr (by rw [HX.out.1.2, HX.out.2.2]; omega))) (by decide)], ((((below_drewN HB.out.under nq).setCell (p := ⟨w.heap.size, 0, none⟩) (Nat.le_refl _) _).setCell (p := ⟨w.heap.size, 1, none⟩) (Nat.le_refl _) _).setCell (p := ⟨w.heap.size, 2, none⟩) (Nat.le_refl _) _)⟩
          · have HB := Lib.hid (show Fit1 w (World.alloc _ (.cells #[.int .i64 x, .int .i64 y] 44)) from Below.alloc hst2.out (by have := Below.size hst2.out; simp at this; omega) _)
            go_wp2_with fail
            have p1 : (wr.alloc (.cells #[.int .i64 x, .int .i64 y] 44)).cell? ⟨wr.heap.size, 0, none⟩ = some (.int .i64 x) := by simp [go_sem]
            have p2 : (wr.alloc (.cells #[.int .i64 x, .int .i64 y] 44)).cell? ⟨wr.heap.size, 1, none⟩ = some (.int .i64 y) := by simp [go_sem]
            obtain ⟨p3, p4⟩ := HB.out.row hb H0.out
            clear r1 r2 r3 r4
            generalize wr.alloc (.cells #[.int .i64 x, .int .i64 y] 44) = W2 at *
            go_quiet (fail)
            obtain ⟨q0, q1, q2, q3, q4, q5, q6, q7⟩ := HB.out.room
            go_wp2_with fail
            have hst3 := three_set (X := W2.drewN nq) (b := w.heap.size) (.int .i64 0) (.int .i64 0) (.int .i64 0) (by simpa using q5) (by simpa using q6) (by simpa using q7)
            exact bodyPost_ret (by simp only [results, Tryd.results5]; simp [go_sem, hst3.1, hst3.2.1, hst3.2.2]; try rfl) rfl ⟨by rw [fitR_bad (Ck.fitE_fall (by have := HL.out; omega) (by rw [Ck.inL, decide_eq_true_eq, HL.out]; exact hin.out) (j := j) (by have := HL.out; omega) (.inl (by rw [HX.out.1.1, HX.out.2.1]; omega))) (by decide)], ((((below_drewN HB.out.under nq).setCell (p := ⟨w.heap.size, 0, none⟩) (Nat.le_refl _) _).setCell (p := ⟨w.heap.size, 1, none⟩) (Nat.le_refl _) _).setCell (p := ⟨w.heap.size, 2, none⟩) (Nat.le_refl _) _)⟩
        · have hjk : j = K1 := by omega
          subst hjk
          obtain ⟨x, hx⟩ : ∃ x, (ps.getD 0 (0, 0)).1 = x := ⟨_, rfl⟩
          obtain ⟨y, hy⟩ : ∃ y, (ps.getD 0 (0, 0)).2 = y := ⟨_, rfl⟩
          obtain ⟨x', hx'⟩ : ∃ x, (ps.getD (k - 1) (0, 0)).1 = x := ⟨_, rfl⟩
          obtain ⟨y', hy'⟩ : ∃ y, (ps.getD (k - 1) (0, 0)).2 = y := ⟨_, rfl⟩
          have hrow := H.out 0 (by omega)
          have hrow' := H.out (k - 1) (by omega)
          rw [hx, hy] at hrow
          rw [hx', hy'] at hrow'
          obtain ⟨r1, r2⟩ := hst2.out.row hb hrow
          obtain ⟨r3, r4⟩ := hst2.out.row hb hrow'
          simp only [Nat.zero_mul, Nat.add_zero] at r1 r2
          have HX := Lib.hid (And.intro (And.intro hx hy) (And.intro hx' hy'))
          have hw1 : IntKind.i64.wrap ((k : Int) - 1) = ((k - 1 : Nat) : Int) := by rw [IntWalk.i64_in _ (by omega)]; omega
          rw [hK1] at hw1 r3 r4
          have hki : (j : Int) < (k : Int) := by omega
          have hkz : (0 : Int) < (k : Int) := by omega
          have hbw : b < wr.heap.size := by have := Below.size hst2.out; simp at this; omega
          have hbn : ¬ b = wr.heap.size := by omega
          have hbm : b < wr.heap.size + 1 := by omega
          have hbo : ¬ b = wr.heap.size + 1 := by omega
          have hkp : 0 < k := by omega
          have hkj : j < k := by omega
          clear hrow hrow' hx hy hx' hy'
          go_upto_region 17 with (fail)
          go_cut [9, 10] (fun p q wx => ∃ g h : Nat, p = .pointer (some ⟨g, 0, none⟩) ∧ q = .pointer (some ⟨h, 0, none⟩) ∧ g < wx.heap.size ∧ h < wx.heap.size ∧ wx.cell? ⟨g, 0, none⟩ = some (.int .i64 x) ∧ wx.cell? ⟨g, 1, none⟩ = some (.int .i64 y) ∧ wx.cell? ⟨h, 0, none⟩ = some (.int .i64 x') ∧ wx.cell? ⟨h, 1, none⟩ = some (.int .i64 y') ∧ Fit1 w wx)
          case first =>
            go_region
            all_goals go_wp2_with fail
            all_goals go_meet
            all_goals exact ⟨_, _, rfl, rfl, by (simp; try omega), by (simp; try omega), by simp [go_sem], by simp [go_sem], by simp [go_sem], by simp [go_sem], Fit1.two hst2.out _ _⟩
          case rest =>
            obtain ⟨g, h, rfl, rfl, g0, h0, c0, c1, c2, c3, hF⟩ := hcut
            have HF := Lib.hid hF
            clear hF r1 r2 r3 r4 hbw hbn hbm hbo
            have HI : Hid (Ck.inL ps = true) := Lib.hid (by rw [Ck.inL, decide_eq_true_eq, HL.out]; exact hin.out)
            have HU : Hid (Ck.upL ps = true) := Lib.hid (by rw [Ck.upL, decide_eq_true_eq, HL.out, hK1]; exact hup.out)
            have HP : Hid (Ck.fstP ps = (x, y) ∧ Ck.lstP ps = (x', y')) := Lib.hid (by
              refine ⟨?_, ?_⟩
              · unfold Ck.fstP; rw [← HX.out.1.1, ← HX.out.1.2]
              · unfold Ck.lstP; rw [HL.out, ← HX.out.2.1, ← HX.out.2.2])
            have ha := (hin.out 0 (by omega))
            have hz := (hin.out (k - 1) (by omega))
            have he := Ck.upL_ends HU.out (by rw [HL.out]; omega)
            rw [HX.out.1.1, HX.out.1.2] at ha
            rw [HX.out.2.1, HX.out.2.2] at hz
            rw [HP.out.1, HP.out.2] at he
            simp only [Ck.inT_iff] at ha hz he
            obtain ⟨⟨a1, a2⟩, a3, a4⟩ := ha
            obtain ⟨⟨z1, z2⟩, z3, z4⟩ := hz
            obtain ⟨e1, e2⟩ := he
            obtain ⟨N, hN⟩ : ∃ N, Ck.fitN (x, y) (x', y') = N := ⟨_, rfl⟩
            obtain ⟨D, hD⟩ : ∃ D, Ck.fitD (x, y) (x', y') = D := ⟨_, rfl⟩
            obtain ⟨ok, hok⟩ : ∃ ok, Ck.fitOk (x, y) (x', y') = ok := ⟨_, rfl⟩
            have HR := rate_int (y' - y) (x' - x)
            rw [show rateN (y' - y).toNat (x' - x).toNat = N from hN, show rateD (y' - y).toNat (x' - x).toNat = D from hD, show rateOk (y' - y).toNat (x' - x).toNat = ok from hok] at HR
            unfold clk at HR
            have HR := Lib.hid HR
            have HN := Lib.hid (And.intro hN (And.intro hD hok))
            clear hN hD hok
            cases ok with
            | false =>
              go_wp2_with (go_at_call 15; refine (HR.out _ (by omega) (by omega) (by omega) (by omega)).mono ?_; rintro e wq ⟨rfl, hq⟩; have HQ := Lib.hid (HF.out.on hq); obtain ⟨q0, q1, q2, q3, q4, q5, q6, q7⟩ := HQ.out.room; clear hq)
              have hst3 := three_set (X := wq) (b := w.heap.size) (.int .i64 0) (.int .i64 0) (.int .i64 0) q5 q6 q7
              exact bodyPost_ret (by simp only [results, Tryd.results5]; simp [go_sem, World.cell?_alloc_lt, q0, hst3.1, hst3.2.1, hst3.2.2]; try rfl) rfl ⟨by rw [fitR_bad (Ck.fitE_rate (by rw [HL.out]; exact hn) (by rw [HL.out]; exact hn2) HI.out HU.out (by rw [HP.out.1, HP.out.2]; exact HN.out.2.2)) (by decide)], err_below HQ.out.under _ _ _ _⟩
            | true =>
              obtain ⟨gg, -, -, -, p1, p2⟩ := Ck.fit_parts (a := (x, y)) (b := (x', y')) e1 e2
              have hle := HN.out.2.2
              have hle : N ≤ 1000000000 ∧ D ≤ 1000000000 := by
                simp only [Ck.fitOk, rateOk, decide_eq_true_eq] at hle
                rw [← HN.out.1, ← HN.out.2.1]
                exact hle
              rw [HN.out.1] at p1
              rw [HN.out.2.1] at p2
              obtain ⟨n1, d1⟩ := hle
              obtain ⟨v, hv⟩ : ∃ v, (if Ck.fits (x * N) D then x * N / D else 0) = v := ⟨_, rfl⟩
              obtain ⟨f, hf⟩ : ∃ f, Ck.fits (x * N) D = f := ⟨_, rfl⟩
              have hvb : -4611686018427387905 ≤ v ∧ v ≤ 4611686018427387904 := by
                subst hv
                split
                · exact Ck.fits_bd (by omega) (by assumption)
                · omega
              obtain ⟨hv0, hv1⟩ := hvb
              have HT := Lib.hid (times_any x N)
              have hov := over_any (x * N) D
              rw [hv, hf] at hov
              have HO := Lib.hid hov
              have hpb := prod_bd (c := x) (n := N) a1 a2 p1 n1
              have HV := Lib.hid (And.intro hv hf)
              clear hov hv hf
              have HC := Lib.hid (And.intro g0 (And.intro c0 c1))
              go_wp2_with (go_at_call 15; refine (HR.out _ (by omega) (by omega) (by omega) (by omega)).mono ?_; rintro e wq ⟨rfl, hq⟩; have HQ := Lib.hid (HF.out.on hq); have HQ2 := Lib.hid hq; clear hq c0 c1 c2 c3)
              have k0 := old_clk HQ2.out (.cells #[.int .i64 0, .int .i64 N, .int .i64 D] 24) HC.out.1 HC.out.2.1
              have k1 := old_clk HQ2.out (.cells #[.int .i64 0, .int .i64 N, .int .i64 D] 24) HC.out.1 HC.out.2.2
              obtain ⟨m0, m1, m2, m3, m4⟩ := new_clk wq 0 N D 24
              have mg : g < (wq.alloc (.cells #[.int .i64 0, .int .i64 N, .int .i64 D] 24)).heap.size := by have := HQ2.out.size; have := HC.out.1; simp; omega
              have hgc : g < wq.heap.size := by have := HQ2.out.size; have := HC.out.1; omega
              have hwc : w.heap.size < wq.heap.size := HQ.out.room.1
              have HW3 := Lib.hid (show Fit1 w (wq.alloc (.cells #[.int .i64 0, .int .i64 N, .int .i64 D] 24)) from Below.alloc HQ.out (by omega) _)
              clear HQ HQ2
              generalize wq.alloc (.cells #[.int .i64 0, .int .i64 N, .int .i64 D] 24) = W3 at *
              generalize wq.heap.size = cb at *
              go_region_held3 (fun w' => w'.cell? ⟨g, 0, none⟩ = some (.int .i64 x) ∧ w'.cell? ⟨cb, 1, none⟩ = some (.int .i64 N) ∧ w'.cell? ⟨cb, 2, none⟩ = some (.int .i64 D) ∧ Below W3.heap.size W3 w')
                (first | (refine ⟨?_, ?_, ?_, ((Below.refl _ _).drew)⟩ <;> go_keep) | exact keep_three (by assumption) hb2 (Nat.le_refl _) mg m4 m4 | exact keep_three (by assumption) hb1 (Nat.le_refl _) mg m4 m4 | go_keep)
                (first | (go_at_call 16; refine (HT.out _ (by omega) (by omega) (by omega) (by omega)).mono ?_; rintro e w' ⟨rfl, hb1⟩) | (go_at_call 17; refine (HO.out _ (by omega) (by omega) (by omega)).mono ?_; rintro e w' ⟨rfl, hb2⟩))
              have hS : w'.cell? ⟨g, 0, none⟩ = some (.int .i64 x) ∧ w'.cell? ⟨cb, 1, none⟩ = some (.int .i64 N) ∧ w'.cell? ⟨cb, 2, none⟩ = some (.int .i64 D) ∧ Below W3.heap.size W3 w' := by assumption
              obtain ⟨-, s1, s2, hB⟩ := hS
              have s0 : w'.cell? ⟨cb, 0, none⟩ = some (.int .i64 0) := (hB.cell (by exact m4)).trans m0
              have sf : w'.frozen? ⟨cb, 0, none⟩ = false := (hB.frozen (by exact m4)).trans m3
              have sg : w'.cell? ⟨g, 1, none⟩ = some (.int .i64 y) := (hB.cell (by exact mg)).trans k1
              have ms : cb < w'.heap.size := Nat.lt_of_lt_of_le m4 hB.size
              have HW4 := Lib.hid (HW3.out.on hB)
              have hne : ¬ cb = w.heap.size := by omega
              have hne' : ¬ w.heap.size = cb := by omega
              clear hB hb1 hb2 k0 k1 m0 m1 m2 m3 m4 mg hgc HW3
              cases f with
              | false =>
                obtain ⟨q0, q1, q2, q3, q4, q5, q6, q7⟩ := HW4.out.room
                go_wp2_with fail
                have hst3 := three_set (X := w'.setCell ⟨cb, 0, none⟩ (.int .i64 (y - v))) (b := w.heap.size) (p := .int .i64 0) (q := .int .i64 0) (r := .int .i64 0) (.int .i64 0) (.int .i64 0) (.int .i64 0) (by simp [go_sem, q5]) (by simp [go_sem, q6]) (by simp [go_sem, q7])
                exact bodyPost_ret (by simp only [results, Tryd.results5]; simp [go_sem, hst3.1, hst3.2.1, hst3.2.2]; try rfl) rfl ⟨by rw [fitR_bad (Ck.fitE_clock (by rw [HL.out]; exact hn) (by rw [HL.out]; exact hn2) HI.out HU.out (by rw [HP.out.1, HP.out.2]; exact HN.out.2.2) (by
                    rw [← Bool.not_eq_true]
                    intro hh
                    have := Ck.fit_first_fits HI.out HU.out (by rw [HL.out]; exact hn2) hh
                    rw [HP.out.1, HP.out.2, HN.out.1, HN.out.2.1, HV.out.2] at this
                    cases this)) (by decide)], (((Fit1.under (w := w) (Below.setCell HW4.out (p := ⟨cb, 0, none⟩) (by show _ ≤ cb; omega) _)).setCell (p := ⟨w.heap.size, 0, none⟩) (Nat.le_refl _) _).setCell (p := ⟨w.heap.size, 1, none⟩) (Nat.le_refl _) _).setCell (p := ⟨w.heap.size, 2, none⟩) (Nat.le_refl _) _⟩
              | true =>
                have hv : x * N / D = v := by have := HV.out.1; rw [HV.out.2] at this; simpa using this
                have HVV := Lib.hid hv
                have hk : ∀ o : Int, Ck.okc o N D = Ck.inT o := fun o => by
                  have := Ck.fit_okc HU.out (by rw [HL.out]; exact hn2) (by rw [HP.out.1, HP.out.2]; exact HN.out.2.2) o
                  rw [HP.out.1, HP.out.2, HN.out.1, HN.out.2.1] at this
                  exact this
                have HO2 : Hid (Ck.fitO (Ck.fstP ps) (Ck.lstP ps) = y - v) := Lib.hid (by rw [HP.out.1, HP.out.2]; unfold Ck.fitO; rw [HN.out.1, HN.out.2.1, HVV.out])
                have HK := Lib.hid hk
                clear hv hk
                obtain ⟨O, hO⟩ : ∃ O, y - v = O := ⟨_, rfl⟩
                have HOE := Lib.hid hO
                by_cases iO : Ck.inT O = true
                · have HIw := Lib.hid iO
                  clear iO
                  have hck := fun W => check_ok O N D W (by rw [HK.out]; exact HIw.out)
                  rw [← hO] at hck
                  have HCK := Lib.hid hck
                  clear hck hO
                  go_wp2_with (go_at_call 18; refine (HCK.out _).mono ?_; rintro e wc ⟨rfl, hwc⟩; have HWC := Lib.hid hwc; clear hwc)
                  have hm : cb < (w'.setCell ⟨cb, 0, none⟩ (.int .i64 (y - v))).heap.size := by simp; exact ms
                  have m0 : wc.cell? ⟨cb, 0, none⟩ = some (.int .i64 (y - v)) := (HWC.out.cell (by exact hm)).trans (by simp [go_sem, s0])
                  have m1 : wc.cell? ⟨cb, 1, none⟩ = some (.int .i64 N) := (HWC.out.cell (by exact hm)).trans (by simp [go_sem, s1])
                  have m2 : wc.cell? ⟨cb, 2, none⟩ = some (.int .i64 D) := (HWC.out.cell (by exact hm)).trans (by simp [go_sem, s2])
                  have m4 : cb < wc.heap.size := Nat.lt_of_lt_of_le hm HWC.out.size
                  have HW5 := Lib.hid (show Fit1 w wc from Fit1.on (Below.setCell HW4.out (p := ⟨cb, 0, none⟩) (by show _ ≤ cb; omega) _) HWC.out)
                  have HM := Lib.hid (And.intro m0 (And.intro m1 m2))
                  have HZ : Hid (Ck.fitE ps = 0) := Lib.hid (Ck.fitE_ok (by rw [HL.out]; exact hn) (by rw [HL.out]; exact hn2) HI.out HU.out (by rw [HP.out.1, HP.out.2]; exact HN.out.2.2) (by rw [HO2.out, HOE.out]; exact HIw.out))
                  clear hm s0 s1 s2 sf sg ms HWC m0 m1 m2 HW4
                  go_loopw [14, 125] (fun wv i wr => ∃ t : Nat, t ≤ k ∧ i = .int .i64 (t : Int) ∧ wv = .int .i64 (Ck.missN O N D ps t) ∧ Hid (Below wc.heap.size wc wr)) (fun _ i _ => k - (intOf i).toNat)
                  case atStart => exact ⟨0, by omega, rfl, rfl, Lib.hid (Below.refl _ _)⟩
                  case round =>
                    obtain ⟨t, ht, rfl, rfl, hst3⟩ := hrel
                    have m0 : wr.cell? ⟨cb, 0, none⟩ = some (.int .i64 (y - v)) := (hst3.out.cell (by exact m4)).trans HM.out.1
                    have m1 : wr.cell? ⟨cb, 1, none⟩ = some (.int .i64 N) := (hst3.out.cell (by exact m4)).trans HM.out.2.1
                    have m2 : wr.cell? ⟨cb, 2, none⟩ = some (.int .i64 D) := (hst3.out.cell (by exact m4)).trans HM.out.2.2
                    have m5 : cb < wr.heap.size := Nat.lt_of_lt_of_le m4 hst3.out.size
                    have HW6 := Lib.hid (HW5.out.on hst3.out)
                    by_cases hlt3 : t < k
                    · obtain ⟨x2, hx2⟩ : ∃ x, (ps.getD t (0, 0)).1 = x := ⟨_, rfl⟩
                      obtain ⟨y2, hy2⟩ : ∃ y, (ps.getD t (0, 0)).2 = y := ⟨_, rfl⟩
                      have hrow := H.out t hlt3
                      have hbd := hin.out t hlt3
                      have hfa := Ck.fit_at HZ.out (j := t) (by rw [HL.out]; exact hlt3)
                      rw [hx2, hy2] at hrow hbd
                      rw [hx2, HO2.out, HOE.out, HP.out.1, HP.out.2, HN.out.1, HN.out.2.1] at hfa
                      obtain ⟨T2, hT2⟩ : ∃ T2, O + x2 * N / D = T2 := ⟨_, rfl⟩
                      have hpl := fun W => plain_ok O N D x2 T2 W (by rw [HK.out]; exact HIw.out) hbd.1 hfa.1 hT2
                      rw [← HOE.out] at hpl
                      have HPL := Lib.hid hpl
                      rw [hT2] at hfa
                      simp only [Ck.inT_iff] at hbd hfa
                      obtain ⟨b1, b2, b3⟩ := hbd
                      obtain ⟨-, b4, b5⟩ := hfa
                      obtain ⟨r1, r2⟩ := HW6.out.row hb hrow
                      obtain ⟨M, hM⟩ : ∃ M, Ck.missN O N D ps t = M := ⟨_, rfl⟩
                      have HX2 := Lib.hid (And.intro (And.intro hx2 hy2) (And.intro hT2 hM))
                      rw [hM]
                      clear hrow hx2 hy2 hpl hT2 hM
                      have hki : (t : Int) < (k : Int) := by omega
                      go_wp2_with (go_at_call 19; refine (HPL.out _).mono ?_; rintro e wp ⟨rfl, hwp⟩; have HWP := Lib.hid hwp; have d0 := (hwp.cell (p := ⟨wr.heap.size, 1, none⟩) (by simp)).trans (show _ = some (.int .i64 y2) by simp [go_sem]); clear hwp)
                      go_roundw
                      case rel => exact ⟨t + 1, by omega, by go_num, by rw [miss_step HX2.out], Lib.hid ((hst3.out.alloc hst3.out.size _).trans (HWP.out.mono (by have := hst3.out.size; simp; omega)))⟩
                      case measure => simp [intOf]; omega
                    · have htk : t = k := by omega
                      subst htk
                      obtain ⟨q0, q1, q2, q3, q4, q5, q6, q7⟩ := HW6.out.room
                      obtain ⟨M, hM⟩ : ∃ M, Ck.missN O N D ps t = M := ⟨_, rfl⟩
                      rw [hM]
                      have HMM := Lib.hid hM
                      clear hM
                      go_wp2_with fail
                      have hst4 := three_set (X := wr) (b := w.heap.size) (.int .i64 (y - v)) (.int .i64 N) (.int .i64 D) q5 q6 q7
                      have hend : fitR ps = .tuple #[.agg #[.int .i64 (y - v), .int .i64 N, .int .i64 D], .int .i64 M, .int .i64 0] := by
                        unfold fitR Ck.fitW
                        rw [if_pos HZ.out, HO2.out, HP.out.1, HP.out.2, HN.out.1, HN.out.2.1, HOE.out, HL.out, HMM.out]
                        rfl
                      exact bodyPost_ret (by simp only [results, Tryd.results5]; simp [go_sem, hst4.1, hst4.2.1, hst4.2.2]; try rfl) rfl ⟨by rw [hend], (((HW6.out.under.setCell (p := ⟨w.heap.size, 0, none⟩) (Nat.le_refl _) _).setCell (p := ⟨w.heap.size, 1, none⟩) (Nat.le_refl _) _).setCell (p := ⟨w.heap.size, 2, none⟩) (Nat.le_refl _) _)⟩
                · have iO' : Ck.inT O = false := by simpa using iO
                  have HIw := Lib.hid iO'
                  clear iO iO'
                  have hck := fun W => check_bad O N D W (by rw [HK.out]; exact HIw.out)
                  rw [← hO] at hck
                  have HCK := Lib.hid hck
                  clear hck hO
                  have HW5 := Lib.hid (show Fit1 w (w'.setCell ⟨cb, 0, none⟩ (.int .i64 (y - v))) from (Below.setCell HW4.out (p := ⟨cb, 0, none⟩) (by show _ ≤ cb; omega) _))
                  go_wp2_with (go_at_call 18; refine (HCK.out _).mono ?_; rintro e wc ⟨rfl, hwc⟩; have HWC := Lib.hid (HW5.out.on hwc); obtain ⟨q0, q1, q2, q3, q4, q5, q6, q7⟩ := HWC.out.room; clear hwc)
                  have hst3 := three_set (X := wc) (b := w.heap.size) (.int .i64 0) (.int .i64 0) (.int .i64 0) q5 q6 q7
                  exact bodyPost_ret (by simp only [results, Tryd.results5]; simp [go_sem, hst3.1, hst3.2.1, hst3.2.2]; try rfl) rfl ⟨by rw [fitR_bad (Ck.fitE_clock (by rw [HL.out]; exact hn) (by rw [HL.out]; exact hn2) HI.out HU.out (by rw [HP.out.1, HP.out.2]; exact HN.out.2.2) (by rw [HO2.out, HOE.out]; exact HIw.out)) (by decide)], (((HWC.out.under.setCell (p := ⟨w.heap.size, 0, none⟩) (Nat.le_refl _) _).setCell (p := ⟨w.heap.size, 1, none⟩) (Nat.le_refl _) _).setCell (p := ⟨w.heap.size, 2, none⟩) (Nat.le_refl _) _)⟩
end Go.Proofs.YtiohemofidphjaaDoor
