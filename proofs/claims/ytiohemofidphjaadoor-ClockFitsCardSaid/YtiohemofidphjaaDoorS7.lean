/- Contract of the reference's Fit. -/
import Derived.Test.YtiohemofidphjaaDoorS5
import Derived.Test.YtiohemofidphjaaDoorS6
import Derived.Test.YtiohemofidphjaaDoorF2
import Derived.Test.YtiohemofidphjaaDoorQ20
namespace Go.Proofs.YtiohemofidphjaaDoor
open Go Go.RowKit Bg

/-- the world in the loops: all that stood before, the answer's cells and the empty clock's, are as they were -/
def FitS (w : World) (wr : World) : Prop :=
  Below (w.heap.size + 2) ((w.alloc (.cells #[.int .i64 0, .int .i64 0, .int .i64 0] 24)).alloc (.cells #[.int .i64 0, .int .i64 0, .int .i64 0] 24)) wr
theorem FitS.start (w : World) : Below w.heap.size w ((w.alloc (.cells #[.int .i64 0, .int .i64 0, .int .i64 0] 24)).alloc (.cells #[.int .i64 0, .int .i64 0, .int .i64 0] 24)) := ((Below.refl _ _).alloc (Nat.le_refl _) _).alloc (by simp) _
theorem FitS.under {w wr : World} (h : FitS w wr) : Below w.heap.size w wr := (FitS.start w).trans (Below.mono h (by omega))
theorem FitS.big {w wr : World} (h : FitS w wr) : w.heap.size + 2 ≤ wr.heap.size := by
  have hs := Below.size h
  simpa using hs
theorem FitS.row {w wr : World} (h : FitS w wr) {b off k : Nat} {x y : Int} (hb : b < w.heap.size) (hc : w.cell? ⟨b, off + k * 2, none⟩ = some (.int .i64 x) ∧ w.cell? ⟨b, off + k * 2 + 1, none⟩ = some (.int .i64 y)) :
    wr.cell? ⟨b, off + k * 2, none⟩ = some (.int .i64 x) ∧ wr.cell? ⟨b, off + k * 2 + 1, none⟩ = some (.int .i64 y) :=
  ⟨(h.under.cell (by exact hb)).trans hc.1, (h.under.cell (by exact hb)).trans hc.2⟩
theorem FitS.room {w wr : World} (h : FitS w wr) : w.heap.size < wr.heap.size ∧ wr.frozen? ⟨w.heap.size, 0, none⟩ = false ∧ wr.frozen? ⟨w.heap.size, 1, none⟩ = false ∧ wr.frozen? ⟨w.heap.size, 2, none⟩ = false ∧
    wr.cell? ⟨w.heap.size, 0, none⟩ = some (.int .i64 0) ∧ wr.cell? ⟨w.heap.size, 1, none⟩ = some (.int .i64 0) ∧ wr.cell? ⟨w.heap.size, 2, none⟩ = some (.int .i64 0) ∧
    wr.cell? ⟨w.heap.size + 1, 0, none⟩ = some (.int .i64 0) ∧ wr.cell? ⟨w.heap.size + 1, 1, none⟩ = some (.int .i64 0) ∧ wr.cell? ⟨w.heap.size + 1, 2, none⟩ = some (.int .i64 0) ∧ w.heap.size + 1 < wr.heap.size := by
  have hs := h.big
  refine ⟨by omega, ?_, ?_, ?_, ?_, ?_, ?_, ?_, ?_, ?_, by omega⟩
  · exact (Below.frozen h (by show w.heap.size < _; omega)).trans (by simp [go_sem])
  · exact (Below.frozen h (by show w.heap.size < _; omega)).trans (by simp [go_sem])
  · exact (Below.frozen h (by show w.heap.size < _; omega)).trans (by simp [go_sem])
  · exact (Below.cell h (by show w.heap.size < _; omega)).trans (by simp [go_sem])
  · exact (Below.cell h (by show w.heap.size < _; omega)).trans (by simp [go_sem])
  · exact (Below.cell h (by show w.heap.size < _; omega)).trans (by simp [go_sem])
  · exact (Below.cell h (by show w.heap.size + 1 < _; omega)).trans (by simp [go_sem])
  · exact (Below.cell h (by show w.heap.size + 1 < _; omega)).trans (by simp [go_sem])
  · exact (Below.cell h (by show w.heap.size + 1 < _; omega)).trans (by simp [go_sem])
theorem FitS.on {w wr wq : World} (h : FitS w wr) (hb : Below wr.heap.size wr wq) : FitS w wq := Below.trans h (hb.mono h.big)
theorem FitS.alloc {w wr : World} (h : FitS w wr) (o : Obj) : FitS w (wr.alloc o) := Below.alloc h h.big o
theorem FitS.two {w wr : World} (h : FitS w wr) (o1 o2 : Obj) : FitS w ((wr.alloc o1).alloc o2).drew := ((h.alloc o1).alloc o2).drew
theorem fitOk_eq (a b : Int × Int) : Ck.fitOk a b = decide (Ck.fitN a b ≤ 1000000000 ∧ Ck.fitD a b ≤ 1000000000) := rfl
theorem miss_abs {O N D M x y T : Int} {ps : List (Int × Int)} {t : Nat} (h : ((ps.getD t (0, 0)).1 = x ∧ (ps.getD t (0, 0)).2 = y) ∧ O + x * N / D = T ∧ Ck.missN O N D ps t = M) :
    Ck.missN O N D ps (t + 1) = if M < ((T - y).natAbs : Int) then ((T - y).natAbs : Int) else M := by
  obtain ⟨⟨h1, h2⟩, h3, h4⟩ := h
  have h5 := Ck.missN_nonneg O N D ps t
  rw [h4] at h5
  simp only [Ck.missN, h1, h2, h3, h4]
  split <;> omega
theorem miss_le {O N D B : Int} {ps : List (Int × Int)} : ∀ {t : Nat}, (∀ j, j < t → -B ≤ O + (ps.getD j (0, 0)).1 * N / D - (ps.getD j (0, 0)).2 ∧ O + (ps.getD j (0, 0)).1 * N / D - (ps.getD j (0, 0)).2 ≤ B ∧ 0 ≤ B) → 0 ≤ B → Ck.missN O N D ps t ≤ B
  | 0, _, h => h
  | t + 1, h, hB => by
    have h1 := miss_le (t := t) (fun j hj => h j (by omega)) hB
    have h2 := h t (by omega)
    simp only [Ck.missN]
    omega
theorem three_below {w W : World} (h : Below w.heap.size w W) (u v z : Value) : Below w.heap.size w (((W.setCell ⟨w.heap.size, 0, none⟩ u).setCell ⟨w.heap.size, 1, none⟩ v).setCell ⟨w.heap.size, 2, none⟩ z) :=
  ((h.setCell (p := ⟨w.heap.size, 0, none⟩) (Nat.le_refl _) _).setCell (p := ⟨w.heap.size, 1, none⟩) (Nat.le_refl _) _).setCell (p := ⟨w.heap.size, 2, none⟩) (Nat.le_refl _) _

set_option maxRecDepth 8000 in
set_option maxHeartbeats 40000000 in
theorem rfit_walk (b off c n : Nat) (ps : List (Int × Int)) (w : World) (hlen : ps.length = n) (hb : b < w.heap.size)
    (hc : ∀ j, j < n → w.cell? ⟨b, off + j * 2, none⟩ = some (.int .i64 (ps.getD j (0, 0)).1) ∧ w.cell? ⟨b, off + j * 2 + 1, none⟩ = some (.int .i64 (ps.getD j (0, 0)).2)) (hn : n ≤ 1024) (hn2 : 2 ≤ n) (hT : Tab w) :
    Calls Tryd.prog 6 #[.slice (some ⟨b, off, none⟩) n c] w fun e w' => e = .returned (fitR ps) ∧ Below w.heap.size w w' := by
  have H := Lib.hid hc
  have HL := Lib.hid hlen
  have HT := Lib.hid hT
  clear hc hlen hT
  go_enter Tryd.func6, Tryd.ntmps6
  go_wp2_with fail
  have HS := Lib.hid (show FitS w ((w.alloc (.cells #[.int .i64 0, .int .i64 0, .int .i64 0] 24)).alloc (.cells #[.int .i64 0, .int .i64 0, .int .i64 0] 24)) from Below.refl _ _)
  go_loopw [28] (fun i wr => ∃ k : Nat, k ≤ n ∧ i = .int .i64 (k : Int) ∧ Hid (∀ j, j < k → Ck.inT (ps.getD j (0, 0)).1 = true ∧ Ck.inT (ps.getD j (0, 0)).2 = true) ∧ Hid (FitS w wr)) (fun i _ => n - (intOf i).toNat)
  case atStart => exact ⟨0, by omega, rfl, Lib.hid (fun j hj => by omega), HS⟩
  case round =>
    obtain ⟨k, hk, rfl, hin, hst⟩ := hrel
    by_cases hlt : k < n
    · obtain ⟨x, hx⟩ : ∃ x, (ps.getD k (0, 0)).1 = x := ⟨_, rfl⟩
      obtain ⟨y, hy⟩ : ∃ y, (ps.getD k (0, 0)).2 = y := ⟨_, rfl⟩
      have hrow := H.out k hlt
      rw [hx, hy] at hrow
      obtain ⟨r1, r2⟩ := hst.out.row hb hrow
      have HX := Lib.hid (And.intro hx hy)
      clear hrow hx hy
      have hki : (k : Int) < (n : Int) := by omega
      have HB := Lib.hid (show FitS w (wr.alloc (.cells #[.int .i64 x, .int .i64 y] 44)) from hst.out.alloc _)
      by_cases hgood : (-1125899906842624 ≤ x ∧ x ≤ 1125899906842624) ∧ -1125899906842624 ≤ y ∧ y ≤ 1125899906842624
      · obtain ⟨⟨x1, x2⟩, y1, y2⟩ := hgood
        go_wp2_with fail
        go_roundw
        case rel => exact ⟨k + 1, by omega, by go_num, Lib.hid (fun j hj => by
            rcases Nat.lt_or_ge j k with h | h
            · exact hin.out j h
            · rw [show j = k by omega, HX.out.1, HX.out.2]; exact ⟨Ck.inT_iff.2 ⟨by omega, by omega⟩, Ck.inT_iff.2 ⟨by omega, by omega⟩⟩), HB⟩
        case measure => simp [intOf]; omega
      · obtain ⟨q0, q2, q3, q4, q5, q6, q7, q8, q9, q10, q11⟩ := hst.out.room
        have hbad : Hid (fitR ps = .tuple #[.agg #[.int .i64 0, .int .i64 0, .int .i64 0], .int .i64 0, .int .i64 1]) := Lib.hid (fitR_bad (Ck.fitE_range (by have := HL.out; omega) (j := k) (by have := HL.out; omega) (by
          rw [HX.out.1, HX.out.2, ← Bool.not_eq_true, ← Bool.not_eq_true, Ck.inT_iff, Ck.inT_iff]; omega)) (by decide))
        have hst3 := three_set (X := wr) (b := w.heap.size) (.int .i64 0) (.int .i64 0) (.int .i64 0) q5 q6 q7
        have HB3 := Lib.hid ((three_below hst.out.under (.int .i64 0) (.int .i64 0) (.int .i64 0)).alloc (by simp; omega) (.cells #[.int .i64 x, .int .i64 y] 44))
        rcases (by omega : x < -1125899906842624 ∨ (-1125899906842624 ≤ x ∧ 1125899906842624 < x) ∨ (-1125899906842624 ≤ x ∧ x ≤ 1125899906842624 ∧ y < -1125899906842624) ∨ (-1125899906842624 ≤ x ∧ x ≤ 1125899906842624 ∧ -1125899906842624 ≤ y ∧ 1125899906842624 < y)) with h | ⟨h, h'⟩ | ⟨h, h', h''⟩ | ⟨h, h', h'', h'''⟩
        all_goals (clear hgood; go_wp2_with fail)
        all_goals exact bodyPost_ret (by simp only [results, Tryd.results6]; simp [go_sem, World.cell?_alloc_lt, q0, hst3.1, hst3.2.1, hst3.2.2]; try rfl) rfl ⟨by rw [hbad.out], HB3.out⟩
    · have hkn : k = n := by omega
      subst hkn
      go_wp2_with fail
      obtain ⟨K1, hK1⟩ : ∃ K1, k - 1 = K1 := ⟨_, rfl⟩
      go_loopw [8] (fun i wr => ∃ j : Nat, j ≤ K1 ∧ i = .int .i64 ((j : Int) + 1) ∧ Hid (∀ t, t < j → (ps.getD t (0, 0)).1 < (ps.getD (t + 1) (0, 0)).1 ∧ (ps.getD t (0, 0)).2 < (ps.getD (t + 1) (0, 0)).2) ∧ Hid (FitS w wr)) (fun i _ => k - (intOf i).toNat)
      case atStart => exact ⟨0, by omega, rfl, Lib.hid (fun t ht => by omega), hst⟩
      case round =>
        obtain ⟨j, hj, rfl, hup, hst2⟩ := hrel
        by_cases hlt2 : j < K1
        · obtain ⟨x, hx⟩ : ∃ x, (ps.getD (j + 1) (0, 0)).1 = x := ⟨_, rfl⟩
          obtain ⟨y, hy⟩ : ∃ y, (ps.getD (j + 1) (0, 0)).2 = y := ⟨_, rfl⟩
          obtain ⟨x0, hx0⟩ : ∃ x, (ps.getD j (0, 0)).1 = x := ⟨_, rfl⟩
          obtain ⟨y0, hy0⟩ : ∃ y, (ps.getD j (0, 0)).2 = y := ⟨_, rfl⟩
          have hrow := H.out (j + 1) (by omega)
          have hrow0 := H.out j (by omega)
          rw [hx, hy] at hrow
          rw [hx0, hy0] at hrow0
          obtain ⟨r1, r2⟩ := hst2.out.row hb hrow
          obtain ⟨r3, r4⟩ := hst2.out.row hb hrow0
          have HX := Lib.hid (And.intro (And.intro hx hy) (And.intro hx0 hy0))
          have hki : (j : Int) + 1 < (k : Int) := by omega
          have hkj : (j : Int) < (k : Int) := by omega
          have s1 : IntKind.i64.wrap ((j : Int) + 1 - 1) = (j : Int) := by rw [IntWalk.i64_in _ (by omega)]; omega
          have s2 : ((j : Int) + 1).toNat = j + 1 := by omega
          have s3 : (0 : Int) ≤ (j : Int) + 1 := by omega
          clear hrow hrow0 hx hy hx0 hy0
          by_cases ix : x0 < x
          · have d1 : decide (x ≤ x0) = false := by simp; omega
            by_cases iy : y0 < y
            · go_wp2_with fail
              go_quiet (fail)
              go_wp2_with fail
              go_roundw
              case rel => exact ⟨j + 1, by omega, by go_num, Lib.hid (fun t ht => by
                  rcases Nat.lt_or_ge t j with h | h
                  · exact hup.out t h
                  · rw [show t = j by omega, HX.out.1.1, HX.out.1.2, HX.out.2.1, HX.out.2.2]; exact ⟨ix, iy⟩), Lib.hid (show FitS w _ from below_drewN hst2.out _)⟩
              case measure => simp [intOf]; omega
            · obtain ⟨q0, q2, q3, q4, q5, q6, q7, q8, q9, q10, q11⟩ := hst2.out.room
              have hbad : Hid (fitR ps = .tuple #[.agg #[.int .i64 0, .int .i64 0, .int .i64 0], .int .i64 0, .int .i64 131]) := Lib.hid (fitR_bad (Ck.fitE_fall (by have := HL.out; omega) (by rw [Ck.inL, decide_eq_true_eq, HL.out]; exact hin.out) (j := j) (by have := HL.out; omega) (.inr (by rw [HX.out.1.2, HX.out.2.2]; omega))) (by decide))
              go_wp2_with fail
              go_quiet (fail)
              go_wp2_with fail
              have hst3 := three_set (X := wr.drewN nq) (b := w.heap.size) (.int .i64 0) (.int .i64 0) (.int .i64 0) (by simpa using q5) (by simpa using q6) (by simpa using q7)
              exact bodyPost_ret (by simp only [results, Tryd.results6]; simp [go_sem, hst3.1, hst3.2.1, hst3.2.2]; try rfl) rfl ⟨by rw [hbad.out], three_below (below_drewN hst2.out.under nq) _ _ _⟩
          · have d1 : decide (x ≤ x0) = true := by simp; omega
            obtain ⟨q0, q2, q3, q4, q5, q6, q7, q8, q9, q10, q11⟩ := hst2.out.room
            have hbad : Hid (fitR ps = .tuple #[.agg #[.int .i64 0, .int .i64 0, .int .i64 0], .int .i64 0, .int .i64 131]) := Lib.hid (fitR_bad (Ck.fitE_fall (by have := HL.out; omega) (by rw [Ck.inL, decide_eq_true_eq, HL.out]; exact hin.out) (j := j) (by have := HL.out; omega) (.inl (by rw [HX.out.1.1, HX.out.2.1]; omega))) (by decide))
            go_wp2_with fail
            go_quiet (fail)
            go_wp2_with fail
            have hst3 := three_set (X := wr.drewN nq) (b := w.heap.size) (.int .i64 0) (.int .i64 0) (.int .i64 0) (by simpa using q5) (by simpa using q6) (by simpa using q7)
            exact bodyPost_ret (by simp only [results, Tryd.results6]; simp [go_sem, hst3.1, hst3.2.1, hst3.2.2]; try rfl) rfl ⟨by rw [hbad.out], three_below (below_drewN hst2.out.under nq) _ _ _⟩
        · have hjk : j = K1 := by omega
          subst hjk
          obtain ⟨x, hx⟩ : ∃ x, (ps.getD 0 (0, 0)).1 = x := ⟨_, rfl⟩
          obtain ⟨y, hy⟩ : ∃ y, (ps.getD 0 (0, 0)).2 = y := ⟨_, rfl⟩
          obtain ⟨x', hx'⟩ : ∃ x, (ps.getD (k - 1) (0, 0)).1 = x := ⟨_, rfl⟩
          obtain ⟨y', hy'⟩ : ∃ y, (ps.getD (k - 1) (0, 0)).2 = y := ⟨_, rfl⟩
          have hrow := H.out 0 (by omega)
          have hrow' := H.out (k - 1) (by omega)
          rw [hx, hy] at hrow
          rw [hx', hy'] at hrow'
          obtain ⟨r1, r2⟩ := hst2.out.row hb hrow
          obtain ⟨r3, r4⟩ := hst2.out.row hb hrow'
          simp only [Nat.zero_mul, Nat.add_zero] at r1 r2
          have HX := Lib.hid (And.intro (And.intro hx hy) (And.intro hx' hy'))
          have hw1 : IntKind.i64.wrap ((k : Int) - 1) = (j : Int) := by rw [IntWalk.i64_in _ (by omega)]; omega
          rw [hK1] at r3 r4
          have hki : (j : Int) < (k : Int) := by omega
          have hkz : (0 : Int) < (k : Int) := by omega
          have hbw : b < wr.heap.size := by have := hst2.out.big; omega
          have hbn : ¬ b = wr.heap.size := by omega
          have hbm : b < wr.heap.size + 1 := by omega
          have hbo : ¬ b = wr.heap.size + 1 := by omega
          have hkp : 0 < k := by omega
          have hkj : j < k := by omega
          have hdone : ¬ (j : Int) + 1 < (k : Int) := by omega
          clear hrow hrow' hx hy hx' hy'
          go_upto_region 17 with (fail)
          go_cut [9, 10] (fun p q wx => ∃ g h : Nat, p = .pointer (some ⟨g, 0, none⟩) ∧ q = .pointer (some ⟨h, 0, none⟩) ∧ g < wx.heap.size ∧ h < wx.heap.size ∧ wx.cell? ⟨g, 0, none⟩ = some (.int .i64 x) ∧ wx.cell? ⟨g, 1, none⟩ = some (.int .i64 y) ∧ wx.cell? ⟨h, 0, none⟩ = some (.int .i64 x') ∧ wx.cell? ⟨h, 1, none⟩ = some (.int .i64 y') ∧ FitS w wx)
          case first =>
            go_region
            all_goals go_wp2_with fail
            all_goals go_meet
            all_goals exact ⟨_, _, rfl, rfl, by (simp; try omega), by (simp; try omega), by simp [go_sem], by simp [go_sem], by simp [go_sem], by simp [go_sem], FitS.two hst2.out _ _⟩
          case rest =>
            obtain ⟨g, h, rfl, rfl, g0, h0, c0, c1, c2, c3, hF⟩ := hcut
            have HF := Lib.hid hF
            clear hF r1 r2 r3 r4 hbw hbn hbm hbo
            have HI : Hid (Ck.inL ps = true) := Lib.hid (by rw [Ck.inL, decide_eq_true_eq, HL.out]; exact hin.out)
            have HU : Hid (Ck.upL ps = true) := Lib.hid (by rw [Ck.upL, decide_eq_true_eq, HL.out, hK1]; exact hup.out)
            have HP : Hid (Ck.fstP ps = (x, y) ∧ Ck.lstP ps = (x', y')) := Lib.hid (by
              refine ⟨?_, ?_⟩
              · unfold Ck.fstP; rw [← HX.out.1.1, ← HX.out.1.2]
              · unfold Ck.lstP; rw [HL.out, ← HX.out.2.1, ← HX.out.2.2])
            have ha := (hin.out 0 (by omega))
            have hz := (hin.out (k - 1) (by omega))
            have he := Ck.upL_ends HU.out (by rw [HL.out]; omega)
            rw [HX.out.1.1, HX.out.1.2] at ha
            rw [HX.out.2.1, HX.out.2.2] at hz
            rw [HP.out.1, HP.out.2] at he
            simp only [Ck.inT_iff] at ha hz he
            obtain ⟨⟨a1, a2⟩, a3, a4⟩ := ha
            obtain ⟨⟨z1, z2⟩, z3, z4⟩ := hz
            obtain ⟨e1, e2⟩ := he
            obtain ⟨N, hN⟩ : ∃ N, Ck.fitN (x, y) (x', y') = N := ⟨_, rfl⟩
            obtain ⟨D, hD⟩ : ∃ D : Nat, Ck.fitD (x, y) (x', y') = (D : Int) := ⟨_, rfl⟩
            obtain ⟨ok, hok⟩ : ∃ ok, Ck.fitOk (x, y) (x', y') = ok := ⟨_, rfl⟩
            obtain ⟨gg, -, -, -, p1, p2⟩ := Ck.fit_parts (a := (x, y)) (b := (x', y')) e1 e2
            rw [hN] at p1
            rw [hD] at p2
            have hNR : ∀ W, Tab W → Calls Tryd.prog 20 #[.int .i64 (y' - y), .int .i64 (x' - x)] W (FreshR W N D 2) := fun W hW => by
              have h9 := newRat_any (y' - y) (x' - x).toNat W (by omega) (by omega) (by omega) (by omega) hW
              rw [show (((x' - x).toNat : Nat) : Int) = x' - x by omega] at h9
              have hab : (y' - y).natAbs = (y' - y).toNat := by omega
              have e3 : redX (y' - y) (x' - x).toNat = N := by
                rw [← hN]
                unfold redX Ck.fitN rateN
                rw [hab, Int.natCast_ediv]
                congr 1
                omega
              have e4 : redY (y' - y) (x' - x).toNat = D := by
                have : Ck.fitD (x, y) (x', y') = ((redY (y' - y) (x' - x).toNat : Nat) : Int) := by
                  unfold redY Ck.fitD rateD
                  rw [hab]
                omega
              rw [e3, e4] at h9
              exact h9
            have HNR := Lib.hid hNR
            have HN := Lib.hid (And.intro hN (And.intro hD hok))
            clear hN hD hok hNR
            have hTw := Lib.hid (HT.out.below HF.out.under)
            have HC := Lib.hid (And.intro (And.intro g0 h0) (And.intro c0 c1))
            go_wp2_with fail
            refine (HNR.out _ hTw.out).mono ?_
            rintro e W1 ⟨rb, rfl, hrb, hrb2, hrat, hb1⟩
            have HR1 := Lib.hid hrat
            have HB1 := Lib.hid hb1
            clear hrat c0 c1 c2 c3 g0 h0
            have c0 := (hb1.cell (p := ⟨g, 0, none⟩) HC.out.1.1).trans HC.out.2.1
            have c1 := (hb1.cell (p := ⟨g, 1, none⟩) HC.out.1.1).trans HC.out.2.2
            clear hb1
            go_wp2_with fail
            refine (newInt_any 1000000000 W1 (by omega) (by omega)).mono ?_
            rintro e W2 ⟨zm, rfl, hzm, -, him, hb2⟩
            have HM := Lib.hid him
            have HB2 := Lib.hid hb2
            have HF2 := Lib.hid ((HF.out.on HB1.out).on hb2)
            have HR2 := Lib.hid (show RatAt W2 rb 0 N D 2 from ⟨HR1.out.num.below hb2, HR1.out.den.below hb2, HR1.out.sa.below hb2, HR1.out.sb.below hb2⟩)
            have HC2 := Lib.hid (show g < W2.heap.size ∧ W2.cell? ⟨g, 0, none⟩ = some (.int .i64 x) ∧ W2.cell? ⟨g, 1, none⟩ = some (.int .i64 y) from
              ⟨by have := HC.out.1.1; have := HB1.out.size; have := hb2.size; omega, (hb2.cell (by have := HC.out.1.1; have := HB1.out.size; show g < _; omega)).trans c0, (hb2.cell (by have := HC.out.1.1; have := HB1.out.size; show g < _; omega)).trans c1⟩)
            clear him hb2 c0 c1 HR1
            go_wp2_with fail
            refine (num_any rb 0 W2).mono ?_
            rintro e W ⟨rfl, rfl⟩
            go_wp2_with fail
            have hcmp := Cmp_any _ _ N 1000000000 2 W2 HR2.out.num HM.out (by omega)
            obtain ⟨cc, hcc⟩ : ∃ cc, cmpI N 1000000000 = cc := ⟨_, rfl⟩
            rw [hcc] at hcmp
            refine hcmp.mono ?_
            rintro e W3 ⟨rfl, j3, rfl⟩
            clear hcmp
            by_cases hN1 : N ≤ 1000000000
            · have hcc0 : ¬ 0 < cc := by rw [← hcc]; unfold cmpI; split <;> (try split) <;> omega
              clear hcc
              go_wp2_with fail
              refine (denom_any rb 0 N D 2 (W2.drewN j3) ⟨HR2.out.num.below (below_drewN (Below.refl _ _) _), HR2.out.den.below (below_drewN (Below.refl _ _) _), HR2.out.sa.below (below_drewN (Below.refl _ _) _), HR2.out.sb.below (below_drewN (Below.refl _ _) _)⟩ (by omega)).mono ?_
              rintro e W4 ⟨zd, rfl, hzd, -, hid, hb4⟩
              have HB4 := Lib.hid (show Below W2.heap.size W2 W4 from (below_drewN (Below.refl _ _) j3).trans hb4)
              have HD4 := Lib.hid hid
              clear hid hb4
              go_wp2_with fail
              have hcmp := Cmp_any _ _ (D : Int) 1000000000 2 W4 HD4.out (HM.out.below HB4.out) (by omega)
              obtain ⟨cc2, hcc2⟩ : ∃ cc, cmpI (D : Int) 1000000000 = cc := ⟨_, rfl⟩
              rw [hcc2] at hcmp
              refine hcmp.mono ?_
              rintro e W5 ⟨rfl, j5, rfl⟩
              clear hcmp
              have HF5 := Lib.hid (show FitS w (W4.drewN j5) from below_drewN (HF2.out.on HB4.out) _)
              by_cases hD1 : D ≤ 1000000000
              · have hcc3 : ¬ 0 < cc2 := by rw [← hcc2]; unfold cmpI; split <;> (try split) <;> omega
                clear hcc2
                have hok : ok = true := by rw [← HN.out.2.2, fitOk_eq, HN.out.1, HN.out.2.1, decide_eq_true_eq]; omega
                subst hok
                have HR5 := Lib.hid (show RatAt (W4.drewN j5) rb 0 N D 2 from by
                  have hb := below_drewN HB4.out j5
                  exact ⟨HR2.out.num.below hb, HR2.out.den.below hb, HR2.out.sa.below hb, HR2.out.sb.below hb⟩)
                have HC5 := Lib.hid (show g < (W4.drewN j5).heap.size ∧ (W4.drewN j5).cell? ⟨g, 0, none⟩ = some (.int .i64 x) ∧ (W4.drewN j5).cell? ⟨g, 1, none⟩ = some (.int .i64 y) from
                  ⟨Nat.lt_of_lt_of_le HC2.out.1 HB4.out.size, (HB4.out.cell (by exact HC2.out.1)).trans HC2.out.2.1, (HB4.out.cell (by exact HC2.out.1)).trans HC2.out.2.2⟩)
                clear HB1 HB2 HB4 HD4 HR2 HC2 HF2 HF HC HM
                go_wp2_with fail
                generalize W4.drewN j5 = V0 at *
                refine (num_any rb 0 V0).mono ?_
                rintro e V ⟨rfl, rfl⟩
                go_wp2_with fail
                refine (Int64_any _ N 2 V0 HR5.out.num (by omega) (by omega)).mono ?_
                rintro e V ⟨rfl, rfl⟩
                go_wp2_with fail
                refine (denom_any rb 0 N D 2 V0 HR5.out (by omega)).mono ?_
                rintro e V1 ⟨zd1, rfl, hzd1, -, hid1, hv1⟩
                have HI1 := Lib.hid hid1
                have HV1 := Lib.hid hv1
                clear hid1 hv1
                go_wp2_with fail
                refine (Int64_any _ (D : Int) 2 V1 HI1.out (by omega) (by omega)).mono ?_
                rintro e V ⟨rfl, rfl⟩
                have hf1 := HF5.out.on HV1.out
                have k0 := (HV1.out.cell (p := ⟨g, 0, none⟩) HC5.out.1).trans HC5.out.2.1
                have k1 := (HV1.out.cell (p := ⟨g, 1, none⟩) HC5.out.1).trans HC5.out.2.2
                have kg : g < V1.heap.size := Nat.lt_of_lt_of_le HC5.out.1 HV1.out.size
                have k0 := (World.cell?_alloc_lt V1 (.cells #[.int .i64 0, .int .i64 N, .int .i64 (D : Int)] 24) ⟨g, 0, none⟩ kg).trans k0
                have k1 := (World.cell?_alloc_lt V1 (.cells #[.int .i64 0, .int .i64 N, .int .i64 (D : Int)] 24) ⟨g, 1, none⟩ kg).trans k1
                obtain ⟨m0, m1, m2, m3, m4⟩ := new_clk V1 0 N (D : Int) 24
                have kg2 : g < (V1.alloc (.cells #[.int .i64 0, .int .i64 N, .int .i64 (D : Int)] 24)).heap.size := by simp; omega
                have hgc : ¬ g = V1.heap.size := by omega
                have hcb : w.heap.size + 2 ≤ V1.heap.size := hf1.big
                have HG := Lib.hid (show FitS w (V1.alloc (.cells #[.int .i64 0, .int .i64 N, .int .i64 (D : Int)] 24)) from hf1.alloc _)
                clear hf1 HI1 HV1 HC5 HF5 HR5
                have HKK := Lib.hid (And.intro (And.intro k0 k1) (And.intro kg2 (And.intro (And.intro m0 (And.intro m1 m2)) (And.intro m3 m4))))
                clear k0 k1 kg kg2 m0 m1 m2 m3 m4
                go_upto_region 23 with (fail)
                generalize V1.alloc (.cells #[.int .i64 0, .int .i64 N, .int .i64 (D : Int)] 24) = V2 at *
                generalize V1.heap.size = cb at *
                obtain ⟨k0, k1⟩ := HKK.out.1
                obtain ⟨m0, m1, m2⟩ := HKK.out.2.2.1
                go_wp2_with fail
                refine (floor_any x N D V2 (by omega) (by omega) (by omega) (by omega) (by omega) (by omega)).mono ?_
                rintro e V3 ⟨zq, rfl, hzq, hsq, hiq, hv3⟩
                obtain ⟨q, hq⟩ : ∃ q, x * N / (D : Int) = q := ⟨_, rfl⟩
                rw [hq] at hiq
                have HIQ := Lib.hid (And.intro hiq (And.intro hsq (And.intro hzq hq)))
                have HV3 := Lib.hid hv3
                have c1 := (hv3.cell (p := ⟨g, 1, none⟩) (by exact HKK.out.2.1)).trans k1
                clear k0 k1 m0 m1 m2 hiq hsq hzq hv3 hq
                go_wp2_with fail
                refine (newInt_any y V3 (by omega) (by omega)).mono ?_
                rintro e V4 ⟨zy, rfl, hzy, -, hiy, hv4⟩
                have HIY := Lib.hid hiy
                have HV4 := Lib.hid hv4
                clear c1 hiy hv4 hzy
                go_wp2_with fail
                refine (Sub_any zq zy zq y q 5 V4 (HIQ.out.2.1.below HV4.out) (HIY.out.more (by omega)) (HIQ.out.1.below HV4.out) (by omega)).mono ?_
                rintro e V5 hg5
                have HG5 := Lib.hid hg5
                obtain ⟨rfl, -⟩ := hg5
                have HB25 := Lib.hid (show Below V2.heap.size V2 V5 from (HV3.out.trans (HV4.out.mono HV3.out.size)).trans (HG5.out.2.1.below HIQ.out.2.2.1 (by have := HV3.out.size; have := HV4.out.size; omega)))
                obtain ⟨O, hO⟩ : ∃ O, y - q = O := ⟨_, rfl⟩
                have HIO := Lib.hid (show IntAt V5 zq O 6 from by have := HG5.out.2.2; rwa [hO] at this)
                have HOE := Lib.hid hO
                clear HG5 hO HV3 HV4 HIY
                go_wp2_with fail
                refine (rwithin_any zq O 1125899906842624 6 V5 HIO.out (by omega) (by omega) (by omega) (by omega)).mono ?_
                rintro e V6 ⟨rfl, hv6⟩
                have HB26 := Lib.hid (show Below V2.heap.size V2 V6 from HB25.out.trans (hv6.mono HB25.out.size))
                clear hv6 HB25 HIO
                have HO2 : Hid (Ck.fitO (Ck.fstP ps) (Ck.lstP ps) = O) := Lib.hid (by
                  rw [HP.out.1, HP.out.2]
                  unfold Ck.fitO
                  rw [HN.out.1, HN.out.2.1, HIQ.out.2.2.2, HOE.out])
                have HF6 := Lib.hid (HG.out.on HB26.out)
                by_cases iO : Ck.inT O = true
                · have hwv : wiV O 1125899906842624 = O ∧ wiE O 1125899906842624 = 0 := by
                    rw [Ck.inT_iff] at iO
                    unfold wiV wiE
                    rw [if_pos iO, if_pos iO]
                    exact ⟨rfl, rfl⟩
                  rw [hwv.1, hwv.2]
                  have HIw := Lib.hid iO
                  have m0 := (HB26.out.cell (p := ⟨cb, 0, none⟩) (by exact HKK.out.2.2.2.2)).trans HKK.out.2.2.1.1
                  have m1 := (HB26.out.cell (p := ⟨cb, 1, none⟩) (by exact HKK.out.2.2.2.2)).trans HKK.out.2.2.1.2.1
                  have m2 := (HB26.out.cell (p := ⟨cb, 2, none⟩) (by exact HKK.out.2.2.2.2)).trans HKK.out.2.2.1.2.2
                  have m3 := (HB26.out.frozen (p := ⟨cb, 0, none⟩) (by exact HKK.out.2.2.2.2)).trans HKK.out.2.2.2.1
                  have m4 : cb < V6.heap.size := Nat.lt_of_lt_of_le HKK.out.2.2.2.2 HB26.out.size
                  clear iO hwv
                  have HZ : Hid (Ck.fitE ps = 0) := Lib.hid (Ck.fitE_ok (by rw [HL.out]; exact hn) (by rw [HL.out]; exact hn2) HI.out HU.out (by rw [HP.out.1, HP.out.2]; exact HN.out.2.2) (by rw [HO2.out]; exact HIw.out))
                  have HKO : Hid (Ck.okc O N (D : Int) = true) := Lib.hid (by
                    have := Ck.fit_okc HU.out (by rw [HL.out]; exact hn2) (by rw [HP.out.1, HP.out.2]; exact HN.out.2.2) O
                    rw [HP.out.1, HP.out.2, HN.out.1, HN.out.2.1] at this
                    rw [this]; exact HIw.out)
                  have HF7 := Lib.hid (show FitS w ((V6.setCell ⟨cb, 0, none⟩ (.int .i64 O)).alloc (.cells #[.bool false, .slice none 0 0] 68)) from (Below.setCell HF6.out (p := ⟨cb, 0, none⟩) (by show _ ≤ cb; omega) _).alloc (by have := HF6.out.big; simp; omega) _)
                  have HM7 := Lib.hid (show ((V6.setCell ⟨cb, 0, none⟩ (.int .i64 O)).alloc (.cells #[.bool false, .slice none 0 0] 68)).cell? ⟨cb, 0, none⟩ = some (.int .i64 O) ∧ ((V6.setCell ⟨cb, 0, none⟩ (.int .i64 O)).alloc (.cells #[.bool false, .slice none 0 0] 68)).cell? ⟨cb, 1, none⟩ = some (.int .i64 N) ∧ ((V6.setCell ⟨cb, 0, none⟩ (.int .i64 O)).alloc (.cells #[.bool false, .slice none 0 0] 68)).cell? ⟨cb, 2, none⟩ = some (.int .i64 (D : Int)) ∧ cb < ((V6.setCell ⟨cb, 0, none⟩ (.int .i64 O)).alloc (.cells #[.bool false, .slice none 0 0] 68)).heap.size from by
                    refine ⟨?_, ?_, ?_, ?_⟩ <;> simp [go_sem, m0, m1, m2, World.cell?_alloc_lt, m4])
                  have HI7 := Lib.hid (show IntAt ((V6.setCell ⟨cb, 0, none⟩ (.int .i64 O)).alloc (.cells #[.bool false, .slice none 0 0] 68)) ⟨V6.heap.size, 0, none⟩ 0 7 from
                    ⟨V6.heap.size, 0, false, .slice none 0 0, 0, rfl, by simp, by simp [go_sem], by simp [go_sem], MagN.zero0 _ _, rfl, fun h => by cases h⟩)
                  go_wp2_with fail
                  clear m0 m1 m2 m3 m4
                  generalize hV7 : (V6.setCell ⟨cb, 0, none⟩ (.int .i64 O)).alloc (.cells #[.bool false, .slice none 0 0] 68) = V7 at *
                  clear hV7
                  have HBB := Lib.hid (And.intro a1 (And.intro a2 (And.intro p1 p2)))
                  go_loopw [17, 156] (fun zv i wr => ∃ (t : Nat) (za : Addr), t ≤ k ∧ i = .int .i64 (t : Int) ∧ zv = .pointer (some za) ∧ Hid (Below V7.heap.size V7 wr ∧ IntAt wr za (Ck.missN O N (D : Int) ps t) 7)) (fun _ i _ => k - (intOf i).toNat)
                  case atStart => exact ⟨0, _, by omega, rfl, rfl, Lib.hid ⟨Below.refl _ _, HI7.out⟩⟩
                  case round =>
                    obtain ⟨t, za, ht, rfl, rfl, hst3⟩ := hrel
                    have m0 := (hst3.out.1.cell (p := ⟨cb, 0, none⟩) (by exact HM7.out.2.2.2)).trans HM7.out.1
                    have m1 := (hst3.out.1.cell (p := ⟨cb, 1, none⟩) (by exact HM7.out.2.2.2)).trans HM7.out.2.1
                    have m2 := (hst3.out.1.cell (p := ⟨cb, 2, none⟩) (by exact HM7.out.2.2.2)).trans HM7.out.2.2.1
                    have m5 : cb < wr.heap.size := Nat.lt_of_lt_of_le HM7.out.2.2.2 hst3.out.1.size
                    have HW6 := Lib.hid (HF7.out.on hst3.out.1)
                    by_cases hlt3 : t < k
                    · obtain ⟨x2, hx2⟩ : ∃ x, (ps.getD t (0, 0)).1 = x := ⟨_, rfl⟩
                      obtain ⟨y2, hy2⟩ : ∃ y, (ps.getD t (0, 0)).2 = y := ⟨_, rfl⟩
                      have hrow := H.out t hlt3
                      have hbd := hin.out t hlt3
                      have hfa := Ck.fit_at HZ.out (j := t) (by rw [HL.out]; exact hlt3)
                      rw [hx2, hy2] at hrow hbd
                      rw [hx2, HO2.out, HP.out.1, HP.out.2, HN.out.1, HN.out.2.1] at hfa
                      obtain ⟨T2, hT2⟩ : ∃ T2, O + x2 * N / (D : Int) = T2 := ⟨_, rfl⟩
                      have hpl := fun W => rplain_any O N x2 D W HKO.out (Ck.inT_iff.1 hbd.1).1 (Ck.inT_iff.1 hbd.1).2
                      unfold clk at hpl
                      rw [hT2] at hfa hpl
                      have HPL := Lib.hid hpl
                      simp only [Ck.inT_iff] at hbd hfa
                      obtain ⟨b1, b2, b3⟩ := hbd
                      obtain ⟨-, b4, b5⟩ := hfa
                      obtain ⟨r1, r2⟩ := HW6.out.row hb hrow
                      obtain ⟨M, hM⟩ : ∃ M, Ck.missN O N (D : Int) ps t = M := ⟨_, rfl⟩
                      have HX2 := Lib.hid (And.intro (And.intro hx2 hy2) (And.intro hT2 hM))
                      have HIA := Lib.hid (show IntAt wr za M 7 from by rw [← hM]; exact hst3.out.2)
                      have d0 : (wr.alloc (.cells #[.int .i64 x2, .int .i64 y2] 44)).cell? ⟨wr.heap.size, 1, none⟩ = some (.int .i64 y2) := by simp [go_sem]
                      have HD0 := Lib.hid d0
                      clear hrow hx2 hy2 hpl hT2 hM d0
                      have hki : (t : Int) < (k : Int) := by omega
                      go_wp2_with fail
                      refine (HPL.out _).mono ?_
                      rintro e W2 ⟨zp, rfl, hzp, hsp, hip, hw2⟩
                      have d0 := (hw2.cell (p := ⟨wr.heap.size, 1, none⟩) (by simp)).trans HD0.out
                      have HIP := Lib.hid (And.intro hip (And.intro hsp hzp))
                      have HW2 := Lib.hid hw2
                      clear hip hsp hzp hw2
                      go_wp2_with fail
                      refine (newInt_any y2 W2 (by omega) (by omega)).mono ?_
                      rintro e W3 ⟨zt, rfl, hzt, -, hit, hw3⟩
                      have HIT := Lib.hid hit
                      have HW3 := Lib.hid hw3
                      clear hit hzt hw3 d0
                      go_wp2_with fail
                      refine (Sub_any zp zp zt T2 y2 6 W3 (HIP.out.2.1.below HW3.out) (HIP.out.1.below HW3.out) (HIT.out.more (by omega)) (by omega)).mono ?_
                      rintro e W4 hg4
                      have HG4 := Lib.hid hg4
                      obtain ⟨rfl, -⟩ := hg4
                      have HS4 := Lib.hid (HG4.out.2.1.slot (HIP.out.2.1.below HW3.out) (HIP.out.2.1.below HW3.out))
                      go_wp2_with fail
                      refine (Abs_any zp zp (T2 - y2) 7 W4 HS4.out HG4.out.2.2 (by omega)).mono ?_
                      rintro e W5 hg5
                      have HG5 := Lib.hid hg5
                      obtain ⟨rfl, -⟩ := hg5
                      have hzb : wr.heap.size ≤ zp.block := by have := HIP.out.2.2; simp at this; omega
                      have hs23 : wr.heap.size ≤ W3.heap.size := by have := HW2.out.size; have := HW3.out.size; simp at *; omega
                      have hbr : Below wr.heap.size wr W5 := by
                        have h1 : Below wr.heap.size wr (wr.alloc (.cells #[.int .i64 x2, .int .i64 y2] 44)) := (Below.refl _ _).alloc (Nat.le_refl _) _
                        have h2 := h1.trans (HW2.out.mono (by simp))
                        have h3 := h2.trans (HW3.out.mono h2.size)
                        have h4 := h3.trans (HG4.out.2.1.below hzb hs23)
                        exact h4.trans (HG5.out.2.1.below hzb h4.size)
                      have HBR := Lib.hid hbr
                      have HA5 := Lib.hid (HIA.out.below hbr)
                      clear hbr hs23
                      go_wp2_with fail
                      have hcmp := Cmp_any zp za ((T2 - y2).natAbs : Int) M 7 W5 HG5.out.2.2 HA5.out (by omega)
                      obtain ⟨cc, hcc⟩ : ∃ cc, cmpI ((T2 - y2).natAbs : Int) M = cc := ⟨_, rfl⟩
                      rw [hcc] at hcmp
                      refine hcmp.mono ?_
                      rintro e W6 ⟨rfl, j6, rfl⟩
                      clear hcmp
                      by_cases hgt : M < ((T2 - y2).natAbs : Int)
                      · have hc0 : 0 < cc := by rw [← hcc]; unfold cmpI; rw [if_neg (by omega), if_pos hgt]; omega
                        clear hcc
                        go_wp2_with fail
                        go_roundw
                        case rel => exact ⟨t + 1, zp, by omega, by go_num, rfl, Lib.hid ⟨below_drewN (hst3.out.1.trans (HBR.out.mono hst3.out.1.size)) _, by rw [miss_abs HX2.out, if_pos hgt]; exact HG5.out.2.2⟩⟩
                        case measure => simp [intOf]; omega
                      · have hc0 : ¬ 0 < cc := by rw [← hcc]; unfold cmpI; split <;> (try split) <;> omega
                        clear hcc
                        go_wp2_with fail
                        go_roundw
                        case rel => exact ⟨t + 1, za, by omega, by go_num, rfl, Lib.hid ⟨below_drewN (hst3.out.1.trans (HBR.out.mono hst3.out.1.size)) _, by rw [miss_abs HX2.out, if_neg (by omega)]; exact HA5.out⟩⟩
                        case measure => simp [intOf]; omega
                    · have htk : t = k := by omega
                      subst htk
                      obtain ⟨q0, q2, q3, q4, q5, q6, q7, q8, q9, q10, q11⟩ := HW6.out.room
                      obtain ⟨M, hM⟩ : ∃ M, Ck.missN O N (D : Int) ps t = M := ⟨_, rfl⟩
                      have HIA := Lib.hid (show IntAt wr za M 7 from by rw [← hM]; exact hst3.out.2)
                      have hM0 : 0 ≤ M ∧ M ≤ 2251799813685248 := by
                        rw [← hM]
                        refine ⟨Ck.missN_nonneg _ _ _ _ _, miss_le (fun j hj => ?_) (by omega)⟩
                        have hbd := hin.out j hj
                        have hfa := Ck.fit_at HZ.out (j := j) (by rw [HL.out]; exact hj)
                        rw [HO2.out, HP.out.1, HP.out.2, HN.out.1, HN.out.2.1] at hfa
                        simp only [Ck.inT_iff] at hbd hfa
                        omega
                      have HMM := Lib.hid hM
                      clear hM
                      obtain ⟨hM1, hM2⟩ := hM0
                      have hend : fitR ps = .tuple #[.agg #[.int .i64 O, .int .i64 N, .int .i64 (D : Int)], .int .i64 M, .int .i64 0] := by
                        unfold fitR Ck.fitW
                        rw [if_pos HZ.out, HO2.out, HP.out.1, HP.out.2, HN.out.1, HN.out.2.1, HL.out, HMM.out]
                        rfl
                      have HE := Lib.hid hend
                      clear hend
                      go_wp2_with fail
                      have HCB := Lib.hid (show wr.drew.cell? ⟨cb, 0, none⟩ = some (.int .i64 O) ∧ wr.drew.cell? ⟨cb, 1, none⟩ = some (.int .i64 N) ∧ wr.drew.cell? ⟨cb, 2, none⟩ = some (.int .i64 (D : Int)) from ⟨m0, m1, m2⟩)
                      have hne : ¬ w.heap.size = cb := by omega
                      have HCB2 := Lib.hid (show (((wr.setCell ⟨w.heap.size, 0, none⟩ (.int .i64 O)).setCell ⟨w.heap.size, 1, none⟩ (.int .i64 N)).setCell ⟨w.heap.size, 2, none⟩ (.int .i64 (D : Int))).drew.cell? ⟨cb, 0, none⟩ = some (.int .i64 O) ∧ (((wr.setCell ⟨w.heap.size, 0, none⟩ (.int .i64 O)).setCell ⟨w.heap.size, 1, none⟩ (.int .i64 N)).setCell ⟨w.heap.size, 2, none⟩ (.int .i64 (D : Int))).drew.cell? ⟨cb, 1, none⟩ = some (.int .i64 N) ∧ (((wr.setCell ⟨w.heap.size, 0, none⟩ (.int .i64 O)).setCell ⟨w.heap.size, 1, none⟩ (.int .i64 N)).setCell ⟨w.heap.size, 2, none⟩ (.int .i64 (D : Int))).drew.cell? ⟨cb, 2, none⟩ = some (.int .i64 (D : Int)) from by
                        refine ⟨?_, ?_, ?_⟩
                        · rw [show ∀ W : World, W.drew.cell? ⟨cb, 0, none⟩ = W.cell? ⟨cb, 0, none⟩ from fun _ => rfl, World.cell?_setCell_other _ _ _ _ (by intro e; injection e; omega), World.cell?_setCell_other _ _ _ _ (by intro e; injection e; omega), World.cell?_setCell_other _ _ _ _ (by intro e; injection e; omega)]; exact m0
                        · rw [show ∀ W : World, W.drew.cell? ⟨cb, 1, none⟩ = W.cell? ⟨cb, 1, none⟩ from fun _ => rfl, World.cell?_setCell_other _ _ _ _ (by intro e; injection e; omega), World.cell?_setCell_other _ _ _ _ (by intro e; injection e; omega), World.cell?_setCell_other _ _ _ _ (by intro e; injection e; omega)]; exact m1
                        · rw [show ∀ W : World, W.drew.cell? ⟨cb, 2, none⟩ = W.cell? ⟨cb, 2, none⟩ from fun _ => rfl, World.cell?_setCell_other _ _ _ _ (by intro e; injection e; omega), World.cell?_setCell_other _ _ _ _ (by intro e; injection e; omega), World.cell?_setCell_other _ _ _ _ (by intro e; injection e; omega)]; exact m2)
                      clear hne
                      have HI64 := Lib.hid (Int64_any za M 7 wr.drew (HIA.out.below (Below.refl _ _).drew) (by omega) (by omega))
                      go_region_held3 (fun w' => w'.cell? ⟨cb, 0, none⟩ = some (.int .i64 O) ∧ w'.cell? ⟨cb, 1, none⟩ = some (.int .i64 N) ∧ w'.cell? ⟨cb, 2, none⟩ = some (.int .i64 (D : Int)))
                        (first | exact HCB.out | exact HCB2.out | go_keep)
                        ((go_at_call 25; refine HI64.out.mono ?_; rintro e V ⟨rfl, rfl⟩))
                      go_wp2_with fail
                      have hst4 := three_set (X := wr) (b := w.heap.size) (.int .i64 O) (.int .i64 N) (.int .i64 (D : Int)) q5 q6 q7
                      exact bodyPost_ret (by simp only [results, Tryd.results6]; simp [go_sem, hst4.1, hst4.2.1, hst4.2.2]; try rfl) rfl ⟨by rw [HE.out], (three_below HW6.out.under _ _ _).drew⟩
                ·
                  have hwv : wiV O 1125899906842624 = 0 ∧ wiE O 1125899906842624 = 1 := by
                    rw [Ck.inT_iff] at iO
                    unfold wiV wiE
                    rw [if_neg iO, if_neg iO]
                    exact ⟨rfl, rfl⟩
                  rw [hwv.1, hwv.2]
                  obtain ⟨q0, q2, q3, q4, q5, q6, q7, q8, q9, q10, q11⟩ := HF6.out.room
                  have hbad : Hid (fitR ps = .tuple #[.agg #[.int .i64 0, .int .i64 0, .int .i64 0], .int .i64 0, .int .i64 130]) := Lib.hid (fitR_bad (Ck.fitE_clock (by rw [HL.out]; exact hn) (by rw [HL.out]; exact hn2) HI.out HU.out (by rw [HP.out.1, HP.out.2]; exact HN.out.2.2) (by rw [HO2.out]; simpa using iO)) (by decide))
                  clear iO hwv
                  go_wp2_with fail
                  have hst3 := three_set (X := V6) (b := w.heap.size) (.int .i64 0) (.int .i64 0) (.int .i64 0) q5 q6 q7
                  exact bodyPost_ret (by simp only [results, Tryd.results6]; simp [go_sem, hst3.1, hst3.2.1, hst3.2.2]; try rfl) rfl ⟨by rw [hbad.out], three_below HF6.out.under _ _ _⟩
              ·
                have hcc3 : 0 < cc2 := by rw [← hcc2]; unfold cmpI; split <;> (try split) <;> omega
                clear hcc2
                obtain ⟨q0, q2, q3, q4, q5, q6, q7, q8, q9, q10, q11⟩ := HF5.out.room
                have hbad : Hid (fitR ps = .tuple #[.agg #[.int .i64 0, .int .i64 0, .int .i64 0], .int .i64 0, .int .i64 131]) := Lib.hid (fitR_bad (Ck.fitE_rate (by rw [HL.out]; exact hn) (by rw [HL.out]; exact hn2) HI.out HU.out (by
                  rw [HP.out.1, HP.out.2, fitOk_eq, HN.out.1, HN.out.2.1, decide_eq_false_iff_not]; omega)) (by decide))
                go_wp2_with fail
                have hst3 := three_set (X := W4.drewN j5) (b := w.heap.size) (.int .i64 0) (.int .i64 0) (.int .i64 0) q5 q6 q7
                exact bodyPost_ret (by simp only [results, Tryd.results6]; simp [go_sem, hst3.1, hst3.2.1, hst3.2.2]; try rfl) rfl ⟨by rw [hbad.out], three_below HF5.out.under _ _ _⟩
            ·
              have hcc0 : 0 < cc := by rw [← hcc]; unfold cmpI; split <;> (try split) <;> omega
              clear hcc
              have HF3 := Lib.hid (show FitS w (W2.drewN j3) from below_drewN HF2.out _)
              obtain ⟨q0, q2, q3, q4, q5, q6, q7, q8, q9, q10, q11⟩ := HF3.out.room
              have hbad : Hid (fitR ps = .tuple #[.agg #[.int .i64 0, .int .i64 0, .int .i64 0], .int .i64 0, .int .i64 131]) := Lib.hid (fitR_bad (Ck.fitE_rate (by rw [HL.out]; exact hn) (by rw [HL.out]; exact hn2) HI.out HU.out (by
                  rw [HP.out.1, HP.out.2, fitOk_eq, HN.out.1, HN.out.2.1, decide_eq_false_iff_not]; omega)) (by decide))
              go_wp2_with fail
              have hst3 := three_set (X := W2.drewN j3) (b := w.heap.size) (.int .i64 0) (.int .i64 0) (.int .i64 0) q5 q6 q7
              exact bodyPost_ret (by simp only [results, Tryd.results6]; simp [go_sem, hst3.1, hst3.2.1, hst3.2.2]; try rfl) rfl ⟨by rw [hbad.out], three_below HF3.out.under _ _ _⟩
end Go.Proofs.YtiohemofidphjaaDoor
