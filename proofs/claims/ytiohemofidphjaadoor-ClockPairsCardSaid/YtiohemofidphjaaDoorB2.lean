/- Contract of clock Then: one clock behind another. No condition. -/
import Derived.Test.YtiohemofidphjaaDoorB1
import Derived.Deep.DeepFit
namespace Go.Proofs.YtiohemofidphjaaDoor
open Go.RowKit

theorem rate_int (x y : Int) (w : World) (hx : 1 ≤ x) (hx' : x ≤ 9223372036854775807) (hy : 1 ≤ y) (hy' : y ≤ 9223372036854775807) :
    Calls Tryd.prog 15 #[.int .i64 x, .int .i64 y] w fun e w' => e = .returned (.tuple #[clk 0 (rateN x.toNat y.toNat) (rateD x.toNat y.toNat), .bool (rateOk x.toNat y.toNat)]) ∧ Below w.heap.size w w' := by
  have h := rate_any x.toNat y.toNat w (by omega) (by omega) (by omega) (by omega)
  rwa [show ((x.toNat : Nat) : Int) = x by omega, show ((y.toNat : Nat) : Int) = y by omega] at h

theorem mul_bd {a b : Int} (a0 : 1 ≤ a) (a1 : a ≤ 1000000000) (b0 : 1 ≤ b) (b1 : b ≤ 1000000000) : 1 ≤ a * b ∧ a * b ≤ 1000000000000000000 := by
  have h1 : a * b ≤ 1000000000 * b := Int.mul_le_mul_of_nonneg_right a1 (by omega)
  have h2 : 1 * b ≤ a * b := Int.mul_le_mul_of_nonneg_right a0 (by omega)
  omega

theorem bcell_alloc {W x : World} (hb : Below W.heap.size W x) : (∀ (o : Obj) b i, b < W.heap.size → (x.alloc o).cell? ⟨b, i, none⟩ = W.cell? ⟨b, i, none⟩) ∧ (∀ (o : Obj) b i, b < W.heap.size → (x.alloc o).frozen? ⟨b, i, none⟩ = W.frozen? ⟨b, i, none⟩) := by
  refine ⟨fun o b i h => ?_, fun o b i h => ?_⟩
  · rw [World.cell?_alloc_lt x o ⟨b, i, none⟩ (Nat.lt_of_lt_of_le h hb.size)]
    exact hb.cell (p := ⟨b, i, none⟩) h
  · rw [World.frozen?_alloc_old x o ⟨b, i, none⟩ (by have := hb.size; simp; omega)]
    exact hb.frozen (p := ⟨b, i, none⟩) h
theorem below_a3 {w x : World} {o1 o2 o3 : Obj} (h : Below (((w.alloc o1).alloc o2).alloc o3).heap.size (((w.alloc o1).alloc o2).alloc o3) x) : Below w.heap.size w x :=
  ((((Below.refl _ _).alloc (Nat.le_refl _) _).alloc (by simp) _).alloc (by simp; omega) _).trans (h.mono (by simp; omega))
theorem then_end1 {w x : World} {o1 o2 o3 o4 : Obj} {a b c : Value} (h : Below (((w.alloc o1).alloc o2).alloc o3).heap.size (((w.alloc o1).alloc o2).alloc o3) x) :
    Below w.heap.size w ((((x.setCell ⟨w.heap.size + 1 + 1, 0, none⟩ a).setCell ⟨w.heap.size + 1 + 1, 1, none⟩ b).setCell ⟨w.heap.size + 1 + 1, 2, none⟩ c).alloc o4) := by
  have hs := h.size
  simp only [World.size_alloc] at hs
  exact ((((below_a3 h).setCell (by simp; omega) _).setCell (by simp; omega) _).setCell (by simp; omega) _).alloc (by simp; omega) _

theorem three_set {X : World} {b : Nat} {p q r : Value} (u v z : Value) (h0 : X.cell? ⟨b, 0, none⟩ = some p) (h1 : X.cell? ⟨b, 1, none⟩ = some q) (h2 : X.cell? ⟨b, 2, none⟩ = some r) :
    (((X.setCell ⟨b, 0, none⟩ u).setCell ⟨b, 1, none⟩ v).setCell ⟨b, 2, none⟩ z).cell? ⟨b, 0, none⟩ = some u ∧ (((X.setCell ⟨b, 0, none⟩ u).setCell ⟨b, 1, none⟩ v).setCell ⟨b, 2, none⟩ z).cell? ⟨b, 1, none⟩ = some v ∧
    (((X.setCell ⟨b, 0, none⟩ u).setCell ⟨b, 1, none⟩ v).setCell ⟨b, 2, none⟩ z).cell? ⟨b, 2, none⟩ = some z := by
  simp [go_sem, h0, h1, h2]
theorem then_end2 {w x y : World} {o1 o2 o3 o4 : Obj} {t a b c : Value} (h : Below (((w.alloc o1).alloc o2).alloc o3).heap.size (((w.alloc o1).alloc o2).alloc o3) x) (h4 : Below (x.alloc o4).heap.size (x.alloc o4) y) :
    Below w.heap.size w ((((y.setCell ⟨x.heap.size, 0, none⟩ t).setCell ⟨w.heap.size + 1 + 1, 0, none⟩ a).setCell ⟨w.heap.size + 1 + 1, 1, none⟩ b).setCell ⟨w.heap.size + 1 + 1, 2, none⟩ c) := by
  have hs := h.size
  simp only [World.size_alloc] at hs
  exact (((((below_a3 h).alloc (by omega) _).trans (h4.mono (by simp; omega))).setCell (by simp; omega) _).setCell (by simp; omega) _ |>.setCell (by simp; omega) _).setCell (by simp; omega) _
theorem then_end3 {w x y : World} {o1 o2 o3 o4 : Obj} {a b c : Value} (h : Below (((w.alloc o1).alloc o2).alloc o3).heap.size (((w.alloc o1).alloc o2).alloc o3) x) (h4 : Below (x.alloc o4).heap.size (x.alloc o4) y) :
    Below w.heap.size w (((y.setCell ⟨w.heap.size + 1 + 1, 0, none⟩ a).setCell ⟨w.heap.size + 1 + 1, 1, none⟩ b).setCell ⟨w.heap.size + 1 + 1, 2, none⟩ c) := by
  have hs := h.size
  simp only [World.size_alloc] at hs
  exact ((((below_a3 h).alloc (by omega) _).trans (h4.mono (by simp; omega))).setCell (by simp; omega) _).setCell (by simp; omega) _ |>.setCell (by simp; omega) _

set_option maxHeartbeats 1000000 in
theorem then_core (oc nc dc od nd dd : Int) (w : World) (hc : Ck.okc oc nc dc = true) (hd : Ck.okc od nd dd = true) (K E : Int) (ok : Bool)
    (hK : rateN (nc * nd).toNat (dc * dd).toNat = K) (hE : rateD (nc * nd).toNat (dc * dd).toNat = E) (hok : rateOk (nc * nd).toNat (dc * dd).toNat = ok) (t F : Int)
    (ht : Ck.timeV od nd dd oc = t) (hF : Ck.timeE od nd dd oc = F) :
    Calls Tryd.prog 12 #[.agg #[.int .i64 oc, .int .i64 nc, .int .i64 dc], .agg #[.int .i64 od, .int .i64 nd, .int .i64 dd]] w fun e w' =>
      e = .returned (if ok then (if F = 0 then .tuple #[clk t K E, .int .i64 0] else .tuple #[clk 0 0 0, .int .i64 F]) else .tuple #[clk 0 0 0, .int .i64 130]) ∧ Below w.heap.size w w' := by
  obtain ⟨n0, n1, d0, d1, o0, o1⟩ := Ck.okc_iff.1 hc
  obtain ⟨m0, m1, e0, e1, p0, p1⟩ := Ck.okc_iff.1 hd
  obtain ⟨x0, x1⟩ := mul_bd n0 n1 m0 m1
  obtain ⟨y0, y1⟩ := mul_bd d0 d1 e0 e1
  have hr := rate_int (nc * nd) (dc * dd)
  rw [hK, hE, hok] at hr
  have htm := time_any od nd dd oc
  rw [ht, hF] at htm
  have HR := Lib.hid hr
  have HT := Lib.hid htm
  have C1 := Lib.hid hc
  have C2 := Lib.hid hd
  clear hr htm hc hd hK hE hok ht hF
  unfold clk at *
  have h0 := Below.refl (((w.alloc (.cells #[.int .i64 oc, .int .i64 nc, .int .i64 dc] 24)).alloc (.cells #[.int .i64 od, .int .i64 nd, .int .i64 dd] 24)).alloc (.cells #[.int .i64 0, .int .i64 0, .int .i64 0] 24)).heap.size (((w.alloc (.cells #[.int .i64 oc, .int .i64 nc, .int .i64 dc] 24)).alloc (.cells #[.int .i64 od, .int .i64 nd, .int .i64 dd] 24)).alloc (.cells #[.int .i64 0, .int .i64 0, .int .i64 0] 24))
  cases ok
  · simp only [Bool.false_eq_true, if_false]
    go_enter Tryd.func12, Tryd.ntmps12
    go_wp2_with fail
    refine (keep_in (check_ok _ _ _ _ C1.out) (by assumption)).mono ?_
    rintro e x1 ⟨rfl, hx1⟩
    obtain ⟨hcell1, hfrz1⟩ := bcell hx1
    go_wp2_with fail
    refine (keep_in (check_ok _ _ _ _ C2.out) (by assumption)).mono ?_
    rintro e x2 ⟨rfl, hx2⟩
    obtain ⟨hcell2, hfrz2⟩ := bcell hx2
    go_wp2_with fail
    refine (keep_in (HR.out _ (by omega) (by omega) (by omega) (by omega)) (by assumption)).mono ?_
    rintro e x3 ⟨rfl, hx3⟩
    obtain ⟨hcell3, hfrz3⟩ := bcell hx3
    have hs3 := hx3.size
    simp only [World.size_alloc] at hs3
    have hne3 : ¬ w.heap.size + 1 + 1 = x3.heap.size := by omega
    have hlt3 : w.heap.size + 1 + 1 < x3.heap.size := by omega
    obtain ⟨hca3, hfa3⟩ := bcell_alloc hx3
    go_wp2_with fail
    have hr0 : x3.cell? ⟨w.heap.size + 1 + 1, 0, none⟩ = some (.int .i64 0) := (hcell3 _ _ (by simp)).trans (by simp [go_sem])
    have hr1 : x3.cell? ⟨w.heap.size + 1 + 1, 1, none⟩ = some (.int .i64 0) := (hcell3 _ _ (by simp)).trans (by simp [go_sem])
    have hr2 : x3.cell? ⟨w.heap.size + 1 + 1, 2, none⟩ = some (.int .i64 0) := (hcell3 _ _ (by simp)).trans (by simp [go_sem])
    have hst := three_set (X := x3) (.int .i64 0) (.int .i64 0) (.int .i64 0) hr0 hr1 hr2
    exact bodyPost_ret (by simp only [results, Tryd.results12]; simp [go_sem, World.cell?_alloc_lt, hlt3, hst.1, hst.2.1, hst.2.2]; try rfl) rfl ⟨rfl, then_end1 hx3⟩
  · simp only [if_true]
    by_cases cF : F = 0
    · subst cF
      simp only [if_true]
      go_enter Tryd.func12, Tryd.ntmps12
      go_wp2_with fail
      refine (keep_in (check_ok _ _ _ _ C1.out) (by assumption)).mono ?_
      rintro e x1 ⟨rfl, hx1⟩
      obtain ⟨hcell1, hfrz1⟩ := bcell hx1
      go_wp2_with fail
      refine (keep_in (check_ok _ _ _ _ C2.out) (by assumption)).mono ?_
      rintro e x2 ⟨rfl, hx2⟩
      obtain ⟨hcell2, hfrz2⟩ := bcell hx2
      go_wp2_with fail
      refine (keep_in (HR.out _ (by omega) (by omega) (by omega) (by omega)) (by assumption)).mono ?_
      rintro e x3 ⟨rfl, hx3⟩
      obtain ⟨hcell3, hfrz3⟩ := bcell hx3
      have hs3 := hx3.size
      simp only [World.size_alloc] at hs3
      have hne3 : ¬ w.heap.size + 1 + 1 = x3.heap.size := by omega
      have hne3' : ¬ w.heap.size + 1 = x3.heap.size := by omega
      have hne3'' : ¬ w.heap.size = x3.heap.size := by omega
      have hlt3 : w.heap.size + 1 + 1 < x3.heap.size := by omega
      obtain ⟨hca3, hfa3⟩ := bcell_alloc hx3
      go_wp2_with fail
      refine (HT.out _).mono ?_
      rintro e x4 ⟨rfl, hx4⟩
      obtain ⟨hcell4, hfrz4⟩ := bcell hx4
      have hs4 := hx4.size
      simp only [World.size_alloc] at hs4
      have hlt4 : w.heap.size + 1 + 1 < x3.heap.size + 1 := by omega
      have hlt4' : w.heap.size + 1 + 1 < x4.heap.size := by omega
      have hlt4'' : x3.heap.size < x4.heap.size := by omega
      go_wp2_with fail
      have hr0 : x4.cell? ⟨w.heap.size + 1 + 1, 0, none⟩ = some (.int .i64 0) := (hcell4 _ _ (by simp; omega)).trans ((hca3 _ _ _ (by simp)).trans (by simp [go_sem]))
      have hr1 : x4.cell? ⟨w.heap.size + 1 + 1, 1, none⟩ = some (.int .i64 0) := (hcell4 _ _ (by simp; omega)).trans ((hca3 _ _ _ (by simp)).trans (by simp [go_sem]))
      have hr2 : x4.cell? ⟨w.heap.size + 1 + 1, 2, none⟩ = some (.int .i64 0) := (hcell4 _ _ (by simp; omega)).trans ((hca3 _ _ _ (by simp)).trans (by simp [go_sem]))
      have hst := three_set (X := x4.setCell ⟨x3.heap.size, 0, none⟩ (.int .i64 t)) (.int .i64 t) (.int .i64 K) (.int .i64 E) ((World.cell?_setCell_other _ _ _ _ (by simp)).trans hr0) ((World.cell?_setCell_other _ _ _ _ (by simp)).trans hr1) ((World.cell?_setCell_other _ _ _ _ (by simp)).trans hr2)
      exact bodyPost_ret (by simp only [results, Tryd.results12]; simp [go_sem, hst.1, hst.2.1, hst.2.2]; try rfl) rfl ⟨rfl, then_end2 hx3 hx4⟩
    · simp only [cF, if_false]
      go_enter Tryd.func12, Tryd.ntmps12
      go_wp2_with fail
      refine (keep_in (check_ok _ _ _ _ C1.out) (by assumption)).mono ?_
      rintro e x1 ⟨rfl, hx1⟩
      obtain ⟨hcell1, hfrz1⟩ := bcell hx1
      go_wp2_with fail
      refine (keep_in (check_ok _ _ _ _ C2.out) (by assumption)).mono ?_
      rintro e x2 ⟨rfl, hx2⟩
      obtain ⟨hcell2, hfrz2⟩ := bcell hx2
      go_wp2_with fail
      refine (keep_in (HR.out _ (by omega) (by omega) (by omega) (by omega)) (by assumption)).mono ?_
      rintro e x3 ⟨rfl, hx3⟩
      obtain ⟨hcell3, hfrz3⟩ := bcell hx3
      have hs3 := hx3.size
      simp only [World.size_alloc] at hs3
      have hne3 : ¬ w.heap.size + 1 + 1 = x3.heap.size := by omega
      have hne3' : ¬ w.heap.size + 1 = x3.heap.size := by omega
      have hne3'' : ¬ w.heap.size = x3.heap.size := by omega
      have hlt3 : w.heap.size + 1 + 1 < x3.heap.size := by omega
      obtain ⟨hca3, hfa3⟩ := bcell_alloc hx3
      go_wp2_with fail
      refine (HT.out _).mono ?_
      rintro e x4 ⟨rfl, hx4⟩
      obtain ⟨hcell4, hfrz4⟩ := bcell hx4
      have hs4 := hx4.size
      simp only [World.size_alloc] at hs4
      have hlt4 : w.heap.size + 1 + 1 < x3.heap.size + 1 := by omega
      have hlt4' : w.heap.size + 1 + 1 < x4.heap.size := by omega
      have hlt4'' : x3.heap.size < x4.heap.size := by omega
      go_wp2_with fail
      have hr0 : x4.cell? ⟨w.heap.size + 1 + 1, 0, none⟩ = some (.int .i64 0) := (hcell4 _ _ (by simp; omega)).trans ((hca3 _ _ _ (by simp)).trans (by simp [go_sem]))
      have hr1 : x4.cell? ⟨w.heap.size + 1 + 1, 1, none⟩ = some (.int .i64 0) := (hcell4 _ _ (by simp; omega)).trans ((hca3 _ _ _ (by simp)).trans (by simp [go_sem]))
      have hr2 : x4.cell? ⟨w.heap.size + 1 + 1, 2, none⟩ = some (.int .i64 0) := (hcell4 _ _ (by simp; omega)).trans ((hca3 _ _ _ (by simp)).trans (by simp [go_sem]))
      have hst := three_set (X := x4) (.int .i64 0) (.int .i64 0) (.int .i64 0) hr0 hr1 hr2
      exact bodyPost_ret (by simp only [results, Tryd.results12]; simp [go_sem, hst.1, hst.2.1, hst.2.2]; try rfl) rfl ⟨rfl, then_end3 hx3 hx4⟩
end Go.Proofs.YtiohemofidphjaaDoor
