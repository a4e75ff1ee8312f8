/- The walk of ClockThen: it answers true for every two clocks and every count. No condition. -/
import Derived.Test.YtiohemofidphjaaDoorB2
import Derived.Test.YtiohemofidphjaaDoorA8
namespace Go.Proofs.YtiohemofidphjaaDoor
open Go.RowKit

set_option maxHeartbeats 1000000 in
theorem then_bad (oc nc dc od nd dd : Int) (w : World) (h : Ck.okc oc nc dc = false ∨ Ck.okc oc nc dc = true ∧ Ck.okc od nd dd = false) :
    Calls Tryd.prog 12 #[.agg #[.int .i64 oc, .int .i64 nc, .int .i64 dc], .agg #[.int .i64 od, .int .i64 nd, .int .i64 dd]] w fun e w' =>
      e = .returned (.tuple #[clk 0 0 0, .int .i64 130]) ∧ Below w.heap.size w w' := by
  unfold clk
  have h0 := Below.refl (((w.alloc (.cells #[.int .i64 oc, .int .i64 nc, .int .i64 dc] 24)).alloc (.cells #[.int .i64 od, .int .i64 nd, .int .i64 dd] 24)).alloc (.cells #[.int .i64 0, .int .i64 0, .int .i64 0] 24)).heap.size (((w.alloc (.cells #[.int .i64 oc, .int .i64 nc, .int .i64 dc] 24)).alloc (.cells #[.int .i64 od, .int .i64 nd, .int .i64 dd] 24)).alloc (.cells #[.int .i64 0, .int .i64 0, .int .i64 0] 24))
  rcases h with h | ⟨h, h'⟩
  · have C1 := Lib.hid h
    clear h
    go_enter Tryd.func12, Tryd.ntmps12
    go_wp2_with fail
    refine (keep_in (check_bad _ _ _ _ C1.out) (by assumption)).mono ?_
    rintro e x3 ⟨rfl, hx3⟩
    have hr0 : x3.cell? ⟨w.heap.size + 1 + 1, 0, none⟩ = some (.int .i64 0) := (hx3.cell (by simp)).trans (by simp [go_sem])
    have hr1 : x3.cell? ⟨w.heap.size + 1 + 1, 1, none⟩ = some (.int .i64 0) := (hx3.cell (by simp)).trans (by simp [go_sem])
    have hr2 : x3.cell? ⟨w.heap.size + 1 + 1, 2, none⟩ = some (.int .i64 0) := (hx3.cell (by simp)).trans (by simp [go_sem])
    obtain ⟨hcell3, hfrz3⟩ := bcell hx3
    go_wp2_with fail
    have hst := three_set (X := x3) (.int .i64 0) (.int .i64 0) (.int .i64 0) hr0 hr1 hr2
    exact bodyPost_ret (by simp only [results, Tryd.results12]; simp [go_sem, hst.1, hst.2.1, hst.2.2]; try rfl) rfl ⟨rfl, (((below_a3 hx3).setCell (by simp; omega) _).setCell (by simp; omega) _).setCell (by simp; omega) _⟩
  · have C1 := Lib.hid h
    have C2 := Lib.hid h'
    clear h h'
    go_enter Tryd.func12, Tryd.ntmps12
    go_wp2_with fail
    refine (keep_in (check_ok _ _ _ _ C1.out) (by assumption)).mono ?_
    rintro e x1 ⟨rfl, hx1⟩
    obtain ⟨hcell1, hfrz1⟩ := bcell hx1
    go_wp2_with fail
    refine (keep_in (check_bad _ _ _ _ C2.out) (by assumption)).mono ?_
    rintro e x3 ⟨rfl, hx3⟩
    have hr0 : x3.cell? ⟨w.heap.size + 1 + 1, 0, none⟩ = some (.int .i64 0) := (hx3.cell (by simp)).trans (by simp [go_sem])
    have hr1 : x3.cell? ⟨w.heap.size + 1 + 1, 1, none⟩ = some (.int .i64 0) := (hx3.cell (by simp)).trans (by simp [go_sem])
    have hr2 : x3.cell? ⟨w.heap.size + 1 + 1, 2, none⟩ = some (.int .i64 0) := (hx3.cell (by simp)).trans (by simp [go_sem])
    obtain ⟨hcell3, hfrz3⟩ := bcell hx3
    go_wp2_with fail
    have hst := three_set (X := x3) (.int .i64 0) (.int .i64 0) (.int .i64 0) hr0 hr1 hr2
    exact bodyPost_ret (by simp only [results, Tryd.results12]; simp [go_sem, hst.1, hst.2.1, hst.2.2]; try rfl) rfl ⟨rfl, (((below_a3 hx3).setCell (by simp; omega) _).setCell (by simp; omega) _).setCell (by simp; omega) _⟩

/-- one call of Then: its answers -/
def ThenIs (oc nc dc od nd dd o K E F : Int) : Prop := ∀ w : World, Calls Tryd.prog 12 #[.agg #[.int .i64 oc, .int .i64 nc, .int .i64 dc], .agg #[.int .i64 od, .int .i64 nd, .int .i64 dd]] w fun e w' =>
  e = .returned (.tuple #[.agg #[.int .i64 o, .int .i64 K, .int .i64 E], .int .i64 F]) ∧ Below w.heap.size w w'

theorem then_is (oc nc dc od nd dd : Int) : (∃ F, ¬ F = 0 ∧ ThenIs oc nc dc od nd dd 0 0 0 F) ∨
    (Ck.okc oc nc dc = true ∧ Ck.okc od nd dd = true ∧ rateOk (nc * nd).toNat (dc * dd).toNat = true ∧ Ck.timeOk od nd dd oc = true ∧
      ThenIs oc nc dc od nd dd (od + oc * nd / dd) (rateN (nc * nd).toNat (dc * dd).toNat) (rateD (nc * nd).toNat (dc * dd).toNat) 0) := by
  by_cases h1 : Ck.okc oc nc dc = true
  · by_cases h2 : Ck.okc od nd dd = true
    · have h := fun w => then_core oc nc dc od nd dd w h1 h2 _ _ _ rfl rfl rfl _ _ rfl rfl
      by_cases h3 : rateOk (nc * nd).toNat (dc * dd).toNat = true
      · by_cases h4 : Ck.timeOk od nd dd oc = true
        · refine .inr ⟨h1, h2, h3, h4, fun w => ?_⟩
          have hh := h w
          rw [show Ck.timeE od nd dd oc = 0 by simp [Ck.timeE, h2, h4], show Ck.timeV od nd dd oc = od + oc * nd / dd by simp [Ck.timeV, h4]] at hh
          simp only [h3, if_true] at hh
          exact hh
        · have h4' : Ck.timeOk od nd dd oc = false := by simpa using h4
          refine .inl ⟨1, by omega, fun w => ?_⟩
          have hh := h w
          rw [show Ck.timeE od nd dd oc = 1 by simp [Ck.timeE, h2, h4']] at hh
          simp only [h3, if_true, show ¬ ((1 : Int) = 0) by omega, if_false] at hh
          exact hh
      · have h3' : rateOk (nc * nd).toNat (dc * dd).toNat = false := by simpa using h3
        refine .inl ⟨130, by omega, fun w => ?_⟩
        have hh := h w
        simp only [h3', Bool.false_eq_true, if_false] at hh
        exact hh
    · exact .inl ⟨130, by omega, fun w => then_bad oc nc dc od nd dd w (.inr ⟨h1, by simpa using h2⟩)⟩
  · exact .inl ⟨130, by omega, fun w => then_bad oc nc dc od nd dd w (.inl (by simpa using h1))⟩

theorem time_is' (o n d c : Int) : (∃ E, ¬ E = 0 ∧ TimeIs o n d c 0 E) ∨ (Ck.timeOk o n d c = true ∧ TimeIs o n d c (o + c * n / d) 0) := by
  by_cases k : Ck.timeOk o n d c = true
  · exact .inr ⟨k, fun w => time_ok o n d c _ w ⟨k, rfl⟩⟩
  · exact .inl ⟨if Ck.okc o n d then 1 else 130, by split <;> omega, fun w => time_no o n d c w (by simpa using k)⟩
theorem time_any_is (o n d c : Int) : ∃ T E, TimeIs o n d c T E := ⟨_, _, fun w => time_any o n d c w⟩

theorem rate_red {x y n : Int} (hx : 1 ≤ x) (hy : 1 ≤ y) : n * rateN x.toNat y.toNat / rateD x.toNat y.toNat = n * x / y := by
  obtain ⟨a, rfl⟩ := Int.eq_ofNat_of_zero_le (show 0 ≤ x by omega)
  obtain ⟨b, rfl⟩ := Int.eq_ofNat_of_zero_le (show 0 ≤ y by omega)
  simp only [Int.toNat_natCast]
  have hg : 0 < Nat.gcd a b := Nat.gcd_pos_of_pos_left _ (by omega)
  obtain ⟨p, hp⟩ := Nat.gcd_dvd_left a b
  obtain ⟨q, hq⟩ := Nat.gcd_dvd_right a b
  have e1 : a / Nat.gcd a b = p := Nat.div_eq_of_eq_mul_right hg hp
  have e2 : b / Nat.gcd a b = q := Nat.div_eq_of_eq_mul_right hg hq
  unfold rateN rateD
  rw [e1, e2]
  generalize Nat.gcd a b = g at *
  subst hp hq
  rw [Int.natCast_mul, Int.natCast_mul, Ck.red_ediv (by omega)]

theorem below_step {w x y : World} (h : Below w.heap.size w x) (h' : Below x.heap.size x y) : Below w.heap.size w y := h.trans (h'.mono h.size)
theorem law_end1 {w x y : World} {o1 o2 o : Obj} (h : Below ((w.alloc o1).alloc o2).heap.size ((w.alloc o1).alloc o2) x) (h' : Below (x.alloc o).heap.size (x.alloc o) y) : Below w.heap.size w y := by
  have h1 : Below w.heap.size w x := (((Below.refl _ _).alloc (Nat.le_refl _) _).alloc (by simp) _).trans (h.mono (by simp; omega))
  exact (h1.alloc h1.size _).trans (h'.mono (by have := h1.size; simp; omega))
theorem law_end2 {w x y z : World} {o1 o2 o : Obj} (h : Below ((w.alloc o1).alloc o2).heap.size ((w.alloc o1).alloc o2) x) (h' : Below (x.alloc o).heap.size (x.alloc o) y) (h2 : Below y.heap.size y z) : Below w.heap.size w z :=
  below_step (law_end1 h h') h2
theorem law_end4 {w x y z u v : World} {o1 o2 o : Obj} (h : Below ((w.alloc o1).alloc o2).heap.size ((w.alloc o1).alloc o2) x) (h' : Below (x.alloc o).heap.size (x.alloc o) y) (h2 : Below y.heap.size y z) (h3 : Below z.heap.size z u) (h4 : Below u.heap.size u v) : Below w.heap.size w v :=
  below_step (below_step (below_step (law_end1 h h') h2) h3) h4

end Go.Proofs.YtiohemofidphjaaDoor
