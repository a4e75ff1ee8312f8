/- Contract of clock Count: every clock, every time. No condition. -/
import Derived.Test.YtiohemofidphjaaDoorA4
namespace Go.Proofs.YtiohemofidphjaaDoor
open Go.RowKit

theorem keep_three {a b c : Addr} {x y z : Value} {B : Nat} {W0 w1 w2 : World} (h : w1.cell? a = some x ∧ w1.cell? b = some y ∧ w1.cell? c = some z ∧ Below B W0 w1) (hb : Below w1.heap.size w1 w2) (hB : B ≤ W0.heap.size) (ha : a.block < B) (hb' : b.block < B) (hc : c.block < B) :
    w2.cell? a = some x ∧ w2.cell? b = some y ∧ w2.cell? c = some z ∧ Below B W0 w2 := by
  have hs := h.2.2.2.size
  exact ⟨(hb.cell (by omega)).trans h.1, (hb.cell (by omega)).trans h.2.1, (hb.cell (by omega)).trans h.2.2.1, h.2.2.2.trans (hb.mono (by omega))⟩

set_option maxHeartbeats 1000000 in
theorem count_core (o n d t : Int) (w : World) (v : Int) (f : Bool) (hk : Ck.okc o n d = true) (ht : Ck.inT t = true)
    (hv : (if Ck.fits ((o - t) * d) n then (o - t) * d / n else 0) = v) (hf : Ck.fits ((o - t) * d) n = f) :
    Calls Tryd.prog 32 #[clk o n d, .int .i64 t] w fun e w' => e = .returned (.tuple #[.int .i64 (if f && Ck.inT v then -v else 0), .int .i64 (if f && Ck.inT v then 0 else 1)]) ∧ Below w.heap.size w w' := by
  obtain ⟨n0, n1, d0, d1, o0, o1⟩ := Ck.okc_iff.1 hk
  obtain ⟨t0, t1⟩ := Ck.inT_iff.1 ht
  have hvb : -4611686018427387905 ≤ v ∧ v ≤ 4611686018427387904 := by
    subst hv
    split
    · exact Ck.fits_bd (by omega) (by assumption)
    · omega
  obtain ⟨hv0, hv1⟩ := hvb
  have hpb : (((o - t) * d).natAbs : Int) ≤ 2251799813685248000000000 := by
    rw [Int.natAbs_mul]
    have : (o - t).natAbs * d.natAbs ≤ 2251799813685248 * 1000000000 := Nat.mul_le_mul (by omega) (by omega)
    omega
  have hti := times_any (o - t) d
  have hov := over_any ((o - t) * d) n
  rw [hv, hf] at hov
  have HT := Lib.hid hti
  have HO := Lib.hid hov
  have K := Lib.hid hk
  have KT := Lib.hid ht
  have HP := Lib.hid hpb
  clear hti hov hv hf hk ht hpb
  unfold clk
  cases f
  · simp only [Bool.false_and, Bool.false_eq_true, if_false]
    go_enter Tryd.func32, Tryd.ntmps32
    go_wp2_with (first | (go_at_call 18; refine (check_ok _ _ _ _ K.out).mono ?_; rintro e w1 ⟨rfl, hb1⟩; obtain ⟨hcell, -⟩ := bcell hb1) | (go_at_call 14; refine (withinT _ _).mono ?_; rw [KT.out]; rintro e w' ⟨rfl, rfl⟩))
    have hs1 := hb1.size
    simp only [World.size_alloc] at hs1
    have hc0 : w1.cell? ⟨w.heap.size, 0, none⟩ = some (.int .i64 o) := (hcell _ _ (by simp)).trans (by simp [go_sem])
    have hc1 : w1.cell? ⟨w.heap.size, 1, none⟩ = some (.int .i64 n) := (hcell _ _ (by simp)).trans (by simp [go_sem])
    have hc2 : w1.cell? ⟨w.heap.size, 2, none⟩ = some (.int .i64 d) := (hcell _ _ (by simp)).trans (by simp [go_sem])
    clear hcell
    have hw := IntWalk.i64_in (o - t) ⟨by omega, by omega⟩
    go_region_held3 (fun w' => w'.cell? ⟨w.heap.size, 0, none⟩ = some (.int .i64 o) ∧ w'.cell? ⟨w.heap.size, 1, none⟩ = some (.int .i64 n) ∧ w'.cell? ⟨w.heap.size, 2, none⟩ = some (.int .i64 d) ∧ Below (w.heap.size + 1) w1 w')
      (first | exact keep_three (by assumption) hb3 (by omega) (by simp) (by simp) (by simp) | exact keep_three (by assumption) hb2 (by omega) (by simp) (by simp) (by simp) | exact ⟨hc0, hc1, hc2, (Below.refl _ _).drew⟩)
      (first | (go_at_call 16; refine (HT.out _ (by omega) (by omega) (by omega) (by omega)).mono ?_; rintro e w' ⟨rfl, hb2⟩) | (go_at_call 17; refine (HO.out _ (by omega) (by omega) (by have := HP.out; omega)).mono ?_; rintro e w' ⟨rfl, hb3⟩))
    have hS : w'.cell? ⟨w.heap.size, 0, none⟩ = some (.int .i64 o) ∧ w'.cell? ⟨w.heap.size, 1, none⟩ = some (.int .i64 n) ∧ w'.cell? ⟨w.heap.size, 2, none⟩ = some (.int .i64 d) ∧ Below (w.heap.size + 1) w1 w' := by assumption
    obtain ⟨-, -, -, hB⟩ := hS
    have HE := Lib.hid (show Below w.heap.size w w' from (below2 hb1).trans (hB.mono (by omega)))
    clear hB hb1 hb2 hb3 hs1 hc0 hc1 hc2 hw
    go_wp2
    go_ret2
    exact ⟨rfl, HE.out⟩
  · by_cases kv : Ck.inT v = true
    · have KV := Lib.hid kv
      simp only [kv, Bool.true_and, if_true]
      clear kv
      go_enter Tryd.func32, Tryd.ntmps32
      go_wp2_with (first | (go_at_call 18; refine (check_ok _ _ _ _ K.out).mono ?_; rintro e w1 ⟨rfl, hb1⟩; obtain ⟨hcell, -⟩ := bcell hb1) | (go_at_call 14; refine (withinT _ _).mono ?_; rw [KT.out]; rintro e w' ⟨rfl, rfl⟩))
      have hs1 := hb1.size
      simp only [World.size_alloc] at hs1
      have hc0 : w1.cell? ⟨w.heap.size, 0, none⟩ = some (.int .i64 o) := (hcell _ _ (by simp)).trans (by simp [go_sem])
      have hc1 : w1.cell? ⟨w.heap.size, 1, none⟩ = some (.int .i64 n) := (hcell _ _ (by simp)).trans (by simp [go_sem])
      have hc2 : w1.cell? ⟨w.heap.size, 2, none⟩ = some (.int .i64 d) := (hcell _ _ (by simp)).trans (by simp [go_sem])
      clear hcell
      have hw := IntWalk.i64_in (o - t) ⟨by omega, by omega⟩
      go_region_held3 (fun w' => w'.cell? ⟨w.heap.size, 0, none⟩ = some (.int .i64 o) ∧ w'.cell? ⟨w.heap.size, 1, none⟩ = some (.int .i64 n) ∧ w'.cell? ⟨w.heap.size, 2, none⟩ = some (.int .i64 d) ∧ Below (w.heap.size + 1) w1 w')
        (first | exact keep_three (by assumption) hb3 (by omega) (by simp) (by simp) (by simp) | exact keep_three (by assumption) hb2 (by omega) (by simp) (by simp) (by simp) | exact ⟨hc0, hc1, hc2, (Below.refl _ _).drew⟩)
        (first | (go_at_call 16; refine (HT.out _ (by omega) (by omega) (by omega) (by omega)).mono ?_; rintro e w' ⟨rfl, hb2⟩) | (go_at_call 17; refine (HO.out _ (by omega) (by omega) (by have := HP.out; omega)).mono ?_; rintro e w' ⟨rfl, hb3⟩))
      have hS : w'.cell? ⟨w.heap.size, 0, none⟩ = some (.int .i64 o) ∧ w'.cell? ⟨w.heap.size, 1, none⟩ = some (.int .i64 n) ∧ w'.cell? ⟨w.heap.size, 2, none⟩ = some (.int .i64 d) ∧ Below (w.heap.size + 1) w1 w' := by assumption
      obtain ⟨-, -, -, hB⟩ := hS
      have HE := Lib.hid (show Below w.heap.size w w' from (below2 hb1).trans (hB.mono (by omega)))
      clear hB hb1 hb2 hb3 hs1 hc0 hc1 hc2 hw
      go_wp2_with (first | (go_at_call 14; refine (withinT _ _).mono ?_; rw [KV.out]; rintro e w' ⟨rfl, rfl⟩))
      go_ret2
      exact ⟨rfl, HE.out⟩
    · have kv' : Ck.inT v = false := by simpa using kv
      have KV := Lib.hid kv'
      simp only [kv', Bool.true_and, Bool.false_eq_true, if_false]
      clear kv kv'
      go_enter Tryd.func32, Tryd.ntmps32
      go_wp2_with (first | (go_at_call 18; refine (check_ok _ _ _ _ K.out).mono ?_; rintro e w1 ⟨rfl, hb1⟩; obtain ⟨hcell, -⟩ := bcell hb1) | (go_at_call 14; refine (withinT _ _).mono ?_; rw [KT.out]; rintro e w' ⟨rfl, rfl⟩))
      have hs1 := hb1.size
      simp only [World.size_alloc] at hs1
      have hc0 : w1.cell? ⟨w.heap.size, 0, none⟩ = some (.int .i64 o) := (hcell _ _ (by simp)).trans (by simp [go_sem])
      have hc1 : w1.cell? ⟨w.heap.size, 1, none⟩ = some (.int .i64 n) := (hcell _ _ (by simp)).trans (by simp [go_sem])
      have hc2 : w1.cell? ⟨w.heap.size, 2, none⟩ = some (.int .i64 d) := (hcell _ _ (by simp)).trans (by simp [go_sem])
      clear hcell
      have hw := IntWalk.i64_in (o - t) ⟨by omega, by omega⟩
      go_region_held3 (fun w' => w'.cell? ⟨w.heap.size, 0, none⟩ = some (.int .i64 o) ∧ w'.cell? ⟨w.heap.size, 1, none⟩ = some (.int .i64 n) ∧ w'.cell? ⟨w.heap.size, 2, none⟩ = some (.int .i64 d) ∧ Below (w.heap.size + 1) w1 w')
        (first | exact keep_three (by assumption) hb3 (by omega) (by simp) (by simp) (by simp) | exact keep_three (by assumption) hb2 (by omega) (by simp) (by simp) (by simp) | exact ⟨hc0, hc1, hc2, (Below.refl _ _).drew⟩)
        (first | (go_at_call 16; refine (HT.out _ (by omega) (by omega) (by omega) (by omega)).mono ?_; rintro e w' ⟨rfl, hb2⟩) | (go_at_call 17; refine (HO.out _ (by omega) (by omega) (by have := HP.out; omega)).mono ?_; rintro e w' ⟨rfl, hb3⟩))
      have hS : w'.cell? ⟨w.heap.size, 0, none⟩ = some (.int .i64 o) ∧ w'.cell? ⟨w.heap.size, 1, none⟩ = some (.int .i64 n) ∧ w'.cell? ⟨w.heap.size, 2, none⟩ = some (.int .i64 d) ∧ Below (w.heap.size + 1) w1 w' := by assumption
      obtain ⟨-, -, -, hB⟩ := hS
      have HE := Lib.hid (show Below w.heap.size w w' from (below2 hb1).trans (hB.mono (by omega)))
      clear hB hb1 hb2 hb3 hs1 hc0 hc1 hc2 hw
      go_wp2_with (first | (go_at_call 14; refine (withinT _ _).mono ?_; rw [KV.out]; rintro e w' ⟨rfl, rfl⟩))
      go_ret2
      exact ⟨rfl, HE.out⟩

theorem count_any (o n d t : Int) (w : World) :
    Calls Tryd.prog 32 #[clk o n d, .int .i64 t] w fun e w' => e = .returned (.tuple #[.int .i64 (Ck.countV o n d t), .int .i64 (Ck.countE o n d t)]) ∧ Below w.heap.size w w' := by
  by_cases k : Ck.okc o n d = true
  · by_cases kt : Ck.inT t = true
    · have hc := count_core o n d t w _ _ k kt rfl rfl
      refine hc.mono fun e w' ⟨he, hb⟩ => ⟨?_, hb⟩
      rw [he]
      have hneg : ∀ x, Ck.inT (-x) = Ck.inT x := fun x => by simp only [Ck.inT, decide_eq_decide]; omega
      by_cases kf : Ck.fits ((o - t) * d) n = true
      · simp only [kf, if_true, Bool.true_and, Ck.countV, Ck.countE, Ck.countOk, k, kt, hneg]
      · have e1 : Ck.countOk o n d t = false := by
          refine Bool.eq_false_iff.2 fun h => ?_
          exact kf (Ck.fits_count h)
        have kf' : Ck.fits ((o - t) * d) n = false := by simpa using kf
        simp [kf', Ck.countV, Ck.countE, e1, k]
    · have kt' : Ck.inT t = false := by simpa using kt
      have e1 : Ck.countOk o n d t = false := by simp [Ck.countOk, kt']
      rw [show Ck.countV o n d t = 0 by simp [Ck.countV, e1], show Ck.countE o n d t = 1 by simp [Ck.countE, k, e1]]
      have K := Lib.hid k
      have KC := Lib.hid kt'
      clear k kt kt' e1
      unfold clk
      go_enter Tryd.func32, Tryd.ntmps32
      go_wp2_with (first | (go_at_call 18; refine (check_ok _ _ _ _ K.out).mono ?_; rintro e w1 ⟨rfl, hb1⟩; obtain ⟨hcell, -⟩ := bcell hb1) | (go_at_call 14; refine (withinT _ _).mono ?_; rw [KC.out]; rintro e w' ⟨rfl, rfl⟩))
      go_ret2
      exact ⟨rfl, below2 hb1⟩
  · have k' : Ck.okc o n d = false := by simpa using k
    rw [show Ck.countV o n d t = 0 by simp [Ck.countV, Ck.countOk, k'], show Ck.countE o n d t = 130 by simp [Ck.countE, k']]
    have K := Lib.hid k'
    clear k k'
    unfold clk
    go_enter Tryd.func32, Tryd.ntmps32
    go_wp2_with (go_at_call 18; refine (check_bad _ _ _ _ K.out).mono ?_; rintro e w1 ⟨rfl, hb1⟩)
    go_ret2
    exact ⟨rfl, below2 hb1⟩
end Go.Proofs.YtiohemofidphjaaDoor
