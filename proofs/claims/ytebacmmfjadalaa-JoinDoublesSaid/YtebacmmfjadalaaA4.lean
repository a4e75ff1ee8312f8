/- Contract of clock Time: every clock, every count. No condition. -/
import Derived.Test.YtebacmmfjadalaaA3
namespace Go.Proofs.Ytebacmmfjadalaa
open Go.RowKit

theorem withinT (n : Int) (w : World) :
    Calls Try.prog 54 #[.int .i64 n, .int .i64 1125899906842624] w fun e w' => e = .returned (.bool (Ck.inT n)) ∧ w = w' :=
  within_any n 1125899906842624 w (by omega) (by omega)

theorem check_ok (o n d : Int) (w : World) (k : Ck.okc o n d = true) :
    Calls Try.prog 34 #[.agg #[.int .i64 o, .int .i64 n, .int .i64 d]] w fun e w' => e = .returned (.int .i64 0) ∧ Below w.heap.size w w' := by
  have h := check_any o n d w
  rw [k] at h
  exact h
theorem check_bad (o n d : Int) (w : World) (k : Ck.okc o n d = false) :
    Calls Try.prog 34 #[.agg #[.int .i64 o, .int .i64 n, .int .i64 d]] w fun e w' => e = .returned (.int .i64 130) ∧ Below w.heap.size w w' := by
  have h := check_any o n d w
  rw [k] at h
  exact h
theorem plain_ok (o n d c t : Int) (w : World) (k : Ck.okc o n d = true) (kc : Ck.inT c = true) (kf : Ck.fits (c * n) d = true) (ht : o + c * n / d = t) :
    Calls Try.prog 56 #[.agg #[.int .i64 o, .int .i64 n, .int .i64 d], .int .i64 c] w fun e w' => e = .returned (.tuple #[.int .i64 t, .bool true]) ∧ Below w.heap.size w w' := by
  have h := plain_any o n d c w k (Ck.inT_iff.1 kc).1 (Ck.inT_iff.1 kc).2
  simp only [kf, if_true, ht] at h
  exact h
theorem plain_no (o n d c : Int) (w : World) (k : Ck.okc o n d = true) (kc : Ck.inT c = true) (kf : Ck.fits (c * n) d = false) :
    Calls Try.prog 56 #[.agg #[.int .i64 o, .int .i64 n, .int .i64 d], .int .i64 c] w fun e w' => e = .returned (.tuple #[.int .i64 o, .bool false]) ∧ Below w.heap.size w w' := by
  have h := plain_any o n d c w k (Ck.inT_iff.1 kc).1 (Ck.inT_iff.1 kc).2
  simp only [kf, Bool.false_eq_true, if_false, Int.add_zero] at h
  exact h
theorem below2 {w w1 : World} {o : Obj} (hb1 : Below (w.alloc o).heap.size (w.alloc o) w1) : Below w.heap.size w w1 := ((Below.refl _ _).alloc (Nat.le_refl _) _).trans (hb1.mono (by simp))
theorem below3 {w w1 w2 : World} {o : Obj} (hb1 : Below (w.alloc o).heap.size (w.alloc o) w1) (hb2 : Below w1.heap.size w1 w2) : Below w.heap.size w w2 := (below2 hb1).trans (hb2.mono (by have := hb1.size; simp at this; omega))

set_option maxHeartbeats 400000 in
theorem time_any (o n d c : Int) (w : World) :
    Calls Try.prog 38 #[clk o n d, .int .i64 c] w fun e w' => e = .returned (.tuple #[.int .i64 (Ck.timeV o n d c), .int .i64 (Ck.timeE o n d c)]) ∧ Below w.heap.size w w' := by
  by_cases k : Ck.okc o n d = true
  · have K := Lib.hid k
    by_cases kc : Ck.inT c = true
    · have KC := Lib.hid kc
      by_cases kf : Ck.fits (c * n) d = true
      · obtain ⟨t, ht⟩ : ∃ t, o + c * n / d = t := ⟨_, rfl⟩
        have KF := Lib.hid kf
        have HT := Lib.hid ht
        by_cases kt : Ck.inT t = true
        · have e1 : Ck.timeOk o n d c = true := by simp [Ck.timeOk, k, kc, ht, kt]
          rw [show Ck.timeV o n d c = t by simp [Ck.timeV, e1, ht], show Ck.timeE o n d c = 0 by simp [Ck.timeE, k, e1]]
          have KT := Lib.hid kt
          clear k kc kf ht kt e1
          unfold clk
          go_enter Try.func38, Try.ntmps38
          go_wp2_with (first | (go_at_call 34; refine (check_ok _ _ _ _ K.out).mono ?_; rintro e w1 ⟨rfl, hb1⟩; obtain ⟨hcell, -⟩ := bcell hb1) | (go_at_call 56; refine (plain_ok _ _ _ _ t _ K.out KC.out KF.out HT.out).mono ?_; rintro e w2 ⟨rfl, hb2⟩) | (go_at_call_of 54 t; refine (withinT _ _).mono ?_; rw [KT.out]; rintro e w' ⟨rfl, rfl⟩) | (go_at_call_of 54 c; refine (withinT _ _).mono ?_; rw [KC.out]; rintro e w' ⟨rfl, rfl⟩))
          go_ret2
          exact ⟨rfl, below3 hb1 hb2⟩
        · have kt' : Ck.inT t = false := by simpa using kt
          have e1 : Ck.timeOk o n d c = false := by simp [Ck.timeOk, ht, kt']
          rw [show Ck.timeV o n d c = 0 by simp [Ck.timeV, e1], show Ck.timeE o n d c = 1 by simp [Ck.timeE, k, e1]]
          have KT := Lib.hid kt'
          clear k kc kf ht kt kt' e1
          unfold clk
          go_enter Try.func38, Try.ntmps38
          go_wp2_with (first | (go_at_call 34; refine (check_ok _ _ _ _ K.out).mono ?_; rintro e w1 ⟨rfl, hb1⟩; obtain ⟨hcell, -⟩ := bcell hb1) | (go_at_call 56; refine (plain_ok _ _ _ _ t _ K.out KC.out KF.out HT.out).mono ?_; rintro e w2 ⟨rfl, hb2⟩) | (go_at_call_of 54 t; refine (withinT _ _).mono ?_; rw [KT.out]; rintro e w' ⟨rfl, rfl⟩) | (go_at_call_of 54 c; refine (withinT _ _).mono ?_; rw [KC.out]; rintro e w' ⟨rfl, rfl⟩))
          go_ret2
          exact ⟨rfl, below3 hb1 hb2⟩
      · have kf' : Ck.fits (c * n) d = false := by simpa using kf
        have e1 : Ck.timeOk o n d c = false := by
          refine Bool.eq_false_iff.2 fun h => ?_
          rw [Ck.fits_time h] at kf'
          cases kf'
        rw [show Ck.timeV o n d c = 0 by simp [Ck.timeV, e1], show Ck.timeE o n d c = 1 by simp [Ck.timeE, k, e1]]
        have KF := Lib.hid kf'
        clear k kc kf kf' e1
        unfold clk
        go_enter Try.func38, Try.ntmps38
        go_wp2_with (first | (go_at_call 34; refine (check_ok _ _ _ _ K.out).mono ?_; rintro e w1 ⟨rfl, hb1⟩; obtain ⟨hcell, -⟩ := bcell hb1) | (go_at_call 56; refine (plain_no _ _ _ _ _ K.out KC.out KF.out).mono ?_; rintro e w2 ⟨rfl, hb2⟩) | (go_at_call_of 54 c; refine (withinT _ _).mono ?_; rw [KC.out]; rintro e w' ⟨rfl, rfl⟩))
        go_ret2
        exact ⟨rfl, below3 hb1 hb2⟩
    · have kc' : Ck.inT c = false := by simpa using kc
      have e1 : Ck.timeOk o n d c = false := by simp [Ck.timeOk, kc']
      rw [show Ck.timeV o n d c = 0 by simp [Ck.timeV, e1], show Ck.timeE o n d c = 1 by simp [Ck.timeE, k, e1]]
      have KC := Lib.hid kc'
      clear k kc kc' e1
      unfold clk
      go_enter Try.func38, Try.ntmps38
      go_wp2_with (first | (go_at_call 34; refine (check_ok _ _ _ _ K.out).mono ?_; rintro e w1 ⟨rfl, hb1⟩; obtain ⟨hcell, -⟩ := bcell hb1) | (go_at_call 54; refine (withinT _ _).mono ?_; rw [KC.out]; rintro e w' ⟨rfl, rfl⟩))
      go_ret2
      exact ⟨rfl, below2 hb1⟩
  · have k' : Ck.okc o n d = false := by simpa using k
    rw [show Ck.timeV o n d c = 0 by simp [Ck.timeV, Ck.timeOk, k'], show Ck.timeE o n d c = 130 by simp [Ck.timeE, k']]
    have K := Lib.hid k'
    clear k k'
    unfold clk
    go_enter Try.func38, Try.ntmps38
    go_wp2_with (go_at_call 34; refine (check_bad _ _ _ _ K.out).mono ?_; rintro e w1 ⟨rfl, hb1⟩)
    go_ret2
    exact ⟨rfl, below2 hb1⟩
end Go.Proofs.Ytebacmmfjadalaa
