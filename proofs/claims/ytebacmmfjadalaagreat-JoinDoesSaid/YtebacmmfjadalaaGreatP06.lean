/- A3 A4 A5 A6 A7 in one text. -/
import Derived.Test.YtebacmmfjadalaaGreatP05
import Derived.Test.YtebacmmfjadalaaGreatP02
import Derived.Deep.RegionHeld3

namespace Go.Proofs.YtebacmmfjadalaaGreat
open Go.RowKit

/-- a clock, by value -/
def clk (o n d : Int) : Value := .agg #[.int .i64 o, .int .i64 n, .int .i64 d]

set_option maxHeartbeats 400000 in
theorem check_any (o n d : Int) (w : World) :
    Calls Tryz.prog 21 #[clk o n d] w fun e w' => e = .returned (.int .i64 (if Ck.okc o n d then 0 else 130)) ∧ Below w.heap.size w w' := by
  unfold clk
  by_cases c1 : n < 1
  · rw [show Ck.okc o n d = false by simp [Ck.okc]; omega]
    go_enter Tryz.func21, Tryz.ntmps21
    go_wp2_with fail
    go_ret
    exact ⟨rfl, (Below.refl _ _).alloc (Nat.le_refl _) _⟩
  · by_cases c2 : 1000000000 < n
    · rw [show Ck.okc o n d = false by simp [Ck.okc]; omega]
      go_enter Tryz.func21, Tryz.ntmps21
      go_wp2_with fail
      go_ret
      exact ⟨rfl, (Below.refl _ _).alloc (Nat.le_refl _) _⟩
    · by_cases c3 : d < 1
      · rw [show Ck.okc o n d = false by simp [Ck.okc]; omega]
        go_enter Tryz.func21, Tryz.ntmps21
        go_wp2_with fail
        go_ret
        exact ⟨rfl, (Below.refl _ _).alloc (Nat.le_refl _) _⟩
      · by_cases c4 : 1000000000 < d
        · rw [show Ck.okc o n d = false by simp [Ck.okc]; omega]
          go_enter Tryz.func21, Tryz.ntmps21
          go_wp2_with fail
          go_ret
          exact ⟨rfl, (Below.refl _ _).alloc (Nat.le_refl _) _⟩
        · by_cases c5 : -1125899906842624 ≤ o ∧ o ≤ 1125899906842624
          · rw [show Ck.okc o n d = true by simp [Ck.okc]; omega]
            have c6 : decide (-1125899906842624 ≤ o ∧ o ≤ 1125899906842624) = true := by simpa using c5
            go_enter Tryz.func21, Tryz.ntmps21
            go_wp2_with (go_at_call 48; refine (within_any _ _ _ (by omega) (by omega)).mono ?_; rw [c6]; rintro e w' ⟨rfl, rfl⟩)
            go_ret
            exact ⟨rfl, (Below.refl _ _).alloc (Nat.le_refl _) _⟩
          · rw [show Ck.okc o n d = false by simp [Ck.okc]; omega]
            have c6 : decide (-1125899906842624 ≤ o ∧ o ≤ 1125899906842624) = false := by simpa using c5
            go_enter Tryz.func21, Tryz.ntmps21
            go_wp2_with (go_at_call 48; refine (within_any _ _ _ (by omega) (by omega)).mono ?_; rw [c6]; rintro e w' ⟨rfl, rfl⟩)
            go_ret
            exact ⟨rfl, (Below.refl _ _).alloc (Nat.le_refl _) _⟩

theorem bcell {W w1 : World} (hb : Below W.heap.size W w1) : (∀ b o, b < W.heap.size → w1.cell? ⟨b, o, none⟩ = W.cell? ⟨b, o, none⟩) ∧ (∀ b o, b < W.heap.size → w1.frozen? ⟨b, o, none⟩ = W.frozen? ⟨b, o, none⟩) :=
  ⟨fun b o h => hb.cell (p := ⟨b, o, none⟩) h, fun b o h => hb.frozen (p := ⟨b, o, none⟩) h⟩

/-- what a region holds of two cells and of the world ahead of it, behind a call that makes memory alone -/
theorem keep_two {a b : Addr} {x y : Value} {B : Nat} {W0 w1 w2 : World} (h : w1.cell? a = some x ∧ w1.cell? b = some y ∧ Below B W0 w1) (hb : Below w1.heap.size w1 w2) (hB : B ≤ W0.heap.size) (ha : a.block < B) (hb' : b.block < B) :
    w2.cell? a = some x ∧ w2.cell? b = some y ∧ Below B W0 w2 := by
  have hs := h.2.2.size
  exact ⟨(hb.cell (by omega)).trans h.1, (hb.cell (by omega)).trans h.2.1, h.2.2.trans (hb.mono (by omega))⟩
theorem prod_bd {c n : Int} (c0 : -1125899906842624 ≤ c) (c1 : c ≤ 1125899906842624) (n0 : 1 ≤ n) (n1 : n ≤ 1000000000) : ((c * n).natAbs : Int) ≤ 1125899906842624000000000 := by
  rw [Int.natAbs_mul]
  have : c.natAbs * n.natAbs ≤ 1125899906842624 * 1000000000 := Nat.mul_le_mul (by omega) (by omega)
  omega

set_option maxHeartbeats 400000 in
theorem plain_any (o n d c : Int) (w : World) (hk : Ck.okc o n d = true) (c0 : -1125899906842624 ≤ c) (c1 : c ≤ 1125899906842624) :
    Calls Tryz.prog 57 #[clk o n d, .int .i64 c] w fun e w' => e = .returned (.tuple #[.int .i64 (o + if Ck.fits (c * n) d then c * n / d else 0), .bool (Ck.fits (c * n) d)]) ∧ Below w.heap.size w w' := by
  obtain ⟨n0, n1, d0, d1, o0, o1⟩ := Ck.okc_iff.1 hk
  obtain ⟨v, hv⟩ : ∃ v, (if Ck.fits (c * n) d then c * n / d else 0) = v := ⟨_, rfl⟩
  obtain ⟨f, hf⟩ : ∃ f, Ck.fits (c * n) d = f := ⟨_, rfl⟩
  have hvb : -4611686018427387905 ≤ v ∧ v ≤ 4611686018427387904 := by
    subst hv
    split
    · exact Ck.fits_bd (by omega) (by assumption)
    · omega
  obtain ⟨hv0, hv1⟩ := hvb
  have ht := times_any c n
  have hov := over_any (c * n) d
  rw [hv, hf] at hov
  rw [hv, hf]
  have hpb := prod_bd c0 c1 n0 n1
  have HT := Lib.hid ht
  have HO := Lib.hid hov
  clear ht hov hv hf hk
  unfold clk
  go_enter Tryz.func57, Tryz.ntmps57
  go_wp2_with fail
  go_region_held3 (fun w' => w'.cell? ⟨w.heap.size, 1, none⟩ = some (.int .i64 n) ∧ w'.cell? ⟨w.heap.size, 2, none⟩ = some (.int .i64 d) ∧ Below (w.heap.size + 1) (w.alloc (.cells #[.int .i64 o, .int .i64 n, .int .i64 d] 53)) w')
    (first | (refine ⟨?_, ?_, ((Below.refl _ _).drew)⟩ <;> go_keep) | exact keep_two (by assumption) hb2 (by simp) (by simp) (by simp) | exact keep_two (by assumption) hb1 (by simp) (by simp) (by simp))
    (first | (go_at_call 73; refine (HT.out _ (by omega) (by omega) (by omega) (by omega)).mono ?_; rintro e w' ⟨rfl, hb1⟩) | (go_at_call 74; refine (HO.out _ (by omega) (by omega) (by omega)).mono ?_; rintro e w' ⟨rfl, hb2⟩))
  have hS : w'.cell? ⟨w.heap.size, 1, none⟩ = some (.int .i64 n) ∧ w'.cell? ⟨w.heap.size, 2, none⟩ = some (.int .i64 d) ∧ Below (w.heap.size + 1) (w.alloc (.cells #[.int .i64 o, .int .i64 n, .int .i64 d] 53)) w' := by assumption
  obtain ⟨-, -, hB⟩ := hS
  have hc0 : w'.cell? ⟨w.heap.size, 0, none⟩ = some (.int .i64 o) := (hB.cell (by simp)).trans (by simp [go_sem])
  have hE : Below w.heap.size w w' := ((Below.refl _ _).alloc (Nat.le_refl _) _).trans (hB.mono (by omega))
  have HE := Lib.hid hE
  clear hE hB hb1 hb2
  go_wp2
  go_ret2
  exact ⟨rfl, HE.out⟩
end Go.Proofs.YtebacmmfjadalaaGreat

namespace Go.Proofs.YtebacmmfjadalaaGreat
open Go.RowKit

theorem withinT (n : Int) (w : World) :
    Calls Tryz.prog 48 #[.int .i64 n, .int .i64 1125899906842624] w fun e w' => e = .returned (.bool (Ck.inT n)) ∧ w = w' :=
  within_any n 1125899906842624 w (by omega) (by omega)

theorem check_ok (o n d : Int) (w : World) (k : Ck.okc o n d = true) :
    Calls Tryz.prog 21 #[.agg #[.int .i64 o, .int .i64 n, .int .i64 d]] w fun e w' => e = .returned (.int .i64 0) ∧ Below w.heap.size w w' := by
  have h := check_any o n d w
  rw [k] at h
  exact h
theorem check_bad (o n d : Int) (w : World) (k : Ck.okc o n d = false) :
    Calls Tryz.prog 21 #[.agg #[.int .i64 o, .int .i64 n, .int .i64 d]] w fun e w' => e = .returned (.int .i64 130) ∧ Below w.heap.size w w' := by
  have h := check_any o n d w
  rw [k] at h
  exact h
theorem plain_ok (o n d c t : Int) (w : World) (k : Ck.okc o n d = true) (kc : Ck.inT c = true) (kf : Ck.fits (c * n) d = true) (ht : o + c * n / d = t) :
    Calls Tryz.prog 57 #[.agg #[.int .i64 o, .int .i64 n, .int .i64 d], .int .i64 c] w fun e w' => e = .returned (.tuple #[.int .i64 t, .bool true]) ∧ Below w.heap.size w w' := by
  have h := plain_any o n d c w k (Ck.inT_iff.1 kc).1 (Ck.inT_iff.1 kc).2
  simp only [kf, if_true, ht] at h
  exact h
theorem plain_no (o n d c : Int) (w : World) (k : Ck.okc o n d = true) (kc : Ck.inT c = true) (kf : Ck.fits (c * n) d = false) :
    Calls Tryz.prog 57 #[.agg #[.int .i64 o, .int .i64 n, .int .i64 d], .int .i64 c] w fun e w' => e = .returned (.tuple #[.int .i64 o, .bool false]) ∧ Below w.heap.size w w' := by
  have h := plain_any o n d c w k (Ck.inT_iff.1 kc).1 (Ck.inT_iff.1 kc).2
  simp only [kf, Bool.false_eq_true, if_false, Int.add_zero] at h
  exact h
theorem below2 {w w1 : World} {o : Obj} (hb1 : Below (w.alloc o).heap.size (w.alloc o) w1) : Below w.heap.size w w1 := ((Below.refl _ _).alloc (Nat.le_refl _) _).trans (hb1.mono (by simp))
theorem below3 {w w1 w2 : World} {o : Obj} (hb1 : Below (w.alloc o).heap.size (w.alloc o) w1) (hb2 : Below w1.heap.size w1 w2) : Below w.heap.size w w2 := (below2 hb1).trans (hb2.mono (by have := hb1.size; simp at this; omega))

set_option maxHeartbeats 400000 in
theorem time_any (o n d c : Int) (w : World) :
    Calls Tryz.prog 32 #[clk o n d, .int .i64 c] w fun e w' => e = .returned (.tuple #[.int .i64 (Ck.timeV o n d c), .int .i64 (Ck.timeE o n d c)]) ∧ Below w.heap.size w w' := by
  by_cases k : Ck.okc o n d = true
  · have K := Lib.hid k
    by_cases kc : Ck.inT c = true
    · have KC := Lib.hid kc
      by_cases kf : Ck.fits (c * n) d = true
      · obtain ⟨t, ht⟩ : ∃ t, o + c * n / d = t := ⟨_, rfl⟩
        have KF := Lib.hid kf
        have HT := Lib.hid ht
        by_cases kt : Ck.inT t = true
        · have e1 : Ck.timeOk o n d c = true := by simp [Ck.timeOk, k, kc, ht, kt]
          rw [show Ck.timeV o n d c = t by simp [Ck.timeV, e1, ht], show Ck.timeE o n d c = 0 by simp [Ck.timeE, k, e1]]
          have KT := Lib.hid kt
          clear k kc kf ht kt e1
          unfold clk
          go_enter Tryz.func32, Tryz.ntmps32
          go_wp2_with (first | (go_at_call 21; refine (check_ok _ _ _ _ K.out).mono ?_; rintro e w1 ⟨rfl, hb1⟩; obtain ⟨hcell, -⟩ := bcell hb1) | (go_at_call 57; refine (plain_ok _ _ _ _ t _ K.out KC.out KF.out HT.out).mono ?_; rintro e w2 ⟨rfl, hb2⟩) | (go_at_call_of 48 t; refine (withinT _ _).mono ?_; rw [KT.out]; rintro e w' ⟨rfl, rfl⟩) | (go_at_call_of 48 c; refine (withinT _ _).mono ?_; rw [KC.out]; rintro e w' ⟨rfl, rfl⟩))
          go_ret2
          exact ⟨rfl, below3 hb1 hb2⟩
        · have kt' : Ck.inT t = false := by simpa using kt
          have e1 : Ck.timeOk o n d c = false := by simp [Ck.timeOk, ht, kt']
          rw [show Ck.timeV o n d c = 0 by simp [Ck.timeV, e1], show Ck.timeE o n d c = 1 by simp [Ck.timeE, k, e1]]
          have KT := Lib.hid kt'
          clear k kc kf ht kt kt' e1
          unfold clk
          go_enter Tryz.func32, Tryz.ntmps32
          go_wp2_with (first | (go_at_call 21; refine (check_ok _ _ _ _ K.out).mono ?_; rintro e w1 ⟨rfl, hb1⟩; obtain ⟨hcell, -⟩ := bcell hb1) | (go_at_call 57; refine (plain_ok _ _ _ _ t _ K.out KC.out KF.out HT.out).mono ?_; rintro e w2 ⟨rfl, hb2⟩) | (go_at_call_of 48 t; refine (withinT _ _).mono ?_; rw [KT.out]; rintro e w' ⟨rfl, rfl⟩) | (go_at_call_of 48 c; refine (withinT _ _).mono ?_; rw [KC.out]; rintro e w' ⟨rfl, rfl⟩))
          go_ret2
          exact ⟨rfl, below3 hb1 hb2⟩
      · have kf' : Ck.fits (c * n) d = false := by simpa using kf
        have e1 : Ck.timeOk o n d c = false := by
          refine Bool.eq_false_iff.2 fun h => ?_
          rw [Ck.fits_time h] at kf'
          cases kf'
        rw [show Ck.timeV o n d c = 0 by simp [Ck.timeV, e1], show Ck.timeE o n d c = 1 by simp [Ck.timeE, k, e1]]
        have KF := Lib.hid kf'
        clear k kc kf kf' e1
        unfold clk
        go_enter Tryz.func32, Tryz.ntmps32
        go_wp2_with (first | (go_at_call 21; refine (check_ok _ _ _ _ K.out).mono ?_; rintro e w1 ⟨rfl, hb1⟩; obtain ⟨hcell, -⟩ := bcell hb1) | (go_at_call 57; refine (plain_no _ _ _ _ _ K.out KC.out KF.out).mono ?_; rintro e w2 ⟨rfl, hb2⟩) | (go_at_call_of 48 c; refine (withinT _ _).mono ?_; rw [KC.out]; rintro e w' ⟨rfl, rfl⟩))
        go_ret2
        exact ⟨rfl, below3 hb1 hb2⟩
    · have kc' : Ck.inT c = false := by simpa using kc
      have e1 : Ck.timeOk o n d c = false := by simp [Ck.timeOk, kc']
      rw [show Ck.timeV o n d c = 0 by simp [Ck.timeV, e1], show Ck.timeE o n d c = 1 by simp [Ck.timeE, k, e1]]
      have KC := Lib.hid kc'
      clear k kc kc' e1
      unfold clk
      go_enter Tryz.func32, Tryz.ntmps32
      go_wp2_with (first | (go_at_call 21; refine (check_ok _ _ _ _ K.out).mono ?_; rintro e w1 ⟨rfl, hb1⟩; obtain ⟨hcell, -⟩ := bcell hb1) | (go_at_call 48; refine (withinT _ _).mono ?_; rw [KC.out]; rintro e w' ⟨rfl, rfl⟩))
      go_ret2
      exact ⟨rfl, below2 hb1⟩
  · have k' : Ck.okc o n d = false := by simpa using k
    rw [show Ck.timeV o n d c = 0 by simp [Ck.timeV, Ck.timeOk, k'], show Ck.timeE o n d c = 130 by simp [Ck.timeE, k']]
    have K := Lib.hid k'
    clear k k'
    unfold clk
    go_enter Tryz.func32, Tryz.ntmps32
    go_wp2_with (go_at_call 21; refine (check_bad _ _ _ _ K.out).mono ?_; rintro e w1 ⟨rfl, hb1⟩)
    go_ret2
    exact ⟨rfl, below2 hb1⟩
end Go.Proofs.YtebacmmfjadalaaGreat

namespace Go.Proofs.YtebacmmfjadalaaGreat
open Go.RowKit

theorem keep_three {a b c : Addr} {x y z : Value} {B : Nat} {W0 w1 w2 : World} (h : w1.cell? a = some x ∧ w1.cell? b = some y ∧ w1.cell? c = some z ∧ Below B W0 w1) (hb : Below w1.heap.size w1 w2) (hB : B ≤ W0.heap.size) (ha : a.block < B) (hb' : b.block < B) (hc : c.block < B) :
    w2.cell? a = some x ∧ w2.cell? b = some y ∧ w2.cell? c = some z ∧ Below B W0 w2 := by
  have hs := h.2.2.2.size
  exact ⟨(hb.cell (by omega)).trans h.1, (hb.cell (by omega)).trans h.2.1, (hb.cell (by omega)).trans h.2.2.1, h.2.2.2.trans (hb.mono (by omega))⟩

end Go.Proofs.YtebacmmfjadalaaGreat

namespace Go.Proofs.YtebacmmfjadalaaGreat
open Go.RowKit

theorem unw_on (l s : Int) :
    (s - IntKind.u64.wrap l) % 4294967296 = (s - l) % 4294967296 := by
  simp only [IntKind.wrap_u64]
  omega

set_option maxHeartbeats 400000 in
theorem unwrap_any (l s : Int) (w : World) (_s0 : 0 ≤ s) (_s1 : s ≤ 4294967295) :
    Calls Tryz.prog 31 #[.int .i64 l, .int .u32 s] w fun e w' => e = .returned (.tuple #[.int .i64 (Ck.unwV l s), .int .i64 (Ck.unwE l s)]) ∧ w = w' := by
  by_cases k : Ck.inT l = true
  · obtain ⟨l0, l1⟩ := Ck.inT_iff.1 k
    have ho := unw_on l s
    obtain ⟨m, hm⟩ : ∃ m, (s - l) % 4294967296 = m := ⟨_, rfl⟩
    rw [hm] at ho
    have m0 : 0 ≤ m := by omega
    have m1 : m < 4294967296 := by omega
    have K := Lib.hid k
    by_cases c : 2147483648 < m
    · have hu : Ck.unw l s = l + m - 4294967296 := by unfold Ck.unw; rw [hm, if_pos c]
      by_cases kv : Ck.inT (l + (m - 4294967296)) = true
      · have e1 : Ck.unwOk l s = true := by rw [Ck.unwOk_iff, hu]; exact ⟨k, by rw [← kv]; congr 1; omega⟩
        rw [show Ck.unwV l s = l + (m - 4294967296) by simp only [Ck.unwV, e1, if_true, hu]; omega, show Ck.unwE l s = 0 by simp [Ck.unwE, e1]]
        have KV := Lib.hid kv
        clear hm hu k kv e1
        go_enter Tryz.func31, Tryz.ntmps31
        go_wp2_with (first | (go_at_call_of 48 m; refine (withinT _ _).mono ?_; rw [KV.out]; rintro e w' ⟨rfl, rfl⟩) | (go_at_call_of 48 l; refine (withinT _ _).mono ?_; rw [K.out]; rintro e w' ⟨rfl, rfl⟩))
        go_ret2
        exact ⟨rfl, rfl⟩
      · have kv' : Ck.inT (l + (m - 4294967296)) = false := by simpa using kv
        have e1 : Ck.unwOk l s = false := by
          simp only [Ck.unwOk, k, hu, Bool.true_and]
          rw [← kv']; congr 1; omega
        rw [show Ck.unwV l s = 0 by simp [Ck.unwV, e1], show Ck.unwE l s = 1 by simp [Ck.unwE, e1]]
        have KV := Lib.hid kv'
        clear hm hu k kv kv' e1
        go_enter Tryz.func31, Tryz.ntmps31
        go_wp2_with (first | (go_at_call_of 48 m; refine (withinT _ _).mono ?_; rw [KV.out]; rintro e w' ⟨rfl, rfl⟩) | (go_at_call_of 48 l; refine (withinT _ _).mono ?_; rw [K.out]; rintro e w' ⟨rfl, rfl⟩))
        go_ret2
        exact ⟨rfl, rfl⟩
    · have hu : Ck.unw l s = l + m := by unfold Ck.unw; rw [hm, if_neg c]
      by_cases kv : Ck.inT (l + m) = true
      · have e1 : Ck.unwOk l s = true := by rw [Ck.unwOk_iff, hu]; exact ⟨k, kv⟩
        rw [show Ck.unwV l s = l + m by simp only [Ck.unwV, e1, if_true, hu], show Ck.unwE l s = 0 by simp [Ck.unwE, e1]]
        have KV := Lib.hid kv
        clear hm hu k kv e1
        go_enter Tryz.func31, Tryz.ntmps31
        go_wp2_with (first | (go_at_call_of 48 m; refine (withinT _ _).mono ?_; rw [KV.out]; rintro e w' ⟨rfl, rfl⟩) | (go_at_call_of 48 l; refine (withinT _ _).mono ?_; rw [K.out]; rintro e w' ⟨rfl, rfl⟩))
        go_ret2
        exact ⟨rfl, rfl⟩
      · have kv' : Ck.inT (l + m) = false := by simpa using kv
        have e1 : Ck.unwOk l s = false := by simp only [Ck.unwOk, k, hu, kv', Bool.true_and]
        rw [show Ck.unwV l s = 0 by simp [Ck.unwV, e1], show Ck.unwE l s = 1 by simp [Ck.unwE, e1]]
        have KV := Lib.hid kv'
        clear hm hu k kv kv' e1
        go_enter Tryz.func31, Tryz.ntmps31
        go_wp2_with (first | (go_at_call_of 48 m; refine (withinT _ _).mono ?_; rw [KV.out]; rintro e w' ⟨rfl, rfl⟩) | (go_at_call_of 48 l; refine (withinT _ _).mono ?_; rw [K.out]; rintro e w' ⟨rfl, rfl⟩))
        go_ret2
        exact ⟨rfl, rfl⟩
  · have k' : Ck.inT l = false := by simpa using k
    have e1 : Ck.unwOk l s = false := by simp [Ck.unwOk, k']
    rw [show Ck.unwV l s = 0 by simp [Ck.unwV, e1], show Ck.unwE l s = 1 by simp [Ck.unwE, e1]]
    have K := Lib.hid k'
    clear k k' e1
    go_enter Tryz.func31, Tryz.ntmps31
    go_wp2_with (go_at_call 48; refine (withinT _ _).mono ?_; rw [K.out]; rintro e w' ⟨rfl, rfl⟩)
    go_ret2
    exact ⟨rfl, rfl⟩

end Go.Proofs.YtebacmmfjadalaaGreat

namespace Go.Proofs.YtebacmmfjadalaaGreat
open Go.RowKit

theorem keep_in {P : Program} {f : FuncId} {args : Array Value} {W0 x : World} {v : Ending} (h : Calls P f args x fun e w' => e = v ∧ Below x.heap.size x w') (hx : Below W0.heap.size W0 x) :
    Calls P f args x fun e w' => e = v ∧ Below W0.heap.size W0 w' := h.mono fun _ _ ⟨a, b⟩ => ⟨a, hx.trans (b.mono hx.size)⟩

/-- the time of a count, where there is one -/
theorem time_ok (o n d c t : Int) (w : World) (h : Ck.timeOk o n d c = true ∧ o + c * n / d = t) :
    Calls Tryz.prog 32 #[.agg #[.int .i64 o, .int .i64 n, .int .i64 d], .int .i64 c] w fun e w' => e = .returned (.tuple #[.int .i64 t, .int .i64 0]) ∧ Below w.heap.size w w' := by
  have hh := time_any o n d c w
  rw [show Ck.timeV o n d c = t by simp [Ck.timeV, h.1, h.2], show Ck.timeE o n d c = 0 by simp [Ck.timeE, h.1, (Ck.timeOk_iff.1 h.1).1]] at hh
  exact hh
/-- .. where there is none -/
theorem time_no (o n d c : Int) (w : World) (h : Ck.timeOk o n d c = false) :
    Calls Tryz.prog 32 #[.agg #[.int .i64 o, .int .i64 n, .int .i64 d], .int .i64 c] w fun e w' => e = .returned (.tuple #[.int .i64 0, .int .i64 (if Ck.okc o n d then 1 else 130)]) ∧ Below w.heap.size w w' := by
  have hh := time_any o n d c w
  rw [show Ck.timeV o n d c = 0 by simp [Ck.timeV, h], show Ck.timeE o n d c = if Ck.okc o n d then 1 else 130 by simp [Ck.timeE, h]] at hh
  exact hh

end Go.Proofs.YtebacmmfjadalaaGreat
