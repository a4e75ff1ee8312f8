/- Contracts of clock Unwrap and of awake. No condition beside that a stamp fits 32 bits. -/
import Derived.Test.YtebacmmfjadalaaA5
namespace Go.Proofs.Ytebacmmfjadalaa
open Go.RowKit

theorem unw_on (l s : Int) :
    (s - IntKind.u64.wrap l) % 4294967296 = (s - l) % 4294967296 := by
  simp only [IntKind.wrap_u64]
  omega

set_option maxHeartbeats 400000 in
theorem unwrap_any (l s : Int) (w : World) (_s0 : 0 ≤ s) (_s1 : s ≤ 4294967295) :
    Calls Try.prog 37 #[.int .i64 l, .int .u32 s] w fun e w' => e = .returned (.tuple #[.int .i64 (Ck.unwV l s), .int .i64 (Ck.unwE l s)]) ∧ w = w' := by
  by_cases k : Ck.inT l = true
  · obtain ⟨l0, l1⟩ := Ck.inT_iff.1 k
    have ho := unw_on l s
    obtain ⟨m, hm⟩ : ∃ m, (s - l) % 4294967296 = m := ⟨_, rfl⟩
    rw [hm] at ho
    have m0 : 0 ≤ m := by omega
    have m1 : m < 4294967296 := by omega
    have K := Lib.hid k
    by_cases c : 2147483648 < m
    · have hu : Ck.unw l s = l + m - 4294967296 := by unfold Ck.unw; rw [hm, if_pos c]
      by_cases kv : Ck.inT (l + (m - 4294967296)) = true
      · have e1 : Ck.unwOk l s = true := by rw [Ck.unwOk_iff, hu]; exact ⟨k, by rw [← kv]; congr 1; omega⟩
        rw [show Ck.unwV l s = l + (m - 4294967296) by simp only [Ck.unwV, e1, if_true, hu]; omega, show Ck.unwE l s = 0 by simp [Ck.unwE, e1]]
        have KV := Lib.hid kv
        clear hm hu k kv e1
        go_enter Try.func37, Try.ntmps37
        go_wp2_with (first | (go_at_call_of 54 m; refine (withinT _ _).mono ?_; rw [KV.out]; rintro e w' ⟨rfl, rfl⟩) | (go_at_call_of 54 l; refine (withinT _ _).mono ?_; rw [K.out]; rintro e w' ⟨rfl, rfl⟩))
        go_ret2
        exact ⟨rfl, rfl⟩
      · have kv' : Ck.inT (l + (m - 4294967296)) = false := by simpa using kv
        have e1 : Ck.unwOk l s = false := by
          simp only [Ck.unwOk, k, hu, Bool.true_and]
          rw [← kv']; congr 1; omega
        rw [show Ck.unwV l s = 0 by simp [Ck.unwV, e1], show Ck.unwE l s = 1 by simp [Ck.unwE, e1]]
        have KV := Lib.hid kv'
        clear hm hu k kv kv' e1
        go_enter Try.func37, Try.ntmps37
        go_wp2_with (first | (go_at_call_of 54 m; refine (withinT _ _).mono ?_; rw [KV.out]; rintro e w' ⟨rfl, rfl⟩) | (go_at_call_of 54 l; refine (withinT _ _).mono ?_; rw [K.out]; rintro e w' ⟨rfl, rfl⟩))
        go_ret2
        exact ⟨rfl, rfl⟩
    · have hu : Ck.unw l s = l + m := by unfold Ck.unw; rw [hm, if_neg c]
      by_cases kv : Ck.inT (l + m) = true
      · have e1 : Ck.unwOk l s = true := by rw [Ck.unwOk_iff, hu]; exact ⟨k, kv⟩
        rw [show Ck.unwV l s = l + m by simp only [Ck.unwV, e1, if_true, hu], show Ck.unwE l s = 0 by simp [Ck.unwE, e1]]
        have KV := Lib.hid kv
        clear hm hu k kv e1
        go_enter Try.func37, Try.ntmps37
        go_wp2_with (first | (go_at_call_of 54 m; refine (withinT _ _).mono ?_; rw [KV.out]; rintro e w' ⟨rfl, rfl⟩) | (go_at_call_of 54 l; refine (withinT _ _).mono ?_; rw [K.out]; rintro e w' ⟨rfl, rfl⟩))
        go_ret2
        exact ⟨rfl, rfl⟩
      · have kv' : Ck.inT (l + m) = false := by simpa using kv
        have e1 : Ck.unwOk l s = false := by simp only [Ck.unwOk, k, hu, kv', Bool.true_and]
        rw [show Ck.unwV l s = 0 by simp [Ck.unwV, e1], show Ck.unwE l s = 1 by simp [Ck.unwE, e1]]
        have KV := Lib.hid kv'
        clear hm hu k kv kv' e1
        go_enter Try.func37, Try.ntmps37
        go_wp2_with (first | (go_at_call_of 54 m; refine (withinT _ _).mono ?_; rw [KV.out]; rintro e w' ⟨rfl, rfl⟩) | (go_at_call_of 54 l; refine (withinT _ _).mono ?_; rw [K.out]; rintro e w' ⟨rfl, rfl⟩))
        go_ret2
        exact ⟨rfl, rfl⟩
  · have k' : Ck.inT l = false := by simpa using k
    have e1 : Ck.unwOk l s = false := by simp [Ck.unwOk, k']
    rw [show Ck.unwV l s = 0 by simp [Ck.unwV, e1], show Ck.unwE l s = 1 by simp [Ck.unwE, e1]]
    have K := Lib.hid k'
    clear k k' e1
    go_enter Try.func37, Try.ntmps37
    go_wp2_with (go_at_call 54; refine (withinT _ _).mono ?_; rw [K.out]; rintro e w' ⟨rfl, rfl⟩)
    go_ret2
    exact ⟨rfl, rfl⟩

end Go.Proofs.Ytebacmmfjadalaa
