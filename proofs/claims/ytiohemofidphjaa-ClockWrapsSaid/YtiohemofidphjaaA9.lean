/- The walk of ClockWraps: it answers true for every first count and every list of steps. No condition. -/
import Derived.Test.YtiohemofidphjaaA6
namespace Go.Proofs.Ytiohemofidphjaa
open Go.RowKit

theorem unwrap_next (i s x : Int) (w : World) (h0 : -2147483648 < s) (h1 : s < 2147483648) (hi : -1125899906842624 ≤ i) (hi' : i ≤ 1125899906842624) (hj : -1125899906842624 ≤ i + s) (hj' : i + s ≤ 1125899906842624)
    (hx : x = (i + s) % 4294967296) :
    Calls Try.prog 10 #[.int .i64 i, .int .u32 x] w fun e w' => e = .returned (.tuple #[.int .i64 (i + s), .int .i64 0]) ∧ w = w' := by
  have h := unwrap_any i x w (by omega) (by omega)
  have hu : Ck.unw i x = i + s := by rw [hx]; exact Ck.unw_next h0 h1
  have hok : Ck.unwOk i x = true := by rw [Ck.unwOk_iff, hu, Ck.inT_iff, Ck.inT_iff]; omega
  rw [show Ck.unwV i x = i + s by simp [Ck.unwV, hok, hu], show Ck.unwE i x = 0 by simp [Ck.unwE, hok]] at h
  exact h

set_option maxHeartbeats 1000000 in
theorem wraps_loop (first : Int) (b off len cap : Nat) (zs : Nat → Int) (w : World) (f0 : -562949953421312 ≤ first) (f1 : first ≤ 562949953421312) (hlen : len ≤ 10000)
    (hz : ∀ j, j < len → -2147483648 ≤ zs j ∧ zs j ≤ 2147483647) (hc : ∀ j, j < len → w.cell? ⟨b, off + j, none⟩ = some (.int .i32 (zs j))) :
    Calls Try.prog 6 #[.int .i64 first, .slice (some ⟨b, off, none⟩) len cap] w fun e w' => e = .returned (.bool true) ∧ Below w.heap.size w w' := by
  have HZ := Lib.hid hz
  have HC := Lib.hid hc
  clear hz hc
  go_enter Try.func6, Try.ntmps6
  go_wp2_with fail
  go_loop [5, 6, 27] (fun t i c => ∃ (k : Nat) (v : Int), k ≤ len ∧ c = .int .i64 k ∧ t = .int .i64 v ∧ i = .int .i64 v ∧ -562949953421312 - 2147483648 * (k : Int) ≤ v ∧ v ≤ 562949953421312 + 2147483648 * (k : Int)) (fun _ _ c => len - (intOf c).toNat)
  case atStart => exact ⟨0, first, Nat.zero_le _, rfl, rfl, rfl, by omega, by omega⟩
  case round =>
    obtain ⟨k, v, hk, rfl, rfl, rfl, v0, v1⟩ := hrel
    by_cases hlt : k < len
    · obtain ⟨z0, z1⟩ := HZ.out k hlt
      have hcell := HC.out k hlt
      obtain ⟨z, hz⟩ : ∃ z, zs k = z := ⟨_, rfl⟩
      rw [hz] at z0 z1 hcell
      clear hz
      by_cases cz : z = -2147483648
      · subst cz
        go_wp2_with (go_at_call 10; refine (unwrap_next v 0 _ _ (by omega) (by omega) (by omega) (by omega) (by omega) (by omega) (by simp)).mono ?_; rintro e w' ⟨rfl, rfl⟩)
        go_round
        case rel => exact ⟨k + 1, v, by omega, by go_num, rfl, rfl, by omega, by omega⟩
        case measure => simp [intOf]; omega
      · have hw1 : v + z = v + z := rfl
        clear hw1
        go_wp2_with (go_at_call 10; refine (unwrap_next v z _ _ (by omega) (by omega) (by omega) (by omega) (by omega) (by omega) (by simp)).mono ?_; rintro e w' ⟨rfl, rfl⟩)
        go_round
        case rel => exact ⟨k + 1, v + z, by omega, by go_num, rfl, rfl, by omega, by omega⟩
        case measure => simp [intOf]; omega
    · go_wp2_with (go_at_call 12; refine (awake_true _).mono ?_; rintro e x9 ⟨rfl, hx9⟩)
      go_ret
      exact ⟨rfl, hx9⟩

set_option maxHeartbeats 400000 in
theorem wraps_empty (first : Int) (A : Option Addr) (cap : Nat) (w : World) (f0 : -562949953421312 ≤ first) (f1 : first ≤ 562949953421312) :
    Calls Try.prog 6 #[.int .i64 first, .slice A 0 cap] w fun e w' => e = .returned (.bool true) ∧ Below w.heap.size w w' := by
  go_enter Try.func6, Try.ntmps6
  go_wp2_with fail
  refine wp_loop_rounds 1 ?_
  rw [rounds_succ]
  go_wp2_with (go_at_call 12; refine (awake_true _).mono ?_; rintro e x9 ⟨rfl, hx9⟩)
  go_ret
  exact ⟨rfl, hx9⟩

set_option maxHeartbeats 400000 in
theorem wraps_out (first : Int) (A : Option Addr) (len cap : Nat) (w : World) (hl : (len : Int) ≤ 9223372036854775807) (h : ¬ (-562949953421312 ≤ first ∧ first ≤ 562949953421312 ∧ len ≤ 10000)) :
    Calls Try.prog 6 #[.int .i64 first, .slice A len cap] w fun e w' => e = .returned (.bool true) ∧ Below w.heap.size w w' := by
  by_cases c1 : first < -562949953421312
  · clear h
    go_enter Try.func6, Try.ntmps6
    go_wp2_with (go_at_call 12; refine (awake_true _).mono ?_; rintro e x9 ⟨rfl, hx9⟩)
    go_ret
    exact ⟨rfl, hx9⟩
  · by_cases c2 : 562949953421312 < first
    · clear h
      go_enter Try.func6, Try.ntmps6
      go_wp2_with (go_at_call 12; refine (awake_true _).mono ?_; rintro e x9 ⟨rfl, hx9⟩)
      go_ret
      exact ⟨rfl, hx9⟩
    · have c3 : (10000 : Int) < (len : Int) := by omega
      clear h
      go_enter Try.func6, Try.ntmps6
      go_wp2_with (go_at_call 12; refine (awake_true _).mono ?_; rintro e x9 ⟨rfl, hx9⟩)
      go_ret
      exact ⟨rfl, hx9⟩
end Go.Proofs.Ytiohemofidphjaa
