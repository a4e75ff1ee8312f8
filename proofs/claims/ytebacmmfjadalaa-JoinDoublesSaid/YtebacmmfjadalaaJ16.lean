/- Contracts of a joiner's ready and Horizon; of the checks and the copies of a reading without values. -/
import Derived.Test.YtebacmmfjadalaaJ15
import Derived.Test.YtebacmmfjadalaaA6
import Derived.Test.YtebacmmfjadalaaShelf
namespace Go.Proofs.Ytebacmmfjadalaa
open Go Go.RowKit

theorem ready_any (x : Nat) (m : Bool) (w : World) (h : w.cell? ⟨x, 11, none⟩ = some (.bool m)) : Calls Try.prog 35 #[.pointer (some ⟨x, 0, none⟩)] w fun e w' => e = .returned (.bool m) ∧ w = w' := by
  cases m
  · go_enter Try.func35, Try.ntmps35
    go_wp2_with fail
    go_ret
    exact ⟨rfl, rfl⟩
  · go_enter Try.func35, Try.ntmps35
    go_wp2_with fail
    go_ret
    exact ⟨rfl, rfl⟩
theorem ready_none (w : World) : Calls Try.prog 35 #[.pointer none] w fun e w' => e = .returned (.bool false) ∧ w = w' := by
  go_enter Try.func35, Try.ntmps35
  go_wp2_with fail
  go_ret
  exact ⟨rfl, rfl⟩

theorem finite_nil (w : World) : Calls Try.prog 55 #[.slice none 0 0] w fun e w' => e = .returned (.bool true) ∧ w = w' := by
  go_enter Try.func55, Try.ntmps55
  go_wp2_with fail
  go_loopw [8] (fun i wr => i = .int .i64 0 ∧ w = wr) (fun _ _ => 0)
  case atStart => exact ⟨rfl, rfl⟩
  case round =>
    obtain ⟨rfl, rfl⟩ := hrel
    go_wp2_with fail
    go_ret
    exact ⟨rfl, rfl⟩

set_option maxHeartbeats 1000000 in
theorem pcheck_nil (se sq st : Int) (w : World) (s0 : 0 ≤ se) (s1 : se < 64) : Calls Try.prog 36 #[.agg #[.int .i64 se, .int .u32 sq, .int .u32 st, .slice none 0 0]] w fun e w' => e = .returned (.int .i64 0) ∧ Below w.heap.size w w' := by
  go_enter Try.func36, Try.ntmps36
  go_wp2_with fail
  refine (finite_nil _).mono ?_
  rintro e w1 ⟨rfl, rfl⟩
  go_wp2_with fail
  go_ret
  exact ⟨rfl, (Below.refl _ _).alloc (Nat.le_refl _) _⟩

set_option maxHeartbeats 1000000 in
theorem copied_nil (at_ se sq st : Int) (w : World) : Calls Try.prog 31 #[.agg #[.int .i64 at_, .int .i64 se, .int .u32 sq, .int .u32 st, .slice none 0 0]] w fun e w' => e = .returned (.agg #[.int .i64 at_, .int .i64 se, .int .u32 sq, .int .u32 st, .slice none 0 0]) ∧ Below w.heap.size w w' := by
  go_enter Try.func31, Try.ntmps31
  go_wp2_with fail
  refine (Try.slices_Clone_nil 0 0 _).mono ?_
  rintro e w1 ⟨rfl, rfl⟩
  go_wp2_with fail
  exact bodyPost_ret (by simp only [results, Try.results31]; simp [go_sem]; try rfl) rfl ⟨rfl, ((Below.refl w.heap.size w).alloc (Nat.le_refl _) _).alloc (by simp) _⟩

set_option maxHeartbeats 1000000 in
theorem horizon_some (x : Nat) (j : Jn) (w : World) (hj : JnAt w x j) (hs : j.some = true) : Calls Try.prog 20 #[.pointer (some ⟨x, 0, none⟩)] w fun e w' => e = .returned (.tuple #[.int .i64 j.hor, .bool true]) ∧ Below w.heap.size w w' := by
  obtain ⟨S, win, V, sm, top, hor, ct, cd, co, cl, cs⟩ := j
  obtain ⟨-, -, -, g3, -, g5, -, g11⟩ := hj
  simp only at g3 g5 hs ⊢
  subst hs
  go_enter Try.func20, Try.ntmps20
  go_wp2_with fail
  refine (ready_any x true w g11).mono ?_
  rintro e w1 ⟨rfl, rfl⟩
  go_wp2_with fail
  go_ret2
  exact ⟨rfl, Below.refl _ _⟩
end Go.Proofs.Ytebacmmfjadalaa
