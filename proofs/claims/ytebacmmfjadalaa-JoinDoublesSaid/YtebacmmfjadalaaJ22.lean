/- What a joiner that there isn't answers. -/
import Derived.Test.YtebacmmfjadalaaJ21
namespace Go.Proofs.Ytebacmmfjadalaa
open Go Go.RowKit

/-- no joiner, or one that nobody made -/
def NoJ (px : Value) (w : World) : Prop := px = .pointer none ∨ ∃ x, px = .pointer (some ⟨x, 0, none⟩) ∧ x < w.heap.size ∧ w.cell? ⟨x, 11, none⟩ = some (.bool false)
theorem NoJ.below {px : Value} {w w' : World} (h : NoJ px w) (hb : Below w.heap.size w w') : NoJ px w' := by
  rcases h with h | ⟨x, h, hx, hc⟩
  · exact .inl h
  · exact .inr ⟨x, h, Nat.lt_of_lt_of_le hx hb.size, (hb.cell (p := ⟨x, 11, none⟩) hx).trans hc⟩
theorem ready_no (px : Value) (w : World) (h : NoJ px w) : Calls Try.prog 35 #[px] w fun e w' => e = .returned (.bool false) ∧ w = w' := by
  rcases h with rfl | ⟨x, rfl, hx, hc⟩
  · exact ready_none w
  · exact ready_any x false w hc

set_option maxRecDepth 100000 in
set_option maxHeartbeats 1000000 in
theorem push_no (px : Value) (se sq st : Int) (A : Option Addr) (n c : Nat) (w : World) (h : NoJ px w) : Calls Try.prog 15 #[px, .agg #[.int .i64 se, .int .u32 sq, .int .u32 st, .slice A n c]] w fun e w' => e = .returned (.tuple #[.int .i64 0, .slice none 0 0, .int .i64 232]) ∧ Below w.heap.size w w' := by
  have HN := Lib.hid h
  clear h
  go_enter Try.func15, Try.ntmps15
  go_wp2_with fail
  refine (ready_no px _ (HN.out.below ((Below.refl w.heap.size w).alloc (Nat.le_refl _) _))).mono ?_
  rintro e w1 ⟨rfl, rfl⟩
  go_wp2_with fail
  go_ret3
  exact ⟨rfl, ((Below.refl w.heap.size w).alloc (Nat.le_refl _) _)⟩
set_option maxHeartbeats 1000000 in
theorem horizon_no (px : Value) (w : World) (h : NoJ px w) : Calls Try.prog 20 #[px] w fun e w' => e = .returned (.tuple #[.int .i64 0, .bool false]) ∧ Below w.heap.size w w' := by
  have HN := Lib.hid h
  clear h
  go_enter Try.func20, Try.ntmps20
  go_wp2_with fail
  refine (ready_no px _ (HN.out.below (Below.refl w.heap.size w))).mono ?_
  rintro e w1 ⟨rfl, rfl⟩
  go_wp2_with fail
  go_ret2
  exact ⟨rfl, (Below.refl w.heap.size w)⟩
set_option maxHeartbeats 1000000 in
theorem flush_no (px : Value) (w : World) (h : NoJ px w) : Calls Try.prog 18 #[px] w fun e w' => e = .returned (.slice none 0 0) ∧ Below w.heap.size w w' := by
  have HN := Lib.hid h
  clear h
  go_enter Try.func18, Try.ntmps18
  go_wp2_with fail
  refine (ready_no px _ (HN.out.below (Below.refl w.heap.size w))).mono ?_
  rintro e w1 ⟨rfl, rfl⟩
  go_wp2_with fail
  go_ret
  exact ⟨rfl, (Below.refl w.heap.size w)⟩
set_option maxHeartbeats 1000000 in
theorem waiting_no (px : Value) (w : World) (h : NoJ px w) : Calls Try.prog 17 #[px] w fun e w' => e = .returned (.slice none 0 0) ∧ Below w.heap.size w w' := by
  have HN := Lib.hid h
  clear h
  go_enter Try.func17, Try.ntmps17
  go_wp2_with fail
  refine (ready_no px _ (HN.out.below (Below.refl w.heap.size w))).mono ?_
  rintro e w1 ⟨rfl, rfl⟩
  go_wp2_with fail
  go_ret
  exact ⟨rfl, (Below.refl w.heap.size w)⟩
set_option maxHeartbeats 1000000 in
theorem seen_no (px : Value) (se sq : Int) (w : World) (h : NoJ px w) : Calls Try.prog 21 #[px, .int .i64 se, .int .u32 sq] w fun e w' => e = .returned (.bool false) ∧ Below w.heap.size w w' := by
  have HN := Lib.hid h
  clear h
  go_enter Try.func21, Try.ntmps21
  go_wp2_with fail
  refine (ready_no px _ (HN.out.below (Below.refl w.heap.size w))).mono ?_
  rintro e w1 ⟨rfl, rfl⟩
  go_wp2_with fail
  go_ret
  exact ⟨rfl, (Below.refl w.heap.size w)⟩
set_option maxHeartbeats 1000000 in
theorem clone_no (px : Value) (w : World) (h : NoJ px w) : Calls Try.prog 22 #[px] w fun e w' => e = .returned (.pointer none) ∧ Below w.heap.size w w' := by
  have HN := Lib.hid h
  clear h
  go_enter Try.func22, Try.ntmps22
  go_wp2_with fail
  refine (ready_no px _ (HN.out.below (Below.refl w.heap.size w))).mono ?_
  rintro e w1 ⟨rfl, rfl⟩
  go_wp2_with fail
  go_ret
  exact ⟨rfl, (Below.refl w.heap.size w)⟩
set_option maxHeartbeats 1000000 in
theorem counts_no (px : Value) (w : World) (h : NoJ px w) : Calls Try.prog 19 #[px] w fun e w' => e = .returned (.agg #[.int .i64 0, .int .i64 0, .int .i64 0, .int .i64 0, .int .i64 0]) ∧ Below w.heap.size w w' := by
  have HN := Lib.hid h
  clear h
  go_enter Try.func19, Try.ntmps19
  go_wp2_with fail
  refine (ready_no px _ (HN.out.below ((Below.refl w.heap.size w).alloc (Nat.le_refl _) _))).mono ?_
  rintro e w1 ⟨rfl, rfl⟩
  go_wp2_with fail
  exact bodyPost_ret (by simp only [results, Try.results19]; simp [go_sem]; try rfl) rfl ⟨rfl, ((Below.refl w.heap.size w).alloc (Nat.le_refl _) _)⟩
end Go.Proofs.Ytebacmmfjadalaa
