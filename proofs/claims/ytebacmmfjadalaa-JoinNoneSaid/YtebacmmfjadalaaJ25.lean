/- The walk of JoinNone: it answers true for every reading. -/
import Derived.Test.YtebacmmfjadalaaJ24
namespace Go.Proofs.Ytebacmmfjadalaa
open Go Go.RowKit

theorem on {w w1 w2 : World} (h : Below w.heap.size w w1) (k : Below w1.heap.size w1 w2) : Below w.heap.size w w2 := h.trans (k.mono h.size)

set_option maxRecDepth 100000 in
set_option maxHeartbeats 8000000 in
theorem none_walk (se sq st : Int) (A : Option Addr) (n c : Nat) (ts : List Int) (w : World) (hn : ts.length = n) (hc : ∀ i, i < n → ∃ b off, A = some ⟨b, off, none⟩ ∧ b < w.heap.size ∧ w.cell? ⟨b, off + i, none⟩ = some (.int .u64 (ts.getD i 0))) (hl : n * 8 ≤ 140737488355328) :
    Calls Try.prog 6 #[.agg #[.int .i64 se, .int .u32 sq, .int .u32 st, .slice A n c]] w fun e w' => e = .returned (.bool true) ∧ Below w.heap.size w w' := by
  have HO := Lib.hid (fun W (hW : Below w.heap.size w W) => of_any se sq st A n c ts W hn (fun i hi => by
    obtain ⟨b, off, h1, h2, h3⟩ := hc i hi
    exact ⟨b, off, h1, Nat.lt_of_lt_of_le h2 hW.size, (hW.cell (p := ⟨b, off + i, none⟩) h2).trans h3⟩) hl)
  clear hc hn
  go_enter Try.func6, Try.ntmps6
  go_wp2_with fail
  have H0 := Lib.hid (show ((((w.alloc (.cells #[.int .i64 se, .int .u32 sq, .int .u32 st, .slice A n c] 44)).alloc (.cells #[.slice none 0 0, .int .i64 0, .slice none 0 0, .bool false, .int .i64 0, .int .i64 0, .int .i64 0, .int .i64 0, .int .i64 0, .int .i64 0, .int .i64 0, .bool false] 60)).alloc (.cells #[.pointer none, .pointer (some ⟨w.heap.size + 1, 0, none⟩)] 38)).cell? ⟨w.heap.size, 0, none⟩ = some (.int .i64 se) ∧ (((w.alloc (.cells #[.int .i64 se, .int .u32 sq, .int .u32 st, .slice A n c] 44)).alloc (.cells #[.slice none 0 0, .int .i64 0, .slice none 0 0, .bool false, .int .i64 0, .int .i64 0, .int .i64 0, .int .i64 0, .int .i64 0, .int .i64 0, .int .i64 0, .bool false] 60)).alloc (.cells #[.pointer none, .pointer (some ⟨w.heap.size + 1, 0, none⟩)] 38)).cell? ⟨w.heap.size, 1, none⟩ = some (.int .u32 sq) ∧ (((w.alloc (.cells #[.int .i64 se, .int .u32 sq, .int .u32 st, .slice A n c] 44)).alloc (.cells #[.slice none 0 0, .int .i64 0, .slice none 0 0, .bool false, .int .i64 0, .int .i64 0, .int .i64 0, .int .i64 0, .int .i64 0, .int .i64 0, .int .i64 0, .bool false] 60)).alloc (.cells #[.pointer none, .pointer (some ⟨w.heap.size + 1, 0, none⟩)] 38)).cell? ⟨w.heap.size, 2, none⟩ = some (.int .u32 st) ∧ (((w.alloc (.cells #[.int .i64 se, .int .u32 sq, .int .u32 st, .slice A n c] 44)).alloc (.cells #[.slice none 0 0, .int .i64 0, .slice none 0 0, .bool false, .int .i64 0, .int .i64 0, .int .i64 0, .int .i64 0, .int .i64 0, .int .i64 0, .int .i64 0, .bool false] 60)).alloc (.cells #[.pointer none, .pointer (some ⟨w.heap.size + 1, 0, none⟩)] 38)).cell? ⟨w.heap.size, 3, none⟩ = some (.slice A n c)) ∧ (((w.alloc (.cells #[.int .i64 se, .int .u32 sq, .int .u32 st, .slice A n c] 44)).alloc (.cells #[.slice none 0 0, .int .i64 0, .slice none 0 0, .bool false, .int .i64 0, .int .i64 0, .int .i64 0, .int .i64 0, .int .i64 0, .int .i64 0, .int .i64 0, .bool false] 60)).alloc (.cells #[.pointer none, .pointer (some ⟨w.heap.size + 1, 0, none⟩)] 38)).cell? ⟨w.heap.size + 1, 11, none⟩ = some (.bool false) ∧
      (((w.alloc (.cells #[.int .i64 se, .int .u32 sq, .int .u32 st, .slice A n c] 44)).alloc (.cells #[.slice none 0 0, .int .i64 0, .slice none 0 0, .bool false, .int .i64 0, .int .i64 0, .int .i64 0, .int .i64 0, .int .i64 0, .int .i64 0, .int .i64 0, .bool false] 60)).alloc (.cells #[.pointer none, .pointer (some ⟨w.heap.size + 1, 0, none⟩)] 38)).cell? ⟨w.heap.size + 1 + 1, 0, none⟩ = some (.pointer none) ∧ (((w.alloc (.cells #[.int .i64 se, .int .u32 sq, .int .u32 st, .slice A n c] 44)).alloc (.cells #[.slice none 0 0, .int .i64 0, .slice none 0 0, .bool false, .int .i64 0, .int .i64 0, .int .i64 0, .int .i64 0, .int .i64 0, .int .i64 0, .int .i64 0, .bool false] 60)).alloc (.cells #[.pointer none, .pointer (some ⟨w.heap.size + 1, 0, none⟩)] 38)).cell? ⟨w.heap.size + 1 + 1, 1, none⟩ = some (.pointer (some ⟨w.heap.size + 1, 0, none⟩)) ∧ (((w.alloc (.cells #[.int .i64 se, .int .u32 sq, .int .u32 st, .slice A n c] 44)).alloc (.cells #[.slice none 0 0, .int .i64 0, .slice none 0 0, .bool false, .int .i64 0, .int .i64 0, .int .i64 0, .int .i64 0, .int .i64 0, .int .i64 0, .int .i64 0, .bool false] 60)).alloc (.cells #[.pointer none, .pointer (some ⟨w.heap.size + 1, 0, none⟩)] 38)).heap.size = w.heap.size + 3 from by simp [go_sem])
  have HB := Lib.hid (show Below w.heap.size w (((w.alloc (.cells #[.int .i64 se, .int .u32 sq, .int .u32 st, .slice A n c] 44)).alloc (.cells #[.slice none 0 0, .int .i64 0, .slice none 0 0, .bool false, .int .i64 0, .int .i64 0, .int .i64 0, .int .i64 0, .int .i64 0, .int .i64 0, .int .i64 0, .bool false] 60)).alloc (.cells #[.pointer none, .pointer (some ⟨w.heap.size + 1, 0, none⟩)] 38)) from (((Below.refl w.heap.size w).alloc (Nat.le_refl _) _).alloc (by simp) _).alloc (by simp; omega) _)
  generalize (((w.alloc (.cells #[.int .i64 se, .int .u32 sq, .int .u32 st, .slice A n c] 44)).alloc (.cells #[.slice none 0 0, .int .i64 0, .slice none 0 0, .bool false, .int .i64 0, .int .i64 0, .int .i64 0, .int .i64 0, .int .i64 0, .int .i64 0, .int .i64 0, .bool false] 60)).alloc (.cells #[.pointer none, .pointer (some ⟨w.heap.size + 1, 0, none⟩)] 38)) = W0 at *
  go_loopw [16] (fun iv wr => ∃ k : Nat, k ≤ 2 ∧ iv = .int .i64 (k : Int) ∧ Hid (Below W0.heap.size W0 wr)) (fun iv _ => 2 - (intOf iv).toNat)
  case atStart => exact ⟨0, by omega, rfl, Lib.hid (Below.refl _ _)⟩
  case round =>
    obtain ⟨k, hk, rfl, hh⟩ := hrel
    by_cases hlt : k < 2
    · obtain ⟨px, hpx, hno⟩ : ∃ px, wr.cell? ⟨w.heap.size + 1 + 1, k, none⟩ = some px ∧ NoJ px wr := by
        have hs := H0.out.2.2.2.2
        rcases (by omega : k = 0 ∨ k = 1) with rfl | rfl
        · exact ⟨_, (hh.out.cell (by show w.heap.size + 1 + 1 < _; omega)).trans H0.out.2.2.1, .inl rfl⟩
        · exact ⟨_, (hh.out.cell (by show w.heap.size + 1 + 1 < _; omega)).trans H0.out.2.2.2.1, .inr ⟨w.heap.size + 1, rfl, Nat.lt_of_lt_of_le (by omega) hh.out.size, (hh.out.cell (by show w.heap.size + 1 < _; omega)).trans H0.out.2.1⟩⟩
      have hrs : w.heap.size < W0.heap.size := by have := H0.out.2.2.2.2; omega
      have r0 := (hh.out.cell (p := ⟨w.heap.size, 0, none⟩) hrs).trans H0.out.1.1
      have r1 := (hh.out.cell (p := ⟨w.heap.size, 1, none⟩) hrs).trans H0.out.1.2.1
      have r2 := (hh.out.cell (p := ⟨w.heap.size, 2, none⟩) hrs).trans H0.out.1.2.2.1
      have r3 := (hh.out.cell (p := ⟨w.heap.size, 3, none⟩) hrs).trans H0.out.1.2.2.2
      have HNO := Lib.hid hno
      have hrw := Nat.lt_of_lt_of_le hrs hh.out.size
      have hki : (k : Int) < 2 := by omega
      clear hno
      go_wp2_with fail
      refine (HO.out wr (on HB.out hh.out)).mono ?_
      rintro e w1 ⟨⟨B, m, kk, rfl⟩, hb1⟩
      have HB1 := Lib.hid hb1
      clear hb1
      go_wp2_with fail
      refine (push_no px se sq st B m kk w1 (HNO.out.below HB1.out)).mono ?_
      rintro e w2 ⟨rfl, hb2⟩
      have HB2 := Lib.hid (on HB1.out hb2)
      clear hb2 HB1
      go_wp2_with fail
      refine (horizon_no px w2 (HNO.out.below HB2.out)).mono ?_
      rintro e w3 ⟨rfl, hb3⟩
      have HB3 := Lib.hid (on HB2.out hb3)
      clear hb3 HB2
      go_wp2_with fail
      refine (flush_no px w3 (HNO.out.below HB3.out)).mono ?_
      rintro e w4 ⟨rfl, hb4⟩
      have HB4 := Lib.hid (on HB3.out hb4)
      clear hb4 HB3
      go_wp2_with fail
      refine (waiting_no px w4 (HNO.out.below HB4.out)).mono ?_
      rintro e w5 ⟨rfl, hb5⟩
      have HB5 := Lib.hid (on HB4.out hb5)
      clear hb5 HB4
      go_wp2_with fail
      refine (counts_no px w5 (HNO.out.below HB5.out)).mono ?_
      rintro e w6 ⟨rfl, hb6⟩
      have HB6 := Lib.hid (on HB5.out hb6)
      have z0 := (HB6.out.cell (p := ⟨w.heap.size, 0, none⟩) hrw).trans r0
      have z1 := (HB6.out.cell (p := ⟨w.heap.size, 1, none⟩) hrw).trans r1
      clear hb6 HB5
      go_wp2_with fail
      refine (seen_no px se sq w6 (HNO.out.below HB6.out)).mono ?_
      rintro e w7 ⟨rfl, hb7⟩
      have HB7 := Lib.hid (on HB6.out hb7)
      clear hb7 HB6
      go_wp2_with fail
      refine (clone_no px w7 (HNO.out.below HB7.out)).mono ?_
      rintro e w8 ⟨rfl, hb8⟩
      have HB8 := Lib.hid (on HB7.out hb8)
      clear hb8 HB7
      go_wp2_with fail
      go_roundw
      case rel => exact ⟨k + 1, by omega, by go_num, Lib.hid (on hh.out HB8.out)⟩
      case measure => simp [intOf]; omega
    · have hkn : k = 2 := by omega
      subst hkn
      go_wp2_with fail
      refine (awake_join wr).mono ?_
      rintro e w1 ⟨rfl, hb1⟩
      have HE := Lib.hid (on HB.out (on hh.out hb1))
      clear hb1
      go_wp2_with fail
      go_ret
      exact ⟨rfl, HE.out⟩
end Go.Proofs.Ytebacmmfjadalaa
