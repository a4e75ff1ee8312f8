/- What a number is made of: the format of doubles, masks, canon, split, class. -/
import Derived.Test.YtebacmmfjadalaaJ24
import Derived.Deep.RegionHeld3
namespace Go.Proofs.Ytebacmmfjadalaa
open Go Go.RowKit

abbrev fmt : Value := .agg #[.int .u64 52, .int .i64 2047, .int .i64 1075]
theorem run_bits (f : Nat) (w : World) : Sem.run Try.prog (callFunc 62 #[.float .f64 f]) w = .ok (.value (.int .u64 f)) w :=
  (run_callFunc_extern (e := Extern.MathFloatBits.float64bits) Try.func62 (by kernel_rfl) (by kernel_rfl) (by kernel_rfl) (by kernel_rfl) _ _).trans rfl

theorem index_fmt (w : World) : Sem.run Try.prog (Instr.index 140 (.agg #[.int .u64 52, .int .i64 2047, .int .i64 1075, .int .u64 23, .int .i64 255, .int .i64 150]) (.int .i64 0)) w = .ok fmt w := by kernel_rfl
set_option maxRecDepth 100000 in
theorem of_dbl (w : World) : Calls Try.prog 60 #[.int .i64 0] w fun e w' => e = .returned fmt ∧ Below w.heap.size w w' := by
  have hix := index_fmt
  go_enter Try.func60, Try.ntmps60
  go_wp2_with fail
  exact bodyPost_ret (by simp only [results, Try.results60]; simp [go_sem]; try rfl) rfl ⟨rfl, (Below.refl w.heap.size w).alloc (Nat.le_refl _) _⟩

theorem hidden_dbl (w : World) : Calls Try.prog 81 #[fmt] w fun e w' => e = .returned (.int .u64 4503599627370496) ∧ Below w.heap.size w w' := by
  go_enter Try.func81, Try.ntmps81
  go_wp2_with fail
  go_ret
  exact ⟨rfl, (Below.refl _ _).alloc (Nat.le_refl _) _⟩
theorem sign_dbl (w : World) : Calls Try.prog 65 #[fmt] w fun e w' => e = .returned (.int .u64 9223372036854775808) ∧ Below w.heap.size w w' := by
  go_enter Try.func65, Try.ntmps65
  go_wp2_with fail
  go_ret
  exact ⟨rfl, (Below.refl _ _).alloc (Nat.le_refl _) _⟩
theorem infinite_dbl (w : World) : Calls Try.prog 75 #[fmt] w fun e w' => e = .returned (.int .u64 9218868437227405312) ∧ Below w.heap.size w w' := by
  go_enter Try.func75, Try.ntmps75
  go_wp2_with fail
  go_ret
  exact ⟨rfl, (Below.refl _ _).alloc (Nat.le_refl _) _⟩

def FmtAt (w : World) (g : Nat) : Prop := g < w.heap.size ∧ w.cell? ⟨g, 0, none⟩ = some (.int .u64 52) ∧ w.cell? ⟨g, 1, none⟩ = some (.int .i64 2047) ∧ w.cell? ⟨g, 2, none⟩ = some (.int .i64 1075)
theorem FmtAt.below {w w' : World} {g : Nat} (h : FmtAt w g) (hb : Below w.heap.size w w') : FmtAt w' g :=
  ⟨Nat.lt_of_lt_of_le h.1 hb.size, (hb.cell (p := ⟨g, 0, none⟩) h.1).trans h.2.1, (hb.cell (p := ⟨g, 1, none⟩) h.1).trans h.2.2.1, (hb.cell (p := ⟨g, 2, none⟩) h.1).trans h.2.2.2⟩
theorem fmt_at (w : World) (T : TypeId) : FmtAt (w.alloc (.cells #[.int .u64 52, .int .i64 2047, .int .i64 1075] T)) w.heap.size := by
  unfold FmtAt
  simp [go_sem]
theorem fmt_below (w : World) (T : TypeId) : Below w.heap.size w (w.alloc (.cells #[.int .u64 52, .int .i64 2047, .int .i64 1075] T)) := (Below.refl _ _).alloc (Nat.le_refl _) _
theorem back_of {w W w' : World} (h : Below w.heap.size w W) (k : Below W.heap.size W w') : Below w.heap.size w w' := h.trans (k.mono h.size)

set_option maxRecDepth 100000 in
set_option maxHeartbeats 1000000 in
theorem none_dbl (w : World) : Calls Try.prog 74 #[fmt] w fun e w' => e = .returned (.int .u64 9221120237041090561) ∧ Below w.heap.size w w' := by
  have HF := Lib.hid (fmt_at w 120)
  have HB := Lib.hid (fmt_below w 120)
  go_enter Try.func74, Try.ntmps74
  go_wp2_with fail
  generalize w.alloc (.cells #[.int .u64 52, .int .i64 2047, .int .i64 1075] 120) = W0 at *
  have hc : Below W0.heap.size W0 W0.drew := (Below.refl _ _).drew
  go_region_held3 (fun w' => w'.cell? ⟨w.heap.size, 0, none⟩ = some (.int .u64 52) ∧ w'.cell? ⟨w.heap.size, 1, none⟩ = some (.int .i64 2047) ∧ w'.cell? ⟨w.heap.size, 2, none⟩ = some (.int .i64 1075))
    (first | exact HF.out.2 | exact (HF.out.below hc).2)
    (first | (go_at_call 75; refine (infinite_dbl _).mono ?_; rintro e w1 ⟨rfl, hb1⟩; replace hc := back_of hc hb1; clear hb1) | (go_at_call 81; refine (hidden_dbl _).mono ?_; rintro e w1 ⟨rfl, hb1⟩; replace hc := back_of hc hb1; clear hb1))
  go_wp2_with fail
  go_ret
  exact ⟨by kernel_rfl, back_of HB.out hc⟩

def nanV (b : Int) : Bool := decide (9218868437227405312 < bits .andNot .u64 b 9223372036854775808)
set_option maxRecDepth 100000 in
set_option maxHeartbeats 1000000 in
theorem nan_dbl (b : Int) (w : World) : Calls Try.prog 63 #[.int .u64 b, fmt] w fun e w' => e = .returned (.bool (nanV b)) ∧ Below w.heap.size w w' := by
  have HF := Lib.hid (fmt_at w 120)
  have HB := Lib.hid (fmt_below w 120)
  go_enter Try.func63, Try.ntmps63
  go_wp2_with fail
  generalize w.alloc (.cells #[.int .u64 52, .int .i64 2047, .int .i64 1075] 120) = W0 at *
  have hc : Below W0.heap.size W0 W0.drew := (Below.refl _ _).drew
  go_region_held3 (fun w' => w'.cell? ⟨w.heap.size, 0, none⟩ = some (.int .u64 52) ∧ w'.cell? ⟨w.heap.size, 1, none⟩ = some (.int .i64 2047) ∧ w'.cell? ⟨w.heap.size, 2, none⟩ = some (.int .i64 1075))
    (first | exact HF.out.2 | exact (HF.out.below hc).2)
    (first | (go_at_call 75; refine (infinite_dbl _).mono ?_; rintro e w1 ⟨rfl, hb1⟩; replace hc := back_of hc hb1; clear hb1) | (go_at_call 65; refine (sign_dbl _).mono ?_; rintro e w1 ⟨rfl, hb1⟩; replace hc := back_of hc hb1; clear hb1))
  go_wp2_with fail
  go_ret
  exact ⟨rfl, back_of HB.out hc⟩

def canonV (b : Int) : Int := if nanV b = true then 9221120237041090561 else b
set_option maxRecDepth 100000 in
set_option maxHeartbeats 1000000 in
theorem canon_dbl (b : Int) (w : World) : Calls Try.prog 61 #[.int .u64 b, fmt] w fun e w' => e = .returned (.int .u64 (canonV b)) ∧ Below w.heap.size w w' := by
  have HF := Lib.hid (fmt_at w 120)
  have HB := Lib.hid (fmt_below w 120)
  obtain ⟨q, hq⟩ : ∃ q, nanV b = q := ⟨_, rfl⟩
  have HQ := Lib.hid hq
  have HN := Lib.hid (fun W => nan_dbl b W)
  rw [hq] at HN
  go_enter Try.func61, Try.ntmps61
  go_wp2_with fail
  generalize w.alloc (.cells #[.int .u64 52, .int .i64 2047, .int .i64 1075] 120) = W0 at *
  obtain ⟨hg, f0, f1, f2⟩ := HF.out
  clear hq
  cases q
  · go_wp2_with fail
    refine (HN.out W0).mono ?_
    rintro e w1 ⟨rfl, hb1⟩
    go_wp2_with fail
    go_ret
    exact ⟨by unfold canonV; rw [HQ.out]; rfl, back_of HB.out hb1⟩
  · go_wp2_with fail
    refine (HN.out W0).mono ?_
    rintro e w1 ⟨rfl, hb1⟩
    obtain ⟨-, k0, k1, k2⟩ := HF.out.below hb1
    go_wp2_with fail
    refine (none_dbl w1).mono ?_
    rintro e w2 ⟨rfl, hb2⟩
    go_wp2_with fail
    go_ret
    exact ⟨by unfold canonV; rw [HQ.out]; rfl, back_of HB.out (back_of hb1 hb2)⟩
end Go.Proofs.Ytebacmmfjadalaa
