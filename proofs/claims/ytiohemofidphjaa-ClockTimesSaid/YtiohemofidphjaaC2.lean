/- ClockTimes: the law answers true for every clock, count and time. -/
import Derived.Test.YtiohemofidphjaaQ20
import Derived.Test.YtiohemofidphjaaA6
namespace Go.Proofs.Ytiohemofidphjaa
open Go Go.RowKit Go.Proofs.Ytiohemofidphjaa.Bg

theorem clk_cells {w w1 : World} {o n d : Int} {t : TypeId} (h : Below (w.alloc (.cells #[.int .i64 o, .int .i64 n, .int .i64 d] t)).heap.size (w.alloc (.cells #[.int .i64 o, .int .i64 n, .int .i64 d] t)) w1) :
    w1.cell? ⟨w.heap.size, 0, none⟩ = some (.int .i64 o) ∧ w1.cell? ⟨w.heap.size, 1, none⟩ = some (.int .i64 n) ∧ w1.cell? ⟨w.heap.size, 2, none⟩ = some (.int .i64 d) :=
  ⟨(h.cell (by simp)).trans (by simp [go_sem]), (h.cell (by simp)).trans (by simp [go_sem]), (h.cell (by simp)).trans (by simp [go_sem])⟩

/-- the world behind calls that leave a clock's three cells alone -/
def KeptClk (w : World) (o n d : Int) (t : TypeId) (w1 : World) : Prop :=
  w1.cell? ⟨w.heap.size, 0, none⟩ = some (.int .i64 o) ∧ w1.cell? ⟨w.heap.size, 1, none⟩ = some (.int .i64 n) ∧ w1.cell? ⟨w.heap.size, 2, none⟩ = some (.int .i64 d) ∧ Below (w.heap.size + 1) (w.alloc (.cells #[.int .i64 o, .int .i64 n, .int .i64 d] t)) w1
theorem KeptClk.start {w w1 : World} {o n d : Int} {t : TypeId} (h : Below (w.alloc (.cells #[.int .i64 o, .int .i64 n, .int .i64 d] t)).heap.size (w.alloc (.cells #[.int .i64 o, .int .i64 n, .int .i64 d] t)) w1) : KeptClk w o n d t w1 :=
  have a := clk_cells h
  ⟨a.1, a.2.1, a.2.2, h.mono (by simp)⟩
theorem KeptClk.next {w w1 w2 : World} {o n d : Int} {t : TypeId} (h : KeptClk w o n d t w1) (hb : Below w1.heap.size w1 w2) : KeptClk w o n d t w2 := by
  have hs := h.2.2.2.size
  simp at hs
  exact ⟨(hb.cell (by show w.heap.size < _; omega)).trans h.1, (hb.cell (by show w.heap.size < _; omega)).trans h.2.1, (hb.cell (by show w.heap.size < _; omega)).trans h.2.2.1, h.2.2.2.trans (hb.mono (by omega))⟩

set_option maxHeartbeats 2000000 in
theorem timeslaw (o n d c t : Int) (w : World) :
    Calls Try.prog 7 #[.agg #[.int .i64 o, .int .i64 n, .int .i64 d], .int .i64 c, .int .i64 t] w fun e w' => e = .returned (.bool true) ∧ Below w.heap.size w w' := by
  have h1 := fun W => time_any o n d c W
  have h2 := fun W => rtime_any o n d c W
  have h3 := fun W => count_any o n d t W
  have h4 := fun W => rcount_any o n d t W
  have h5 := fun W => check_any o n d W
  have h6 := fun W => rcheck_any o n d W
  generalize Ck.timeV o n d c = V at h1 h2
  generalize Ck.timeE o n d c = E at h1 h2
  generalize Ck.countV o n d t = V' at h3 h4
  generalize Ck.countE o n d t = E' at h3 h4
  generalize (if Ck.okc o n d = true then (0 : Int) else 130) = K at h5 h6
  have H1 := Lib.hid h1
  have H2 := Lib.hid h2
  have H3 := Lib.hid h3
  have H4 := Lib.hid h4
  have H5 := Lib.hid h5
  have H6 := Lib.hid h6
  clear h1 h2 h3 h4 h5 h6
  go_enter Try.func7, Try.ntmps7
  go_wp2_with fail
  refine (H1.out _).mono ?_
  rintro e w1 ⟨rfl, hb⟩
  obtain ⟨a0, a1, a2⟩ := clk_cells hb
  have B1 := Lib.hid hb
  clear hb
  go_wp2_with fail
  refine (H2.out _).mono ?_
  rintro e w2 ⟨rfl, hb⟩
  have B2 := Lib.hid (below_chain B1.out hb)
  clear hb a0 a1 a2
  obtain ⟨a0, a1, a2⟩ := clk_cells B2.out
  go_wp2_with fail
  refine (H3.out _).mono ?_
  rintro e w3 ⟨rfl, hb⟩
  have B3 := Lib.hid (below_chain B2.out hb)
  clear hb a0 a1 a2
  obtain ⟨a0, a1, a2⟩ := clk_cells B3.out
  go_wp2_with fail
  refine (H4.out _).mono ?_
  rintro e w4 ⟨rfl, hb⟩
  have B4 := Lib.hid (below_chain B3.out hb)
  clear hb a0 a1 a2
  obtain ⟨a0, a1, a2⟩ := clk_cells B4.out
  go_wp2_with fail
  have HK := Lib.hid (KeptClk.start B4.out.drew)
  go_region_held3 (fun w' => w'.cell? ⟨w.heap.size, 0, none⟩ = some (.int .i64 o) ∧ w'.cell? ⟨w.heap.size, 1, none⟩ = some (.int .i64 n) ∧ w'.cell? ⟨w.heap.size, 2, none⟩ = some (.int .i64 d) ∧ Below (w.heap.size + 1) (w.alloc (.cells #[.int .i64 o, .int .i64 n, .int .i64 d] 31)) w')
    (first | exact KeptClk.next (by assumption) hb7 | exact KeptClk.next (by assumption) hb6 | exact KeptClk.next (by assumption) hb5 | exact HK.out)
    (first | (go_at_call 17; refine (H5.out _).mono ?_; rintro e w5 ⟨rfl, hb5⟩) | (go_at_call 18; refine (H6.out _).mono ?_; rintro e w6 ⟨rfl, hb6⟩) | (go_at_call 12; refine (awake_true _).mono ?_; rintro e w7 ⟨rfl, hb7⟩))
  have hS : w7.cell? ⟨w.heap.size, 0, none⟩ = some (.int .i64 o) ∧ w7.cell? ⟨w.heap.size, 1, none⟩ = some (.int .i64 n) ∧ w7.cell? ⟨w.heap.size, 2, none⟩ = some (.int .i64 d) ∧ Below (w.heap.size + 1) (w.alloc (.cells #[.int .i64 o, .int .i64 n, .int .i64 d] 31)) w7 := by assumption
  have HE := Lib.hid (((Below.refl w.heap.size w).alloc (Nat.le_refl _) _).trans (hS.2.2.2.mono (by omega)))
  clear hS hb5 hb6 hb7
  go_wp2_with fail
  go_ret
  exact ⟨rfl, HE.out⟩
end Go.Proofs.Ytiohemofidphjaa
