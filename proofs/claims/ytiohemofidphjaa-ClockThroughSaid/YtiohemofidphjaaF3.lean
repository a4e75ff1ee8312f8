/- clock.Fit: the other lengths; the contract for every list of pairs. -/
import Derived.Test.YtiohemofidphjaaF2
namespace Go.Proofs.Ytiohemofidphjaa
open Go Go.RowKit

theorem fit_long (A : Option Addr) (n c : Nat) (ps : List (Int × Int)) (w : World) (hlen : ps.length = n) (hn : 1024 < n) (hm : n ≤ 9223372036854775807) :
    Calls Try.prog 20 #[.slice A n c] w fun e w' => e = .returned (fitR ps) ∧ Below w.heap.size w w' := by
  have HL := Lib.hid hlen
  clear hlen
  have hn' : (1024 : Int) < (n : Int) := by omega
  go_enter Try.func20, Try.ntmps20
  go_wp2_with fail
  exact bodyPost_ret (by simp only [results, Try.results20]; simp [go_sem]; try rfl) rfl ⟨by rw [fitR_bad (Ck.fitE_long (by rw [HL.out]; exact hn)) (by decide)], (Below.refl _ _).alloc (Nat.le_refl _) _⟩

theorem fit_zero (A : Option Addr) (c : Nat) (w : World) :
    Calls Try.prog 20 #[.slice A 0 c] w fun e w' => e = .returned (fitR []) ∧ Below w.heap.size w w' := by
  go_enter Try.func20, Try.ntmps20
  go_wp2_with fail
  refine wp_loop_rounds 1 ?_
  rw [rounds_succ]
  go_wp2_with fail
  exact bodyPost_ret (by simp only [results, Try.results20]; simp [go_sem]; try rfl) rfl ⟨by rw [fitR_bad (Ck.fitE_few (by decide) (by decide)) (by decide)], (Below.refl _ _).alloc (Nat.le_refl _) _⟩

theorem inL_one {p : Int × Int} (h : Ck.inT p.1 = true) (h' : Ck.inT p.2 = true) : Ck.inL [p] = true := by
  rw [Ck.inL, decide_eq_true_eq]
  intro j hj
  have : j = 0 := by simp at hj; omega
  subst this
  exact ⟨h, h'⟩

set_option maxRecDepth 8000 in
set_option maxHeartbeats 1000000 in
theorem fit_one (b off c : Nat) (x y : Int) (w : World) (hb : b < w.heap.size)
    (h1 : w.cell? ⟨b, off, none⟩ = some (.int .i64 x)) (h2 : w.cell? ⟨b, off + 1, none⟩ = some (.int .i64 y)) :
    Calls Try.prog 20 #[.slice (some ⟨b, off, none⟩) 1 c] w fun e w' => e = .returned (fitR [(x, y)]) ∧ Below w.heap.size w w' := by
  have hbn : ¬ b = w.heap.size := by omega
  have HE : Hid (Below w.heap.size w ((w.alloc (.cells #[.int .i64 0, .int .i64 0, .int .i64 0] 31)).alloc (.cells #[.int .i64 x, .int .i64 y] 47))) := Lib.hid (((Below.refl _ _).alloc (Nat.le_refl _) _).alloc (by simp) _)
  by_cases ix : Ck.inT x = true
  · have IX := Lib.hid ix
    clear ix
    by_cases iy : Ck.inT y = true
    · have IY := Lib.hid iy
      clear iy
      go_enter Try.func20, Try.ntmps20
      go_wp2_with fail
      refine wp_loop_rounds 2 ?_
      rw [rounds_succ]
      go_wp2_with (go_at_call 21; refine (withinT _ _).mono ?_; (first | rw [IX.out] | rw [IY.out]); rintro e w' ⟨rfl, rfl⟩)
      rw [rounds_succ]
      go_wp2_with fail
      exact bodyPost_ret (by simp only [results, Try.results20]; simp [go_sem]; try rfl) rfl ⟨by rw [fitR_bad (Ck.fitE_few (inL_one IX.out IY.out) (by simp)) (by decide)], HE.out⟩
    · have iy' : Ck.inT y = false := by simpa using iy
      have IY := Lib.hid iy'
      clear iy iy'
      go_enter Try.func20, Try.ntmps20
      go_wp2_with fail
      refine wp_loop_rounds 2 ?_
      rw [rounds_succ]
      go_wp2_with (go_at_call 21; refine (withinT _ _).mono ?_; (first | rw [IX.out] | rw [IY.out]); rintro e w' ⟨rfl, rfl⟩)
      exact bodyPost_ret (by simp only [results, Try.results20]; simp [go_sem]; try rfl) rfl ⟨by rw [fitR_bad (Ck.fitE_range (ps := [(x, y)]) (by simp) (j := 0) (by simp) (.inr IY.out)) (by decide)], HE.out⟩
  · have ix' : Ck.inT x = false := by simpa using ix
    have IX := Lib.hid ix'
    clear ix ix'
    go_enter Try.func20, Try.ntmps20
    go_wp2_with fail
    refine wp_loop_rounds 2 ?_
    rw [rounds_succ]
    go_wp2_with (go_at_call 21; refine (withinT _ _).mono ?_; rw [IX.out]; rintro e w' ⟨rfl, rfl⟩)
    exact bodyPost_ret (by simp only [results, Try.results20]; simp [go_sem]; try rfl) rfl ⟨by rw [fitR_bad (Ck.fitE_range (ps := [(x, y)]) (by simp) (j := 0) (by simp) (.inl IX.out)) (by decide)], HE.out⟩

theorem fit_any {v : Value} {ps : List (Int × Int)} {w : World} (h : Prs w v ps) (hm : ∀ A n c, v = .slice A n c → c ≤ 9223372036854775807) :
    Calls Try.prog 20 #[v] w fun e w' => e = .returned (fitR ps) ∧ Below w.heap.size w w' := by
  obtain ⟨A, c, rfl, hc, hcell⟩ := h
  have hcm := hm _ _ _ rfl
  clear hm
  rcases Nat.lt_or_ge 1024 ps.length with hl | hl
  · exact fit_long A _ c ps w rfl hl (by omega)
  rcases Nat.lt_or_ge ps.length 2 with h2 | h2
  · match ps, h2 with
    | [], _ => exact fit_zero A c w
    | [p], _ =>
      obtain ⟨b, off, rfl, hb, hj⟩ := hcell (by simp)
      have := hj 0 (by simp)
      simp only [Nat.zero_mul, Nat.add_zero] at this
      exact fit_one b off c p.1 p.2 w hb this.1 this.2
  · obtain ⟨b, off, rfl, hb, hj⟩ := hcell (by omega)
    exact fit_walk b off c _ ps w rfl hb hj hl h2 hc hcm
end Go.Proofs.Ytiohemofidphjaa
