/- The walk of ClockRises: it answers true for every clock and every two counts. No condition. -/
import Derived.Test.YtiohemofidphjaaA6
namespace Go.Proofs.Ytiohemofidphjaa
open Go.RowKit

theorem keep_in {P : Program} {f : FuncId} {args : Array Value} {W0 x : World} {v : Ending} (h : Calls P f args x fun e w' => e = v ∧ Below x.heap.size x w') (hx : Below W0.heap.size W0 x) :
    Calls P f args x fun e w' => e = v ∧ Below W0.heap.size W0 w' := h.mono fun _ _ ⟨a, b⟩ => ⟨a, hx.trans (b.mono hx.size)⟩

/-- the time of a count, where there is one -/
theorem time_ok (o n d c t : Int) (w : World) (h : Ck.timeOk o n d c = true ∧ o + c * n / d = t) :
    Calls Try.prog 13 #[.agg #[.int .i64 o, .int .i64 n, .int .i64 d], .int .i64 c] w fun e w' => e = .returned (.tuple #[.int .i64 t, .int .i64 0]) ∧ Below w.heap.size w w' := by
  have hh := time_any o n d c w
  rw [show Ck.timeV o n d c = t by simp [Ck.timeV, h.1, h.2], show Ck.timeE o n d c = 0 by simp [Ck.timeE, h.1, (Ck.timeOk_iff.1 h.1).1]] at hh
  exact hh
/-- .. where there is none -/
theorem time_no (o n d c : Int) (w : World) (h : Ck.timeOk o n d c = false) :
    Calls Try.prog 13 #[.agg #[.int .i64 o, .int .i64 n, .int .i64 d], .int .i64 c] w fun e w' => e = .returned (.tuple #[.int .i64 0, .int .i64 (if Ck.okc o n d then 1 else 130)]) ∧ Below w.heap.size w w' := by
  have hh := time_any o n d c w
  rw [show Ck.timeV o n d c = 0 by simp [Ck.timeV, h], show Ck.timeE o n d c = if Ck.okc o n d then 1 else 130 by simp [Ck.timeE, h]] at hh
  exact hh

set_option maxHeartbeats 1000000 in
theorem rises (o n d aa bb : Int) (w : World) :
    Calls Try.prog 4 #[.agg #[.int .i64 o, .int .i64 n, .int .i64 d], .int .i64 aa, .int .i64 bb] w fun e w' => e = .returned (.bool true) ∧ Below w.heap.size w w' := by
  have h0 := Below.refl (w.alloc (.cells #[.int .i64 o, .int .i64 n, .int .i64 d] 31)).heap.size (w.alloc (.cells #[.int .i64 o, .int .i64 n, .int .i64 d] 31))
  by_cases ka : Ck.timeOk o n d aa = true
  · obtain ⟨ta, hta⟩ : ∃ t, o + aa * n / d = t := ⟨_, rfl⟩
    have H1 := Lib.hid (And.intro ka hta)
    by_cases kb : Ck.timeOk o n d bb = true
    · obtain ⟨tb, htb⟩ : ∃ t, o + bb * n / d = t := ⟨_, rfl⟩
      have H2 := Lib.hid (And.intro kb htb)
      have hk := Ck.okc_iff.1 (Ck.timeOk_iff.1 ka).1
      obtain ⟨n0, n1, d0, d1, -, -⟩ := hk
      have m1 := fun h : aa ≤ bb => Ck.time_mono (o := o) n0 d0 h
      have m2 := fun h : bb ≤ aa => Ck.time_mono (o := o) n0 d0 h
      have m3 := fun (h : aa < bb) (g : d ≤ n) => Ck.time_strict (o := o) d0 g h
      have m4 := fun (h : bb < aa) (g : d ≤ n) => Ck.time_strict (o := o) d0 g h
      rw [hta, htb] at m1 m2 m3 m4
      clear ka kb hta htb
      rcases Int.lt_trichotomy aa bb with c | c | c
      · have m1' := m1 (by omega)
        have cc : (aa == bb) = false := by simp; omega
        by_cases g : n < d
        · clear m1 m2 m3 m4
          go_enter Try.func4, Try.ntmps4
          go_wp2_with (first | (go_at_call_of 13 aa; refine (keep_in (time_ok _ _ _ _ ta _ H1.out) (by assumption)).mono ?_; rintro e x1 ⟨rfl, hx1⟩; obtain ⟨hcell1, -⟩ := bcell hx1) | (go_at_call_of 13 bb; refine (keep_in (time_ok _ _ _ _ tb _ H2.out) (by assumption)).mono ?_; rintro e x2 ⟨rfl, hx2⟩; obtain ⟨hcell2, -⟩ := bcell hx2) | (go_at_call 12; refine (keep_in (awake_true _) (by assumption)).mono ?_; rintro e x3 ⟨rfl, hx3⟩))
          go_ret
          exact ⟨rfl, below2 hx3⟩
        · have m3' := m3 c (by omega)
          clear m1 m2 m3 m4
          go_enter Try.func4, Try.ntmps4
          go_wp2_with (first | (go_at_call_of 13 aa; refine (keep_in (time_ok _ _ _ _ ta _ H1.out) (by assumption)).mono ?_; rintro e x1 ⟨rfl, hx1⟩; obtain ⟨hcell1, -⟩ := bcell hx1) | (go_at_call_of 13 bb; refine (keep_in (time_ok _ _ _ _ tb _ H2.out) (by assumption)).mono ?_; rintro e x2 ⟨rfl, hx2⟩; obtain ⟨hcell2, -⟩ := bcell hx2) | (go_at_call 12; refine (keep_in (awake_true _) (by assumption)).mono ?_; rintro e x3 ⟨rfl, hx3⟩))
          go_ret
          exact ⟨rfl, below2 hx3⟩
      · subst c
        clear m1 m2 m3 m4
        obtain rfl : ta = tb := H1.out.2.symm.trans H2.out.2
        go_enter Try.func4, Try.ntmps4
        go_wp2_with (first | (go_at_call_of 13 aa; refine (keep_in (time_ok _ _ _ _ ta _ H1.out) (by assumption)).mono ?_; rintro e x1 ⟨rfl, hx1⟩; obtain ⟨hcell1, -⟩ := bcell hx1) | (go_at_call 12; refine (keep_in (awake_true _) (by assumption)).mono ?_; rintro e x3 ⟨rfl, hx3⟩))
        go_ret
        exact ⟨rfl, below2 hx3⟩
      · have m2' := m2 (by omega)
        have cc : (bb == aa) = false := by simp; omega
        by_cases g : n < d
        · clear m1 m2 m3 m4
          go_enter Try.func4, Try.ntmps4
          go_wp2_with (first | (go_at_call_of 13 aa; refine (keep_in (time_ok _ _ _ _ ta _ H1.out) (by assumption)).mono ?_; rintro e x1 ⟨rfl, hx1⟩; obtain ⟨hcell1, -⟩ := bcell hx1) | (go_at_call_of 13 bb; refine (keep_in (time_ok _ _ _ _ tb _ H2.out) (by assumption)).mono ?_; rintro e x2 ⟨rfl, hx2⟩; obtain ⟨hcell2, -⟩ := bcell hx2) | (go_at_call 12; refine (keep_in (awake_true _) (by assumption)).mono ?_; rintro e x3 ⟨rfl, hx3⟩))
          go_ret
          exact ⟨rfl, below2 hx3⟩
        · have m4' := m4 c (by omega)
          clear m1 m2 m3 m4
          go_enter Try.func4, Try.ntmps4
          go_wp2_with (first | (go_at_call_of 13 aa; refine (keep_in (time_ok _ _ _ _ ta _ H1.out) (by assumption)).mono ?_; rintro e x1 ⟨rfl, hx1⟩; obtain ⟨hcell1, -⟩ := bcell hx1) | (go_at_call_of 13 bb; refine (keep_in (time_ok _ _ _ _ tb _ H2.out) (by assumption)).mono ?_; rintro e x2 ⟨rfl, hx2⟩; obtain ⟨hcell2, -⟩ := bcell hx2) | (go_at_call 12; refine (keep_in (awake_true _) (by assumption)).mono ?_; rintro e x3 ⟨rfl, hx3⟩))
          go_ret
          exact ⟨rfl, below2 hx3⟩
    · have kb' : Ck.timeOk o n d bb = false := by simpa using kb
      have hn := fun w => time_no o n d bb w kb'
      obtain ⟨E, hE⟩ : ∃ E : Int, (if Ck.okc o n d then (1 : Int) else 130) = E := ⟨_, rfl⟩
      have hE0 : ¬ E = 0 := by subst hE; split <;> omega
      rw [hE] at hn
      have HN := Lib.hid hn
      have cc : ¬ aa = bb := fun e => kb (e ▸ ka)
      clear ka kb kb' hn hE hta
      go_enter Try.func4, Try.ntmps4
      go_wp2_with (first | (go_at_call_of 13 aa; refine (keep_in (time_ok _ _ _ aa ta _ H1.out) (by assumption)).mono ?_; rintro e x1 ⟨rfl, hx1⟩; obtain ⟨hcell1, -⟩ := bcell hx1) | (go_at_call_of 13 bb; refine (keep_in (HN.out _) (by assumption)).mono ?_; rintro e x2 ⟨rfl, hx2⟩; obtain ⟨hcell2, -⟩ := bcell hx2) | (go_at_call 12; refine (keep_in (awake_true _) (by assumption)).mono ?_; rintro e x3 ⟨rfl, hx3⟩))
      go_ret
      exact ⟨rfl, below2 hx3⟩
  · have ka' : Ck.timeOk o n d aa = false := by simpa using ka
    have hn := fun w => time_no o n d aa w ka'
    obtain ⟨E, hE⟩ : ∃ E : Int, (if Ck.okc o n d then (1 : Int) else 130) = E := ⟨_, rfl⟩
    have hE0 : ¬ E = 0 := by subst hE; split <;> omega
    rw [hE] at hn
    have hn2 := time_any o n d bb
    obtain ⟨T2, hT2⟩ : ∃ T, Ck.timeV o n d bb = T := ⟨_, rfl⟩
    obtain ⟨E2, hE2⟩ : ∃ T, Ck.timeE o n d bb = T := ⟨_, rfl⟩
    rw [hT2, hE2] at hn2
    unfold clk at hn2
    by_cases cc : aa = bb
    · subst cc
      have HN := Lib.hid hn
      clear ka ka' hn hE hn2 hT2 hE2
      go_enter Try.func4, Try.ntmps4
      go_wp2_with (first | (go_at_call 13; refine (keep_in (HN.out _) (by assumption)).mono ?_; rintro e x2 ⟨rfl, hx2⟩; obtain ⟨hcell2, -⟩ := bcell hx2) | (go_at_call 12; refine (keep_in (awake_true _) (by assumption)).mono ?_; rintro e x3 ⟨rfl, hx3⟩))
      go_ret
      exact ⟨rfl, below2 hx3⟩
    · have HN := Lib.hid hn
      have HN2 := Lib.hid hn2
      clear ka ka' hn hE hn2 hT2 hE2
      go_enter Try.func4, Try.ntmps4
      go_wp2_with (first | (go_at_call_of 13 aa; refine (keep_in (HN.out _) (by assumption)).mono ?_; rintro e x2 ⟨rfl, hx2⟩; obtain ⟨hcell2, -⟩ := bcell hx2) | (go_at_call_of 13 bb; refine (keep_in (HN2.out _) (by assumption)).mono ?_; rintro e x2 ⟨rfl, hx2⟩; obtain ⟨hcell2, -⟩ := bcell hx2) | (go_at_call 12; refine (keep_in (awake_true _) (by assumption)).mono ?_; rintro e x3 ⟨rfl, hx3⟩))
      go_ret
      exact ⟨rfl, below2 hx3⟩
end Go.Proofs.Ytiohemofidphjaa
