/- The walk of ClockBack: it answers true for every clock, every count and every time. No condition. -/
import Derived.Test.YtiohemofidphjaaA7
import Derived.Test.YtiohemofidphjaaM3
namespace Go.Proofs.Ytiohemofidphjaa
open Go.RowKit

theorem count_ok (o n d t m : Int) (w : World) (h : Ck.countOk o n d t = true ∧ -((o - t) * d / n) = m) :
    Calls Try.prog 14 #[.agg #[.int .i64 o, .int .i64 n, .int .i64 d], .int .i64 t] w fun e w' => e = .returned (.tuple #[.int .i64 m, .int .i64 0]) ∧ Below w.heap.size w w' := by
  have hh := count_any o n d t w
  rw [show Ck.countV o n d t = m by simp [Ck.countV, h.1, h.2], show Ck.countE o n d t = 0 by simp [Ck.countE, h.1, (Ck.countOk_iff.1 h.1).1]] at hh
  exact hh
theorem count_no (o n d t : Int) (w : World) (h : Ck.countOk o n d t = false) :
    Calls Try.prog 14 #[.agg #[.int .i64 o, .int .i64 n, .int .i64 d], .int .i64 t] w fun e w' => e = .returned (.tuple #[.int .i64 0, .int .i64 (if Ck.okc o n d then 1 else 130)]) ∧ Below w.heap.size w w' := by
  have hh := count_any o n d t w
  rw [show Ck.countV o n d t = 0 by simp [Ck.countV, h], show Ck.countE o n d t = if Ck.okc o n d then 1 else 130 by simp [Ck.countE, h]] at hh
  exact hh

/-- one call of Time: its two answers, of which nothing is known but what the test asks -/
def TimeIs (o n d c T E : Int) : Prop := ∀ w : World, Calls Try.prog 13 #[.agg #[.int .i64 o, .int .i64 n, .int .i64 d], .int .i64 c] w fun e w' => e = .returned (.tuple #[.int .i64 T, .int .i64 E]) ∧ Below w.heap.size w w'
def CountIs (o n d t T E : Int) : Prop := ∀ w : World, Calls Try.prog 14 #[.agg #[.int .i64 o, .int .i64 n, .int .i64 d], .int .i64 t] w fun e w' => e = .returned (.tuple #[.int .i64 T, .int .i64 E]) ∧ Below w.heap.size w w'

/-- what the first half comes to -/
def Half1 (o n d c : Int) : Prop :=
  (∃ E, ¬ E = 0 ∧ TimeIs o n d c 0 E) ∨ (∃ x, TimeIs o n d c x 0 ∧ CountIs o n d x 0 1 ∧ c ≤ -1125898906842624) ∨
  (∃ x m, TimeIs o n d c x 0 ∧ CountIs o n d x m 0 ∧ TimeIs o n d m x 0 ∧ m ≤ c)
theorem half1 (o n d c : Int) : Half1 o n d c := by
  rcases Ck.back_one o n d c with h | ⟨h1, h2, h3⟩ | ⟨h1, h2, h3, h4, h5⟩
  · refine .inl ⟨if Ck.okc o n d then 1 else 130, by split <;> omega, fun w => time_no o n d c w h⟩
  · refine .inr (.inl ⟨_, fun w => time_ok o n d c _ w ⟨h1, rfl⟩, fun w => ?_, h3⟩)
    have := count_no o n d _ w h2
    rw [(Ck.timeOk_iff.1 h1).1] at this
    exact this
  · exact .inr (.inr ⟨_, _, fun w => time_ok o n d c _ w ⟨h1, rfl⟩, fun w => count_ok o n d _ _ w ⟨h2, rfl⟩, fun w => time_ok o n d _ _ w ⟨h3, h4⟩, h5⟩)
/-- what the second half comes to -/
def Half2 (o n d t : Int) : Prop :=
  (∃ E, ¬ E = 0 ∧ CountIs o n d t 0 E) ∨
  (∃ m T E T' E', CountIs o n d t m 0 ∧ -1125899906842624 ≤ m ∧ m ≤ 1125899906842624 ∧ TimeIs o n d m T E ∧ TimeIs o n d (m - 1) T' E' ∧ (¬ E = 0 ∨ E = 0 ∧ t ≤ T) ∧ (¬ E' = 0 ∨ E' = 0 ∧ T' < t))
theorem time_is (o n d c : Int) : (∃ E, ¬ E = 0 ∧ TimeIs o n d c 0 E) ∨ TimeIs o n d c (o + c * n / d) 0 := by
  by_cases k : Ck.timeOk o n d c = true
  · exact .inr fun w => time_ok o n d c _ w ⟨k, rfl⟩
  · exact .inl ⟨if Ck.okc o n d then 1 else 130, by split <;> omega, fun w => time_no o n d c w (by simpa using k)⟩
theorem half2 (o n d t : Int) : Half2 o n d t := by
  by_cases k : Ck.countOk o n d t = true
  · obtain ⟨h1, h2⟩ := Ck.back_two k
    obtain ⟨b0, b1⟩ := Ck.inT_iff.1 (Ck.countOk_iff.1 k).2.2
    have hc : CountIs o n d t (-((o - t) * d / n)) 0 := fun w => count_ok o n d t _ w ⟨k, rfl⟩
    rcases time_is o n d (-((o - t) * d / n)) with ⟨E, hE, hT⟩ | hT <;> rcases time_is o n d (-((o - t) * d / n) - 1) with ⟨E', hE', hT'⟩ | hT'
    · exact .inr ⟨_, _, _, _, _, hc, b0, b1, hT, hT', .inl hE, .inl hE'⟩
    · exact .inr ⟨_, _, _, _, _, hc, b0, b1, hT, hT', .inl hE, .inr ⟨rfl, h2⟩⟩
    · exact .inr ⟨_, _, _, _, _, hc, b0, b1, hT, hT', .inr ⟨rfl, h1⟩, .inl hE'⟩
    · exact .inr ⟨_, _, _, _, _, hc, b0, b1, hT, hT', .inr ⟨rfl, h1⟩, .inr ⟨rfl, h2⟩⟩
  · exact .inl ⟨if Ck.okc o n d then 1 else 130, by split <;> omega, fun w => count_no o n d t w (by simpa using k)⟩

set_option maxHeartbeats 1000000 in
theorem back_00 (o n d aa t : Int) (w : World) (E1 : Int) (hE1 : ¬ E1 = 0) (H1 : TimeIs o n d aa 0 E1) (F : Int) (hF : ¬ F = 0) (G1 : CountIs o n d t 0 F) :
    Calls Try.prog 5 #[.agg #[.int .i64 o, .int .i64 n, .int .i64 d], .int .i64 aa, .int .i64 t] w fun e w' => e = .returned (.bool true) ∧ Below w.heap.size w w' := by
  have h0 := Below.refl (w.alloc (.cells #[.int .i64 o, .int .i64 n, .int .i64 d] 31)).heap.size (w.alloc (.cells #[.int .i64 o, .int .i64 n, .int .i64 d] 31))
  go_enter Try.func5, Try.ntmps5
  go_wp2_with fail
  refine (keep_in (H1 _) (by assumption)).mono ?_
  rintro e xH1 ⟨rfl, hxH1⟩
  obtain ⟨hcellH1, -⟩ := bcell hxH1
  go_wp2_with fail
  refine (keep_in (G1 _) (by assumption)).mono ?_
  rintro e xG1 ⟨rfl, hxG1⟩
  obtain ⟨hcellG1, -⟩ := bcell hxG1
  go_wp2_with fail
  refine (keep_in (awake_true _) (by assumption)).mono ?_
  rintro e x9 ⟨rfl, hx9⟩
  go_wp2_with fail
  go_ret
  exact ⟨rfl, below2 hx9⟩

set_option maxHeartbeats 1000000 in
theorem back_01 (o n d aa t : Int) (w : World) (E1 : Int) (hE1 : ¬ E1 = 0) (H1 : TimeIs o n d aa 0 E1) (k T E T' E' : Int) (G1 : CountIs o n d t k 0) (k0 : -1125899906842624 ≤ k) (k1 : k ≤ 1125899906842624) (G2 : TimeIs o n d k T E) (G3 : TimeIs o n d (k - 1) T' E') (hE : ¬ E = 0) (hE' : ¬ E' = 0) :
    Calls Try.prog 5 #[.agg #[.int .i64 o, .int .i64 n, .int .i64 d], .int .i64 aa, .int .i64 t] w fun e w' => e = .returned (.bool true) ∧ Below w.heap.size w w' := by
  have h0 := Below.refl (w.alloc (.cells #[.int .i64 o, .int .i64 n, .int .i64 d] 31)).heap.size (w.alloc (.cells #[.int .i64 o, .int .i64 n, .int .i64 d] 31))
  go_enter Try.func5, Try.ntmps5
  go_wp2_with fail
  refine (keep_in (H1 _) (by assumption)).mono ?_
  rintro e xH1 ⟨rfl, hxH1⟩
  obtain ⟨hcellH1, -⟩ := bcell hxH1
  go_wp2_with fail
  refine (keep_in (G1 _) (by assumption)).mono ?_
  rintro e xG1 ⟨rfl, hxG1⟩
  obtain ⟨hcellG1, -⟩ := bcell hxG1
  go_wp2_with fail
  refine (keep_in (G2 _) (by assumption)).mono ?_
  rintro e xG2 ⟨rfl, hxG2⟩
  obtain ⟨hcellG2, -⟩ := bcell hxG2
  go_wp2_with fail
  refine (keep_in (G3 _) (by assumption)).mono ?_
  rintro e xG3 ⟨rfl, hxG3⟩
  obtain ⟨hcellG3, -⟩ := bcell hxG3
  go_wp2_with fail
  refine (keep_in (awake_true _) (by assumption)).mono ?_
  rintro e x9 ⟨rfl, hx9⟩
  go_wp2_with fail
  go_ret
  exact ⟨rfl, below2 hx9⟩

set_option maxHeartbeats 1000000 in
theorem back_02 (o n d aa t : Int) (w : World) (E1 : Int) (hE1 : ¬ E1 = 0) (H1 : TimeIs o n d aa 0 E1) (k T E T' : Int) (G1 : CountIs o n d t k 0) (k0 : -1125899906842624 ≤ k) (k1 : k ≤ 1125899906842624) (G2 : TimeIs o n d k T E) (G3 : TimeIs o n d (k - 1) T' 0) (hE : ¬ E = 0) (hT' : T' < t) :
    Calls Try.prog 5 #[.agg #[.int .i64 o, .int .i64 n, .int .i64 d], .int .i64 aa, .int .i64 t] w fun e w' => e = .returned (.bool true) ∧ Below w.heap.size w w' := by
  have h0 := Below.refl (w.alloc (.cells #[.int .i64 o, .int .i64 n, .int .i64 d] 31)).heap.size (w.alloc (.cells #[.int .i64 o, .int .i64 n, .int .i64 d] 31))
  go_enter Try.func5, Try.ntmps5
  go_wp2_with fail
  refine (keep_in (H1 _) (by assumption)).mono ?_
  rintro e xH1 ⟨rfl, hxH1⟩
  obtain ⟨hcellH1, -⟩ := bcell hxH1
  go_wp2_with fail
  refine (keep_in (G1 _) (by assumption)).mono ?_
  rintro e xG1 ⟨rfl, hxG1⟩
  obtain ⟨hcellG1, -⟩ := bcell hxG1
  go_wp2_with fail
  refine (keep_in (G2 _) (by assumption)).mono ?_
  rintro e xG2 ⟨rfl, hxG2⟩
  obtain ⟨hcellG2, -⟩ := bcell hxG2
  go_wp2_with fail
  refine (keep_in (G3 _) (by assumption)).mono ?_
  rintro e xG3 ⟨rfl, hxG3⟩
  obtain ⟨hcellG3, -⟩ := bcell hxG3
  go_wp2_with fail
  refine (keep_in (awake_true _) (by assumption)).mono ?_
  rintro e x9 ⟨rfl, hx9⟩
  go_wp2_with fail
  go_ret
  exact ⟨rfl, below2 hx9⟩

set_option maxHeartbeats 1000000 in
theorem back_03 (o n d aa t : Int) (w : World) (E1 : Int) (hE1 : ¬ E1 = 0) (H1 : TimeIs o n d aa 0 E1) (k T T' E' : Int) (G1 : CountIs o n d t k 0) (k0 : -1125899906842624 ≤ k) (k1 : k ≤ 1125899906842624) (G2 : TimeIs o n d k T 0) (G3 : TimeIs o n d (k - 1) T' E') (hT : t ≤ T) (hE' : ¬ E' = 0) :
    Calls Try.prog 5 #[.agg #[.int .i64 o, .int .i64 n, .int .i64 d], .int .i64 aa, .int .i64 t] w fun e w' => e = .returned (.bool true) ∧ Below w.heap.size w w' := by
  have h0 := Below.refl (w.alloc (.cells #[.int .i64 o, .int .i64 n, .int .i64 d] 31)).heap.size (w.alloc (.cells #[.int .i64 o, .int .i64 n, .int .i64 d] 31))
  go_enter Try.func5, Try.ntmps5
  go_wp2_with fail
  refine (keep_in (H1 _) (by assumption)).mono ?_
  rintro e xH1 ⟨rfl, hxH1⟩
  obtain ⟨hcellH1, -⟩ := bcell hxH1
  go_wp2_with fail
  refine (keep_in (G1 _) (by assumption)).mono ?_
  rintro e xG1 ⟨rfl, hxG1⟩
  obtain ⟨hcellG1, -⟩ := bcell hxG1
  go_wp2_with fail
  refine (keep_in (G2 _) (by assumption)).mono ?_
  rintro e xG2 ⟨rfl, hxG2⟩
  obtain ⟨hcellG2, -⟩ := bcell hxG2
  go_wp2_with fail
  refine (keep_in (G3 _) (by assumption)).mono ?_
  rintro e xG3 ⟨rfl, hxG3⟩
  obtain ⟨hcellG3, -⟩ := bcell hxG3
  go_wp2_with fail
  refine (keep_in (awake_true _) (by assumption)).mono ?_
  rintro e x9 ⟨rfl, hx9⟩
  go_wp2_with fail
  go_ret
  exact ⟨rfl, below2 hx9⟩

set_option maxHeartbeats 1000000 in
theorem back_04 (o n d aa t : Int) (w : World) (E1 : Int) (hE1 : ¬ E1 = 0) (H1 : TimeIs o n d aa 0 E1) (k T T' : Int) (G1 : CountIs o n d t k 0) (k0 : -1125899906842624 ≤ k) (k1 : k ≤ 1125899906842624) (G2 : TimeIs o n d k T 0) (G3 : TimeIs o n d (k - 1) T' 0) (hT : t ≤ T) (hT' : T' < t) :
    Calls Try.prog 5 #[.agg #[.int .i64 o, .int .i64 n, .int .i64 d], .int .i64 aa, .int .i64 t] w fun e w' => e = .returned (.bool true) ∧ Below w.heap.size w w' := by
  have h0 := Below.refl (w.alloc (.cells #[.int .i64 o, .int .i64 n, .int .i64 d] 31)).heap.size (w.alloc (.cells #[.int .i64 o, .int .i64 n, .int .i64 d] 31))
  go_enter Try.func5, Try.ntmps5
  go_wp2_with fail
  refine (keep_in (H1 _) (by assumption)).mono ?_
  rintro e xH1 ⟨rfl, hxH1⟩
  obtain ⟨hcellH1, -⟩ := bcell hxH1
  go_wp2_with fail
  refine (keep_in (G1 _) (by assumption)).mono ?_
  rintro e xG1 ⟨rfl, hxG1⟩
  obtain ⟨hcellG1, -⟩ := bcell hxG1
  go_wp2_with fail
  refine (keep_in (G2 _) (by assumption)).mono ?_
  rintro e xG2 ⟨rfl, hxG2⟩
  obtain ⟨hcellG2, -⟩ := bcell hxG2
  go_wp2_with fail
  refine (keep_in (G3 _) (by assumption)).mono ?_
  rintro e xG3 ⟨rfl, hxG3⟩
  obtain ⟨hcellG3, -⟩ := bcell hxG3
  go_wp2_with fail
  refine (keep_in (awake_true _) (by assumption)).mono ?_
  rintro e x9 ⟨rfl, hx9⟩
  go_wp2_with fail
  go_ret
  exact ⟨rfl, below2 hx9⟩

set_option maxHeartbeats 1000000 in
theorem back_10 (o n d aa t : Int) (w : World) (x : Int) (H1 : TimeIs o n d aa x 0) (H2 : CountIs o n d x 0 1) (hle : aa ≤ -1125898906842624) (F : Int) (hF : ¬ F = 0) (G1 : CountIs o n d t 0 F) :
    Calls Try.prog 5 #[.agg #[.int .i64 o, .int .i64 n, .int .i64 d], .int .i64 aa, .int .i64 t] w fun e w' => e = .returned (.bool true) ∧ Below w.heap.size w w' := by
  have h0 := Below.refl (w.alloc (.cells #[.int .i64 o, .int .i64 n, .int .i64 d] 31)).heap.size (w.alloc (.cells #[.int .i64 o, .int .i64 n, .int .i64 d] 31))
  go_enter Try.func5, Try.ntmps5
  go_wp2_with fail
  refine (keep_in (H1 _) (by assumption)).mono ?_
  rintro e xH1 ⟨rfl, hxH1⟩
  obtain ⟨hcellH1, -⟩ := bcell hxH1
  go_wp2_with fail
  refine (keep_in (H2 _) (by assumption)).mono ?_
  rintro e xH2 ⟨rfl, hxH2⟩
  obtain ⟨hcellH2, -⟩ := bcell hxH2
  go_wp2_with fail
  refine (keep_in (G1 _) (by assumption)).mono ?_
  rintro e xG1 ⟨rfl, hxG1⟩
  obtain ⟨hcellG1, -⟩ := bcell hxG1
  go_wp2_with fail
  refine (keep_in (awake_true _) (by assumption)).mono ?_
  rintro e x9 ⟨rfl, hx9⟩
  go_wp2_with fail
  go_ret
  exact ⟨rfl, below2 hx9⟩

set_option maxHeartbeats 1000000 in
theorem back_11 (o n d aa t : Int) (w : World) (x : Int) (H1 : TimeIs o n d aa x 0) (H2 : CountIs o n d x 0 1) (hle : aa ≤ -1125898906842624) (k T E T' E' : Int) (G1 : CountIs o n d t k 0) (k0 : -1125899906842624 ≤ k) (k1 : k ≤ 1125899906842624) (G2 : TimeIs o n d k T E) (G3 : TimeIs o n d (k - 1) T' E') (hE : ¬ E = 0) (hE' : ¬ E' = 0) :
    Calls Try.prog 5 #[.agg #[.int .i64 o, .int .i64 n, .int .i64 d], .int .i64 aa, .int .i64 t] w fun e w' => e = .returned (.bool true) ∧ Below w.heap.size w w' := by
  have h0 := Below.refl (w.alloc (.cells #[.int .i64 o, .int .i64 n, .int .i64 d] 31)).heap.size (w.alloc (.cells #[.int .i64 o, .int .i64 n, .int .i64 d] 31))
  go_enter Try.func5, Try.ntmps5
  go_wp2_with fail
  refine (keep_in (H1 _) (by assumption)).mono ?_
  rintro e xH1 ⟨rfl, hxH1⟩
  obtain ⟨hcellH1, -⟩ := bcell hxH1
  go_wp2_with fail
  refine (keep_in (H2 _) (by assumption)).mono ?_
  rintro e xH2 ⟨rfl, hxH2⟩
  obtain ⟨hcellH2, -⟩ := bcell hxH2
  go_wp2_with fail
  refine (keep_in (G1 _) (by assumption)).mono ?_
  rintro e xG1 ⟨rfl, hxG1⟩
  obtain ⟨hcellG1, -⟩ := bcell hxG1
  go_wp2_with fail
  refine (keep_in (G2 _) (by assumption)).mono ?_
  rintro e xG2 ⟨rfl, hxG2⟩
  obtain ⟨hcellG2, -⟩ := bcell hxG2
  go_wp2_with fail
  refine (keep_in (G3 _) (by assumption)).mono ?_
  rintro e xG3 ⟨rfl, hxG3⟩
  obtain ⟨hcellG3, -⟩ := bcell hxG3
  go_wp2_with fail
  refine (keep_in (awake_true _) (by assumption)).mono ?_
  rintro e x9 ⟨rfl, hx9⟩
  go_wp2_with fail
  go_ret
  exact ⟨rfl, below2 hx9⟩

set_option maxHeartbeats 1000000 in
theorem back_12 (o n d aa t : Int) (w : World) (x : Int) (H1 : TimeIs o n d aa x 0) (H2 : CountIs o n d x 0 1) (hle : aa ≤ -1125898906842624) (k T E T' : Int) (G1 : CountIs o n d t k 0) (k0 : -1125899906842624 ≤ k) (k1 : k ≤ 1125899906842624) (G2 : TimeIs o n d k T E) (G3 : TimeIs o n d (k - 1) T' 0) (hE : ¬ E = 0) (hT' : T' < t) :
    Calls Try.prog 5 #[.agg #[.int .i64 o, .int .i64 n, .int .i64 d], .int .i64 aa, .int .i64 t] w fun e w' => e = .returned (.bool true) ∧ Below w.heap.size w w' := by
  have h0 := Below.refl (w.alloc (.cells #[.int .i64 o, .int .i64 n, .int .i64 d] 31)).heap.size (w.alloc (.cells #[.int .i64 o, .int .i64 n, .int .i64 d] 31))
  go_enter Try.func5, Try.ntmps5
  go_wp2_with fail
  refine (keep_in (H1 _) (by assumption)).mono ?_
  rintro e xH1 ⟨rfl, hxH1⟩
  obtain ⟨hcellH1, -⟩ := bcell hxH1
  go_wp2_with fail
  refine (keep_in (H2 _) (by assumption)).mono ?_
  rintro e xH2 ⟨rfl, hxH2⟩
  obtain ⟨hcellH2, -⟩ := bcell hxH2
  go_wp2_with fail
  refine (keep_in (G1 _) (by assumption)).mono ?_
  rintro e xG1 ⟨rfl, hxG1⟩
  obtain ⟨hcellG1, -⟩ := bcell hxG1
  go_wp2_with fail
  refine (keep_in (G2 _) (by assumption)).mono ?_
  rintro e xG2 ⟨rfl, hxG2⟩
  obtain ⟨hcellG2, -⟩ := bcell hxG2
  go_wp2_with fail
  refine (keep_in (G3 _) (by assumption)).mono ?_
  rintro e xG3 ⟨rfl, hxG3⟩
  obtain ⟨hcellG3, -⟩ := bcell hxG3
  go_wp2_with fail
  refine (keep_in (awake_true _) (by assumption)).mono ?_
  rintro e x9 ⟨rfl, hx9⟩
  go_wp2_with fail
  go_ret
  exact ⟨rfl, below2 hx9⟩

set_option maxHeartbeats 1000000 in
theorem back_13 (o n d aa t : Int) (w : World) (x : Int) (H1 : TimeIs o n d aa x 0) (H2 : CountIs o n d x 0 1) (hle : aa ≤ -1125898906842624) (k T T' E' : Int) (G1 : CountIs o n d t k 0) (k0 : -1125899906842624 ≤ k) (k1 : k ≤ 1125899906842624) (G2 : TimeIs o n d k T 0) (G3 : TimeIs o n d (k - 1) T' E') (hT : t ≤ T) (hE' : ¬ E' = 0) :
    Calls Try.prog 5 #[.agg #[.int .i64 o, .int .i64 n, .int .i64 d], .int .i64 aa, .int .i64 t] w fun e w' => e = .returned (.bool true) ∧ Below w.heap.size w w' := by
  have h0 := Below.refl (w.alloc (.cells #[.int .i64 o, .int .i64 n, .int .i64 d] 31)).heap.size (w.alloc (.cells #[.int .i64 o, .int .i64 n, .int .i64 d] 31))
  go_enter Try.func5, Try.ntmps5
  go_wp2_with fail
  refine (keep_in (H1 _) (by assumption)).mono ?_
  rintro e xH1 ⟨rfl, hxH1⟩
  obtain ⟨hcellH1, -⟩ := bcell hxH1
  go_wp2_with fail
  refine (keep_in (H2 _) (by assumption)).mono ?_
  rintro e xH2 ⟨rfl, hxH2⟩
  obtain ⟨hcellH2, -⟩ := bcell hxH2
  go_wp2_with fail
  refine (keep_in (G1 _) (by assumption)).mono ?_
  rintro e xG1 ⟨rfl, hxG1⟩
  obtain ⟨hcellG1, -⟩ := bcell hxG1
  go_wp2_with fail
  refine (keep_in (G2 _) (by assumption)).mono ?_
  rintro e xG2 ⟨rfl, hxG2⟩
  obtain ⟨hcellG2, -⟩ := bcell hxG2
  go_wp2_with fail
  refine (keep_in (G3 _) (by assumption)).mono ?_
  rintro e xG3 ⟨rfl, hxG3⟩
  obtain ⟨hcellG3, -⟩ := bcell hxG3
  go_wp2_with fail
  refine (keep_in (awake_true _) (by assumption)).mono ?_
  rintro e x9 ⟨rfl, hx9⟩
  go_wp2_with fail
  go_ret
  exact ⟨rfl, below2 hx9⟩

set_option maxHeartbeats 1000000 in
theorem back_14 (o n d aa t : Int) (w : World) (x : Int) (H1 : TimeIs o n d aa x 0) (H2 : CountIs o n d x 0 1) (hle : aa ≤ -1125898906842624) (k T T' : Int) (G1 : CountIs o n d t k 0) (k0 : -1125899906842624 ≤ k) (k1 : k ≤ 1125899906842624) (G2 : TimeIs o n d k T 0) (G3 : TimeIs o n d (k - 1) T' 0) (hT : t ≤ T) (hT' : T' < t) :
    Calls Try.prog 5 #[.agg #[.int .i64 o, .int .i64 n, .int .i64 d], .int .i64 aa, .int .i64 t] w fun e w' => e = .returned (.bool true) ∧ Below w.heap.size w w' := by
  have h0 := Below.refl (w.alloc (.cells #[.int .i64 o, .int .i64 n, .int .i64 d] 31)).heap.size (w.alloc (.cells #[.int .i64 o, .int .i64 n, .int .i64 d] 31))
  go_enter Try.func5, Try.ntmps5
  go_wp2_with fail
  refine (keep_in (H1 _) (by assumption)).mono ?_
  rintro e xH1 ⟨rfl, hxH1⟩
  obtain ⟨hcellH1, -⟩ := bcell hxH1
  go_wp2_with fail
  refine (keep_in (H2 _) (by assumption)).mono ?_
  rintro e xH2 ⟨rfl, hxH2⟩
  obtain ⟨hcellH2, -⟩ := bcell hxH2
  go_wp2_with fail
  refine (keep_in (G1 _) (by assumption)).mono ?_
  rintro e xG1 ⟨rfl, hxG1⟩
  obtain ⟨hcellG1, -⟩ := bcell hxG1
  go_wp2_with fail
  refine (keep_in (G2 _) (by assumption)).mono ?_
  rintro e xG2 ⟨rfl, hxG2⟩
  obtain ⟨hcellG2, -⟩ := bcell hxG2
  go_wp2_with fail
  refine (keep_in (G3 _) (by assumption)).mono ?_
  rintro e xG3 ⟨rfl, hxG3⟩
  obtain ⟨hcellG3, -⟩ := bcell hxG3
  go_wp2_with fail
  refine (keep_in (awake_true _) (by assumption)).mono ?_
  rintro e x9 ⟨rfl, hx9⟩
  go_wp2_with fail
  go_ret
  exact ⟨rfl, below2 hx9⟩

set_option maxHeartbeats 1000000 in
theorem back_20 (o n d aa t : Int) (w : World) (x m : Int) (H1 : TimeIs o n d aa x 0) (H2 : CountIs o n d x m 0) (H3 : TimeIs o n d m x 0) (hle : m ≤ aa) (F : Int) (hF : ¬ F = 0) (G1 : CountIs o n d t 0 F) :
    Calls Try.prog 5 #[.agg #[.int .i64 o, .int .i64 n, .int .i64 d], .int .i64 aa, .int .i64 t] w fun e w' => e = .returned (.bool true) ∧ Below w.heap.size w w' := by
  have h0 := Below.refl (w.alloc (.cells #[.int .i64 o, .int .i64 n, .int .i64 d] 31)).heap.size (w.alloc (.cells #[.int .i64 o, .int .i64 n, .int .i64 d] 31))
  go_enter Try.func5, Try.ntmps5
  go_wp2_with fail
  refine (keep_in (H1 _) (by assumption)).mono ?_
  rintro e xH1 ⟨rfl, hxH1⟩
  obtain ⟨hcellH1, -⟩ := bcell hxH1
  go_wp2_with fail
  refine (keep_in (H2 _) (by assumption)).mono ?_
  rintro e xH2 ⟨rfl, hxH2⟩
  obtain ⟨hcellH2, -⟩ := bcell hxH2
  go_wp2_with fail
  refine (keep_in (H3 _) (by assumption)).mono ?_
  rintro e xH3 ⟨rfl, hxH3⟩
  obtain ⟨hcellH3, -⟩ := bcell hxH3
  go_wp2_with fail
  refine (keep_in (G1 _) (by assumption)).mono ?_
  rintro e xG1 ⟨rfl, hxG1⟩
  obtain ⟨hcellG1, -⟩ := bcell hxG1
  go_wp2_with fail
  refine (keep_in (awake_true _) (by assumption)).mono ?_
  rintro e x9 ⟨rfl, hx9⟩
  go_wp2_with fail
  go_ret
  exact ⟨rfl, below2 hx9⟩

set_option maxHeartbeats 1000000 in
theorem back_21 (o n d aa t : Int) (w : World) (x m : Int) (H1 : TimeIs o n d aa x 0) (H2 : CountIs o n d x m 0) (H3 : TimeIs o n d m x 0) (hle : m ≤ aa) (k T E T' E' : Int) (G1 : CountIs o n d t k 0) (k0 : -1125899906842624 ≤ k) (k1 : k ≤ 1125899906842624) (G2 : TimeIs o n d k T E) (G3 : TimeIs o n d (k - 1) T' E') (hE : ¬ E = 0) (hE' : ¬ E' = 0) :
    Calls Try.prog 5 #[.agg #[.int .i64 o, .int .i64 n, .int .i64 d], .int .i64 aa, .int .i64 t] w fun e w' => e = .returned (.bool true) ∧ Below w.heap.size w w' := by
  have h0 := Below.refl (w.alloc (.cells #[.int .i64 o, .int .i64 n, .int .i64 d] 31)).heap.size (w.alloc (.cells #[.int .i64 o, .int .i64 n, .int .i64 d] 31))
  go_enter Try.func5, Try.ntmps5
  go_wp2_with fail
  refine (keep_in (H1 _) (by assumption)).mono ?_
  rintro e xH1 ⟨rfl, hxH1⟩
  obtain ⟨hcellH1, -⟩ := bcell hxH1
  go_wp2_with fail
  refine (keep_in (H2 _) (by assumption)).mono ?_
  rintro e xH2 ⟨rfl, hxH2⟩
  obtain ⟨hcellH2, -⟩ := bcell hxH2
  go_wp2_with fail
  refine (keep_in (H3 _) (by assumption)).mono ?_
  rintro e xH3 ⟨rfl, hxH3⟩
  obtain ⟨hcellH3, -⟩ := bcell hxH3
  go_wp2_with fail
  refine (keep_in (G1 _) (by assumption)).mono ?_
  rintro e xG1 ⟨rfl, hxG1⟩
  obtain ⟨hcellG1, -⟩ := bcell hxG1
  go_wp2_with fail
  refine (keep_in (G2 _) (by assumption)).mono ?_
  rintro e xG2 ⟨rfl, hxG2⟩
  obtain ⟨hcellG2, -⟩ := bcell hxG2
  go_wp2_with fail
  refine (keep_in (G3 _) (by assumption)).mono ?_
  rintro e xG3 ⟨rfl, hxG3⟩
  obtain ⟨hcellG3, -⟩ := bcell hxG3
  go_wp2_with fail
  refine (keep_in (awake_true _) (by assumption)).mono ?_
  rintro e x9 ⟨rfl, hx9⟩
  go_wp2_with fail
  go_ret
  exact ⟨rfl, below2 hx9⟩

set_option maxHeartbeats 1000000 in
theorem back_22 (o n d aa t : Int) (w : World) (x m : Int) (H1 : TimeIs o n d aa x 0) (H2 : CountIs o n d x m 0) (H3 : TimeIs o n d m x 0) (hle : m ≤ aa) (k T E T' : Int) (G1 : CountIs o n d t k 0) (k0 : -1125899906842624 ≤ k) (k1 : k ≤ 1125899906842624) (G2 : TimeIs o n d k T E) (G3 : TimeIs o n d (k - 1) T' 0) (hE : ¬ E = 0) (hT' : T' < t) :
    Calls Try.prog 5 #[.agg #[.int .i64 o, .int .i64 n, .int .i64 d], .int .i64 aa, .int .i64 t] w fun e w' => e = .returned (.bool true) ∧ Below w.heap.size w w' := by
  have h0 := Below.refl (w.alloc (.cells #[.int .i64 o, .int .i64 n, .int .i64 d] 31)).heap.size (w.alloc (.cells #[.int .i64 o, .int .i64 n, .int .i64 d] 31))
  go_enter Try.func5, Try.ntmps5
  go_wp2_with fail
  refine (keep_in (H1 _) (by assumption)).mono ?_
  rintro e xH1 ⟨rfl, hxH1⟩
  obtain ⟨hcellH1, -⟩ := bcell hxH1
  go_wp2_with fail
  refine (keep_in (H2 _) (by assumption)).mono ?_
  rintro e xH2 ⟨rfl, hxH2⟩
  obtain ⟨hcellH2, -⟩ := bcell hxH2
  go_wp2_with fail
  refine (keep_in (H3 _) (by assumption)).mono ?_
  rintro e xH3 ⟨rfl, hxH3⟩
  obtain ⟨hcellH3, -⟩ := bcell hxH3
  go_wp2_with fail
  refine (keep_in (G1 _) (by assumption)).mono ?_
  rintro e xG1 ⟨rfl, hxG1⟩
  obtain ⟨hcellG1, -⟩ := bcell hxG1
  go_wp2_with fail
  refine (keep_in (G2 _) (by assumption)).mono ?_
  rintro e xG2 ⟨rfl, hxG2⟩
  obtain ⟨hcellG2, -⟩ := bcell hxG2
  go_wp2_with fail
  refine (keep_in (G3 _) (by assumption)).mono ?_
  rintro e xG3 ⟨rfl, hxG3⟩
  obtain ⟨hcellG3, -⟩ := bcell hxG3
  go_wp2_with fail
  refine (keep_in (awake_true _) (by assumption)).mono ?_
  rintro e x9 ⟨rfl, hx9⟩
  go_wp2_with fail
  go_ret
  exact ⟨rfl, below2 hx9⟩

set_option maxHeartbeats 1000000 in
theorem back_23 (o n d aa t : Int) (w : World) (x m : Int) (H1 : TimeIs o n d aa x 0) (H2 : CountIs o n d x m 0) (H3 : TimeIs o n d m x 0) (hle : m ≤ aa) (k T T' E' : Int) (G1 : CountIs o n d t k 0) (k0 : -1125899906842624 ≤ k) (k1 : k ≤ 1125899906842624) (G2 : TimeIs o n d k T 0) (G3 : TimeIs o n d (k - 1) T' E') (hT : t ≤ T) (hE' : ¬ E' = 0) :
    Calls Try.prog 5 #[.agg #[.int .i64 o, .int .i64 n, .int .i64 d], .int .i64 aa, .int .i64 t] w fun e w' => e = .returned (.bool true) ∧ Below w.heap.size w w' := by
  have h0 := Below.refl (w.alloc (.cells #[.int .i64 o, .int .i64 n, .int .i64 d] 31)).heap.size (w.alloc (.cells #[.int .i64 o, .int .i64 n, .int .i64 d] 31))
  go_enter Try.func5, Try.ntmps5
  go_wp2_with fail
  refine (keep_in (H1 _) (by assumption)).mono ?_
  rintro e xH1 ⟨rfl, hxH1⟩
  obtain ⟨hcellH1, -⟩ := bcell hxH1
  go_wp2_with fail
  refine (keep_in (H2 _) (by assumption)).mono ?_
  rintro e xH2 ⟨rfl, hxH2⟩
  obtain ⟨hcellH2, -⟩ := bcell hxH2
  go_wp2_with fail
  refine (keep_in (H3 _) (by assumption)).mono ?_
  rintro e xH3 ⟨rfl, hxH3⟩
  obtain ⟨hcellH3, -⟩ := bcell hxH3
  go_wp2_with fail
  refine (keep_in (G1 _) (by assumption)).mono ?_
  rintro e xG1 ⟨rfl, hxG1⟩
  obtain ⟨hcellG1, -⟩ := bcell hxG1
  go_wp2_with fail
  refine (keep_in (G2 _) (by assumption)).mono ?_
  rintro e xG2 ⟨rfl, hxG2⟩
  obtain ⟨hcellG2, -⟩ := bcell hxG2
  go_wp2_with fail
  refine (keep_in (G3 _) (by assumption)).mono ?_
  rintro e xG3 ⟨rfl, hxG3⟩
  obtain ⟨hcellG3, -⟩ := bcell hxG3
  go_wp2_with fail
  refine (keep_in (awake_true _) (by assumption)).mono ?_
  rintro e x9 ⟨rfl, hx9⟩
  go_wp2_with fail
  go_ret
  exact ⟨rfl, below2 hx9⟩

set_option maxHeartbeats 1000000 in
theorem back_24 (o n d aa t : Int) (w : World) (x m : Int) (H1 : TimeIs o n d aa x 0) (H2 : CountIs o n d x m 0) (H3 : TimeIs o n d m x 0) (hle : m ≤ aa) (k T T' : Int) (G1 : CountIs o n d t k 0) (k0 : -1125899906842624 ≤ k) (k1 : k ≤ 1125899906842624) (G2 : TimeIs o n d k T 0) (G3 : TimeIs o n d (k - 1) T' 0) (hT : t ≤ T) (hT' : T' < t) :
    Calls Try.prog 5 #[.agg #[.int .i64 o, .int .i64 n, .int .i64 d], .int .i64 aa, .int .i64 t] w fun e w' => e = .returned (.bool true) ∧ Below w.heap.size w w' := by
  have h0 := Below.refl (w.alloc (.cells #[.int .i64 o, .int .i64 n, .int .i64 d] 31)).heap.size (w.alloc (.cells #[.int .i64 o, .int .i64 n, .int .i64 d] 31))
  go_enter Try.func5, Try.ntmps5
  go_wp2_with fail
  refine (keep_in (H1 _) (by assumption)).mono ?_
  rintro e xH1 ⟨rfl, hxH1⟩
  obtain ⟨hcellH1, -⟩ := bcell hxH1
  go_wp2_with fail
  refine (keep_in (H2 _) (by assumption)).mono ?_
  rintro e xH2 ⟨rfl, hxH2⟩
  obtain ⟨hcellH2, -⟩ := bcell hxH2
  go_wp2_with fail
  refine (keep_in (H3 _) (by assumption)).mono ?_
  rintro e xH3 ⟨rfl, hxH3⟩
  obtain ⟨hcellH3, -⟩ := bcell hxH3
  go_wp2_with fail
  refine (keep_in (G1 _) (by assumption)).mono ?_
  rintro e xG1 ⟨rfl, hxG1⟩
  obtain ⟨hcellG1, -⟩ := bcell hxG1
  go_wp2_with fail
  refine (keep_in (G2 _) (by assumption)).mono ?_
  rintro e xG2 ⟨rfl, hxG2⟩
  obtain ⟨hcellG2, -⟩ := bcell hxG2
  go_wp2_with fail
  refine (keep_in (G3 _) (by assumption)).mono ?_
  rintro e xG3 ⟨rfl, hxG3⟩
  obtain ⟨hcellG3, -⟩ := bcell hxG3
  go_wp2_with fail
  refine (keep_in (awake_true _) (by assumption)).mono ?_
  rintro e x9 ⟨rfl, hx9⟩
  go_wp2_with fail
  go_ret
  exact ⟨rfl, below2 hx9⟩

theorem back (o n d aa t : Int) (w : World) :
    Calls Try.prog 5 #[.agg #[.int .i64 o, .int .i64 n, .int .i64 d], .int .i64 aa, .int .i64 t] w fun e w' => e = .returned (.bool true) ∧ Below w.heap.size w w' := by
  rcases half1 o n d aa with ⟨E1, hE1, H1⟩ | ⟨x, H1, H2, hle⟩ | ⟨x, m, H1, H2, H3, hle⟩ <;> rcases half2 o n d t with ⟨F, hF, G1⟩ | ⟨k, T, E, T', E', G1, k0, k1, G2, G3, hE | ⟨rfl, hT⟩, hE' | ⟨rfl, hT'⟩⟩
  · exact back_00 o n d aa t w E1 hE1 H1 F hF G1
  · exact back_01 o n d aa t w E1 hE1 H1 k T E T' E' G1 k0 k1 G2 G3 hE hE'
  · exact back_02 o n d aa t w E1 hE1 H1 k T E T' G1 k0 k1 G2 G3 hE hT'
  · exact back_03 o n d aa t w E1 hE1 H1 k T T' E' G1 k0 k1 G2 G3 hT hE'
  · exact back_04 o n d aa t w E1 hE1 H1 k T T' G1 k0 k1 G2 G3 hT hT'
  · exact back_10 o n d aa t w x H1 H2 hle F hF G1
  · exact back_11 o n d aa t w x H1 H2 hle k T E T' E' G1 k0 k1 G2 G3 hE hE'
  · exact back_12 o n d aa t w x H1 H2 hle k T E T' G1 k0 k1 G2 G3 hE hT'
  · exact back_13 o n d aa t w x H1 H2 hle k T T' E' G1 k0 k1 G2 G3 hT hE'
  · exact back_14 o n d aa t w x H1 H2 hle k T T' G1 k0 k1 G2 G3 hT hT'
  · exact back_20 o n d aa t w x m H1 H2 H3 hle F hF G1
  · exact back_21 o n d aa t w x m H1 H2 H3 hle k T E T' E' G1 k0 k1 G2 G3 hE hE'
  · exact back_22 o n d aa t w x m H1 H2 H3 hle k T E T' G1 k0 k1 G2 G3 hE hT'
  · exact back_23 o n d aa t w x m H1 H2 H3 hle k T T' E' G1 k0 k1 G2 G3 hT hE'
  · exact back_24 o n d aa t w x m H1 H2 H3 hle k T T' G1 k0 k1 G2 G3 hT hT'
end Go.Proofs.Ytiohemofidphjaa
