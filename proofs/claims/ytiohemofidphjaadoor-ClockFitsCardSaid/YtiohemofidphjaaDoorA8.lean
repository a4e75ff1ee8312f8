/- The walk of ClockBack: it answers true for every clock, every count and every time. No condition. -/
import Derived.Test.YtiohemofidphjaaDoorA7
import Derived.Test.YtiohemofidphjaaDoorM3
namespace Go.Proofs.YtiohemofidphjaaDoor
open Go.RowKit

theorem count_ok (o n d t m : Int) (w : World) (h : Ck.countOk o n d t = true ∧ -((o - t) * d / n) = m) :
    Calls Tryd.prog 32 #[.agg #[.int .i64 o, .int .i64 n, .int .i64 d], .int .i64 t] w fun e w' => e = .returned (.tuple #[.int .i64 m, .int .i64 0]) ∧ Below w.heap.size w w' := by
  have hh := count_any o n d t w
  rw [show Ck.countV o n d t = m by simp [Ck.countV, h.1, h.2], show Ck.countE o n d t = 0 by simp [Ck.countE, h.1, (Ck.countOk_iff.1 h.1).1]] at hh
  exact hh
theorem count_no (o n d t : Int) (w : World) (h : Ck.countOk o n d t = false) :
    Calls Tryd.prog 32 #[.agg #[.int .i64 o, .int .i64 n, .int .i64 d], .int .i64 t] w fun e w' => e = .returned (.tuple #[.int .i64 0, .int .i64 (if Ck.okc o n d then 1 else 130)]) ∧ Below w.heap.size w w' := by
  have hh := count_any o n d t w
  rw [show Ck.countV o n d t = 0 by simp [Ck.countV, h], show Ck.countE o n d t = if Ck.okc o n d then 1 else 130 by simp [Ck.countE, h]] at hh
  exact hh

/-- one call of Time: its two answers, of which nothing is known but what the test asks -/
def TimeIs (o n d c T E : Int) : Prop := ∀ w : World, Calls Tryd.prog 31 #[.agg #[.int .i64 o, .int .i64 n, .int .i64 d], .int .i64 c] w fun e w' => e = .returned (.tuple #[.int .i64 T, .int .i64 E]) ∧ Below w.heap.size w w'
def CountIs (o n d t T E : Int) : Prop := ∀ w : World, Calls Tryd.prog 32 #[.agg #[.int .i64 o, .int .i64 n, .int .i64 d], .int .i64 t] w fun e w' => e = .returned (.tuple #[.int .i64 T, .int .i64 E]) ∧ Below w.heap.size w w'

/-- what the first half comes to -/
def Half1 (o n d c : Int) : Prop :=
  (∃ E, ¬ E = 0 ∧ TimeIs o n d c 0 E) ∨ (∃ x, TimeIs o n d c x 0 ∧ CountIs o n d x 0 1 ∧ c ≤ -1125898906842624) ∨
  (∃ x m, TimeIs o n d c x 0 ∧ CountIs o n d x m 0 ∧ TimeIs o n d m x 0 ∧ m ≤ c)
theorem half1 (o n d c : Int) : Half1 o n d c := by
  rcases Ck.back_one o n d c with h | ⟨h1, h2, h3⟩ | ⟨h1, h2, h3, h4, h5⟩
  · refine .inl ⟨if Ck.okc o n d then 1 else 130, by split <;> omega, fun w => time_no o n d c w h⟩
  · refine .inr (.inl ⟨_, fun w => time_ok o n d c _ w ⟨h1, rfl⟩, fun w => ?_, h3⟩)
    have := count_no o n d _ w h2
    rw [(Ck.timeOk_iff.1 h1).1] at this
    exact this
  · exact .inr (.inr ⟨_, _, fun w => time_ok o n d c _ w ⟨h1, rfl⟩, fun w => count_ok o n d _ _ w ⟨h2, rfl⟩, fun w => time_ok o n d _ _ w ⟨h3, h4⟩, h5⟩)
/-- what the second half comes to -/
def Half2 (o n d t : Int) : Prop :=
  (∃ E, ¬ E = 0 ∧ CountIs o n d t 0 E) ∨
  (∃ m T E T' E', CountIs o n d t m 0 ∧ -1125899906842624 ≤ m ∧ m ≤ 1125899906842624 ∧ TimeIs o n d m T E ∧ TimeIs o n d (m - 1) T' E' ∧ (¬ E = 0 ∨ E = 0 ∧ t ≤ T) ∧ (¬ E' = 0 ∨ E' = 0 ∧ T' < t))
theorem time_is (o n d c : Int) : (∃ E, ¬ E = 0 ∧ TimeIs o n d c 0 E) ∨ TimeIs o n d c (o + c * n / d) 0 := by
  by_cases k : Ck.timeOk o n d c = true
  · exact .inr fun w => time_ok o n d c _ w ⟨k, rfl⟩
  · exact .inl ⟨if Ck.okc o n d then 1 else 130, by split <;> omega, fun w => time_no o n d c w (by simpa using k)⟩
theorem half2 (o n d t : Int) : Half2 o n d t := by
  by_cases k : Ck.countOk o n d t = true
  · obtain ⟨h1, h2⟩ := Ck.back_two k
    obtain ⟨b0, b1⟩ := Ck.inT_iff.1 (Ck.countOk_iff.1 k).2.2
    have hc : CountIs o n d t (-((o - t) * d / n)) 0 := fun w => count_ok o n d t _ w ⟨k, rfl⟩
    rcases time_is o n d (-((o - t) * d / n)) with ⟨E, hE, hT⟩ | hT <;> rcases time_is o n d (-((o - t) * d / n) - 1) with ⟨E', hE', hT'⟩ | hT'
    · exact .inr ⟨_, _, _, _, _, hc, b0, b1, hT, hT', .inl hE, .inl hE'⟩
    · exact .inr ⟨_, _, _, _, _, hc, b0, b1, hT, hT', .inl hE, .inr ⟨rfl, h2⟩⟩
    · exact .inr ⟨_, _, _, _, _, hc, b0, b1, hT, hT', .inr ⟨rfl, h1⟩, .inl hE'⟩
    · exact .inr ⟨_, _, _, _, _, hc, b0, b1, hT, hT', .inr ⟨rfl, h1⟩, .inr ⟨rfl, h2⟩⟩
  · exact .inl ⟨if Ck.okc o n d then 1 else 130, by split <;> omega, fun w => count_no o n d t w (by simpa using k)⟩

end Go.Proofs.YtiohemofidphjaaDoor
