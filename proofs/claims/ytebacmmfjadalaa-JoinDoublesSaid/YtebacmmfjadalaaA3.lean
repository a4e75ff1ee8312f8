/- Contracts of clock Check and plain. Condition of plain: the clock may be, the count lies within the limits. -/
import Derived.Test.YtebacmmfjadalaaA1
import Derived.Test.YtebacmmfjadalaaM2
import Derived.Deep.RegionHeld3
namespace Go.Proofs.Ytebacmmfjadalaa
open Go.RowKit

/-- a clock, by value -/
def clk (o n d : Int) : Value := .agg #[.int .i64 o, .int .i64 n, .int .i64 d]

set_option maxHeartbeats 400000 in
theorem check_any (o n d : Int) (w : World) :
    Calls Try.prog 34 #[clk o n d] w fun e w' => e = .returned (.int .i64 (if Ck.okc o n d then 0 else 130)) ∧ Below w.heap.size w w' := by
  unfold clk
  by_cases c1 : n < 1
  · rw [show Ck.okc o n d = false by simp [Ck.okc]; omega]
    go_enter Try.func34, Try.ntmps34
    go_wp2_with fail
    go_ret
    exact ⟨rfl, (Below.refl _ _).alloc (Nat.le_refl _) _⟩
  · by_cases c2 : 1000000000 < n
    · rw [show Ck.okc o n d = false by simp [Ck.okc]; omega]
      go_enter Try.func34, Try.ntmps34
      go_wp2_with fail
      go_ret
      exact ⟨rfl, (Below.refl _ _).alloc (Nat.le_refl _) _⟩
    · by_cases c3 : d < 1
      · rw [show Ck.okc o n d = false by simp [Ck.okc]; omega]
        go_enter Try.func34, Try.ntmps34
        go_wp2_with fail
        go_ret
        exact ⟨rfl, (Below.refl _ _).alloc (Nat.le_refl _) _⟩
      · by_cases c4 : 1000000000 < d
        · rw [show Ck.okc o n d = false by simp [Ck.okc]; omega]
          go_enter Try.func34, Try.ntmps34
          go_wp2_with fail
          go_ret
          exact ⟨rfl, (Below.refl _ _).alloc (Nat.le_refl _) _⟩
        · by_cases c5 : -1125899906842624 ≤ o ∧ o ≤ 1125899906842624
          · rw [show Ck.okc o n d = true by simp [Ck.okc]; omega]
            have c6 : decide (-1125899906842624 ≤ o ∧ o ≤ 1125899906842624) = true := by simpa using c5
            go_enter Try.func34, Try.ntmps34
            go_wp2_with (go_at_call 54; refine (within_any _ _ _ (by omega) (by omega)).mono ?_; rw [c6]; rintro e w' ⟨rfl, rfl⟩)
            go_ret
            exact ⟨rfl, (Below.refl _ _).alloc (Nat.le_refl _) _⟩
          · rw [show Ck.okc o n d = false by simp [Ck.okc]; omega]
            have c6 : decide (-1125899906842624 ≤ o ∧ o ≤ 1125899906842624) = false := by simpa using c5
            go_enter Try.func34, Try.ntmps34
            go_wp2_with (go_at_call 54; refine (within_any _ _ _ (by omega) (by omega)).mono ?_; rw [c6]; rintro e w' ⟨rfl, rfl⟩)
            go_ret
            exact ⟨rfl, (Below.refl _ _).alloc (Nat.le_refl _) _⟩

theorem bcell {W w1 : World} (hb : Below W.heap.size W w1) : (∀ b o, b < W.heap.size → w1.cell? ⟨b, o, none⟩ = W.cell? ⟨b, o, none⟩) ∧ (∀ b o, b < W.heap.size → w1.frozen? ⟨b, o, none⟩ = W.frozen? ⟨b, o, none⟩) :=
  ⟨fun b o h => hb.cell (p := ⟨b, o, none⟩) h, fun b o h => hb.frozen (p := ⟨b, o, none⟩) h⟩

/-- what a region holds of two cells and of the world ahead of it, behind a call that makes memory alone -/
theorem keep_two {a b : Addr} {x y : Value} {B : Nat} {W0 w1 w2 : World} (h : w1.cell? a = some x ∧ w1.cell? b = some y ∧ Below B W0 w1) (hb : Below w1.heap.size w1 w2) (hB : B ≤ W0.heap.size) (ha : a.block < B) (hb' : b.block < B) :
    w2.cell? a = some x ∧ w2.cell? b = some y ∧ Below B W0 w2 := by
  have hs := h.2.2.size
  exact ⟨(hb.cell (by omega)).trans h.1, (hb.cell (by omega)).trans h.2.1, h.2.2.trans (hb.mono (by omega))⟩
theorem prod_bd {c n : Int} (c0 : -1125899906842624 ≤ c) (c1 : c ≤ 1125899906842624) (n0 : 1 ≤ n) (n1 : n ≤ 1000000000) : ((c * n).natAbs : Int) ≤ 1125899906842624000000000 := by
  rw [Int.natAbs_mul]
  have : c.natAbs * n.natAbs ≤ 1125899906842624 * 1000000000 := Nat.mul_le_mul (by omega) (by omega)
  omega

set_option maxHeartbeats 400000 in
theorem plain_any (o n d c : Int) (w : World) (hk : Ck.okc o n d = true) (c0 : -1125899906842624 ≤ c) (c1 : c ≤ 1125899906842624) :
    Calls Try.prog 56 #[clk o n d, .int .i64 c] w fun e w' => e = .returned (.tuple #[.int .i64 (o + if Ck.fits (c * n) d then c * n / d else 0), .bool (Ck.fits (c * n) d)]) ∧ Below w.heap.size w w' := by
  obtain ⟨n0, n1, d0, d1, o0, o1⟩ := Ck.okc_iff.1 hk
  obtain ⟨v, hv⟩ : ∃ v, (if Ck.fits (c * n) d then c * n / d else 0) = v := ⟨_, rfl⟩
  obtain ⟨f, hf⟩ : ∃ f, Ck.fits (c * n) d = f := ⟨_, rfl⟩
  have hvb : -4611686018427387905 ≤ v ∧ v ≤ 4611686018427387904 := by
    subst hv
    split
    · exact Ck.fits_bd (by omega) (by assumption)
    · omega
  obtain ⟨hv0, hv1⟩ := hvb
  have ht := times_any c n
  have hov := over_any (c * n) d
  rw [hv, hf] at hov
  rw [hv, hf]
  have hpb := prod_bd c0 c1 n0 n1
  have HT := Lib.hid ht
  have HO := Lib.hid hov
  clear ht hov hv hf hk
  unfold clk
  go_enter Try.func56, Try.ntmps56
  go_wp2_with fail
  go_region_held3 (fun w' => w'.cell? ⟨w.heap.size, 1, none⟩ = some (.int .i64 n) ∧ w'.cell? ⟨w.heap.size, 2, none⟩ = some (.int .i64 d) ∧ Below (w.heap.size + 1) (w.alloc (.cells #[.int .i64 o, .int .i64 n, .int .i64 d] 66)) w')
    (first | (refine ⟨?_, ?_, ((Below.refl _ _).drew)⟩ <;> go_keep) | exact keep_two (by assumption) hb2 (by simp) (by simp) (by simp) | exact keep_two (by assumption) hb1 (by simp) (by simp) (by simp))
    (first | (go_at_call 71; refine (HT.out _ (by omega) (by omega) (by omega) (by omega)).mono ?_; rintro e w' ⟨rfl, hb1⟩) | (go_at_call 72; refine (HO.out _ (by omega) (by omega) (by omega)).mono ?_; rintro e w' ⟨rfl, hb2⟩))
  have hS : w'.cell? ⟨w.heap.size, 1, none⟩ = some (.int .i64 n) ∧ w'.cell? ⟨w.heap.size, 2, none⟩ = some (.int .i64 d) ∧ Below (w.heap.size + 1) (w.alloc (.cells #[.int .i64 o, .int .i64 n, .int .i64 d] 66)) w' := by assumption
  obtain ⟨-, -, hB⟩ := hS
  have hc0 : w'.cell? ⟨w.heap.size, 0, none⟩ = some (.int .i64 o) := (hB.cell (by simp)).trans (by simp [go_sem])
  have hE : Below w.heap.size w w' := ((Below.refl _ _).alloc (Nat.le_refl _) _).trans (hB.mono (by omega))
  have HE := Lib.hid hE
  clear hE hB hb1 hb2
  go_wp2
  go_ret2
  exact ⟨rfl, HE.out⟩
end Go.Proofs.Ytebacmmfjadalaa
