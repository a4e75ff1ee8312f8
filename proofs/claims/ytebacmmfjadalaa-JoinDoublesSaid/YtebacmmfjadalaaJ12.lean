/- Contract of the joiner's rise. -/
import Derived.Test.YtebacmmfjadalaaJ11
namespace Go.Proofs.Ytebacmmfjadalaa
open Go Go.RowKit

/-- a joiner's own cells -/
structure Jn where
  sen : Value
  win : Int
  wait : Value
  some : Bool
  top : Int
  hor : Int
  ct : Int
  cd : Int
  co : Int
  cl : Int
  cs : Int
def JnAt (w : World) (x : Nat) (j : Jn) : Prop :=
  w.cell? ⟨x, 0, none⟩ = some j.sen ∧ w.cell? ⟨x, 1, none⟩ = some (.int .i64 j.win) ∧ w.cell? ⟨x, 2, none⟩ = some j.wait ∧ w.cell? ⟨x, 3, none⟩ = some (.bool j.some) ∧ w.cell? ⟨x, 4, none⟩ = some (.int .i64 j.top) ∧ w.cell? ⟨x, 5, none⟩ = some (.int .i64 j.hor) ∧
  (w.cell? ⟨x, 6, none⟩ = some (.int .i64 j.ct) ∧ w.cell? ⟨x, 7, none⟩ = some (.int .i64 j.cd) ∧ w.cell? ⟨x, 8, none⟩ = some (.int .i64 j.co) ∧ w.cell? ⟨x, 9, none⟩ = some (.int .i64 j.cl) ∧ w.cell? ⟨x, 10, none⟩ = some (.int .i64 j.cs)) ∧ w.cell? ⟨x, 11, none⟩ = some (.bool true)
def riseT (j : Jn) (t : Int) : Int := if j.some = false ∨ j.top < t then t else j.top
def riseM (j : Jn) (t : Int) : Int := max (riseT j t - j.win) (-1125899906842624)
def riseH (j : Jn) (t : Int) : Int := if j.some = false ∨ j.hor < riseM j t then riseM j t else j.hor
def riseJ (j : Jn) (t : Int) : Jn := { j with some := true, top := riseT j t, hor := riseH j t }

set_option maxRecDepth 8000 in
set_option maxHeartbeats 2000000 in
theorem rise_any (x : Nat) (j : Jn) (t : Int) (w : World) (hj : JnAt w x j) (hz : ∀ i, w.frozen? ⟨x, i, none⟩ = false) (b1 : -2251799813685248 ≤ t) (b2 : t ≤ 2251799813685248) (b3 : -2251799813685248 ≤ j.top) (b4 : j.top ≤ 2251799813685248) (b5 : 0 ≤ j.win) (b6 : j.win ≤ 2251799813685248) :
    Calls Try.prog 42 #[.pointer (some ⟨x, 0, none⟩), .int .i64 t] w fun e w' => e = .returned (.tuple #[]) ∧ JnAt w' x (riseJ j t) ∧ Ch w w' none (fun a => a = ⟨x, 3, none⟩ ∨ a = ⟨x, 4, none⟩ ∨ a = ⟨x, 5, none⟩) := by
  have HJ := Lib.hid hj
  obtain ⟨S, win, V, sm, top, hor, ct, cd, co, cl, cs⟩ := j
  obtain ⟨g0, g1, g2, g3, g4, g5, -, -⟩ := hj
  simp only at g0 g1 g2 g3 g4 g5 b3 b4 b5 b6 ⊢
  have HR := Lib.hid ((Ch.refl w none (fun a => a = (⟨x, 3, none⟩ : Addr) ∨ a = ⟨x, 4, none⟩ ∨ a = ⟨x, 5, none⟩)))
  cases sm
  · have HT := Lib.hid (show riseJ ⟨S, win, V, false, top, hor, ct, cd, co, cl, cs⟩ t = ⟨S, win, V, true, t, max (t - win) (-1125899906842624), ct, cd, co, cl, cs⟩ by simp [riseJ, riseH, riseM, riseT])
    go_enter Try.func42, Try.ntmps42
    go_wp2_with fail
    go_region
    all_goals go_wp2_with fail
    all_goals go_end0
    all_goals (
      refine ⟨rfl, ?_, ((((HR.out.set (.inr (.inl rfl)) _).set (.inr (.inr rfl)) _).set (.inl rfl) _).drew)⟩
      rw [HT.out]
      obtain ⟨g0, g1, g2, g3, g4, g5, ⟨g6, g7, g8, g9, g10⟩, g11⟩ := HJ.out
      simp only at g0 g1 g2 g3 g4 g5 g6 g7 g8 g9 g10 g11
      simp [JnAt, go_sem, g0, g1, g2, g3, g4, g5, g6, g7, g8, g9, g10, g11])
  · by_cases c1 : top < t
    · have k1 : -4503599627370496 ≤ t - win := by omega
      have k2 : t - win ≤ 4503599627370496 := by omega
      by_cases c2 : hor < max (t - win) (-1125899906842624)
      · have HT := Lib.hid (show riseJ ⟨S, win, V, true, top, hor, ct, cd, co, cl, cs⟩ t = ⟨S, win, V, true, t, max (t - win) (-1125899906842624), ct, cd, co, cl, cs⟩ by simp [riseJ, riseH, riseM, riseT, c1, c2])
        go_enter Try.func42, Try.ntmps42
        go_wp2_with fail
        go_region
        all_goals go_wp2_with fail
        all_goals go_end0
        all_goals (
          refine ⟨rfl, ?_, ((((HR.out.set (.inr (.inl rfl)) _).set (.inr (.inr rfl)) _).set (.inl rfl) _).drew)⟩
          rw [HT.out]
          obtain ⟨g0, g1, g2, g3, g4, g5, ⟨g6, g7, g8, g9, g10⟩, g11⟩ := HJ.out
          simp only at g0 g1 g2 g3 g4 g5 g6 g7 g8 g9 g10 g11
          simp [JnAt, go_sem, g0, g1, g2, g3, g4, g5, g6, g7, g8, g9, g10, g11])
      · have HT := Lib.hid (show riseJ ⟨S, win, V, true, top, hor, ct, cd, co, cl, cs⟩ t = ⟨S, win, V, true, t, hor, ct, cd, co, cl, cs⟩ by simp [riseJ, riseH, riseM, riseT, c1, c2])
        go_enter Try.func42, Try.ntmps42
        go_wp2_with fail
        go_region
        all_goals go_wp2_with fail
        all_goals go_end0
        all_goals (
          refine ⟨rfl, ?_, (((HR.out.set (.inr (.inl rfl)) _).set (.inl rfl) _).drew)⟩
          rw [HT.out]
          obtain ⟨g0, g1, g2, g3, g4, g5, ⟨g6, g7, g8, g9, g10⟩, g11⟩ := HJ.out
          simp only at g0 g1 g2 g3 g4 g5 g6 g7 g8 g9 g10 g11
          simp [JnAt, go_sem, g0, g1, g2, g3, g4, g5, g6, g7, g8, g9, g10, g11])
    · have k1 : -4503599627370496 ≤ top - win := by omega
      have k2 : top - win ≤ 4503599627370496 := by omega
      by_cases c2 : hor < max (top - win) (-1125899906842624)
      · have HT := Lib.hid (show riseJ ⟨S, win, V, true, top, hor, ct, cd, co, cl, cs⟩ t = ⟨S, win, V, true, top, max (top - win) (-1125899906842624), ct, cd, co, cl, cs⟩ by simp [riseJ, riseH, riseM, riseT, c1, c2])
        go_enter Try.func42, Try.ntmps42
        go_wp2_with fail
        go_region
        all_goals go_wp2_with fail
        all_goals go_end0
        all_goals (
          refine ⟨rfl, ?_, (((HR.out.set (.inr (.inr rfl)) _).set (.inl rfl) _).drew)⟩
          rw [HT.out]
          obtain ⟨g0, g1, g2, g3, g4, g5, ⟨g6, g7, g8, g9, g10⟩, g11⟩ := HJ.out
          simp only at g0 g1 g2 g3 g4 g5 g6 g7 g8 g9 g10 g11
          simp [JnAt, go_sem, g0, g1, g2, g3, g4, g5, g6, g7, g8, g9, g10, g11])
      · have HT := Lib.hid (show riseJ ⟨S, win, V, true, top, hor, ct, cd, co, cl, cs⟩ t = ⟨S, win, V, true, top, hor, ct, cd, co, cl, cs⟩ by simp [riseJ, riseH, riseM, riseT, c1, c2])
        go_enter Try.func42, Try.ntmps42
        go_wp2_with fail
        go_region
        all_goals go_wp2_with fail
        all_goals go_end0
        all_goals (
          refine ⟨rfl, ?_, ((HR.out.set (.inl rfl) _).drew)⟩
          rw [HT.out]
          obtain ⟨g0, g1, g2, g3, g4, g5, ⟨g6, g7, g8, g9, g10⟩, g11⟩ := HJ.out
          simp only at g0 g1 g2 g3 g4 g5 g6 g7 g8 g9 g10 g11
          simp [JnAt, go_sem, g0, g1, g2, g3, g4, g5, g6, g7, g8, g9, g10, g11])
end Go.Proofs.Ytebacmmfjadalaa
