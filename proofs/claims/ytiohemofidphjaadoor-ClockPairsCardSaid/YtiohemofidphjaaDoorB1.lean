/- Contracts of clock common (the greatest divisor) and rate (a rate in lowest terms). Condition: both numbers lie from 1 on below 2 to the 63rd. -/
import Derived.Test.YtiohemofidphjaaDoorA7
import Derived.BigRegion
namespace Go.Proofs.YtiohemofidphjaaDoor
open Go.RowKit

theorem gcd_step {x y g : Nat} (h : Nat.gcd x y = g) : Nat.gcd y (x % y) = g := by
  rw [← h, Nat.gcd_comm x y, Nat.gcd_rec y x, Nat.gcd_comm]

set_option maxHeartbeats 400000 in
theorem common_any (a b : Nat) (w : World) (ha : a ≤ 9223372036854775807) (hb : b ≤ 9223372036854775807) :
    Calls Tryd.prog 40 #[.int .i64 a, .int .i64 b] w fun e w' => e = .returned (.int .i64 (Nat.gcd a b : Nat)) ∧ ∃ n, w' = w.drewN n := by
  obtain ⟨g, hg⟩ : ∃ g, Nat.gcd a b = g := ⟨_, rfl⟩
  rw [hg]
  have HG := Lib.hid hg
  clear hg
  go_enter Tryd.func40, Tryd.ntmps40
  go_wp2_with fail
  go_loopw [0, 1] (fun u v wr => ∃ x y : Nat, Hid (Nat.gcd x y = g) ∧ u = .int .i64 x ∧ v = .int .i64 y ∧ x ≤ 9223372036854775807 ∧ y ≤ 9223372036854775807 ∧ ∃ n, wr = w.drewN n) (fun _ v _ => (intOf v).toNat)
  case atStart => exact ⟨a, b, HG, rfl, rfl, ha, hb, 0, rfl⟩
  case round =>
    obtain ⟨x, y, G, rfl, rfl, hx, hy, n, rfl⟩ := hrel
    by_cases c : y = 0
    · subst c
      obtain rfl : x = g := by have := G.out; simpa using this
      go_wp2_with fail
      go_ret
      exact ⟨rfl, n, rfl⟩
    · have c' : ((y : Int) != 0) = true := by simp; omega
      have c0 : ¬ (y : Int) = 0 := by omega
      have c1 : (1 : Int) ≤ (y : Int) := by omega
      have hm : x % y < y := Nat.mod_lt _ (by omega)
      go_wp2_with fail
      go_quiet (fail)
      go_wp2_with fail
      go_roundw
      case rel => exact ⟨y, x % y, gcd_step G.out, rfl, ret_int (by omega), hy, by omega, _, World.drewN_drewN _ _ _⟩
      case measure => simp [intOf]; omega

/-- a rate in lowest terms -/
def rateN (a b : Nat) : Int := ((a / Nat.gcd a b : Nat) : Int)
def rateD (a b : Nat) : Int := ((b / Nat.gcd a b : Nat) : Int)
def rateOk (a b : Nat) : Bool := decide (rateN a b ≤ 1000000000 ∧ rateD a b ≤ 1000000000)

theorem rate_end (w : World) (o o2 : Obj) (n : Nat) (x y z : Value) : Below w.heap.size w ((((((w.alloc o).drewN n).setCell ⟨w.heap.size, 0, none⟩ x).setCell ⟨w.heap.size, 1, none⟩ y).setCell ⟨w.heap.size, 2, none⟩ z).alloc o2).drew :=
  ((((((below_drewN ((Below.refl _ _).alloc (Nat.le_refl _) _) _).setCell (Nat.le_refl _) _).setCell (Nat.le_refl _) _).setCell (Nat.le_refl _) _).alloc (by simp) _)).drew

set_option maxHeartbeats 400000 in
theorem rate_any (a b : Nat) (w : World) (ha : 1 ≤ a) (ha' : a ≤ 9223372036854775807) (hb : 1 ≤ b) (hb' : b ≤ 9223372036854775807) :
    Calls Tryd.prog 15 #[.int .i64 a, .int .i64 b] w fun e w' => e = .returned (.tuple #[clk 0 (rateN a b) (rateD a b), .bool (rateOk a b)]) ∧ Below w.heap.size w w' := by
  have hc := common_any a b
  have hg1 : 1 ≤ Nat.gcd a b := Nat.gcd_pos_of_pos_left _ (by omega)
  have hg2 : Nat.gcd a b ≤ 9223372036854775807 := Nat.le_trans (Nat.le_of_dvd (by omega) (Nat.gcd_dvd_left a b)) ha'
  obtain ⟨g, hg⟩ : ∃ g, Nat.gcd a b = g := ⟨_, rfl⟩
  rw [hg] at hc hg1 hg2
  have g0 : ¬ (g : Int) = 0 := by omega
  have g1 : (1 : Int) ≤ (g : Int) := by omega
  have g2 : (g : Int) ≤ 9223372036854775807 := by omega
  have e1 : rateN a b = (a : Int) / (g : Int) := by unfold rateN; rw [hg]; rfl
  have e2 : rateD a b = (b : Int) / (g : Int) := by unfold rateD; rw [hg]; rfl
  have e3 : rateOk a b = (decide ((a : Int) / (g : Int) ≤ 1000000000) && decide ((b : Int) / (g : Int) ≤ 1000000000)) := by
    unfold rateOk; rw [e1, e2]; simp
  rw [e1, e2, e3]
  have HC := Lib.hid hc
  clear hc e1 e2 e3 hg
  obtain ⟨p, hp⟩ : ∃ p : Int, (a : Int) / (g : Int) = p := ⟨_, rfl⟩
  obtain ⟨q, hq⟩ : ∃ q : Int, (b : Int) / (g : Int) = q := ⟨_, rfl⟩
  rw [hp, hq]
  have p0 : 0 ≤ p := by rw [← hp]; exact Int.ediv_nonneg (by omega) (by omega)
  have q0 : 0 ≤ q := by rw [← hq]; exact Int.ediv_nonneg (by omega) (by omega)
  have p1 : p ≤ 9223372036854775807 := by rw [← hp]; exact Int.ediv_le_of_le_mul (by omega) (by have : (9223372036854775807 : Int) * 1 ≤ 9223372036854775807 * (g : Int) := Int.mul_le_mul_of_nonneg_left (by omega) (by omega); omega)
  have q1 : q ≤ 9223372036854775807 := by rw [← hq]; exact Int.ediv_le_of_le_mul (by omega) (by have : (9223372036854775807 : Int) * 1 ≤ 9223372036854775807 * (g : Int) := Int.mul_le_mul_of_nonneg_left (by omega) (by omega); omega)
  have wp := IntWalk.wrap64_in p ⟨by omega, by omega⟩
  have wq := IntWalk.wrap64_in q ⟨by omega, by omega⟩
  unfold clk
  by_cases c : p ≤ 1000000000
  · have c' : decide (p ≤ 1000000000) = true := by simpa using c
    rw [c']
    by_cases c2 : q ≤ 1000000000
    · have c2' : decide (q ≤ 1000000000) = true := by simpa using c2
      rw [c2']
      go_enter Tryd.func15, Tryd.ntmps15
      go_wp2_with (go_at_call 40; refine (HC.out _ (by omega) (by omega)).mono ?_; rintro e w' ⟨rfl, n, rfl⟩)
      go_region
      go_wp2_with fail
      go_region
      all_goals go_wp2_with fail
      exact bodyPost_ret (by simp [results, Tryd.results15, go_sem]; try rfl) rfl ⟨rfl, rate_end _ _ _ _ _ _ _⟩
    · have c2' : decide (q ≤ 1000000000) = false := by simpa using c2
      rw [c2']
      go_enter Tryd.func15, Tryd.ntmps15
      go_wp2_with (go_at_call 40; refine (HC.out _ (by omega) (by omega)).mono ?_; rintro e w' ⟨rfl, n, rfl⟩)
      go_region
      go_wp2_with fail
      go_region
      all_goals go_wp2_with fail
      exact bodyPost_ret (by simp [results, Tryd.results15, go_sem]; try rfl) rfl ⟨rfl, rate_end _ _ _ _ _ _ _⟩
  · have c' : decide (p ≤ 1000000000) = false := by simpa using c
    rw [c']
    go_enter Tryd.func15, Tryd.ntmps15
    go_wp2_with (go_at_call 40; refine (HC.out _ (by omega) (by omega)).mono ?_; rintro e w' ⟨rfl, n, rfl⟩)
    go_region
    go_wp2_with fail
    go_region
    all_goals go_wp2_with fail
    exact bodyPost_ret (by simp [results, Tryd.results15, go_sem]; try rfl) rfl ⟨rfl, rate_end _ _ _ _ _ _ _⟩
end Go.Proofs.YtiohemofidphjaaDoor
