/- X8 in one text. -/
import Derived.Test.YthnmfcjodobkbaaGreatDoorP29
import Derived.Test.YthnmfcjodobkbaaGreatDoorP31
import Derived.Test.YthnmfcjodobkbaaGreatDoorP22

namespace Go.Proofs.YthnmfcjodobkbaaGreatDoor
open Go Go.RowKit Nb Nx

theorem neg_flip {f : Nat} (hf : f < 18446744073709551616) : Op.negFloat .f64 f = (f + 9223372036854775808) % 18446744073709551616 := by
  show f ^^^ 2 ^ (11 + 52) = _
  apply Nat.eq_of_testBit_eq
  intro i
  have e : (f + 9223372036854775808) % 18446744073709551616 = (f / 9223372036854775808 + 1) % 2 * 2 ^ 63 + f % 2 ^ 63 := by
    rw [show (2 : Nat) ^ 63 = 9223372036854775808 by decide]
    omega
  rw [e, Nat.testBit_xor, Nat.testBit_two_pow]
  have hl : f % 2 ^ 63 < 2 ^ 63 := Nat.mod_lt _ (Nat.pow_pos (by omega))
  rw [Nat.mul_comm, Nat.testBit_two_pow_mul_add _ hl]
  by_cases h : i < 63
  · rw [if_pos h, Nat.testBit_mod_two_pow]
    have : ¬ 11 + 52 = i := by omega
    simp [h, this]
  · rw [if_neg h]
    by_cases h2 : i = 63
    · subst h2
      have h3 : f < 2 ^ 64 := hf
      simp only [Nat.testBit_eq_decide_div_mod_eq, show 11 + 52 = 63 by omega, Nat.sub_self, Nat.pow_zero, Nat.div_one, show (2 : Nat) ^ 63 = 9223372036854775808 by decide, decide_true, Bool.xor_true]
      have : f / 9223372036854775808 % 2 = 0 ∨ f / 9223372036854775808 % 2 = 1 := by omega
      rcases this with q | q
      · have : (f / 9223372036854775808 + 1) % 2 % 2 = 1 := by omega
        rw [q, this]; rfl
      · have : (f / 9223372036854775808 + 1) % 2 % 2 = 0 := by omega
        rw [q, this]; rfl
    · have h3 : f.testBit i = false := Nat.testBit_lt_two_pow (Nat.lt_of_lt_of_le hf (by rw [show (18446744073709551616 : Nat) = 2 ^ 64 by decide]; exact Nat.pow_le_pow_right (by omega) (by omega)))
      have h4 : ((f / 9223372036854775808 + 1) % 2).testBit (i - 63) = false := by
        apply Nat.testBit_lt_two_pow
        have := Nat.one_lt_two_pow (n := i - 63) (by omega)
        omega
      have h5 : ¬ 11 + 52 = i := by omega
      rw [h3, h4]
      simp [h5]

set_option maxRecDepth 8000 in
theorem inf_up (f : Nat) (w : World) (hf : f < 18446744073709551616) : Calls Tryz.prog 36 #[.float .f64 f, .int .i64 1] w fun e w' => e = .returned (.bool (decide (f = 9218868437227405312))) ∧ w' = w := by
  have hg := gt_max f hf
  generalize decide (f = 9218868437227405312) = q at hg
  go_enter Tryz.func36, Tryz.ntmps36
  go_wp2_with fail
  go_ret
  exact ⟨rfl, rfl⟩

set_option maxRecDepth 8000 in
theorem inf_down (f : Nat) (w : World) (hf : f < 18446744073709551616) : Calls Tryz.prog 36 #[.float .f64 f, .int .i64 (-1)] w fun e w' => e = .returned (.bool (decide (f = 18442240474082181120))) ∧ w' = w := by
  obtain ⟨f2, hf2⟩ : ∃ f2, (f + 9223372036854775808) % 18446744073709551616 = f2 := ⟨_, rfl⟩
  have hneg : ∀ W, (Op.unary .neg (.float .f64 f)).run Tryz.prog W = .ok (.float .f64 f2) W := fun W => by
    rw [← hf2, ← neg_flip hf]
    rfl
  have hg := gt_max f2 (by omega)
  have hd : decide (f = 18442240474082181120) = decide (f2 = 9218868437227405312) := by apply decide_eq_decide.2; omega
  rw [hd]
  clear hd hf2
  generalize decide (f2 = 9218868437227405312) = q at hg
  go_enter Tryz.func36, Tryz.ntmps36
  go_wp2_with fail
  go_ret
  exact ⟨rfl, rfl⟩

/-- the text of what is not finite -/
def specL (f : Nat) : List UInt8 := if nanN f = true then [110, 97, 110] else if f = 9218868437227405312 then [43, 105, 110, 102] else if f = 18442240474082181120 then [45, 105, 110, 102] else []
set_option maxRecDepth 8000 in
theorem special_any (f : Nat) (w : World) (hf : f < 18446744073709551616) : Calls Tryz.prog 37 #[.float .f64 f] w fun e w' => e = .returned (.tuple #[.string ⟨(specL f).toArray⟩, .bool (decide (specL f ≠ []))]) ∧ w' = w := by
  have hn := neq_self f
  have HU := Lib.hid (inf_up f w hf)
  have HD := Lib.hid (inf_down f w hf)
  unfold specL
  by_cases c1 : nanN f = true
  · rw [c1] at hn
    rw [if_pos c1]
    go_enter Tryz.func37, Tryz.ntmps37
    go_wp2_with fail
    go_ret2
    exact ⟨rfl, rfl⟩
  · rw [if_neg c1]
    rw [Bool.eq_false_iff.2 c1] at hn
    by_cases c2 : f = 9218868437227405312
    · rw [decide_eq_true c2] at HU
      rw [if_pos c2]
      clear c1 c2 hf
      go_enter Tryz.func37, Tryz.ntmps37
      go_wp2_with fail
      refine HU.out.mono ?_
      rintro e w1 ⟨rfl, hw⟩
      obtain rfl := hw.symm
      go_wp2_with fail
      go_ret2
      exact ⟨rfl, rfl⟩
    · rw [decide_eq_false c2] at HU
      rw [if_neg c2]
      by_cases c3 : f = 18442240474082181120
      · rw [decide_eq_true c3] at HD
        rw [if_pos c3]
        clear c1 c2 c3 hf
        go_enter Tryz.func37, Tryz.ntmps37
        go_wp2_with fail
        refine HU.out.mono ?_
        rintro e w1 ⟨rfl, hw⟩
        obtain rfl := hw.symm
        go_wp2_with fail
        refine HD.out.mono ?_
        rintro e w1 ⟨rfl, hw⟩
        obtain rfl := hw.symm
        go_wp2_with fail
        go_ret2
        exact ⟨rfl, rfl⟩
      · rw [decide_eq_false c3] at HD
        rw [if_neg c3]
        clear c1 c2 c3 hf
        go_enter Tryz.func37, Tryz.ntmps37
        go_wp2_with fail
        refine HU.out.mono ?_
        rintro e w1 ⟨rfl, hw⟩
        obtain rfl := hw.symm
        go_wp2_with fail
        refine HD.out.mono ?_
        rintro e w1 ⟨rfl, hw⟩
        obtain rfl := hw.symm
        go_wp2_with fail
        go_ret2
        exact ⟨rfl, rfl⟩

set_option maxRecDepth 8000 in
theorem signbit_any (f : Nat) (w : World) (hf : f < 18446744073709551616) : Calls Tryz.prog 69 #[.float .f64 f] w fun e w' => e = .returned (.bool (decide (9223372036854775808 ≤ f))) ∧ w' = w := by
  have hb := run_bits f
  have hs : decide (wrap64 (f : Int) < 0) = decide (9223372036854775808 ≤ f) := by
    apply decide_eq_decide.2
    unfold wrap64
    omega
  generalize decide (9223372036854775808 ≤ f) = q at hs
  go_enter Tryz.func69, Tryz.ntmps69
  go_wp2_with fail
  go_ret
  exact ⟨rfl, rfl⟩
/-- a sign ahead -/
def sgL (f : Nat) : List UInt8 := if 9223372036854775808 ≤ f then [45] else []
set_option maxRecDepth 8000 in
theorem begun_any (f : Nat) (w : World) (hf : f < 18446744073709551616) : Calls Tryz.prog 38 #[.float .f64 f] w fun e w' => e = .returned (.pointer (some ⟨w.heap.size, 0, none⟩)) ∧ Bld w' w.heap.size w.heap.size (sgL f) ∧ Below w.heap.size w w' := by
  have HB := Lib.hid (And.intro (Bld.new w) ((Below.refl w.heap.size w).alloc (Nat.le_refl _) (.cells #[.pointer none, .slice none 0 0] 44)))
  have HS := Lib.hid (fun W => signbit_any f W hf)
  unfold sgL
  by_cases c : 9223372036854775808 ≤ f
  · rw [decide_eq_true c] at HS
    rw [if_pos c]
    clear hf c
    go_enter Tryz.func38, Tryz.ntmps38
    go_wp2_with fail
    refine (HS.out _).mono ?_
    rintro e w1 ⟨rfl, rfl⟩
    go_wp2_with fail
    refine (wbyte w.heap.size w.heap.size [] 45 _ HB.out.1 (by decide) HB.out.2.size 45 rfl).mono ?_
    rintro e w2 ⟨rfl, d2, b2⟩
    have H2 := Lib.hid (And.intro d2 (HB.out.2.trans b2))
    clear d2 b2
    go_wp2_with fail
    go_ret
    exact ⟨rfl, H2.out.1, H2.out.2⟩
  · rw [decide_eq_false c] at HS
    rw [if_neg c]
    clear hf c
    go_enter Tryz.func38, Tryz.ntmps38
    go_wp2_with fail
    refine (HS.out _).mono ?_
    rintro e w1 ⟨rfl, rfl⟩
    go_wp2_with fail
    go_ret
    exact ⟨rfl, HB.out.1, HB.out.2⟩
end Go.Proofs.YthnmfcjodobkbaaGreatDoor
