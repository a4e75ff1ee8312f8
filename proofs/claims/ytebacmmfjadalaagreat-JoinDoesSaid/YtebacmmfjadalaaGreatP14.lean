/- K2 N1 K3 K4 K5 in one text. -/
import Derived.Test.YtebacmmfjadalaaGreatP13
import Derived.Laws.BitsAllLaws
import Ieee.Arith
import GoSem.Core.Float
import Derived.WalkLawsBesides
import Derived.Deep.QuietTactic
import Derived.BigQuiet

namespace Go.Proofs.YtebacmmfjadalaaGreat
open Go Go.RowKit

def expV (b : Int) : Int := (bits .and .u64 (canonV b / 4503599627370496) 2047)
def frcV (b : Int) : Int := bits .and .u64 (canonV b) 4503599627370495
def sgnV (b : Int) : Bool := bits .and .u64 (canonV b) 9223372036854775808 != 0
set_option maxRecDepth 100000 in
set_option maxHeartbeats 4000000 in
theorem split_dbl (b : Int) (w : World) : Calls Tryz.prog 109 #[.int .u64 b, fmt] w fun e w' => e = .returned (.tuple #[.bool (sgnV b), .int .i64 (IntKind.i64.wrap (expV b)), .int .u64 (frcV b)]) ∧ Below w.heap.size w w' := by
  have HF := Lib.hid (fmt_at w 164)
  have HB := Lib.hid (fmt_below w 164)
  obtain ⟨c, hq⟩ : ∃ c, canonV b = c := ⟨_, rfl⟩
  have HQ := Lib.hid hq
  have HN := Lib.hid (fun W => canon_dbl b W)
  rw [hq] at HN
  clear hq
  go_enter Tryz.func109, Tryz.ntmps109
  go_wp2_with fail
  generalize w.alloc (.cells #[.int .u64 52, .int .i64 2047, .int .i64 1075] 164) = W0 at *
  obtain ⟨hg, f0, f1, f2⟩ := HF.out
  go_wp2_with fail
  refine (HN.out W0).mono ?_
  rintro e w1 ⟨rfl, hb1⟩
  have HF1 := Lib.hid (HF.out.below hb1)
  have HB1 := Lib.hid (back_of HB.out hb1)
  clear hb1 f0 f1 f2 hg HN HB HF
  go_wp2_with fail
  have hc : Below w1.heap.size w1 w1.drew := (Below.refl _ _).drew
  go_region_held3 (fun w' => w'.cell? ⟨w.heap.size, 0, none⟩ = some (.int .u64 52) ∧ w'.cell? ⟨w.heap.size, 1, none⟩ = some (.int .i64 2047) ∧ w'.cell? ⟨w.heap.size, 2, none⟩ = some (.int .i64 1075))
    (first | exact HF1.out.2 | exact (HF1.out.below hc).2)
    (first | (go_at_call 120; refine (hidden_dbl _).mono ?_; rintro e w1 ⟨rfl, hb1⟩; replace hc := back_of hc hb1; clear hb1) | (go_at_call 119; refine (sign_dbl _).mono ?_; rintro e w1 ⟨rfl, hb1⟩; replace hc := back_of hc hb1; clear hb1))
  go_wp2_with fail
  go_ret3
  refine ⟨?_, back_of HB1.out hc⟩
  unfold sgnV expV frcV
  rw [HQ.out]
  rfl

def clsE (e f : Int) : Int := if e = 2047 then (if f = 0 then 2 else 1) else if e = 0 then (if f = 0 then 3 else 4) else 5
def clsV (b : Int) : Int := clsE (IntKind.i64.wrap (expV b)) (frcV b)
set_option maxRecDepth 100000 in
set_option maxHeartbeats 4000000 in
theorem class_dbl (b : Int) (w : World) : Calls Tryz.prog 87 #[.int .u64 b, fmt] w fun e w' => e = .returned (.int .i64 (clsV b)) ∧ Below w.heap.size w w' := by
  have HF := Lib.hid (fmt_at w 164)
  have HB := Lib.hid (fmt_below w 164)
  unfold clsV
  have HN := Lib.hid (fun W => split_dbl b W)
  generalize sgnV b = g at HN
  generalize IntKind.i64.wrap (expV b) = E at *
  generalize frcV b = F at *
  by_cases c1 : E = 2047
  · subst c1
    by_cases c2 : F = 0
    · subst c2
      go_enter Tryz.func87, Tryz.ntmps87
      go_wp2_with fail
      generalize w.alloc (.cells #[.int .u64 52, .int .i64 2047, .int .i64 1075] 164) = W0 at *
      obtain ⟨hg, f0, f1, f2⟩ := HF.out
      go_wp2_with fail
      refine (HN.out W0).mono ?_
      rintro e w1 ⟨rfl, hb1⟩
      obtain ⟨hg, f0, f1, f2⟩ := HF.out.below hb1
      go_wp2_with fail
      go_ret
      exact ⟨rfl, back_of HB.out hb1⟩
    · have c2' : (F == 0) = false := by simpa using c2
      have c2'' : (F != 0) = true := by simpa using c2
      go_enter Tryz.func87, Tryz.ntmps87
      go_wp2_with fail
      generalize w.alloc (.cells #[.int .u64 52, .int .i64 2047, .int .i64 1075] 164) = W0 at *
      obtain ⟨hg, f0, f1, f2⟩ := HF.out
      go_wp2_with fail
      refine (HN.out W0).mono ?_
      rintro e w1 ⟨rfl, hb1⟩
      obtain ⟨hg, f0, f1, f2⟩ := HF.out.below hb1
      go_wp2_with fail
      go_ret
      exact ⟨by unfold clsE; rw [if_pos rfl, if_neg c2]; rfl, back_of HB.out hb1⟩
  · have c1' : (E == 2047) = false := by simpa using c1
    have c1'' : ¬ (E == 2047) = true := by simpa using c1
    by_cases c3 : E = 0
    · subst c3
      by_cases c2 : F = 0
      · subst c2
        go_enter Tryz.func87, Tryz.ntmps87
        go_wp2_with fail
        generalize w.alloc (.cells #[.int .u64 52, .int .i64 2047, .int .i64 1075] 164) = W0 at *
        obtain ⟨hg, f0, f1, f2⟩ := HF.out
        go_wp2_with fail
        refine (HN.out W0).mono ?_
        rintro e w1 ⟨rfl, hb1⟩
        obtain ⟨hg, f0, f1, f2⟩ := HF.out.below hb1
        go_wp2_with fail
        go_ret
        exact ⟨rfl, back_of HB.out hb1⟩
      · have c2' : (F == 0) = false := by simpa using c2
        go_enter Tryz.func87, Tryz.ntmps87
        go_wp2_with fail
        generalize w.alloc (.cells #[.int .u64 52, .int .i64 2047, .int .i64 1075] 164) = W0 at *
        obtain ⟨hg, f0, f1, f2⟩ := HF.out
        go_wp2_with fail
        refine (HN.out W0).mono ?_
        rintro e w1 ⟨rfl, hb1⟩
        obtain ⟨hg, f0, f1, f2⟩ := HF.out.below hb1
        go_wp2_with fail
        go_ret
        exact ⟨by unfold clsE; rw [if_neg c1, if_pos rfl, if_neg c2]; rfl, back_of HB.out hb1⟩
    · have c3' : (E == 0) = false := by simpa using c3
      go_enter Tryz.func87, Tryz.ntmps87
      go_wp2_with fail
      generalize w.alloc (.cells #[.int .u64 52, .int .i64 2047, .int .i64 1075] 164) = W0 at *
      obtain ⟨hg, f0, f1, f2⟩ := HF.out
      go_wp2_with fail
      refine (HN.out W0).mono ?_
      rintro e w1 ⟨rfl, hb1⟩
      obtain ⟨hg, f0, f1, f2⟩ := HF.out.below hb1
      go_wp2_with fail
      go_ret
      exact ⟨by unfold clsE; rw [if_neg c1, if_neg c3]; rfl, back_of HB.out hb1⟩

theorem Class_any (f : Nat) (w : World) : Calls Tryz.prog 72 #[.float .f64 f] w fun e w' => e = .returned (.int .i64 (clsV f)) ∧ Below w.heap.size w w' := by
  have hrb := run_bits f
  go_enter Tryz.func72, Tryz.ntmps72
  go_wp2_with fail
  refine (of_dbl w).mono ?_
  rintro e w1 ⟨rfl, hb1⟩
  go_wp2_with fail
  refine (class_dbl f w1).mono ?_
  rintro e w2 ⟨rfl, hb2⟩
  go_wp2_with fail
  go_ret
  exact ⟨rfl, back_of hb1 hb2⟩

/-- numbers that lie in a row, as their bits -/
def FlAt (w : World) (A : Option Addr) (n : Nat) (bs : List Nat) : Prop := bs.length = n ∧ ((A = none ∧ n = 0) ∨ ∃ b off, A = some ⟨b, off, none⟩ ∧ b < w.heap.size ∧ ∀ i, i < n → w.cell? ⟨b, off + i, none⟩ = some (.float .f64 (bs.getD i 0)))
theorem FlAt.below {w w' : World} {A : Option Addr} {n : Nat} {bs : List Nat} (h : FlAt w A n bs) (hb : Below w.heap.size w w') : FlAt w' A n bs := by
  refine ⟨h.1, ?_⟩
  rcases h.2 with h2 | ⟨b, off, h1, h2, h3⟩
  · exact .inl h2
  · exact .inr ⟨b, off, h1, Nat.lt_of_lt_of_le h2 hb.size, fun i hi => (hb.cell (p := ⟨b, off + i, none⟩) h2).trans (h3 i hi)⟩
theorem FlAt.at {w : World} {A : Option Addr} {n : Nat} {bs : List Nat} (h : FlAt w A n bs) {i : Nat} (hi : i < n) : ∃ b off, A = some ⟨b, off, none⟩ ∧ b < w.heap.size ∧ w.cell? ⟨b, off + i, none⟩ = some (.float .f64 (bs.getD i 0)) := by
  rcases h.2 with h2 | ⟨b, off, h1, h2, h3⟩
  · omega
  · exact ⟨b, off, h1, h2, h3 i hi⟩
def badV (b : Nat) : Bool := clsV b == 1 || clsV b == 2
def finL (bs : List Nat) : Bool := bs.all fun b => !badV b

theorem all_take {bs : List Nat} {k : Nat} (h : (bs.take k).all (fun b => !badV b) = true) (hk : k < bs.length) (hb : badV (bs.getD k 0) = false) : (bs.take (k + 1)).all (fun b => !badV b) = true := by
  rw [List.take_add_one, List.getElem?_eq_getElem hk, List.all_append, h]
  rw [List.getD_eq_getElem?_getD, List.getElem?_eq_getElem hk] at hb
  simp at hb ⊢
  exact hb

theorem finL_bad {bs : List Nat} {k : Nat} (hk : k < bs.length) (hb : badV (bs.getD k 0) = true) : finL bs = false := by
  rw [List.getD_eq_getElem?_getD, List.getElem?_eq_getElem hk] at hb
  have hb' : badV bs[k] = true := hb
  cases h : finL bs with
  | false => rfl
  | true =>
    have := List.all_eq_true.1 h bs[k] (List.getElem_mem hk)
    rw [hb'] at this
    simp at this

set_option maxHeartbeats 1000000 in
theorem finite_any (A : Option Addr) (n c : Nat) (bs : List Nat) (w : World) (h : FlAt w A n bs) (hl : n * 8 ≤ 140737488355328) : Calls Tryz.prog 56 #[.slice A n c] w fun e w' => e = .returned (.bool (finL bs)) ∧ Below w.heap.size w w' := by
  have HF := Lib.hid h
  have hn := h.1
  clear h
  go_enter Tryz.func56, Tryz.ntmps56
  go_wp2_with fail
  go_loopw [8] (fun iv wr => ∃ k : Nat, k ≤ n ∧ iv = .int .i64 (k : Int) ∧ Hid ((bs.take k).all (fun b => !badV b) = true ∧ Below w.heap.size w wr)) (fun iv _ => n - (intOf iv).toNat)
  case atStart => exact ⟨0, by omega, rfl, Lib.hid ⟨rfl, Below.refl _ _⟩⟩
  case round =>
    obtain ⟨k, hk, rfl, hh⟩ := hrel
    by_cases hlt : k < n
    · obtain ⟨b, off, rfl, hb, hcell⟩ := HF.out.at hlt
      have hcr := (hh.out.2.cell (p := ⟨b, off + k, none⟩) hb).trans hcell
      obtain ⟨y, hy⟩ : ∃ y, bs.getD k 0 = y := ⟨_, rfl⟩
      have HY := Lib.hid hy
      rw [hy] at hcr
      have hki : (k : Int) < (n : Int) := by omega
      have HC := Lib.hid (fun W => Class_any y W)
      obtain ⟨c', hc'⟩ : ∃ c', clsV y = c' := ⟨_, rfl⟩
      rw [hc'] at HC
      have HC' := Lib.hid hc'
      clear hcell hy hc'
      by_cases q1 : c' = 1
      · subst q1
        go_wp2_with fail
        refine (HC.out wr).mono ?_
        rintro e w1 ⟨rfl, hb1⟩
        go_wp2_with fail
        go_ret
        refine ⟨?_, back_of hh.out.2 hb1⟩
        rw [finL_bad (k := k) (by omega) (by rw [HY.out]; unfold badV; rw [HC'.out]; rfl)]
        rfl
      · have q1' : (c' == 1) = false := by simpa using q1
        by_cases q2 : c' = 2
        · subst q2
          go_wp2_with fail
          refine (HC.out wr).mono ?_
          rintro e w1 ⟨rfl, hb1⟩
          go_wp2_with fail
          go_ret
          refine ⟨?_, back_of hh.out.2 hb1⟩
          rw [finL_bad (k := k) (by omega) (by rw [HY.out]; unfold badV; rw [HC'.out]; rfl)]
          rfl
        · have q2' : (c' == 2) = false := by simpa using q2
          go_wp2_with fail
          refine (HC.out wr).mono ?_
          rintro e w1 ⟨rfl, hb1⟩
          go_wp2_with fail
          go_roundw
          case rel => exact ⟨k + 1, by omega, by go_num, Lib.hid ⟨all_take hh.out.1 (by omega) (by rw [HY.out]; unfold badV; rw [HC'.out, q1', q2']; rfl), back_of hh.out.2 hb1⟩⟩
          case measure => simp [intOf]; omega
    · have hkn : k = n := by omega
      subst hkn
      go_wp2_with fail
      go_ret
      refine ⟨?_, hh.out.2⟩
      have := hh.out.1
      rw [List.take_of_length_le (by omega)] at this
      unfold finL
      rw [this]
      rfl

def chkE (se : Int) (n : Nat) (bs : List Nat) : Int := if se < 0 ∨ 64 ≤ se ∨ 6 < n then 210 else if finL bs = true then 0 else 4
set_option maxRecDepth 100000 in
set_option maxHeartbeats 1000000 in
theorem pcheck_any (se sq st : Int) (A : Option Addr) (n c : Nat) (bs : List Nat) (w : World) (h : FlAt w A n bs) (hl : n * 8 ≤ 140737488355328) : Calls Tryz.prog 30 #[.agg #[.int .i64 se, .int .u32 sq, .int .u32 st, .slice A n c]] w fun e w' => e = .returned (.int .i64 (chkE se n bs)) ∧ Below w.heap.size w w' := by
  have HB := Lib.hid ((Below.refl w.heap.size w).alloc (Nat.le_refl _) (.cells #[.int .i64 se, .int .u32 sq, .int .u32 st, .slice A n c] 38))
  have HF := Lib.hid (finite_any A n c bs _ (h.below HB.out) hl)
  obtain ⟨q, hq⟩ : ∃ q, finL bs = q := ⟨_, rfl⟩
  rw [hq] at HF
  have HQ := Lib.hid hq
  clear hq h
  by_cases c1 : se < 0
  · go_enter Tryz.func30, Tryz.ntmps30
    go_wp2_with fail
    go_ret
    exact ⟨by unfold chkE; rw [if_pos (.inl c1)]; rfl, HB.out⟩
  · by_cases c2 : 64 ≤ se
    · go_enter Tryz.func30, Tryz.ntmps30
      go_wp2_with fail
      go_ret
      exact ⟨by unfold chkE; rw [if_pos (.inr (.inl c2))]; rfl, HB.out⟩
    · by_cases c3 : 6 < n
      · have c3' : (6 : Int) < (n : Int) := by omega
        go_enter Tryz.func30, Tryz.ntmps30
        go_wp2_with fail
        go_ret
        exact ⟨by unfold chkE; rw [if_pos (.inr (.inr c3))]; rfl, HB.out⟩
      · have c3' : ¬ (6 : Int) < (n : Int) := by omega
        cases q
        · go_enter Tryz.func30, Tryz.ntmps30
          go_wp2_with fail
          refine HF.out.mono ?_
          rintro e w1 ⟨rfl, hb1⟩
          go_wp2_with fail
          go_ret
          exact ⟨by unfold chkE; rw [if_neg (by omega), HQ.out]; rfl, back_of HB.out hb1⟩
        · go_enter Tryz.func30, Tryz.ntmps30
          go_wp2_with fail
          refine HF.out.mono ?_
          rintro e w1 ⟨rfl, hb1⟩
          go_wp2_with fail
          go_ret
          exact ⟨by unfold chkE; rw [if_neg (by omega), HQ.out]; rfl, back_of HB.out hb1⟩
end Go.Proofs.YtebacmmfjadalaaGreat

namespace Go.Proofs.YtebacmmfjadalaaGreat
open Go Go.RowKit

/-- the bits of a NaN -/
def nanN (f : Nat) : Bool := decide (9218868437227405312 < f % 9223372036854775808)
/-- the bits, of any NaN those of the one -/
def cnN (f : Nat) : Nat := if nanN f = true then 9221120237041090561 else f
/-- the place in the total order -/
def keyN (f : Nat) : Int := if nanN f = true then 9218868437227405313 else if 9223372036854775808 ≤ f then -1 - ((f : Int) - 9223372036854775808) else f

theorem cmp_self (d : Ieee.Datum) : (d.order d == some Ordering.eq) = !d.isNaN := by
  cases d with
  | number s m i => simp [Ieee.Datum.order, Ieee.Datum.isNaN]
  | infinity s => simp [Ieee.Datum.order, Ieee.Datum.isNaN]
  | nan s f => simp [Ieee.Datum.order, Ieee.Datum.isNaN]
theorem read_nan (f : Nat) : (Ieee.double.read f).isNaN = nanN f := by
  have e1 : Ieee.double.signWeight = 9223372036854775808 := by decide
  have e2 : Ieee.double.binade = 4503599627370496 := by decide
  have e3 : Ieee.double.infRung = 9218868437227405312 := by decide
  unfold Ieee.Format.read nanN
  simp only [e1, e2, e3]
  split
  · rename_i h
    simp [Ieee.Datum.isNaN]; omega
  · split
    · rename_i h
      simp [Ieee.Datum.isNaN]; omega
    · split
      · rename_i h
        simp [Ieee.Datum.isNaN]; omega
      · simp [Ieee.Datum.isNaN]; omega
theorem order_self (f : Nat) : (Ieee.double.order f f == some Ordering.eq) = !nanN f := by
  rw [Ieee.Format.order, cmp_self, read_nan]

theorem neq_self (f : Nat) : (FloatKind.f64.format.order f f != some Ordering.eq) = nanN f := by
  have h := order_self f
  show (!(Ieee.double.order f f == some Ordering.eq)) = nanN f
  rw [h, Bool.not_not]
theorem andnot_top {f : Nat} (h : f < 18446744073709551616) : bits .andNot .u64 (f : Int) 9223372036854775808 = ((f % 9223372036854775808 : Nat) : Int) := by
  rw [u64_andNot _ _ (by omega) (by omega) (by omega) (by omega)]
  have e : f % 9223372036854775808 = f &&& (18446744073709551615 - (9223372036854775808 : Int).toNat) := (Nat.and_two_pow_sub_one_eq_mod f 63).symm
  rw [e, Int.toNat_natCast]
theorem nan_eq {f : Nat} (h : f < 18446744073709551616) : nanV (f : Int) = nanN f := by
  unfold nanV nanN
  rw [andnot_top h]
  apply decide_eq_decide.2
  omega
theorem cnN_lt {f : Nat} (h : f < 18446744073709551616) : cnN f < 18446744073709551616 := by unfold cnN; split <;> omega
theorem canon_eq {f : Nat} (h : f < 18446744073709551616) : canonV (f : Int) = (cnN f : Int) := by
  unfold canonV cnN
  rw [nan_eq h]
  split <;> rfl
theorem cnN_nan (f : Nat) : nanN (cnN f) = nanN f := by
  unfold cnN
  split
  · rename_i h
    rw [h]
    decide
  · rfl
theorem and_top {f : Nat} (h : f < 18446744073709551616) : (bits .and .u64 (f : Int) 9223372036854775808 != 0) = decide (9223372036854775808 ≤ f) := by
  rw [u64_and _ _ (by omega) (by omega) (by omega) (by omega), Int.toNat_natCast]
  have e : f &&& (9223372036854775808 : Int).toNat = f / 9223372036854775808 % 2 * 9223372036854775808 := by
    apply Nat.eq_of_testBit_eq
    intro i
    have e2 : (9223372036854775808 : Int).toNat = 2 ^ 63 := by decide
    rw [e2, Nat.testBit_and, Nat.testBit_two_pow, show (9223372036854775808 : Nat) = 2 ^ 63 by decide, Nat.testBit_mul_two_pow]
    by_cases hi : i = 63
    · subst hi
      simp [Nat.testBit_eq_decide_div_mod_eq]
    · have h63 : ¬ 63 = i := fun e => hi e.symm
      simp only [h63, decide_false, Bool.and_false]
      by_cases hl : 63 ≤ i
      · have : (f / 2 ^ 63 % 2).testBit (i - 63) = false := by
          apply Nat.testBit_lt_two_pow
          have := Nat.one_lt_two_pow (n := i - 63) (by omega)
          omega
        simp [this]
      · simp [hl]
  rw [e]
  have h1 : f / 9223372036854775808 % 2 = 0 ∨ f / 9223372036854775808 % 2 = 1 := by omega
  rcases h1 with h1 | h1
  · rw [h1]
    have : ¬ 9223372036854775808 ≤ f := by omega
    simp [this]
  · rw [h1]
    have : 9223372036854775808 ≤ f := by omega
    simp [this]
theorem xor_top {f : Nat} (h : f < 18446744073709551616) (h1 : 9223372036854775808 ≤ f) : bits .xor .u64 (f : Int) 9223372036854775808 = (f : Int) - 9223372036854775808 := by
  rw [u64_xor _ _ (by omega) (by omega) (by omega) (by omega), Int.toNat_natCast]
  have e : f ^^^ (9223372036854775808 : Int).toNat = f - 9223372036854775808 := by
    obtain ⟨g, rfl⟩ : ∃ g, f = g + 9223372036854775808 := ⟨f - 9223372036854775808, by omega⟩
    rw [Nat.add_sub_cancel]
    have e2 : (9223372036854775808 : Int).toNat = 2 ^ 63 := by decide
    apply Nat.eq_of_testBit_eq
    intro i
    rw [e2, Nat.testBit_xor, Nat.testBit_two_pow, show g + 9223372036854775808 = 2 ^ 63 + g by omega]
    by_cases hi : i = 63
    · subst hi
      rw [Nat.testBit_two_pow_add_eq]
      simp
    · have h63 : ¬ 63 = i := fun e => hi e.symm
      simp only [h63, decide_false, Bool.xor_false]
      by_cases hl : 63 ≤ i
      · have h2 : g.testBit i = false := Nat.testBit_lt_two_pow (Nat.lt_of_lt_of_le (by omega : g < 2 ^ 63) (Nat.pow_le_pow_right (by omega) hl))
        rw [h2]
        apply Nat.testBit_lt_two_pow
        have := Nat.pow_le_pow_right (n := 2) (by omega) (by omega : 64 ≤ i)
        omega
      · exact Nat.testBit_two_pow_add_gt (by omega) g
  rw [e]
  omega

/-- what the program's Key reckons -/
def keyP (b : Int) : Int := if nanV b = true then 9218868437227405313 else if (bits .and .u64 b 9223372036854775808 != 0) = true then IntKind.i64.wrap (-1 - IntKind.i64.wrap (bits .xor .u64 b 9223372036854775808)) else IntKind.i64.wrap b
theorem key_eq {f : Nat} (h : f < 18446744073709551616) : keyP (canonV (f : Int)) = keyN f := by
  have hc := cnN_lt h
  rw [canon_eq h]
  unfold keyP keyN
  rw [nan_eq hc, cnN_nan, and_top hc]
  by_cases hn : nanN f = true
  · rw [if_pos hn, if_pos hn]
  · rw [if_neg hn, if_neg hn]
    have e : cnN f = f := by unfold cnN; rw [if_neg hn]
    rw [e]
    by_cases h2 : 9223372036854775808 ≤ f
    · rw [if_pos (by simpa using h2), if_pos h2, xor_top h h2]
      rw [IntWalk.i64_in ((f : Int) - 9223372036854775808) (by omega), IntWalk.i64_in _ (by omega)]
    · rw [if_neg (by simpa using h2), if_neg h2, IntWalk.i64_in _ (by omega)]
theorem key_inj {f g : Nat} (hf : f < 18446744073709551616) (hg : g < 18446744073709551616) (e : keyN f = keyN g) : cnN f = cnN g := by
  unfold keyN nanN at e
  unfold cnN nanN
  simp only [decide_eq_true_eq] at e ⊢
  split at e <;> split at e <;> (try split at e) <;> (try split at e) <;> (try split) <;> (try split) <;> omega
theorem key_cn {f g : Nat} (e : cnN f = cnN g) : keyN f = keyN g := by
  unfold cnN nanN at e
  unfold keyN nanN
  simp only [decide_eq_true_eq] at e ⊢
  split at e <;> split at e <;> (try split) <;> (try split) <;> (try split) <;> (try split) <;> omega
end Go.Proofs.YtebacmmfjadalaaGreat

namespace Go.Proofs.YtebacmmfjadalaaGreat
open Go Go.RowKit Go.WideShapes

theorem own_fl {w : World} {B n : Nat} {v : Value} {bs : List Nat} (h : w.ownsRow B 114 1 v n (bs.map fun b => .float .f64 b)) (hn : bs.length = n) : ∃ A c, v = .slice A n c ∧ FlAt w A n bs ∧ (A = none ∨ ∃ b, A = some ⟨b, 0, none⟩ ∧ B ≤ b ∧ b < w.heap.size) := by
  have h0 := h
  rcases h.2 with ⟨h1, h2⟩ | ⟨g, cap, cur, h1, h2, h3, -⟩
  · subst h2
    exact ⟨none, 0, h1, ⟨hn, .inl ⟨rfl, rfl⟩⟩, .inl rfl⟩
  · subst h1
    have hg := (Array.getElem?_eq_some_iff.1 h3).1
    refine ⟨_, cap, rfl, ⟨hn, .inr ⟨g, 0, rfl, hg, fun i hi => ?_⟩⟩, .inr ⟨g, rfl, h2, hg⟩⟩
    have := h0.cellAt i (by simp; omega)
    rw [Nat.zero_add, this]
    rw [List.getElem?_map, List.getD_eq_getElem?_getD, List.getElem?_eq_getElem (by omega)]
    rfl

set_option maxRecDepth 8000 in
set_option maxHeartbeats 2000000 in
theorem of64_fl (A : Option Addr) (n c : Nat) (ts : List Int) (w : World) (hn : ts.length = n) (hc : ∀ i, i < n → ∃ b off, A = some ⟨b, off, none⟩ ∧ b < w.heap.size ∧ w.cell? ⟨b, off + i, none⟩ = some (.int .u64 (ts.getD i 0))) (hl : n * 8 ≤ 140737488355328) :
    Calls Tryz.prog 24 #[.slice A n c] w fun e w' => (∃ v, e = .returned v ∧ w'.ownsRow w.heap.size 114 1 v n ((ts.map Int.toNat).map fun b => .float .f64 b)) ∧ Below w.heap.size w w' := by
  have HC := Lib.hid hc
  have HN := Lib.hid hn
  clear hc hn
  go_enter Tryz.func24, Tryz.ntmps24
  go_wp2_with fail
  go_loopw [3, 8] (fun ov iv wr => ∃ (k : Nat), k ≤ n ∧ iv = .int .i64 (k : Int) ∧ Hid (wr.ownsRow w.heap.size 114 1 ov k (((ts.take k).map Int.toNat).map fun b => .float .f64 b) ∧ Below w.heap.size w wr)) (fun _ iv _ => n - (intOf iv).toNat)
  case atStart => exact ⟨0, by omega, rfl, Lib.hid ⟨World.ownsRow_nil _ _ _ _, Below.refl _ _⟩⟩
  case round =>
    obtain ⟨k, hk, rfl, hh⟩ := hrel
    by_cases hlt : k < n
    · obtain ⟨b, off, rfl, hb, hcell⟩ := HC.out k hlt
      obtain ⟨y, hy⟩ : ∃ y, ts.getD k 0 = y := ⟨_, rfl⟩
      rw [hy] at hcell
      have HY := Lib.hid hy
      have hcr := (hh.out.2.cell (p := ⟨b, off + k, none⟩) hb).trans hcell
      have hki : (k : Int) < (n : Int) := by omega
      clear hcell hy
      have hfb := run_frombits y
      obtain ⟨i0, hi0, hz0, hz1, hz2⟩ := info_parts infoF
      have HBX := Lib.hid ((Below.refl wr.heap.size wr).alloc (Nat.le_refl _) (.cells #[.float .f64 y.toNat] 114))
      have HRX := Lib.hid (ownsRow_below hh.out.1 HBX.out)
      have hwr := hh.out.2.size
      go_wp2_with (at_builtin; refine wpList_append_own _ rfl _ _ 36 rfl w.heap.size 114 i0 _ 1 8 Tryz.underlying36 hi0 hz0 hz1 hz2 rfl (by omega) u3 k _ rfl HRX.out ⟨wr.heap.size, 0, none⟩ 1 1 [.float .f64 y.toNat] rfl rfl (float_new _ _ _) (by simp [Value.oneCell']) (by simp only [maxLen]; omega) (by omega) (Nat.le_trans hwr HBX.out.size) ?_; intro v' w3 hr3 hg3 ha3; have HR3 := Lib.hid (And.intro hr3 hg3); clear hr3 hg3 ha3)
      go_roundw
      case rel =>
        refine ⟨k + 1, by omega, by go_num, Lib.hid ⟨?_, (hh.out.2.trans (HBX.out.mono hwr)).grown HR3.out.2 (Nat.le_trans hwr HBX.out.size) (ownsRow_base hh.out.1)⟩⟩
        have h1 := HR3.out.1
        have e1 : ts.take (k + 1) = ts.take k ++ [y] := by
          have hkl : k < ts.length := by have := HN.out; omega
          have hy := HY.out
          rw [List.getD_eq_getElem?_getD, List.getElem?_eq_getElem hkl] at hy
          rw [List.take_add_one, List.getElem?_eq_getElem hkl]
          have hy' : ts[k] = y := hy
          rw [hy']
          rfl
        rw [e1, List.map_append, List.map_append]
        exact h1
      case measure => simp [intOf]; omega
    · have hkn : k = n := by omega
      subst hkn
      have hsl : ∃ A' c', u3 = .slice A' k c' := by
        rcases hh.out.1.2 with ⟨h1, h2⟩ | ⟨g, cap, cur, h1, -⟩
        · exact ⟨none, 0, by rw [h1, h2]⟩
        · exact ⟨_, _, h1⟩
      obtain ⟨A', c', rfl⟩ := hsl
      go_wp2_with fail
      go_ret
      have h1 := hh.out.1
      rw [List.take_of_length_le (by have := HN.out; omega)] at h1
      exact ⟨⟨_, rfl, h1⟩, hh.out.2⟩
theorem FlAt.set {w : World} {A : Option Addr} {n : Nat} {bs : List Nat} (h : FlAt w A n bs) {p : Addr} (hp : ∀ b off, A = some ⟨b, off, none⟩ → p.block ≠ b) (u : Value) : FlAt (w.setCell p u) A n bs := by
  refine ⟨h.1, ?_⟩
  rcases h.2 with h2 | ⟨b, off, h1, h2, h3⟩
  · exact .inl h2
  · exact .inr ⟨b, off, h1, by simpa [World.setCell] using h2, fun i hi => (World.cell?_setCell_other _ _ _ _ (by
      intro e
      subst e
      exact hp b off h1 rfl)).trans (h3 i hi)⟩
theorem FlAt.four {w : World} {A : Option Addr} {n g : Nat} {bs : List Nat} (h : FlAt w A n bs) (hA : A = none ∨ ∃ b, A = some ⟨b, 0, none⟩ ∧ g < b ∧ b < w.heap.size) (i j k l : Nat) (x y z u : Value) :
    FlAt ((((w.setCell ⟨g, i, none⟩ x).setCell ⟨g, j, none⟩ y).setCell ⟨g, k, none⟩ z).setCell ⟨g, l, none⟩ u) A n bs := by
  have hp : ∀ m b off, A = some ⟨b, off, none⟩ → (⟨g, m, none⟩ : Addr).block ≠ b := by
    intro m b off e
    rcases hA with h1 | ⟨b', h1, h2, -⟩
    · rw [h1] at e; cases e
    · rw [h1] at e
      injection e with e
      injection e with e
      subst e
      exact Nat.ne_of_lt h2
  exact (((h.set (hp i) x).set (hp j) y).set (hp k) z).set (hp l) u

set_option maxRecDepth 8000 in
set_option maxHeartbeats 2000000 in
theorem of_fl (se sq st : Int) (A : Option Addr) (n c : Nat) (ts : List Int) (w : World) (hn : ts.length = n) (hc : ∀ i, i < n → ∃ b off, A = some ⟨b, off, none⟩ ∧ b < w.heap.size ∧ w.cell? ⟨b, off + i, none⟩ = some (.int .u64 (ts.getD i 0))) (hl : n * 8 ≤ 140737488355328) :
    Calls Tryz.prog 9 #[.agg #[.int .i64 se, .int .u32 sq, .int .u32 st, .slice A n c]] w fun e w' => (∃ B k, e = .returned (.agg #[.int .i64 se, .int .u32 sq, .int .u32 st, .slice B n k]) ∧ FlAt w' B n (ts.map Int.toNat) ∧ (B = none ∨ ∃ b, B = some ⟨b, 0, none⟩ ∧ w.heap.size ≤ b ∧ b < w'.heap.size)) ∧ Below w.heap.size w w' := by
  have hb := ((Below.refl w.heap.size w).alloc (Nat.le_refl _) (.cells #[.int .i64 se, .int .u32 sq, .int .u32 st, .slice A n c] 35)).alloc (by simp) (.cells #[.int .i64 0, .int .u32 0, .int .u32 0, .slice none 0 0] 38)
  have HO := Lib.hid (fun W (hW : Below w.heap.size w W) => of64_fl A n c ts W hn (fun i hi => by
    obtain ⟨b, off, h1, h2, h3⟩ := hc i hi
    exact ⟨b, off, h1, Nat.lt_of_lt_of_le h2 hW.size, (hW.cell (p := ⟨b, off + i, none⟩) h2).trans h3⟩) hl)
  have HB := Lib.hid hb
  have HTS := Lib.hid hn
  clear hb hc hn
  go_enter Tryz.func9, Tryz.ntmps9
  go_wp2_with fail
  have HC := Lib.hid (show ((w.alloc (.cells #[.int .i64 se, .int .u32 sq, .int .u32 st, .slice A n c] 35)).alloc (.cells #[.int .i64 0, .int .u32 0, .int .u32 0, .slice none 0 0] 38)).drew.cell? ⟨w.heap.size, 0, none⟩ = some (.int .i64 se) ∧ ((w.alloc (.cells #[.int .i64 se, .int .u32 sq, .int .u32 st, .slice A n c] 35)).alloc (.cells #[.int .i64 0, .int .u32 0, .int .u32 0, .slice none 0 0] 38)).drew.cell? ⟨w.heap.size, 1, none⟩ = some (.int .u32 sq) ∧ ((w.alloc (.cells #[.int .i64 se, .int .u32 sq, .int .u32 st, .slice A n c] 35)).alloc (.cells #[.int .i64 0, .int .u32 0, .int .u32 0, .slice none 0 0] 38)).drew.cell? ⟨w.heap.size, 2, none⟩ = some (.int .u32 st) ∧ ((w.alloc (.cells #[.int .i64 se, .int .u32 sq, .int .u32 st, .slice A n c] 35)).alloc (.cells #[.int .i64 0, .int .u32 0, .int .u32 0, .slice none 0 0] 38)).drew.cell? ⟨w.heap.size, 3, none⟩ = some (.slice A n c) from by simp [go_sem])
  have hz : ∀ i, ((w.alloc (.cells #[.int .i64 se, .int .u32 sq, .int .u32 st, .slice A n c] 35)).alloc (.cells #[.int .i64 0, .int .u32 0, .int .u32 0, .slice none 0 0] 38)).frozen? ⟨w.heap.size + 1, i, none⟩ = false := fun i => by simp [go_sem]
  have hr : ((w.alloc (.cells #[.int .i64 se, .int .u32 sq, .int .u32 st, .slice A n c] 35)).alloc (.cells #[.int .i64 0, .int .u32 0, .int .u32 0, .slice none 0 0] 38)).cell? ⟨w.heap.size + 1, 0, none⟩ = some (.int .i64 0) ∧ ((w.alloc (.cells #[.int .i64 se, .int .u32 sq, .int .u32 st, .slice A n c] 35)).alloc (.cells #[.int .i64 0, .int .u32 0, .int .u32 0, .slice none 0 0] 38)).cell? ⟨w.heap.size + 1, 1, none⟩ = some (.int .u32 0) ∧ ((w.alloc (.cells #[.int .i64 se, .int .u32 sq, .int .u32 st, .slice A n c] 35)).alloc (.cells #[.int .i64 0, .int .u32 0, .int .u32 0, .slice none 0 0] 38)).cell? ⟨w.heap.size + 1, 2, none⟩ = some (.int .u32 0) ∧ ((w.alloc (.cells #[.int .i64 se, .int .u32 sq, .int .u32 st, .slice A n c] 35)).alloc (.cells #[.int .i64 0, .int .u32 0, .int .u32 0, .slice none 0 0] 38)).cell? ⟨w.heap.size + 1, 3, none⟩ = some (.slice none 0 0) := by simp [go_sem]
  have hsz : w.heap.size + 1 < ((w.alloc (.cells #[.int .i64 se, .int .u32 sq, .int .u32 st, .slice A n c] 35)).alloc (.cells #[.int .i64 0, .int .u32 0, .int .u32 0, .slice none 0 0] 38)).heap.size := by simp
  generalize (w.alloc (.cells #[.int .i64 se, .int .u32 sq, .int .u32 st, .slice A n c] 35)).alloc (.cells #[.int .i64 0, .int .u32 0, .int .u32 0, .slice none 0 0] 38) = W0 at *
  have HR := Lib.hid (And.intro hz (And.intro hr hsz))
  clear hz hr hsz
  go_region_held3 (fun w' => w'.cell? ⟨w.heap.size, 0, none⟩ = some (.int .i64 se) ∧ w'.cell? ⟨w.heap.size, 1, none⟩ = some (.int .u32 sq) ∧ w'.cell? ⟨w.heap.size, 2, none⟩ = some (.int .u32 st) ∧ w'.cell? ⟨w.heap.size, 3, none⟩ = some (.slice A n c))
    (first | exact HC.out | exact ⟨(hk 0).trans HC.out.1, (hk 1).trans HC.out.2.1, (hk 2).trans HC.out.2.2.1, (hk 3).trans HC.out.2.2.2⟩ | exact ⟨(hks 0).trans HC.out.1, (hks 1).trans HC.out.2.1, (hks 2).trans HC.out.2.2.1, (hks 3).trans HC.out.2.2.2⟩)
    (first | (go_at_call 24; refine (HO.out _ HB.out.drew).mono ?_; rintro e w1 ⟨⟨v1, rfl, hv1⟩, hb1⟩; obtain ⟨B, k, rfl, hf1, hn1⟩ := own_fl hv1 (by rw [List.length_map]; exact HTS.out); have HFL := Lib.hid (And.intro hf1 hn1); clear hv1 hf1 hn1; have hk : ∀ i, w1.cell? ⟨w.heap.size, i, none⟩ = W0.drew.cell? ⟨w.heap.size, i, none⟩ := (fun i => hb1.cell (p := ⟨w.heap.size, i, none⟩) (Nat.lt_of_succ_lt HR.out.2.2)); have y0 := (hb1.cell (p := ⟨w.heap.size + 1, 0, none⟩) HR.out.2.2).trans HR.out.2.1.1; have y1 := (hb1.cell (p := ⟨w.heap.size + 1, 1, none⟩) HR.out.2.2).trans HR.out.2.1.2.1; have y2 := (hb1.cell (p := ⟨w.heap.size + 1, 2, none⟩) HR.out.2.2).trans HR.out.2.1.2.2.1; have y3 := (hb1.cell (p := ⟨w.heap.size + 1, 3, none⟩) HR.out.2.2).trans HR.out.2.1.2.2.2; have yz := (fun i => (hb1.frozen (p := ⟨w.heap.size + 1, i, none⟩) HR.out.2.2).trans (HR.out.1 i)); have hks := four_kept (w := w1) (b := w.heap.size) (v0 := .int .i64 se) (v1 := .int .u32 sq) (v2 := .int .u32 st) (v3 := .slice B n k); have hks := (fun i => (hks i).trans (hk i))))
  have hB1 : Below w.heap.size w w1 := HB.out.drew.trans (hb1.mono HB.out.size)
  have HE := Lib.hid ((((hB1.setCell (p := ⟨w.heap.size + 1, 0, none⟩) (Nat.le_succ _) (.int .i64 se)).setCell (p := ⟨w.heap.size + 1, 1, none⟩) (Nat.le_succ _) (.int .u32 sq)).setCell (p := ⟨w.heap.size + 1, 2, none⟩) (Nat.le_succ _) (.int .u32 st)).setCell (p := ⟨w.heap.size + 1, 3, none⟩) (Nat.le_succ _) (.slice B n k))
  have hA := HFL.out.2
  have hs1 : w.heap.size + 1 < W0.drew.heap.size := HR.out.2.2
  have HA := Lib.hid (show FlAt ((((w1.setCell ⟨w.heap.size + 1, 0, none⟩ (.int .i64 se)).setCell ⟨w.heap.size + 1, 1, none⟩ (.int .u32 sq)).setCell ⟨w.heap.size + 1, 2, none⟩ (.int .u32 st)).setCell ⟨w.heap.size + 1, 3, none⟩ (.slice B n k)) B n (ts.map Int.toNat) from HFL.out.1.four (by
    rcases hA with h1 | ⟨b, h1, h2, h3⟩
    · exact .inl h1
    · exact .inr ⟨b, h1, by omega, h3⟩) 0 1 2 3 _ _ _ _)
  have HN := Lib.hid (show B = none ∨ ∃ b, B = some ⟨b, 0, none⟩ ∧ w.heap.size ≤ b ∧ b < w1.heap.size by
    rcases hA with h1 | ⟨b, h1, h2, h3⟩
    · exact .inl h1
    · exact .inr ⟨b, h1, by omega, h3⟩)
  clear hA hs1 HFL HTS
  clear hk hks yz hb1 hB1 HR HC HB HO
  go_wp2_with fail
  exact bodyPost_ret (by simp only [results, Tryz.results9]; simp [go_sem, y0, y1, y2, y3]; try rfl) rfl ⟨⟨B, k, rfl, HA.out, by simpa [World.setCell] using HN.out⟩, HE.out⟩
end Go.Proofs.YtebacmmfjadalaaGreat

namespace Go.Proofs.YtebacmmfjadalaaGreat
open Go Go.RowKit Go.WideShapes

/-- nil, or in a block from B on -/
def NewAt (w : World) (B : Nat) (A : Option Addr) : Prop := A = none ∨ ∃ b, A = some ⟨b, 0, none⟩ ∧ B ≤ b ∧ b < w.heap.size
theorem NewAt.setN {w : World} {A : Option Addr} {n B : Nat} {bs : List Nat} (h : FlAt w A n bs ∧ NewAt w B A) {p : Addr} (hp : p.block < B) (u : Value) : FlAt (w.setCell p u) A n bs ∧ NewAt (w.setCell p u) B A := by
  refine ⟨h.1.set (fun b off e => ?_) u, h.2.imp id (fun ⟨b, h1, h2, h3⟩ => ⟨b, h1, h2, by simpa [World.setCell] using h3⟩)⟩
  rcases h.2 with h1 | ⟨b', h1, h2, -⟩
  · rw [h1] at e; cases e
  · rw [h1] at e
    injection e with e
    injection e with e
    subst e
    omega
theorem NewAt.mono {w : World} {B B' : Nat} {A : Option Addr} (h : NewAt w B A) (hb : B' ≤ B) : NewAt w B' A := h.imp id (fun ⟨b, h1, h2, h3⟩ => ⟨b, h1, Nat.le_trans hb h2, h3⟩)
theorem size_alloc2 (w : World) (o o' : Obj) : ((w.alloc o).alloc o').heap.size = w.heap.size + 2 := by simp
theorem sizeF (w : World) : (Go.sizeOf 114).run Tryz.prog w = .ok 1 w := by kernel_rfl
theorem clone_fl (A : Option Addr) (n c : Nat) (bs : List Nat) (w : World) (h : FlAt w A n bs) (hl : n * 8 ≤ 140737488355328) :
    Calls Tryz.prog 59 #[.slice A n c] w fun e w' => ∃ B k, e = .returned (.slice B n k) ∧ FlAt w' B n bs ∧ NewAt w' w.heap.size B ∧ Below w.heap.size w w' := by
  rcases h.2 with ⟨rfl, rfl⟩ | ⟨b, off, rfl, h2, h3⟩
  · refine (Tryz.slices_Clone_nil 0 c w).mono ?_
    rintro e w1 ⟨rfl, rfl⟩
    exact ⟨none, 0, rfl, ⟨h.1, .inl ⟨rfl, rfl⟩⟩, .inl rfl, Below.refl _ _⟩
  · obtain ⟨i0, hi0, hz0, hz1, hz2⟩ := info_parts infoF
    refine (Tryz.slices_Clone i0 _ 1 8 hi0 hz0 hz1 hz2 rfl (by omega) sizeF b off n c (bs.map fun b => .float .f64 b) w (by rw [List.length_map, h.1, Nat.mul_one]) (by simp only [maxLen]; omega) hl (fun j u hj => ?_) (fun u hu => ?_)).mono ?_
    · have hj' := (List.getElem?_eq_some_iff.1 hj).1
      rw [List.length_map, h.1] at hj'
      rw [h3 j hj', ← hj, List.getElem?_map, List.getD_eq_getElem?_getD, List.getElem?_eq_getElem (by rw [h.1]; exact hj')]
      rfl
    · obtain ⟨y, -, rfl⟩ := List.mem_map.1 hu
      rfl
    · rintro e w1 ⟨v', rfl, hv, -, hb⟩
      obtain ⟨B, k, rfl, hf, hn⟩ := own_fl hv h.1
      exact ⟨B, k, rfl, hf, hn, hb⟩

set_option maxRecDepth 8000 in
set_option maxHeartbeats 2000000 in
theorem copied_any (at_ se sq st : Int) (A : Option Addr) (n c : Nat) (bs : List Nat) (w : World) (h : FlAt w A n bs) (hl : n * 8 ≤ 140737488355328) :
    Calls Tryz.prog 36 #[.agg #[.int .i64 at_, .int .i64 se, .int .u32 sq, .int .u32 st, .slice A n c]] w fun e w' => ∃ B k, e = .returned (.agg #[.int .i64 at_, .int .i64 se, .int .u32 sq, .int .u32 st, .slice B n k]) ∧ FlAt w' B n bs ∧ NewAt w' w.heap.size B ∧ Below w.heap.size w w' := by
  have hb := ((Below.refl w.heap.size w).alloc (Nat.le_refl _) (.cells #[.int .i64 at_, .int .i64 se, .int .u32 sq, .int .u32 st, .slice A n c] 63)).alloc (by simp) (.cells #[.int .i64 0, .int .i64 0, .int .u32 0, .int .u32 0, .slice none 0 0] 63)
  have HO := Lib.hid (fun W (hW : Below w.heap.size w W) => clone_fl A n c bs W (h.below hW) hl)
  have HB := Lib.hid hb
  clear hb h
  go_enter Tryz.func36, Tryz.ntmps36
  go_wp2_with fail
  refine (HO.out _ HB.out).mono ?_
  rintro e w1 ⟨B, k, rfl, hf, hn, hb1⟩
  have y := fun i (hi : w.heap.size + i < w.heap.size + 2) j => (hb1.cell (p := ⟨w.heap.size + i, j, none⟩) (by simp; omega))
  have yz := fun i (hi : w.heap.size + i < w.heap.size + 2) j => (hb1.frozen (p := ⟨w.heap.size + i, j, none⟩) (by simp; omega))
  have a0 := (y 0 (by omega) 0).trans (by simp [go_sem] : _ = some (.int .i64 at_))
  have a1 := (y 0 (by omega) 1).trans (by simp [go_sem] : _ = some (.int .i64 se))
  have a2 := (y 0 (by omega) 2).trans (by simp [go_sem] : _ = some (.int .u32 sq))
  have a3 := (y 0 (by omega) 3).trans (by simp [go_sem] : _ = some (.int .u32 st))
  have a4 := (y 0 (by omega) 4).trans (by simp [go_sem] : _ = some (.slice A n c))
  have b0 := (y 1 (by omega) 0).trans (by simp [go_sem] : _ = some (.int .i64 0))
  have b1 := (y 1 (by omega) 1).trans (by simp [go_sem] : _ = some (.int .i64 0))
  have b2 := (y 1 (by omega) 2).trans (by simp [go_sem] : _ = some (.int .u32 0))
  have b3 := (y 1 (by omega) 3).trans (by simp [go_sem] : _ = some (.int .u32 0))
  have b4 := (y 1 (by omega) 4).trans (by simp [go_sem] : _ = some (.slice none 0 0))
  have za := fun j => (yz 0 (by omega) j).trans (by simp [go_sem] : _ = false)
  have zb := fun j => (yz 1 (by omega) j).trans (by simp [go_sem] : _ = false)
  rw [Nat.add_zero] at a0 a1 a2 a3 a4 za
  have HB1 := Lib.hid (HB.out.trans (hb1.mono HB.out.size))
  have hsz := HB1.out.size
  have hs2 : w.heap.size + 2 ≤ w1.heap.size := by have := hb1.size; simp at this; omega
  have HF := Lib.hid (And.intro hf hn)
  clear y yz hb1 hf hn HO HB
  go_wp2_with fail
  have H0 := HF.out
  rw [size_alloc2] at H0
  have H6 := NewAt.setN (NewAt.setN (NewAt.setN (NewAt.setN (NewAt.setN (NewAt.setN H0 (p := ⟨w.heap.size, 4, none⟩) (by show w.heap.size < _; omega) (.slice B n k)) (p := ⟨w.heap.size + 1, 0, none⟩) (by show w.heap.size + 1 < _; omega) (.int .i64 at_)) (p := ⟨w.heap.size + 1, 1, none⟩) (by show w.heap.size + 1 < _; omega) (.int .i64 se)) (p := ⟨w.heap.size + 1, 2, none⟩) (by show w.heap.size + 1 < _; omega) (.int .u32 sq)) (p := ⟨w.heap.size + 1, 3, none⟩) (by show w.heap.size + 1 < _; omega) (.int .u32 st)) (p := ⟨w.heap.size + 1, 4, none⟩) (by show w.heap.size + 1 < _; omega) (.slice B n k)
  have HB6 := Lib.hid ((((((HB1.out.setCell (p := ⟨w.heap.size, 4, none⟩) (Nat.le_refl _) (.slice B n k)).setCell (p := ⟨w.heap.size + 1, 0, none⟩) (Nat.le_succ _) (.int .i64 at_)).setCell (p := ⟨w.heap.size + 1, 1, none⟩) (Nat.le_succ _) (.int .i64 se)).setCell (p := ⟨w.heap.size + 1, 2, none⟩) (Nat.le_succ _) (.int .u32 sq)).setCell (p := ⟨w.heap.size + 1, 3, none⟩) (Nat.le_succ _) (.int .u32 st)).setCell (p := ⟨w.heap.size + 1, 4, none⟩) (Nat.le_succ _) (.slice B n k))
  have HA := Lib.hid (And.intro H6.1 (H6.2.mono (B' := w.heap.size) (by omega)))
  clear H0 H6 HF HB1 za zb
  exact bodyPost_ret (by simp only [results, Tryz.results36]; simp [go_sem, b0, b1, b2, b3, b4]; try rfl) rfl ⟨B, k, rfl, HA.out.1, HA.out.2, HB6.out⟩
end Go.Proofs.YtebacmmfjadalaaGreat

namespace Go.Proofs.YtebacmmfjadalaaGreat
open Go Go.RowKit

theorem int_ret {a b : Int} (h : a = b) : Ending.returned (.int .i64 a) = .returned (.int .i64 b) := by rw [h]
theorem top_any (w : World) : Calls Tryz.prog 124 #[] w fun e w' => e = .returned (.int .i64 9218868437227405312) ∧ Below w.heap.size w w' := by
  go_enter Tryz.func124, Tryz.ntmps124
  go_wp2_with fail
  refine (of_dbl w).mono ?_
  rintro e w1 ⟨rfl, hb1⟩
  go_wp2_with fail
  refine (infinite_dbl w1).mono ?_
  rintro e w2 ⟨rfl, hb2⟩
  go_wp2_with fail
  go_ret
  exact ⟨rfl, back_of hb1 hb2⟩
theorem bits_any (f : Nat) (w : World) : Calls Tryz.prog 96 #[.float .f64 f] w fun e w' => e = .returned (.int .u64 (cnN f)) ∧ w = w' := by
  have hrb := run_bits f
  have hn := neq_self f
  unfold cnN
  cases hq : nanN f
  · rw [hq] at hn
    go_enter Tryz.func96, Tryz.ntmps96
    go_wp2_with fail
    go_ret
    exact ⟨rfl, rfl⟩
  · rw [hq] at hn
    go_enter Tryz.func96, Tryz.ntmps96
    go_wp2_with fail
    go_ret
    exact ⟨rfl, rfl⟩
theorem same_any (f g : Nat) (w : World) : Calls Tryz.prog 79 #[.float .f64 f, .float .f64 g] w fun e w' => e = .returned (.bool (decide (cnN f = cnN g))) ∧ w = w' := by
  have h1 := Lib.hid (bits_any f)
  have h2 := Lib.hid (bits_any g)
  obtain ⟨a, ha⟩ : ∃ a, cnN f = a := ⟨_, rfl⟩
  obtain ⟨b, hb⟩ : ∃ b, cnN g = b := ⟨_, rfl⟩
  rw [ha] at h1 ⊢
  rw [hb] at h2 ⊢
  clear ha hb
  have hd : ((a : Int) == (b : Int)) = decide (a = b) := by
    by_cases e : a = b
    · subst e; simp
    · have : ¬ (a : Int) = b := by omega
      simp [e, this]
  go_enter Tryz.func79, Tryz.ntmps79
  go_wp2_with fail
  refine (h1.out w).mono ?_
  rintro e w1 ⟨rfl, rfl⟩
  go_wp2_with fail
  refine (h2.out w).mono ?_
  rintro e w1 ⟨rfl, rfl⟩
  go_wp2_with fail
  go_ret
  exact ⟨rfl, rfl⟩
set_option maxHeartbeats 1000000 in
theorem rkey_any (f : Nat) (w : World) (hf : f < 18446744073709551616) : Calls Tryz.prog 93 #[.float .f64 f] w fun e w' => e = .returned (.int .i64 (keyN f)) ∧ w = w' := by
  have h1 := Lib.hid (bits_any f)
  have hn := neq_self f
  unfold keyN
  unfold cnN at h1
  cases hq : nanN f
  · rw [hq, if_neg (by simp)] at h1
    rw [hq] at hn
    rw [if_neg (by simp)]
    by_cases c : 9223372036854775808 ≤ f
    · rw [if_pos c]
      have e1 : ((f : Int) / 9223372036854775808 == 1) = true := by simp; omega
      go_enter Tryz.func93, Tryz.ntmps93
      go_wp2_with fail
      refine (h1.out w).mono ?_
      rintro e w1 ⟨rfl, rfl⟩
      go_wp2_with fail
      go_ret
      exact ⟨int_ret (by omega), rfl⟩
    · rw [if_neg c]
      have e1 : ((f : Int) / 9223372036854775808 == 1) = false := by simp; omega
      go_enter Tryz.func93, Tryz.ntmps93
      go_wp2_with fail
      refine (h1.out w).mono ?_
      rintro e w1 ⟨rfl, rfl⟩
      go_wp2_with fail
      go_ret
      exact ⟨rfl, rfl⟩
  · rw [hq, if_pos rfl] at h1
    rw [hq] at hn
    rw [if_pos rfl]
    go_enter Tryz.func93, Tryz.ntmps93
    go_wp2_with fail
    refine (h1.out w).mono ?_
    rintro e w1 ⟨rfl, rfl⟩
    go_wp2_with fail
    go_ret
    exact ⟨rfl, rfl⟩
theorem keyN_bd {f : Nat} (h : f < 18446744073709551616) : -9223372036854775808 ≤ keyN f ∧ keyN f ≤ 9223372036854775807 := by
  unfold keyN
  split
  · omega
  · split <;> omega
theorem rcmp_any (f g : Nat) (w : World) (hf : f < 18446744073709551616) (hg : g < 18446744073709551616) : Calls Tryz.prog 77 #[.float .f64 f, .float .f64 g] w fun e w' => e = .returned (.int .i64 (cmpO (keyN f) (keyN g))) ∧ w = w' := by
  have h1 := Lib.hid (fun W => rkey_any f W hf)
  have h2 := Lib.hid (fun W => rkey_any g W hg)
  obtain ⟨a, ha⟩ : ∃ a, keyN f = a := ⟨_, rfl⟩
  obtain ⟨b, hb⟩ : ∃ b, keyN g = b := ⟨_, rfl⟩
  rw [ha] at h1 ⊢
  rw [hb] at h2 ⊢
  clear ha hb
  unfold cmpO
  by_cases c1 : a < b
  · rw [if_pos c1]
    go_enter Tryz.func77, Tryz.ntmps77
    go_wp2_with fail
    refine (h1.out w).mono ?_
    rintro e w1 ⟨rfl, rfl⟩
    go_wp2_with fail
    refine (h2.out w).mono ?_
    rintro e w1 ⟨rfl, rfl⟩
    go_wp2_with fail
    go_ret
    exact ⟨rfl, rfl⟩
  · rw [if_neg c1]
    by_cases c2 : b < a
    · rw [if_pos c2]
      go_enter Tryz.func77, Tryz.ntmps77
      go_wp2_with fail
      refine (h1.out w).mono ?_
      rintro e w1 ⟨rfl, rfl⟩
      go_wp2_with fail
      refine (h2.out w).mono ?_
      rintro e w1 ⟨rfl, rfl⟩
      go_wp2_with fail
      go_ret
      exact ⟨rfl, rfl⟩
    · rw [if_neg c2]
      go_enter Tryz.func77, Tryz.ntmps77
      go_wp2_with fail
      refine (h1.out w).mono ?_
      rintro e w1 ⟨rfl, rfl⟩
      go_wp2_with fail
      refine (h2.out w).mono ?_
      rintro e w1 ⟨rfl, rfl⟩
      go_wp2_with fail
      go_ret
      exact ⟨rfl, rfl⟩

set_option maxRecDepth 100000 in
set_option maxHeartbeats 2000000 in
theorem pkey_any (f : Nat) (w : World) (hf : f < 18446744073709551616) : Calls Tryz.prog 116 #[.float .f64 f] w fun e w' => e = .returned (.int .i64 (keyN f)) ∧ Below w.heap.size w w' := by
  have hrb := run_bits f
  rw [← key_eq hf]
  unfold keyP
  have HN := Lib.hid (fun W => canon_dbl f W)
  obtain ⟨b, hb⟩ : ∃ b, canonV (f : Int) = b := ⟨_, rfl⟩
  have hb1 : 0 ≤ b ∧ b < 18446744073709551616 := by
    rw [← hb, canon_eq hf]
    have := cnN_lt hf
    omega
  rw [hb] at HN ⊢
  clear hb
  have HM := Lib.hid (fun W => nan_dbl b W)
  obtain ⟨q, hq⟩ : ∃ q, nanV b = q := ⟨_, rfl⟩
  rw [hq] at HM ⊢
  clear hq
  obtain ⟨r, hr⟩ : ∃ r, (bits .and .u64 b 9223372036854775808 != 0) = r := ⟨_, rfl⟩
  rw [hr]
  go_enter Tryz.func116, Tryz.ntmps116
  go_wp2_with fail
  refine (of_dbl w).mono ?_
  rintro e w1 ⟨rfl, hw1⟩
  have HF := Lib.hid (fmt_at w1 164)
  have HB := Lib.hid (back_of hw1 (fmt_below w1 164))
  clear hw1
  go_wp2_with fail
  generalize hW : w1.alloc (.cells #[.int .u64 52, .int .i64 2047, .int .i64 1075] 164) = W0 at *
  clear hW
  generalize w1.heap.size = fg at *
  have hc : Below W0.heap.size W0 W0.drew := (Below.refl _ _).drew
  go_region_held3 (fun w' => w'.cell? ⟨fg, 0, none⟩ = some (.int .u64 52) ∧ w'.cell? ⟨fg, 1, none⟩ = some (.int .i64 2047) ∧ w'.cell? ⟨fg, 2, none⟩ = some (.int .i64 1075))
    (first | exact HF.out.2 | exact (HF.out.below hc).2)
    (first | (go_at_call 118; refine (HN.out _).mono ?_; rintro e w1 ⟨rfl, hb1⟩; replace hc := back_of hc hb1; clear hb1))
  have HF2 := Lib.hid (HF.out.below hc)
  have HB2 := Lib.hid (back_of HB.out hc)
  clear hc HN HF HB
  obtain ⟨hg, f0, f1, f2⟩ := HF2.out
  generalize w1 = W1 at *
  go_wp2_with fail
  refine (HM.out _).mono ?_
  rintro e w2 ⟨rfl, hb2⟩
  have HF3 := Lib.hid (HF2.out.below hb2)
  have HB3 := Lib.hid (back_of HB2.out hb2)
  clear hb2 HF2 HB2 HM f0 f1 f2 hg
  obtain ⟨hg, f0, f1, f2⟩ := HF3.out
  cases q
  · go_wp2_with fail
    refine (sign_dbl w2).mono ?_
    rintro e w3 ⟨rfl, hb3⟩
    have HF4 := Lib.hid (HF3.out.below hb3)
    have HB4 := Lib.hid (back_of HB3.out hb3)
    clear hb3 HF3 HB3 f0 f1 f2 hg
    obtain ⟨hg, f0, f1, f2⟩ := HF4.out
    cases r
    · go_wp2_with fail
      go_ret
      exact ⟨int_ret (IntWalk.i64_left _).symm, HB4.out⟩
    · go_wp2_with fail
      refine (sign_dbl w3).mono ?_
      rintro e w4 ⟨rfl, hb4⟩
      go_wp2_with fail
      go_ret
      refine ⟨int_ret ?_, back_of HB4.out hb4⟩
      simp only [IntWalk.i64_left]
  · go_wp2_with fail
    refine (top_any w2).mono ?_
    rintro e w3 ⟨rfl, hb3⟩
    go_wp2_with fail
    go_ret
    exact ⟨rfl, back_of HB3.out hb3⟩
set_option maxHeartbeats 1000000 in
theorem pcmp_any (f g : Nat) (w : World) (hf : f < 18446744073709551616) (hg : g < 18446744073709551616) : Calls Tryz.prog 102 #[.float .f64 f, .float .f64 g] w fun e w' => e = .returned (.int .i64 (cmpO (keyN f) (keyN g))) ∧ Below w.heap.size w w' := by
  have h1 := Lib.hid (fun W => pkey_any f W hf)
  have h2 := Lib.hid (fun W => pkey_any g W hg)
  obtain ⟨a, ha⟩ : ∃ a, keyN f = a := ⟨_, rfl⟩
  obtain ⟨b, hb⟩ : ∃ b, keyN g = b := ⟨_, rfl⟩
  rw [ha] at h1 ⊢
  rw [hb] at h2 ⊢
  clear ha hb
  unfold cmpO
  by_cases c1 : a < b
  · rw [if_pos c1]
    go_enter Tryz.func102, Tryz.ntmps102
    go_wp2_with fail
    refine (h1.out w).mono ?_
    rintro e w1 ⟨rfl, hb1⟩
    go_wp2_with fail
    refine (h2.out w1).mono ?_
    rintro e w2 ⟨rfl, hb2⟩
    go_wp2_with fail
    go_ret
    exact ⟨rfl, back_of hb1 hb2⟩
  · rw [if_neg c1]
    by_cases c2 : b < a
    · rw [if_pos c2]
      go_enter Tryz.func102, Tryz.ntmps102
      go_wp2_with fail
      refine (h1.out w).mono ?_
      rintro e w1 ⟨rfl, hb1⟩
      go_wp2_with fail
      refine (h2.out w1).mono ?_
      rintro e w2 ⟨rfl, hb2⟩
      go_wp2_with fail
      go_ret
      exact ⟨rfl, back_of hb1 hb2⟩
    · rw [if_neg c2]
      go_enter Tryz.func102, Tryz.ntmps102
      go_wp2_with fail
      refine (h1.out w).mono ?_
      rintro e w1 ⟨rfl, hb1⟩
      go_wp2_with fail
      refine (h2.out w1).mono ?_
      rintro e w2 ⟨rfl, hb2⟩
      go_wp2_with fail
      go_ret
      exact ⟨rfl, back_of hb1 hb2⟩

/-- numbers alike, one by one -/
def sameL (a b : List Nat) : Bool := decide (a.map cnN = b.map cnN)
theorem same_step {a b : List Nat} {k : Nat} (h : (a.take k).map cnN = (b.take k).map cnN) (ha : k < a.length) (hb : k < b.length) (e : cnN (a.getD k 0) = cnN (b.getD k 0)) : (a.take (k + 1)).map cnN = (b.take (k + 1)).map cnN := by
  rw [List.getD_eq_getElem?_getD, List.getElem?_eq_getElem ha, List.getD_eq_getElem?_getD, List.getElem?_eq_getElem hb] at e
  simp only [Option.getD_some] at e
  rw [List.take_add_one, List.take_add_one, List.getElem?_eq_getElem ha, List.getElem?_eq_getElem hb, List.map_append, List.map_append, h]
  simp [e]
theorem same_no {a b : List Nat} {k : Nat} (ha : k < a.length) (hb : k < b.length) (e : cnN (a.getD k 0) ≠ cnN (b.getD k 0)) : sameL a b = false := by
  unfold sameL
  apply decide_eq_false
  intro h
  apply e
  have := congrArg (fun l : List Nat => l.getD k 0) h
  simpa [List.getD_eq_getElem?_getD, ha, hb] using this
set_option maxRecDepth 8000 in
set_option maxHeartbeats 1000000 in
theorem slist_any (A B : Option Addr) (n m c d : Nat) (xa xb : List Nat) (w : World) (ha : FlAt w A n xa) (hb : FlAt w B m xb) (hl : n * 8 ≤ 140737488355328) :
    Calls Tryz.prog 63 #[.slice A n c, .slice B m d] w fun e w' => e = .returned (.bool (sameL xa xb)) ∧ Below w.heap.size w w' := by
  have HA := Lib.hid ha
  have HB := Lib.hid hb
  have hn := ha.1
  have hm := hb.1
  clear ha hb
  by_cases hnm : n = m
  · subst hnm
    go_enter Tryz.func63, Tryz.ntmps63
    go_wp2_with fail
    go_loopw [13] (fun iv wr => ∃ k : Nat, k ≤ n ∧ iv = .int .i64 (k : Int) ∧ Hid ((xa.take k).map cnN = (xb.take k).map cnN ∧ Below w.heap.size w wr)) (fun iv _ => n - (intOf iv).toNat)
    case atStart => exact ⟨0, by omega, rfl, Lib.hid ⟨rfl, Below.refl _ _⟩⟩
    case round =>
      obtain ⟨k, hk, rfl, hh⟩ := hrel
      by_cases hlt : k < n
      · obtain ⟨b1, o1, rfl, hb1, hc1⟩ := HA.out.at hlt
        obtain ⟨b2, o2, rfl, hb2, hc2⟩ := HB.out.at hlt
        have c1 := (hh.out.2.cell (p := ⟨b1, o1 + k, none⟩) hb1).trans hc1
        have c2 := (hh.out.2.cell (p := ⟨b2, o2 + k, none⟩) hb2).trans hc2
        obtain ⟨y, hy⟩ : ∃ y, xa.getD k 0 = y := ⟨_, rfl⟩
        obtain ⟨z, hz⟩ : ∃ z, xb.getD k 0 = z := ⟨_, rfl⟩
        have HYZ := Lib.hid (And.intro hy hz)
        rw [hy] at c1
        rw [hz] at c2
        have hki : (k : Int) < (n : Int) := by omega
        have hk0 : (0 : Int) ≤ (k : Int) := by omega
        have HS := Lib.hid (fun W => same_any y z W)
        clear hc1 hc2 hy hz
        by_cases q : cnN y = cnN z
        · have HQ := Lib.hid q
          rw [decide_eq_true q] at HS
          clear q
          go_wp2_with fail
          go_quiet ((go_at_call 79; exact Calls.quiet_of_same ((HS.out _).mono fun _ _ h => ⟨h.1, h.2.symm⟩)))
          go_wp2_with fail
          go_roundw
          case rel => exact ⟨k + 1, by omega, by go_num, Lib.hid ⟨same_step hh.out.1 (by omega) (by omega) (by rw [HYZ.out.1, HYZ.out.2]; exact HQ.out), below_drewN hh.out.2 _⟩⟩
          case measure => simp [intOf]; omega
        · have HQ := Lib.hid q
          rw [decide_eq_false q] at HS
          clear q
          go_wp2_with fail
          go_quiet ((go_at_call 79; exact Calls.quiet_of_same ((HS.out _).mono fun _ _ h => ⟨h.1, h.2.symm⟩)))
          go_wp2_with fail
          go_ret
          exact ⟨by rw [same_no (k := k) (by omega) (by omega) (by rw [HYZ.out.1, HYZ.out.2]; exact HQ.out)]; rfl, below_drewN hh.out.2 _⟩
      · have hkn : k = n := by omega
        subst hkn
        go_wp2_with fail
        go_ret
        refine ⟨?_, hh.out.2⟩
        have := hh.out.1
        rw [List.take_of_length_le (by omega), List.take_of_length_le (by omega)] at this
        unfold sameL
        rw [decide_eq_true this]
        rfl
  · have hnm' : ¬ (n : Int) = (m : Int) := by omega
    have hnb : ((n : Int) != (m : Int)) = true := bne_iff_ne.2 hnm'
    go_enter Tryz.func63, Tryz.ntmps63
    go_wp2_with fail
    go_ret
    refine ⟨?_, Below.refl _ _⟩
    unfold sameL
    rw [decide_eq_false (fun e => hnm (by have := congrArg List.length e; simpa [hn, hm] using this))]
    rfl
end Go.Proofs.YtebacmmfjadalaaGreat
