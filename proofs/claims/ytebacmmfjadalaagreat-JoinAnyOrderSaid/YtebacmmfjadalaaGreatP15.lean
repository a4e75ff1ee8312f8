/- K2 N1 in one text. -/
import Derived.Test.YtebacmmfjadalaaGreatP14
import Derived.Laws.BitsAllLaws
import Ieee.Arith
import GoSem.Core.Float

namespace Go.Proofs.YtebacmmfjadalaaGreat
open Go Go.RowKit

def expV (b : Int) : Int := (bits .and .u64 (canonV b / 4503599627370496) 2047)
def frcV (b : Int) : Int := bits .and .u64 (canonV b) 4503599627370495
def sgnV (b : Int) : Bool := bits .and .u64 (canonV b) 9223372036854775808 != 0
set_option maxRecDepth 100000 in
set_option maxHeartbeats 4000000 in
theorem split_dbl (b : Int) (w : World) : Calls Tryz.prog 109 #[.int .u64 b, fmt] w fun e w' => e = .returned (.tuple #[.bool (sgnV b), .int .i64 (IntKind.i64.wrap (expV b)), .int .u64 (frcV b)]) ∧ Below w.heap.size w w' := by
  have HF := Lib.hid (fmt_at w 164)
  have HB := Lib.hid (fmt_below w 164)
  obtain ⟨c, hq⟩ : ∃ c, canonV b = c := ⟨_, rfl⟩
  have HQ := Lib.hid hq
  have HN := Lib.hid (fun W => canon_dbl b W)
  rw [hq] at HN
  clear hq
  go_enter Tryz.func109, Tryz.ntmps109
  go_wp2_with fail
  generalize w.alloc (.cells #[.int .u64 52, .int .i64 2047, .int .i64 1075] 164) = W0 at *
  obtain ⟨hg, f0, f1, f2⟩ := HF.out
  go_wp2_with fail
  refine (HN.out W0).mono ?_
  rintro e w1 ⟨rfl, hb1⟩
  have HF1 := Lib.hid (HF.out.below hb1)
  have HB1 := Lib.hid (back_of HB.out hb1)
  clear hb1 f0 f1 f2 hg HN HB HF
  go_wp2_with fail
  have hc : Below w1.heap.size w1 w1.drew := (Below.refl _ _).drew
  go_region_held3 (fun w' => w'.cell? ⟨w.heap.size, 0, none⟩ = some (.int .u64 52) ∧ w'.cell? ⟨w.heap.size, 1, none⟩ = some (.int .i64 2047) ∧ w'.cell? ⟨w.heap.size, 2, none⟩ = some (.int .i64 1075))
    (first | exact HF1.out.2 | exact (HF1.out.below hc).2)
    (first | (go_at_call 120; refine (hidden_dbl _).mono ?_; rintro e w1 ⟨rfl, hb1⟩; replace hc := back_of hc hb1; clear hb1) | (go_at_call 119; refine (sign_dbl _).mono ?_; rintro e w1 ⟨rfl, hb1⟩; replace hc := back_of hc hb1; clear hb1))
  go_wp2_with fail
  go_ret3
  refine ⟨?_, back_of HB1.out hc⟩
  unfold sgnV expV frcV
  rw [HQ.out]
  rfl

def clsE (e f : Int) : Int := if e = 2047 then (if f = 0 then 2 else 1) else if e = 0 then (if f = 0 then 3 else 4) else 5
def clsV (b : Int) : Int := clsE (IntKind.i64.wrap (expV b)) (frcV b)
set_option maxRecDepth 100000 in
set_option maxHeartbeats 4000000 in
theorem class_dbl (b : Int) (w : World) : Calls Tryz.prog 87 #[.int .u64 b, fmt] w fun e w' => e = .returned (.int .i64 (clsV b)) ∧ Below w.heap.size w w' := by
  have HF := Lib.hid (fmt_at w 164)
  have HB := Lib.hid (fmt_below w 164)
  unfold clsV
  have HN := Lib.hid (fun W => split_dbl b W)
  generalize sgnV b = g at HN
  generalize IntKind.i64.wrap (expV b) = E at *
  generalize frcV b = F at *
  by_cases c1 : E = 2047
  · subst c1
    by_cases c2 : F = 0
    · subst c2
      go_enter Tryz.func87, Tryz.ntmps87
      go_wp2_with fail
      generalize w.alloc (.cells #[.int .u64 52, .int .i64 2047, .int .i64 1075] 164) = W0 at *
      obtain ⟨hg, f0, f1, f2⟩ := HF.out
      go_wp2_with fail
      refine (HN.out W0).mono ?_
      rintro e w1 ⟨rfl, hb1⟩
      obtain ⟨hg, f0, f1, f2⟩ := HF.out.below hb1
      go_wp2_with fail
      go_ret
      exact ⟨rfl, back_of HB.out hb1⟩
    · have c2' : (F == 0) = false := by simpa using c2
      have c2'' : (F != 0) = true := by simpa using c2
      go_enter Tryz.func87, Tryz.ntmps87
      go_wp2_with fail
      generalize w.alloc (.cells #[.int .u64 52, .int .i64 2047, .int .i64 1075] 164) = W0 at *
      obtain ⟨hg, f0, f1, f2⟩ := HF.out
      go_wp2_with fail
      refine (HN.out W0).mono ?_
      rintro e w1 ⟨rfl, hb1⟩
      obtain ⟨hg, f0, f1, f2⟩ := HF.out.below hb1
      go_wp2_with fail
      go_ret
      exact ⟨by unfold clsE; rw [if_pos rfl, if_neg c2]; rfl, back_of HB.out hb1⟩
  · have c1' : (E == 2047) = false := by simpa using c1
    have c1'' : ¬ (E == 2047) = true := by simpa using c1
    by_cases c3 : E = 0
    · subst c3
      by_cases c2 : F = 0
      · subst c2
        go_enter Tryz.func87, Tryz.ntmps87
        go_wp2_with fail
        generalize w.alloc (.cells #[.int .u64 52, .int .i64 2047, .int .i64 1075] 164) = W0 at *
        obtain ⟨hg, f0, f1, f2⟩ := HF.out
        go_wp2_with fail
        refine (HN.out W0).mono ?_
        rintro e w1 ⟨rfl, hb1⟩
        obtain ⟨hg, f0, f1, f2⟩ := HF.out.below hb1
        go_wp2_with fail
        go_ret
        exact ⟨rfl, back_of HB.out hb1⟩
      · have c2' : (F == 0) = false := by simpa using c2
        go_enter Tryz.func87, Tryz.ntmps87
        go_wp2_with fail
        generalize w.alloc (.cells #[.int .u64 52, .int .i64 2047, .int .i64 1075] 164) = W0 at *
        obtain ⟨hg, f0, f1, f2⟩ := HF.out
        go_wp2_with fail
        refine (HN.out W0).mono ?_
        rintro e w1 ⟨rfl, hb1⟩
        obtain ⟨hg, f0, f1, f2⟩ := HF.out.below hb1
        go_wp2_with fail
        go_ret
        exact ⟨by unfold clsE; rw [if_neg c1, if_pos rfl, if_neg c2]; rfl, back_of HB.out hb1⟩
    · have c3' : (E == 0) = false := by simpa using c3
      go_enter Tryz.func87, Tryz.ntmps87
      go_wp2_with fail
      generalize w.alloc (.cells #[.int .u64 52, .int .i64 2047, .int .i64 1075] 164) = W0 at *
      obtain ⟨hg, f0, f1, f2⟩ := HF.out
      go_wp2_with fail
      refine (HN.out W0).mono ?_
      rintro e w1 ⟨rfl, hb1⟩
      obtain ⟨hg, f0, f1, f2⟩ := HF.out.below hb1
      go_wp2_with fail
      go_ret
      exact ⟨by unfold clsE; rw [if_neg c1, if_neg c3]; rfl, back_of HB.out hb1⟩

theorem Class_any (f : Nat) (w : World) : Calls Tryz.prog 72 #[.float .f64 f] w fun e w' => e = .returned (.int .i64 (clsV f)) ∧ Below w.heap.size w w' := by
  have hrb := run_bits f
  go_enter Tryz.func72, Tryz.ntmps72
  go_wp2_with fail
  refine (of_dbl w).mono ?_
  rintro e w1 ⟨rfl, hb1⟩
  go_wp2_with fail
  refine (class_dbl f w1).mono ?_
  rintro e w2 ⟨rfl, hb2⟩
  go_wp2_with fail
  go_ret
  exact ⟨rfl, back_of hb1 hb2⟩

/-- numbers that lie in a row, as their bits -/
def FlAt (w : World) (A : Option Addr) (n : Nat) (bs : List Nat) : Prop := bs.length = n ∧ ((A = none ∧ n = 0) ∨ ∃ b off, A = some ⟨b, off, none⟩ ∧ b < w.heap.size ∧ ∀ i, i < n → w.cell? ⟨b, off + i, none⟩ = some (.float .f64 (bs.getD i 0)))
theorem FlAt.below {w w' : World} {A : Option Addr} {n : Nat} {bs : List Nat} (h : FlAt w A n bs) (hb : Below w.heap.size w w') : FlAt w' A n bs := by
  refine ⟨h.1, ?_⟩
  rcases h.2 with h2 | ⟨b, off, h1, h2, h3⟩
  · exact .inl h2
  · exact .inr ⟨b, off, h1, Nat.lt_of_lt_of_le h2 hb.size, fun i hi => (hb.cell (p := ⟨b, off + i, none⟩) h2).trans (h3 i hi)⟩
theorem FlAt.at {w : World} {A : Option Addr} {n : Nat} {bs : List Nat} (h : FlAt w A n bs) {i : Nat} (hi : i < n) : ∃ b off, A = some ⟨b, off, none⟩ ∧ b < w.heap.size ∧ w.cell? ⟨b, off + i, none⟩ = some (.float .f64 (bs.getD i 0)) := by
  rcases h.2 with h2 | ⟨b, off, h1, h2, h3⟩
  · omega
  · exact ⟨b, off, h1, h2, h3 i hi⟩
def badV (b : Nat) : Bool := clsV b == 1 || clsV b == 2
def finL (bs : List Nat) : Bool := bs.all fun b => !badV b

theorem all_take {bs : List Nat} {k : Nat} (h : (bs.take k).all (fun b => !badV b) = true) (hk : k < bs.length) (hb : badV (bs.getD k 0) = false) : (bs.take (k + 1)).all (fun b => !badV b) = true := by
  rw [List.take_add_one, List.getElem?_eq_getElem hk, List.all_append, h]
  rw [List.getD_eq_getElem?_getD, List.getElem?_eq_getElem hk] at hb
  simp at hb ⊢
  exact hb

theorem finL_bad {bs : List Nat} {k : Nat} (hk : k < bs.length) (hb : badV (bs.getD k 0) = true) : finL bs = false := by
  rw [List.getD_eq_getElem?_getD, List.getElem?_eq_getElem hk] at hb
  have hb' : badV bs[k] = true := hb
  cases h : finL bs with
  | false => rfl
  | true =>
    have := List.all_eq_true.1 h bs[k] (List.getElem_mem hk)
    rw [hb'] at this
    simp at this

set_option maxHeartbeats 1000000 in
theorem finite_any (A : Option Addr) (n c : Nat) (bs : List Nat) (w : World) (h : FlAt w A n bs) (hl : n * 8 ≤ 140737488355328) : Calls Tryz.prog 56 #[.slice A n c] w fun e w' => e = .returned (.bool (finL bs)) ∧ Below w.heap.size w w' := by
  have HF := Lib.hid h
  have hn := h.1
  clear h
  go_enter Tryz.func56, Tryz.ntmps56
  go_wp2_with fail
  go_loopw [8] (fun iv wr => ∃ k : Nat, k ≤ n ∧ iv = .int .i64 (k : Int) ∧ Hid ((bs.take k).all (fun b => !badV b) = true ∧ Below w.heap.size w wr)) (fun iv _ => n - (intOf iv).toNat)
  case atStart => exact ⟨0, by omega, rfl, Lib.hid ⟨rfl, Below.refl _ _⟩⟩
  case round =>
    obtain ⟨k, hk, rfl, hh⟩ := hrel
    by_cases hlt : k < n
    · obtain ⟨b, off, rfl, hb, hcell⟩ := HF.out.at hlt
      have hcr := (hh.out.2.cell (p := ⟨b, off + k, none⟩) hb).trans hcell
      obtain ⟨y, hy⟩ : ∃ y, bs.getD k 0 = y := ⟨_, rfl⟩
      have HY := Lib.hid hy
      rw [hy] at hcr
      have hki : (k : Int) < (n : Int) := by omega
      have HC := Lib.hid (fun W => Class_any y W)
      obtain ⟨c', hc'⟩ : ∃ c', clsV y = c' := ⟨_, rfl⟩
      rw [hc'] at HC
      have HC' := Lib.hid hc'
      clear hcell hy hc'
      by_cases q1 : c' = 1
      · subst q1
        go_wp2_with fail
        refine (HC.out wr).mono ?_
        rintro e w1 ⟨rfl, hb1⟩
        go_wp2_with fail
        go_ret
        refine ⟨?_, back_of hh.out.2 hb1⟩
        rw [finL_bad (k := k) (by omega) (by rw [HY.out]; unfold badV; rw [HC'.out]; rfl)]
        rfl
      · have q1' : (c' == 1) = false := by simpa using q1
        by_cases q2 : c' = 2
        · subst q2
          go_wp2_with fail
          refine (HC.out wr).mono ?_
          rintro e w1 ⟨rfl, hb1⟩
          go_wp2_with fail
          go_ret
          refine ⟨?_, back_of hh.out.2 hb1⟩
          rw [finL_bad (k := k) (by omega) (by rw [HY.out]; unfold badV; rw [HC'.out]; rfl)]
          rfl
        · have q2' : (c' == 2) = false := by simpa using q2
          go_wp2_with fail
          refine (HC.out wr).mono ?_
          rintro e w1 ⟨rfl, hb1⟩
          go_wp2_with fail
          go_roundw
          case rel => exact ⟨k + 1, by omega, by go_num, Lib.hid ⟨all_take hh.out.1 (by omega) (by rw [HY.out]; unfold badV; rw [HC'.out, q1', q2']; rfl), back_of hh.out.2 hb1⟩⟩
          case measure => simp [intOf]; omega
    · have hkn : k = n := by omega
      subst hkn
      go_wp2_with fail
      go_ret
      refine ⟨?_, hh.out.2⟩
      have := hh.out.1
      rw [List.take_of_length_le (by omega)] at this
      unfold finL
      rw [this]
      rfl

def chkE (se : Int) (n : Nat) (bs : List Nat) : Int := if se < 0 ∨ 64 ≤ se ∨ 6 < n then 210 else if finL bs = true then 0 else 4
set_option maxRecDepth 100000 in
set_option maxHeartbeats 1000000 in
theorem pcheck_any (se sq st : Int) (A : Option Addr) (n c : Nat) (bs : List Nat) (w : World) (h : FlAt w A n bs) (hl : n * 8 ≤ 140737488355328) : Calls Tryz.prog 30 #[.agg #[.int .i64 se, .int .u32 sq, .int .u32 st, .slice A n c]] w fun e w' => e = .returned (.int .i64 (chkE se n bs)) ∧ Below w.heap.size w w' := by
  have HB := Lib.hid ((Below.refl w.heap.size w).alloc (Nat.le_refl _) (.cells #[.int .i64 se, .int .u32 sq, .int .u32 st, .slice A n c] 38))
  have HF := Lib.hid (finite_any A n c bs _ (h.below HB.out) hl)
  obtain ⟨q, hq⟩ : ∃ q, finL bs = q := ⟨_, rfl⟩
  rw [hq] at HF
  have HQ := Lib.hid hq
  clear hq h
  by_cases c1 : se < 0
  · go_enter Tryz.func30, Tryz.ntmps30
    go_wp2_with fail
    go_ret
    exact ⟨by unfold chkE; rw [if_pos (.inl c1)]; rfl, HB.out⟩
  · by_cases c2 : 64 ≤ se
    · go_enter Tryz.func30, Tryz.ntmps30
      go_wp2_with fail
      go_ret
      exact ⟨by unfold chkE; rw [if_pos (.inr (.inl c2))]; rfl, HB.out⟩
    · by_cases c3 : 6 < n
      · have c3' : (6 : Int) < (n : Int) := by omega
        go_enter Tryz.func30, Tryz.ntmps30
        go_wp2_with fail
        go_ret
        exact ⟨by unfold chkE; rw [if_pos (.inr (.inr c3))]; rfl, HB.out⟩
      · have c3' : ¬ (6 : Int) < (n : Int) := by omega
        cases q
        · go_enter Tryz.func30, Tryz.ntmps30
          go_wp2_with fail
          refine HF.out.mono ?_
          rintro e w1 ⟨rfl, hb1⟩
          go_wp2_with fail
          go_ret
          exact ⟨by unfold chkE; rw [if_neg (by omega), HQ.out]; rfl, back_of HB.out hb1⟩
        · go_enter Tryz.func30, Tryz.ntmps30
          go_wp2_with fail
          refine HF.out.mono ?_
          rintro e w1 ⟨rfl, hb1⟩
          go_wp2_with fail
          go_ret
          exact ⟨by unfold chkE; rw [if_neg (by omega), HQ.out]; rfl, back_of HB.out hb1⟩
end Go.Proofs.YtebacmmfjadalaaGreat

namespace Go.Proofs.YtebacmmfjadalaaGreat
open Go Go.RowKit

/-- the bits of a NaN -/
def nanN (f : Nat) : Bool := decide (9218868437227405312 < f % 9223372036854775808)
/-- the bits, of any NaN those of the one -/
def cnN (f : Nat) : Nat := if nanN f = true then 9221120237041090561 else f
/-- the place in the total order -/
def keyN (f : Nat) : Int := if nanN f = true then 9218868437227405313 else if 9223372036854775808 ≤ f then -1 - ((f : Int) - 9223372036854775808) else f

theorem cmp_self (d : Ieee.Datum) : (d.order d == some Ordering.eq) = !d.isNaN := by
  cases d with
  | number s m i => simp [Ieee.Datum.order, Ieee.Datum.isNaN]
  | infinity s => simp [Ieee.Datum.order, Ieee.Datum.isNaN]
  | nan s f => simp [Ieee.Datum.order, Ieee.Datum.isNaN]
theorem read_nan (f : Nat) : (Ieee.double.read f).isNaN = nanN f := by
  have e1 : Ieee.double.signWeight = 9223372036854775808 := by decide
  have e2 : Ieee.double.binade = 4503599627370496 := by decide
  have e3 : Ieee.double.infRung = 9218868437227405312 := by decide
  unfold Ieee.Format.read nanN
  simp only [e1, e2, e3]
  split
  · rename_i h
    simp [Ieee.Datum.isNaN]; omega
  · split
    · rename_i h
      simp [Ieee.Datum.isNaN]; omega
    · split
      · rename_i h
        simp [Ieee.Datum.isNaN]; omega
      · simp [Ieee.Datum.isNaN]; omega
theorem order_self (f : Nat) : (Ieee.double.order f f == some Ordering.eq) = !nanN f := by
  rw [Ieee.Format.order, cmp_self, read_nan]

theorem neq_self (f : Nat) : (FloatKind.f64.format.order f f != some Ordering.eq) = nanN f := by
  have h := order_self f
  show (!(Ieee.double.order f f == some Ordering.eq)) = nanN f
  rw [h, Bool.not_not]
theorem andnot_top {f : Nat} (h : f < 18446744073709551616) : bits .andNot .u64 (f : Int) 9223372036854775808 = ((f % 9223372036854775808 : Nat) : Int) := by
  rw [u64_andNot _ _ (by omega) (by omega) (by omega) (by omega)]
  have e : f % 9223372036854775808 = f &&& (18446744073709551615 - (9223372036854775808 : Int).toNat) := (Nat.and_two_pow_sub_one_eq_mod f 63).symm
  rw [e, Int.toNat_natCast]
theorem nan_eq {f : Nat} (h : f < 18446744073709551616) : nanV (f : Int) = nanN f := by
  unfold nanV nanN
  rw [andnot_top h]
  apply decide_eq_decide.2
  omega
theorem cnN_lt {f : Nat} (h : f < 18446744073709551616) : cnN f < 18446744073709551616 := by unfold cnN; split <;> omega
theorem canon_eq {f : Nat} (h : f < 18446744073709551616) : canonV (f : Int) = (cnN f : Int) := by
  unfold canonV cnN
  rw [nan_eq h]
  split <;> rfl
theorem cnN_nan (f : Nat) : nanN (cnN f) = nanN f := by
  unfold cnN
  split
  · rename_i h
    rw [h]
    decide
  · rfl
theorem and_top {f : Nat} (h : f < 18446744073709551616) : (bits .and .u64 (f : Int) 9223372036854775808 != 0) = decide (9223372036854775808 ≤ f) := by
  rw [u64_and _ _ (by omega) (by omega) (by omega) (by omega), Int.toNat_natCast]
  have e : f &&& (9223372036854775808 : Int).toNat = f / 9223372036854775808 % 2 * 9223372036854775808 := by
    apply Nat.eq_of_testBit_eq
    intro i
    have e2 : (9223372036854775808 : Int).toNat = 2 ^ 63 := by decide
    rw [e2, Nat.testBit_and, Nat.testBit_two_pow, show (9223372036854775808 : Nat) = 2 ^ 63 by decide, Nat.testBit_mul_two_pow]
    by_cases hi : i = 63
    · subst hi
      simp [Nat.testBit_eq_decide_div_mod_eq]
    · have h63 : ¬ 63 = i := fun e => hi e.symm
      simp only [h63, decide_false, Bool.and_false]
      by_cases hl : 63 ≤ i
      · have : (f / 2 ^ 63 % 2).testBit (i - 63) = false := by
          apply Nat.testBit_lt_two_pow
          have := Nat.one_lt_two_pow (n := i - 63) (by omega)
          omega
        simp [this]
      · simp [hl]
  rw [e]
  have h1 : f / 9223372036854775808 % 2 = 0 ∨ f / 9223372036854775808 % 2 = 1 := by omega
  rcases h1 with h1 | h1
  · rw [h1]
    have : ¬ 9223372036854775808 ≤ f := by omega
    simp [this]
  · rw [h1]
    have : 9223372036854775808 ≤ f := by omega
    simp [this]
theorem xor_top {f : Nat} (h : f < 18446744073709551616) (h1 : 9223372036854775808 ≤ f) : bits .xor .u64 (f : Int) 9223372036854775808 = (f : Int) - 9223372036854775808 := by
  rw [u64_xor _ _ (by omega) (by omega) (by omega) (by omega), Int.toNat_natCast]
  have e : f ^^^ (9223372036854775808 : Int).toNat = f - 9223372036854775808 := by
    obtain ⟨g, rfl⟩ : ∃ g, f = g + 9223372036854775808 := ⟨f - 9223372036854775808, by omega⟩
    rw [Nat.add_sub_cancel]
    have e2 : (9223372036854775808 : Int).toNat = 2 ^ 63 := by decide
    apply Nat.eq_of_testBit_eq
    intro i
    rw [e2, Nat.testBit_xor, Nat.testBit_two_pow, show g + 9223372036854775808 = 2 ^ 63 + g by omega]
    by_cases hi : i = 63
    · subst hi
      rw [Nat.testBit_two_pow_add_eq]
      simp
    · have h63 : ¬ 63 = i := fun e => hi e.symm
      simp only [h63, decide_false, Bool.xor_false]
      by_cases hl : 63 ≤ i
      · have h2 : g.testBit i = false := Nat.testBit_lt_two_pow (Nat.lt_of_lt_of_le (by omega : g < 2 ^ 63) (Nat.pow_le_pow_right (by omega) hl))
        rw [h2]
        apply Nat.testBit_lt_two_pow
        have := Nat.pow_le_pow_right (n := 2) (by omega) (by omega : 64 ≤ i)
        omega
      · exact Nat.testBit_two_pow_add_gt (by omega) g
  rw [e]
  omega

/-- what the program's Key reckons -/
def keyP (b : Int) : Int := if nanV b = true then 9218868437227405313 else if (bits .and .u64 b 9223372036854775808 != 0) = true then IntKind.i64.wrap (-1 - IntKind.i64.wrap (bits .xor .u64 b 9223372036854775808)) else IntKind.i64.wrap b
theorem key_eq {f : Nat} (h : f < 18446744073709551616) : keyP (canonV (f : Int)) = keyN f := by
  have hc := cnN_lt h
  rw [canon_eq h]
  unfold keyP keyN
  rw [nan_eq hc, cnN_nan, and_top hc]
  by_cases hn : nanN f = true
  · rw [if_pos hn, if_pos hn]
  · rw [if_neg hn, if_neg hn]
    have e : cnN f = f := by unfold cnN; rw [if_neg hn]
    rw [e]
    by_cases h2 : 9223372036854775808 ≤ f
    · rw [if_pos (by simpa using h2), if_pos h2, xor_top h h2]
      rw [IntWalk.i64_in ((f : Int) - 9223372036854775808) (by omega), IntWalk.i64_in _ (by omega)]
    · rw [if_neg (by simpa using h2), if_neg h2, IntWalk.i64_in _ (by omega)]
theorem key_inj {f g : Nat} (hf : f < 18446744073709551616) (hg : g < 18446744073709551616) (e : keyN f = keyN g) : cnN f = cnN g := by
  unfold keyN nanN at e
  unfold cnN nanN
  simp only [decide_eq_true_eq] at e ⊢
  split at e <;> split at e <;> (try split at e) <;> (try split at e) <;> (try split) <;> (try split) <;> omega
theorem key_cn {f g : Nat} (e : cnN f = cnN g) : keyN f = keyN g := by
  unfold cnN nanN at e
  unfold keyN nanN
  simp only [decide_eq_true_eq] at e ⊢
  split at e <;> split at e <;> (try split) <;> (try split) <;> (try split) <;> (try split) <;> omega
end Go.Proofs.YtebacmmfjadalaaGreat
