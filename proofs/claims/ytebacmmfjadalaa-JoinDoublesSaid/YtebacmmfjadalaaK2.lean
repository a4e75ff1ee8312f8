/- The class of a number; whether all of a list are finite; the check of a reading. -/
import Derived.Test.YtebacmmfjadalaaK1
namespace Go.Proofs.Ytebacmmfjadalaa
open Go Go.RowKit

def expV (b : Int) : Int := (bits .and .u64 (canonV b / 4503599627370496) 2047)
def frcV (b : Int) : Int := bits .and .u64 (canonV b) 4503599627370495
def sgnV (b : Int) : Bool := bits .and .u64 (canonV b) 9223372036854775808 != 0
set_option maxRecDepth 100000 in
set_option maxHeartbeats 4000000 in
theorem split_dbl (b : Int) (w : World) : Calls Try.prog 83 #[.int .u64 b, fmt] w fun e w' => e = .returned (.tuple #[.bool (sgnV b), .int .i64 (IntKind.i64.wrap (expV b)), .int .u64 (frcV b)]) ∧ Below w.heap.size w w' := by
  have HF := Lib.hid (fmt_at w 120)
  have HB := Lib.hid (fmt_below w 120)
  obtain ⟨c, hq⟩ : ∃ c, canonV b = c := ⟨_, rfl⟩
  have HQ := Lib.hid hq
  have HN := Lib.hid (fun W => canon_dbl b W)
  rw [hq] at HN
  clear hq
  go_enter Try.func83, Try.ntmps83
  go_wp2_with fail
  generalize w.alloc (.cells #[.int .u64 52, .int .i64 2047, .int .i64 1075] 120) = W0 at *
  obtain ⟨hg, f0, f1, f2⟩ := HF.out
  go_wp2_with fail
  refine (HN.out W0).mono ?_
  rintro e w1 ⟨rfl, hb1⟩
  have HF1 := Lib.hid (HF.out.below hb1)
  have HB1 := Lib.hid (back_of HB.out hb1)
  clear hb1 f0 f1 f2 hg HN HB HF
  go_wp2_with fail
  have hc : Below w1.heap.size w1 w1.drew := (Below.refl _ _).drew
  go_region_held3 (fun w' => w'.cell? ⟨w.heap.size, 0, none⟩ = some (.int .u64 52) ∧ w'.cell? ⟨w.heap.size, 1, none⟩ = some (.int .i64 2047) ∧ w'.cell? ⟨w.heap.size, 2, none⟩ = some (.int .i64 1075))
    (first | exact HF1.out.2 | exact (HF1.out.below hc).2)
    (first | (go_at_call 81; refine (hidden_dbl _).mono ?_; rintro e w1 ⟨rfl, hb1⟩; replace hc := back_of hc hb1; clear hb1) | (go_at_call 65; refine (sign_dbl _).mono ?_; rintro e w1 ⟨rfl, hb1⟩; replace hc := back_of hc hb1; clear hb1))
  go_wp2_with fail
  go_ret3
  refine ⟨?_, back_of HB1.out hc⟩
  unfold sgnV expV frcV
  rw [HQ.out]
  rfl

def clsE (e f : Int) : Int := if e = 2047 then (if f = 0 then 2 else 1) else if e = 0 then (if f = 0 then 3 else 4) else 5
def clsV (b : Int) : Int := clsE (IntKind.i64.wrap (expV b)) (frcV b)
set_option maxRecDepth 100000 in
set_option maxHeartbeats 4000000 in
theorem class_dbl (b : Int) (w : World) : Calls Try.prog 77 #[.int .u64 b, fmt] w fun e w' => e = .returned (.int .i64 (clsV b)) ∧ Below w.heap.size w w' := by
  have HF := Lib.hid (fmt_at w 120)
  have HB := Lib.hid (fmt_below w 120)
  unfold clsV
  have HN := Lib.hid (fun W => split_dbl b W)
  generalize sgnV b = g at HN
  generalize IntKind.i64.wrap (expV b) = E at *
  generalize frcV b = F at *
  by_cases c1 : E = 2047
  · subst c1
    by_cases c2 : F = 0
    · subst c2
      go_enter Try.func77, Try.ntmps77
      go_wp2_with fail
      generalize w.alloc (.cells #[.int .u64 52, .int .i64 2047, .int .i64 1075] 120) = W0 at *
      obtain ⟨hg, f0, f1, f2⟩ := HF.out
      go_wp2_with fail
      refine (HN.out W0).mono ?_
      rintro e w1 ⟨rfl, hb1⟩
      obtain ⟨hg, f0, f1, f2⟩ := HF.out.below hb1
      go_wp2_with fail
      go_ret
      exact ⟨rfl, back_of HB.out hb1⟩
    · have c2' : (F == 0) = false := by simpa using c2
      have c2'' : (F != 0) = true := by simpa using c2
      go_enter Try.func77, Try.ntmps77
      go_wp2_with fail
      generalize w.alloc (.cells #[.int .u64 52, .int .i64 2047, .int .i64 1075] 120) = W0 at *
      obtain ⟨hg, f0, f1, f2⟩ := HF.out
      go_wp2_with fail
      refine (HN.out W0).mono ?_
      rintro e w1 ⟨rfl, hb1⟩
      obtain ⟨hg, f0, f1, f2⟩ := HF.out.below hb1
      go_wp2_with fail
      go_ret
      exact ⟨by unfold clsE; rw [if_pos rfl, if_neg c2]; rfl, back_of HB.out hb1⟩
  · have c1' : (E == 2047) = false := by simpa using c1
    have c1'' : ¬ (E == 2047) = true := by simpa using c1
    by_cases c3 : E = 0
    · subst c3
      by_cases c2 : F = 0
      · subst c2
        go_enter Try.func77, Try.ntmps77
        go_wp2_with fail
        generalize w.alloc (.cells #[.int .u64 52, .int .i64 2047, .int .i64 1075] 120) = W0 at *
        obtain ⟨hg, f0, f1, f2⟩ := HF.out
        go_wp2_with fail
        refine (HN.out W0).mono ?_
        rintro e w1 ⟨rfl, hb1⟩
        obtain ⟨hg, f0, f1, f2⟩ := HF.out.below hb1
        go_wp2_with fail
        go_ret
        exact ⟨rfl, back_of HB.out hb1⟩
      · have c2' : (F == 0) = false := by simpa using c2
        go_enter Try.func77, Try.ntmps77
        go_wp2_with fail
        generalize w.alloc (.cells #[.int .u64 52, .int .i64 2047, .int .i64 1075] 120) = W0 at *
        obtain ⟨hg, f0, f1, f2⟩ := HF.out
        go_wp2_with fail
        refine (HN.out W0).mono ?_
        rintro e w1 ⟨rfl, hb1⟩
        obtain ⟨hg, f0, f1, f2⟩ := HF.out.below hb1
        go_wp2_with fail
        go_ret
        exact ⟨by unfold clsE; rw [if_neg c1, if_pos rfl, if_neg c2]; rfl, back_of HB.out hb1⟩
    · have c3' : (E == 0) = false := by simpa using c3
      go_enter Try.func77, Try.ntmps77
      go_wp2_with fail
      generalize w.alloc (.cells #[.int .u64 52, .int .i64 2047, .int .i64 1075] 120) = W0 at *
      obtain ⟨hg, f0, f1, f2⟩ := HF.out
      go_wp2_with fail
      refine (HN.out W0).mono ?_
      rintro e w1 ⟨rfl, hb1⟩
      obtain ⟨hg, f0, f1, f2⟩ := HF.out.below hb1
      go_wp2_with fail
      go_ret
      exact ⟨by unfold clsE; rw [if_neg c1, if_neg c3]; rfl, back_of HB.out hb1⟩

theorem Class_any (f : Nat) (w : World) : Calls Try.prog 70 #[.float .f64 f] w fun e w' => e = .returned (.int .i64 (clsV f)) ∧ Below w.heap.size w w' := by
  have hrb := run_bits f
  go_enter Try.func70, Try.ntmps70
  go_wp2_with fail
  refine (of_dbl w).mono ?_
  rintro e w1 ⟨rfl, hb1⟩
  go_wp2_with fail
  refine (class_dbl f w1).mono ?_
  rintro e w2 ⟨rfl, hb2⟩
  go_wp2_with fail
  go_ret
  exact ⟨rfl, back_of hb1 hb2⟩

/-- numbers that lie in a row, as their bits -/
def FlAt (w : World) (A : Option Addr) (n : Nat) (bs : List Nat) : Prop := bs.length = n ∧ ((A = none ∧ n = 0) ∨ ∃ b off, A = some ⟨b, off, none⟩ ∧ b < w.heap.size ∧ ∀ i, i < n → w.cell? ⟨b, off + i, none⟩ = some (.float .f64 (bs.getD i 0)))
theorem FlAt.below {w w' : World} {A : Option Addr} {n : Nat} {bs : List Nat} (h : FlAt w A n bs) (hb : Below w.heap.size w w') : FlAt w' A n bs := by
  refine ⟨h.1, ?_⟩
  rcases h.2 with h2 | ⟨b, off, h1, h2, h3⟩
  · exact .inl h2
  · exact .inr ⟨b, off, h1, Nat.lt_of_lt_of_le h2 hb.size, fun i hi => (hb.cell (p := ⟨b, off + i, none⟩) h2).trans (h3 i hi)⟩
theorem FlAt.at {w : World} {A : Option Addr} {n : Nat} {bs : List Nat} (h : FlAt w A n bs) {i : Nat} (hi : i < n) : ∃ b off, A = some ⟨b, off, none⟩ ∧ b < w.heap.size ∧ w.cell? ⟨b, off + i, none⟩ = some (.float .f64 (bs.getD i 0)) := by
  rcases h.2 with h2 | ⟨b, off, h1, h2, h3⟩
  · omega
  · exact ⟨b, off, h1, h2, h3 i hi⟩
def badV (b : Nat) : Bool := clsV b == 1 || clsV b == 2
def finL (bs : List Nat) : Bool := bs.all fun b => !badV b

theorem all_take {bs : List Nat} {k : Nat} (h : (bs.take k).all (fun b => !badV b) = true) (hk : k < bs.length) (hb : badV (bs.getD k 0) = false) : (bs.take (k + 1)).all (fun b => !badV b) = true := by
  rw [List.take_add_one, List.getElem?_eq_getElem hk, List.all_append, h]
  rw [List.getD_eq_getElem?_getD, List.getElem?_eq_getElem hk] at hb
  simp at hb ⊢
  exact hb

theorem finL_bad {bs : List Nat} {k : Nat} (hk : k < bs.length) (hb : badV (bs.getD k 0) = true) : finL bs = false := by
  rw [List.getD_eq_getElem?_getD, List.getElem?_eq_getElem hk] at hb
  have hb' : badV bs[k] = true := hb
  cases h : finL bs with
  | false => rfl
  | true =>
    have := List.all_eq_true.1 h bs[k] (List.getElem_mem hk)
    rw [hb'] at this
    simp at this

set_option maxHeartbeats 1000000 in
theorem finite_any (A : Option Addr) (n c : Nat) (bs : List Nat) (w : World) (h : FlAt w A n bs) (hl : n * 8 ≤ 140737488355328) : Calls Try.prog 55 #[.slice A n c] w fun e w' => e = .returned (.bool (finL bs)) ∧ Below w.heap.size w w' := by
  have HF := Lib.hid h
  have hn := h.1
  clear h
  go_enter Try.func55, Try.ntmps55
  go_wp2_with fail
  go_loopw [8] (fun iv wr => ∃ k : Nat, k ≤ n ∧ iv = .int .i64 (k : Int) ∧ Hid ((bs.take k).all (fun b => !badV b) = true ∧ Below w.heap.size w wr)) (fun iv _ => n - (intOf iv).toNat)
  case atStart => exact ⟨0, by omega, rfl, Lib.hid ⟨rfl, Below.refl _ _⟩⟩
  case round =>
    obtain ⟨k, hk, rfl, hh⟩ := hrel
    by_cases hlt : k < n
    · obtain ⟨b, off, rfl, hb, hcell⟩ := HF.out.at hlt
      have hcr := (hh.out.2.cell (p := ⟨b, off + k, none⟩) hb).trans hcell
      obtain ⟨y, hy⟩ : ∃ y, bs.getD k 0 = y := ⟨_, rfl⟩
      have HY := Lib.hid hy
      rw [hy] at hcr
      have hki : (k : Int) < (n : Int) := by omega
      have HC := Lib.hid (fun W => Class_any y W)
      obtain ⟨c', hc'⟩ : ∃ c', clsV y = c' := ⟨_, rfl⟩
      rw [hc'] at HC
      have HC' := Lib.hid hc'
      clear hcell hy hc'
      by_cases q1 : c' = 1
      · subst q1
        go_wp2_with fail
        refine (HC.out wr).mono ?_
        rintro e w1 ⟨rfl, hb1⟩
        go_wp2_with fail
        go_ret
        refine ⟨?_, back_of hh.out.2 hb1⟩
        rw [finL_bad (k := k) (by omega) (by rw [HY.out]; unfold badV; rw [HC'.out]; rfl)]
        rfl
      · have q1' : (c' == 1) = false := by simpa using q1
        by_cases q2 : c' = 2
        · subst q2
          go_wp2_with fail
          refine (HC.out wr).mono ?_
          rintro e w1 ⟨rfl, hb1⟩
          go_wp2_with fail
          go_ret
          refine ⟨?_, back_of hh.out.2 hb1⟩
          rw [finL_bad (k := k) (by omega) (by rw [HY.out]; unfold badV; rw [HC'.out]; rfl)]
          rfl
        · have q2' : (c' == 2) = false := by simpa using q2
          go_wp2_with fail
          refine (HC.out wr).mono ?_
          rintro e w1 ⟨rfl, hb1⟩
          go_wp2_with fail
          go_roundw
          case rel => exact ⟨k + 1, by omega, by go_num, Lib.hid ⟨all_take hh.out.1 (by omega) (by rw [HY.out]; unfold badV; rw [HC'.out, q1', q2']; rfl), back_of hh.out.2 hb1⟩⟩
          case measure => simp [intOf]; omega
    · have hkn : k = n := by omega
      subst hkn
      go_wp2_with fail
      go_ret
      refine ⟨?_, hh.out.2⟩
      have := hh.out.1
      rw [List.take_of_length_le (by omega)] at this
      unfold finL
      rw [this]
      rfl

def chkE (se : Int) (n : Nat) (bs : List Nat) : Int := if se < 0 ∨ 64 ≤ se ∨ 6 < n then 210 else if finL bs = true then 0 else 4
set_option maxRecDepth 100000 in
set_option maxHeartbeats 1000000 in
theorem pcheck_any (se sq st : Int) (A : Option Addr) (n c : Nat) (bs : List Nat) (w : World) (h : FlAt w A n bs) (hl : n * 8 ≤ 140737488355328) : Calls Try.prog 36 #[.agg #[.int .i64 se, .int .u32 sq, .int .u32 st, .slice A n c]] w fun e w' => e = .returned (.int .i64 (chkE se n bs)) ∧ Below w.heap.size w w' := by
  have HB := Lib.hid ((Below.refl w.heap.size w).alloc (Nat.le_refl _) (.cells #[.int .i64 se, .int .u32 sq, .int .u32 st, .slice A n c] 30))
  have HF := Lib.hid (finite_any A n c bs _ (h.below HB.out) hl)
  obtain ⟨q, hq⟩ : ∃ q, finL bs = q := ⟨_, rfl⟩
  rw [hq] at HF
  have HQ := Lib.hid hq
  clear hq h
  by_cases c1 : se < 0
  · go_enter Try.func36, Try.ntmps36
    go_wp2_with fail
    go_ret
    exact ⟨by unfold chkE; rw [if_pos (.inl c1)]; rfl, HB.out⟩
  · by_cases c2 : 64 ≤ se
    · go_enter Try.func36, Try.ntmps36
      go_wp2_with fail
      go_ret
      exact ⟨by unfold chkE; rw [if_pos (.inr (.inl c2))]; rfl, HB.out⟩
    · by_cases c3 : 6 < n
      · have c3' : (6 : Int) < (n : Int) := by omega
        go_enter Try.func36, Try.ntmps36
        go_wp2_with fail
        go_ret
        exact ⟨by unfold chkE; rw [if_pos (.inr (.inr c3))]; rfl, HB.out⟩
      · have c3' : ¬ (6 : Int) < (n : Int) := by omega
        cases q
        · go_enter Try.func36, Try.ntmps36
          go_wp2_with fail
          refine HF.out.mono ?_
          rintro e w1 ⟨rfl, hb1⟩
          go_wp2_with fail
          go_ret
          exact ⟨by unfold chkE; rw [if_neg (by omega), HQ.out]; rfl, back_of HB.out hb1⟩
        · go_enter Try.func36, Try.ntmps36
          go_wp2_with fail
          refine HF.out.mono ?_
          rintro e w1 ⟨rfl, hb1⟩
          go_wp2_with fail
          go_ret
          exact ⟨by unfold chkE; rw [if_neg (by omega), HQ.out]; rfl, back_of HB.out hb1⟩
end Go.Proofs.Ytebacmmfjadalaa
