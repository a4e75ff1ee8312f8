/- Contracts of the two orders of numbers: the program's Key and Compare, the reference's Bits, Key, Compare, Same. -/
import Derived.Test.YtebacmmfjadalaaN1
import Derived.Test.YtebacmmfjadalaaK4
import Derived.WalkLawsBesides
import Derived.Deep.QuietTactic
import Derived.BigQuiet
namespace Go.Proofs.Ytebacmmfjadalaa
open Go Go.RowKit

theorem int_ret {a b : Int} (h : a = b) : Ending.returned (.int .i64 a) = .returned (.int .i64 b) := by rw [h]
theorem top_any (w : World) : Calls Try.prog 64 #[] w fun e w' => e = .returned (.int .i64 9218868437227405312) ∧ Below w.heap.size w w' := by
  go_enter Try.func64, Try.ntmps64
  go_wp2_with fail
  refine (of_dbl w).mono ?_
  rintro e w1 ⟨rfl, hb1⟩
  go_wp2_with fail
  refine (infinite_dbl w1).mono ?_
  rintro e w2 ⟨rfl, hb2⟩
  go_wp2_with fail
  go_ret
  exact ⟨rfl, back_of hb1 hb2⟩
theorem bits_any (f : Nat) (w : World) : Calls Try.prog 66 #[.float .f64 f] w fun e w' => e = .returned (.int .u64 (cnN f)) ∧ w = w' := by
  have hrb := run_bits f
  have hn := neq_self f
  unfold cnN
  cases hq : nanN f
  · rw [hq] at hn
    go_enter Try.func66, Try.ntmps66
    go_wp2_with fail
    go_ret
    exact ⟨rfl, rfl⟩
  · rw [hq] at hn
    go_enter Try.func66, Try.ntmps66
    go_wp2_with fail
    go_ret
    exact ⟨rfl, rfl⟩
theorem same_any (f g : Nat) (w : World) : Calls Try.prog 67 #[.float .f64 f, .float .f64 g] w fun e w' => e = .returned (.bool (decide (cnN f = cnN g))) ∧ w = w' := by
  have h1 := Lib.hid (bits_any f)
  have h2 := Lib.hid (bits_any g)
  obtain ⟨a, ha⟩ : ∃ a, cnN f = a := ⟨_, rfl⟩
  obtain ⟨b, hb⟩ : ∃ b, cnN g = b := ⟨_, rfl⟩
  rw [ha] at h1 ⊢
  rw [hb] at h2 ⊢
  clear ha hb
  have hd : ((a : Int) == (b : Int)) = decide (a = b) := by
    by_cases e : a = b
    · subst e; simp
    · have : ¬ (a : Int) = b := by omega
      simp [e, this]
  go_enter Try.func67, Try.ntmps67
  go_wp2_with fail
  refine (h1.out w).mono ?_
  rintro e w1 ⟨rfl, rfl⟩
  go_wp2_with fail
  refine (h2.out w).mono ?_
  rintro e w1 ⟨rfl, rfl⟩
  go_wp2_with fail
  go_ret
  exact ⟨rfl, rfl⟩
set_option maxHeartbeats 1000000 in
theorem rkey_any (f : Nat) (w : World) (hf : f < 18446744073709551616) : Calls Try.prog 50 #[.float .f64 f] w fun e w' => e = .returned (.int .i64 (keyN f)) ∧ w = w' := by
  have h1 := Lib.hid (bits_any f)
  have hn := neq_self f
  unfold keyN
  unfold cnN at h1
  cases hq : nanN f
  · rw [hq, if_neg (by simp)] at h1
    rw [hq] at hn
    rw [if_neg (by simp)]
    by_cases c : 9223372036854775808 ≤ f
    · rw [if_pos c]
      have e1 : ((f : Int) / 9223372036854775808 == 1) = true := by simp; omega
      go_enter Try.func50, Try.ntmps50
      go_wp2_with fail
      refine (h1.out w).mono ?_
      rintro e w1 ⟨rfl, rfl⟩
      go_wp2_with fail
      go_ret
      exact ⟨int_ret (by omega), rfl⟩
    · rw [if_neg c]
      have e1 : ((f : Int) / 9223372036854775808 == 1) = false := by simp; omega
      go_enter Try.func50, Try.ntmps50
      go_wp2_with fail
      refine (h1.out w).mono ?_
      rintro e w1 ⟨rfl, rfl⟩
      go_wp2_with fail
      go_ret
      exact ⟨rfl, rfl⟩
  · rw [hq, if_pos rfl] at h1
    rw [hq] at hn
    rw [if_pos rfl]
    go_enter Try.func50, Try.ntmps50
    go_wp2_with fail
    refine (h1.out w).mono ?_
    rintro e w1 ⟨rfl, rfl⟩
    go_wp2_with fail
    go_ret
    exact ⟨rfl, rfl⟩
theorem keyN_bd {f : Nat} (h : f < 18446744073709551616) : -9223372036854775808 ≤ keyN f ∧ keyN f ≤ 9223372036854775807 := by
  unfold keyN
  split
  · omega
  · split <;> omega
theorem rcmp_any (f g : Nat) (w : World) (hf : f < 18446744073709551616) (hg : g < 18446744073709551616) : Calls Try.prog 29 #[.float .f64 f, .float .f64 g] w fun e w' => e = .returned (.int .i64 (cmpO (keyN f) (keyN g))) ∧ w = w' := by
  have h1 := Lib.hid (fun W => rkey_any f W hf)
  have h2 := Lib.hid (fun W => rkey_any g W hg)
  obtain ⟨a, ha⟩ : ∃ a, keyN f = a := ⟨_, rfl⟩
  obtain ⟨b, hb⟩ : ∃ b, keyN g = b := ⟨_, rfl⟩
  rw [ha] at h1 ⊢
  rw [hb] at h2 ⊢
  clear ha hb
  unfold cmpO
  by_cases c1 : a < b
  · rw [if_pos c1]
    go_enter Try.func29, Try.ntmps29
    go_wp2_with fail
    refine (h1.out w).mono ?_
    rintro e w1 ⟨rfl, rfl⟩
    go_wp2_with fail
    refine (h2.out w).mono ?_
    rintro e w1 ⟨rfl, rfl⟩
    go_wp2_with fail
    go_ret
    exact ⟨rfl, rfl⟩
  · rw [if_neg c1]
    by_cases c2 : b < a
    · rw [if_pos c2]
      go_enter Try.func29, Try.ntmps29
      go_wp2_with fail
      refine (h1.out w).mono ?_
      rintro e w1 ⟨rfl, rfl⟩
      go_wp2_with fail
      refine (h2.out w).mono ?_
      rintro e w1 ⟨rfl, rfl⟩
      go_wp2_with fail
      go_ret
      exact ⟨rfl, rfl⟩
    · rw [if_neg c2]
      go_enter Try.func29, Try.ntmps29
      go_wp2_with fail
      refine (h1.out w).mono ?_
      rintro e w1 ⟨rfl, rfl⟩
      go_wp2_with fail
      refine (h2.out w).mono ?_
      rintro e w1 ⟨rfl, rfl⟩
      go_wp2_with fail
      go_ret
      exact ⟨rfl, rfl⟩

set_option maxRecDepth 100000 in
set_option maxHeartbeats 2000000 in
theorem pkey_any (f : Nat) (w : World) (hf : f < 18446744073709551616) : Calls Try.prog 49 #[.float .f64 f] w fun e w' => e = .returned (.int .i64 (keyN f)) ∧ Below w.heap.size w w' := by
  have hrb := run_bits f
  rw [← key_eq hf]
  unfold keyP
  have HN := Lib.hid (fun W => canon_dbl f W)
  obtain ⟨b, hb⟩ : ∃ b, canonV (f : Int) = b := ⟨_, rfl⟩
  have hb1 : 0 ≤ b ∧ b < 18446744073709551616 := by
    rw [← hb, canon_eq hf]
    have := cnN_lt hf
    omega
  rw [hb] at HN ⊢
  clear hb
  have HM := Lib.hid (fun W => nan_dbl b W)
  obtain ⟨q, hq⟩ : ∃ q, nanV b = q := ⟨_, rfl⟩
  rw [hq] at HM ⊢
  clear hq
  obtain ⟨r, hr⟩ : ∃ r, (bits .and .u64 b 9223372036854775808 != 0) = r := ⟨_, rfl⟩
  rw [hr]
  go_enter Try.func49, Try.ntmps49
  go_wp2_with fail
  refine (of_dbl w).mono ?_
  rintro e w1 ⟨rfl, hw1⟩
  have HF := Lib.hid (fmt_at w1 120)
  have HB := Lib.hid (back_of hw1 (fmt_below w1 120))
  clear hw1
  go_wp2_with fail
  generalize hW : w1.alloc (.cells #[.int .u64 52, .int .i64 2047, .int .i64 1075] 120) = W0 at *
  clear hW
  generalize w1.heap.size = fg at *
  have hc : Below W0.heap.size W0 W0.drew := (Below.refl _ _).drew
  go_region_held3 (fun w' => w'.cell? ⟨fg, 0, none⟩ = some (.int .u64 52) ∧ w'.cell? ⟨fg, 1, none⟩ = some (.int .i64 2047) ∧ w'.cell? ⟨fg, 2, none⟩ = some (.int .i64 1075))
    (first | exact HF.out.2 | exact (HF.out.below hc).2)
    (first | (go_at_call 61; refine (HN.out _).mono ?_; rintro e w1 ⟨rfl, hb1⟩; replace hc := back_of hc hb1; clear hb1))
  have HF2 := Lib.hid (HF.out.below hc)
  have HB2 := Lib.hid (back_of HB.out hc)
  clear hc HN HF HB
  obtain ⟨hg, f0, f1, f2⟩ := HF2.out
  generalize w1 = W1 at *
  go_wp2_with fail
  refine (HM.out _).mono ?_
  rintro e w2 ⟨rfl, hb2⟩
  have HF3 := Lib.hid (HF2.out.below hb2)
  have HB3 := Lib.hid (back_of HB2.out hb2)
  clear hb2 HF2 HB2 HM f0 f1 f2 hg
  obtain ⟨hg, f0, f1, f2⟩ := HF3.out
  cases q
  · go_wp2_with fail
    refine (sign_dbl w2).mono ?_
    rintro e w3 ⟨rfl, hb3⟩
    have HF4 := Lib.hid (HF3.out.below hb3)
    have HB4 := Lib.hid (back_of HB3.out hb3)
    clear hb3 HF3 HB3 f0 f1 f2 hg
    obtain ⟨hg, f0, f1, f2⟩ := HF4.out
    cases r
    · go_wp2_with fail
      go_ret
      exact ⟨int_ret (IntWalk.i64_left _).symm, HB4.out⟩
    · go_wp2_with fail
      refine (sign_dbl w3).mono ?_
      rintro e w4 ⟨rfl, hb4⟩
      go_wp2_with fail
      go_ret
      refine ⟨int_ret ?_, back_of HB4.out hb4⟩
      simp only [IntWalk.i64_left]
  · go_wp2_with fail
    refine (top_any w2).mono ?_
    rintro e w3 ⟨rfl, hb3⟩
    go_wp2_with fail
    go_ret
    exact ⟨rfl, back_of HB3.out hb3⟩
set_option maxHeartbeats 1000000 in
theorem pcmp_any (f g : Nat) (w : World) (hf : f < 18446744073709551616) (hg : g < 18446744073709551616) : Calls Try.prog 27 #[.float .f64 f, .float .f64 g] w fun e w' => e = .returned (.int .i64 (cmpO (keyN f) (keyN g))) ∧ Below w.heap.size w w' := by
  have h1 := Lib.hid (fun W => pkey_any f W hf)
  have h2 := Lib.hid (fun W => pkey_any g W hg)
  obtain ⟨a, ha⟩ : ∃ a, keyN f = a := ⟨_, rfl⟩
  obtain ⟨b, hb⟩ : ∃ b, keyN g = b := ⟨_, rfl⟩
  rw [ha] at h1 ⊢
  rw [hb] at h2 ⊢
  clear ha hb
  unfold cmpO
  by_cases c1 : a < b
  · rw [if_pos c1]
    go_enter Try.func27, Try.ntmps27
    go_wp2_with fail
    refine (h1.out w).mono ?_
    rintro e w1 ⟨rfl, hb1⟩
    go_wp2_with fail
    refine (h2.out w1).mono ?_
    rintro e w2 ⟨rfl, hb2⟩
    go_wp2_with fail
    go_ret
    exact ⟨rfl, back_of hb1 hb2⟩
  · rw [if_neg c1]
    by_cases c2 : b < a
    · rw [if_pos c2]
      go_enter Try.func27, Try.ntmps27
      go_wp2_with fail
      refine (h1.out w).mono ?_
      rintro e w1 ⟨rfl, hb1⟩
      go_wp2_with fail
      refine (h2.out w1).mono ?_
      rintro e w2 ⟨rfl, hb2⟩
      go_wp2_with fail
      go_ret
      exact ⟨rfl, back_of hb1 hb2⟩
    · rw [if_neg c2]
      go_enter Try.func27, Try.ntmps27
      go_wp2_with fail
      refine (h1.out w).mono ?_
      rintro e w1 ⟨rfl, hb1⟩
      go_wp2_with fail
      refine (h2.out w1).mono ?_
      rintro e w2 ⟨rfl, hb2⟩
      go_wp2_with fail
      go_ret
      exact ⟨rfl, back_of hb1 hb2⟩

/-- numbers alike, one by one -/
def sameL (a b : List Nat) : Bool := decide (a.map cnN = b.map cnN)
theorem same_step {a b : List Nat} {k : Nat} (h : (a.take k).map cnN = (b.take k).map cnN) (ha : k < a.length) (hb : k < b.length) (e : cnN (a.getD k 0) = cnN (b.getD k 0)) : (a.take (k + 1)).map cnN = (b.take (k + 1)).map cnN := by
  rw [List.getD_eq_getElem?_getD, List.getElem?_eq_getElem ha, List.getD_eq_getElem?_getD, List.getElem?_eq_getElem hb] at e
  simp only [Option.getD_some] at e
  rw [List.take_add_one, List.take_add_one, List.getElem?_eq_getElem ha, List.getElem?_eq_getElem hb, List.map_append, List.map_append, h]
  simp [e]
theorem same_no {a b : List Nat} {k : Nat} (ha : k < a.length) (hb : k < b.length) (e : cnN (a.getD k 0) ≠ cnN (b.getD k 0)) : sameL a b = false := by
  unfold sameL
  apply decide_eq_false
  intro h
  apply e
  have := congrArg (fun l : List Nat => l.getD k 0) h
  simpa [List.getD_eq_getElem?_getD, ha, hb] using this
set_option maxRecDepth 8000 in
set_option maxHeartbeats 1000000 in
theorem slist_any (A B : Option Addr) (n m c d : Nat) (xa xb : List Nat) (w : World) (ha : FlAt w A n xa) (hb : FlAt w B m xb) (hl : n * 8 ≤ 140737488355328) :
    Calls Try.prog 51 #[.slice A n c, .slice B m d] w fun e w' => e = .returned (.bool (sameL xa xb)) ∧ Below w.heap.size w w' := by
  have HA := Lib.hid ha
  have HB := Lib.hid hb
  have hn := ha.1
  have hm := hb.1
  clear ha hb
  by_cases hnm : n = m
  · subst hnm
    go_enter Try.func51, Try.ntmps51
    go_wp2_with fail
    go_loopw [13] (fun iv wr => ∃ k : Nat, k ≤ n ∧ iv = .int .i64 (k : Int) ∧ Hid ((xa.take k).map cnN = (xb.take k).map cnN ∧ Below w.heap.size w wr)) (fun iv _ => n - (intOf iv).toNat)
    case atStart => exact ⟨0, by omega, rfl, Lib.hid ⟨rfl, Below.refl _ _⟩⟩
    case round =>
      obtain ⟨k, hk, rfl, hh⟩ := hrel
      by_cases hlt : k < n
      · obtain ⟨b1, o1, rfl, hb1, hc1⟩ := HA.out.at hlt
        obtain ⟨b2, o2, rfl, hb2, hc2⟩ := HB.out.at hlt
        have c1 := (hh.out.2.cell (p := ⟨b1, o1 + k, none⟩) hb1).trans hc1
        have c2 := (hh.out.2.cell (p := ⟨b2, o2 + k, none⟩) hb2).trans hc2
        obtain ⟨y, hy⟩ : ∃ y, xa.getD k 0 = y := ⟨_, rfl⟩
        obtain ⟨z, hz⟩ : ∃ z, xb.getD k 0 = z := ⟨_, rfl⟩
        have HYZ := Lib.hid (And.intro hy hz)
        rw [hy] at c1
        rw [hz] at c2
        have hki : (k : Int) < (n : Int) := by omega
        have hk0 : (0 : Int) ≤ (k : Int) := by omega
        have HS := Lib.hid (fun W => same_any y z W)
        clear hc1 hc2 hy hz
        by_cases q : cnN y = cnN z
        · have HQ := Lib.hid q
          rw [decide_eq_true q] at HS
          clear q
          go_wp2_with fail
          go_quiet ((go_at_call 67; exact Calls.quiet_of_same ((HS.out _).mono fun _ _ h => ⟨h.1, h.2.symm⟩)))
          go_wp2_with fail
          go_roundw
          case rel => exact ⟨k + 1, by omega, by go_num, Lib.hid ⟨same_step hh.out.1 (by omega) (by omega) (by rw [HYZ.out.1, HYZ.out.2]; exact HQ.out), below_drewN hh.out.2 _⟩⟩
          case measure => simp [intOf]; omega
        · have HQ := Lib.hid q
          rw [decide_eq_false q] at HS
          clear q
          go_wp2_with fail
          go_quiet ((go_at_call 67; exact Calls.quiet_of_same ((HS.out _).mono fun _ _ h => ⟨h.1, h.2.symm⟩)))
          go_wp2_with fail
          go_ret
          exact ⟨by rw [same_no (k := k) (by omega) (by omega) (by rw [HYZ.out.1, HYZ.out.2]; exact HQ.out)]; rfl, below_drewN hh.out.2 _⟩
      · have hkn : k = n := by omega
        subst hkn
        go_wp2_with fail
        go_ret
        refine ⟨?_, hh.out.2⟩
        have := hh.out.1
        rw [List.take_of_length_le (by omega), List.take_of_length_le (by omega)] at this
        unfold sameL
        rw [decide_eq_true this]
        rfl
  · have hnm' : ¬ (n : Int) = (m : Int) := by omega
    have hnb : ((n : Int) != (m : Int)) = true := bne_iff_ne.2 hnm'
    go_enter Try.func51, Try.ntmps51
    go_wp2_with fail
    go_ret
    refine ⟨?_, Below.refl _ _⟩
    unfold sameL
    rw [decide_eq_false (fun e => hnm (by have := congrArg List.length e; simpa [hn, hm] using this))]
    rfl
end Go.Proofs.Ytebacmmfjadalaa
