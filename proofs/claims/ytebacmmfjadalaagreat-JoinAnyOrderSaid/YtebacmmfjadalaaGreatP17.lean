/- K5 N2 in one text. -/
import Derived.Test.YtebacmmfjadalaaGreatP15
import Derived.Test.YtebacmmfjadalaaGreatP16
import Derived.WalkLawsBesides
import Derived.Deep.QuietTactic
import Derived.BigQuiet
import Derived.Test.YtebacmmfjadalaaGreatP05
import Derived.Test.YtebacmmfjadalaaGreatP04

namespace Go.Proofs.YtebacmmfjadalaaGreat
open Go Go.RowKit

theorem int_ret {a b : Int} (h : a = b) : Ending.returned (.int .i64 a) = .returned (.int .i64 b) := by rw [h]
theorem top_any (w : World) : Calls Tryz.prog 124 #[] w fun e w' => e = .returned (.int .i64 9218868437227405312) ∧ Below w.heap.size w w' := by
  go_enter Tryz.func124, Tryz.ntmps124
  go_wp2_with fail
  refine (of_dbl w).mono ?_
  rintro e w1 ⟨rfl, hb1⟩
  go_wp2_with fail
  refine (infinite_dbl w1).mono ?_
  rintro e w2 ⟨rfl, hb2⟩
  go_wp2_with fail
  go_ret
  exact ⟨rfl, back_of hb1 hb2⟩
theorem bits_any (f : Nat) (w : World) : Calls Tryz.prog 96 #[.float .f64 f] w fun e w' => e = .returned (.int .u64 (cnN f)) ∧ w = w' := by
  have hrb := run_bits f
  have hn := neq_self f
  unfold cnN
  cases hq : nanN f
  · rw [hq] at hn
    go_enter Tryz.func96, Tryz.ntmps96
    go_wp2_with fail
    go_ret
    exact ⟨rfl, rfl⟩
  · rw [hq] at hn
    go_enter Tryz.func96, Tryz.ntmps96
    go_wp2_with fail
    go_ret
    exact ⟨rfl, rfl⟩
theorem same_any (f g : Nat) (w : World) : Calls Tryz.prog 79 #[.float .f64 f, .float .f64 g] w fun e w' => e = .returned (.bool (decide (cnN f = cnN g))) ∧ w = w' := by
  have h1 := Lib.hid (bits_any f)
  have h2 := Lib.hid (bits_any g)
  obtain ⟨a, ha⟩ : ∃ a, cnN f = a := ⟨_, rfl⟩
  obtain ⟨b, hb⟩ : ∃ b, cnN g = b := ⟨_, rfl⟩
  rw [ha] at h1 ⊢
  rw [hb] at h2 ⊢
  clear ha hb
  have hd : ((a : Int) == (b : Int)) = decide (a = b) := by
    by_cases e : a = b
    · subst e; simp
    · have : ¬ (a : Int) = b := by omega
      simp [e, this]
  go_enter Tryz.func79, Tryz.ntmps79
  go_wp2_with fail
  refine (h1.out w).mono ?_
  rintro e w1 ⟨rfl, rfl⟩
  go_wp2_with fail
  refine (h2.out w).mono ?_
  rintro e w1 ⟨rfl, rfl⟩
  go_wp2_with fail
  go_ret
  exact ⟨rfl, rfl⟩
set_option maxHeartbeats 1000000 in
theorem rkey_any (f : Nat) (w : World) (hf : f < 18446744073709551616) : Calls Tryz.prog 93 #[.float .f64 f] w fun e w' => e = .returned (.int .i64 (keyN f)) ∧ w = w' := by
  have h1 := Lib.hid (bits_any f)
  have hn := neq_self f
  unfold keyN
  unfold cnN at h1
  cases hq : nanN f
  · rw [hq, if_neg (by simp)] at h1
    rw [hq] at hn
    rw [if_neg (by simp)]
    by_cases c : 9223372036854775808 ≤ f
    · rw [if_pos c]
      have e1 : ((f : Int) / 9223372036854775808 == 1) = true := by simp; omega
      go_enter Tryz.func93, Tryz.ntmps93
      go_wp2_with fail
      refine (h1.out w).mono ?_
      rintro e w1 ⟨rfl, rfl⟩
      go_wp2_with fail
      go_ret
      exact ⟨int_ret (by omega), rfl⟩
    · rw [if_neg c]
      have e1 : ((f : Int) / 9223372036854775808 == 1) = false := by simp; omega
      go_enter Tryz.func93, Tryz.ntmps93
      go_wp2_with fail
      refine (h1.out w).mono ?_
      rintro e w1 ⟨rfl, rfl⟩
      go_wp2_with fail
      go_ret
      exact ⟨rfl, rfl⟩
  · rw [hq, if_pos rfl] at h1
    rw [hq] at hn
    rw [if_pos rfl]
    go_enter Tryz.func93, Tryz.ntmps93
    go_wp2_with fail
    refine (h1.out w).mono ?_
    rintro e w1 ⟨rfl, rfl⟩
    go_wp2_with fail
    go_ret
    exact ⟨rfl, rfl⟩
theorem keyN_bd {f : Nat} (h : f < 18446744073709551616) : -9223372036854775808 ≤ keyN f ∧ keyN f ≤ 9223372036854775807 := by
  unfold keyN
  split
  · omega
  · split <;> omega
theorem rcmp_any (f g : Nat) (w : World) (hf : f < 18446744073709551616) (hg : g < 18446744073709551616) : Calls Tryz.prog 77 #[.float .f64 f, .float .f64 g] w fun e w' => e = .returned (.int .i64 (cmpO (keyN f) (keyN g))) ∧ w = w' := by
  have h1 := Lib.hid (fun W => rkey_any f W hf)
  have h2 := Lib.hid (fun W => rkey_any g W hg)
  obtain ⟨a, ha⟩ : ∃ a, keyN f = a := ⟨_, rfl⟩
  obtain ⟨b, hb⟩ : ∃ b, keyN g = b := ⟨_, rfl⟩
  rw [ha] at h1 ⊢
  rw [hb] at h2 ⊢
  clear ha hb
  unfold cmpO
  by_cases c1 : a < b
  · rw [if_pos c1]
    go_enter Tryz.func77, Tryz.ntmps77
    go_wp2_with fail
    refine (h1.out w).mono ?_
    rintro e w1 ⟨rfl, rfl⟩
    go_wp2_with fail
    refine (h2.out w).mono ?_
    rintro e w1 ⟨rfl, rfl⟩
    go_wp2_with fail
    go_ret
    exact ⟨rfl, rfl⟩
  · rw [if_neg c1]
    by_cases c2 : b < a
    · rw [if_pos c2]
      go_enter Tryz.func77, Tryz.ntmps77
      go_wp2_with fail
      refine (h1.out w).mono ?_
      rintro e w1 ⟨rfl, rfl⟩
      go_wp2_with fail
      refine (h2.out w).mono ?_
      rintro e w1 ⟨rfl, rfl⟩
      go_wp2_with fail
      go_ret
      exact ⟨rfl, rfl⟩
    · rw [if_neg c2]
      go_enter Tryz.func77, Tryz.ntmps77
      go_wp2_with fail
      refine (h1.out w).mono ?_
      rintro e w1 ⟨rfl, rfl⟩
      go_wp2_with fail
      refine (h2.out w).mono ?_
      rintro e w1 ⟨rfl, rfl⟩
      go_wp2_with fail
      go_ret
      exact ⟨rfl, rfl⟩

set_option maxRecDepth 100000 in
set_option maxHeartbeats 2000000 in
theorem pkey_any (f : Nat) (w : World) (hf : f < 18446744073709551616) : Calls Tryz.prog 116 #[.float .f64 f] w fun e w' => e = .returned (.int .i64 (keyN f)) ∧ Below w.heap.size w w' := by
  have hrb := run_bits f
  rw [← key_eq hf]
  unfold keyP
  have HN := Lib.hid (fun W => canon_dbl f W)
  obtain ⟨b, hb⟩ : ∃ b, canonV (f : Int) = b := ⟨_, rfl⟩
  have hb1 : 0 ≤ b ∧ b < 18446744073709551616 := by
    rw [← hb, canon_eq hf]
    have := cnN_lt hf
    omega
  rw [hb] at HN ⊢
  clear hb
  have HM := Lib.hid (fun W => nan_dbl b W)
  obtain ⟨q, hq⟩ : ∃ q, nanV b = q := ⟨_, rfl⟩
  rw [hq] at HM ⊢
  clear hq
  obtain ⟨r, hr⟩ : ∃ r, (bits .and .u64 b 9223372036854775808 != 0) = r := ⟨_, rfl⟩
  rw [hr]
  go_enter Tryz.func116, Tryz.ntmps116
  go_wp2_with fail
  refine (of_dbl w).mono ?_
  rintro e w1 ⟨rfl, hw1⟩
  have HF := Lib.hid (fmt_at w1 164)
  have HB := Lib.hid (back_of hw1 (fmt_below w1 164))
  clear hw1
  go_wp2_with fail
  generalize hW : w1.alloc (.cells #[.int .u64 52, .int .i64 2047, .int .i64 1075] 164) = W0 at *
  clear hW
  generalize w1.heap.size = fg at *
  have hc : Below W0.heap.size W0 W0.drew := (Below.refl _ _).drew
  go_region_held3 (fun w' => w'.cell? ⟨fg, 0, none⟩ = some (.int .u64 52) ∧ w'.cell? ⟨fg, 1, none⟩ = some (.int .i64 2047) ∧ w'.cell? ⟨fg, 2, none⟩ = some (.int .i64 1075))
    (first | exact HF.out.2 | exact (HF.out.below hc).2)
    (first | (go_at_call 118; refine (HN.out _).mono ?_; rintro e w1 ⟨rfl, hb1⟩; replace hc := back_of hc hb1; clear hb1))
  have HF2 := Lib.hid (HF.out.below hc)
  have HB2 := Lib.hid (back_of HB.out hc)
  clear hc HN HF HB
  obtain ⟨hg, f0, f1, f2⟩ := HF2.out
  generalize w1 = W1 at *
  go_wp2_with fail
  refine (HM.out _).mono ?_
  rintro e w2 ⟨rfl, hb2⟩
  have HF3 := Lib.hid (HF2.out.below hb2)
  have HB3 := Lib.hid (back_of HB2.out hb2)
  clear hb2 HF2 HB2 HM f0 f1 f2 hg
  obtain ⟨hg, f0, f1, f2⟩ := HF3.out
  cases q
  · go_wp2_with fail
    refine (sign_dbl w2).mono ?_
    rintro e w3 ⟨rfl, hb3⟩
    have HF4 := Lib.hid (HF3.out.below hb3)
    have HB4 := Lib.hid (back_of HB3.out hb3)
    clear hb3 HF3 HB3 f0 f1 f2 hg
    obtain ⟨hg, f0, f1, f2⟩ := HF4.out
    cases r
    · go_wp2_with fail
      go_ret
      exact ⟨int_ret (IntWalk.i64_left _).symm, HB4.out⟩
    · go_wp2_with fail
      refine (sign_dbl w3).mono ?_
      rintro e w4 ⟨rfl, hb4⟩
      go_wp2_with fail
      go_ret
      refine ⟨int_ret ?_, back_of HB4.out hb4⟩
      simp only [IntWalk.i64_left]
  · go_wp2_with fail
    refine (top_any w2).mono ?_
    rintro e w3 ⟨rfl, hb3⟩
    go_wp2_with fail
    go_ret
    exact ⟨rfl, back_of HB3.out hb3⟩
set_option maxHeartbeats 1000000 in
theorem pcmp_any (f g : Nat) (w : World) (hf : f < 18446744073709551616) (hg : g < 18446744073709551616) : Calls Tryz.prog 102 #[.float .f64 f, .float .f64 g] w fun e w' => e = .returned (.int .i64 (cmpO (keyN f) (keyN g))) ∧ Below w.heap.size w w' := by
  have h1 := Lib.hid (fun W => pkey_any f W hf)
  have h2 := Lib.hid (fun W => pkey_any g W hg)
  obtain ⟨a, ha⟩ : ∃ a, keyN f = a := ⟨_, rfl⟩
  obtain ⟨b, hb⟩ : ∃ b, keyN g = b := ⟨_, rfl⟩
  rw [ha] at h1 ⊢
  rw [hb] at h2 ⊢
  clear ha hb
  unfold cmpO
  by_cases c1 : a < b
  · rw [if_pos c1]
    go_enter Tryz.func102, Tryz.ntmps102
    go_wp2_with fail
    refine (h1.out w).mono ?_
    rintro e w1 ⟨rfl, hb1⟩
    go_wp2_with fail
    refine (h2.out w1).mono ?_
    rintro e w2 ⟨rfl, hb2⟩
    go_wp2_with fail
    go_ret
    exact ⟨rfl, back_of hb1 hb2⟩
  · rw [if_neg c1]
    by_cases c2 : b < a
    · rw [if_pos c2]
      go_enter Tryz.func102, Tryz.ntmps102
      go_wp2_with fail
      refine (h1.out w).mono ?_
      rintro e w1 ⟨rfl, hb1⟩
      go_wp2_with fail
      refine (h2.out w1).mono ?_
      rintro e w2 ⟨rfl, hb2⟩
      go_wp2_with fail
      go_ret
      exact ⟨rfl, back_of hb1 hb2⟩
    · rw [if_neg c2]
      go_enter Tryz.func102, Tryz.ntmps102
      go_wp2_with fail
      refine (h1.out w).mono ?_
      rintro e w1 ⟨rfl, hb1⟩
      go_wp2_with fail
      refine (h2.out w1).mono ?_
      rintro e w2 ⟨rfl, hb2⟩
      go_wp2_with fail
      go_ret
      exact ⟨rfl, back_of hb1 hb2⟩

/-- numbers alike, one by one -/
def sameL (a b : List Nat) : Bool := decide (a.map cnN = b.map cnN)
theorem same_step {a b : List Nat} {k : Nat} (h : (a.take k).map cnN = (b.take k).map cnN) (ha : k < a.length) (hb : k < b.length) (e : cnN (a.getD k 0) = cnN (b.getD k 0)) : (a.take (k + 1)).map cnN = (b.take (k + 1)).map cnN := by
  rw [List.getD_eq_getElem?_getD, List.getElem?_eq_getElem ha, List.getD_eq_getElem?_getD, List.getElem?_eq_getElem hb] at e
  simp only [Option.getD_some] at e
  rw [List.take_add_one, List.take_add_one, List.getElem?_eq_getElem ha, List.getElem?_eq_getElem hb, List.map_append, List.map_append, h]
  simp [e]
theorem same_no {a b : List Nat} {k : Nat} (ha : k < a.length) (hb : k < b.length) (e : cnN (a.getD k 0) ≠ cnN (b.getD k 0)) : sameL a b = false := by
  unfold sameL
  apply decide_eq_false
  intro h
  apply e
  have := congrArg (fun l : List Nat => l.getD k 0) h
  simpa [List.getD_eq_getElem?_getD, ha, hb] using this
set_option maxRecDepth 8000 in
set_option maxHeartbeats 1000000 in
theorem slist_any (A B : Option Addr) (n m c d : Nat) (xa xb : List Nat) (w : World) (ha : FlAt w A n xa) (hb : FlAt w B m xb) (hl : n * 8 ≤ 140737488355328) :
    Calls Tryz.prog 63 #[.slice A n c, .slice B m d] w fun e w' => e = .returned (.bool (sameL xa xb)) ∧ Below w.heap.size w w' := by
  have HA := Lib.hid ha
  have HB := Lib.hid hb
  have hn := ha.1
  have hm := hb.1
  clear ha hb
  by_cases hnm : n = m
  · subst hnm
    go_enter Tryz.func63, Tryz.ntmps63
    go_wp2_with fail
    go_loopw [13] (fun iv wr => ∃ k : Nat, k ≤ n ∧ iv = .int .i64 (k : Int) ∧ Hid ((xa.take k).map cnN = (xb.take k).map cnN ∧ Below w.heap.size w wr)) (fun iv _ => n - (intOf iv).toNat)
    case atStart => exact ⟨0, by omega, rfl, Lib.hid ⟨rfl, Below.refl _ _⟩⟩
    case round =>
      obtain ⟨k, hk, rfl, hh⟩ := hrel
      by_cases hlt : k < n
      · obtain ⟨b1, o1, rfl, hb1, hc1⟩ := HA.out.at hlt
        obtain ⟨b2, o2, rfl, hb2, hc2⟩ := HB.out.at hlt
        have c1 := (hh.out.2.cell (p := ⟨b1, o1 + k, none⟩) hb1).trans hc1
        have c2 := (hh.out.2.cell (p := ⟨b2, o2 + k, none⟩) hb2).trans hc2
        obtain ⟨y, hy⟩ : ∃ y, xa.getD k 0 = y := ⟨_, rfl⟩
        obtain ⟨z, hz⟩ : ∃ z, xb.getD k 0 = z := ⟨_, rfl⟩
        have HYZ := Lib.hid (And.intro hy hz)
        rw [hy] at c1
        rw [hz] at c2
        have hki : (k : Int) < (n : Int) := by omega
        have hk0 : (0 : Int) ≤ (k : Int) := by omega
        have HS := Lib.hid (fun W => same_any y z W)
        clear hc1 hc2 hy hz
        by_cases q : cnN y = cnN z
        · have HQ := Lib.hid q
          rw [decide_eq_true q] at HS
          clear q
          go_wp2_with fail
          go_quiet ((go_at_call 79; exact Calls.quiet_of_same ((HS.out _).mono fun _ _ h => ⟨h.1, h.2.symm⟩)))
          go_wp2_with fail
          go_roundw
          case rel => exact ⟨k + 1, by omega, by go_num, Lib.hid ⟨same_step hh.out.1 (by omega) (by omega) (by rw [HYZ.out.1, HYZ.out.2]; exact HQ.out), below_drewN hh.out.2 _⟩⟩
          case measure => simp [intOf]; omega
        · have HQ := Lib.hid q
          rw [decide_eq_false q] at HS
          clear q
          go_wp2_with fail
          go_quiet ((go_at_call 79; exact Calls.quiet_of_same ((HS.out _).mono fun _ _ h => ⟨h.1, h.2.symm⟩)))
          go_wp2_with fail
          go_ret
          exact ⟨by rw [same_no (k := k) (by omega) (by omega) (by rw [HYZ.out.1, HYZ.out.2]; exact HQ.out)]; rfl, below_drewN hh.out.2 _⟩
      · have hkn : k = n := by omega
        subst hkn
        go_wp2_with fail
        go_ret
        refine ⟨?_, hh.out.2⟩
        have := hh.out.1
        rw [List.take_of_length_le (by omega), List.take_of_length_le (by omega)] at this
        unfold sameL
        rw [decide_eq_true this]
        rfl
  · have hnm' : ¬ (n : Int) = (m : Int) := by omega
    have hnb : ((n : Int) != (m : Int)) = true := bne_iff_ne.2 hnm'
    go_enter Tryz.func63, Tryz.ntmps63
    go_wp2_with fail
    go_ret
    refine ⟨?_, Below.refl _ _⟩
    unfold sameL
    rw [decide_eq_false (fun e => hnm (by have := congrArg List.length e; simpa [hn, hm] using this))]
    rfl
end Go.Proofs.YtebacmmfjadalaaGreat

namespace Go.Proofs.YtebacmmfjadalaaGreat
open Go Go.RowKit

def lexL : List Int → List Int → Int
  | [], [] => 0
  | [], _ :: _ => -1
  | _ :: _, [] => 1
  | a :: l, b :: m => if a < b then -1 else if b < a then 1 else lexL l m
theorem lexL_neg : ∀ l m : List Int, lexL m l = - lexL l m
  | [], [] => rfl
  | [], _ :: _ => rfl
  | _ :: _, [] => rfl
  | a :: l, b :: m => by
    rw [lexL, lexL]
    by_cases h1 : a < b
    · rw [if_pos h1, if_neg (by omega), if_pos h1]
      rfl
    · by_cases h2 : b < a
      · simp [h1, h2]
      · rw [if_neg h1, if_neg h2, if_neg h2, if_neg h1]
        exact lexL_neg l m
theorem lexL_eq : ∀ l m : List Int, lexL l m = 0 → l = m
  | [], [], _ => rfl
  | [], _ :: _, h => by simp [lexL] at h
  | _ :: _, [], h => by simp [lexL] at h
  | a :: l, b :: m, h => by
    rw [lexL] at h
    by_cases h1 : a < b
    · rw [if_pos h1] at h; omega
    · by_cases h2 : b < a
      · rw [if_neg h1, if_pos h2] at h; omega
      · rw [if_neg h1, if_neg h2] at h
        rw [lexL_eq l m h, show a = b by omega]
theorem lexL_self (l : List Int) : lexL l l = 0 := by
  have := lexL_neg l l
  omega
theorem lexL_ntr : ∀ a b c : List Int, lexL a c < 0 → lexL a b < 0 ∨ lexL b c < 0
  | a, [], c, h => by
    cases c with
    | nil => exact .inl h
    | cons z c => exact .inr (by simp [lexL])
  | [], y :: b, c, _ => .inl (by simp [lexL])
  | x :: a, y :: b, [], h => by simp [lexL] at h
  | x :: a, y :: b, z :: c, h => by
    rw [lexL] at h
    rw [lexL, lexL]
    by_cases h1 : x < y
    · rw [if_pos h1]; exact .inl (by omega)
    · by_cases h2 : y < z
      · rw [if_pos h2]; exact .inr (by omega)
      · by_cases h3 : z < x
        · rw [if_neg (by omega), if_pos h3] at h; omega
        · rw [if_neg (by omega), if_neg h3] at h
          rw [if_neg h1, if_neg (by omega), if_neg h2, if_neg (by omega)]
          exact lexL_ntr a b c h
theorem lexL_swo {α : Type} (f : α → List Int) : Swo (fun a b : α => lexL (f a) (f b)) :=
  ⟨fun a b h => by have := lexL_neg (f a) (f b); omega, fun a b c h => lexL_ntr _ _ _ h⟩
theorem lexL_at : ∀ (l m : List Int) (k : Nat) (x y : Int), l.take k = m.take k → l[k]? = some x → m[k]? = some y → cmpO x y ≠ 0 → lexL l m = cmpO x y
  | a :: l, b :: m, 0, x, y, _, h1, h2, h3 => by
    simp at h1 h2
    subst h1 h2
    unfold cmpO at h3 ⊢
    rw [lexL]
    split
    · rfl
    · split
      · rfl
      · rename_i c1 c2; simp [c1, c2] at h3
  | a :: l, b :: m, k + 1, x, y, h, h1, h2, h3 => by
    simp at h h1 h2
    obtain ⟨rfl, h⟩ := h
    rw [lexL, if_neg (by omega), if_neg (by omega)]
    exact lexL_at l m k x y h h1 h2 h3
  | [], _, _, _, _, _, h1, _, _ => by simp at h1
  | _ :: _, [], _, _, _, _, _, h2, _ => by simp at h2

/-- all that a timed reading is told apart by -/
def El.key (e : El) : List Int := e.at_ :: e.se :: e.sq :: e.st :: (e.n : Int) :: e.bs.map keyN
def cmpK (a b : El) : Int := lexL a.key b.key
theorem cmpK_swo : Swo cmpK := lexL_swo El.key
theorem cmpK_at {a b : El} (h : Le cmpK a b) : a.at_ ≤ b.at_ := by
  rcases Int.lt_or_le b.at_ a.at_ with h' | h'
  · exact absurd (by unfold cmpK El.key; rw [lexL, if_pos h']; omega) h
  · exact h'
theorem cmpO_zero {a b : Int} (h : cmpO a b = 0) : a = b := by
  unfold cmpO at h
  split at h
  · omega
  · split at h <;> omega
theorem cmpO_self (a : Int) : cmpO a a = 0 := by unfold cmpO; simp
theorem headK {a b : El} (h : headC a b ≠ 0) : cmpK a b = headC a b := by
  unfold headC orL at h ⊢
  unfold cmpK El.key
  by_cases c1 : cmpO a.at_ b.at_ = 0
  · rw [if_pos c1] at h ⊢
    rw [lexL, if_neg (by have := cmpO_zero c1; omega), if_neg (by have := cmpO_zero c1; omega)]
    unfold orL at h ⊢
    by_cases c2 : cmpO a.se b.se = 0
    · rw [if_pos c2] at h ⊢
      rw [lexL, if_neg (by have := cmpO_zero c2; omega), if_neg (by have := cmpO_zero c2; omega)]
      unfold orL at h ⊢
      by_cases c3 : cmpO a.sq b.sq = 0
      · rw [if_pos c3] at h ⊢
        rw [lexL, if_neg (by have := cmpO_zero c3; omega), if_neg (by have := cmpO_zero c3; omega)]
        unfold orL at h ⊢
        by_cases c4 : cmpO a.st b.st = 0
        · rw [if_pos c4] at h ⊢
          rw [lexL, if_neg (by have := cmpO_zero c4; omega), if_neg (by have := cmpO_zero c4; omega)]
          unfold orL at h ⊢
          by_cases c5 : cmpO a.n b.n = 0
          · rw [if_pos c5] at h; simp [orL] at h
          · rw [if_neg c5]
            exact lexL_at _ _ 0 _ _ rfl rfl rfl c5
        · rw [if_neg c4]
          exact lexL_at _ _ 0 _ _ rfl rfl rfl c4
      · rw [if_neg c3]
        exact lexL_at _ _ 0 _ _ rfl rfl rfl c3
    · rw [if_neg c2]
      exact lexL_at _ _ 0 _ _ rfl rfl rfl c2
  · rw [if_neg c1]
    exact lexL_at _ _ 0 _ _ rfl rfl rfl c1
theorem headK_zero {a b : El} (h : headC a b = 0) : cmpK a b = lexL (a.bs.map keyN) (b.bs.map keyN) ∧ a.n = b.n := by
  unfold headC orL at h
  unfold cmpK El.key
  split at h
  · rename_i c1
    unfold orL at h
    split at h
    · rename_i c2
      unfold orL at h
      split at h
      · rename_i c3
        unfold orL at h
        split at h
        · rename_i c4
          unfold orL at h
          split at h
          · rename_i c5
            have e1 := cmpO_zero c1
            have e2 := cmpO_zero c2
            have e3 := cmpO_zero c3
            have e4 := cmpO_zero c4
            have e5 := cmpO_zero c5
            rw [lexL, if_neg (by omega), if_neg (by omega), lexL, if_neg (by omega), if_neg (by omega), lexL, if_neg (by omega), if_neg (by omega), lexL, if_neg (by omega), if_neg (by omega), lexL, if_neg (by omega), if_neg (by omega)]
            exact ⟨rfl, by omega⟩
          · rename_i c5; exact absurd h c5
        · rename_i c4; exact absurd h c4
      · rename_i c3; exact absurd h c3
    · rename_i c2; exact absurd h c2
  · rename_i c1; exact absurd h c1
theorem key_step {a b : List Nat} {k : Nat} (h : (a.take k).map keyN = (b.take k).map keyN) (ha : k < a.length) (hb : k < b.length) (e : cmpO (keyN (a.getD k 0)) (keyN (b.getD k 0)) = 0) : (a.take (k + 1)).map keyN = (b.take (k + 1)).map keyN := by
  have e := cmpO_zero e
  rw [List.getD_eq_getElem?_getD, List.getElem?_eq_getElem ha, List.getD_eq_getElem?_getD, List.getElem?_eq_getElem hb] at e
  simp only [Option.getD_some] at e
  rw [List.take_add_one, List.take_add_one, List.getElem?_eq_getElem ha, List.getElem?_eq_getElem hb, List.map_append, List.map_append, h]
  simp [e]
theorem key_no {a b : List Nat} {k : Nat} (h : (a.take k).map keyN = (b.take k).map keyN) (ha : k < a.length) (hb : k < b.length) (e : cmpO (keyN (a.getD k 0)) (keyN (b.getD k 0)) ≠ 0) : lexL (a.map keyN) (b.map keyN) = cmpO (keyN (a.getD k 0)) (keyN (b.getD k 0)) := by
  refine lexL_at _ _ k _ _ (by rw [← List.map_take, ← List.map_take]; exact h) ?_ ?_ e
  · rw [List.getElem?_map, List.getD_eq_getElem?_getD, List.getElem?_eq_getElem ha]; rfl
  · rw [List.getElem?_map, List.getD_eq_getElem?_getD, List.getElem?_eq_getElem hb]; rfl
theorem key_all {a b : List Nat} {n : Nat} (h : (a.take n).map keyN = (b.take n).map keyN) (ha : a.length = n) (hb : b.length = n) : lexL (a.map keyN) (b.map keyN) = 0 := by
  rw [List.take_of_length_le (by omega), List.take_of_length_le (by omega)] at h
  rw [h]
  exact lexL_self _
end Go.Proofs.YtebacmmfjadalaaGreat
