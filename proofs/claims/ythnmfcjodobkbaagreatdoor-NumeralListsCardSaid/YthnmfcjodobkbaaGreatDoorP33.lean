/- X9 X10 X11 X12 in one text. -/
import Derived.Test.YthnmfcjodobkbaaGreatDoorP28
import Derived.Test.YthnmfcjodobkbaaGreatDoorP32
import Derived.Test.YthnmfcjodobkbaaGreatDoorP24
import Derived.Deep.LoopGhost
import Derived.BigQuiet

namespace Go.Proofs.YthnmfcjodobkbaaGreatDoor
open Go Go.RowKit Nb Nx

/-- a finite number's mantissa, the place of its last bit -/
def bigM (f : Nat) : Nat := if f / 4503599627370496 % 2048 = 0 then f % 4503599627370496 else f % 4503599627370496 + 4503599627370496
def bigX (f : Nat) : Int := if f / 4503599627370496 % 2048 = 0 then -1074 else (f / 4503599627370496 % 2048 : Nat) - 1075
/-- the same with an odd mantissa -/
def oddM (f : Nat) : Nat := bigM f / 2 ^ Lib.ctz 64 (bigM f)
def oddX (f : Nat) : Int := bigX f + (Lib.ctz 64 (bigM f) : Nat)
def fracR (m : Nat) : Nat := m * 2 ^ (53 - Lib.bitLen m) - 4503599627370496
/-- hexadecimal digits behind a point -/
def pointL (m : Nat) : List UInt8 := if Lib.bitLen m = 1 then [] else 46 :: digs 13 (fracR m)
def numL (m : Nat) (X : Int) : List UInt8 := [48, 120, 49] ++ pointL m ++ 112 :: Lib.itoa (X + (Lib.bitLen m : Nat) - 1)
/-- the hex form of any number -/
def hexL (f : Nat) : List UInt8 := if specL f = [] then sgL f ++ (if f % 9223372036854775808 = 0 then [48, 120, 48, 112, 48] else numL (oddM f) (oddX f)) else specL f

theorem spec_fin {f : Nat} (hf : f < 18446744073709551616) : specL f = [] ↔ f % 9223372036854775808 < 9218868437227405312 := by
  unfold specL nanN
  constructor
  · intro h
    split at h
    · simp at h
    · rename_i h1
      split at h
      · simp at h
      · split at h
        · simp at h
        · simp at h1
          omega
  · intro h
    rw [if_neg (by simp; omega), if_neg (by omega), if_neg (by omega)]

/-- what is known of a finite number that isn't nought -/
structure FinN (f : Nat) (t : Nat) : Prop where
  fl : Fields f (decide (9223372036854775808 ≤ f)) (f / 4503599627370496 % 2048) (f % 4503599627370496)
  m0 : bigM f = oddM f * 2 ^ t
  ct : Lib.ctz 64 (bigM f) = t
  t6 : t < 64
  od : oddM f % 2 = 1
  up : oddM f < 9007199254740992
  x0 : -1074 ≤ oddX f
  x1 : oddX f ≤ 1024
  xt : oddX f = bigX f + (t : Int)
theorem fields_of {f : Nat} (hf : f < 18446744073709551616) (h : f % 9223372036854775808 < 9218868437227405312) :
    Fields f (decide (9223372036854775808 ≤ f)) (f / 4503599627370496 % 2048) (f % 4503599627370496) := by
  have hc : cnN f = f := by
    unfold cnN nanN
    rw [if_neg (by simp; omega)]
  refine ⟨hf, by rw [sgn_eq hf, hc], ?_, by rw [frc_eq hf, hc], Nat.mod_lt _ (by omega), by omega⟩
  rw [exp_eq hf, hc]
  rw [IntKind.wrap_i64]
  omega
theorem finN {f : Nat} (hf : f < 18446744073709551616) (h : f % 9223372036854775808 < 9218868437227405312) (h0 : f % 9223372036854775808 ≠ 0) : ∃ t, FinN f t := by
  have hM0 : 0 < bigM f := by unfold bigM; split <;> omega
  have hM1 : bigM f < 9007199254740992 := by unfold bigM; split <;> omega
  obtain ⟨m, t, e1, e2, e3, e4⟩ := odd_part (bigM f) hM0 (by omega)
  have hm : oddM f = m := by
    unfold oddM
    rw [e3, e1]
    exact Nat.mul_div_cancel _ (Nat.pow_pos (by omega))
  have ht : t ≤ 53 := by
    rcases Nat.lt_or_ge 53 t with q | q
    · exfalso
      have h1 : 2 ^ 54 ≤ 2 ^ t := Nat.pow_le_pow_right (by omega) q
      have h2 : 1 * 2 ^ t ≤ m * 2 ^ t := Nat.mul_le_mul_right _ (by omega)
      have h3 : (2 : Nat) ^ 54 = 18014398509481984 := by decide
      omega
    · exact q
  have hm1 : m ≤ bigM f := by
    have h2 : m * 1 ≤ m * 2 ^ t := Nat.mul_le_mul_left _ (Nat.pow_pos (by omega))
    omega
  refine ⟨t, fields_of hf h, by rw [hm]; exact e1, e3, e4, by rw [hm]; exact e2, by rw [hm]; omega, ?_, ?_, by unfold oddX; rw [e3]⟩
  · unfold oddX bigX; rw [e3]; split <;> omega
  · unfold oddX bigX; rw [e3]; split <;> omega

theorem Parts_any (f t : Nat) (w : World) (hT : Tab64 w) (h : FinN f t) :
    Calls Tryz.prog 39 #[.float .f64 f] w fun e w' => e = .returned (.tuple #[.agg #[.bool (decide (9223372036854775808 ≤ f)), .int .u64 (oddM f : Int), .int .i64 (oddX f)], .int .i64 0]) ∧ Below w.heap.size w w' := by
  refine Parts_of f _ _ _ w hT ?_
  intro W hW
  have hx := h.xt
  have hm := h.m0
  have hc := h.ct
  have hM := h.od
  by_cases c : f / 4503599627370496 % 2048 = 0
  · have hfl := h.fl
    rw [c] at hfl
    have e : bigM f = f % 4503599627370496 := by unfold bigM; rw [if_pos c]
    have e2 : bigX f = -1074 := by unfold bigX; rw [if_pos c]
    rw [e] at hm hc
    rw [e2] at hx
    have hne : f % 4503599627370496 ≠ 0 := by
      intro h0
      rw [h0] at hm
      have : 0 < 2 ^ t := Nat.pow_pos (by omega)
      rcases Nat.mul_eq_zero.1 hm.symm with q | q <;> omega
    exact parts_sub f _ (oddM f) t _ (oddX f) W hW hfl hne hm hc h.t6 hx.symm
  · have e : bigM f = f % 4503599627370496 + 4503599627370496 := by unfold bigM; rw [if_neg c]
    have e2 : bigX f = (f / 4503599627370496 % 2048 : Nat) - 1075 := by unfold bigX; rw [if_neg c]
    exact parts_norm f _ _ (bigM f) (oddM f) t _ _ (oddX f) W hW h.fl c e.symm hm hc h.t6 e2.symm hx.symm
theorem Parts_zero (f : Nat) (w : World) (hT : Tab64 w) (hf : f < 18446744073709551616) (h0 : f % 9223372036854775808 = 0) :
    Calls Tryz.prog 39 #[.float .f64 f] w fun e w' => e = .returned (.tuple #[.agg #[.bool (decide (9223372036854775808 ≤ f)), .int .u64 0, .int .i64 0], .int .i64 0]) ∧ Below w.heap.size w w' := by
  refine Parts_of f _ 0 0 w hT ?_
  intro W _
  have hfl := fields_of hf (by omega)
  rw [show f / 4503599627370496 % 2048 = 0 by omega, show f % 4503599627370496 = 0 by omega] at hfl
  exact parts_zero f _ W hfl

theorem digs_len : ∀ (k r : Nat), (digs k r).length ≤ k := by
  intro k
  induction k with
  | zero => intro r; simp [digs]
  | succ k ih =>
    intro r
    unfold digs
    split
    · simp
    · simpa using ih _
theorem point_len (m : Nat) : (pointL m).length ≤ 14 := by
  unfold pointL
  split
  · simp
  · rw [List.length_cons]
    have := digs_len 13 (fracR m)
    omega
theorem itoa_len {E : Int} (h0 : -10000 < E) (h1 : E < 10000) : (Lib.itoa E).length ≤ 20 := by
  unfold Lib.itoa
  have h2 : ∀ n : Nat, n < 10000 → (Lib.decDigits n).length ≤ 19 := fun n hn => dec_len n (by omega)
  split
  · have := h2 E.natAbs (by omega)
    rw [List.length_cons]
    omega
  · have := h2 E.toNat (by omega)
    omega
end Go.Proofs.YthnmfcjodobkbaaGreatDoor

namespace Go.Proofs.YthnmfcjodobkbaaGreatDoor
open Go Go.RowKit Nb Nx

/-- the builder and the parts beside it -/
structure HexU (w W : World) (d : Nat) (g : Bool) (m : Nat) (X : Int) (l : List UInt8) : Prop where
  bd : Bld W w.heap.size w.heap.size l
  b : Below w.heap.size w W
  h : W.heap[d]? = some (.cells #[.bool g, .int .u64 (m : Int), .int .i64 X] 83 (0, 0))
  ne : d ≠ w.heap.size
theorem HexU.next {w W W' : World} {d : Nat} {g : Bool} {m : Nat} {X : Int} {l l' : List UInt8} (h : HexU w W d g m X l) (q : Bld W' w.heap.size w.heap.size l') (b : Below w.heap.size W W') (k : Lib.OthersKept 5 (some w.heap.size) W W') : HexU w W' d g m X l' :=
  ⟨q, h.b.trans b, others_dec k h.ne _ (by decide) h.h, h.ne⟩
theorem hx_at : ∀ (j : Nat) (hj : j < (⟨#[48, 49, 50, 51, 52, 53, 54, 55, 56, 57, 97, 98, 99, 100, 101, 102]⟩ : ByteArray).size), (⟨#[48, 49, 50, 51, 52, 53, 54, 55, 56, 57, 97, 98, 99, 100, 101, 102]⟩ : ByteArray)[j]'hj = hxd j
  | 0, _ => rfl
  | 1, _ => rfl
  | 2, _ => rfl
  | 3, _ => rfl
  | 4, _ => rfl
  | 5, _ => rfl
  | 6, _ => rfl
  | 7, _ => rfl
  | 8, _ => rfl
  | 9, _ => rfl
  | 10, _ => rfl
  | 11, _ => rfl
  | 12, _ => rfl
  | 13, _ => rfl
  | 14, _ => rfl
  | 15, _ => rfl
  | k + 16, h => absurd h (by show ¬ k + 16 < 16; omega)
theorem hxd_idx : ∀ (q : Nat) (c : Int), q < 16 → c = ((hxd q).toNat : Int) → ∀ W, (Instr.index 9 (.string ⟨#[48, 49, 50, 51, 52, 53, 54, 55, 56, 57, 97, 98, 99, 100, 101, 102]⟩) (.int .u64 (q : Int))).run Tryz.prog W = .ok (.int .u8 c) W := by
  rintro q c hq rfl W
  have h16 : (⟨#[48, 49, 50, 51, 52, 53, 54, 55, 56, 57, 97, 98, 99, 100, 101, 102]⟩ : ByteArray).size = 16 := rfl
  rw [run_index_string W 9 _ .u64 q (by kernel_rfl), dif_pos (by rw [h16]; omega)]
  simp only [hx_at, Int.toNat_natCast]
/-- how far the digits are -/
structure DigS (L l : List UInt8) (k r : Nat) : Prop where
  ok : FracOk k r
  eq : l ++ digs k r = L
set_option maxRecDepth 8000 in
set_option maxHeartbeats 2000000 in
theorem hex_num (f t : Nat) (w : World) (hT : Tab64 w) (hP : TabP w) (hs : specL f = []) (hf : FinN f t) :
    Calls Tryz.prog 20 #[.float .f64 f] w fun e w' => e = .returned (.string ⟨(sgL f ++ numL (oddM f) (oddX f)).toArray⟩) ∧ Below w.heap.size w w' := by
  have HT := Lib.hid hT
  have HP := Lib.hid hP
  have HSp := Lib.hid (fun W => special_any f W hf.fl.f64)
  rw [hs] at HSp
  have HBg := Lib.hid (fun W => begun_any f W hf.fl.f64)
  have HPa := Lib.hid (fun W hW => Parts_any f t W hW hf)
  have hx := hexm (oddM f) hf.od hf.up
  have hx0 := hf.x0
  have hx1 := hf.x1
  have hm0 : oddM f ≠ 0 := by have := hf.od; omega
  have hm1 := hf.up
  have hL : Hid (∀ n, Lib.bitLen (oddM f) = n → numL (oddM f) (oddX f) = [48, 120, 49] ++ (if n = 1 then [] else 46 :: digs 13 (oddM f * 2 ^ (53 - n) - 4503599627370496)) ++ 112 :: Lib.itoa (oddX f + (n : Int) - 1)) := Lib.hid (by rintro n rfl; rfl)
  have hgl : (sgL f).length ≤ 1 := by unfold sgL; split <;> simp
  clear hT hP hs hf
  generalize decide (9223372036854775808 ≤ f) = g at *
  generalize oddM f = m at *
  generalize oddX f = X at *
  generalize sgL f = S at *
  obtain ⟨n, hn⟩ : ∃ n, Lib.bitLen m = n := ⟨_, rfl⟩
  rw [hn] at hx
  obtain ⟨NL, hNL⟩ : ∃ NL, numL m X = NL := ⟨_, rfl⟩
  rw [hNL] at hL
  rw [hNL]
  clear hNL
  replace hL := Lib.hid (hL.out n hn)
  have HX := Lib.hid hx
  have HN := Lib.hid hn
  have HZ := Lib.hid (And.intro hm0 hm1)
  have HE := Lib.hid (And.intro hx0 hx1)
  have hm0' : ((m : Int) == 0) = false := by simpa using hm0
  clear hx hn hm0 hm1 hx0 hx1
  go_enter Tryz.func20, Tryz.ntmps20
  go_wp2_with fail
  refine (HSp.out w).mono ?_
  rintro e w1 ⟨rfl, hw⟩
  obtain rfl := hw.symm
  go_wp2_with fail
  refine (HBg.out w).mono ?_
  rintro e w1 ⟨rfl, d1, b1⟩
  have H1 := Lib.hid (And.intro d1 b1)
  clear d1 b1
  go_wp2_with fail
  refine (HPa.out w1 (HT.out.below H1.out.2)).mono ?_
  rintro e w2 ⟨rfl, b2⟩
  have hA := (Below.refl w2.heap.size w2).alloc (Nat.le_refl _) (.cells #[.bool g, .int .u64 (m : Int), .int .i64 X] 83)
  have HL : Hid (HexU w (w2.alloc (.cells #[.bool g, .int .u64 (m : Int), .int .i64 X] 83)) w2.heap.size g m X S) := Lib.hid ⟨H1.out.1.below (back_of' b2 hA), back_of' H1.out.2 (back_of' b2 hA), by show (w2.heap.push _)[w2.heap.size]? = _; simp, Nat.ne_of_gt (Nat.lt_of_lt_of_le H1.out.1.lt b2.size)⟩
  clear b2 hA H1
  have hc1 := Lib.cell_of_heap HL.out.h 1
  go_wp2_with fail
  refine (len_bits m n _ (by have := HZ.out; omega) HN.out).mono ?_
  rintro e w3 ⟨rfl, rfl⟩
  clear hc1
  go_wp2_with fail
  obtain ⟨W3, hW3⟩ : ∃ W3, w2.alloc (.cells #[.bool g, .int .u64 (m : Int), .int .i64 X] 83) = W3 := ⟨_, rfl⟩
  rw [hW3] at HL
  rw [hW3]
  clear hW3
  refine (wstring_k w.heap.size w.heap.size S ⟨#[48, 120, 49]⟩ W3 HL.out.bd (by omega) (by decide) HL.out.b.size).mono ?_
  rintro e w4 ⟨rfl, d4, b4, k4⟩
  have HL := Lib.hid (HL.out.next d4 b4 k4)
  clear d4 b4 k4
  obtain ⟨E1, hE1⟩ : ∃ E1, X + (n : Int) = E1 := ⟨_, rfl⟩
  obtain ⟨E, hE⟩ : ∃ E, E1 - 1 = E := ⟨_, rfl⟩
  have hb53 := HX.out.n53
  have hw1 : wrap64 (X + (n : Int)) = E1 := by have := HE.out; unfold wrap64; omega
  have hw2 : wrap64 (E1 - 1) = E := by have := HE.out; unfold wrap64; omega
  have HEE : Hid (X + (n : Int) - 1 = E) := Lib.hid (by omega)
  replace HE : Hid (-10000 < E ∧ E < 10000) := Lib.hid (by have := HE.out; omega)
  clear hE1 hE hb53
  rcases Nat.lt_or_ge 1 n with hn1 | hn1
  · rw [if_neg (by omega)] at hL
    have hn2 : (1 : Int) < (n : Int) := by omega
    obtain ⟨s, hs⟩ : ∃ s, 65 - n = s := ⟨_, rfl⟩
    have hs0 : wrap64 (65 - (n : Int)) = (s : Int) := by have := HX.out.n53; unfold wrap64; omega
    have hs1 : s < 64 := by omega
    have hl := HX.out.big
    have hrl := HX.out.rl
    rw [hs] at hl
    have HS := Lib.hid (And.intro hl (And.intro hrl hs))
    clear hs hl hrl
    go_wp2_with fail
    refine (wbyte_k w.heap.size w.heap.size _ 46 w4 HL.out.bd (by simp; omega) HL.out.b.size 46 rfl).mono ?_
    rintro e w5 ⟨rfl, d5, b5, k5⟩
    have HL := Lib.hid (HL.out.next d5 b5 k5)
    clear d5 b5 k5
    have hc1 := Lib.cell_of_heap HL.out.h 1
    go_wp2_with fail
    clear hc1
    obtain ⟨r0, hr0⟩ : ∃ r0, m * 2 ^ (53 - n) - 4503599627370496 = r0 := ⟨_, rfl⟩
    rw [hr0] at hL HS
    clear hr0
    obtain ⟨L, hLL⟩ : ∃ L, S ++ [48, 120, 49] ++ [46] ++ digs 13 r0 = L := ⟨_, rfl⟩
    have HD : Hid (DigS L (S ++ [48, 120, 49] ++ [46]) 13 r0) := Lib.hid ⟨frac_start HS.out.2.1, hLL⟩
    have hst : IntKind.u64.wrap ((m : Int) * 2 ^ s) = ((r0 * 4096 : Nat) : Int) := by
      rw [IntKind.wrap_u64, ← HS.out.1]
      simp
    rw [hst]
    obtain ⟨R0, hR0⟩ : ∃ R0, r0 * 4096 = R0 := ⟨_, rfl⟩
    rw [hR0]
    have HR0 := Lib.hid hR0
    clear hR0 hs0
    generalize wrap64 (65 - (n : Int)) = y43
    have HLL : Hid (S ++ [48, 120, 49] ++ [46] ++ digs 13 r0 = L ∧ L.length ≤ 30) := Lib.hid ⟨hLL, by rw [← hLL]; have := digs_len 13 r0; simp only [List.length_append, List.length_cons, List.length_nil]; omega⟩
    clear hst hLL
    generalize S ++ [48, 120, 49] ++ [46] = l0 at HL HD
    go_loopg [9] 13 (fun gk v wr => ∃ l r, v = .int .u64 ((r * 4096 : Nat) : Int) ∧ Hid (HexU w wr w2.heap.size g m X l ∧ DigS L l gk r))
    case atStart => exact ⟨_, r0, by rw [HR0.out], Lib.hid ⟨HL.out, HD.out⟩⟩
    case round =>
      clear HL HD
      obtain ⟨l, r, rfl, hh⟩ := hrel
      by_cases hr : r = 0
      · subst hr
        rw [Nat.zero_mul]
        have HL := Lib.hid hh.out.1
        have HlL : Hid (l = L) := Lib.hid (by have := hh.out.2.eq; rw [digs_zero, List.append_nil] at this; exact this)
        obtain rfl := HlL.out
        go_wp2_with fail
        refine (wbyte_k w.heap.size w.heap.size _ 112 _ HL.out.bd (by have := HLL.out.2; omega) HL.out.b.size 112 rfl).mono ?_
        rintro e w7 ⟨rfl, d7, b7, k7⟩
        have HL7 := Lib.hid (HL.out.next d7 b7 k7)
        clear d7 b7 k7
        have hc2 := Lib.cell_of_heap HL7.out.h 2
        go_wp2_with fail
        refine (itoa_any E w7 (by have := HE.out; omega) (by have := HE.out; omega) (HP.out.below HL7.out.b HP.out.2)).mono ?_
        rintro e w8 ⟨rfl, b8⟩
        have HB8 := Lib.hid (And.intro (HL7.out.bd.below b8) (back_of' HL7.out.b b8))
        clear b8 hc2
        go_wp2_with fail
        refine (wstring w.heap.size w.heap.size _ _ w8 HB8.out.1 (by have := HLL.out.2; simp; omega) (by have := itoa_len (E := E) (by have := HE.out; omega) (by have := HE.out; omega); show (Lib.itoa E).toArray.size ≤ _; simp; omega) HB8.out.2.size).mono ?_
        rintro e w9 ⟨rfl, d9, b9⟩
        have H9 := Lib.hid (And.intro d9 (HB8.out.2.trans b9))
        clear d9 b9
        go_wp2_with fail
        refine (bstring w.heap.size w.heap.size _ w9 H9.out.1 H9.out.2.size).mono ?_
        rintro e w10 ⟨rfl, b10⟩
        have HF := Lib.hid (H9.out.2.trans b10)
        clear b10
        go_wp2_with fail
        go_ret
        refine ⟨congrArg (fun z : List UInt8 => Ending.returned (Value.string ⟨z.toArray⟩)) (?_ : _ = S ++ NL), HF.out⟩
        rw [hL.out, HEE.out, ← HLL.out.1]
        simp
      · obtain ⟨k, rfl⟩ : ∃ k, gk = k + 1 := by
          cases gk with
          | zero => exact absurd (frac_end hh.out.2.ok) hr
          | succ k => exact ⟨k, rfl⟩
        obtain ⟨R, hR⟩ : ∃ R, r * 4096 = R := ⟨_, rfl⟩
        rw [hR]
        obtain ⟨R2, hR2⟩ : ∃ R2, r % 281474976710656 * 16 * 4096 = R2 := ⟨_, rfl⟩
        obtain ⟨q, hq⟩ : ∃ q, r / 281474976710656 = q := ⟨_, rfl⟩
        have hrl := hh.out.2.ok.1
        have hRq : (R : Int) / 1152921504606846976 = (q : Int) := by omega
        have hRn : ((R : Int) == 0) = false := by
          have : ¬ (R : Int) = 0 := by omega
          simpa using this
        have hRw : IntKind.u64.wrap ((R : Int) * 16) = (R2 : Int) := by rw [IntKind.wrap_u64]; omega
        obtain ⟨c, hc⟩ : ∃ c : Int, c = ((hxd q).toNat : Int) := ⟨_, rfl⟩
        have hidx := hxd_idx q c (by omega) hc
        have HH := Lib.hid (And.intro hr (And.intro hR2 (And.intro hq hc)))
        clear hr hR hR2 hq hc hrl
        go_wp2_with fail
        refine (wbyte_k w.heap.size w.heap.size l (hxd q) wr hh.out.1.bd (by have := congrArg List.length hh.out.2.eq; have := HLL.out.2; rw [List.length_append] at *; omega) hh.out.1.b.size c HH.out.2.2.2).mono ?_
        rintro e w6 ⟨rfl, d6, b6, k6⟩
        have HL6 := Lib.hid (hh.out.1.next d6 b6 k6)
        clear d6 b6 k6
        have HD6 : Hid (DigS L (l ++ [hxd q]) k (r % 281474976710656 * 16)) := Lib.hid ⟨frac_step hh.out.2.ok, by
          have h := hh.out.2.eq
          rw [digs_cons HH.out.1, HH.out.2.2.1] at h
          rw [← h]
          simp⟩
        go_wp2_with fail
        go_roundg k
        case measure => omega
        case rel => exact ⟨_, _, by rw [HH.out.2.1], Lib.hid ⟨HL6.out, HD6.out⟩⟩
  · rw [if_pos (show n = 1 by have := HX.out.n1; omega)] at hL
    have hn2 : ¬ (1 : Int) < (n : Int) := by omega
    go_wp2_with fail
    refine (wbyte_k w.heap.size w.heap.size _ 112 _ HL.out.bd (by simp; omega) HL.out.b.size 112 rfl).mono ?_
    rintro e w7 ⟨rfl, d7, b7, k7⟩
    have HL7 := Lib.hid (HL.out.next d7 b7 k7)
    clear d7 b7 k7
    have hc2 := Lib.cell_of_heap HL7.out.h 2
    go_wp2_with fail
    refine (itoa_any E w7 (by have := HE.out; omega) (by have := HE.out; omega) (HP.out.below HL7.out.b HP.out.2)).mono ?_
    rintro e w8 ⟨rfl, b8⟩
    have HB8 := Lib.hid (And.intro (HL7.out.bd.below b8) (back_of' HL7.out.b b8))
    clear b8 hc2
    go_wp2_with fail
    refine (wstring w.heap.size w.heap.size _ _ w8 HB8.out.1 (by simp; omega) (by have := itoa_len (E := E) (by have := HE.out; omega) (by have := HE.out; omega); show (Lib.itoa E).toArray.size ≤ _; simp; omega) HB8.out.2.size).mono ?_
    rintro e w9 ⟨rfl, d9, b9⟩
    have H9 := Lib.hid (And.intro d9 (HB8.out.2.trans b9))
    clear d9 b9
    go_wp2_with fail
    refine (bstring w.heap.size w.heap.size _ w9 H9.out.1 H9.out.2.size).mono ?_
    rintro e w10 ⟨rfl, b10⟩
    have HF := Lib.hid (H9.out.2.trans b10)
    clear b10
    go_wp2_with fail
    go_ret
    refine ⟨congrArg (fun z : List UInt8 => Ending.returned (Value.string ⟨z.toArray⟩)) (?_ : _ = S ++ NL), HF.out⟩
    rw [hL.out, HEE.out]
    simp

set_option maxRecDepth 8000 in
theorem hex_spec (f : Nat) (w : World) (hf : f < 18446744073709551616) (hs : specL f ≠ []) :
    Calls Tryz.prog 20 #[.float .f64 f] w fun e w' => e = .returned (.string ⟨(specL f).toArray⟩) ∧ Below w.heap.size w w' := by
  have HSp := Lib.hid (fun W => special_any f W hf)
  rw [decide_eq_true hs] at HSp
  clear hs
  generalize specL f = S at *
  go_enter Tryz.func20, Tryz.ntmps20
  go_wp2_with fail
  refine (HSp.out w).mono ?_
  rintro e w1 ⟨rfl, hw⟩
  obtain rfl := hw.symm
  go_wp2_with fail
  go_ret
  exact ⟨rfl, Below.refl _ _⟩
set_option maxRecDepth 8000 in
theorem hex_zero (f : Nat) (w : World) (hT : Tab64 w) (hf : f < 18446744073709551616) (h0 : f % 9223372036854775808 = 0) :
    Calls Tryz.prog 20 #[.float .f64 f] w fun e w' => e = .returned (.string ⟨(sgL f ++ [48, 120, 48, 112, 48]).toArray⟩) ∧ Below w.heap.size w w' := by
  have HT := Lib.hid hT
  have HSp := Lib.hid (fun W => special_any f W hf)
  rw [(spec_fin hf).2 (by omega)] at HSp
  have HBg := Lib.hid (fun W => begun_any f W hf)
  have HPa := Lib.hid (fun W hW => Parts_zero f W hW hf h0)
  have hgl : (sgL f).length ≤ 1 := by unfold sgL; split <;> simp
  clear hT h0 hf
  generalize decide (9223372036854775808 ≤ f) = g at *
  generalize sgL f = S at *
  go_enter Tryz.func20, Tryz.ntmps20
  go_wp2_with fail
  refine (HSp.out w).mono ?_
  rintro e w1 ⟨rfl, hw⟩
  obtain rfl := hw.symm
  go_wp2_with fail
  refine (HBg.out w).mono ?_
  rintro e w1 ⟨rfl, d1, b1⟩
  have H1 := Lib.hid (And.intro d1 b1)
  clear d1 b1
  go_wp2_with fail
  refine (HPa.out w1 (HT.out.below H1.out.2)).mono ?_
  rintro e w2 ⟨rfl, b2⟩
  have hA := (Below.refl w2.heap.size w2).alloc (Nat.le_refl _) (.cells #[.bool g, .int .u64 0, .int .i64 0] 83)
  have HL : Hid (HexU w (w2.alloc (.cells #[.bool g, .int .u64 0, .int .i64 0] 83)) w2.heap.size g 0 0 S) := Lib.hid ⟨H1.out.1.below (back_of' b2 hA), back_of' H1.out.2 (back_of' b2 hA), by show (w2.heap.push _)[w2.heap.size]? = _; simp, Nat.ne_of_gt (Nat.lt_of_lt_of_le H1.out.1.lt b2.size)⟩
  clear b2 hA H1
  have hc1 := Lib.cell_of_heap HL.out.h 1
  go_wp2_with fail
  obtain ⟨W3, hW3⟩ : ∃ W3, w2.alloc (.cells #[.bool g, .int .u64 0, .int .i64 0] 83) = W3 := ⟨_, rfl⟩
  rw [hW3] at HL
  rw [hW3]
  clear hW3 hc1
  refine (wstring w.heap.size w.heap.size S ⟨#[48, 120, 48, 112, 48]⟩ W3 HL.out.bd (by omega) (by decide) HL.out.b.size).mono ?_
  rintro e w4 ⟨rfl, d4, b4⟩
  have H4 := Lib.hid (And.intro d4 (HL.out.b.trans b4))
  clear d4 b4
  go_wp2_with fail
  refine (bstring w.heap.size w.heap.size _ w4 H4.out.1 H4.out.2.size).mono ?_
  rintro e w5 ⟨rfl, b5⟩
  have HF := Lib.hid (H4.out.2.trans b5)
  clear b5
  go_wp2_with fail
  go_ret
  exact ⟨rfl, HF.out⟩
/-- the hex form of any number -/
theorem hex_any (f : Nat) (w : World) (hT : Tab64 w) (hP : TabP w) (hf : f < 18446744073709551616) :
    Calls Tryz.prog 20 #[.float .f64 f] w fun e w' => e = .returned (.string ⟨(hexL f).toArray⟩) ∧ Below w.heap.size w w' := by
  unfold hexL
  by_cases c : specL f = []
  · rw [if_pos c]
    by_cases c0 : f % 9223372036854775808 = 0
    · rw [if_pos c0]
      exact hex_zero f w hT hf c0
    · rw [if_neg c0]
      obtain ⟨t, ht⟩ := finN hf ((spec_fin hf).1 c) c0
      exact hex_num f t w hT hP c ht
  · rw [if_neg c]
    exact hex_spec f w hf c
theorem hexL_ne (f : Nat) : hexL f ≠ [] := by
  unfold hexL numL
  split
  · split <;> simp
  · assumption
theorem hexL_len (f : Nat) (hf : f < 18446744073709551616) : (hexL f).length ≤ 40 := by
  have hg : (sgL f).length ≤ 1 := by unfold sgL; split <;> simp
  unfold hexL
  split
  · rename_i c
    split
    · simp only [List.length_append, List.length_cons, List.length_nil]; omega
    · rename_i c0
      obtain ⟨t, ht⟩ := finN hf ((spec_fin hf).1 c) c0
      have hx := hexm (oddM f) ht.od ht.up
      have h1 := point_len (oddM f)
      have h2 := itoa_len (E := oddX f + (Lib.bitLen (oddM f) : Nat) - 1) (by have := ht.x0; omega) (by have := ht.x1; have := hx.n53; omega)
      unfold numL
      simp only [List.length_append, List.length_cons, List.length_nil]
      omega
  · unfold specL
    split
    · simp
    · split
      · simp
      · split <;> simp
end Go.Proofs.YthnmfcjodobkbaaGreatDoor

namespace Go.Proofs.YthnmfcjodobkbaaGreatDoor
open Go Go.RowKit Nb Nx

set_option maxRecDepth 8000 in
theorem rspecial_any (f : Nat) (w : World) (hf : f < 18446744073709551616) : Calls Tryz.prog 50 #[.float .f64 f] w fun e w' => e = .returned (.string ⟨(specL f).toArray⟩) ∧ w' = w := by
  have hn := neq_self f
  have HU := Lib.hid (inf_up f w hf)
  have HD := Lib.hid (inf_down f w hf)
  unfold specL
  by_cases c1 : nanN f = true
  · rw [c1] at hn
    rw [if_pos c1]
    go_enter Tryz.func50, Tryz.ntmps50
    go_wp2_with fail
    go_ret
    exact ⟨rfl, rfl⟩
  · rw [if_neg c1]
    rw [Bool.eq_false_iff.2 c1] at hn
    by_cases c2 : f = 9218868437227405312
    · rw [decide_eq_true c2] at HU
      rw [if_pos c2]
      clear c1 c2 hf
      go_enter Tryz.func50, Tryz.ntmps50
      go_wp2_with fail
      refine HU.out.mono ?_
      rintro e w1 ⟨rfl, hw⟩
      obtain rfl := hw.symm
      go_wp2_with fail
      go_ret
      exact ⟨rfl, rfl⟩
    · rw [decide_eq_false c2] at HU
      rw [if_neg c2]
      by_cases c3 : f = 18442240474082181120
      · rw [decide_eq_true c3] at HD
        rw [if_pos c3]
        clear c1 c2 c3 hf
        go_enter Tryz.func50, Tryz.ntmps50
        go_wp2_with fail
        refine HU.out.mono ?_
        rintro e w1 ⟨rfl, hw⟩
        obtain rfl := hw.symm
        go_wp2_with fail
        refine HD.out.mono ?_
        rintro e w1 ⟨rfl, hw⟩
        obtain rfl := hw.symm
        go_wp2_with fail
        go_ret
        exact ⟨rfl, rfl⟩
      · rw [decide_eq_false c3] at HD
        rw [if_neg c3]
        clear c1 c2 c3 hf
        go_enter Tryz.func50, Tryz.ntmps50
        go_wp2_with fail
        refine HU.out.mono ?_
        rintro e w1 ⟨rfl, hw⟩
        obtain rfl := hw.symm
        go_wp2_with fail
        refine HD.out.mono ?_
        rintro e w1 ⟨rfl, hw⟩
        obtain rfl := hw.symm
        go_wp2_with fail
        go_ret
        exact ⟨rfl, rfl⟩

set_option maxRecDepth 8000 in
theorem rsign_any (f : Nat) (w : World) (hf : f < 18446744073709551616) : Calls Tryz.prog 51 #[.float .f64 f] w fun e w' => e = .returned (.string ⟨(sgL f).toArray⟩) ∧ w' = w := by
  have HS := Lib.hid (fun W => signbit_any f W hf)
  unfold sgL
  by_cases c : 9223372036854775808 ≤ f
  · rw [decide_eq_true c] at HS
    rw [if_pos c]
    clear hf c
    go_enter Tryz.func51, Tryz.ntmps51
    go_wp2_with fail
    refine (HS.out _).mono ?_
    rintro e w1 ⟨rfl, rfl⟩
    go_wp2_with fail
    go_ret
    exact ⟨rfl, rfl⟩
  · rw [decide_eq_false c] at HS
    rw [if_neg c]
    clear hf c
    go_enter Tryz.func51, Tryz.ntmps51
    go_wp2_with fail
    refine (HS.out _).mono ?_
    rintro e w1 ⟨rfl, rfl⟩
    go_wp2_with fail
    go_ret
    exact ⟨rfl, rfl⟩

set_option maxRecDepth 8000 in
theorem rbits_fin (f : Nat) (w : World) (h : nanN f = false) : Calls Tryz.prog 143 #[.float .f64 f] w fun e w' => e = .returned (.int .u64 (f : Int)) ∧ w' = w := by
  have hn := neq_self f
  rw [h] at hn
  have hb := run_bits f
  go_enter Tryz.func143, Tryz.ntmps143
  go_wp2_with fail
  go_ret
  exact ⟨rfl, rfl⟩

set_option maxRecDepth 8000 in
theorem rsplit_fin (f : Nat) (g : Bool) (e0 fr : Nat) (w : World) (h : nanN f = false) (hf : f < 18446744073709551616) (hg : decide (9223372036854775808 ≤ f) = g) (he : f / 4503599627370496 % 2048 = e0) (hr : f % 4503599627370496 = fr) :
    Calls Tryz.prog 96 #[.float .f64 f] w fun e w' => e = .returned (.tuple #[.bool g, .int .i64 (e0 : Int), .int .u64 (fr : Int)]) ∧ w' = w := by
  have h1 : ((f : Int) / 9223372036854775808 == 1) = g := by
    rw [← hg, Bool.beq_eq_decide_eq]
    apply decide_eq_decide.2
    omega
  have h2 : (f : Int) / 4503599627370496 % 2048 = (e0 : Int) := by omega
  have h3 : (f : Int) % 4503599627370496 = (fr : Int) := by omega
  have h4 : e0 < 2048 := by omega
  have HB := Lib.hid (fun W => rbits_fin f W h)
  clear hg he hr h hf
  go_enter Tryz.func96, Tryz.ntmps96
  go_wp2_with fail
  refine (HB.out w).mono ?_
  rintro e w1 ⟨rfl, hw⟩
  obtain rfl := hw.symm
  go_wp2_with fail
  go_ret3
  exact ⟨by rw [← h3]; rfl, rfl⟩

set_option maxRecDepth 8000 in
set_option maxHeartbeats 1000000 in
theorem rodd_any (M m t : Nat) (X0 X : Int) (w : World) (hm : M = m * 2 ^ t) (ho : m % 2 = 1) (hM : M < 9007199254740992) (ht : t < 64) (hx : X0 + (t : Int) = X) (h0 : -2000 ≤ X0) (h1 : X0 ≤ 2000) :
    Calls Tryz.prog 97 #[.int .u64 (M : Int), .int .i64 X0] w fun e w' => e = .returned (.tuple #[.int .u64 (m : Int), .int .i64 X]) ∧ w' = w := by
  have hM0 : ((M : Int) == 0) = false := by
    have : 0 < m * 2 ^ t := Nat.mul_pos (by omega) (Nat.pow_pos (by omega))
    have h2 : ¬ (M : Int) = 0 := by omega
    simpa using h2
  have HM := Lib.hid (And.intro hm (And.intro ho (And.intro hM (And.intro ht (And.intro hx (And.intro h0 h1))))))
  clear hm ho hM ht hx h0 h1
  go_enter Tryz.func97, Tryz.ntmps97
  go_wp2_with fail
  clear hM0
  go_loopg [0, 1] t (fun gk a b wr => w = wr ∧ ∃ (M1 : Nat) (X1 : Int), a = .int .u64 (M1 : Int) ∧ b = .int .i64 X1 ∧ Hid (M1 = m * 2 ^ gk ∧ X1 + (gk : Int) = X ∧ gk ≤ t))
  case atStart => exact ⟨rfl, M, X0, rfl, rfl, Lib.hid ⟨HM.out.1, HM.out.2.2.2.2.1, Nat.le_refl _⟩⟩
  case round =>
    obtain ⟨rfl, M1, X1, rfl, rfl, hh⟩ := hrel
    cases gk with
    | zero =>
      have hM1 : M1 = m := by have := hh.out.1; simpa using this
      have hX1 : X1 = X := by have := hh.out.2.1; simpa using this
      subst hM1 hX1
      have hmod : (M1 : Int) % 2 = 1 := by have := HM.out.2.1; omega
      go_wp2_with fail
      go_ret2
      exact ⟨rfl, rfl⟩
    | succ k =>
      obtain ⟨M2, hM2⟩ : ∃ M2, m * 2 ^ k = M2 := ⟨_, rfl⟩
      have hM1 : M1 = M2 * 2 := by rw [hh.out.1, Nat.pow_succ, ← Nat.mul_assoc, hM2]
      have hmod : (M1 : Int) % 2 = 0 := by omega
      have hMb : M2 < 18446744073709551616 := by
        have h1 : M1 ≤ m * 2 ^ t := by rw [hh.out.1]; exact Nat.mul_le_mul_left _ (Nat.pow_le_pow_right (by omega) hh.out.2.2)
        have h2 := HM.out.1
        have h3 := HM.out.2.2.1
        omega
      have hdiv : (M1 : Int) / 2 = (M2 : Int) := by omega
      obtain ⟨X2, hX2⟩ : ∃ X2, X1 + 1 = X2 := ⟨_, rfl⟩
      have hw : wrap64 (X1 + 1) = X2 := by
        have h1 := hh.out.2
        have h2 := HM.out.2.2.2
        unfold wrap64
        omega
      have HX : Hid (X2 + (k : Int) = X ∧ k ≤ t) := Lib.hid (by have := hh.out.2; omega)
      have HM2 := Lib.hid hM2
      clear hM1 hM2 hX2
      go_wp2_with fail
      go_roundg k
      case measure => omega
      case rel => exact ⟨rfl, _, _, rfl, rfl, Lib.hid ⟨HM2.out.symm, by first | exact HX.out.1 | (rw [hw]; exact HX.out.1), HX.out.2⟩⟩

set_option maxRecDepth 8000 in
set_option maxHeartbeats 1000000 in
theorem rParts_any (f t : Nat) (w : World) (h : FinN f t) :
    Calls Tryz.prog 52 #[.float .f64 f] w fun e w' => e = .returned (.tuple #[.agg #[.bool (decide (9223372036854775808 ≤ f)), .int .u64 (oddM f : Int), .int .i64 (oddX f)], .int .i64 0]) ∧ Below w.heap.size w w' := by
  have hA := (Below.refl w.heap.size w).alloc (Nat.le_refl _) (.cells #[.bool false, .int .u64 0, .int .i64 0] 83)
  have HA := Lib.hid (And.intro hA (DecAt.new w (.bool false) (.int .u64 0) (.int .i64 0) 83))
  obtain ⟨g, hg⟩ : ∃ g, decide (9223372036854775808 ≤ f) = g := ⟨_, rfl⟩
  obtain ⟨e0, he⟩ : ∃ e0, f / 4503599627370496 % 2048 = e0 := ⟨_, rfl⟩
  obtain ⟨fr, hfr⟩ : ∃ fr, f % 4503599627370496 = fr := ⟨_, rfl⟩
  have hn : nanN f = false := by
    have := h.fl.el
    have := h.fl.f64
    unfold nanN
    simp
    omega
  have HS := Lib.hid (fun W => rsplit_fin f g e0 fr W hn h.fl.f64 hg he hfr)
  have hM : bigM f = if e0 = 0 then fr else fr + 4503599627370496 := by unfold bigM; rw [he, hfr]
  have hX : bigX f = if e0 = 0 then -1074 else (e0 : Int) - 1075 := by unfold bigX; rw [he]
  have hMl : bigM f < 9007199254740992 := by rw [hM]; split <;> omega
  have hXl : -1074 ≤ bigX f ∧ bigX f ≤ 1024 := by have := h.fl.el; rw [hX]; split <;> omega
  have HO := Lib.hid (fun W => rodd_any (bigM f) (oddM f) t (bigX f) (oddX f) W h.m0 h.od hMl h.t6 h.xt.symm (by omega) (by omega))
  have hel := h.fl.el
  rw [he] at hel
  have hfl := h.fl.fl
  rw [hfr] at hfl
  rw [hg]
  clear hA h hg he hfr hn hMl hXl
  generalize bigM f = M at *
  generalize bigX f = X0 at *
  generalize oddM f = m at *
  generalize oddX f = X at *
  have h2047 : ¬ (e0 : Int) = 2047 := by omega
  have h2047' : ((e0 : Int) == 2047) = false := by simpa using h2047
  by_cases c : e0 = 0
  · subst c
    rw [if_pos rfl] at hM hX
    subst hM hX
    go_enter Tryz.func52, Tryz.ntmps52
    go_wp2_with fail
    refine (HS.out _).mono ?_
    rintro e w1 ⟨rfl, hw⟩
    obtain rfl := hw.symm
    go_wp2_with fail
    refine (HO.out _).mono ?_
    rintro e w2 ⟨rfl, hw2⟩
    obtain rfl := hw2.symm
    obtain ⟨-, r0, r1, r2, g0, g1, g2⟩ := id HA.out.2
    go_wp2_with fail
    exact bodyPost_ret (by simp [results, Tryz.results52, go_sem]) rfl ⟨rfl, by
      first | exact (Below.refl _ _).alloc (Nat.le_refl _) _ | (repeat' (first | exact HA.out.1 | apply Below.setCell); all_goals (show w.heap.size ≤ w.heap.size; omega))⟩
  · rw [if_neg c] at hM hX
    have hpos : (0 : Int) < (e0 : Int) := by omega
    obtain ⟨E1, hE1⟩ : ∃ E1 : Int, (e0 : Int) - 1 = E1 := ⟨_, rfl⟩
    have hw1 : wrap64 ((e0 : Int) - 1) = E1 := by unfold wrap64; omega
    have hw2 : wrap64 (E1 - 1074) = X0 := by unfold wrap64; omega
    have hwM : IntKind.u64.wrap ((fr : Int) + 4503599627370496) = (M : Int) := by rw [IntKind.wrap_u64]; omega
    clear hM hX c hfl hE1 hel h2047
    go_enter Tryz.func52, Tryz.ntmps52
    go_wp2_with fail
    refine (HS.out _).mono ?_
    rintro e w1 ⟨rfl, hw⟩
    obtain rfl := hw.symm
    go_wp2_with fail
    refine (HO.out _).mono ?_
    rintro e w2 ⟨rfl, hw2⟩
    obtain rfl := hw2.symm
    obtain ⟨-, r0, r1, r2, g0, g1, g2⟩ := id HA.out.2
    go_wp2_with fail
    exact bodyPost_ret (by simp [results, Tryz.results52, go_sem]) rfl ⟨rfl, by
      first | exact (Below.refl _ _).alloc (Nat.le_refl _) _ | (repeat' (first | exact HA.out.1 | apply Below.setCell); all_goals (show w.heap.size ≤ w.heap.size; omega))⟩
end Go.Proofs.YthnmfcjodobkbaaGreatDoor

namespace Go.Proofs.YthnmfcjodobkbaaGreatDoor
open Go Go.RowKit Nb Nx

theorem str_app (a b : List UInt8) : (⟨a.toArray⟩ : ByteArray) ++ (⟨b.toArray⟩ : ByteArray) = ⟨(a ++ b).toArray⟩ := by
  apply ByteArray.ext
  rw [ByteArray.data_append]
  simp
theorem conv_at : ∀ (q : Nat), q < 16 → ∀ W, (convert 5 9 (.int .u8 ((hxd q).toNat : Int))).run Tryz.prog W = .ok (.string ⟨[hxd q].toArray⟩) W
  | 0, _ => fun W => by kernel_rfl
  | 1, _ => fun W => by kernel_rfl
  | 2, _ => fun W => by kernel_rfl
  | 3, _ => fun W => by kernel_rfl
  | 4, _ => fun W => by kernel_rfl
  | 5, _ => fun W => by kernel_rfl
  | 6, _ => fun W => by kernel_rfl
  | 7, _ => fun W => by kernel_rfl
  | 8, _ => fun W => by kernel_rfl
  | 9, _ => fun W => by kernel_rfl
  | 10, _ => fun W => by kernel_rfl
  | 11, _ => fun W => by kernel_rfl
  | 12, _ => fun W => by kernel_rfl
  | 13, _ => fun W => by kernel_rfl
  | 14, _ => fun W => by kernel_rfl
  | 15, _ => fun W => by kernel_rfl
  | k + 16, h => absurd h (by omega)
theorem hxd_conv (q : Nat) (c : Int) (hq : q < 16) (hc : c = ((hxd q).toNat : Int)) : ∀ W, (convert 5 9 (.int .u8 c)).run Tryz.prog W = .ok (.string ⟨[hxd q].toArray⟩) W := by
  subst hc
  exact conv_at q hq

set_option maxRecDepth 8000 in
set_option maxHeartbeats 2000000 in
theorem rhex_num (f t : Nat) (w : World) (hP : TabP w) (hs : specL f = []) (h0 : f % 9223372036854775808 ≠ 0) (hf : FinN f t) :
    Calls Tryz.prog 27 #[.float .f64 f] w fun e w' => e = .returned (.string ⟨(sgL f ++ numL (oddM f) (oddX f)).toArray⟩) ∧ Below w.heap.size w w' := by
  have HP := Lib.hid hP
  have HSp := Lib.hid (fun W => rspecial_any f W hf.fl.f64)
  rw [hs] at HSp
  have HSg := Lib.hid (fun W => rsign_any f W hf.fl.f64)
  have HPa := Lib.hid (fun W => rParts_any f t W hf)
  have heq := eq_zero f
  rw [decide_eq_false h0] at heq
  have hx := hexm (oddM f) hf.od hf.up
  have hx0 := hf.x0
  have hx1 := hf.x1
  have hL : Hid (∀ n, Lib.bitLen (oddM f) = n → numL (oddM f) (oddX f) = [48, 120, 49] ++ (if n = 1 then [] else 46 :: digs 13 (oddM f * 2 ^ (53 - n) - 4503599627370496)) ++ 112 :: Lib.itoa (oddX f + (n : Int) - 1)) := Lib.hid (by rintro n rfl; rfl)
  have hgl : (sgL f).length ≤ 1 := by unfold sgL; split <;> simp
  clear hP hs hf h0
  generalize decide (9223372036854775808 ≤ f) = g at *
  generalize oddM f = m at *
  generalize oddX f = X at *
  generalize sgL f = S at *
  obtain ⟨n, hn⟩ : ∃ n, Lib.bitLen m = n := ⟨_, rfl⟩
  rw [hn] at hx
  obtain ⟨NL, hNL⟩ : ∃ NL, numL m X = NL := ⟨_, rfl⟩
  rw [hNL] at hL
  rw [hNL]
  clear hNL
  replace hL := Lib.hid (hL.out n hn)
  obtain ⟨r0, hr0⟩ : ∃ r0, m * 2 ^ (53 - n) - 4503599627370496 = r0 := ⟨_, rfl⟩
  rw [hr0] at hx hL
  clear hr0 hn
  have HX := Lib.hid hx
  obtain ⟨E, hE⟩ : ∃ E, X + (n : Int) - 1 = E := ⟨_, rfl⟩
  obtain ⟨X52, hX52⟩ : ∃ X52, X + 52 = X52 := ⟨_, rfl⟩
  have hw0 : wrap64 (X + 52) = X52 := by unfold wrap64; omega
  have HEE := Lib.hid hE
  have HE : Hid (-10000 < E ∧ E < 10000 ∧ X52 = E + ((53 - n : Nat) : Int)) := Lib.hid (by have := hx.n1; have := hx.n53; omega)
  obtain ⟨SG, hSG⟩ : ∃ SG : ByteArray, SG = ⟨S.toArray⟩ := ⟨_, rfl⟩
  rw [← hSG] at HSg
  have hSGl : SG.size ≤ 1 := by rw [hSG]; show S.toArray.size ≤ _; simpa using hgl
  have HSG := Lib.hid hSG
  have HG := Lib.hid hgl
  clear hx hx0 hx1 hE hX52 hSG hgl
  go_enter Tryz.func27, Tryz.ntmps27
  go_wp2_with fail
  refine (HSp.out w).mono ?_
  rintro e w1 ⟨rfl, hw⟩
  obtain rfl := hw.symm
  go_wp2_with fail
  refine (HPa.out _).mono ?_
  rintro e w2 ⟨rfl, b2⟩
  have hA := (Below.refl w2.heap.size w2).alloc (Nat.le_refl _) (.cells #[.bool g, .int .u64 (m : Int), .int .i64 X] 83)
  have HW := Lib.hid (back_of' b2 hA)
  have hc0 : (w2.alloc (.cells #[.bool g, .int .u64 (m : Int), .int .i64 X] 83)).heap[w2.heap.size]? = some (.cells #[.bool g, .int .u64 (m : Int), .int .i64 X] 83 (0, 0)) := by show (w2.heap.push _)[w2.heap.size]? = _; simp
  have hc1 := Lib.cell_of_heap hc0 1
  have hc2 := Lib.cell_of_heap hc0 2
  clear b2 hA hc0
  go_wp2_with fail
  obtain ⟨W3, hW3⟩ : ∃ W3, w2.alloc (.cells #[.bool g, .int .u64 (m : Int), .int .i64 X] 83) = W3 := ⟨_, rfl⟩
  rw [hW3] at HW hc1 hc2
  rw [hW3]
  clear hW3
  go_quiet (fail)
  clear hc1 hc2
  go_wp2_with fail
  rw [hw0]
  clear hw0
  have hd : Below w.heap.size w (W3.drewN nq) := ⟨HW.out.os, HW.out.tape, HW.out.output, HW.out.size, HW.out.block⟩
  obtain ⟨W4, hW4⟩ : ∃ W4, W3.drewN nq = W4 := ⟨_, rfl⟩
  rw [hW4] at hd
  rw [hW4]
  replace HW := Lib.hid hd
  clear hW4 hd
  go_loopg [6, 7] (53 - n) (fun gk a b wr => W4 = wr ∧ ∃ (M1 : Nat) (X1 : Int), a = .int .u64 (M1 : Int) ∧ b = .int .i64 X1 ∧ Hid (M1 * 2 ^ gk = 4503599627370496 + r0 ∧ X1 = E + (gk : Int) ∧ gk ≤ 53))
  case atStart => exact ⟨rfl, m, X52, rfl, rfl, Lib.hid ⟨HX.out.ref, HE.out.2.2, by omega⟩⟩
  case round =>
    obtain ⟨rfl, M1, X1, rfl, rfl, hh⟩ := hrel
    cases gk with
    | zero =>
      have hM1 : M1 = 4503599627370496 + r0 := by have := hh.out.1; simpa using this
      have hX1 : E = X1 := by have := hh.out.2.1; simp at this; exact this.symm
      subst hX1
      have hrl := HX.out.rl
      have hlt : ¬ (M1 : Int) < 4503599627370496 := by omega
      have hmw : IntKind.u64.wrap ((M1 : Int) - 4503599627370496) = (r0 : Int) := by rw [IntKind.wrap_u64]; omega
      clear hM1 hrl hh
      go_wp2_with fail
      refine (HSg.out _).mono ?_
      rintro e w5 ⟨rfl, hw5⟩
      obtain rfl := hw5.symm
      rcases Nat.eq_zero_or_pos r0 with hr00 | hr00
      · have hz : ¬ (0 : Int) < (r0 : Int) := by omega
        rw [if_pos (HX.out.zero.1 hr00)] at hL
        obtain ⟨S0, hS0⟩ : ∃ S0 : ByteArray, SG ++ (⟨#[48, 120, 49]⟩ : ByteArray) = S0 := ⟨_, rfl⟩
        obtain ⟨L, hLc⟩ : ∃ L, S ++ [48, 120, 49] ++ digs 13 r0 = L := ⟨_, rfl⟩
        have HS0 : Hid (∃ l, S0 = ⟨l.toArray⟩ ∧ DigS L l 13 r0) := Lib.hid ⟨S ++ [48, 120, 49], by rw [← hS0, HSG.out]; exact str_app _ [48, 120, 49], frac_start HX.out.rl, hLc⟩
        have HLL : Hid (L.length ≤ 30) := Lib.hid (by rw [← hLc]; have := HG.out; have := digs_len 13 r0; simp only [List.length_append, List.length_cons, List.length_nil]; omega)
        have HLC : Hid (S ++ [48, 120, 49] = L) := Lib.hid (by rw [← hLc, hr00, digs_zero, List.append_nil])
        clear hLc hr00
        go_wp2_with fail
        go_loopg [6, 8] 13 (fun gk a v wr => W4 = wr ∧ ∃ (r : Nat) (SS : ByteArray), a = .int .u64 (r : Int) ∧ v = .string SS ∧ Hid (∃ l, SS = ⟨l.toArray⟩ ∧ DigS L l gk r))
        case atStart => exact ⟨rfl, r0, S0, rfl, rfl, HS0⟩
        case round =>
          clear HS0
          obtain ⟨rfl, r, SS, rfl, rfl, hh⟩ := hrel
          have hSS : SS.size ≤ 100 := by
            obtain ⟨l, rfl, hd⟩ := hh.out
            have h1 := congrArg List.length hd.eq
            have h2 := HLL.out
            rw [List.length_append] at h1
            show l.toArray.size ≤ _
            simp
            omega
          by_cases hr : r = 0
          · subst hr
            have HlL : Hid (SS = ⟨L.toArray⟩) := Lib.hid (by
              obtain ⟨l, rfl, hd⟩ := hh.out
              have h1 := hd.eq
              rw [digs_zero, List.append_nil] at h1
              rw [h1])
            go_wp2_with fail
            refine (itoa_any E W4 (by have := HE.out; omega) (by have := HE.out; omega) (HP.out.below HW.out HP.out.2)).mono ?_
            rintro e w8 ⟨rfl, b8⟩
            have HB8 := Lib.hid (back_of' HW.out b8)
            clear b8
            obtain ⟨IS, hIS⟩ : ∃ IS, IS = (⟨(Lib.itoa E).toArray⟩ : ByteArray) := ⟨_, rfl⟩
            rw [← hIS]
            have hil : IS.size ≤ 20 := by rw [hIS]; have := itoa_len (E := E) (by have := HE.out; omega) (by have := HE.out; omega); show (Lib.itoa E).toArray.size ≤ _; simpa using this
            have HIS := Lib.hid hIS
            clear hIS
            go_wp2_with fail
            go_ret
            have he : (SS ++ (⟨[112].toArray⟩ : ByteArray)) ++ IS = ⟨(S ++ NL).toArray⟩ := by
              rw [HlL.out, HIS.out, hL.out, HEE.out, str_app, str_app, ← HLC.out]
              simp
            exact ⟨congrArg (fun z : ByteArray => Ending.returned (Value.string z)) he, HB8.out⟩
          · obtain ⟨k, rfl⟩ : ∃ k, gk = k + 1 := by
              cases gk with
              | zero => obtain ⟨l, -, hd⟩ := hh.out; exact absurd (frac_end hd.ok) hr
              | succ k => exact ⟨k, rfl⟩
            have hrl : r < 4503599627370496 := by obtain ⟨l, -, hd⟩ := hh.out; exact hd.ok.1
            obtain ⟨r2, hr2⟩ : ∃ r2, r % 281474976710656 * 16 = r2 := ⟨_, rfl⟩
            obtain ⟨r3, hr3⟩ : ∃ r3, r % 281474976710656 = r3 := ⟨_, rfl⟩
            obtain ⟨q, hq⟩ : ∃ q, r / 281474976710656 = q := ⟨_, rfl⟩
            have hRq : (r : Int) / 281474976710656 = (q : Int) := by omega
            have hRn : (0 : Int) < (r : Int) := by omega
            have hRm : (r : Int) % 281474976710656 = (r3 : Int) := by omega
            have hRw : IntKind.u64.wrap ((r3 : Int) * 16) = (r2 : Int) := by rw [IntKind.wrap_u64]; omega
            obtain ⟨c, hc⟩ : ∃ c : Int, c = ((hxd q).toNat : Int) := ⟨_, rfl⟩
            have hidx := hxd_idx q c (by omega) hc
            have hcv := hxd_conv q c (by omega) hc
            have HH := Lib.hid (And.intro hr (And.intro hr2 hq))
            clear hr hr2 hr3 hq hc hrl
            go_wp2_with fail
            go_roundg k
            case measure => omega
            case rel =>
              refine ⟨rfl, r2, _, rfl, rfl, Lib.hid ?_⟩
              obtain ⟨l, rfl, hd⟩ := hh.out
              refine ⟨l ++ [hxd q], str_app _ [hxd q], by rw [← HH.out.2.1]; exact frac_step hd.ok, ?_⟩
              have h := hd.eq
              rw [digs_cons HH.out.1, HH.out.2.2, HH.out.2.1] at h
              rw [← h]
              simp
      · have hz : (0 : Int) < (r0 : Int) := by omega
        rw [if_neg (fun e => by have := HX.out.zero.2 e; omega)] at hL
        obtain ⟨S0, hS0⟩ : ∃ S0 : ByteArray, SG ++ (⟨#[48, 120, 49]⟩ : ByteArray) ++ (⟨#[46]⟩ : ByteArray) = S0 := ⟨_, rfl⟩
        obtain ⟨L, hLc⟩ : ∃ L, S ++ [48, 120, 49] ++ [46] ++ digs 13 r0 = L := ⟨_, rfl⟩
        have HS0 : Hid (∃ l, S0 = ⟨l.toArray⟩ ∧ DigS L l 13 r0) := Lib.hid ⟨S ++ [48, 120, 49] ++ [46], by rw [← hS0, HSG.out]; exact (congrArg (· ++ (⟨#[46]⟩ : ByteArray)) (str_app _ [48, 120, 49])).trans (str_app _ [46]), frac_start HX.out.rl, hLc⟩
        have HLL : Hid (L.length ≤ 30) := Lib.hid (by rw [← hLc]; have := HG.out; have := digs_len 13 r0; simp only [List.length_append, List.length_cons, List.length_nil]; omega)
        have HLC : Hid (S ++ [48, 120, 49] ++ [46] ++ digs 13 r0 = L) := Lib.hid hLc
        clear hLc hr00
        go_wp2_with fail
        go_loopg [6, 8] 13 (fun gk a v wr => W4 = wr ∧ ∃ (r : Nat) (SS : ByteArray), a = .int .u64 (r : Int) ∧ v = .string SS ∧ Hid (∃ l, SS = ⟨l.toArray⟩ ∧ DigS L l gk r))
        case atStart => exact ⟨rfl, r0, S0, rfl, rfl, HS0⟩
        case round =>
          clear HS0
          obtain ⟨rfl, r, SS, rfl, rfl, hh⟩ := hrel
          have hSS : SS.size ≤ 100 := by
            obtain ⟨l, rfl, hd⟩ := hh.out
            have h1 := congrArg List.length hd.eq
            have h2 := HLL.out
            rw [List.length_append] at h1
            show l.toArray.size ≤ _
            simp
            omega
          by_cases hr : r = 0
          · subst hr
            have HlL : Hid (SS = ⟨L.toArray⟩) := Lib.hid (by
              obtain ⟨l, rfl, hd⟩ := hh.out
              have h1 := hd.eq
              rw [digs_zero, List.append_nil] at h1
              rw [h1])
            go_wp2_with fail
            refine (itoa_any E W4 (by have := HE.out; omega) (by have := HE.out; omega) (HP.out.below HW.out HP.out.2)).mono ?_
            rintro e w8 ⟨rfl, b8⟩
            have HB8 := Lib.hid (back_of' HW.out b8)
            clear b8
            obtain ⟨IS, hIS⟩ : ∃ IS, IS = (⟨(Lib.itoa E).toArray⟩ : ByteArray) := ⟨_, rfl⟩
            rw [← hIS]
            have hil : IS.size ≤ 20 := by rw [hIS]; have := itoa_len (E := E) (by have := HE.out; omega) (by have := HE.out; omega); show (Lib.itoa E).toArray.size ≤ _; simpa using this
            have HIS := Lib.hid hIS
            clear hIS
            go_wp2_with fail
            go_ret
            have he : (SS ++ (⟨[112].toArray⟩ : ByteArray)) ++ IS = ⟨(S ++ NL).toArray⟩ := by
              rw [HlL.out, HIS.out, hL.out, HEE.out, str_app, str_app, ← HLC.out]
              simp
            exact ⟨congrArg (fun z : ByteArray => Ending.returned (Value.string z)) he, HB8.out⟩
          · obtain ⟨k, rfl⟩ : ∃ k, gk = k + 1 := by
              cases gk with
              | zero => obtain ⟨l, -, hd⟩ := hh.out; exact absurd (frac_end hd.ok) hr
              | succ k => exact ⟨k, rfl⟩
            have hrl : r < 4503599627370496 := by obtain ⟨l, -, hd⟩ := hh.out; exact hd.ok.1
            obtain ⟨r2, hr2⟩ : ∃ r2, r % 281474976710656 * 16 = r2 := ⟨_, rfl⟩
            obtain ⟨r3, hr3⟩ : ∃ r3, r % 281474976710656 = r3 := ⟨_, rfl⟩
            obtain ⟨q, hq⟩ : ∃ q, r / 281474976710656 = q := ⟨_, rfl⟩
            have hRq : (r : Int) / 281474976710656 = (q : Int) := by omega
            have hRn : (0 : Int) < (r : Int) := by omega
            have hRm : (r : Int) % 281474976710656 = (r3 : Int) := by omega
            have hRw : IntKind.u64.wrap ((r3 : Int) * 16) = (r2 : Int) := by rw [IntKind.wrap_u64]; omega
            obtain ⟨c, hc⟩ : ∃ c : Int, c = ((hxd q).toNat : Int) := ⟨_, rfl⟩
            have hidx := hxd_idx q c (by omega) hc
            have hcv := hxd_conv q c (by omega) hc
            have HH := Lib.hid (And.intro hr (And.intro hr2 hq))
            clear hr hr2 hr3 hq hc hrl
            go_wp2_with fail
            go_roundg k
            case measure => omega
            case rel =>
              refine ⟨rfl, r2, _, rfl, rfl, Lib.hid ?_⟩
              obtain ⟨l, rfl, hd⟩ := hh.out
              refine ⟨l ++ [hxd q], str_app _ [hxd q], by rw [← HH.out.2.1]; exact frac_step hd.ok, ?_⟩
              have h := hd.eq
              rw [digs_cons HH.out.1, HH.out.2.2, HH.out.2.1] at h
              rw [← h]
              simp
    | succ k =>
      obtain ⟨M2, hM2⟩ : ∃ M2, M1 * 2 = M2 := ⟨_, rfl⟩
      have hMk : M2 * 2 ^ k = 4503599627370496 + r0 := by rw [← hM2, Nat.mul_assoc, ← Nat.pow_succ']; exact hh.out.1
      have hM2l : M2 < 9007199254740992 := by
        have h1 : M2 * 1 ≤ M2 * 2 ^ k := Nat.mul_le_mul_left _ (Nat.pow_pos (by omega))
        have h2 := HX.out.rl
        omega
      have hlt : (M1 : Int) < 4503599627370496 := by omega
      have hm2 : IntKind.u64.wrap ((M1 : Int) * 2) = (M2 : Int) := by rw [IntKind.wrap_u64]; omega
      obtain ⟨X2, hX2⟩ : ∃ X2, X1 - 1 = X2 := ⟨_, rfl⟩
      have hw : wrap64 (X1 - 1) = X2 := by
        have h1 := hh.out.2
        have h2 := HE.out
        unfold wrap64
        omega
      have HX2 : Hid (X2 = E + (k : Int) ∧ k ≤ 53) := Lib.hid (by have := hh.out.2; omega)
      have HMk := Lib.hid hMk
      clear hMk hM2 hM2l hX2
      go_wp2_with fail
      go_roundg k
      case measure => omega
      case rel => exact ⟨rfl, M2, _, rfl, rfl, Lib.hid ⟨HMk.out, by first | exact HX2.out.1 | (rw [hw]; exact HX2.out.1), HX2.out.2⟩⟩

set_option maxRecDepth 8000 in
theorem rhex_spec (f : Nat) (w : World) (hf : f < 18446744073709551616) (hs : specL f ≠ []) :
    Calls Tryz.prog 27 #[.float .f64 f] w fun e w' => e = .returned (.string ⟨(specL f).toArray⟩) ∧ Below w.heap.size w w' := by
  have HSp := Lib.hid (fun W => rspecial_any f W hf)
  obtain ⟨SS, hSS⟩ : ∃ SS : ByteArray, SS = ⟨(specL f).toArray⟩ := ⟨_, rfl⟩
  rw [← hSS] at HSp
  rw [← hSS]
  have hne : SS.toList.isEmpty = false := by
    have h3 : specL f = [110, 97, 110] ∨ specL f = [43, 105, 110, 102] ∨ specL f = [45, 105, 110, 102] := by
      unfold specL at hs ⊢
      split
      · exact .inl rfl
      · split
        · exact .inr (.inl rfl)
        · split
          · exact .inr (.inr rfl)
          · rename_i h1 h2 h3
            rw [if_neg h1, if_neg h2, if_neg h3] at hs
            exact absurd rfl hs
    have e1 : (⟨[110, 97, 110].toArray⟩ : ByteArray).toList.isEmpty = false := by kernel_rfl
    have e2 : (⟨[43, 105, 110, 102].toArray⟩ : ByteArray).toList.isEmpty = false := by kernel_rfl
    have e3 : (⟨[45, 105, 110, 102].toArray⟩ : ByteArray).toList.isEmpty = false := by kernel_rfl
    rw [hSS]
    rcases h3 with e | e | e
    · rw [e]; exact e1
    · rw [e]; exact e2
    · rw [e]; exact e3
  clear hs hSS
  go_enter Tryz.func27, Tryz.ntmps27
  go_wp2_with fail
  refine (HSp.out w).mono ?_
  rintro e w1 ⟨rfl, hw⟩
  obtain rfl := hw.symm
  go_wp2_with fail
  go_ret
  exact ⟨rfl, Below.refl _ _⟩
set_option maxRecDepth 8000 in
theorem rhex_zero (f : Nat) (w : World) (hf : f < 18446744073709551616) (h0 : f % 9223372036854775808 = 0) :
    Calls Tryz.prog 27 #[.float .f64 f] w fun e w' => e = .returned (.string ⟨(sgL f ++ [48, 120, 48, 112, 48]).toArray⟩) ∧ Below w.heap.size w w' := by
  have HSp := Lib.hid (fun W => rspecial_any f W hf)
  rw [(spec_fin hf).2 (by omega)] at HSp
  have HSg := Lib.hid (fun W => rsign_any f W hf)
  have heq := eq_zero f
  rw [decide_eq_true h0] at heq
  have hgl : (sgL f).length ≤ 1 := by unfold sgL; split <;> simp
  obtain ⟨SG, hSG⟩ : ∃ SG : ByteArray, SG = ⟨(sgL f).toArray⟩ := ⟨_, rfl⟩
  rw [← hSG] at HSg
  have hSGl : SG.size ≤ 1 := by rw [hSG]; show (sgL f).toArray.size ≤ _; simpa using hgl
  have HSG := Lib.hid hSG
  clear hSG hgl h0 hf
  go_enter Tryz.func27, Tryz.ntmps27
  go_wp2_with fail
  refine (HSp.out w).mono ?_
  rintro e w1 ⟨rfl, hw⟩
  obtain rfl := hw.symm
  go_wp2_with fail
  refine (HSg.out _).mono ?_
  rintro e w5 ⟨rfl, hw5⟩
  obtain rfl := hw5.symm
  go_wp2_with fail
  go_ret
  have he : SG ++ (⟨[48, 120, 48, 112, 48].toArray⟩ : ByteArray) = ⟨(sgL f ++ [48, 120, 48, 112, 48]).toArray⟩ := by rw [HSG.out, str_app]
  exact ⟨congrArg (fun z : ByteArray => Ending.returned (Value.string z)) he, Below.refl _ _⟩
/-- the reference's hex form of any number -/
theorem rhex_any (f : Nat) (w : World) (hP : TabP w) (hf : f < 18446744073709551616) :
    Calls Tryz.prog 27 #[.float .f64 f] w fun e w' => e = .returned (.string ⟨(hexL f).toArray⟩) ∧ Below w.heap.size w w' := by
  unfold hexL
  by_cases c : specL f = []
  · rw [if_pos c]
    by_cases c0 : f % 9223372036854775808 = 0
    · rw [if_pos c0]
      exact rhex_zero f w hf c0
    · rw [if_neg c0]
      obtain ⟨t, ht⟩ := finN hf ((spec_fin hf).1 c) c0
      exact rhex_num f t w hP c c0 ht
  · rw [if_neg c]
    exact rhex_spec f w hf c
end Go.Proofs.YthnmfcjodobkbaaGreatDoor
