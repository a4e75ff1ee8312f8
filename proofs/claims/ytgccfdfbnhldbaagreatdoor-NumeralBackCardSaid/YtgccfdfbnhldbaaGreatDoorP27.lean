/- SH8 SH10 X10 X12 X14 HE2 X16 HD3 in one text. -/
import Derived.Test.YtgccfdfbnhldbaaGreatDoorP13
import Derived.Test.YtgccfdfbnhldbaaGreatDoorP14
import Derived.Test.YtgccfdfbnhldbaaGreatDoorP11
import Derived.Lib.ItoaLen
import Derived.Test.YtgccfdfbnhldbaaGreatDoorP26
import Derived.Test.YtgccfdfbnhldbaaGreatDoorP18
import Derived.Deep.LoopGhost
import Derived.BigQuiet
import Derived.Lib.Split

namespace Go.Proofs.YtgccfdfbnhldbaaGreatDoor.Nb
open Go Go.RowKit

/-- the text that short makes -/
def shortT (d0 : UInt8) (ds : List UInt8) (X : Int) : List UInt8 := d0 :: ((if Lib.trimRightB ds 48 = [] then [] else 46 :: Lib.trimRightB ds 48) ++ (101 :: Lib.itoa X))
theorem first_idx (d0 : UInt8) (ds : List UInt8) : ∀ W, (Instr.index 9 (.string ⟨(d0 :: ds).toArray⟩) (.int .i64 0)).run Tryz.prog W = .ok (.int .u8 (d0.toNat : Int)) W := by
  intro W
  rw [run_index_string W 9 _ .i64 0 (by kernel_rfl), dif_pos (by simp [ByteArray.size])]
  rfl
theorem itoa_len {X : Int} (h : -100000 ≤ X ∧ X ≤ 100000) : (Lib.itoa X).length ≤ 1000000 := by
  have := Lib.itoa_length_le X (by omega) (by omega)
  omega
theorem rest_list (d0 : UInt8) (ds : List UInt8) : ((⟨(d0 :: ds).toArray⟩ : ByteArray).extract 1 (ds.length + 1)).data.toList = ds := by
  simp [ByteArray.extract, ByteArray.copySlice]
set_option maxRecDepth 8000 in
set_option maxHeartbeats 1000000 in
theorem short_any (B b : Nat) (l : List UInt8) (d0 : UInt8) (ds : List UInt8) (X : Int) (w : World) (hb : Bld w B b l) (hl : l.length ≤ 10) (hd : ds.length ≤ 100) (hX : -100000 ≤ X ∧ X ≤ 100000) (hB : B ≤ w.heap.size) (hP : TabP w) (hg : 5 < B) :
    Calls Tryz.prog 41 #[.pointer (some ⟨b, 0, none⟩), .string ⟨(d0 :: ds).toArray⟩, .int .i64 X] w fun e w' => e = .returned (.string ⟨(l ++ shortT d0 ds X).toArray⟩) ∧ Below B w w' := by
  have hidx := first_idx d0 ds
  have HI := Lib.hid (And.intro hb (And.intro hB hP))
  clear hb hB hP
  go_enter Tryz.func41, Tryz.ntmps41
  go_wp2_with fail
  refine (wbyte B b l d0 w HI.out.1 (by omega) HI.out.2.1 _ rfl).mono ?_
  rintro e w1 ⟨rfl, d1, b1⟩
  have H1 := Lib.hid (And.intro d1 b1)
  clear d1 b1
  go_wp2_with fail
  obtain ⟨R, hR⟩ : ∃ R, (⟨(d0 :: ds).toArray⟩ : ByteArray).extract 1 (ds.length + 1) = R := ⟨_, rfl⟩
  have hRl : R.data.toList = ds := by rw [← hR]; exact rest_list d0 ds
  rw [hR]
  have hRs : R.size ≤ 9223372036854775807 := by have h0 := size_list R; rw [hRl] at h0; omega
  refine (Tryz.strings_TrimRight_one R 48 (by decide) w1 hRs).mono ?_
  rw [hRl]
  obtain ⟨T, hT⟩ : ∃ T, Lib.trimRightB ds 48 = T := ⟨_, rfl⟩
  rw [hT]
  rintro e w2 ⟨rfl, hw⟩
  obtain rfl := hw.symm
  have hz1 : B ≤ w1.heap.size := Nat.le_trans HI.out.2.1 H1.out.2.size
  by_cases hE : T = []
  · subst hE
    go_wp2_with fail
    have hz3a : B ≤ w1.heap.size := Nat.le_trans HI.out.2.1 H1.out.2.size
    refine (wbyte B b _ 101 w1 H1.out.1 (by simp; omega) hz3a 101 rfl).mono ?_
    rintro e w3 ⟨rfl, d3, b3⟩
    have H3 := Lib.hid (And.intro d3 (H1.out.2.trans b3))
    clear d3 b3
    go_wp2_with fail
    refine (itoa_any X w3 (by omega) (by omega) (HI.out.2.2.below H3.out.2 hg)).mono ?_
    rintro e w4 ⟨rfl, b4⟩
    have hz3 : B ≤ w3.heap.size := Nat.le_trans HI.out.2.1 H3.out.2.size
    have H4 := Lib.hid (And.intro (H3.out.1.below b4) (H3.out.2.trans (b4.mono hz3)))
    clear b4
    go_wp2_with fail
    refine (wstring B b _ ⟨(Lib.itoa X).toArray⟩ w4 H4.out.1 (by simp; omega) (by have := itoa_len hX; simpa [ByteArray.size] using this) (Nat.le_trans HI.out.2.1 H4.out.2.size)).mono ?_
    rintro e w5 ⟨rfl, d5, b5⟩
    have H5 := Lib.hid (And.intro d5 (H4.out.2.trans b5))
    clear d5 b5
    go_wp2_with fail
    refine (bstring B b _ w5 H5.out.1 (Nat.le_trans HI.out.2.1 H5.out.2.size)).mono ?_
    rintro e w6 ⟨rfl, b6⟩
    have HF := Lib.hid (H5.out.2.trans b6)
    clear b6
    go_wp2_with fail
    go_ret
    refine ⟨?_, HF.out⟩
    refine congrArg (fun z => Ending.returned (Value.string ⟨z⟩)) ?_
    unfold shortT
    rw [hT]
    simp
  · have hiE : T.isEmpty = false := by cases T with | nil => exact absurd rfl hE | cons a t => rfl
    have hTl : T.length ≤ 100 := by
      rw [← hT]
      unfold Lib.trimRightB
      rw [List.length_reverse]
      have := (List.dropWhile_sublist (p := (· == (48 : UInt8))) (l := ds.reverse)).length_le
      rw [List.length_reverse] at this
      omega
    go_wp2_with fail
    refine (wbyte B b _ 46 w1 H1.out.1 (by simp; omega) hz1 46 rfl).mono ?_
    rintro e wa ⟨rfl, da, ba⟩
    have Ha := Lib.hid (And.intro da (H1.out.2.trans ba))
    clear da ba
    go_wp2_with fail
    refine (wstring B b _ ⟨T.toArray⟩ wa Ha.out.1 (by simp; omega) (by simp [ByteArray.size]; omega) (Nat.le_trans HI.out.2.1 Ha.out.2.size)).mono ?_
    rintro e wb ⟨rfl, db, bb⟩
    have Hb := Lib.hid (And.intro db (Ha.out.2.trans bb))
    clear db bb
    go_wp2_with fail
    have hz3a : B ≤ wb.heap.size := Nat.le_trans HI.out.2.1 Hb.out.2.size
    refine (wbyte B b _ 101 wb Hb.out.1 (by simp; omega) hz3a 101 rfl).mono ?_
    rintro e w3 ⟨rfl, d3, b3⟩
    have H3 := Lib.hid (And.intro d3 (Hb.out.2.trans b3))
    clear d3 b3
    go_wp2_with fail
    refine (itoa_any X w3 (by omega) (by omega) (HI.out.2.2.below H3.out.2 hg)).mono ?_
    rintro e w4 ⟨rfl, b4⟩
    have hz3 : B ≤ w3.heap.size := Nat.le_trans HI.out.2.1 H3.out.2.size
    have H4 := Lib.hid (And.intro (H3.out.1.below b4) (H3.out.2.trans (b4.mono hz3)))
    clear b4
    go_wp2_with fail
    refine (wstring B b _ ⟨(Lib.itoa X).toArray⟩ w4 H4.out.1 (by simp; omega) (by have := itoa_len hX; simpa [ByteArray.size] using this) (Nat.le_trans HI.out.2.1 H4.out.2.size)).mono ?_
    rintro e w5 ⟨rfl, d5, b5⟩
    have H5 := Lib.hid (And.intro d5 (H4.out.2.trans b5))
    clear d5 b5
    go_wp2_with fail
    refine (bstring B b _ w5 H5.out.1 (Nat.le_trans HI.out.2.1 H5.out.2.size)).mono ?_
    rintro e w6 ⟨rfl, b6⟩
    have HF := Lib.hid (H5.out.2.trans b6)
    clear b6
    go_wp2_with fail
    go_ret
    refine ⟨?_, HF.out⟩
    refine congrArg (fun z => Ending.returned (Value.string ⟨z⟩)) ?_
    unfold shortT
    rw [hT]
    simp [hE]
end Go.Proofs.YtgccfdfbnhldbaaGreatDoor.Nb

namespace Go.Proofs.YtgccfdfbnhldbaaGreatDoor.Nb
open Go Go.RowKit Nx

/-- what Short's text is made of -/
structure ShortSays (X : Nat) (p q : Nat) (E : Int) (n d : Nat) (d0 : UInt8) (ds : List UInt8) : Prop where
  q0 : 0 < q
  val : p * 2 ^ 1074 = amt64 X * q
  few : FewSays p q X E n d
  dig : (revDig d).reverse = d0 :: ds
theorem few_digits {p q X n d : Nat} {E : Int} (hq : 0 < q) (h : FewSays p q X E n d) : 1 ≤ d ∧ d < 1000000000000000000 ∧ ∃ d0 ds, (revDig d).reverse = d0 :: ds ∧ (revDig d).length = ds.length + 1 ∧ ds.length ≤ 17 := by
  have h1 := low_in (n := n) hq h.dec rfl h.n0.1
  have h2 : 10 ^ n ≤ 10 ^ 17 := Nat.pow_le_pow_right (by omega) h.n0.2
  have h3 : 0 < 10 ^ (n - 1) := Nat.pow_pos (by omega)
  have h4 := h.d0
  have e1 : 1 ≤ d := by omega
  have e2 : d < 10 ^ 18 := by omega
  have hl := revDig_len_le 18 d e2
  refine ⟨e1, by omega, ?_⟩
  cases hr : (revDig d).reverse with
  | nil =>
    rw [List.reverse_eq_nil_iff, revDig_pos (by omega)] at hr
    exact absurd hr (by simp)
  | cons a l =>
    have := congrArg List.length hr
    simp at this
    exact ⟨a, l, rfl, by omega, by omega⟩
theorem atm_top {p q n : Nat} {E : Int} (hE : E.toNat = n) (h0 : (-E).toNat = 0) (h : p < q * 10 ^ n) : ¬ AtM p q E := by
  unfold AtM
  rw [hE, h0, Nat.pow_zero, Nat.mul_one, Nat.mul_comm]
  omega
theorem few_exp {p q X n d : Nat} {E : Int} (h : FewSays p q X E n d) (hq : 0 < q) (hX : X < 9218868437227405312) (h0 : 0 < X) (hv : p * 2 ^ 1074 = amt64 X * q) : -400 ≤ E ∧ E < 400 := by
  obtain ⟨-, a1, a2⟩ := val_in hX h0 hq hv
  have hA0 : AtM p q (-400) := by
    unfold AtM
    rw [show (-400 : Int).toNat = 0 from rfl, show (- -400 : Int).toNat = 400 from rfl, Nat.pow_zero, Nat.one_mul]
    exact a1
  have hA1 : ¬ AtM p q 400 := atm_top (n := 400) rfl rfl a2
  constructor
  · rcases Int.lt_or_le E (-400) with t | t
    · exact absurd (hA0.le (by omega)) h.dec.2
    · exact t
  · rcases Int.lt_or_le E 400 with t | t
    · exact t
    · exact absurd (h.dec.1.le t) hA1
end Go.Proofs.YtgccfdfbnhldbaaGreatDoor.Nb

namespace Go.Proofs.YtgccfdfbnhldbaaGreatDoor
open Go Go.RowKit Nb Nx

/-- the builder and the parts beside it -/
structure HexU (w W : World) (d : Nat) (g : Bool) (m : Nat) (X : Int) (l : List UInt8) : Prop where
  bd : Bld W w.heap.size w.heap.size l
  b : Below w.heap.size w W
  h : W.heap[d]? = some (.cells #[.bool g, .int .u64 (m : Int), .int .i64 X] 60 (0, 0))
  ne : d ≠ w.heap.size
theorem HexU.next {w W W' : World} {d : Nat} {g : Bool} {m : Nat} {X : Int} {l l' : List UInt8} (h : HexU w W d g m X l) (q : Bld W' w.heap.size w.heap.size l') (b : Below w.heap.size W W') (k : Lib.OthersKept 5 (some w.heap.size) W W') : HexU w W' d g m X l' :=
  ⟨q, h.b.trans b, others_dec k h.ne _ (by decide) h.h, h.ne⟩
theorem hx_at : ∀ (j : Nat) (hj : j < (⟨#[48, 49, 50, 51, 52, 53, 54, 55, 56, 57, 97, 98, 99, 100, 101, 102]⟩ : ByteArray).size), (⟨#[48, 49, 50, 51, 52, 53, 54, 55, 56, 57, 97, 98, 99, 100, 101, 102]⟩ : ByteArray)[j]'hj = hxd j
  | 0, _ => rfl
  | 1, _ => rfl
  | 2, _ => rfl
  | 3, _ => rfl
  | 4, _ => rfl
  | 5, _ => rfl
  | 6, _ => rfl
  | 7, _ => rfl
  | 8, _ => rfl
  | 9, _ => rfl
  | 10, _ => rfl
  | 11, _ => rfl
  | 12, _ => rfl
  | 13, _ => rfl
  | 14, _ => rfl
  | 15, _ => rfl
  | k + 16, h => absurd h (by show ¬ k + 16 < 16; omega)
theorem hxd_idx : ∀ (q : Nat) (c : Int), q < 16 → c = ((hxd q).toNat : Int) → ∀ W, (Instr.index 9 (.string ⟨#[48, 49, 50, 51, 52, 53, 54, 55, 56, 57, 97, 98, 99, 100, 101, 102]⟩) (.int .u64 (q : Int))).run Tryz.prog W = .ok (.int .u8 c) W := by
  rintro q c hq rfl W
  have h16 : (⟨#[48, 49, 50, 51, 52, 53, 54, 55, 56, 57, 97, 98, 99, 100, 101, 102]⟩ : ByteArray).size = 16 := rfl
  rw [run_index_string W 9 _ .u64 q (by kernel_rfl), dif_pos (by rw [h16]; omega)]
  simp only [hx_at, Int.toNat_natCast]
/-- how far the digits are -/
structure DigS (L l : List UInt8) (k r : Nat) : Prop where
  ok : FracOk k r
  eq : l ++ digs k r = L
set_option maxRecDepth 8000 in
set_option maxHeartbeats 2000000 in
theorem hex_num (f t : Nat) (w : World) (hT : Tab64 w) (hP : TabP w) (hs : specL f = []) (hf : FinN f t) :
    Calls Tryz.prog 7 #[.float .f64 f] w fun e w' => e = .returned (.string ⟨(sgL f ++ numL (oddM f) (oddX f)).toArray⟩) ∧ Below w.heap.size w w' := by
  have HT := Lib.hid hT
  have HP := Lib.hid hP
  have HSp := Lib.hid (fun W => special_any f W hf.fl.f64)
  rw [hs] at HSp
  have HBg := Lib.hid (fun W => begun_any f W hf.fl.f64)
  have HPa := Lib.hid (fun W hW => Parts_any f t W hW hf)
  have hx := hexm (oddM f) hf.od hf.up
  have hx0 := hf.x0
  have hx1 := hf.x1
  have hm0 : oddM f ≠ 0 := by have := hf.od; omega
  have hm1 := hf.up
  have hL : Hid (∀ n, Lib.bitLen (oddM f) = n → numL (oddM f) (oddX f) = [48, 120, 49] ++ (if n = 1 then [] else 46 :: digs 13 (oddM f * 2 ^ (53 - n) - 4503599627370496)) ++ 112 :: Lib.itoa (oddX f + (n : Int) - 1)) := Lib.hid (by rintro n rfl; rfl)
  have hgl : (sgL f).length ≤ 1 := by unfold sgL; split <;> simp
  clear hT hP hs hf
  generalize decide (9223372036854775808 ≤ f) = g at *
  generalize oddM f = m at *
  generalize oddX f = X at *
  generalize sgL f = S at *
  obtain ⟨n, hn⟩ : ∃ n, Lib.bitLen m = n := ⟨_, rfl⟩
  rw [hn] at hx
  obtain ⟨NL, hNL⟩ : ∃ NL, numL m X = NL := ⟨_, rfl⟩
  rw [hNL] at hL
  rw [hNL]
  clear hNL
  replace hL := Lib.hid (hL.out n hn)
  have HX := Lib.hid hx
  have HN := Lib.hid hn
  have HZ := Lib.hid (And.intro hm0 hm1)
  have HE := Lib.hid (And.intro hx0 hx1)
  have hm0' : ((m : Int) == 0) = false := by simpa using hm0
  clear hx hn hm0 hm1 hx0 hx1
  go_enter Tryz.func7, Tryz.ntmps7
  go_wp2_with fail
  refine (HSp.out w).mono ?_
  rintro e w1 ⟨rfl, hw⟩
  obtain rfl := hw.symm
  go_wp2_with fail
  refine (HBg.out w).mono ?_
  rintro e w1 ⟨rfl, d1, b1⟩
  have H1 := Lib.hid (And.intro d1 b1)
  clear d1 b1
  go_wp2_with fail
  refine (HPa.out w1 (HT.out.below H1.out.2)).mono ?_
  rintro e w2 ⟨rfl, b2⟩
  have hA := (Below.refl w2.heap.size w2).alloc (Nat.le_refl _) (.cells #[.bool g, .int .u64 (m : Int), .int .i64 X] 60)
  have HL : Hid (HexU w (w2.alloc (.cells #[.bool g, .int .u64 (m : Int), .int .i64 X] 60)) w2.heap.size g m X S) := Lib.hid ⟨H1.out.1.below (back_of' b2 hA), back_of' H1.out.2 (back_of' b2 hA), by show (w2.heap.push _)[w2.heap.size]? = _; simp, Nat.ne_of_gt (Nat.lt_of_lt_of_le H1.out.1.lt b2.size)⟩
  clear b2 hA H1
  have hc1 := Lib.cell_of_heap HL.out.h 1
  go_wp2_with fail
  refine (len_bits m n _ (by have := HZ.out; omega) HN.out).mono ?_
  rintro e w3 ⟨rfl, rfl⟩
  clear hc1
  go_wp2_with fail
  obtain ⟨W3, hW3⟩ : ∃ W3, w2.alloc (.cells #[.bool g, .int .u64 (m : Int), .int .i64 X] 60) = W3 := ⟨_, rfl⟩
  rw [hW3] at HL
  rw [hW3]
  clear hW3
  refine (wstring_k w.heap.size w.heap.size S ⟨#[48, 120, 49]⟩ W3 HL.out.bd (by omega) (by decide) HL.out.b.size).mono ?_
  rintro e w4 ⟨rfl, d4, b4, k4⟩
  have HL := Lib.hid (HL.out.next d4 b4 k4)
  clear d4 b4 k4
  obtain ⟨E1, hE1⟩ : ∃ E1, X + (n : Int) = E1 := ⟨_, rfl⟩
  obtain ⟨E, hE⟩ : ∃ E, E1 - 1 = E := ⟨_, rfl⟩
  have hb53 := HX.out.n53
  have hw1 : wrap64 (X + (n : Int)) = E1 := by have := HE.out; unfold wrap64; omega
  have hw2 : wrap64 (E1 - 1) = E := by have := HE.out; unfold wrap64; omega
  have HEE : Hid (X + (n : Int) - 1 = E) := Lib.hid (by omega)
  replace HE : Hid (-10000 < E ∧ E < 10000) := Lib.hid (by have := HE.out; omega)
  clear hE1 hE hb53
  rcases Nat.lt_or_ge 1 n with hn1 | hn1
  · rw [if_neg (by omega)] at hL
    have hn2 : (1 : Int) < (n : Int) := by omega
    obtain ⟨s, hs⟩ : ∃ s, 65 - n = s := ⟨_, rfl⟩
    have hs0 : wrap64 (65 - (n : Int)) = (s : Int) := by have := HX.out.n53; unfold wrap64; omega
    have hs1 : s < 64 := by omega
    have hl := HX.out.big
    have hrl := HX.out.rl
    rw [hs] at hl
    have HS := Lib.hid (And.intro hl (And.intro hrl hs))
    clear hs hl hrl
    go_wp2_with fail
    refine (wbyte_k w.heap.size w.heap.size _ 46 w4 HL.out.bd (by simp; omega) HL.out.b.size 46 rfl).mono ?_
    rintro e w5 ⟨rfl, d5, b5, k5⟩
    have HL := Lib.hid (HL.out.next d5 b5 k5)
    clear d5 b5 k5
    have hc1 := Lib.cell_of_heap HL.out.h 1
    go_wp2_with fail
    clear hc1
    obtain ⟨r0, hr0⟩ : ∃ r0, m * 2 ^ (53 - n) - 4503599627370496 = r0 := ⟨_, rfl⟩
    rw [hr0] at hL HS
    clear hr0
    obtain ⟨L, hLL⟩ : ∃ L, S ++ [48, 120, 49] ++ [46] ++ digs 13 r0 = L := ⟨_, rfl⟩
    have HD : Hid (DigS L (S ++ [48, 120, 49] ++ [46]) 13 r0) := Lib.hid ⟨frac_start HS.out.2.1, hLL⟩
    have hst : IntKind.u64.wrap ((m : Int) * 2 ^ s) = ((r0 * 4096 : Nat) : Int) := by
      rw [IntKind.wrap_u64, ← HS.out.1]
      simp
    rw [hst]
    obtain ⟨R0, hR0⟩ : ∃ R0, r0 * 4096 = R0 := ⟨_, rfl⟩
    rw [hR0]
    have HR0 := Lib.hid hR0
    clear hR0 hs0
    generalize wrap64 (65 - (n : Int)) = y43
    have HLL : Hid (S ++ [48, 120, 49] ++ [46] ++ digs 13 r0 = L ∧ L.length ≤ 30) := Lib.hid ⟨hLL, by rw [← hLL]; have := digs_len 13 r0; simp only [List.length_append, List.length_cons, List.length_nil]; omega⟩
    clear hst hLL
    generalize S ++ [48, 120, 49] ++ [46] = l0 at HL HD
    go_loopg [9] 13 (fun gk v wr => ∃ l r, v = .int .u64 ((r * 4096 : Nat) : Int) ∧ Hid (HexU w wr w2.heap.size g m X l ∧ DigS L l gk r))
    case atStart => exact ⟨_, r0, by rw [HR0.out], Lib.hid ⟨HL.out, HD.out⟩⟩
    case round =>
      clear HL HD
      obtain ⟨l, r, rfl, hh⟩ := hrel
      by_cases hr : r = 0
      · subst hr
        rw [Nat.zero_mul]
        have HL := Lib.hid hh.out.1
        have HlL : Hid (l = L) := Lib.hid (by have := hh.out.2.eq; rw [digs_zero, List.append_nil] at this; exact this)
        obtain rfl := HlL.out
        go_wp2_with fail
        refine (wbyte_k w.heap.size w.heap.size _ 112 _ HL.out.bd (by have := HLL.out.2; omega) HL.out.b.size 112 rfl).mono ?_
        rintro e w7 ⟨rfl, d7, b7, k7⟩
        have HL7 := Lib.hid (HL.out.next d7 b7 k7)
        clear d7 b7 k7
        have hc2 := Lib.cell_of_heap HL7.out.h 2
        go_wp2_with fail
        refine (itoa_any E w7 (by have := HE.out; omega) (by have := HE.out; omega) (HP.out.below HL7.out.b HP.out.2)).mono ?_
        rintro e w8 ⟨rfl, b8⟩
        have HB8 := Lib.hid (And.intro (HL7.out.bd.below b8) (back_of' HL7.out.b b8))
        clear b8 hc2
        go_wp2_with fail
        refine (wstring w.heap.size w.heap.size _ _ w8 HB8.out.1 (by have := HLL.out.2; simp; omega) (by have := itoa_len (E := E) (by have := HE.out; omega) (by have := HE.out; omega); show (Lib.itoa E).toArray.size ≤ _; simp; omega) HB8.out.2.size).mono ?_
        rintro e w9 ⟨rfl, d9, b9⟩
        have H9 := Lib.hid (And.intro d9 (HB8.out.2.trans b9))
        clear d9 b9
        go_wp2_with fail
        refine (bstring w.heap.size w.heap.size _ w9 H9.out.1 H9.out.2.size).mono ?_
        rintro e w10 ⟨rfl, b10⟩
        have HF := Lib.hid (H9.out.2.trans b10)
        clear b10
        go_wp2_with fail
        go_ret
        refine ⟨congrArg (fun z : List UInt8 => Ending.returned (Value.string ⟨z.toArray⟩)) (?_ : _ = S ++ NL), HF.out⟩
        rw [hL.out, HEE.out, ← HLL.out.1]
        simp
      · obtain ⟨k, rfl⟩ : ∃ k, gk = k + 1 := by
          cases gk with
          | zero => exact absurd (frac_end hh.out.2.ok) hr
          | succ k => exact ⟨k, rfl⟩
        obtain ⟨R, hR⟩ : ∃ R, r * 4096 = R := ⟨_, rfl⟩
        rw [hR]
        obtain ⟨R2, hR2⟩ : ∃ R2, r % 281474976710656 * 16 * 4096 = R2 := ⟨_, rfl⟩
        obtain ⟨q, hq⟩ : ∃ q, r / 281474976710656 = q := ⟨_, rfl⟩
        have hrl := hh.out.2.ok.1
        have hRq : (R : Int) / 1152921504606846976 = (q : Int) := by omega
        have hRn : ((R : Int) == 0) = false := by
          have : ¬ (R : Int) = 0 := by omega
          simpa using this
        have hRw : IntKind.u64.wrap ((R : Int) * 16) = (R2 : Int) := by rw [IntKind.wrap_u64]; omega
        obtain ⟨c, hc⟩ : ∃ c : Int, c = ((hxd q).toNat : Int) := ⟨_, rfl⟩
        have hidx := hxd_idx q c (by omega) hc
        have HH := Lib.hid (And.intro hr (And.intro hR2 (And.intro hq hc)))
        clear hr hR hR2 hq hc hrl
        go_wp2_with fail
        refine (wbyte_k w.heap.size w.heap.size l (hxd q) wr hh.out.1.bd (by have := congrArg List.length hh.out.2.eq; have := HLL.out.2; rw [List.length_append] at *; omega) hh.out.1.b.size c HH.out.2.2.2).mono ?_
        rintro e w6 ⟨rfl, d6, b6, k6⟩
        have HL6 := Lib.hid (hh.out.1.next d6 b6 k6)
        clear d6 b6 k6
        have HD6 : Hid (DigS L (l ++ [hxd q]) k (r % 281474976710656 * 16)) := Lib.hid ⟨frac_step hh.out.2.ok, by
          have h := hh.out.2.eq
          rw [digs_cons HH.out.1, HH.out.2.2.1] at h
          rw [← h]
          simp⟩
        go_wp2_with fail
        go_roundg k
        case measure => omega
        case rel => exact ⟨_, _, by rw [HH.out.2.1], Lib.hid ⟨HL6.out, HD6.out⟩⟩
  · rw [if_pos (show n = 1 by have := HX.out.n1; omega)] at hL
    have hn2 : ¬ (1 : Int) < (n : Int) := by omega
    go_wp2_with fail
    refine (wbyte_k w.heap.size w.heap.size _ 112 _ HL.out.bd (by simp; omega) HL.out.b.size 112 rfl).mono ?_
    rintro e w7 ⟨rfl, d7, b7, k7⟩
    have HL7 := Lib.hid (HL.out.next d7 b7 k7)
    clear d7 b7 k7
    have hc2 := Lib.cell_of_heap HL7.out.h 2
    go_wp2_with fail
    refine (itoa_any E w7 (by have := HE.out; omega) (by have := HE.out; omega) (HP.out.below HL7.out.b HP.out.2)).mono ?_
    rintro e w8 ⟨rfl, b8⟩
    have HB8 := Lib.hid (And.intro (HL7.out.bd.below b8) (back_of' HL7.out.b b8))
    clear b8 hc2
    go_wp2_with fail
    refine (wstring w.heap.size w.heap.size _ _ w8 HB8.out.1 (by simp; omega) (by have := itoa_len (E := E) (by have := HE.out; omega) (by have := HE.out; omega); show (Lib.itoa E).toArray.size ≤ _; simp; omega) HB8.out.2.size).mono ?_
    rintro e w9 ⟨rfl, d9, b9⟩
    have H9 := Lib.hid (And.intro d9 (HB8.out.2.trans b9))
    clear d9 b9
    go_wp2_with fail
    refine (bstring w.heap.size w.heap.size _ w9 H9.out.1 H9.out.2.size).mono ?_
    rintro e w10 ⟨rfl, b10⟩
    have HF := Lib.hid (H9.out.2.trans b10)
    clear b10
    go_wp2_with fail
    go_ret
    refine ⟨congrArg (fun z : List UInt8 => Ending.returned (Value.string ⟨z.toArray⟩)) (?_ : _ = S ++ NL), HF.out⟩
    rw [hL.out, HEE.out]
    simp

set_option maxRecDepth 8000 in
theorem hex_spec (f : Nat) (w : World) (hf : f < 18446744073709551616) (hs : specL f ≠ []) :
    Calls Tryz.prog 7 #[.float .f64 f] w fun e w' => e = .returned (.string ⟨(specL f).toArray⟩) ∧ Below w.heap.size w w' := by
  have HSp := Lib.hid (fun W => special_any f W hf)
  rw [decide_eq_true hs] at HSp
  clear hs
  generalize specL f = S at *
  go_enter Tryz.func7, Tryz.ntmps7
  go_wp2_with fail
  refine (HSp.out w).mono ?_
  rintro e w1 ⟨rfl, hw⟩
  obtain rfl := hw.symm
  go_wp2_with fail
  go_ret
  exact ⟨rfl, Below.refl _ _⟩
set_option maxRecDepth 8000 in
theorem hex_zero (f : Nat) (w : World) (hT : Tab64 w) (hf : f < 18446744073709551616) (h0 : f % 9223372036854775808 = 0) :
    Calls Tryz.prog 7 #[.float .f64 f] w fun e w' => e = .returned (.string ⟨(sgL f ++ [48, 120, 48, 112, 48]).toArray⟩) ∧ Below w.heap.size w w' := by
  have HT := Lib.hid hT
  have HSp := Lib.hid (fun W => special_any f W hf)
  rw [(spec_fin hf).2 (by omega)] at HSp
  have HBg := Lib.hid (fun W => begun_any f W hf)
  have HPa := Lib.hid (fun W hW => Parts_zero f W hW hf h0)
  have hgl : (sgL f).length ≤ 1 := by unfold sgL; split <;> simp
  clear hT h0 hf
  generalize decide (9223372036854775808 ≤ f) = g at *
  generalize sgL f = S at *
  go_enter Tryz.func7, Tryz.ntmps7
  go_wp2_with fail
  refine (HSp.out w).mono ?_
  rintro e w1 ⟨rfl, hw⟩
  obtain rfl := hw.symm
  go_wp2_with fail
  refine (HBg.out w).mono ?_
  rintro e w1 ⟨rfl, d1, b1⟩
  have H1 := Lib.hid (And.intro d1 b1)
  clear d1 b1
  go_wp2_with fail
  refine (HPa.out w1 (HT.out.below H1.out.2)).mono ?_
  rintro e w2 ⟨rfl, b2⟩
  have hA := (Below.refl w2.heap.size w2).alloc (Nat.le_refl _) (.cells #[.bool g, .int .u64 0, .int .i64 0] 60)
  have HL : Hid (HexU w (w2.alloc (.cells #[.bool g, .int .u64 0, .int .i64 0] 60)) w2.heap.size g 0 0 S) := Lib.hid ⟨H1.out.1.below (back_of' b2 hA), back_of' H1.out.2 (back_of' b2 hA), by show (w2.heap.push _)[w2.heap.size]? = _; simp, Nat.ne_of_gt (Nat.lt_of_lt_of_le H1.out.1.lt b2.size)⟩
  clear b2 hA H1
  have hc1 := Lib.cell_of_heap HL.out.h 1
  go_wp2_with fail
  obtain ⟨W3, hW3⟩ : ∃ W3, w2.alloc (.cells #[.bool g, .int .u64 0, .int .i64 0] 60) = W3 := ⟨_, rfl⟩
  rw [hW3] at HL
  rw [hW3]
  clear hW3 hc1
  refine (wstring w.heap.size w.heap.size S ⟨#[48, 120, 48, 112, 48]⟩ W3 HL.out.bd (by omega) (by decide) HL.out.b.size).mono ?_
  rintro e w4 ⟨rfl, d4, b4⟩
  have H4 := Lib.hid (And.intro d4 (HL.out.b.trans b4))
  clear d4 b4
  go_wp2_with fail
  refine (bstring w.heap.size w.heap.size _ w4 H4.out.1 H4.out.2.size).mono ?_
  rintro e w5 ⟨rfl, b5⟩
  have HF := Lib.hid (H4.out.2.trans b5)
  clear b5
  go_wp2_with fail
  go_ret
  exact ⟨rfl, HF.out⟩
/-- the hex form of any number -/
theorem hex_any (f : Nat) (w : World) (hT : Tab64 w) (hP : TabP w) (hf : f < 18446744073709551616) :
    Calls Tryz.prog 7 #[.float .f64 f] w fun e w' => e = .returned (.string ⟨(hexL f).toArray⟩) ∧ Below w.heap.size w w' := by
  unfold hexL
  by_cases c : specL f = []
  · rw [if_pos c]
    by_cases c0 : f % 9223372036854775808 = 0
    · rw [if_pos c0]
      exact hex_zero f w hT hf c0
    · rw [if_neg c0]
      obtain ⟨t, ht⟩ := finN hf ((spec_fin hf).1 c) c0
      exact hex_num f t w hT hP c ht
  · rw [if_neg c]
    exact hex_spec f w hf c
theorem hexL_ne (f : Nat) : hexL f ≠ [] := by
  unfold hexL numL
  split
  · split <;> simp
  · assumption
theorem hexL_len (f : Nat) (hf : f < 18446744073709551616) : (hexL f).length ≤ 40 := by
  have hg : (sgL f).length ≤ 1 := by unfold sgL; split <;> simp
  unfold hexL
  split
  · rename_i c
    split
    · simp only [List.length_append, List.length_cons, List.length_nil]; omega
    · rename_i c0
      obtain ⟨t, ht⟩ := finN hf ((spec_fin hf).1 c) c0
      have hx := hexm (oddM f) ht.od ht.up
      have h1 := point_len (oddM f)
      have h2 := itoa_len (E := oddX f + (Lib.bitLen (oddM f) : Nat) - 1) (by have := ht.x0; omega) (by have := ht.x1; have := hx.n53; omega)
      unfold numL
      simp only [List.length_append, List.length_cons, List.length_nil]
      omega
  · unfold specL
    split
    · simp
    · split
      · simp
      · split <;> simp
end Go.Proofs.YtgccfdfbnhldbaaGreatDoor

namespace Go.Proofs.YtgccfdfbnhldbaaGreatDoor
open Go Go.RowKit Nb Nx

theorem str_app (a b : List UInt8) : (⟨a.toArray⟩ : ByteArray) ++ (⟨b.toArray⟩ : ByteArray) = ⟨(a ++ b).toArray⟩ := by
  apply ByteArray.ext
  rw [ByteArray.data_append]
  simp
end Go.Proofs.YtgccfdfbnhldbaaGreatDoor

namespace Go.Proofs.YtgccfdfbnhldbaaGreatDoor
open Go Go.RowKit Nb Nx

/-- one number more behind a text -/
def putL (acc : List UInt8) (f : Nat) : List UInt8 := (if acc = [] then [] else acc ++ [32]) ++ hexL f
def listL (acc : List UInt8) (bs : List Nat) : List UInt8 := bs.foldl putL acc
theorem putL_ne (acc : List UInt8) (f : Nat) : putL acc f ≠ [] := by
  unfold putL
  have := hexL_ne f
  simp [this]
theorem putL_len (acc : List UInt8) (f : Nat) (hf : f < 18446744073709551616) : (putL acc f).length ≤ acc.length + 41 := by
  unfold putL
  have := hexL_len f hf
  split <;> simp <;> omega
theorem listL_take {acc : List UInt8} {bs : List Nat} {k : Nat} (hk : k < bs.length) : listL acc (bs.take (k + 1)) = putL (listL acc (bs.take k)) (bs.getD k 0) := by
  unfold listL
  rw [List.take_add_one, List.foldl_append, List.getD_eq_getElem?_getD, List.getElem?_eq_getElem hk]
  rfl
theorem listL_len : ∀ (bs : List Nat) (acc : List UInt8), (∀ x ∈ bs, x < 18446744073709551616) → (listL acc bs).length ≤ acc.length + 41 * bs.length := by
  intro bs
  induction bs with
  | nil => intro acc _; simp [listL]
  | cons f bs ih =>
    intro acc h
    have h1 := ih (putL acc f) (fun x hx => h x (List.mem_cons_of_mem _ hx))
    have h2 := putL_len acc f (h f List.mem_cons_self)
    have e : listL acc (f :: bs) = listL (putL acc f) bs := rfl
    rw [e, List.length_cons]
    omega
theorem getD_lt {bs : List Nat} (h : ∀ x ∈ bs, x < 18446744073709551616) (k : Nat) : bs.getD k 0 < 18446744073709551616 := by
  rw [List.getD_eq_getElem?_getD]
  rcases Nat.lt_or_ge k bs.length with c | c
  · rw [List.getElem?_eq_getElem c]
    exact h _ (List.getElem_mem c)
  · rw [List.getElem?_eq_none c]
    simp
theorem wbyte_w (B b : Nat) (l : List UInt8) (c : UInt8) (w : World) (h : Bld w B b l) (hl : l.length ≤ 100000000) (hB : B ≤ w.heap.size) (x : Int) (hx : x = (c.toNat : Int)) :
    Calls Tryz.prog 31 #[.pointer (some ⟨b, 0, none⟩), .int .u8 x] w fun e w' => e = .returned .nilIface ∧ Bld w' B b (l ++ [c]) ∧ Below B w w' := by
  subst hx
  refine (writeByte_any B b _ _ w h (by rw [Lib.byteCells_length]; omega) hB).mono ?_
  rintro e w' ⟨rfl, h1, h2⟩
  refine ⟨rfl, .inr ?_, h2⟩
  rw [← cells_app]
  exact h1
theorem wstring_w (B b : Nat) (l : List UInt8) (s : ByteArray) (w : World) (h : Bld w B b l) (hl : l.length ≤ 100000000) (hs : s.size ≤ 1000000) (hB : B ≤ w.heap.size) :
    Calls Tryz.prog 28 #[.pointer (some ⟨b, 0, none⟩), .string s] w fun e w' => e = .returned (.tuple #[.int .i64 s.size, .nilIface]) ∧ Bld w' B b (l ++ s.data.toList) ∧ Below B w w' := by
  refine (writeString_any B b _ s w h (by rw [Lib.byteCells_length]; omega) hB).mono ?_
  rintro e w' ⟨rfl, h1, h2⟩
  refine ⟨rfl, .inr ?_, h2⟩
  rw [← cells_app]
  exact h1
theorem len_w (B b : Nat) (l : List UInt8) (w : World) (h : Bld w B b l) :
    Calls Tryz.prog 112 #[.pointer (some ⟨b, 0, none⟩)] w fun e w' => e = .returned (.int .i64 (l.length : Int)) ∧ w' = w := by
  have := Tryz.Builder_Len B b _ w h
  rw [Lib.byteCells_length] at this
  exact this

set_option maxRecDepth 8000 in
set_option maxHeartbeats 2000000 in
theorem hexes_any (b : Nat) (A : Option Addr) (n c : Nat) (bs : List Nat) (acc : List UInt8) (W0 w : World) (hT : Tab64 W0) (hP : TabP W0) (hfl : FlAt W0 A n bs) (hbs : ∀ x ∈ bs, x < 18446744073709551616) (hn : n ≤ 5000) (ha : acc.length ≤ 1000) (hB : Bld w W0.heap.size b acc) (hb : Below W0.heap.size W0 w) :
    Calls Tryz.prog 58 #[.pointer (some ⟨b, 0, none⟩), .slice A n c] w fun e w' => e = .returned (.tuple #[]) ∧ Bld w' W0.heap.size b (listL acc bs) ∧ Below W0.heap.size W0 w' := by
  have HF := Lib.hid hfl
  have HT := Lib.hid hT
  have HP := Lib.hid hP
  have HX := Lib.hid hbs
  have HN := Lib.hid (And.intro hn ha)
  have H0 := Lib.hid (And.intro hB hb)
  have hn1 : (n : Int) ≤ 5000 := by omega
  clear hfl hT hP hbs hn ha hB hb
  go_enter Tryz.func58, Tryz.ntmps58
  go_wp2_with fail
  go_loopw [8] (fun iv wr => ∃ k : Nat, k ≤ n ∧ iv = .int .i64 (k : Int) ∧ Hid (Bld wr W0.heap.size b (listL acc (bs.take k)) ∧ Below W0.heap.size W0 wr)) (fun iv _ => n - (intOf iv).toNat)
  case atStart => exact ⟨0, by omega, rfl, H0⟩
  case round =>
    obtain ⟨k, hk, rfl, hh⟩ := hrel
    by_cases hlt : k < n
    · obtain ⟨g, off, rfl, hg, hcell⟩ := HF.out.at hlt
      obtain ⟨f, hf⟩ : ∃ f, bs.getD k 0 = f := ⟨_, rfl⟩
      rw [hf] at hcell
      have hcr := (hh.out.2.cell (p := ⟨g, off + k, none⟩) hg).trans hcell
      have hki : (k : Int) < (n : Int) := by omega
      have hfl : f < 18446744073709551616 := by rw [← hf]; exact getD_lt HX.out k
      have hnx : Hid (listL acc (bs.take (k + 1)) = putL (listL acc (bs.take k)) f ∧ (listL acc (bs.take k)).length ≤ 300000 ∧ (hexL f).length ≤ 40) := Lib.hid ⟨by rw [← hf]; exact listL_take (by rw [HF.out.1]; exact hlt), by
        have h1 := listL_len (bs.take k) acc (fun x hx => HX.out x (List.mem_of_mem_take hx))
        have h2 : (bs.take k).length ≤ 5000 := by rw [List.length_take]; omega
        have h3 := HN.out
        omega, hexL_len f hfl⟩
      obtain ⟨l, hl⟩ : ∃ l, listL acc (bs.take k) = l := ⟨_, rfl⟩
      rw [hl] at hh hnx
      clear hcell hf hl
      by_cases hl0 : l = []
      · subst hl0
        go_wp2_with fail
        refine (len_w _ b [] wr hh.out.1).mono ?_
        rintro e w1 ⟨rfl, hw1⟩
        obtain rfl := hw1.symm
        go_wp2_with fail
        refine (hex_any f wr (HT.out.below hh.out.2) (HP.out.below hh.out.2 HP.out.2) hfl).mono ?_
        rintro e w3 ⟨rfl, b3⟩
        have H3 := Lib.hid (And.intro (Bld.below hh.out.1 b3) (back_of' hh.out.2 b3))
        clear b3
        go_wp2_with fail
        refine (wstring_w W0.heap.size b _ _ w3 H3.out.1 (by have := hnx.out.2.1; simp; try omega) (by have := hnx.out.2.2; show (hexL f).toArray.size ≤ _; simp; omega) H3.out.2.size).mono ?_
        rintro e w4 ⟨rfl, d4, b4⟩
        have H4 := Lib.hid (And.intro d4 (H3.out.2.trans b4))
        clear d4 b4
        go_wp2_with fail
        go_roundw
        case rel =>
          refine ⟨k + 1, by omega, by go_num, Lib.hid ⟨?_, H4.out.2⟩⟩
          have h1 := H4.out.1
          rw [hnx.out.1]
          unfold putL
          rw [if_pos rfl]
          exact h1
        case measure => simp [intOf]; omega
      · have hlp : (0 : Int) < (l.length : Int) := by
          have := List.length_pos_iff.2 hl0
          omega
        have HB := Lib.hid hh.out.1
        go_wp2_with fail
        refine (len_w _ b l wr hh.out.1).mono ?_
        rintro e w1 ⟨rfl, hw1⟩
        obtain rfl := hw1.symm
        go_wp2_with fail
        refine (wbyte_w W0.heap.size b l 32 wr HB.out (by have := hnx.out.2.1; omega) hh.out.2.size 32 rfl).mono ?_
        rintro e w2 ⟨rfl, d2, b2⟩
        have H2 := Lib.hid (And.intro d2 (hh.out.2.trans b2))
        clear d2 b2
        go_wp2_with fail
        refine (hex_any f w2 (HT.out.below H2.out.2) (HP.out.below H2.out.2 HP.out.2) hfl).mono ?_
        rintro e w3 ⟨rfl, b3⟩
        have H3 := Lib.hid (And.intro (Bld.below H2.out.1 b3) (back_of' H2.out.2 b3))
        clear b3
        go_wp2_with fail
        refine (wstring_w W0.heap.size b _ _ w3 H3.out.1 (by have := hnx.out.2.1; simp; try omega) (by have := hnx.out.2.2; show (hexL f).toArray.size ≤ _; simp; omega) H3.out.2.size).mono ?_
        rintro e w4 ⟨rfl, d4, b4⟩
        have H4 := Lib.hid (And.intro d4 (H3.out.2.trans b4))
        clear d4 b4
        go_wp2_with fail
        go_roundw
        case rel =>
          refine ⟨k + 1, by omega, by go_num, Lib.hid ⟨?_, H4.out.2⟩⟩
          have h1 := H4.out.1
          rw [hnx.out.1]
          unfold putL
          rw [if_neg hl0]
          exact h1
        case measure => simp [intOf]; omega
    · have hkn : k = n := by omega
      subst hkn
      go_wp2_with fail
      go_end0
      have h1 := hh.out.1
      rw [List.take_of_length_le (by rw [HF.out.1]; exact Nat.le_refl _)] at h1
      exact ⟨rfl, h1, hh.out.2⟩

set_option maxRecDepth 8000 in
set_option maxHeartbeats 1000000 in
/-- a list's text -/
theorem list_any (A : Option Addr) (n c : Nat) (bs : List Nat) (w : World) (hT : Tab64 w) (hP : TabP w) (hfl : FlAt w A n bs) (hbs : ∀ x ∈ bs, x < 18446744073709551616) (hn : n ≤ 4096) :
    Calls Tryz.prog 17 #[.slice A n c] w fun e w' => e = .returned (.tuple #[.string ⟨(listL [] bs).toArray⟩, .int .i64 0]) ∧ Below w.heap.size w w' := by
  have hA := (Below.refl w.heap.size w).alloc (Nat.le_refl _) (.cells #[.pointer none, .slice none 0 0] 106)
  have HH := Lib.hid (hexes_any w.heap.size A n c bs [] w _ hT hP hfl hbs (by omega) (by simp) (Bld.new w) hA)
  have hn1 : ¬ (4096 : Int) < (n : Int) := by omega
  clear hA hT hP hfl hbs hn
  go_enter Tryz.func17, Tryz.ntmps17
  go_wp2_with fail
  refine HH.out.mono ?_
  rintro e w1 ⟨rfl, d1, b1⟩
  have H1 := Lib.hid (And.intro d1 b1)
  clear d1 b1
  go_wp2_with fail
  refine (bstring w.heap.size w.heap.size _ w1 H1.out.1 H1.out.2.size).mono ?_
  rintro e w2 ⟨rfl, b2⟩
  have H2 := Lib.hid (H1.out.2.trans b2)
  clear b2
  go_wp2_with fail
  go_ret2
  exact ⟨rfl, H2.out⟩
end Go.Proofs.YtgccfdfbnhldbaaGreatDoor

namespace Go.Proofs.YtgccfdfbnhldbaaGreatDoor.Nb
open Go Nx

/-- no space in a text -/
def NoSp (l : List UInt8) : Prop := ∀ b ∈ l, b ≠ 32
theorem index_sp : ∀ (p r : List UInt8), NoSp p → Lib.index (p ++ 32 :: r) [32] = (p.length : Int)
  | [], r, _ => by simp [Lib.index, List.isPrefixOf]
  | b :: p, r, h => by
    have hb : b ≠ 32 := h b List.mem_cons_self
    have ih := index_sp p r (fun x hx => h x (List.mem_cons_of_mem _ hx))
    have e : (32 == b) = false := by simpa using fun h => hb h.symm
    rw [List.cons_append]
    unfold Lib.index
    rw [ih]
    simp [List.isPrefixOf, e]
theorem index_no : ∀ (p : List UInt8), NoSp p → Lib.index p [32] = -1
  | [], _ => by simp [Lib.index]
  | b :: p, h => by
    have hb : b ≠ 32 := h b List.mem_cons_self
    have ih := index_no p (fun x hx => h x (List.mem_cons_of_mem _ hx))
    have e : (32 == b) = false := by simpa using fun h => hb h.symm
    unfold Lib.index
    rw [ih]
    simp [List.isPrefixOf, e]
def joinS : List UInt8 → List (List UInt8) → List UInt8
  | p, [] => p
  | p, q :: l => p ++ 32 :: joinS q l
theorem split_join : ∀ (l : List (List UInt8)) (p : List UInt8) (k : Nat), NoSp p → (∀ q ∈ l, NoSp q) → l.length ≤ k → Lib.splitK [32] 0 k (joinS p l) = p :: l
  | [], p, 0, _, _, _ => rfl
  | [], p, k + 1, hp, _, _ => by
    unfold Lib.splitK joinS
    rw [index_no p hp]
    rfl
  | q :: l, p, k + 1, hp, hl, hk => by
    have ih := split_join l q k (hl q List.mem_cons_self) (fun x hx => hl x (List.mem_cons_of_mem _ hx)) (by simpa using hk)
    unfold Lib.splitK joinS
    rw [index_sp p _ hp]
    have h1 : (((p.length : Nat) : Int) == -1) = false := by simp
    rw [h1]
    have h2 : (p ++ 32 :: joinS q l).drop (((p.length : Nat) : Int).toNat + ([32] : List UInt8).length) = joinS q l := by
      rw [Int.toNat_natCast, ← List.drop_drop, List.drop_left]
      rfl
    have h3 : (p ++ 32 :: joinS q l).take (((p.length : Nat) : Int).toNat + 0) = p := by rw [Int.toNat_natCast, Nat.add_zero, List.take_left]
    simp only [Bool.false_eq_true, if_false]
    rw [h2, h3, ih]
theorem count_nosp {p : List UInt8} (h : NoSp p) : p.count 32 = 0 := List.count_eq_zero.2 fun hm => h 32 hm rfl
theorem count_join : ∀ (l : List (List UInt8)) (p : List UInt8), NoSp p → (∀ q ∈ l, NoSp q) → (joinS p l).count 32 = l.length
  | [], p, hp, _ => count_nosp hp
  | q :: l, p, hp, hl => by
    unfold joinS
    rw [List.count_append, count_nosp hp, List.count_cons, count_join l q (hl q List.mem_cons_self) (fun x hx => hl x (List.mem_cons_of_mem _ hx))]
    simp
theorem joinS_app (x p : List UInt8) : ∀ l, joinS (x ++ p) l = x ++ joinS p l
  | [] => rfl
  | q :: l => by unfold joinS; rw [List.append_assoc]
/-- List's text is its numbers' forms with spaces between -/
theorem listL_join : ∀ (bs : List Nat) (acc : List UInt8), acc ≠ [] → listL acc bs = joinS acc (bs.map hexL)
  | [], _, _ => rfl
  | f :: bs, acc, h => by
    have e : putL acc f = (acc ++ [32]) ++ hexL f := by unfold putL; rw [if_neg h]
    have ih := listL_join bs (putL acc f) (putL_ne acc f)
    show listL (putL acc f) bs = joinS acc (hexL f :: bs.map hexL)
    rw [ih, e, joinS_app]
    simp [joinS]
theorem listL_nil (f : Nat) (bs : List Nat) : listL [] (f :: bs) = joinS (hexL f) (bs.map hexL) := by
  have e : putL [] f = hexL f := by unfold putL; simp
  show listL (putL [] f) bs = _
  rw [listL_join bs _ (putL_ne [] f), e]
end Go.Proofs.YtgccfdfbnhldbaaGreatDoor.Nb

namespace Go.Proofs.YtgccfdfbnhldbaaGreatDoor
open Go Go.RowKit Nb Nx

/-- rows and columns ahead -/
def shapeL (r c : Int) : List UInt8 := Lib.itoa r ++ [32] ++ Lib.itoa c
theorem shape_ne (r c : Int) : shapeL r c ≠ [] := by unfold shapeL; simp
theorem shape_len {r c : Int} (h0 : 0 ≤ r) (h1 : r ≤ 12) (h2 : 0 ≤ c) (h3 : c ≤ 12) : (shapeL r c).length ≤ 41 := by
  unfold shapeL
  have a := itoa_len (E := r) (by omega) (by omega)
  have b := itoa_len (E := c) (by omega) (by omega)
  simp only [List.length_append, List.length_cons, List.length_nil]
  omega
structure OkDim (r c : Int) : Prop where
  r0 : 0 ≤ r
  r1 : r ≤ 12
  c0 : 0 ≤ c
  c1 : c ≤ 12
theorem dim_mul {r c : Int} (h : OkDim r c) : wrap64 (r * c) = r * c ∧ 0 ≤ r * c ∧ r * c ≤ 144 := by
  obtain ⟨h0, h1, h2, h3⟩ := h
  have a : 0 ≤ r * c := Int.mul_nonneg h0 h2
  have b : r * c ≤ 12 * 12 := Int.mul_le_mul h1 h3 h2 (by omega)
  refine ⟨by unfold wrap64; omega, a, by omega⟩

/-- a matrix by value in a block of its own -/
def MatAt (w : World) (g : Nat) (r c : Int) (V : Value) : Prop := w.cell? ⟨g, 0, none⟩ = some (.int .i64 r) ∧ w.cell? ⟨g, 1, none⟩ = some (.int .i64 c) ∧ w.cell? ⟨g, 2, none⟩ = some V
theorem MatAt.below {w w' : World} {g B : Nat} {r c : Int} {V : Value} (h : MatAt w g r c V) (hb : Below B w w') (hg : g < B) : MatAt w' g r c V :=
  ⟨(hb.cell hg).trans h.1, (hb.cell hg).trans h.2.1, (hb.cell hg).trans h.2.2⟩
theorem mat_new (w : World) (r c : Int) (V : Value) (T : TypeId) : MatAt (w.alloc (.cells #[.int .i64 r, .int .i64 c, V] T)) w.heap.size r c V := by
  refine ⟨?_, ?_, ?_⟩ <;> simp [go_sem]
theorem itoa_named (r : Int) (h0 : 0 ≤ r) (h1 : r ≤ 12) : ∃ RS : ByteArray, RS = ⟨(Lib.itoa r).toArray⟩ ∧ RS.size ≤ 20 ∧ ∀ w, TabP w → Calls Tryz.prog 32 #[.int .i64 r] w fun e w' => e = .returned (.string RS) ∧ Below w.heap.size w w' := by
  refine ⟨_, rfl, ?_, fun w hP => itoa_any r w (by omega) (by omega) hP⟩
  have := itoa_len (E := r) (by omega) (by omega)
  show (Lib.itoa r).toArray.size ≤ _
  simpa using this

set_option maxRecDepth 8000 in
set_option maxHeartbeats 2000000 in
theorem mat_ok (r c : Int) (A : Option Addr) (n cc : Nat) (bs : List Nat) (w : World) (hT : Tab64 w) (hP : TabP w) (hfl : FlAt w A n bs) (hbs : ∀ x ∈ bs, x < 18446744073709551616) (h : OkDim r c) (hn : r * c = (n : Int)) :
    Calls Tryz.prog 20 #[.agg #[.int .i64 r, .int .i64 c, .slice A n cc]] w fun e w' => e = .returned (.tuple #[.string ⟨(listL (shapeL r c) bs).toArray⟩, .int .i64 0]) ∧ Below w.heap.size w w' := by
  have hm : wrap64 (r * c) = (n : Int) := by rw [(dim_mul h).1, hn]
  have hn4 : n ≤ 144 := by have := (dim_mul h).2.2; omega
  have h0 := h.r0
  have h1 : ¬ 12 < r := by have := h.r1; omega
  have h2 := h.c0
  have h3 : ¬ 12 < c := by have := h.c1; omega
  have HD := Lib.hid h
  have HN := Lib.hid hn4
  have HBS := Lib.hid hbs
  have hA := (Below.refl w.heap.size w).alloc (Nat.le_refl _) (.cells #[.int .i64 r, .int .i64 c, .slice A n cc] 47)
  have HA := Lib.hid hA
  have HF := Lib.hid (hfl.below hA)
  have HT := Lib.hid (hT.below hA)
  have HP := Lib.hid (hP.below hA hP.2)
  have HM := Lib.hid (mat_new w r c (.slice A n cc) 47)
  have HB := Lib.hid (And.intro (Bld.new (w.alloc (.cells #[.int .i64 r, .int .i64 c, .slice A n cc] 47))) ((Below.refl (w.alloc (.cells #[.int .i64 r, .int .i64 c, .slice A n cc] 47)).heap.size (w.alloc (.cells #[.int .i64 r, .int .i64 c, .slice A n cc] 47))).alloc (Nat.le_refl _) (.cells #[.pointer none, .slice none 0 0] 106)))
  have hs : (w.alloc (.cells #[.int .i64 r, .int .i64 c, .slice A n cc] 47)).heap.size = w.heap.size + 1 := by simp
  obtain ⟨RS, hRS, hrl, hIr⟩ := itoa_named r h.r0 h.r1
  obtain ⟨CS, hCS, hcl, hIc⟩ := itoa_named c h.c0 h.c1
  have HI := Lib.hid (And.intro hIr hIc)
  have HJ : Hid (RS ++ (⟨#[32]⟩ : ByteArray) ++ CS = ⟨(shapeL r c).toArray⟩) := Lib.hid (by
    rw [hRS, hCS]
    exact (congrArg (· ++ (⟨(Lib.itoa c).toArray⟩ : ByteArray)) (str_app (Lib.itoa r) [32])).trans (str_app _ _))
  clear h hn4 hbs hfl hT hP hA hRS hCS hIr hIc hn
  go_enter Tryz.func20, Tryz.ntmps20
  go_wp2_with fail
  rw [← hs]
  generalize w.alloc (.cells #[.int .i64 r, .int .i64 c, .slice A n cc] 47) = W0 at *
  have hwg : w.heap.size < W0.heap.size := by omega
  clear hs
  generalize W0.alloc (.cells #[.pointer none, .slice none 0 0] 106) = w0 at *
  have hcur : Below w0.heap.size w0 w0.drew := (Below.refl _ _).drew
  have HM0 := Lib.hid (HM.out.below HB.out.2 hwg)
  have HP0 := Lib.hid (HP.out.below HB.out.2 HP.out.2)
  have hw0 := HB.out.2.size
  have hq1 : ¬ 9223372036854775807 < RS.size + 1 := by omega
  have hq2 : ¬ 9223372036854775807 < RS.size + 1 + CS.size := by omega
  go_region_held3 (fun w' => w'.cell? ⟨w.heap.size, 0, none⟩ = some (.int .i64 r) ∧ w'.cell? ⟨w.heap.size, 1, none⟩ = some (.int .i64 c)) (first | exact ⟨HM3.out.1, HM3.out.2.1⟩ | (have q := HM0.out.below hcur (by omega); exact ⟨q.1, q.2.1⟩)) (first | (go_at_call_of 32 r; refine (HI.out.1 _ (HP0.out.below hcur HP0.out.2)).mono ?_; rintro e w1 ⟨rfl, b1⟩; replace hcur := back_of' hcur b1; clear b1) | (go_at_call_of 32 c; refine (HI.out.2 _ (HP0.out.below hcur HP0.out.2)).mono ?_; rintro e w2 ⟨rfl, b2⟩; replace hcur := back_of' hcur b2; clear b2) | (go_at_call 28; rw [HJ.out]; refine (wstring_w W0.heap.size W0.heap.size [] _ _ (Bld.below HB.out.1 hcur) (by simp) (by have := shape_len HD.out.r0 HD.out.r1 HD.out.c0 HD.out.c1; show (shapeL r c).toArray.size ≤ _; simp; omega) (by have := hcur.size; omega)).mono ?_; rintro e w3 ⟨rfl, d3, b3⟩; have H3 : Hid (Bld w3 W0.heap.size W0.heap.size (shapeL r c) ∧ Below W0.heap.size W0 w3) := Lib.hid ⟨d3, (back_of' HB.out.2 hcur).trans b3⟩; have HM3 := Lib.hid (HM.out.below H3.out.2 hwg); have hm2 := HM3.out.2.2; clear d3 b3))
  go_wp2_with fail
  refine (hexes_any W0.heap.size A n cc bs (shapeL r c) W0 w3 HT.out HP.out HF.out HBS.out (by have := HN.out; omega) (by have := shape_len HD.out.r0 HD.out.r1 HD.out.c0 HD.out.c1; omega) H3.out.1 H3.out.2).mono ?_
  rintro e w4 ⟨rfl, d4, b4⟩
  have H4 := Lib.hid (And.intro d4 b4)
  clear d4 b4
  go_wp2_with fail
  refine (bstring W0.heap.size W0.heap.size _ w4 H4.out.1 H4.out.2.size).mono ?_
  rintro e w5 ⟨rfl, b5⟩
  have H5 := Lib.hid (H4.out.2.trans b5)
  clear b5
  go_wp2_with fail
  go_ret2
  exact ⟨rfl, back_of' HA.out H5.out⟩

end Go.Proofs.YtgccfdfbnhldbaaGreatDoor

namespace Go.Proofs.YtgccfdfbnhldbaaGreatDoor
open Go Go.RowKit Nb Nx

abbrev fmt32 : Value := .agg #[.int .u64 23, .int .i64 255, .int .i64 150]

theorem index_fmt32 (w : World) : Sem.run Tryz.prog (Instr.index 178 (.agg #[.int .u64 52, .int .i64 2047, .int .i64 1075, .int .u64 23, .int .i64 255, .int .i64 150]) (.int .i64 1)) w = .ok fmt32 w := by kernel_rfl

set_option maxRecDepth 100000 in
theorem of_sgl (w : World) : Calls Tryz.prog 74 #[.int .i64 1] w fun e w' => e = .returned fmt32 ∧ Below w.heap.size w w' := by
  have hix := index_fmt32
  go_enter Tryz.func74, Tryz.ntmps74
  go_wp2_with fail
  exact bodyPost_ret (by simp only [results, Tryz.results74]; simp [go_sem]; try rfl) rfl ⟨rfl, (Below.refl w.heap.size w).alloc (Nat.le_refl _) _⟩


theorem hidden_sgl (w : World) : Calls Tryz.prog 128 #[fmt32] w fun e w' => e = .returned (.int .u64 8388608) ∧ Below w.heap.size w w' := by
  go_enter Tryz.func128, Tryz.ntmps128
  go_wp2_with fail
  go_ret
  exact ⟨rfl, (Below.refl _ _).alloc (Nat.le_refl _) _⟩

theorem sign_sgl (w : World) : Calls Tryz.prog 181 #[fmt32] w fun e w' => e = .returned (.int .u64 2147483648) ∧ Below w.heap.size w w' := by
  go_enter Tryz.func181, Tryz.ntmps181
  go_wp2_with fail
  go_ret
  exact ⟨rfl, (Below.refl _ _).alloc (Nat.le_refl _) _⟩

theorem infinite_sgl (w : World) : Calls Tryz.prog 203 #[fmt32] w fun e w' => e = .returned (.int .u64 2139095040) ∧ Below w.heap.size w w' := by
  go_enter Tryz.func203, Tryz.ntmps203
  go_wp2_with fail
  go_ret
  exact ⟨rfl, (Below.refl _ _).alloc (Nat.le_refl _) _⟩


def FmtAt32 (w : World) (g : Nat) : Prop := g < w.heap.size ∧ w.cell? ⟨g, 0, none⟩ = some (.int .u64 23) ∧ w.cell? ⟨g, 1, none⟩ = some (.int .i64 255) ∧ w.cell? ⟨g, 2, none⟩ = some (.int .i64 150)

theorem FmtAt32.below {w w' : World} {g : Nat} (h : FmtAt32 w g) (hb : Below w.heap.size w w') : FmtAt32 w' g :=
  ⟨Nat.lt_of_lt_of_le h.1 hb.size, (hb.cell (p := ⟨g, 0, none⟩) h.1).trans h.2.1, (hb.cell (p := ⟨g, 1, none⟩) h.1).trans h.2.2.1, (hb.cell (p := ⟨g, 2, none⟩) h.1).trans h.2.2.2⟩

theorem fmt_at32 (w : World) (T : TypeId) : FmtAt32 (w.alloc (.cells #[.int .u64 23, .int .i64 255, .int .i64 150] T)) w.heap.size := by
  unfold FmtAt32
  simp [go_sem]

theorem fmt_below32 (w : World) (T : TypeId) : Below w.heap.size w (w.alloc (.cells #[.int .u64 23, .int .i64 255, .int .i64 150] T)) := (Below.refl _ _).alloc (Nat.le_refl _) _

set_option maxRecDepth 100000 in
set_option maxHeartbeats 1000000 in
theorem none_sgl (w : World) : Calls Tryz.prog 168 #[fmt32] w fun e w' => e = .returned (.int .u64 2143289344) ∧ Below w.heap.size w w' := by
  have HF := Lib.hid (fmt_at32 w 131)
  have HB := Lib.hid (fmt_below32 w 131)
  go_enter Tryz.func168, Tryz.ntmps168
  go_wp2_with fail
  generalize w.alloc (.cells #[.int .u64 23, .int .i64 255, .int .i64 150] 131) = W0 at *
  have hc : Below W0.heap.size W0 W0.drew := (Below.refl _ _).drew
  go_region_held3 (fun w' => w'.cell? ⟨w.heap.size, 0, none⟩ = some (.int .u64 23) ∧ w'.cell? ⟨w.heap.size, 1, none⟩ = some (.int .i64 255) ∧ w'.cell? ⟨w.heap.size, 2, none⟩ = some (.int .i64 150))
    (first | exact HF.out.2 | exact (HF.out.below hc).2)
    (first | (go_at_call 203; refine (infinite_sgl _).mono ?_; rintro e w1 ⟨rfl, hb1⟩; replace hc := back_of hc hb1; clear hb1) | (go_at_call 128; refine (hidden_sgl _).mono ?_; rintro e w1 ⟨rfl, hb1⟩; replace hc := back_of hc hb1; clear hb1))
  go_wp2_with fail
  go_ret
  exact ⟨by kernel_rfl, back_of HB.out hc⟩


def nanS (b : Int) : Bool := decide (2139095040 < bits .andNot .u64 b 2147483648)

set_option maxRecDepth 100000 in
set_option maxHeartbeats 1000000 in
theorem nan_sgl (b : Nat) (w : World) (hb : b < 4294967296) : Calls Tryz.prog 167 #[.int .u32 (b : Int), fmt32] w fun e w' => e = .returned (.bool (nanS b)) ∧ Below w.heap.size w w' := by
  have HF := Lib.hid (fmt_at32 w 131)
  have HB := Lib.hid (fmt_below32 w 131)
  have hw : IntKind.u64.wrap (b : Int) = (b : Int) := by rw [IntKind.wrap_u64]; omega
  clear hb
  go_enter Tryz.func167, Tryz.ntmps167
  go_wp2_with fail
  generalize w.alloc (.cells #[.int .u64 23, .int .i64 255, .int .i64 150] 131) = W0 at *
  have hc : Below W0.heap.size W0 W0.drew := (Below.refl _ _).drew
  go_region_held3 (fun w' => w'.cell? ⟨w.heap.size, 0, none⟩ = some (.int .u64 23) ∧ w'.cell? ⟨w.heap.size, 1, none⟩ = some (.int .i64 255) ∧ w'.cell? ⟨w.heap.size, 2, none⟩ = some (.int .i64 150))
    (first | exact HF.out.2 | exact (HF.out.below hc).2)
    (first | (go_at_call 203; refine (infinite_sgl _).mono ?_; rintro e w1 ⟨rfl, hb1⟩; replace hc := back_of hc hb1; clear hb1) | (go_at_call 181; refine (sign_sgl _).mono ?_; rintro e w1 ⟨rfl, hb1⟩; replace hc := back_of hc hb1; clear hb1))
  go_wp2_with fail
  go_ret
  exact ⟨rfl, back_of HB.out hc⟩


def canonS (b : Int) : Int := if nanS b = true then 2143289344 else b

set_option maxRecDepth 100000 in
set_option maxHeartbeats 1000000 in
theorem canon_sgl (b : Nat) (w : World) (hb : b < 4294967296) : Calls Tryz.prog 113 #[.int .u32 (b : Int), fmt32] w fun e w' => e = .returned (.int .u32 (canonS b)) ∧ Below w.heap.size w w' := by
  have HF := Lib.hid (fmt_at32 w 131)
  have HB := Lib.hid (fmt_below32 w 131)
  obtain ⟨q, hq⟩ : ∃ q, nanS b = q := ⟨_, rfl⟩
  have HQ := Lib.hid hq
  have HN := Lib.hid (fun W => nan_sgl b W hb)
  rw [hq] at HN
  go_enter Tryz.func113, Tryz.ntmps113
  go_wp2_with fail
  generalize w.alloc (.cells #[.int .u64 23, .int .i64 255, .int .i64 150] 131) = W0 at *
  obtain ⟨hg, f0, f1, f2⟩ := HF.out
  clear hq
  cases q
  · go_wp2_with fail
    refine (HN.out W0).mono ?_
    rintro e w1 ⟨rfl, hb1⟩
    go_wp2_with fail
    go_ret
    exact ⟨by unfold canonS; rw [HQ.out]; rfl, back_of HB.out hb1⟩
  · go_wp2_with fail
    refine (HN.out W0).mono ?_
    rintro e w1 ⟨rfl, hb1⟩
    obtain ⟨-, k0, k1, k2⟩ := HF.out.below hb1
    go_wp2_with fail
    refine (none_sgl w1).mono ?_
    rintro e w2 ⟨rfl, hb2⟩
    go_wp2_with fail
    go_ret
    exact ⟨by unfold canonS; rw [HQ.out]; rfl, back_of HB.out (back_of hb1 hb2)⟩

theorem canonS_lt {b : Nat} (hb : b < 4294967296) : 0 ≤ canonS (b : Int) ∧ canonS (b : Int) < 4294967296 := by
  unfold canonS
  split <;> omega
def expS (b : Int) : Int := (bits .and .u64 (canonS b / 8388608) 255)

def frcS (b : Int) : Int := IntKind.u32.wrap (bits .and .u64 (canonS b) 8388607)

def sgnS (b : Int) : Bool := bits .and .u64 (canonS b) 2147483648 != 0

set_option maxRecDepth 100000 in
set_option maxHeartbeats 4000000 in
theorem split_sgl (b : Nat) (w : World) (hb : b < 4294967296) : Calls Tryz.prog 169 #[.int .u32 (b : Int), fmt32] w fun e w' => e = .returned (.tuple #[.bool (sgnS b), .int .i64 (IntKind.i64.wrap (expS b)), .int .u32 (frcS b)]) ∧ Below w.heap.size w w' := by
  have HF := Lib.hid (fmt_at32 w 131)
  have HB := Lib.hid (fmt_below32 w 131)
  obtain ⟨c, hq⟩ : ∃ c, canonS b = c := ⟨_, rfl⟩
  have HQ := Lib.hid hq
  have HN := Lib.hid (fun W => canon_sgl b W hb)
  rw [hq] at HN
  have hc32 : IntKind.u64.wrap c = c := by
    have := canonS_lt hb
    rw [hq] at this
    rw [IntKind.wrap_u64]; omega
  clear hq
  go_enter Tryz.func169, Tryz.ntmps169
  go_wp2_with fail
  generalize w.alloc (.cells #[.int .u64 23, .int .i64 255, .int .i64 150] 131) = W0 at *
  obtain ⟨hg, f0, f1, f2⟩ := HF.out
  go_wp2_with fail
  refine (HN.out W0).mono ?_
  rintro e w1 ⟨rfl, hb1⟩
  have HF1 := Lib.hid (HF.out.below hb1)
  have HB1 := Lib.hid (back_of HB.out hb1)
  clear hb1 f0 f1 f2 hg HN HB HF
  go_wp2_with fail
  have hc : Below w1.heap.size w1 w1.drew := (Below.refl _ _).drew
  go_region_held3 (fun w' => w'.cell? ⟨w.heap.size, 0, none⟩ = some (.int .u64 23) ∧ w'.cell? ⟨w.heap.size, 1, none⟩ = some (.int .i64 255) ∧ w'.cell? ⟨w.heap.size, 2, none⟩ = some (.int .i64 150))
    (first | exact HF1.out.2 | exact (HF1.out.below hc).2)
    (first | (go_at_call 128; refine (hidden_sgl _).mono ?_; rintro e w1 ⟨rfl, hb1⟩; replace hc := back_of hc hb1; clear hb1) | (go_at_call 181; refine (sign_sgl _).mono ?_; rintro e w1 ⟨rfl, hb1⟩; replace hc := back_of hc hb1; clear hb1))
  go_wp2_with fail
  go_ret3
  refine ⟨?_, back_of HB1.out hc⟩
  unfold sgnS expS frcS
  rw [HQ.out]
  rfl


def clsES (e f : Int) : Int := if e = 255 then (if f = 0 then 2 else 1) else if e = 0 then (if f = 0 then 3 else 4) else 5

def clsS (b : Int) : Int := clsES (IntKind.i64.wrap (expS b)) (frcS b)

set_option maxRecDepth 100000 in
set_option maxHeartbeats 4000000 in
theorem class_sgl (b : Nat) (w : World) (hb : b < 4294967296) : Calls Tryz.prog 170 #[.int .u32 (b : Int), fmt32] w fun e w' => e = .returned (.int .i64 (clsS b)) ∧ Below w.heap.size w w' := by
  have HF := Lib.hid (fmt_at32 w 131)
  have HB := Lib.hid (fmt_below32 w 131)
  unfold clsS
  have HN := Lib.hid (fun W => split_sgl b W hb)
  generalize sgnS b = g at HN
  generalize IntKind.i64.wrap (expS b) = E at *
  generalize frcS b = F at *
  by_cases c1 : E = 255
  · subst c1
    by_cases c2 : F = 0
    · subst c2
      go_enter Tryz.func170, Tryz.ntmps170
      go_wp2_with fail
      generalize w.alloc (.cells #[.int .u64 23, .int .i64 255, .int .i64 150] 131) = W0 at *
      obtain ⟨hg, f0, f1, f2⟩ := HF.out
      go_wp2_with fail
      refine (HN.out W0).mono ?_
      rintro e w1 ⟨rfl, hb1⟩
      obtain ⟨hg, f0, f1, f2⟩ := HF.out.below hb1
      go_wp2_with fail
      go_ret
      exact ⟨rfl, back_of HB.out hb1⟩
    · have c2' : (F == 0) = false := by simpa using c2
      have c2'' : (F != 0) = true := by simpa using c2
      go_enter Tryz.func170, Tryz.ntmps170
      go_wp2_with fail
      generalize w.alloc (.cells #[.int .u64 23, .int .i64 255, .int .i64 150] 131) = W0 at *
      obtain ⟨hg, f0, f1, f2⟩ := HF.out
      go_wp2_with fail
      refine (HN.out W0).mono ?_
      rintro e w1 ⟨rfl, hb1⟩
      obtain ⟨hg, f0, f1, f2⟩ := HF.out.below hb1
      go_wp2_with fail
      go_ret
      exact ⟨by unfold clsES; rw [if_pos rfl, if_neg c2]; rfl, back_of HB.out hb1⟩
  · have c1' : (E == 255) = false := by simpa using c1
    have c1'' : ¬ (E == 255) = true := by simpa using c1
    by_cases c3 : E = 0
    · subst c3
      by_cases c2 : F = 0
      · subst c2
        go_enter Tryz.func170, Tryz.ntmps170
        go_wp2_with fail
        generalize w.alloc (.cells #[.int .u64 23, .int .i64 255, .int .i64 150] 131) = W0 at *
        obtain ⟨hg, f0, f1, f2⟩ := HF.out
        go_wp2_with fail
        refine (HN.out W0).mono ?_
        rintro e w1 ⟨rfl, hb1⟩
        obtain ⟨hg, f0, f1, f2⟩ := HF.out.below hb1
        go_wp2_with fail
        go_ret
        exact ⟨rfl, back_of HB.out hb1⟩
      · have c2' : (F == 0) = false := by simpa using c2
        go_enter Tryz.func170, Tryz.ntmps170
        go_wp2_with fail
        generalize w.alloc (.cells #[.int .u64 23, .int .i64 255, .int .i64 150] 131) = W0 at *
        obtain ⟨hg, f0, f1, f2⟩ := HF.out
        go_wp2_with fail
        refine (HN.out W0).mono ?_
        rintro e w1 ⟨rfl, hb1⟩
        obtain ⟨hg, f0, f1, f2⟩ := HF.out.below hb1
        go_wp2_with fail
        go_ret
        exact ⟨by unfold clsES; rw [if_neg c1, if_pos rfl, if_neg c2]; rfl, back_of HB.out hb1⟩
    · have c3' : (E == 0) = false := by simpa using c3
      go_enter Tryz.func170, Tryz.ntmps170
      go_wp2_with fail
      generalize w.alloc (.cells #[.int .u64 23, .int .i64 255, .int .i64 150] 131) = W0 at *
      obtain ⟨hg, f0, f1, f2⟩ := HF.out
      go_wp2_with fail
      refine (HN.out W0).mono ?_
      rintro e w1 ⟨rfl, hb1⟩
      obtain ⟨hg, f0, f1, f2⟩ := HF.out.below hb1
      go_wp2_with fail
      go_ret
      exact ⟨by unfold clsES; rw [if_neg c1, if_neg c3]; rfl, back_of HB.out hb1⟩

end Go.Proofs.YtgccfdfbnhldbaaGreatDoor
