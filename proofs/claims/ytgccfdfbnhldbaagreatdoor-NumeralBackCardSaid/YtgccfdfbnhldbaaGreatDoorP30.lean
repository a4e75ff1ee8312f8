/- SN6 HB3 HD5 HD6 HD7 HB10 in one text. -/
import Derived.Test.YtgccfdfbnhldbaaGreatDoorP26
import Derived.Test.YtgccfdfbnhldbaaGreatDoorP18
import Derived.Test.YtgccfdfbnhldbaaGreatDoorP27
import Derived.Test.YtgccfdfbnhldbaaGreatDoorP29
import Derived.Test.YtgccfdfbnhldbaaGreatDoorP13
import Derived.Laws.FloatArith
import Derived.Test.YtgccfdfbnhldbaaGreatDoorP24
import Derived.Test.YtgccfdfbnhldbaaGreatDoorP25
import Derived.Test.YtgccfdfbnhldbaaGreatDoorP20

namespace Go.Proofs.YtgccfdfbnhldbaaGreatDoor.Nb
open Go Nx

theorem revDig_ge {n d : Nat} (h : 10 ^ (n - 1) ≤ d) (hd : d < 10 ^ 18) : n ≤ (revDig d).length := by
  have h1 := revDig_dig 18 d hd
  have h2 := decN_lt _ h1.1
  rw [h1.2, List.length_reverse] at h2
  rcases Nat.lt_or_ge (revDig d).length n with c | c
  · have : 10 ^ (revDig d).length ≤ 10 ^ (n - 1) := Nat.pow_le_pow_right (by omega) (by omega)
    omega
  · exact c
/-- the digits that stand in Short's text, the point left out -/
def shortD (d0 : UInt8) (ds : List UInt8) : List UInt8 := d0 :: Lib.trimRightB ds 48
theorem shortD_len {X p q n d : Nat} {E : Int} {d0 : UInt8} {ds : List UInt8} (h : ShortSays X p q E n d d0 ds) : (shortD d0 ds).length = n := by
  have hf := h.few
  obtain ⟨h1, h2, d0', ds', e, hl, hl17⟩ := few_digits h.q0 hf
  rw [h.dig] at e
  injection e with e1 e2
  subst e1 e2
  have hrev : revDig d = ds.reverse ++ [d0] := by
    have := congrArg List.reverse h.dig
    rw [List.reverse_reverse, List.reverse_cons] at this
    exact this
  have hpos : revDig d = UInt8.ofNat (48 + d % 10) :: revDig (d / 10) := revDig_pos (by omega)
  unfold shortD
  rw [List.length_cons]
  rcases Nat.lt_or_ge n 2 with c | c
  · have n1 : n = 1 := by have := hf.n0; omega
    subst n1
    have hlo := low_in (n := 1) h.q0 hf.dec rfl (by omega)
    have hd0 := hf.d0
    rw [show (10 : Nat) ^ 1 = 10 by decide] at hlo
    have hd10 : d ≤ 10 := by omega
    rcases Nat.lt_or_ge d 10 with c2 | c2
    · rw [hpos, show d / 10 = 0 by omega, revDig_zero] at hrev
      have hz : ds = [] := by
        cases ds with
        | nil => rfl
        | cons a l => have := congrArg List.length hrev; simp at this
      subst hz
      rfl
    · obtain rfl : d = 10 := by omega
      rw [hpos, show 10 / 10 = 1 by decide, revDig_pos (by omega), show 1 / 10 = 0 by decide, revDig_zero] at hrev
      have hz : ds = [48] := by
        cases ds with
        | nil => have := congrArg List.length hrev; simp at this
        | cons a l =>
          cases l with
          | nil =>
            simp at hrev
            rw [hrev.1]
          | cons b m => have := congrArg List.length hrev; simp at this
      subst hz
      rfl
  · have hlast := few_last hf c
    have hlen := few_len h.q0 hf c
    have hle : (revDig d).length ≤ n := revDig_len_le n d hlen.2
    have hge := revDig_ge hlen.1 (by omega)
    have hds : ds ≠ [] := by
      intro hz
      subst hz
      have := congrArg List.length hrev
      simp at this
      omega
    have htr : Lib.trimRightB ds 48 = ds := by
      unfold Lib.trimRightB
      cases hr : ds.reverse with
      | nil => exact absurd (List.reverse_eq_nil_iff.1 hr) hds
      | cons a l =>
        rw [hr, hpos] at hrev
        injection hrev with e1 e2
        have ha : ¬ (a == 48) = true := by
          rw [← e1]
          intro e
          have e3 : UInt8.ofNat (48 + d % 10) = 48 := by simpa using e
          have e4 : (UInt8.ofNat (48 + d % 10)).toNat = 48 + d % 10 := dig_ofNat (Nat.mod_lt _ (by omega))
          rw [e3] at e4
          have e5 : (48 : UInt8).toNat = 48 := rfl
          omega
        rw [List.dropWhile_cons, if_neg ha, ← hr, List.reverse_reverse]
    rw [htr]
    omega
end Go.Proofs.YtgccfdfbnhldbaaGreatDoor.Nb

namespace Go.Proofs.YtgccfdfbnhldbaaGreatDoor.Nb
open Go Nx

/-- what a text says, when its digits are rounded to X -/
theorem says_of {t : DTxt} {X f : Nat} {c : Int} (hl : ¬ t.low) (hh : ¬ t.high) (hX : X < 9218868437227405312) (hr : Hits (decN t.digs) t.exp X) (hs : t.Says f c) : c = 0 ∧ f = X + (if t.neg = true then 9223372036854775808 else 0) := by
  have hu : ∀ Y, t.Amt Y → Y = X := by
    intro Y hY
    rcases hY with ⟨h, -⟩ | ⟨-, -, P, Q, hQ, he, h⟩
    · exact absurd h hl
    · unfold Hits at hr
      exact rnd_eq h hr (by omega) hQ (Nat.pow_pos (by omega)) he
  rcases hs with ⟨-, -, h | ⟨Y, hY, hi⟩⟩ | ⟨rfl, Y, hY, -, hf⟩
  · exact absurd h hh
  · rw [hu Y hY] at hi; omega
  · rw [hu Y hY] at hf
    exact ⟨rfl, hf⟩

set_option exponentiation.threshold 2000 in
/-- the range of a text's amount, by its first digit -/
theorem mid_of {t : DTxt} (hok : t.Ok) {p q : Nat} (hv : p * 10 ^ (-t.exp).toNat = decN t.digs * 10 ^ t.exp.toNat * q) (h1 : q ≤ p * 10 ^ 400) (h2 : p < q * 10 ^ 400) (hq : 0 < q) : ¬ t.low ∧ ¬ t.high := by
  obtain ⟨k0, k1, k2⟩ := key_range hok
  have hlo : t.low ↔ (t.key.length = 0 ∨ t.exp + (t.key.length : Int) - 1 < -400) := Iff.rfl
  have hhi : t.high ↔ (¬ t.low ∧ 400 < t.exp + (t.key.length : Int) - 1) := Iff.rfl
  generalize t.key.length = n at *
  generalize decN t.digs = N at *
  generalize t.exp = E at *
  have hN0 : N ≠ 0 := by
    rintro rfl
    have h3 : p ≠ 0 := by rintro rfl; omega
    have := Nat.mul_pos (Nat.pos_of_ne_zero h3) (Nat.pow_pos (n := (-E).toNat) (show 0 < 10 by omega))
    omega
  have hn : n ≠ 0 := fun h => hN0 (k0 h)
  have hA0 : AtM p q (-400) := by
    unfold AtM
    rw [show (-400 : Int).toNat = 0 from rfl, show (- -400 : Int).toNat = 400 from rfl, Nat.pow_zero, Nat.one_mul]
    exact h1
  have hA1 : ¬ AtM p q 400 := by
    unfold AtM
    rw [show (400 : Int).toNat = 400 from rfl, show (-400 : Int).toNat = 0 from rfl, Nat.pow_zero, Nat.mul_one, Nat.mul_comm]
    omega
  have b1 : AtM p q (E + n - 1) := (atm_shift (k := E) (by omega)).2 (by
    rw [show (E + n - 1 - E).toNat = n - 1 by omega, hv, Nat.mul_assoc N, Nat.mul_comm q]
    exact Nat.mul_le_mul_right _ (k1 (by omega)))
  have b2 : ¬ AtM p q (E + n) := fun h => by
    have h3 := (atm_shift (k := E) (by omega)).1 h
    rw [show (E + n - E).toNat = n by omega, hv, Nat.mul_assoc N, Nat.mul_comm q] at h3
    have h4 := Nat.le_of_mul_le_mul_right h3 (Nat.mul_pos (Nat.pow_pos (by omega)) hq)
    omega
  have c1 : -400 ≤ E + n - 1 := by
    rcases Int.lt_or_le (E + n - 1) (-400) with z | z
    · exact absurd (hA0.le (by omega)) b2
    · exact z
  have c2 : E + n - 1 < 400 := by
    rcases Int.lt_or_le (E + n - 1) 400 with z | z
    · exact z
    · exact absurd (b1.le z) hA1
  constructor
  · rw [hlo]; omega
  · rw [hhi]; omega
end Go.Proofs.YtgccfdfbnhldbaaGreatDoor.Nb

namespace Go.Proofs.YtgccfdfbnhldbaaGreatDoor.Nb
open Go Go.RowKit

theorem conv_inf (W : World) : (convert 25 27 (.float .f64 9218868437227405312)).run Tryz.prog W = .ok (.float .f32 2139095040) W :=
  run_convert_float_float W 25 27 .f64 .f32 9218868437227405312 2139095040 (by kernel_rfl) (by kernel_rfl) (by decide +kernel)
def finS (X : Nat) : Nat := if X < 2139095040 then X else 2139095040

theorem and_low32 {a : Nat} (k : Nat) (h : a < 4294967296) (hk : k ≤ 31) : bits .and .u32 (a : Int) ((2 ^ k - 1 : Nat) : Int) = ((a % 2 ^ k : Nat) : Int) := by
  have hb : 2 ^ k - 1 < 4294967296 := by
    have := Nat.pow_le_pow_right (n := 2) (by omega) hk
    have e : (2 : Nat) ^ 31 = 2147483648 := by decide
    omega
  rw [u32_and _ _ (by omega) (by omega) (by omega) (by omega), Int.toNat_natCast, Int.toNat_natCast, Nat.and_two_pow_sub_one_eq_mod]

theorem or_low32 {o c s : Nat} (ho : o < 2 ^ s) (hc : 2 ^ s * c + 2 ^ s ≤ 4294967296) : bits .or .u32 ((2 ^ s * c : Nat) : Int) (o : Int) = ((2 ^ s * c + o : Nat) : Int) := by
  rw [u32_or_nat _ _ (by omega) (by omega)]
  rw [Nat.mul_comm, show c * 2 ^ s = c <<< s by rw [Nat.shiftLeft_eq], ← Nat.shiftLeft_add_eq_or_of_lt ho]

theorem row_two32 (k : Nat) : k * 2 ^ (24 - 1) + 16777216 = (k + 2) * 8388608 := (Nat.add_mul k 2 8388608).symm

theorem row_one32 (k r : Nat) : k * 2 ^ (24 - 1) + (8388608 + r) = (k + 1) * 8388608 + r := by
  rw [Nat.add_mul, Nat.one_mul, Nat.add_assoc]

theorem fin_over32 {X : Nat} (h : 255 * 8388608 ≤ X) : finS X = 2139095040 := by
  unfold finS
  exact if_neg (Nat.not_lt.2 h)

theorem fin_in32 {X : Nat} (h : X < 255 * 8388608) : finS X = X := by
  unfold finS
  exact if_pos h


set_option maxRecDepth 8000 in
set_option maxHeartbeats 4000000 in
set_option exponentiation.threshold 2000 in
theorem float32_any (x p q L : Nat) (w : World) (hx : RatL w x false p q L) (hL : L ≤ 100000) (hL1 : 1 ≤ L) :
    Calls Tryz.prog 50 #[.pointer (some ⟨x, 0, none⟩)] w fun e w' => ∃ (X : Nat) (ex : Bool), e = .returned (.tuple #[.float .f32 (finS X), .bool ex]) ∧ Rnd 24 149 p q X ∧ Below w.heap.size w w' := by
  have HN : Hid (Calls Tryz.prog 84 #[.pointer (some ⟨x, 0, none⟩), .int .i64 24, .int .i64 (-149)] w fun e w' => ∃ (k m : Nat) (ex : Bool), e = .returned (.tuple #[.int .u64 (m : Int), .int .i64 ((k : Int) - ((149 : Nat) : Int)), .bool ex]) ∧ RndAt 24 149 p q k m ∧ Below w.heap.size w w') := Lib.hid (nearest_any 24 149 x p q L false w hx (by omega) (by omega) (by omega) hL hL1)
  obtain ⟨A1, k1, c1, A2, k2, c2, hb, e0, -, -, m1, -, q0, -⟩ := hx.open
  have HP := Lib.hid (And.intro (mag_lt m1) (And.intro q0 hL))
  have HI := Lib.hid (fun W => inf_one W)
  have hci := conv_inf
  clear hx m1 q0 hL hL1
  go_enter Tryz.func50, Tryz.ntmps50
  go_wp2_with fail
  refine HN.out.mono ?_
  rintro e w1 ⟨k, m, ex, rfl, hr, hb1⟩
  have y0 := (hb1.cell (p := ⟨x, 0, none⟩) (by exact hb)).trans e0
  have HB := Lib.hid hb1
  have HR := Lib.hid hr.rnd
  have hD : 0 < q * 2 ^ k := Nat.mul_pos HP.out.2.1 (Nat.pow_pos (by omega))
  have hm53 : m ≤ 16777216 := by
    have := near_le hr.2.2 hr.2.1
    have e : (2 : Nat) ^ 24 = 16777216 := by decide
    omega
  have hk52 : k ≠ 0 → 8388608 ≤ m := fun hk => by
    have := near_ge hr.2.2 hD (hr.1.resolve_left hk)
    have e : (2 : Nat) ^ (24 - 1) = 8388608 := by decide
    omega
  have hkl : k ≤ 64 * L + 149 := by
    rcases hr.1 with z | z
    · omega
    · have a1 : 2 ^ k ≤ 2 ^ (24 - 1) * (q * 2 ^ k) := by
        have a1 : 1 * 2 ^ k ≤ q * 2 ^ k := Nat.mul_le_mul_right _ HP.out.2.1
        have a2 : 1 * (q * 2 ^ k) ≤ 2 ^ (24 - 1) * (q * 2 ^ k) := Nat.mul_le_mul_right _ (Nat.pow_pos (by omega))
        omega
      have a2 : p * 2 ^ 149 < 2 ^ (64 * L) * 2 ^ 149 := Nat.mul_lt_mul_of_pos_right (by rw [← pow64]; exact HP.out.1) (Nat.pow_pos (by omega))
      rw [← Nat.pow_add] at a2
      have a3 : 2 ^ k < 2 ^ (64 * L + 149) := Nat.lt_of_le_of_lt a1 (Nat.lt_of_le_of_lt z a2)
      have := (Nat.pow_lt_pow_iff_right (a := 2) (by omega)).1 a3
      omega
  have hk7 : k ≤ 10000000 := by have := HP.out.2.2; omega
  obtain ⟨E, hE⟩ : ∃ E : Int, (k : Int) - ((149 : Nat) : Int) = E := ⟨_, rfl⟩
  rw [hE]
  have HE := Lib.hid hE
  have hE0 : -149 ≤ E := by omega
  have hE1 : E ≤ 10000000 := by omega
  have HK := Lib.hid hk52
  clear hr hb1 hD hkl hE HN hk52
  by_cases c53 : m = 16777216
  · have HC := Lib.hid c53
    obtain ⟨M, hM⟩ : ∃ M : Nat, M = 8388608 := ⟨_, rfl⟩
    have hs53 : (m : Int) / 16777216 = 1 := by omega
    have hdv : (m : Int) / 2 = (M : Int) := by omega
    have hdw : (M : Int) / 8388608 = 1 := by omega
    have HLN := Lib.hid (fun W => len_bits M 24 W (by rw [hM]; decide) (by rw [hM]; decide))
    have hand : bits .and .u32 (M : Int) 8388607 = 0 := by rw [hM]; decide
    have hMl : M ≤ 8388608 := by omega
    clear hM c53
    obtain ⟨E2, hE2⟩ : ∃ E2, E + 1 = E2 := ⟨_, rfl⟩
    have hw1 : wrap64 (E + 1) = E2 := by unfold wrap64; omega
    have hE20 : -149 ≤ E2 := by omega
    have hE21 : E2 ≤ 10000001 := by omega
    have HE2 : Hid (E2 = (k : Int) - 148) := Lib.hid (by have := HE.out; omega)
    clear hE0 hE1 hE2
    by_cases hov : 253 ≤ k
    · have hgt : (128 : Int) < 24 + E2 := by have := HE2.out; omega
      have HF : Hid (finS (k * 2 ^ (24 - 1) + m) = 2139095040) := Lib.hid (by
        rw [HC.out, row_two32]
        exact fin_over32 (Nat.mul_le_mul_right _ (by omega)))
      go_wp2_with fail
      refine (HLN.out _).mono ?_
      rintro e w2 ⟨rfl, hw⟩
      obtain rfl := hw.symm
      go_wp2_with fail
      refine (HI.out _).mono ?_
      rintro e w2 ⟨rfl, rfl⟩
      go_wp2_with fail
      go_ret2
      exact ⟨_, false, congrArg (fun z : Nat => Ending.returned (.tuple #[.float .f32 z, .bool false])) HF.out.symm, HR.out, HB.out⟩
    · have hgt : ¬ (128 : Int) < 24 + E2 := by have := HE2.out; omega
      obtain ⟨F, hF⟩ : ∃ F : Nat, (F : Int) = E2 + 150 := ⟨(E2 + 150).toNat, by omega⟩
      have hFk : F = k + 2 := by have := HE2.out; omega
      have hFl : F < 255 := by omega
      have hsh : IntKind.u32.wrap ((E2 + 150) * 8388608) = ((F * 8388608 : Nat) : Int) := by rw [← hF, IntKind.wrap_u32]; omega
      obtain ⟨Y, hY⟩ : ∃ Y, F * 8388608 = Y := ⟨_, rfl⟩
      have hYl : Y < 4294967296 := by rw [← hY]; exact Nat.lt_of_lt_of_le (Nat.mul_lt_mul_of_pos_right hFl (by omega)) (by omega)
      rw [hY] at hsh
      have hor : bits .or .u32 (Y : Int) 0 = (Y : Int) := by
        rw [show (0 : Int) = ((0 : Nat) : Int) from rfl, u32_or_nat _ _ (by omega) (by omega), Nat.or_zero]
      have hfb := run_frombits32 (Y : Int)
      rw [Int.toNat_natCast] at hfb
      have HY : Hid (finS (k * 2 ^ (24 - 1) + m) = Y) := Lib.hid (by
        rw [HC.out, row_two32, ← hFk, fin_in32 (Nat.mul_lt_mul_of_pos_right hFl (by omega)), hY])
      clear hF hFk hY hYl hFl
      go_wp2_with fail
      refine (HLN.out _).mono ?_
      rintro e w2 ⟨rfl, hw⟩
      obtain rfl := hw.symm
      go_wp2_with fail
      go_ret2
      exact ⟨_, ex, congrArg (fun z : Nat => Ending.returned (.tuple #[.float .f32 z, .bool ex])) HY.out.symm, HR.out, HB.out⟩
  · have hs53 : (m : Int) / 16777216 = 0 := by omega
    by_cases c52 : 8388608 ≤ m
    · have hs52 : (m : Int) / 8388608 = 1 := by omega
      have HLN := Lib.hid (fun W => len_bits m 24 W (by omega) (bitLen_of (by omega) (by omega) (by omega) (by omega)))
      obtain ⟨r, hr⟩ : ∃ r, m = 8388608 + r := ⟨m - 8388608, by omega⟩
      have hand : bits .and .u32 (m : Int) 8388607 = (r : Int) := by
        have h := and_low32 (a := m) 23 (by omega) (by omega)
        rw [show ((2 ^ 23 - 1 : Nat) : Int) = 8388607 from rfl] at h
        rw [h]
        have : m % 2 ^ 23 = r := by omega
        rw [this]
      by_cases hov : 254 ≤ k
      · have hgt : (128 : Int) < 24 + E := by have := HE.out; omega
        have HF : Hid (finS (k * 2 ^ (24 - 1) + m) = 2139095040) := Lib.hid (by
          rw [hr, row_one32]
          exact fin_over32 (Nat.le_trans (Nat.mul_le_mul_right _ (show 255 ≤ k + 1 by omega)) (Nat.le_add_right _ _)))
        clear hr
        go_wp2_with fail
        refine (HLN.out _).mono ?_
        rintro e w2 ⟨rfl, hw⟩
        obtain rfl := hw.symm
        go_wp2_with fail
        refine (HI.out _).mono ?_
        rintro e w2 ⟨rfl, rfl⟩
        go_wp2_with fail
        go_ret2
        exact ⟨_, false, congrArg (fun z : Nat => Ending.returned (.tuple #[.float .f32 z, .bool false])) HF.out.symm, HR.out, HB.out⟩
      · have hgt : ¬ (128 : Int) < 24 + E := by have := HE.out; omega
        obtain ⟨F, hF⟩ : ∃ F : Nat, (F : Int) = E + 150 := ⟨(E + 150).toNat, by omega⟩
        have hFk : F = k + 1 := by have := HE.out; omega
        have hFl : F < 255 := by omega
        have hrl : r < 8388608 := by omega
        have hsh : IntKind.u32.wrap ((E + 150) * 8388608) = ((8388608 * F : Nat) : Int) := by rw [← hF, IntKind.wrap_u32]; omega
        have hor := or_low32 (o := r) (c := F) (s := 23) (by omega) (by omega)
        rw [show (2 : Nat) ^ 23 = 8388608 by decide] at hor
        obtain ⟨Y, hY⟩ : ∃ Y, 8388608 * F = Y := ⟨_, rfl⟩
        rw [hY] at hsh hor
        obtain ⟨Z, hZ⟩ : ∃ Z, Y + r = Z := ⟨_, rfl⟩
        rw [hZ] at hor
        have hfb := run_frombits32 (Z : Int)
        rw [Int.toNat_natCast] at hfb
        have HY : Hid (finS (k * 2 ^ (24 - 1) + m) = Z) := Lib.hid (by
          have hlt : (k + 1) * 8388608 + r < 255 * 8388608 := by
            have h1 : (k + 1 + 1) * 8388608 ≤ 255 * 8388608 := Nat.mul_le_mul_right _ (by omega)
            rw [Nat.add_mul (k + 1), Nat.one_mul] at h1
            exact Nat.lt_of_lt_of_le (Nat.add_lt_add_left hrl _) h1
          rw [hr, row_one32, fin_in32 hlt, ← hZ, ← hY, hFk, Nat.mul_comm 8388608])
        clear hF hFk hY hFl hr hZ hrl
        go_wp2_with fail
        refine (HLN.out _).mono ?_
        rintro e w2 ⟨rfl, hw⟩
        obtain rfl := hw.symm
        go_wp2_with fail
        go_ret2
        exact ⟨_, ex, congrArg (fun z : Nat => Ending.returned (.tuple #[.float .f32 z, .bool ex])) HY.out.symm, HR.out, HB.out⟩
    · have hs52 : (m : Int) / 8388608 = 0 := by omega
      have hk0 : k = 0 := by
        rcases Nat.eq_zero_or_pos k with z | z
        · exact z
        · exact absurd (HK.out (by omega)) c52
      obtain ⟨l, hl⟩ : ∃ l, Lib.bitLen m = l := ⟨_, rfl⟩
      have hll : l ≤ 23 := by rw [← hl]; exact bitLen_small (by omega) (by omega)
      have HLN := Lib.hid (fun W => len_bits m l W (by omega) hl)
      have hgt : ¬ (128 : Int) < (l : Int) + E := by have := HE.out; omega
      have hfb := run_frombits32 (m : Int)
      rw [Int.toNat_natCast] at hfb
      have HY : Hid (finS (k * 2 ^ (24 - 1) + m) = m) := Lib.hid (by
        rw [hk0, Nat.zero_mul, Nat.zero_add]
        exact fin_in32 (by omega))
      clear hl hk0
      go_wp2_with fail
      refine (HLN.out _).mono ?_
      rintro e w2 ⟨rfl, hw⟩
      obtain rfl := hw.symm
      go_wp2_with fail
      go_ret2
      exact ⟨_, ex, congrArg (fun z : Nat => Ending.returned (.tuple #[.float .f32 z, .bool ex])) HY.out.symm, HR.out, HB.out⟩

set_option maxRecDepth 8000 in
set_option maxHeartbeats 1000000 in
theorem nearest_nil32 (E : Int) (x : Nat) (w : World) (hx : RatO w x) :
    Calls Tryz.prog 84 #[.pointer (some ⟨x, 0, none⟩), .int .i64 24, .int .i64 E] w fun e w' => e = .returned (.tuple #[.int .u64 0, .int .i64 E, .bool true]) ∧ Below w.heap.size w w' := by
  have HS := Lib.hid (fun (W : World) (hW : Below w.heap.size w W) => hx.below hW)
  have hcur : Below w.heap.size w w.drew := (Below.refl _ _).drew
  clear hx
  go_enter Tryz.func84, Tryz.ntmps84
  go_wp2_with fail
  go_region_held3 (fun w' => w'.cell? ⟨x, 1, none⟩ = some (.slice none 0 0)) (first | exact (HS.out _ hcur3).c1 | exact (HS.out _ hcur).c1) ((go_at_call 139; refine (under_nil x _ (HS.out _ hcur).c3).mono ?_; rintro e w3 ⟨⟨v, rfl⟩, b3⟩; have hcur3 : Below w.heap.size w w3 := back_of' hcur b3))
  all_goals go_wp2_with fail
  all_goals go_ret3
  all_goals exact ⟨rfl, hcur3⟩

set_option maxRecDepth 8000 in
set_option maxHeartbeats 1000000 in
theorem float32_nil (x : Nat) (w : World) (hx : RatO w x) :
    Calls Tryz.prog 50 #[.pointer (some ⟨x, 0, none⟩)] w fun e w' => e = .returned (.tuple #[.float .f32 0, .bool true]) ∧ Below w.heap.size w w' := by
  have HN := Lib.hid (nearest_nil32 (-149) x w hx)
  have HX := Lib.hid (fun (W : World) (hW : Below w.heap.size w W) => hx.below hW)
  have HLN := Lib.hid (fun W => len_bits 0 0 W (by omega) (by decide))
  have hfb := run_frombits32 0
  clear hx
  go_enter Tryz.func50, Tryz.ntmps50
  go_wp2_with fail
  refine HN.out.mono ?_
  rintro e w1 ⟨rfl, hb1⟩
  have y0 := (HX.out _ hb1).c0
  have HB := Lib.hid hb1
  clear hb1 HX HN
  go_wp2_with fail
  refine (HLN.out _).mono ?_
  rintro e w2 ⟨rfl, hw⟩
  obtain rfl := hw.symm
  go_wp2_with fail
  go_ret2
  exact ⟨rfl, HB.out⟩
end Go.Proofs.YtgccfdfbnhldbaaGreatDoor.Nb

namespace Go.Proofs.YtgccfdfbnhldbaaGreatDoor.Nb
open Go Nx

/-- the double's bits of a single's -/
def wideB (b : Nat) : Nat := wideN (b % 2147483648) + (if 2147483648 ≤ b then 9223372036854775808 else 0)
theorem read_single {b : Nat} (hb : b < 4294967296) (h : b % 2147483648 < 2139095040) : Ieee.single.read b = .number (decide (2147483648 ≤ b)) (mag32 (b % 2147483648)) ((plc32 (b % 2147483648) : Int) - 149) := by
  have e1 : Ieee.single.signWeight = 2147483648 := by decide
  have e2 : Ieee.single.binade = 8388608 := by decide
  have e3 : Ieee.single.infRung = 2139095040 := by decide
  have e4 : Ieee.single.leastPlace = -149 := by decide
  have hg : (b / 2147483648 % 2 == 1) = decide (2147483648 ≤ b) := by
    by_cases c : 2147483648 ≤ b
    · rw [show b / 2147483648 % 2 = 1 by omega, decide_eq_true c]; rfl
    · rw [show b / 2147483648 % 2 = 0 by omega, decide_eq_false c]; rfl
  unfold Ieee.Format.read mag32 plc32
  simp only [e1, e2, e3, e4, hg]
  by_cases c : b % 2147483648 < 8388608
  · rw [if_pos c, if_pos c]
    congr 1 <;> omega
  · rw [if_neg c, if_neg c, if_pos h]
    congr 1 <;> omega
theorem cut_none (neg : Bool) (n : Nat) : Ieee.Toward.even.cut neg n 0 = n := by
  unfold Ieee.Toward.cut
  simp
  omega
theorem nearest_wide (neg : Bool) {X : Nat} (h : X < 2139095040) : Ieee.double.nearest neg (mag32 X) ((plc32 X : Int) - 149) = Ieee.double.word neg (wideN X) := by
  have e2 : Ieee.double.binade = 4503599627370496 := by decide
  have e3 : Ieee.double.infRung = 9218868437227405312 := by decide
  have e4 : Ieee.double.leastPlace = -1074 := by decide
  have e5 : Ieee.double.fractionBits = 52 := by decide
  unfold Ieee.Format.nearest
  by_cases h0 : X = 0
  · subst h0
    rw [if_pos (by decide)]
    rfl
  · obtain ⟨m0, m1⟩ := mag32_in h0
    obtain ⟨l1, -, -⟩ := log_of m0 m1
    have hw := wide_lt h
    have hwe : wideN X = (plc32 X + (mag32 X).log2 + 873) * 4503599627370496 + mag32 X * 2 ^ (52 - (mag32 X).log2) := by unfold wideN; rw [if_neg h0]
    rw [hwe] at hw ⊢
    rw [if_neg m0]
    simp only [e2, e3, e4, e5]
    generalize mag32 X = m at *
    generalize plc32 X = p at *
    generalize m.log2 = l at *
    have hmax : max ((p : Int) - 149 + (l : Int) - ((52 : Nat) : Int)) (-1074) = (p : Int) - 149 + (l : Int) - 52 := by omega
    rw [hmax]
    rw [show ((p : Int) - 149 - ((p : Int) - 149 + (l : Int) - 52)).toNat = 52 - l by omega, show ((p : Int) - 149 + (l : Int) - 52 - ((p : Int) - 149)).toNat = 0 by omega, show ((p : Int) - 149 + (l : Int) - 52 - -1074).toNat = p + l + 873 by omega, cut_none, Nat.shiftLeft_eq]
    rw [Nat.min_eq_left (Nat.le_of_lt hw)]
theorem word_dbl (neg : Bool) (r : Nat) : Ieee.double.word neg r = r + (if neg = true then 9223372036854775808 else 0) := by
  have e1 : Ieee.double.signWeight = 9223372036854775808 := by decide
  unfold Ieee.Format.word
  cases neg <;> simp [e1] <;> omega
theorem wide_fin {b : Nat} (hb : b < 4294967296) (h : b % 2147483648 < 2139095040) : floatToFloatBits .f32 b .f64 = some (wideB b) := by
  have hw := wide_lt h
  have e : FloatKind.f64.encode (.number (decide (2147483648 ≤ b)) (mag32 (b % 2147483648)) ((plc32 (b % 2147483648) : Int) - 149)) = wideB b := by
    show Ieee.double.nearest _ _ _ = _
    rw [nearest_wide _ h, word_dbl]
    unfold wideB
    by_cases c : 2147483648 ≤ b <;> simp [c]
  have e1 : FloatKind.f32.decode b = .number (decide (2147483648 ≤ b)) (mag32 (b % 2147483648)) ((plc32 (b % 2147483648) : Int) - 149) := read_single hb h
  have e2 : (FloatKind.f64.decode (wideB b)).isInfinity = false := by
    show (Ieee.double.read (wideB b)).isInfinity = false
    have hm : wideB b % 9223372036854775808 = wideN (b % 2147483648) := by unfold wideB; split <;> omega
    have s1 : Ieee.double.signWeight = 9223372036854775808 := by decide
    have s2 : Ieee.double.binade = 4503599627370496 := by decide
    have s3 : Ieee.double.infRung = 9218868437227405312 := by decide
    unfold Ieee.Format.read
    simp only [s1, s2, s3, hm]
    split
    · rfl
    · first | rfl | (rw [if_pos hw]; rfl)
  unfold floatToFloatBits
  rw [if_neg (by decide)]
  simp only [e1, e, e2]
  rfl
/-- the double of a single from 0 on, infinite ones too -/
def wideF (X : Nat) : Nat := if X < 2139095040 then wideN X else 9218868437227405312
theorem wide_fins (X : Nat) : floatToFloatBits .f32 (finS X) .f64 = some (wideF X) := by
  unfold finS wideF
  split
  · rename_i h
    rw [wide_fin (by omega) (by omega)]
    unfold wideB
    rw [Nat.mod_eq_of_lt (by omega), if_neg (by omega), Nat.add_zero]
  · decide +kernel
theorem wide_same {X Y : Nat} (hY : Y < 2139095040) : (FloatKind.f64.format.order (wideF X) (wideN Y) == some Ordering.eq) = decide (X = Y) := by
  have h1 := wide_lt hY
  have e : wideF X = finX (wideF X) := by
    unfold finX wideF
    split
    · rename_i h
      have := wide_lt h
      rw [if_pos this]
    · rfl
  rw [e, fin_same h1]
  apply decide_eq_decide.2
  unfold wideF
  split
  · exact ⟨wide_inj, fun h => congrArg wideN h⟩
  · constructor <;> intro h <;> omega
end Go.Proofs.YtgccfdfbnhldbaaGreatDoor.Nb

namespace Go.Proofs.YtgccfdfbnhldbaaGreatDoor.Nb
open Go Go.RowKit

theorem conv_up {a b : Nat} (W : World) (h : floatToFloatBits .f32 a .f64 = some b) : (convert 27 25 (.float .f32 a)).run Tryz.prog W = .ok (.float .f64 b) W :=
  run_convert_float_float W 27 25 .f32 .f64 a b (by kernel_rfl) (by kernel_rfl) h
set_option maxRecDepth 8000 in
set_option maxHeartbeats 2000000 in
theorem again32_any (z xv x0 x1 B P Q L : Nat) (w : World) (hx : RatL w z false P Q L) (hL : L ≤ 100000) (hL1 : 1 ≤ L) (hv : w.cell? ⟨xv, 0, none⟩ = some (.float .f32 x0)) (hb : xv < w.heap.size) (hcv : floatToFloatBits .f32 x0 .f64 = some x1)
    (HA : Hid (∀ W, Calls Tryz.prog 40 #[.float .f64 x1] W fun e w' => e = .returned (.float .f64 (wideN B)) ∧ w' = W)) (hQ : 0 < Q) (hB : B < 2139095040) :
    Calls Tryz.prog 52 #[.pointer (some ⟨z, 0, none⟩), .pointer (some ⟨xv, 0, none⟩)] w fun e w' => ∃ r : Bool, e = .returned (.bool r) ∧ (r = true ↔ Rnd 24 149 P Q B) ∧ Below w.heap.size w w' := by
  have HF := Lib.hid (float32_any z P Q L w hx hL hL1)
  have hc0 : ∀ W, (convert 27 25 (.float .f32 x0)).run Tryz.prog W = .ok (.float .f64 x1) W := fun W => conv_up W hcv
  clear hx
  go_enter Tryz.func52, Tryz.ntmps52
  go_wp2_with fail
  refine HF.out.mono ?_
  rintro e w1 ⟨X, ex, rfl, hX, b1⟩
  have c1 := (b1.cell (p := ⟨xv, 0, none⟩) (by exact hb)).trans hv
  have hc1 : ∀ W, (convert 27 25 (.float .f32 (finS X))).run Tryz.prog W = .ok (.float .f64 (wideF X)) W := fun W => conv_up W (wide_fins X)
  have HB1 := Lib.hid b1
  have HX := Lib.hid hX
  clear b1 hX
  go_wp2_with fail
  refine (HA.out w1).mono ?_
  rintro e w2 ⟨rfl, hw⟩
  obtain rfl := hw.symm
  go_wp2_with fail
  go_ret
  refine ⟨_, rfl, ?_, HB1.out⟩
  show (FloatKind.f64.format.order (wideF X) (wideN B) == some Ordering.eq) = true ↔ _
  rw [wide_same hB, decide_eq_true_eq]
  constructor
  · intro h; exact h ▸ HX.out
  · intro h; exact rnd_eq HX.out h (by omega) hQ hQ rfl

theorem read32_any' (b n r s P Q ca cu u xv L L' : Nat) (R : Prop) (w : World) (hn : IntN w b 0 false n) (h0 : 0 < n) (ha : w.cell? ⟨ca, 0, none⟩ = some (.func (.func 52) #[] #[.pointer (some ⟨xv, 0, none⟩)])) (hca : ca < w.heap.size)
    (hc : w.cell? ⟨cu, 0, none⟩ = some (.pointer (some ⟨u, 0, none⟩))) (hcu : cu < w.heap.size) (hu : RatL w u false r s L)
    (hP : n / Nat.gcd n s * (r / Nat.gcd r 1) = P) (hQ : 1 / Nat.gcd r 1 * (s / Nat.gcd n s) = Q) (hPl : P < 18446744073709551616 ^ L') (hQl : Q < 18446744073709551616 ^ L') (hQ0 : 0 < Q) (hL : L ≤ 16777216 ∧ 1 ≤ L)
    (HG : Hid (∀ (z : Nat) (W : World), Below w.heap.size w W → RatL W z false P Q L' → Calls Tryz.prog 52 #[.pointer (some ⟨z, 0, none⟩), .pointer (some ⟨xv, 0, none⟩)] W fun e w' => ∃ r : Bool, e = .returned (.bool r) ∧ (r = true ↔ R) ∧ Below W.heap.size W w')) :
    Calls Tryz.prog 91 #[.pointer (some ⟨b, 0, none⟩), .pointer (some ⟨ca, 0, none⟩), .pointer (some ⟨cu, 0, none⟩)] w fun e w' => ∃ r : Bool, e = .returned (.bool r) ∧ (r = true ↔ R) ∧ Below w.heap.size w w' := by
  have HS := Lib.hid (sign_pos b 0 n w hn h0)
  have HE := Lib.hid (And.intro hP (And.intro hQ (And.intro hPl (And.intro hQl (And.intro hQ0 hL)))))
  have HN := Lib.hid (And.intro hn hu)
  clear hn hu hP hQ hPl hQl hQ0 hL
  go_enter Tryz.func91, Tryz.ntmps91
  go_wp2_with fail
  have hcur : Below w.heap.size w w.drew := (Below.refl _ _).drew
  have HSC := Lib.hid (fun (V : World) (hV : Below w.heap.size w V) => (show V.cell? ⟨ca, 0, none⟩ = some (.func (.func 52) #[] #[.pointer (some ⟨xv, 0, none⟩)]) ∧ V.cell? ⟨cu, 0, none⟩ = some (.pointer (some ⟨u, 0, none⟩)) from ⟨(hV.cell (p := ⟨ca, 0, none⟩) (by exact hca)).trans ha, (hV.cell (p := ⟨cu, 0, none⟩) (by exact hcu)).trans hc⟩))
  have H1 : Hid (RSlot ((w.drew.alloc (.cells #[.bool false, .slice none 0 0, .bool false, .slice none 0 0] 136)).alloc (.cells #[.bool false, .slice none 0 0, .bool false, .slice none 0 0] 136)) (w.heap.size + 1)) := Lib.hid (by have := RSlot.new (w.drew.alloc (.cells #[.bool false, .slice none 0 0, .bool false, .slice none 0 0] 136)) 136; simpa using this)
  have H2 : Hid (RSlot ((w.drew.alloc (.cells #[.bool false, .slice none 0 0, .bool false, .slice none 0 0] 136)).alloc (.cells #[.bool false, .slice none 0 0, .bool false, .slice none 0 0] 136)) w.heap.size) := Lib.hid ((RSlot.new w.drew 136).below ((Below.refl _ _).alloc (Nat.le_refl _) _) (Nat.le_refl _))
  have H3 : Hid (RSlot (w.drew.alloc (.cells #[.bool false, .slice none 0 0, .bool false, .slice none 0 0] 136)) w.heap.size) := Lib.hid (RSlot.new w.drew 136)
  go_region_held3 (fun w' => w'.cell? ⟨ca, 0, none⟩ = some (.func (.func 52) #[] #[.pointer (some ⟨xv, 0, none⟩)]) ∧ w'.cell? ⟨cu, 0, none⟩ = some (.pointer (some ⟨u, 0, none⟩))) (first | exact HSC.out _ (by first | exact hcur7 | exact hcur6 | exact hcur3 | exact hcur3.alloc hcur3.size _ | exact hcur | exact hcur.alloc hcur.size _ | exact (hcur.alloc hcur.size _).alloc (hcur.alloc hcur.size _).size _)) (first | (go_at_call 92; refine (sign_pos b 0 n w.drew HN.out.1 h0).mono ?_; rintro e w2 ⟨rfl, rfl⟩) | (go_at_call 82; refine (setintLK _ b 0 n L _ (by first | exact H3.out | exact H1.out | exact H2.out) ((HN.out.1.any HE.out.2.2.2.2.2.2).below (by first | exact hcur.alloc hcur.size _ | exact (hcur.alloc hcur.size _).alloc (hcur.alloc hcur.size _).size _) (Nat.le_refl _)) (by have := HE.out.2.2.2.2.2; omega) HE.out.2.2.2.2.2.2 (by have := HN.out.1.1; omega)).mono ?_; rintro e w3 ⟨⟨rfl, r3, s3, b3⟩, k3⟩; have hcur3 : Below w.heap.size w w3 := (by first | exact (hcur.alloc hcur.size (.cells #[.bool false, .slice none 0 0, .bool false, .slice none 0 0] 136)).trans (b3.mono (by omega)) | exact ((hcur.alloc hcur.size (.cells #[.bool false, .slice none 0 0, .bool false, .slice none 0 0] 136)).alloc (hcur.alloc hcur.size (.cells #[.bool false, .slice none 0 0, .bool false, .slice none 0 0] 136)).size (.cells #[.bool false, .slice none 0 0, .bool false, .slice none 0 0] 136)).trans (b3.mono (by omega))); (first | (have HRa : Hid (RatL w3 w.heap.size false n 1 L) := Lib.hid r3) | (have HRb : Hid (RatL w3 (w.heap.size + 1) false n 1 L) := Lib.hid r3)); have HK := Lib.hid k3; clear r3 s3 b3 k3) | (go_at_call 81; refine (ratmulL _ _ u n 1 r s P Q L L' _ (by first | exact H2.out.kept HK.out (by omega) | exact H1.out.kept HK.out (by omega) | exact RSlot.new w3 136) (by first | exact HRa.out | exact HRb.out | exact HRa.out.below ((Below.refl _ _).alloc (Nat.le_refl _) _) (Nat.le_refl _)) (by first | exact HN.out.2.below hcur3 (Nat.le_refl _) | exact HN.out.2.below (hcur3.alloc hcur3.size _) (Nat.le_refl _)) HE.out.1 HE.out.2.1 HE.out.2.2.1 HE.out.2.2.2.1 HE.out.2.2.2.2.1 HE.out.2.2.2.2.2.1 HE.out.2.2.2.2.2.2).mono ?_; rintro e w6 ⟨rfl, r6, s6, b6⟩; have hcur6 : Below w.heap.size w w6 := (by have z3 := hcur3.size; first | exact hcur3.trans (b6.mono (by omega)) | exact (hcur3.alloc hcur3.size (.cells #[.bool false, .slice none 0 0, .bool false, .slice none 0 0] 136)).trans (b6.mono (by omega))); have HG6 := Lib.hid (HG.out _ _ hcur6 r6); clear r6 s6 b6) | (go_at_call 52; refine HG6.out.mono ?_; rintro e w7 ⟨rr, rfl, hrr, b7⟩; have hcur7 := back_of' hcur6 b7; clear b7))
  all_goals go_wp2_with fail
  all_goals go_ret
  all_goals exact ⟨rr, rfl, hrr, hcur7⟩
end Go.Proofs.YtgccfdfbnhldbaaGreatDoor.Nb

namespace Go.Proofs.YtgccfdfbnhldbaaGreatDoor.Nb
open Go Go.RowKit

/-- new memory, or none -/
def NewO (w : World) (A : Option Addr) : Prop := ∀ a, A = some a → w.heap.size ≤ a.block
theorem NewO.nil (w : World) : NewO w none := fun a h => by cases h
theorem NewO.at {w : World} (o : Nat) : NewO w (some ⟨w.heap.size, o, none⟩) := fun a h => by injection h with h; subst h; exact Nat.le_refl _
theorem NewO.back {w w1 : World} {A : Option Addr} (h : NewO w1 A) (hs : w.heap.size ≤ w1.heap.size) : NewO w A := fun a ha => Nat.le_trans hs (h a ha)
def Num2N (w : World) (m n L L' : Nat) (e : Ending) (w' : World) : Prop := ∃ A k c A' k' c', e = .returned (.tuple #[.slice A k c, .slice A' k' c']) ∧ MagN w' (.slice A k c) m L ∧ MagN w' (.slice A' k' c') n L' ∧ Below w.heap.size w w' ∧ NewO w A'
theorem Num2N.more {w : World} {a b L L' M M' : Nat} (hL : L ≤ L') (hM : M ≤ M') : ∀ e w', Num2N w a b L M e w' → Num2N w a b L' M' e w' :=
  fun _ _ ⟨A, k, c, A', k', c', he, h1, h2, h3⟩ => ⟨A, k, c, A', k', c', he, h1.more hL, h2.more hM, h3⟩

set_option maxRecDepth 8000 in
set_option maxHeartbeats 2000000 in
theorem right_coreN (A : Option Addr) (M ca q s N n : Nat) (m : List Nat) (w : World) (hm : Mag w (.slice A M ca) m) (hl : M ≤ 536870912) (hs : s < 64) (hN : N = 64 * q + s) (hM : q + n = M) (hn : 0 < n) :
    Calls Tryz.prog 162 #[.slice A M ca, .int .u64 (N : Int)] w fun e w' => ∃ A' k' c' lost, e = .returned (.tuple #[.slice A' k' c', .bool lost]) ∧ MagN w' (.slice A' k' c') (val m / (18446744073709551616 ^ q * 2 ^ s)) n ∧ Below w.heap.size w w' ∧ NewO w A' := by
  have hla := hm.lenN
  have HA := Lib.hid hm
  have HL := Lib.hid (And.intro hla hM)
  have hmk := run_make_row' (P := Tryz.prog) 88 22 (.int .u64 0) 8 Tryz.underlying88 infoW rfl .i64 .i64 n (by omega) (by omega)
  have e1 : (N : Int) / 64 = (q : Int) := by omega
  have e2 : (N : Int) % 64 = (s : Int) := by omega
  have hN1 : (N : Int) ≤ 18446744073709551615 := by omega
  have hMn : (M : Int) - (q : Int) = (n : Int) := by omega
  have hqM : ¬ (M : Int) ≤ (q : Int) := by omega
  have hqM2 : (q : Int) ≤ (M : Int) := by omega
  have hqM3 : (q : Int) < (M : Int) := by omega
  obtain ⟨b1, o1, ea, hb1, hc1⟩ := hm.at (show q < M by omega)
  subst ea
  have hcM : (M : Int) ≤ (ca : Int) := by obtain ⟨_, _, e, h, -⟩ := hm; injection e with _ _ e; omega
  have HB1 := Lib.hid hb1
  obtain ⟨x0, hx0⟩ : ∃ x0, m.getD q 0 = x0 := ⟨_, rfl⟩
  rw [hx0] at hc1
  clear hm hla hN hM hx0 hb1
  go_enter Tryz.func162, Tryz.ntmps162
  go_wp2_with fail
  go_loopw [8, 39] (fun zv iv wr => ∃ (k : Nat) (z : Int), k ≤ q ∧ zv = .int .u64 z ∧ iv = .int .i64 (k : Int) ∧ w = wr) (fun _ iv _ => q - (intOf iv).toNat)
  case atStart => exact ⟨0, _, Nat.zero_le _, rfl, rfl, rfl⟩
  case round =>
    obtain ⟨k, z, hk, rfl, rfl, rfl⟩ := hrel
    by_cases hlt : k < q
    · obtain ⟨b2, o2, ea, hb2, hc2⟩ := HA.out.at (show k < M by have := HL.out; omega)
      injection ea with ea
      injection ea with ea eb _
      subst ea eb
      obtain ⟨x, hx⟩ : ∃ x, m.getD k 0 = x := ⟨_, rfl⟩
      rw [hx] at hc2
      have i0 : (0 : Int) ≤ (k : Int) := by omega
      have i1 : (k : Int) < (q : Int) := by omega
      clear hx hb2
      go_wp2_with fail
      go_roundw
      case rel => exact ⟨k + 1, _, by omega, rfl, by go_num, trivial⟩
      case measure => simp [intOf]; omega
    · obtain rfl : k = q := by omega
      clear hc1 hlt
      have hd0 : (0 : Int) ≤ (M : Int) - (k : Int) := by omega
      go_wp2_with fail
      clear hmk
      have H0 := Lib.hid (show RightW w w.heap.size n m k s 0 (w.alloc (.cells (madeCells #[.int .u64 0] n) 22)) from ⟨_, Blk.made w n, by simp, W64.rep _, right_start _ _ _ _, Clear.rep _ _, (Below.refl _ _).alloc (Nat.le_refl _) _⟩)
      go_loopw [54] (fun iv wr => ∃ i : Nat, i ≤ n ∧ iv = .int .i64 (i : Int) ∧ Hid (RightW w w.heap.size n m k s i wr)) (fun iv _ => n - (intOf iv).toNat)
      case atStart => exact ⟨0, Nat.zero_le _, rfl, H0⟩
      case round =>
        clear H0
        obtain ⟨i, hi, rfl, hp⟩ := hrel
        obtain ⟨os, hbk, hlen, hw, hst, hcl, hbel⟩ := hp.out
        by_cases hlt : i < n
        · have hfr : wr.frozen? ⟨w.heap.size, i, none⟩ = false := hbk.frozen _
          obtain ⟨o, ho⟩ : ∃ o, os.getD i 0 = o := ⟨_, rfl⟩
          have hco : wr.cell? ⟨w.heap.size, i, none⟩ = some (.int .u64 (o : Nat)) := by rw [← ho]; exact hbk.cell (by omega)
          obtain ⟨x, ex⟩ : ∃ x, m.getD (k + i) 0 = x := ⟨_, rfl⟩
          obtain ⟨y, ey⟩ : ∃ y, m.getD (k + i + 1) 0 = y := ⟨_, rfl⟩
          have HD1 := fun W (hW : Mag W _ m) => digit_any (some ⟨b1, o1, none⟩) M ca (k + i) m W hW (by omega)
          have HD2 := fun W (hW : Mag W _ m) => digit_any (some ⟨b1, o1, none⟩) M ca (k + i + 1) m W hW (by omega)
          have c1 : ((k + i : Nat) : Int) = (k : Int) + (i : Int) := by omega
          have c2 : ((k + i + 1 : Nat) : Int) = (k : Int) + (i : Int) + 1 := by omega
          rw [c1, ex] at HD1
          rw [c2, ey] at HD2
          have wx : x < 18446744073709551616 := by rw [← ex]; exact HA.out.w32.get _
          obtain ⟨r1, r2, r3, r4⟩ := right_word (y := y) hs wx
          obtain ⟨hv, ehv⟩ : ∃ hv, 2 ^ (64 - s) * (y % 2 ^ s) = hv := ⟨_, rfl⟩
          obtain ⟨d, ed⟩ : ∃ d, x / 2 ^ s + hv = d := ⟨_, rfl⟩
          have hwr : IntKind.u64.wrap ((y : Int) * 2 ^ (64 - s)) = (hv : Int) := by
            rw [show ((y : Int) * 2 ^ (64 - s)) = ((y * 2 ^ (64 - s) : Nat) : Int) by rw [Int.natCast_mul, Int.natCast_pow]; rfl]
            rw [IntKind.wrap_u64]; omega
          have hor : bits .or .u64 ((x : Int) / 2 ^ s) (hv : Int) = (d : Int) := by
            have h := or_high r1 r3
            rw [ehv] at h
            rw [← ed, ← h, Int.natCast_ediv, Int.natCast_pow]
            rfl
          have hdl : d < 18446744073709551616 := by omega
          have HS : Hid (RightSt m (os.set i d) k s (i + 1)) := Lib.hid (by
            have h := right_step hst hs wx ex ey (by have := HL.out; omega) (by omega) hcl
            rw [ehv, ed] at h
            exact h)
          have HO := Lib.hid (And.intro hbk (And.intro hlen (And.intro hw (And.intro hcl hbel))))
          have HDD := Lib.hid (And.intro HD1 HD2)
          have HMW := Lib.hid (HA.out.below hbel)
          have HDL := Lib.hid hdl
          have i0 : (0 : Int) ≤ (i : Int) := by omega
          have i1 : (i : Int) < (n : Int) := by omega
          clear hbk hlen hw hst hcl hbel ho ex ey wx r1 r2 r3 r4 ehv ed hdl HD1 HD2 c1 c2 hp
          go_wp2_with fail
          refine (HDD.out.1 _ HMW.out).mono ?_
          rintro e w9 ⟨rfl, rfl⟩
          go_wp2_with fail
          refine (HDD.out.2 _ HMW.out).mono ?_
          rintro e w9 ⟨rfl, rfl⟩
          go_wp2_with fail
          go_roundw
          case rel => exact ⟨i + 1, by omega, by go_num, Lib.hid ⟨_, blk_end HO.out.1 rfl, by rw [List.length_set]; exact HO.out.2.1, HO.out.2.2.1.set HDL.out, HS.out, HO.out.2.2.2.1.step, HO.out.2.2.2.2.setCell (p := ⟨w.heap.size, i, none⟩) (Nat.le_refl _) _⟩⟩
          case measure => simp [intOf]; omega
        · obtain rfl : i = n := by omega
          have HO := Lib.hid (And.intro hbk (And.intro hlen (And.intro hw (And.intro hst hbel))))
          clear hbk hlen hw hst hcl hbel
          go_wp2_with fail
          have hms := HO.out.1.mag HO.out.2.2.1 (by rw [HO.out.2.1]; omega)
          rw [HO.out.2.1] at hms
          refine (norm_any _ _ _ hms).mono ?_
          rintro e w2 ⟨A2, k2, c2, hA2, rfl, hm2, rfl⟩
          have HNW : Hid (NewO w A2) := Lib.hid (by injection hA2 with hA2; rw [← hA2]; exact NewO.at _)
          clear hA2
          rw [right_end HO.out.2.2.2.1 (by have := HL.out; omega) HA.out.w32, HO.out.2.1] at hm2
          have HF := Lib.hid hm2
          clear hm2 hms
          go_wp2_with fail
          go_ret2
          exact ⟨_, _, _, _, rfl, HF.out, HO.out.2.2.2.2, HNW.out⟩


set_option maxRecDepth 8000 in
/-- right: a magnitude over 2 to the N-th, downwards -/
theorem right_anyN (v : Value) (X N L : Nat) (w : World) (h : MagN w v X L) (hL : L ≤ 536870912) (hN : N ≤ 18446744073709551615) :
    Calls Tryz.prog 162 #[v, .int .u64 (N : Int)] w fun e w' => ∃ A' k' c' lost, e = .returned (.tuple #[.slice A' k' c', .bool lost]) ∧ MagN w' (.slice A' k' c') (X / 2 ^ N) L ∧ Below w.heap.size w w' ∧ NewO w A' := by
  obtain ⟨ws, h1, h2, rfl, h4⟩ := h
  have h1' := h1
  obtain ⟨A, c, rfl, -⟩ := h1
  have e : (2 : Nat) ^ N = 18446744073709551616 ^ (N / 64) * 2 ^ (N % 64) := by
    rw [show (18446744073709551616 : Nat) = 2 ^ 64 by decide, ← Nat.pow_mul, ← Nat.pow_add]
    congr 1
    omega
  rw [e]
  by_cases h0 : ws.length ≤ N / 64
  · have hz : val ws / (18446744073709551616 ^ (N / 64) * 2 ^ (N % 64)) = 0 := by
      refine Nat.div_eq_of_lt ?_
      have a1 := val_lt h1'.w32
      have a2 : 18446744073709551616 ^ ws.length ≤ 18446744073709551616 ^ (N / 64) := Nat.pow_le_pow_right (by omega) h0
      have a3 : 18446744073709551616 ^ (N / 64) * 1 ≤ 18446744073709551616 ^ (N / 64) * 2 ^ (N % 64) := Nat.mul_le_mul_left _ (Nat.pow_pos (by omega))
      omega
    have HR : Hid (MagN w (.slice none 0 0) (val ws / (18446744073709551616 ^ (N / 64) * 2 ^ (N % 64))) L) := Lib.hid (by rw [hz]; exact zero_in w _)
    obtain ⟨q, hq⟩ : ∃ q, N / 64 = q := ⟨_, rfl⟩
    have e1 : (N : Int) / 64 = (q : Int) := by omega
    have e2 : (ws.length : Int) ≤ (q : Int) := by omega
    have hN1 : (N : Int) ≤ 18446744073709551615 := by omega
    have hl0 : (ws.length : Int) ≤ 536870912 := by omega
    obtain ⟨M, hM⟩ : ∃ M, ws.length = M := ⟨_, rfl⟩
    rw [hM] at e2 hl0 ⊢
    clear h1' h2 h4 e hz h0 hq hM
    go_enter Tryz.func162, Tryz.ntmps162
    go_wp2_with fail
    go_ret2
    exact ⟨_, _, _, _, rfl, HR.out, Below.refl _ _, NewO.nil _⟩
  · exact (right_coreN A ws.length c (N / 64) (N % 64) N (ws.length - N / 64) ws w h1' (by omega) (by omega) (by omega) (by omega) (by omega)).mono fun e w' ⟨A', k', c', lost, a, b, d, g⟩ => ⟨A', k', c', lost, a, b.more (by omega), d, g⟩

set_option maxHeartbeats 400000 in
theorem word_anyN (n : Nat) (w : World) (hn : n < 18446744073709551616) : Calls Tryz.prog 100 #[.int .u64 (n : Int)] w fun e w' => ∃ A k c, e = .returned (.slice A k c) ∧ MagN w' (.slice A k c) n 1 ∧ Below w.heap.size w w' ∧ NewO w A := by
  have HM := Lib.hid (Mag.one w n hn 22)
  have HB := Lib.hid ((Below.refl w.heap.size w).alloc (Nat.le_refl _) (.cells #[.int .u64 (n : Int)] 22))
  go_enter Tryz.func100, Tryz.ntmps100
  go_wp2_with fail
  refine (norm_any _ [n] _ HM.out).mono ?_
  rintro e w1 ⟨A2, k, c, hA2, rfl, hm, rfl⟩
  have HNW : Hid (NewO w A2) := Lib.hid (by injection hA2 with hA2; rw [← hA2]; exact NewO.at _)
  clear hA2
  have HV : Hid (MagN _ _ n 1) := Lib.hid (by have h := hm; simp only [val, Nat.mul_zero, Nat.add_zero] at h; exact h)
  clear hm
  go_wp2_with fail
  go_ret
  exact ⟨_, _, _, rfl, HV.out, HB.out, HNW.out⟩

set_option maxRecDepth 8000 in
set_option maxHeartbeats 2000000 in
theorem quotient_oneN (u v : Value) (m d L : Nat) (w : World) (hu : MagN w u m L) (hv : MagN w v d 1) (hd : 0 < d) (hL : L ≤ 1073741824) (hL1 : 1 ≤ L) (hge : d ≤ m) :
    Calls Tryz.prog 106 #[u, v] w (Num2N w (m / d) (m % d) L 1) := by
  have HCM := Lib.hid (compare_any u v m d L w hu (hv.more hL1) (by omega))
  have HU := Lib.hid hu
  obtain ⟨b, off, c, rfl, hcell, hb, hd64⟩ := hv.cell hd
  obtain ⟨A, k, cu, rfl⟩ := hu.slice
  by_cases hlt : m < d
  · omega
  · have hcmp : ¬ cmpN m d < 0 := by unfold cmpN; rw [if_neg hlt]; split <;> omega
    obtain ⟨q, hq⟩ : ∃ q, cmpN m d = q := ⟨_, rfl⟩
    rw [hq] at HCM hcmp
    obtain ⟨ws, h1, h2, h3, h4⟩ := hu
    have hk := h1.lenN
    subst hk
    have HSH := Lib.hid (fun j => short_core A ws.length cu d ws (w.drewN j) (show Mag (w.drewN j) _ ws from h1) (by omega) hd hd64)
    rw [h3] at HSH
    have H4 := Lib.hid h4
    obtain ⟨kk, hkk⟩ : ∃ kk, ws.length = kk := ⟨_, rfl⟩
    rw [hkk] at HSH HCM H4 ⊢
    have hrd : m % d < 18446744073709551616 := Nat.lt_trans (Nat.mod_lt _ hd) hd64
    obtain ⟨mr, hmr⟩ : ∃ x, m % d = x := ⟨_, rfl⟩
    rw [hmr] at HSH hrd ⊢
    clear hv h1 h2 h3 h4 hq hkk hmr HU
    go_enter Tryz.func106, Tryz.ntmps106
    go_wp2_with fail
    refine HCM.out.mono ?_
    rintro e w1 ⟨rfl, j, rfl⟩
    go_wp2_with fail
    refine (HSH.out j).mono ?_
    rintro e w2 ⟨A2, k2, c2, rfl, hx, hbx⟩
    have HX := Lib.hid (And.intro hx (show Below w.heap.size w w2 from (below_dN (Below.refl _ _) j).trans hbx))
    have HWD := Lib.hid (word_anyN mr w2 hrd)
    clear hx hbx HSH
    go_wp2_with fail
    refine HWD.out.mono ?_
    rintro e w3 ⟨A3, k3, c3, rfl, hx, hbx, hnw⟩
    have HNW := Lib.hid (hnw.back HX.out.2.size)
    have HY := Lib.hid (And.intro hx (And.intro (HX.out.1.below hbx) (show Below w.heap.size w w3 from HX.out.2.trans (hbx.mono HX.out.2.size))))
    clear hx hbx hnw
    go_wp2_with fail
    go_ret2
    exact ⟨A2, k2, c2, A3, k3, c3, rfl, HY.out.2.1.more H4.out, HY.out.1, HY.out.2.2, HNW.out⟩

set_option maxRecDepth 8000 in
set_option maxHeartbeats 8000000 in
theorem quotient_longN (u v : Value) (X Y L : Nat) (w : World) (hu : MagN w u X L) (hv : MagN w v Y L) (hY : 18446744073709551616 ≤ Y) (hXY : Y ≤ X) (hL : L ≤ 268435456) :
    Calls Tryz.prog 106 #[u, v] w (Num2N w (X / Y) (X % Y) L L) := by
  have HCM := Lib.hid (compare_any u v X Y L w hu hv (by omega))
  have hcmp : ¬ cmpN X Y < 0 := by unfold cmpN; rw [if_neg (by omega)]; split <;> omega
  obtain ⟨cm, hcm⟩ : ∃ q, cmpN X Y = q := ⟨_, rfl⟩
  rw [hcm] at HCM hcmp
  clear hcm
  obtain ⟨xs, hx1, hx2, hx3, hx4⟩ := hu
  obtain ⟨ys, hy1, hy2, hy3, hy4⟩ := hv
  have hx1' := hx1
  have hy1' := hy1
  obtain ⟨A, ca, rfl, -⟩ := hx1
  obtain ⟨B, cb, rfl, -⟩ := hy1
  have hyn : 2 ≤ ys.length := by
    rcases Nat.lt_or_ge ys.length 2 with h | h
    · have a1 := val_lt hy1'.w32
      have a2 : 18446744073709551616 ^ ys.length ≤ 18446744073709551616 ^ 1 := Nat.pow_le_pow_right (by omega) (by omega)
      rw [Nat.pow_one] at a2
      omega
    · exact h
  have hxn : ys.length ≤ xs.length := by
    rcases Nat.lt_or_ge xs.length ys.length with h | h
    · have := norm_len_lt hx1'.w32 hy2 h
      omega
    · exact h
  obtain ⟨hup, hb0, hb64⟩ := up_by hy1'.w32 hy2 (by omega)
  have hXl : X < 18446744073709551616 ^ xs.length := by rw [← hx3]; exact val_lt hx1'.w32
  have hXg : 18446744073709551616 ^ (xs.length - 1) ≤ X := by rw [← hx3]; exact norm_ge hx2 (by omega)
  obtain ⟨a, ha⟩ : ∃ a, ys.getD (ys.length - 1) 0 = a := ⟨_, rfl⟩
  have hal : a < 18446744073709551616 := by rw [← ha]; exact hy1'.w32.get _
  obtain ⟨b, o, rfl, hb, hc⟩ := hy1'.at (j := ys.length - 1) (by omega)
  obtain ⟨n, hn⟩ : ∃ n, ys.length = n := ⟨_, rfl⟩
  obtain ⟨lx, hlx⟩ : ∃ n, xs.length = n := ⟨_, rfl⟩
  rw [hn] at HCM hyn hxn hup hb0 hb64 ha hc hy4 hy1'
  rw [hn]
  rw [hlx] at HCM hxn hXl hXg hx4 hx1'
  rw [hlx]
  rw [ha] at hup hb0 hb64 hc
  rw [hy3] at hup
  obtain ⟨up, hupe⟩ : ∃ up, 64 - Lib.bitLen a = up := ⟨_, rfl⟩
  rw [hupe] at hup
  have HLZ := Lib.hid (fun W => leading_any a W hal)
  rw [hupe] at HLZ
  have hup64 := hup.lt
  have HUP := Lib.hid hup
  have HLV := Lib.hid (fun j => left_any (.slice (some ⟨b, o, none⟩) n cb) Y up L (w.drewN j) ⟨ys, show Mag (w.drewN j) _ ys from hy1', hy2, hy3, by omega⟩ (by omega))
  have HX := Lib.hid (And.intro hx1' (And.intro hx2 (And.intro hx3 (And.intro hXl hXg))))
  have HN := Lib.hid (And.intro hx4 (And.intro hy4 hxn))
  have hn1 : ((n : Int) == 1) = false := by simp; omega
  have i0 : (0 : Int) ≤ (n : Int) - 1 := by omega
  have i1 : (n : Int) - 1 < (n : Int) := by omega
  have t1 : ((n : Int) - 1).toNat = n - 1 := by omega
  have hnl : (n : Int) ≤ 268435456 := by omega
  have hlxl : (lx : Int) ≤ 268435456 := by omega
  clear hx1' hx2 hx3 hx4 hy1' hy2 hy3 hy4 hn hlx ha hup hb0 hb64 hupe hal hXl hXg hb hxn
  go_enter Tryz.func106, Tryz.ntmps106
  go_wp2_with fail
  refine HCM.out.mono ?_
  rintro e w1 ⟨rfl, j, rfl⟩
  go_wp2_with fail
  refine (HLZ.out _).mono ?_
  rintro e w1 ⟨rfl, rfl⟩
  go_wp2_with fail
  refine (HLV.out j).mono ?_
  rintro e w2 ⟨vv, rfl, hv2, hbl2⟩
  obtain ⟨vs, hm2, hn2, hvv2, -⟩ := hv2
  have hlen2 := up_len HUP.out (by omega) hm2.w32 hn2 hvv2
  obtain ⟨cv, hvm⟩ : ∃ cv, ∃ A', vv = .slice A' n cv := by obtain ⟨A', c', h1, -⟩ := hm2; exact ⟨c', A', by rw [h1, hlen2]⟩
  obtain ⟨A', rfl⟩ := hvm
  obtain ⟨bv, ov, rfl, hbv, -⟩ := hm2.at (j := 0) (by omega)
  have HB2 := Lib.hid (show Below w.heap.size w w2 from (below_dN (Below.refl _ _) j).trans hbl2)
  have HV := Lib.hid (And.intro hm2 (And.intro hvv2 (And.intro (show 0 < vs.getD (n - 1) 0 by have := norm_top hn2 (by omega); rwa [hlen2] at this) (And.intro (show val vs < 18446744073709551616 ^ n by rw [hvv2]; exact HUP.out.hi) hbv))))
  have HR := Lib.hid (left_row A lx ca 0 up up xs w2 (HX.out.1.below HB2.out) (by omega) hup64 (by omega) (by have := HN.out.2.2; omega))
  simp only [Nat.zero_add, Nat.pow_zero, Nat.one_mul] at HR
  rw [HX.out.2.2.1] at HR
  clear hm2 hn2 hvv2 hlen2 hbv hbl2 HLV HLZ HCM
  go_wp2_with fail
  refine HR.out.mono ?_
  rintro e w3 ⟨g3, k3, os3, rfl, hg3, hb3, hl3, hw3, hk3, hn3, hv3, hbl3⟩
  obtain ⟨hlk, hr1, hr2, hr3⟩ := up_row hw3 (by omega) hv3 HX.out.2.2.2.2 (by have := HN.out.2.2; omega) hk3
  have HB3 := Lib.hid (onto HB2.out hbl3)
  have HO3 := Lib.hid (own_of_blk (B := w2.heap.size) (k := k3) hb3 hl3 (by omega) hk3 hg3)
  have HR3 := Lib.hid (And.intro hr1 (And.intro hr2 hr3))
  clear HR hb3 hl3 hw3 hn3 hv3 hr1 hr2 hr3
  have hlk1 : 1 ≤ k3 := by have := HN.out.2.2; omega
  obtain ⟨i0', hi0, hz0, hz1, hz2⟩ := info_parts infoW
  obtain ⟨m, hm⟩ : ∃ m, lx + 1 = n + m := ⟨lx + 1 - n, by have := HN.out.2.2; omega⟩
  have hmn : (lx : Int) + 1 - (n : Int) = (m : Int) := by omega
  have hmk := run_make_row' (P := Tryz.prog) 88 22 (.int .u64 0) 8 Tryz.underlying88 infoW rfl .i64 .i64 m (by omega) (by omega)
  have hml : (m : Int) ≤ 268435457 := by omega
  have HMM := Lib.hid hm
  clear hm
  have hbA := (Below.refl w3.heap.size w3).alloc (Nat.le_refl _) (.cells #[.int .u64 0, .int .u64 0] 22)
  have HOA := Lib.hid (And.intro (own_below HO3.out hbA) (And.intro (hbl3.trans (hbA.mono hbl3.size)) (noughts_new w3 22)))
  have hsz3 : w2.heap.size ≤ (w3.alloc (.cells #[.int .u64 0, .int .u64 0] 22)).heap.size := Nat.le_trans hbl3.size hbA.size
  have hk3b : k3 ≤ 268435457 := by omega
  clear hbA hbl3 HB3
  go_wp2_with (at_builtin; refine wpList_append_own _ rfl _ _ 88 rfl w2.heap.size 22 i0' _ 1 8 Tryz.underlying88 hi0 hz0 hz1 hz2 rfl (by omega) (.slice (some ⟨g3, 0, none⟩) k3 (lx + 1)) k3 _ rfl HOA.out.1 ⟨w3.heap.size, 0, none⟩ 2 2 [.int .u64 0, .int .u64 0] rfl rfl HOA.out.2.2 (by simp [Value.oneCell']) (by simp only [maxLen]; omega) (by omega) hsz3 ?_; intro v' w4 hr4 hg4 ha4; obtain ⟨gu, cu, rfl, hgu, hbu, hcu, hcm, -⟩ := blkp_of_own (show w4.ownsRow w2.heap.size 22 1 v' (k3 + 2) (vals (os3.take k3 ++ [0, 0])) from (by rw [← vals_append]; exact hr4)) (by omega); have H4 := Lib.hid (And.intro hgu (And.intro (hbu.take (lx + 1)) (HOA.out.2.1.grown hg4 hsz3 (own_base HOA.out.1)))); have hcu1 : (lx : Int) + 1 ≤ (cu : Int) := (by omega); have hcm1 : (cu : Int) ≤ 9223372036854775807 := (by simp only [maxLen] at hcm; omega); clear hr4 hg4 ha4 hgu hbu hcu hcm)
  have HH := Lib.hid (And.intro HMM.out (show 0 < m by have := HN.out.2.2; have := HMM.out; omega))
  have H0 : Hid (LongW w (w4.alloc (.cells (madeCells #[.int .u64 0] m) 22)) (X * 2 ^ up) (Y * 2 ^ up) (lx + 1) m n m gu w4.heap.size bv ov cv vs) := Lib.hid (by
    have hal := (Below.refl w4.heap.size w4).alloc (Nat.le_refl _) (.cells (madeCells #[.int .u64 0] m) 22)
    have hb2 : Below w2.heap.size w2 _ := H4.out.2.2.trans (hal.mono H4.out.2.2.size)
    refine ⟨_, _, long_start HR3.out.1 (up_start HUP.out HX.out.2.2.2.1 HMM.out) HR3.out.2.1 HR3.out.2.2, ?_, Blk.made w4 m, HV.out.1.below hb2, onto HB2.out hb2⟩
    obtain ⟨cur, c1, c2⟩ := H4.out.2.1
    exact ⟨cur, (hal.block gu H4.out.2.1.lt).trans c1, c2⟩)
  have HG := Lib.hid (And.intro (show w2.heap.size ≤ gu from H4.out.1) (And.intro (show w.heap.size ≤ gu from Nat.le_trans HB2.out.size H4.out.1) (And.intro (show gu < w4.heap.size from H4.out.2.1.lt) (show bv < w2.heap.size from HV.out.2.2.2.2))))
  have hgu := HG.out.2.2.1
  have HVV := Lib.hid (And.intro HV.out.2.1 (And.intro HV.out.2.2.1 HV.out.2.2.2.1))
  have HGQ : Hid (w.heap.size ≤ w4.heap.size) := Lib.hid (by have := HG.out; omega)
  have HYU : Hid (0 < Y * 2 ^ up) := Lib.hid (Nat.mul_pos (by omega) (Nat.pow_pos (by omega)))
  have HXY : Hid (X % Y < 18446744073709551616 ^ L ∧ X / Y < 18446744073709551616 ^ L) := Lib.hid (by
    have a1 : 18446744073709551616 ^ lx ≤ 18446744073709551616 ^ L := Nat.pow_le_pow_right (by omega) HN.out.1
    have a2 := HX.out.2.2.2.1
    have a3 : X % Y ≤ X := Nat.mod_le _ _
    have a4 : X / Y ≤ X := Nat.div_le_self _ _
    exact ⟨by omega, by omega⟩)
  clear H4 HOA HO3 HR3 HV HB2 hc HX hsz3 hlk hlk1 hk3b hg3
  go_wp2_with fail
  generalize w4.heap.size = gq at *
  go_loopw [13] (fun jv wr => ∃ (k : Nat) (z : Int), k ≤ m ∧ jv = .int .i64 z ∧ z + 1 = (k : Int) ∧ Hid (LongW w wr (X * 2 ^ up) (Y * 2 ^ up) (lx + 1) m n k gu gq bv ov cv vs)) (fun jv _ => (intOf jv + 1).toNat)
  case atStart => exact ⟨m, _, Nat.le_refl _, rfl, by omega, H0⟩
  case round =>
    clear H0 hmk
    obtain ⟨k, z, hk, rfl, hz, hh⟩ := hrel
    rcases k with _ | k
    · obtain rfl : z = -1 := by omega
      obtain ⟨os, qs, hst, hbu, hbq, hmv, hbl⟩ := hh.out
      have hms := hbu.mag hst.w (show os.length ≤ cu by rw [hst.lo]; omega) (by omega)
      rw [hst.lo] at hms
      have hmq := hbq.mag hst.wq (by rw [hst.lq]; omega)
      rw [hst.lq] at hmq
      have hend := long_end hst rfl
      have HE := Lib.hid (And.intro hend (And.intro hmq (And.intro hbl (And.intro hst.lo hst.lq))))
      have HM1 := Lib.hid (norm_any _ _ _ hms)
      have HUV : Hid (X % Y < 18446744073709551616 ^ L ∧ X / Y < 18446744073709551616 ^ L) := HXY
      clear hbu hbq hmv hbl hms hmq hend hst hh hz
      go_wp2_with fail
      refine HM1.out.mono ?_
      rintro e w2' ⟨A2, k2, c2, -, rfl, hm2, rfl⟩
      rw [HE.out.2.2.2.1] at hm2
      have HRT := Lib.hid (right_anyN _ _ up (lx + 1) _ hm2 (by omega) (by omega))
      rw [HE.out.1.2] at HRT
      clear hm2 HM1
      go_wp2_with fail
      refine HRT.out.mono ?_
      rintro e w5 ⟨A5, k5, c5, lost, rfl, hm5, hb5, hnw5⟩
      have HNW := Lib.hid (hnw5.back HE.out.2.2.1.size)
      have H5 := Lib.hid (And.intro (hm5.less HUV.out.1) (And.intro (HE.out.2.1.below hb5) (onto HE.out.2.2.1 hb5)))
      clear hm5 hb5 HRT hnw5
      have HM6 := Lib.hid (norm_any _ _ _ H5.out.2.1)
      rw [HE.out.2.2.2.2, HE.out.1.1] at HM6
      go_wp2_with fail
      refine HM6.out.mono ?_
      rintro e w6 ⟨A6, k6, c6, -, rfl, hm6, rfl⟩
      have H6 := Lib.hid (hm6.less HUV.out.2)
      clear hm6 HM6
      go_wp2_with fail
      go_ret2
      exact ⟨A6, k6, c6, A5, k5, c5, rfl, H6.out, H5.out.1, H5.out.2.2, HNW.out⟩
    · obtain rfl : z = (k : Int) := by omega
      obtain ⟨os, qs, hst, hkn, hbq, hbl⟩ := hh.out.kn HVV.out.1 hyn (by omega) (by have := HH.out; omega) HVV.out.2.1 (by rw [← HVV.out.1]; exact HVV.out.2.2) (by omega)
      have hne : bv ≠ gu := by have := HG.out; omega
      have hne2 : gq ≠ gu := by have := HG.out.2.2.1; omega
      have hne3 : bv ≠ gq := by have := HG.out; omega
      have HST := Lib.hid (step_any gu k n (cu - k) os vs bv ov cv wr hkn hne)
      rw [HVV.out.1, hst.lo] at HST
      obtain ⟨q, hq⟩ : ∃ q, val os / (18446744073709551616 ^ k * (Y * 2 ^ up)) = q := ⟨_, rfl⟩
      rw [hq] at HST
      have HS := Lib.hid (And.intro hst (And.intro hkn.mag (And.intro hbq (And.intro hbl (And.intro hq (And.intro hne (And.intro hne2 hne3)))))))
      clear hz hst hkn hbq hbl hq hne hne2 hne3 hh
      have k0 : (0 : Int) ≤ (k : Int) := by omega
      have k1 : (k : Int) < (m : Int) := by omega
      go_wp2_with fail
      rw [show k + n + 1 - k = n + 1 by omega]
      refine HST.out.mono ?_
      rintro e w9 ⟨rfl, os', hkw, ho⟩
      have hbq9 := HS.out.2.2.1.kept hkw.kept HS.out.2.2.2.2.2.2.1
      have hfr := hbq9.frozen k
      have hco := hbq9.cell (j := k) (by rw [HS.out.1.lq]; omega)
      have HNX := Lib.hid (LongW.next (z := (q : Int)) HS.out.1 HS.out.2.2.1 HS.out.2.1 HS.out.2.2.2.1 (by omega) HYU.out HS.out.2.2.2.2.1.symm hkw ho HG.out.2.1 HGQ.out HS.out.2.2.2.2.2.2.1 HS.out.2.2.2.2.2.1 HS.out.2.2.2.2.2.2.2 rfl).1
      obtain ⟨q9, hq9⟩ : ∃ q9, qs.getD k 0 = q9 := ⟨_, rfl⟩
      rw [hq9] at hco
      clear hkw ho hbq9 hq9 HST
      go_wp2_with fail
      go_roundw
      case rel => exact ⟨k, (k : Int) - 1, by omega, rfl, by omega, HNX⟩
      case measure => simp [intOf]


/-- quotient: the divisor above 0 and not above the dividend -/
theorem quotient_new (u v : Value) (X Y L : Nat) (w : World) (hu : MagN w u X L) (hv : MagN w v Y L) (hY : 0 < Y) (hXY : Y ≤ X) (hL : L ≤ 268435456) (hL1 : 1 ≤ L) :
    Calls Tryz.prog 106 #[u, v] w (Num2N w (X / Y) (X % Y) L L) := by
  by_cases h2 : Y < 18446744073709551616
  · exact (quotient_oneN u v X Y L w hu (hv.less (by rw [Nat.pow_one]; exact h2)) hY (by omega) hL1 hXY).mono (Num2N.more (Nat.le_refl _) hL1)
  · exact quotient_longN u v X Y L w hu hv (by omega) hXY hL
end Go.Proofs.YtgccfdfbnhldbaaGreatDoor.Nb
