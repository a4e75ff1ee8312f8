/- SN6 HB3 HD5 HD6 HD7 HD8 in one text. -/
import Derived.Test.YtgccfdfbnhldbaaGreatDoorP26
import Derived.Test.YtgccfdfbnhldbaaGreatDoorP18
import Derived.Test.YtgccfdfbnhldbaaGreatDoorP27
import Derived.Test.YtgccfdfbnhldbaaGreatDoorP29
import Derived.Test.YtgccfdfbnhldbaaGreatDoorP13
import Derived.Laws.FloatArith
import Derived.Test.YtgccfdfbnhldbaaGreatDoorP24
import Derived.Test.YtgccfdfbnhldbaaGreatDoorP25

namespace Go.Proofs.YtgccfdfbnhldbaaGreatDoor.Nb
open Go Nx

theorem revDig_ge {n d : Nat} (h : 10 ^ (n - 1) ≤ d) (hd : d < 10 ^ 18) : n ≤ (revDig d).length := by
  have h1 := revDig_dig 18 d hd
  have h2 := decN_lt _ h1.1
  rw [h1.2, List.length_reverse] at h2
  rcases Nat.lt_or_ge (revDig d).length n with c | c
  · have : 10 ^ (revDig d).length ≤ 10 ^ (n - 1) := Nat.pow_le_pow_right (by omega) (by omega)
    omega
  · exact c
/-- the digits that stand in Short's text, the point left out -/
def shortD (d0 : UInt8) (ds : List UInt8) : List UInt8 := d0 :: Lib.trimRightB ds 48
theorem shortD_len {X p q n d : Nat} {E : Int} {d0 : UInt8} {ds : List UInt8} (h : ShortSays X p q E n d d0 ds) : (shortD d0 ds).length = n := by
  have hf := h.few
  obtain ⟨h1, h2, d0', ds', e, hl, hl17⟩ := few_digits h.q0 hf
  rw [h.dig] at e
  injection e with e1 e2
  subst e1 e2
  have hrev : revDig d = ds.reverse ++ [d0] := by
    have := congrArg List.reverse h.dig
    rw [List.reverse_reverse, List.reverse_cons] at this
    exact this
  have hpos : revDig d = UInt8.ofNat (48 + d % 10) :: revDig (d / 10) := revDig_pos (by omega)
  unfold shortD
  rw [List.length_cons]
  rcases Nat.lt_or_ge n 2 with c | c
  · have n1 : n = 1 := by have := hf.n0; omega
    subst n1
    have hlo := low_in (n := 1) h.q0 hf.dec rfl (by omega)
    have hd0 := hf.d0
    rw [show (10 : Nat) ^ 1 = 10 by decide] at hlo
    have hd10 : d ≤ 10 := by omega
    rcases Nat.lt_or_ge d 10 with c2 | c2
    · rw [hpos, show d / 10 = 0 by omega, revDig_zero] at hrev
      have hz : ds = [] := by
        cases ds with
        | nil => rfl
        | cons a l => have := congrArg List.length hrev; simp at this
      subst hz
      rfl
    · obtain rfl : d = 10 := by omega
      rw [hpos, show 10 / 10 = 1 by decide, revDig_pos (by omega), show 1 / 10 = 0 by decide, revDig_zero] at hrev
      have hz : ds = [48] := by
        cases ds with
        | nil => have := congrArg List.length hrev; simp at this
        | cons a l =>
          cases l with
          | nil =>
            simp at hrev
            rw [hrev.1]
          | cons b m => have := congrArg List.length hrev; simp at this
      subst hz
      rfl
  · have hlast := few_last hf c
    have hlen := few_len h.q0 hf c
    have hle : (revDig d).length ≤ n := revDig_len_le n d hlen.2
    have hge := revDig_ge hlen.1 (by omega)
    have hds : ds ≠ [] := by
      intro hz
      subst hz
      have := congrArg List.length hrev
      simp at this
      omega
    have htr : Lib.trimRightB ds 48 = ds := by
      unfold Lib.trimRightB
      cases hr : ds.reverse with
      | nil => exact absurd (List.reverse_eq_nil_iff.1 hr) hds
      | cons a l =>
        rw [hr, hpos] at hrev
        injection hrev with e1 e2
        have ha : ¬ (a == 48) = true := by
          rw [← e1]
          intro e
          have e3 : UInt8.ofNat (48 + d % 10) = 48 := by simpa using e
          have e4 : (UInt8.ofNat (48 + d % 10)).toNat = 48 + d % 10 := dig_ofNat (Nat.mod_lt _ (by omega))
          rw [e3] at e4
          have e5 : (48 : UInt8).toNat = 48 := rfl
          omega
        rw [List.dropWhile_cons, if_neg ha, ← hr, List.reverse_reverse]
    rw [htr]
    omega
end Go.Proofs.YtgccfdfbnhldbaaGreatDoor.Nb

namespace Go.Proofs.YtgccfdfbnhldbaaGreatDoor.Nb
open Go Nx

/-- what a text says, when its digits are rounded to X -/
theorem says_of {t : DTxt} {X f : Nat} {c : Int} (hl : ¬ t.low) (hh : ¬ t.high) (hX : X < 9218868437227405312) (hr : Hits (decN t.digs) t.exp X) (hs : t.Says f c) : c = 0 ∧ f = X + (if t.neg = true then 9223372036854775808 else 0) := by
  have hu : ∀ Y, t.Amt Y → Y = X := by
    intro Y hY
    rcases hY with ⟨h, -⟩ | ⟨-, -, P, Q, hQ, he, h⟩
    · exact absurd h hl
    · unfold Hits at hr
      exact rnd_eq h hr (by omega) hQ (Nat.pow_pos (by omega)) he
  rcases hs with ⟨-, -, h | ⟨Y, hY, hi⟩⟩ | ⟨rfl, Y, hY, -, hf⟩
  · exact absurd h hh
  · rw [hu Y hY] at hi; omega
  · rw [hu Y hY] at hf
    exact ⟨rfl, hf⟩

/-- the range of a text's amount, by its first digit -/
theorem mid_of {t : DTxt} (hok : t.Ok) {p q : Nat} (hv : p * 10 ^ (-t.exp).toNat = decN t.digs * 10 ^ t.exp.toNat * q) (h1 : q ≤ p * 10 ^ 400) (h2 : p < q * 10 ^ 400) (hq : 0 < q) : ¬ t.low ∧ ¬ t.high := by
  obtain ⟨k0, k1, k2⟩ := key_range hok
  have hlo : t.low ↔ (t.key.length = 0 ∨ t.exp + (t.key.length : Int) - 1 < -400) := Iff.rfl
  have hhi : t.high ↔ (¬ t.low ∧ 400 < t.exp + (t.key.length : Int) - 1) := Iff.rfl
  generalize t.key.length = n at *
  generalize decN t.digs = N at *
  generalize t.exp = E at *
  have hN0 : N ≠ 0 := by
    rintro rfl
    have h3 : p ≠ 0 := by rintro rfl; omega
    have := Nat.mul_pos (Nat.pos_of_ne_zero h3) (Nat.pow_pos (n := (-E).toNat) (show 0 < 10 by omega))
    omega
  have hn : n ≠ 0 := fun h => hN0 (k0 h)
  have hA0 : AtM p q (-400) := by
    unfold AtM
    rw [show (-400 : Int).toNat = 0 from rfl, show (- -400 : Int).toNat = 400 from rfl, Nat.pow_zero, Nat.one_mul]
    exact h1
  have hA1 : ¬ AtM p q 400 := atm_top (n := 400) rfl rfl h2
  have b1 : AtM p q (E + n - 1) := (atm_shift (k := E) (by omega)).2 (by
    rw [show (E + n - 1 - E).toNat = n - 1 by omega, hv, Nat.mul_assoc N, Nat.mul_comm q]
    exact Nat.mul_le_mul_right _ (k1 (by omega)))
  have b2 : ¬ AtM p q (E + n) := fun h => by
    have h3 := (atm_shift (k := E) (by omega)).1 h
    rw [show (E + n - E).toNat = n by omega, hv, Nat.mul_assoc N, Nat.mul_comm q] at h3
    have h4 := Nat.le_of_mul_le_mul_right h3 (Nat.mul_pos (Nat.pow_pos (by omega)) hq)
    omega
  have c1 : -400 ≤ E + n - 1 := by
    rcases Int.lt_or_le (E + n - 1) (-400) with z | z
    · exact absurd (hA0.le (by omega)) b2
    · exact z
  have c2 : E + n - 1 < 400 := by
    rcases Int.lt_or_le (E + n - 1) 400 with z | z
    · exact z
    · exact absurd (b1.le z) hA1
  constructor
  · rw [hlo]; omega
  · rw [hhi]; omega
end Go.Proofs.YtgccfdfbnhldbaaGreatDoor.Nb

namespace Go.Proofs.YtgccfdfbnhldbaaGreatDoor.Nb
open Go Go.RowKit

theorem conv_inf (W : World) : (convert 25 27 (.float .f64 9218868437227405312)).run Tryz.prog W = .ok (.float .f32 2139095040) W :=
  run_convert_float_float W 25 27 .f64 .f32 9218868437227405312 2139095040 (by kernel_rfl) (by kernel_rfl) (by decide +kernel)
def finS (X : Nat) : Nat := if X < 2139095040 then X else 2139095040

theorem and_low32 {a : Nat} (k : Nat) (h : a < 4294967296) (hk : k ≤ 31) : bits .and .u32 (a : Int) ((2 ^ k - 1 : Nat) : Int) = ((a % 2 ^ k : Nat) : Int) := by
  have hb : 2 ^ k - 1 < 4294967296 := by
    have := Nat.pow_le_pow_right (n := 2) (by omega) hk
    have e : (2 : Nat) ^ 31 = 2147483648 := by decide
    omega
  rw [u32_and _ _ (by omega) (by omega) (by omega) (by omega), Int.toNat_natCast, Int.toNat_natCast, Nat.and_two_pow_sub_one_eq_mod]

theorem or_low32 {o c s : Nat} (ho : o < 2 ^ s) (hc : 2 ^ s * c + 2 ^ s ≤ 4294967296) : bits .or .u32 ((2 ^ s * c : Nat) : Int) (o : Int) = ((2 ^ s * c + o : Nat) : Int) := by
  rw [u32_or_nat _ _ (by omega) (by omega)]
  rw [Nat.mul_comm, show c * 2 ^ s = c <<< s by rw [Nat.shiftLeft_eq], ← Nat.shiftLeft_add_eq_or_of_lt ho]

theorem row_two32 (k : Nat) : k * 2 ^ (24 - 1) + 16777216 = (k + 2) * 8388608 := (Nat.add_mul k 2 8388608).symm

theorem row_one32 (k r : Nat) : k * 2 ^ (24 - 1) + (8388608 + r) = (k + 1) * 8388608 + r := by
  rw [Nat.add_mul, Nat.one_mul, Nat.add_assoc]

theorem fin_over32 {X : Nat} (h : 255 * 8388608 ≤ X) : finS X = 2139095040 := by
  unfold finS
  exact if_neg (Nat.not_lt.2 h)

theorem fin_in32 {X : Nat} (h : X < 255 * 8388608) : finS X = X := by
  unfold finS
  exact if_pos h


set_option maxRecDepth 8000 in
set_option maxHeartbeats 4000000 in
theorem float32_any (x p q L : Nat) (w : World) (hx : RatL w x false p q L) (hL : L ≤ 100000) (hL1 : 1 ≤ L) :
    Calls Tryz.prog 50 #[.pointer (some ⟨x, 0, none⟩)] w fun e w' => ∃ (X : Nat) (ex : Bool), e = .returned (.tuple #[.float .f32 (finS X), .bool ex]) ∧ Rnd 24 149 p q X ∧ Below w.heap.size w w' := by
  have HN : Hid (Calls Tryz.prog 84 #[.pointer (some ⟨x, 0, none⟩), .int .i64 24, .int .i64 (-149)] w fun e w' => ∃ (k m : Nat) (ex : Bool), e = .returned (.tuple #[.int .u64 (m : Int), .int .i64 ((k : Int) - ((149 : Nat) : Int)), .bool ex]) ∧ RndAt 24 149 p q k m ∧ Below w.heap.size w w') := Lib.hid (nearest_any 24 149 x p q L false w hx (by omega) (by omega) (by omega) hL hL1)
  obtain ⟨A1, k1, c1, A2, k2, c2, hb, e0, -, -, m1, -, q0, -⟩ := hx.open
  have HP := Lib.hid (And.intro (mag_lt m1) (And.intro q0 hL))
  have HI := Lib.hid (fun W => inf_one W)
  have hci := conv_inf
  clear hx m1 q0 hL hL1
  go_enter Tryz.func50, Tryz.ntmps50
  go_wp2_with fail
  refine HN.out.mono ?_
  rintro e w1 ⟨k, m, ex, rfl, hr, hb1⟩
  have y0 := (hb1.cell (p := ⟨x, 0, none⟩) (by exact hb)).trans e0
  have HB := Lib.hid hb1
  have HR := Lib.hid hr.rnd
  have hD : 0 < q * 2 ^ k := Nat.mul_pos HP.out.2.1 (Nat.pow_pos (by omega))
  have hm53 : m ≤ 16777216 := by
    have := near_le hr.2.2 hr.2.1
    have e : (2 : Nat) ^ 24 = 16777216 := by decide
    omega
  have hk52 : k ≠ 0 → 8388608 ≤ m := fun hk => by
    have := near_ge hr.2.2 hD (hr.1.resolve_left hk)
    have e : (2 : Nat) ^ (24 - 1) = 8388608 := by decide
    omega
  have hkl : k ≤ 64 * L + 149 := by
    rcases hr.1 with z | z
    · omega
    · have a1 : 2 ^ k ≤ 2 ^ (24 - 1) * (q * 2 ^ k) := by
        have a1 : 1 * 2 ^ k ≤ q * 2 ^ k := Nat.mul_le_mul_right _ HP.out.2.1
        have a2 : 1 * (q * 2 ^ k) ≤ 2 ^ (24 - 1) * (q * 2 ^ k) := Nat.mul_le_mul_right _ (Nat.pow_pos (by omega))
        omega
      have a2' : ∀ T : Nat, p * 2 ^ T < 2 ^ (64 * L + T) := fun T => by
        rw [Nat.pow_add]
        exact Nat.mul_lt_mul_of_pos_right (by rw [← pow64]; exact HP.out.1) (Nat.two_pow_pos T)
      have a2 := a2' 149
      have a3 : 2 ^ k < 2 ^ (64 * L + 149) := Nat.lt_of_le_of_lt a1 (Nat.lt_of_le_of_lt z a2)
      have := (Nat.pow_lt_pow_iff_right (a := 2) (by omega)).1 a3
      omega
  have hk7 : k ≤ 10000000 := by have := HP.out.2.2; omega
  obtain ⟨E, hE⟩ : ∃ E : Int, (k : Int) - ((149 : Nat) : Int) = E := ⟨_, rfl⟩
  rw [hE]
  have HE := Lib.hid hE
  have hE0 : -149 ≤ E := by omega
  have hE1 : E ≤ 10000000 := by omega
  have HK := Lib.hid hk52
  clear hr hb1 hD hkl hE HN hk52
  by_cases c53 : m = 16777216
  · have HC := Lib.hid c53
    obtain ⟨M, hM⟩ : ∃ M : Nat, M = 8388608 := ⟨_, rfl⟩
    have hs53 : (m : Int) / 16777216 = 1 := by omega
    have hdv : (m : Int) / 2 = (M : Int) := by omega
    have hdw : (M : Int) / 8388608 = 1 := by omega
    have HLN := Lib.hid (fun W => len_bits M 24 W (by rw [hM]; decide) (by rw [hM]; decide))
    have hand : bits .and .u32 (M : Int) 8388607 = 0 := by rw [hM]; decide
    have hMl : M ≤ 8388608 := by omega
    clear hM c53
    obtain ⟨E2, hE2⟩ : ∃ E2, E + 1 = E2 := ⟨_, rfl⟩
    have hw1 : wrap64 (E + 1) = E2 := by unfold wrap64; omega
    have hE20 : -149 ≤ E2 := by omega
    have hE21 : E2 ≤ 10000001 := by omega
    have HE2 : Hid (E2 = (k : Int) - 148) := Lib.hid (by have := HE.out; omega)
    clear hE0 hE1 hE2
    by_cases hov : 253 ≤ k
    · have hgt : (128 : Int) < 24 + E2 := by have := HE2.out; omega
      have HF : Hid (finS (k * 2 ^ (24 - 1) + m) = 2139095040) := Lib.hid (by
        rw [HC.out, row_two32]
        exact fin_over32 (Nat.mul_le_mul_right _ (by omega)))
      go_wp2_with fail
      refine (HLN.out _).mono ?_
      rintro e w2 ⟨rfl, hw⟩
      obtain rfl := hw.symm
      go_wp2_with fail
      refine (HI.out _).mono ?_
      rintro e w2 ⟨rfl, rfl⟩
      go_wp2_with fail
      go_ret2
      exact ⟨_, false, congrArg (fun z : Nat => Ending.returned (.tuple #[.float .f32 z, .bool false])) HF.out.symm, HR.out, HB.out⟩
    · have hgt : ¬ (128 : Int) < 24 + E2 := by have := HE2.out; omega
      obtain ⟨F, hF⟩ : ∃ F : Nat, (F : Int) = E2 + 150 := ⟨(E2 + 150).toNat, by omega⟩
      have hFk : F = k + 2 := by have := HE2.out; omega
      have hFl : F < 255 := by omega
      have hsh : IntKind.u32.wrap ((E2 + 150) * 8388608) = ((F * 8388608 : Nat) : Int) := by rw [← hF, IntKind.wrap_u32]; omega
      obtain ⟨Y, hY⟩ : ∃ Y, F * 8388608 = Y := ⟨_, rfl⟩
      have hYl : Y < 4294967296 := by rw [← hY]; exact Nat.lt_of_lt_of_le (Nat.mul_lt_mul_of_pos_right hFl (by omega)) (by omega)
      rw [hY] at hsh
      have hor : bits .or .u32 (Y : Int) 0 = (Y : Int) := by
        rw [show (0 : Int) = ((0 : Nat) : Int) from rfl, u32_or_nat _ _ (by omega) (by omega), Nat.or_zero]
      have hfb := run_frombits32 (Y : Int)
      rw [Int.toNat_natCast] at hfb
      have HY : Hid (finS (k * 2 ^ (24 - 1) + m) = Y) := Lib.hid (by
        rw [HC.out, row_two32, ← hFk, fin_in32 (Nat.mul_lt_mul_of_pos_right hFl (by omega)), hY])
      clear hF hFk hY hYl hFl
      go_wp2_with fail
      refine (HLN.out _).mono ?_
      rintro e w2 ⟨rfl, hw⟩
      obtain rfl := hw.symm
      go_wp2_with fail
      go_ret2
      exact ⟨_, ex, congrArg (fun z : Nat => Ending.returned (.tuple #[.float .f32 z, .bool ex])) HY.out.symm, HR.out, HB.out⟩
  · have hs53 : (m : Int) / 16777216 = 0 := by omega
    by_cases c52 : 8388608 ≤ m
    · have hs52 : (m : Int) / 8388608 = 1 := by omega
      have HLN := Lib.hid (fun W => len_bits m 24 W (by omega) (bitLen_of (by omega) (by omega) (by omega) (by omega)))
      obtain ⟨r, hr⟩ : ∃ r, m = 8388608 + r := ⟨m - 8388608, by omega⟩
      have hand : bits .and .u32 (m : Int) 8388607 = (r : Int) := by
        have h := and_low32 (a := m) 23 (by omega) (by omega)
        rw [show ((2 ^ 23 - 1 : Nat) : Int) = 8388607 from rfl] at h
        rw [h]
        have : m % 2 ^ 23 = r := by omega
        rw [this]
      by_cases hov : 254 ≤ k
      · have hgt : (128 : Int) < 24 + E := by have := HE.out; omega
        have HF : Hid (finS (k * 2 ^ (24 - 1) + m) = 2139095040) := Lib.hid (by
          rw [hr, row_one32]
          exact fin_over32 (Nat.le_trans (Nat.mul_le_mul_right _ (show 255 ≤ k + 1 by omega)) (Nat.le_add_right _ _)))
        clear hr
        go_wp2_with fail
        refine (HLN.out _).mono ?_
        rintro e w2 ⟨rfl, hw⟩
        obtain rfl := hw.symm
        go_wp2_with fail
        refine (HI.out _).mono ?_
        rintro e w2 ⟨rfl, rfl⟩
        go_wp2_with fail
        go_ret2
        exact ⟨_, false, congrArg (fun z : Nat => Ending.returned (.tuple #[.float .f32 z, .bool false])) HF.out.symm, HR.out, HB.out⟩
      · have hgt : ¬ (128 : Int) < 24 + E := by have := HE.out; omega
        obtain ⟨F, hF⟩ : ∃ F : Nat, (F : Int) = E + 150 := ⟨(E + 150).toNat, by omega⟩
        have hFk : F = k + 1 := by have := HE.out; omega
        have hFl : F < 255 := by omega
        have hrl : r < 8388608 := by omega
        have hsh : IntKind.u32.wrap ((E + 150) * 8388608) = ((8388608 * F : Nat) : Int) := by rw [← hF, IntKind.wrap_u32]; omega
        have hor := or_low32 (o := r) (c := F) (s := 23) (by omega) (by omega)
        rw [show (2 : Nat) ^ 23 = 8388608 by decide] at hor
        obtain ⟨Y, hY⟩ : ∃ Y, 8388608 * F = Y := ⟨_, rfl⟩
        rw [hY] at hsh hor
        obtain ⟨Z, hZ⟩ : ∃ Z, Y + r = Z := ⟨_, rfl⟩
        rw [hZ] at hor
        have hfb := run_frombits32 (Z : Int)
        rw [Int.toNat_natCast] at hfb
        have HY : Hid (finS (k * 2 ^ (24 - 1) + m) = Z) := Lib.hid (by
          have hlt : (k + 1) * 8388608 + r < 255 * 8388608 := by
            have h1 : (k + 1 + 1) * 8388608 ≤ 255 * 8388608 := Nat.mul_le_mul_right _ (by omega)
            rw [Nat.add_mul (k + 1), Nat.one_mul] at h1
            exact Nat.lt_of_lt_of_le (Nat.add_lt_add_left hrl _) h1
          rw [hr, row_one32, fin_in32 hlt, ← hZ, ← hY, hFk, Nat.mul_comm 8388608])
        clear hF hFk hY hFl hr hZ hrl
        go_wp2_with fail
        refine (HLN.out _).mono ?_
        rintro e w2 ⟨rfl, hw⟩
        obtain rfl := hw.symm
        go_wp2_with fail
        go_ret2
        exact ⟨_, ex, congrArg (fun z : Nat => Ending.returned (.tuple #[.float .f32 z, .bool ex])) HY.out.symm, HR.out, HB.out⟩
    · have hs52 : (m : Int) / 8388608 = 0 := by omega
      have hk0 : k = 0 := by
        rcases Nat.eq_zero_or_pos k with z | z
        · exact z
        · exact absurd (HK.out (by omega)) c52
      obtain ⟨l, hl⟩ : ∃ l, Lib.bitLen m = l := ⟨_, rfl⟩
      have hll : l ≤ 23 := by rw [← hl]; exact bitLen_small (by omega) (by omega)
      have HLN := Lib.hid (fun W => len_bits m l W (by omega) hl)
      have hgt : ¬ (128 : Int) < (l : Int) + E := by have := HE.out; omega
      have hfb := run_frombits32 (m : Int)
      rw [Int.toNat_natCast] at hfb
      have HY : Hid (finS (k * 2 ^ (24 - 1) + m) = m) := Lib.hid (by
        rw [hk0, Nat.zero_mul, Nat.zero_add]
        exact fin_in32 (by omega))
      clear hl hk0
      go_wp2_with fail
      refine (HLN.out _).mono ?_
      rintro e w2 ⟨rfl, hw⟩
      obtain rfl := hw.symm
      go_wp2_with fail
      go_ret2
      exact ⟨_, ex, congrArg (fun z : Nat => Ending.returned (.tuple #[.float .f32 z, .bool ex])) HY.out.symm, HR.out, HB.out⟩

set_option maxRecDepth 8000 in
set_option maxHeartbeats 1000000 in
theorem nearest_nil32 (E : Int) (x : Nat) (w : World) (hx : RatO w x) :
    Calls Tryz.prog 84 #[.pointer (some ⟨x, 0, none⟩), .int .i64 24, .int .i64 E] w fun e w' => e = .returned (.tuple #[.int .u64 0, .int .i64 E, .bool true]) ∧ Below w.heap.size w w' := by
  have HS := Lib.hid (fun (W : World) (hW : Below w.heap.size w W) => hx.below hW)
  have hcur : Below w.heap.size w w.drew := (Below.refl _ _).drew
  clear hx
  go_enter Tryz.func84, Tryz.ntmps84
  go_wp2_with fail
  go_region_held3 (fun w' => w'.cell? ⟨x, 1, none⟩ = some (.slice none 0 0)) (first | exact (HS.out _ hcur3).c1 | exact (HS.out _ hcur).c1) ((go_at_call 139; refine (under_nil x _ (HS.out _ hcur).c3).mono ?_; rintro e w3 ⟨⟨v, rfl⟩, b3⟩; have hcur3 : Below w.heap.size w w3 := back_of' hcur b3))
  all_goals go_wp2_with fail
  all_goals go_ret3
  all_goals exact ⟨rfl, hcur3⟩

set_option maxRecDepth 8000 in
set_option maxHeartbeats 1000000 in
theorem float32_nil (x : Nat) (w : World) (hx : RatO w x) :
    Calls Tryz.prog 50 #[.pointer (some ⟨x, 0, none⟩)] w fun e w' => e = .returned (.tuple #[.float .f32 0, .bool true]) ∧ Below w.heap.size w w' := by
  have HN := Lib.hid (nearest_nil32 (-149) x w hx)
  have HX := Lib.hid (fun (W : World) (hW : Below w.heap.size w W) => hx.below hW)
  have HLN := Lib.hid (fun W => len_bits 0 0 W (by omega) (by decide))
  have hfb := run_frombits32 0
  clear hx
  go_enter Tryz.func50, Tryz.ntmps50
  go_wp2_with fail
  refine HN.out.mono ?_
  rintro e w1 ⟨rfl, hb1⟩
  have y0 := (HX.out _ hb1).c0
  have HB := Lib.hid hb1
  clear hb1 HX HN
  go_wp2_with fail
  refine (HLN.out _).mono ?_
  rintro e w2 ⟨rfl, hw⟩
  obtain rfl := hw.symm
  go_wp2_with fail
  go_ret2
  exact ⟨rfl, HB.out⟩
end Go.Proofs.YtgccfdfbnhldbaaGreatDoor.Nb

namespace Go.Proofs.YtgccfdfbnhldbaaGreatDoor.Nb
open Go Nx

/-- the double's bits of a single's -/
def wideB (b : Nat) : Nat := wideN (b % 2147483648) + (if 2147483648 ≤ b then 9223372036854775808 else 0)
theorem read_single {b : Nat} (hb : b < 4294967296) (h : b % 2147483648 < 2139095040) : Ieee.single.read b = .number (decide (2147483648 ≤ b)) (mag32 (b % 2147483648)) ((plc32 (b % 2147483648) : Int) - 149) := by
  have e1 : Ieee.single.signWeight = 2147483648 := by decide
  have e2 : Ieee.single.binade = 8388608 := by decide
  have e3 : Ieee.single.infRung = 2139095040 := by decide
  have e4 : Ieee.single.leastPlace = -149 := by decide
  have hg : (b / 2147483648 % 2 == 1) = decide (2147483648 ≤ b) := by
    by_cases c : 2147483648 ≤ b
    · rw [show b / 2147483648 % 2 = 1 by omega, decide_eq_true c]; rfl
    · rw [show b / 2147483648 % 2 = 0 by omega, decide_eq_false c]; rfl
  unfold Ieee.Format.read mag32 plc32
  simp only [e1, e2, e3, e4, hg]
  by_cases c : b % 2147483648 < 8388608
  · rw [if_pos c, if_pos c]
    congr 1 <;> omega
  · rw [if_neg c, if_neg c, if_pos h]
    congr 1 <;> omega
theorem cut_none (neg : Bool) (n : Nat) : Ieee.Toward.even.cut neg n 0 = n := by
  unfold Ieee.Toward.cut
  simp
  omega
theorem nearest_wide (neg : Bool) {X : Nat} (h : X < 2139095040) : Ieee.double.nearest neg (mag32 X) ((plc32 X : Int) - 149) = Ieee.double.word neg (wideN X) := by
  have e2 : Ieee.double.binade = 4503599627370496 := by decide
  have e3 : Ieee.double.infRung = 9218868437227405312 := by decide
  have e4 : Ieee.double.leastPlace = -1074 := by decide
  have e5 : Ieee.double.fractionBits = 52 := by decide
  unfold Ieee.Format.nearest
  by_cases h0 : X = 0
  · subst h0
    rw [if_pos (by decide)]
    rfl
  · obtain ⟨m0, m1⟩ := mag32_in h0
    obtain ⟨l1, -, -⟩ := log_of m0 m1
    have hw := wide_lt h
    have hwe : wideN X = (plc32 X + (mag32 X).log2 + 873) * 4503599627370496 + mag32 X * 2 ^ (52 - (mag32 X).log2) := by unfold wideN; rw [if_neg h0]
    rw [hwe] at hw ⊢
    rw [if_neg m0]
    simp only [e2, e3, e4, e5]
    generalize mag32 X = m at *
    generalize plc32 X = p at *
    generalize m.log2 = l at *
    have hmax : max ((p : Int) - 149 + (l : Int) - ((52 : Nat) : Int)) (-1074) = (p : Int) - 149 + (l : Int) - 52 := by omega
    rw [hmax]
    rw [show ((p : Int) - 149 - ((p : Int) - 149 + (l : Int) - 52)).toNat = 52 - l by omega, show ((p : Int) - 149 + (l : Int) - 52 - ((p : Int) - 149)).toNat = 0 by omega, show ((p : Int) - 149 + (l : Int) - 52 - -1074).toNat = p + l + 873 by omega, cut_none, Nat.shiftLeft_eq]
    rw [Nat.min_eq_left (Nat.le_of_lt hw)]
theorem word_dbl (neg : Bool) (r : Nat) : Ieee.double.word neg r = r + (if neg = true then 9223372036854775808 else 0) := by
  have e1 : Ieee.double.signWeight = 9223372036854775808 := by decide
  unfold Ieee.Format.word
  cases neg <;> simp [e1] <;> omega
theorem wide_fin {b : Nat} (hb : b < 4294967296) (h : b % 2147483648 < 2139095040) : floatToFloatBits .f32 b .f64 = some (wideB b) := by
  have hw := wide_lt h
  have e : FloatKind.f64.encode (.number (decide (2147483648 ≤ b)) (mag32 (b % 2147483648)) ((plc32 (b % 2147483648) : Int) - 149)) = wideB b := by
    show Ieee.double.nearest _ _ _ = _
    rw [nearest_wide _ h, word_dbl]
    unfold wideB
    by_cases c : 2147483648 ≤ b <;> simp [c]
  have e1 : FloatKind.f32.decode b = .number (decide (2147483648 ≤ b)) (mag32 (b % 2147483648)) ((plc32 (b % 2147483648) : Int) - 149) := read_single hb h
  have e2 : (FloatKind.f64.decode (wideB b)).isInfinity = false := by
    show (Ieee.double.read (wideB b)).isInfinity = false
    have hm : wideB b % 9223372036854775808 = wideN (b % 2147483648) := by unfold wideB; split <;> omega
    have s1 : Ieee.double.signWeight = 9223372036854775808 := by decide
    have s2 : Ieee.double.binade = 4503599627370496 := by decide
    have s3 : Ieee.double.infRung = 9218868437227405312 := by decide
    unfold Ieee.Format.read
    simp only [s1, s2, s3, hm]
    split
    · rfl
    · first | rfl | (rw [if_pos hw]; rfl)
  unfold floatToFloatBits
  rw [if_neg (by decide)]
  simp only [e1, e, e2]
  rfl
/-- the double of a single from 0 on, infinite ones too -/
def wideF (X : Nat) : Nat := if X < 2139095040 then wideN X else 9218868437227405312
theorem wide_fins (X : Nat) : floatToFloatBits .f32 (finS X) .f64 = some (wideF X) := by
  unfold finS wideF
  split
  · rename_i h
    rw [wide_fin (by omega) (by omega)]
    unfold wideB
    rw [Nat.mod_eq_of_lt (by omega), if_neg (by omega), Nat.add_zero]
  · decide +kernel
theorem wide_same {X Y : Nat} (hY : Y < 2139095040) : (FloatKind.f64.format.order (wideF X) (wideN Y) == some Ordering.eq) = decide (X = Y) := by
  have h1 := wide_lt hY
  have e : wideF X = finX (wideF X) := by
    unfold finX wideF
    split
    · rename_i h
      have := wide_lt h
      rw [if_pos this]
    · rfl
  rw [e, fin_same h1]
  apply decide_eq_decide.2
  unfold wideF
  split
  · exact ⟨wide_inj, fun h => congrArg wideN h⟩
  · constructor <;> intro h <;> omega
end Go.Proofs.YtgccfdfbnhldbaaGreatDoor.Nb

namespace Go.Proofs.YtgccfdfbnhldbaaGreatDoor.Nb
open Go Go.RowKit

theorem conv_up {a b : Nat} (W : World) (h : floatToFloatBits .f32 a .f64 = some b) : (convert 27 25 (.float .f32 a)).run Tryz.prog W = .ok (.float .f64 b) W :=
  run_convert_float_float W 27 25 .f32 .f64 a b (by kernel_rfl) (by kernel_rfl) h
set_option maxRecDepth 8000 in
set_option maxHeartbeats 2000000 in
theorem again32_any (z xv x0 x1 B P Q L : Nat) (w : World) (hx : RatL w z false P Q L) (hL : L ≤ 100000) (hL1 : 1 ≤ L) (hv : w.cell? ⟨xv, 0, none⟩ = some (.float .f32 x0)) (hb : xv < w.heap.size) (hcv : floatToFloatBits .f32 x0 .f64 = some x1)
    (HA : Hid (∀ W, Calls Tryz.prog 40 #[.float .f64 x1] W fun e w' => e = .returned (.float .f64 (wideN B)) ∧ w' = W)) (hQ : 0 < Q) (hB : B < 2139095040) :
    Calls Tryz.prog 52 #[.pointer (some ⟨z, 0, none⟩), .pointer (some ⟨xv, 0, none⟩)] w fun e w' => ∃ r : Bool, e = .returned (.bool r) ∧ (r = true ↔ Rnd 24 149 P Q B) ∧ Below w.heap.size w w' := by
  have HF := Lib.hid (float32_any z P Q L w hx hL hL1)
  have hc0 : ∀ W, (convert 27 25 (.float .f32 x0)).run Tryz.prog W = .ok (.float .f64 x1) W := fun W => conv_up W hcv
  clear hx
  go_enter Tryz.func52, Tryz.ntmps52
  go_wp2_with fail
  refine HF.out.mono ?_
  rintro e w1 ⟨X, ex, rfl, hX, b1⟩
  have c1 := (b1.cell (p := ⟨xv, 0, none⟩) (by exact hb)).trans hv
  have hc1 : ∀ W, (convert 27 25 (.float .f32 (finS X))).run Tryz.prog W = .ok (.float .f64 (wideF X)) W := fun W => conv_up W (wide_fins X)
  have HB1 := Lib.hid b1
  have HX := Lib.hid hX
  clear b1 hX
  go_wp2_with fail
  refine (HA.out w1).mono ?_
  rintro e w2 ⟨rfl, hw⟩
  obtain rfl := hw.symm
  go_wp2_with fail
  go_ret
  refine ⟨_, rfl, ?_, HB1.out⟩
  show (FloatKind.f64.format.order (wideF X) (wideN B) == some Ordering.eq) = true ↔ _
  rw [wide_same hB, decide_eq_true_eq]
  constructor
  · intro h; exact h ▸ HX.out
  · intro h; exact rnd_eq HX.out h (by omega) hQ hQ rfl

theorem read32_any' (b n r s P Q ca cu u xv L L' : Nat) (R : Prop) (w : World) (hn : IntN w b 0 false n) (h0 : 0 < n) (ha : w.cell? ⟨ca, 0, none⟩ = some (.func (.func 52) #[] #[.pointer (some ⟨xv, 0, none⟩)])) (hca : ca < w.heap.size)
    (hc : w.cell? ⟨cu, 0, none⟩ = some (.pointer (some ⟨u, 0, none⟩))) (hcu : cu < w.heap.size) (hu : RatL w u false r s L)
    (hP : n / Nat.gcd n s * (r / Nat.gcd r 1) = P) (hQ : 1 / Nat.gcd r 1 * (s / Nat.gcd n s) = Q) (hPl : P < 18446744073709551616 ^ L') (hQl : Q < 18446744073709551616 ^ L') (hQ0 : 0 < Q) (hL : L ≤ 16777216 ∧ 1 ≤ L)
    (HG : Hid (∀ (z : Nat) (W : World), Below w.heap.size w W → RatL W z false P Q L' → Calls Tryz.prog 52 #[.pointer (some ⟨z, 0, none⟩), .pointer (some ⟨xv, 0, none⟩)] W fun e w' => ∃ r : Bool, e = .returned (.bool r) ∧ (r = true ↔ R) ∧ Below W.heap.size W w')) :
    Calls Tryz.prog 91 #[.pointer (some ⟨b, 0, none⟩), .pointer (some ⟨ca, 0, none⟩), .pointer (some ⟨cu, 0, none⟩)] w fun e w' => ∃ r : Bool, e = .returned (.bool r) ∧ (r = true ↔ R) ∧ Below w.heap.size w w' := by
  have HS := Lib.hid (sign_pos b 0 n w hn h0)
  have HE := Lib.hid (And.intro hP (And.intro hQ (And.intro hPl (And.intro hQl (And.intro hQ0 hL)))))
  have HN := Lib.hid (And.intro hn hu)
  clear hn hu hP hQ hPl hQl hQ0 hL
  go_enter Tryz.func91, Tryz.ntmps91
  go_wp2_with fail
  have hcur : Below w.heap.size w w.drew := (Below.refl _ _).drew
  have HSC := Lib.hid (fun (V : World) (hV : Below w.heap.size w V) => (show V.cell? ⟨ca, 0, none⟩ = some (.func (.func 52) #[] #[.pointer (some ⟨xv, 0, none⟩)]) ∧ V.cell? ⟨cu, 0, none⟩ = some (.pointer (some ⟨u, 0, none⟩)) from ⟨(hV.cell (p := ⟨ca, 0, none⟩) (by exact hca)).trans ha, (hV.cell (p := ⟨cu, 0, none⟩) (by exact hcu)).trans hc⟩))
  have H1 : Hid (RSlot ((w.drew.alloc (.cells #[.bool false, .slice none 0 0, .bool false, .slice none 0 0] 136)).alloc (.cells #[.bool false, .slice none 0 0, .bool false, .slice none 0 0] 136)) (w.heap.size + 1)) := Lib.hid (by have := RSlot.new (w.drew.alloc (.cells #[.bool false, .slice none 0 0, .bool false, .slice none 0 0] 136)) 136; simpa using this)
  have H2 : Hid (RSlot ((w.drew.alloc (.cells #[.bool false, .slice none 0 0, .bool false, .slice none 0 0] 136)).alloc (.cells #[.bool false, .slice none 0 0, .bool false, .slice none 0 0] 136)) w.heap.size) := Lib.hid ((RSlot.new w.drew 136).below ((Below.refl _ _).alloc (Nat.le_refl _) _) (Nat.le_refl _))
  have H3 : Hid (RSlot (w.drew.alloc (.cells #[.bool false, .slice none 0 0, .bool false, .slice none 0 0] 136)) w.heap.size) := Lib.hid (RSlot.new w.drew 136)
  go_region_held3 (fun w' => w'.cell? ⟨ca, 0, none⟩ = some (.func (.func 52) #[] #[.pointer (some ⟨xv, 0, none⟩)]) ∧ w'.cell? ⟨cu, 0, none⟩ = some (.pointer (some ⟨u, 0, none⟩))) (first | exact HSC.out _ (by first | exact hcur7 | exact hcur6 | exact hcur3 | exact hcur3.alloc hcur3.size _ | exact hcur | exact hcur.alloc hcur.size _ | exact (hcur.alloc hcur.size _).alloc (hcur.alloc hcur.size _).size _)) (first | (go_at_call 92; refine (sign_pos b 0 n w.drew HN.out.1 h0).mono ?_; rintro e w2 ⟨rfl, rfl⟩) | (go_at_call 82; refine (setintLK _ b 0 n L _ (by first | exact H3.out | exact H1.out | exact H2.out) ((HN.out.1.any HE.out.2.2.2.2.2.2).below (by first | exact hcur.alloc hcur.size _ | exact (hcur.alloc hcur.size _).alloc (hcur.alloc hcur.size _).size _) (Nat.le_refl _)) (by have := HE.out.2.2.2.2.2; omega) HE.out.2.2.2.2.2.2 (by have := HN.out.1.1; omega)).mono ?_; rintro e w3 ⟨⟨rfl, r3, s3, b3⟩, k3⟩; have hcur3 : Below w.heap.size w w3 := (by first | exact (hcur.alloc hcur.size (.cells #[.bool false, .slice none 0 0, .bool false, .slice none 0 0] 136)).trans (b3.mono (by omega)) | exact ((hcur.alloc hcur.size (.cells #[.bool false, .slice none 0 0, .bool false, .slice none 0 0] 136)).alloc (hcur.alloc hcur.size (.cells #[.bool false, .slice none 0 0, .bool false, .slice none 0 0] 136)).size (.cells #[.bool false, .slice none 0 0, .bool false, .slice none 0 0] 136)).trans (b3.mono (by omega))); (first | (have HRa : Hid (RatL w3 w.heap.size false n 1 L) := Lib.hid r3) | (have HRb : Hid (RatL w3 (w.heap.size + 1) false n 1 L) := Lib.hid r3)); have HK := Lib.hid k3; clear r3 s3 b3 k3) | (go_at_call 81; refine (ratmulL _ _ u n 1 r s P Q L L' _ (by first | exact H2.out.kept HK.out (by omega) | exact H1.out.kept HK.out (by omega) | exact RSlot.new w3 136) (by first | exact HRa.out | exact HRb.out | exact HRa.out.below ((Below.refl _ _).alloc (Nat.le_refl _) _) (Nat.le_refl _)) (by first | exact HN.out.2.below hcur3 (Nat.le_refl _) | exact HN.out.2.below (hcur3.alloc hcur3.size _) (Nat.le_refl _)) HE.out.1 HE.out.2.1 HE.out.2.2.1 HE.out.2.2.2.1 HE.out.2.2.2.2.1 HE.out.2.2.2.2.2.1 HE.out.2.2.2.2.2.2).mono ?_; rintro e w6 ⟨rfl, r6, s6, b6⟩; have hcur6 : Below w.heap.size w w6 := (by have z3 := hcur3.size; first | exact hcur3.trans (b6.mono (by omega)) | exact (hcur3.alloc hcur3.size (.cells #[.bool false, .slice none 0 0, .bool false, .slice none 0 0] 136)).trans (b6.mono (by omega))); have HG6 := Lib.hid (HG.out _ _ hcur6 r6); clear r6 s6 b6) | (go_at_call 52; refine HG6.out.mono ?_; rintro e w7 ⟨rr, rfl, hrr, b7⟩; have hcur7 := back_of' hcur6 b7; clear b7))
  all_goals go_wp2_with fail
  all_goals go_ret
  all_goals exact ⟨rr, rfl, hrr, hcur7⟩
end Go.Proofs.YtgccfdfbnhldbaaGreatDoor.Nb

namespace Go.Proofs.YtgccfdfbnhldbaaGreatDoor.Nb
open Go Go.RowKit

structure FewG32 (w W : World) (x xv x0 cu u z3 p q r s P Q L : Nat) : Prop where
  b : Below w.heap.size w W
  rx : RatL W x false p q L
  cx : W.cell? ⟨xv, 0, none⟩ = some (.float .f32 x0) ∧ xv < w.heap.size
  ca : W.cell? ⟨w.heap.size, 0, none⟩ = some (.func (.func 52) #[] #[.pointer (some ⟨xv, 0, none⟩)]) ∧ w.heap.size < W.heap.size
  cc : W.cell? ⟨cu, 0, none⟩ = some (.pointer (some ⟨u, 0, none⟩)) ∧ cu < W.heap.size
  ru : RatL W u false r s L
  rz : RatL W z3 false P Q (L + L)
theorem FewG32.below {w W W' : World} {x xv x0 cu u z3 p q r s P Q L : Nat} (h : FewG32 w W x xv x0 cu u z3 p q r s P Q L) (k : Below W.heap.size W W') : FewG32 w W' x xv x0 cu u z3 p q r s P Q L :=
  ⟨back_of' h.b k, h.rx.below k (Nat.le_refl _), ⟨(k.cell (p := ⟨xv, 0, none⟩) (Nat.lt_of_lt_of_le h.cx.2 h.b.size)).trans h.cx.1, h.cx.2⟩, ⟨(k.cell (p := ⟨w.heap.size, 0, none⟩) h.ca.2).trans h.ca.1, Nat.lt_of_lt_of_le h.ca.2 k.size⟩, ⟨(k.cell (p := ⟨cu, 0, none⟩) h.cc.2).trans h.cc.1, Nat.lt_of_lt_of_le h.cc.2 k.size⟩, h.ru.below k (Nat.le_refl _), h.rz.below k (Nat.le_refl _)⟩

def NoneAt32 (p q X : Nat) (E : Int) (n : Nat) : Prop := ¬ Hits32 (lowK p q (E - n + 1)) (E - n + 1) X ∧ ¬ Hits32 (lowK p q (E - n + 1) + 1) (E - n + 1) X
/-- a digit string's number by the unit, as the program has it -/
theorem hits_mul32 {d r s : Nat} {K : Int} {X : Nat} (hr : 10 ^ K.toNat = r) (hs : 10 ^ (-K).toNat = s) (hs0 : 0 < s) : Rnd 24 149 (d / Nat.gcd d s * (r / Nat.gcd r 1)) (1 / Nat.gcd r 1 * (s / Nat.gcd d s)) X ↔ Hits32 d K X := by
  unfold Hits32
  rw [hr, hs]
  have h := @mul_law d r s hs0
  exact rnd_same h.2.1 hs0 h.1
theorem len_wrap32 {d n : Nat} {E : Int} (hd : d < 18446744073709551616) (h1 : -400 ≤ E) (h2 : E ≤ 400) (hn : n ≤ 9) : wrap64 (wrap64 (E + ((revDig d).length : Int)) - (n : Int)) = E + ((revDig d).length : Int) - (n : Int) := by
  have := revDig_len hd
  unfold wrap64
  omega
/-- what fewest finds -/
structure FewSays32 (p q X : Nat) (E : Int) (n d : Nat) : Prop where
  dec : Dec p q E
  n0 : 1 ≤ n ∧ n ≤ 9
  d0 : d = lowK p q (E - n + 1) ∨ d = lowK p q (E - n + 1) + 1
  hit : Hits32 d (E - n + 1) X
  least : ∀ m, 1 ≤ m → m < n → NoneAt32 p q X E m

set_option maxRecDepth 8000 in
set_option maxHeartbeats 8000000 in
theorem fewest32_any (x xv x0 x1 p q L X : Nat) (w : World) (hx : RatL w x false p q L) (hv : w.cell? ⟨xv, 0, none⟩ = some (.float .f32 x0)) (hxv : xv < w.heap.size)
    (hcv : floatToFloatBits .f32 x0 .f64 = some x1)
    (HA : Hid (∀ W, Calls Tryz.prog 40 #[.float .f64 x1] W fun e w' => e = .returned (.float .f64 (wideN X)) ∧ w' = W)) (hX0 : 0 < X) (hX : X < 2139095040)
    (hp : 0 < p) (hlo : q ≤ p * 10 ^ 400) (hhi : p < q * 10 ^ 400) (hval : p * 2 ^ 149 = amt32 X * q) (hL : 2100 ≤ L) (hL2 : L ≤ 20000) :
    Calls Tryz.prog 37 #[.pointer (some ⟨x, 0, none⟩), .func (.func 52) #[] #[.pointer (some ⟨xv, 0, none⟩)]] w fun e w' => ∃ (E : Int) (n d : Nat), FewSays32 p q X E n d ∧ e = .returned (.tuple #[.string ⟨(revDig d).reverse.toArray⟩, .int .i64 (E + (revDig d).length - n)]) ∧ Below w.heap.size w w' := by
  have hmf : ∀ (fn : Fn) (first cap : Array Value) (w : World), (Instr.makeFunc fn first cap).run Tryz.prog w = .ok (.func fn first cap) w := fun _ _ _ _ => rfl
  have hA := (Below.refl w.heap.size w).alloc (Nat.le_refl _) (.cells #[.func (.func 52) #[] #[.pointer (some ⟨xv, 0, none⟩)]] 85)
  have hca : (w.alloc (.cells #[.func (.func 52) #[] #[.pointer (some ⟨xv, 0, none⟩)]] 85)).cell? ⟨w.heap.size, 0, none⟩ = some (.func (.func 52) #[] #[.pointer (some ⟨xv, 0, none⟩)]) := by simp [go_sem]
  have hcs : w.heap.size < (w.alloc (.cells #[.func (.func 52) #[] #[.pointer (some ⟨xv, 0, none⟩)]] 85)).heap.size := by simp
  have HD := Lib.hid (decade_any x p q L 400 _ (hx.below hA (Nat.le_refl _)) hp hlo hhi (by omega) hL (by omega))
  have hq : 0 < q := hx.2.2
  have H0 := Lib.hid (And.intro hA (And.intro hca hcs))
  have HX := Lib.hid (And.intro hx hv)
  have HV := Lib.hid (And.intro hval (And.intro hp (And.intro hq hX0)))
  clear hA hca hcs hx hv hlo hhi hval hp hq hX0
  go_enter Tryz.func37, Tryz.ntmps37
  go_wp2_with fail
  refine HD.out.mono ?_
  rintro e w1 ⟨E, rfl, hdec, hE1, hE2, b1⟩
  have H1 := Lib.hid (And.intro (H0.out.1.trans (b1.mono H0.out.1.size)) (And.intro ((b1.cell (p := ⟨w.heap.size, 0, none⟩) H0.out.2.2).trans H0.out.2.1) (Nat.lt_of_lt_of_le H0.out.2.2 b1.size)))
  have HE := Lib.hid hdec
  clear b1 H0 HD hdec
  go_wp2_with fail
  go_loopw [7] (fun v wr => ∃ n : Nat, v = .int .i64 n ∧ 1 ≤ n ∧ n ≤ 9 ∧ Hid ((∀ m, 1 ≤ m → m < n → NoneAt32 p q X E m) ∧ Below w.heap.size w wr ∧ wr.cell? ⟨w.heap.size, 0, none⟩ = some (.func (.func 52) #[] #[.pointer (some ⟨xv, 0, none⟩)]) ∧ w.heap.size < wr.heap.size)) (fun v _ => (10 - intOf v).toNat)
  case atStart => exact ⟨1, rfl, by omega, by omega, Lib.hid ⟨fun m _ _ => by omega, H1.out⟩⟩
  case round =>
    clear H1
    obtain ⟨n, rfl, n1, n17, H1⟩ := hrel
    obtain ⟨K, hK⟩ : ∃ K : Int, E - n + 1 = K := ⟨_, rfl⟩
    go_wp2_with fail
    refine (ten_pow K L wr (by omega) (by omega) (by omega) (by omega)).mono ?_
    rintro e w2 ⟨u, rfl, hu0, r2, s2, c2⟩
    obtain ⟨r, hr⟩ : ∃ r, 10 ^ K.toNat = r := ⟨_, rfl⟩
    obtain ⟨s, hs⟩ : ∃ s, 10 ^ (-K).toNat = s := ⟨_, rfl⟩
    have hr0 : 0 < r := hr ▸ Nat.pow_pos (by omega)
    have hs0 : 0 < s := hs ▸ Nat.pow_pos (by omega)
    rw [hr, hs] at r2
    obtain ⟨P, hP⟩ : ∃ P, p / Nat.gcd p r * (s / Nat.gcd s q) = P := ⟨_, rfl⟩
    obtain ⟨Q, hQ⟩ : ∃ Q, q / Nat.gcd s q * (r / Nat.gcd p r) = Q := ⟨_, rfl⟩
    have hlaw := quo_law HV.out.2.2.1 hr0 hP hQ
    have hB := (back_of' H1.out.2.1 c2)
    have hb2 := (Below.refl w2.heap.size w2).alloc (Nat.le_refl _) (.cells #[.pointer (some ⟨u, 0, none⟩)] 76)
    have hb3 := hb2.alloc hb2.size (.cells #[.bool false, .slice none 0 0, .bool false, .slice none 0 0] 136)
    have hs3 : RSlot ((w2.alloc (.cells #[.pointer (some ⟨u, 0, none⟩)] 76)).alloc (.cells #[.bool false, .slice none 0 0, .bool false, .slice none 0 0] 136)) (w2.heap.size + 1) := by
      have := RSlot.new (w2.alloc (.cells #[.pointer (some ⟨u, 0, none⟩)] 76)) 136
      simpa using this
    have hc3 : ((w2.alloc (.cells #[.pointer (some ⟨u, 0, none⟩)] 76)).alloc (.cells #[.bool false, .slice none 0 0, .bool false, .slice none 0 0] 136)).cell? ⟨w2.heap.size, 0, none⟩ = some (.pointer (some ⟨u, 0, none⟩)) := by simp [go_sem]
    have hxl := HX.out.1.lt
    have hrl := r2.lt
    have HQ := Lib.hid (ratquoL (w2.heap.size + 1) x u p q r s P Q L (L + L) _ hs3 (HX.out.1.below (back_of' hB hb3) (Nat.le_refl _)) (r2.below hb3 (Nat.le_refl _)) hr0 hP hQ (words_mul hlaw.2.2.1 hxl.1 hrl.2) (words_mul hlaw.2.2.2 hxl.2 hrl.1) hlaw.2.1 (by omega) (by omega))
    have HL := Lib.hid (And.intro hr (And.intro hs (And.intro hr0 (And.intro hs0 (And.intro hlaw.1 hlaw.2.1)))))
    have HC0 := Lib.hid (And.intro hB (And.intro hb3 (And.intro hc3 (And.intro r2 (And.intro ((c2.cell (p := ⟨w.heap.size, 0, none⟩) H1.out.2.2.2).trans H1.out.2.2.1) (Nat.lt_of_lt_of_le H1.out.2.2.2 c2.size))))))
    have HM := Lib.hid H1.out.1
    clear r2 s2 c2 hb2 hb3 hs3 hc3 hB H1 hr hs hr0 hs0 hlaw hP hQ hxl hrl
    go_wp2_with fail
    refine HQ.out.mono ?_
    rintro e w3 ⟨rfl, r3, s3, b3⟩
    have HC : Hid (FewG32 w w3 x xv x0 w2.heap.size u (w2.heap.size + 1) p q r s P Q L) := Lib.hid (by
      obtain ⟨g1, g2, g3, g4, g5, g6⟩ := HC0.out
      have k := g2.trans (b3.mono (Nat.le_succ _))
      have kk := back_of' g1 k
      exact ⟨kk, HX.out.1.below kk (Nat.le_refl _), ⟨(kk.cell (p := ⟨xv, 0, none⟩) hxv).trans HX.out.2, hxv⟩, ⟨(k.cell (p := ⟨w.heap.size, 0, none⟩) g6).trans g5, Nat.lt_of_lt_of_le g6 k.size⟩, ⟨(b3.cell (p := ⟨w2.heap.size, 0, none⟩) (Nat.lt_succ_self _)).trans g3, Nat.lt_of_lt_of_le (by simp; omega) b3.size⟩, g4.below k (Nat.le_refl _), r3⟩)
    clear r3 s3 b3 HC0 HQ
    go_wp2_with fail
    have hA4 := (Below.refl w3.heap.size w3).alloc (Nat.le_refl _) (.cells #[.bool false, .slice none 0 0] 90)
    have HN4 := Lib.hid (num_anyL (w2.heap.size + 1) _ _ _ _ (HC.out.below hA4).rz (by omega))
    have HA4 := Lib.hid (And.intro hA4 (ISlot.new w3 90))
    clear hA4
    refine HN4.out.mono ?_
    rintro e w4 ⟨b4, rfl, hb4, i4, s4, c4⟩
    have H4 := Lib.hid (And.intro (back_of' HA4.out.1 c4) (And.intro i4 (HA4.out.2.below c4 (Nat.le_refl _))))
    clear i4 s4 c4 HN4 HA4
    go_wp2_with fail
    refine (denom_anyL (w2.heap.size + 1) _ _ _ w4 (HC.out.below H4.out.1).rz (by omega)).mono ?_
    rintro e w5 ⟨b5, rfl, hb5, i5, s5, c5⟩
    have H5 := Lib.hid (And.intro (back_of' H4.out.1 c5) (And.intro (H4.out.2.1.below c5 (Nat.le_refl _)) (And.intro (H4.out.2.2.below c5 (Nat.le_refl _)) i5)))
    clear i5 s5 c5 H4
    go_wp2_with fail
    refine (quo_anyL w3.heap.size 0 b4 0 P b5 0 Q (L + L) w5 H5.out.2.2.1 H5.out.2.1 H5.out.2.2.2 HL.out.2.2.2.2.2 (by omega) (by omega)).mono ?_
    rintro e w6 ⟨rfl, i6, s6, b6⟩
    obtain ⟨low, hlow⟩ : ∃ low, P / Q = low := ⟨_, rfl⟩
    have hlw : low = lowK p q K := by rw [← hlow]; exact low_of HL.out.1 HL.out.2.1 HL.out.2.2.1 HV.out.2.2.1 HL.out.2.2.2.2.2 HL.out.2.2.2.2.1
    have hin := low_in HV.out.2.2.1 HE.out hK n1
    rw [← hlw] at hin
    have h17 : 10 ^ n ≤ 10 ^ 9 := Nat.pow_le_pow_right (by omega) n17
    have hlow1 : 1 ≤ low := Nat.le_trans (Nat.pow_pos (by omega)) hin.1
    have hlow2 : low < 100000000000000000 := Nat.lt_of_lt_of_le hin.2 (Nat.le_trans h17 (by decide))
    rw [hlow] at i6
    have HLW := Lib.hid hlw
    have HC := Lib.hid (HC.out.below (H5.out.1.trans b6))
    have HLo : Hid (IntN w6 w3.heap.size 0 false low) := Lib.hid (i6.less (L' := 1) (by omega))
    have hl6 : w3.heap.size < w6.heap.size := i6.1
    have hlq : low * Q ≤ P := by rw [← hlow]; exact Nat.div_mul_le_self _ _
    clear i6 s6 b6 H5 hin h17 hlw hlow
    go_wp2_with fail
    have hA7 := (Below.refl w6.heap.size w6).alloc (Nat.le_refl _) (.cells #[.bool false, .slice none 0 0] 90)
    have HA7 := Lib.hid (And.intro hA7 (ISlot.new w6 90))
    clear hA7
    refine (newInt_any 1 _ (by omega)).mono ?_
    rintro e w7 ⟨b7, rfl, hb7, i7, s7, c7⟩
    have H7 := Lib.hid (And.intro (back_of' HA7.out.1 c7) (And.intro i7 (HA7.out.2.below c7 (Nat.le_refl _))))
    clear i7 s7 c7 HA7
    go_wp2_with fail
    refine (add_pos w6.heap.size 0 w3.heap.size 0 low b7 0 1 w7 H7.out.2.2 (HLo.out.below H7.out.1 (Nat.le_refl _)) H7.out.2.1 (by omega)).mono ?_
    rintro e w8 ⟨rfl, i8, s8, b8⟩
    have HC := Lib.hid (HC.out.below (H7.out.1.trans b8))
    have HLo := Lib.hid (HLo.out.below (H7.out.1.trans b8) (Nat.le_refl _))
    have HH : Hid (IntN w8 w6.heap.size 0 false (low + 1)) := Lib.hid i8
    clear i8 s8 b8 H7
    go_wp2_with fail
    have HRd := Lib.hid (fun (d : Nat) (hd : d < 1000000000000000000) (W : World) (hW : Below w8.heap.size w8 W) (b : Nat) (hb : IntN W b 0 false d) (h0 : 0 < d) =>
      read32_any' b d r s _ _ w.heap.size w2.heap.size u xv L (L + L) (Hits32 d K X) W hb h0 (HC.out.below hW).ca.1 (HC.out.below hW).ca.2 (HC.out.below hW).cc.1 (HC.out.below hW).cc.2 (HC.out.below hW).ru rfl rfl
        (words_mul (mul_law HL.out.2.2.2.1).2.2.1 (Nat.lt_of_lt_of_le hd (words_big (by omega))) HC.out.ru.lt.1)
        (Nat.lt_of_le_of_lt (mul_law (n := d) (r := r) HL.out.2.2.2.1).2.2.2 (Nat.lt_of_lt_of_le HC.out.ru.lt.2 (Nat.pow_le_pow_right (by omega) (by omega))))
        (mul_law HL.out.2.2.2.1).2.1 (by omega)
        (Lib.hid (fun z W' hW' hz => (again32_any z xv x0 x1 X _ _ (L + L) W' hz (by omega) (by omega) ((HC.out.below hW).below hW').cx.1 (Nat.lt_of_lt_of_le HC.out.cx.2 ((HC.out.below hW).below hW').b.size) hcv HA (mul_law HL.out.2.2.2.1).2.1 hX).mono (fun e w' h => by
          obtain ⟨rb, h1, h2, h3⟩ := h
          exact ⟨rb, h1, h2.trans (hits_mul32 HL.out.1 HL.out.2.1 HL.out.2.2.2.1), h3⟩))))
    refine (HRd.out low (by omega) w8 (Below.refl _ _) w3.heap.size HLo.out (by omega)).mono ?_
    rintro e w9 ⟨ra, rfl, hra, b9⟩
    have hb9 := b9
    have HC9 := Lib.hid (HC.out.below b9)
    have HLo := Lib.hid (HLo.out.below b9 (Nat.le_refl _))
    have HH := Lib.hid (HH.out.below b9 (Nat.le_refl _))
    clear b9
    go_wp2_with fail
    refine (HRd.out (low + 1) (by omega) w9 hb9 w6.heap.size HH.out (by omega)).mono ?_
    rintro e w10 ⟨rb, rfl, hrb, b10⟩
    have HC := Lib.hid (HC9.out.below b10)
    have HLo := Lib.hid (HLo.out.below b10 (Nat.le_refl _))
    have HH := Lib.hid (HH.out.below b10 (Nat.le_refl _))
    have hl10 : w3.heap.size < w10.heap.size := HLo.out.1
    clear b10 hb9 HRd HC9
    have hnx : ra = false → rb = false → n < 9 ∧ NoneAt32 p q X E n := by
      intro h1 h2
      rw [h1] at hra
      rw [h2] at hrb
      have k1 : ¬ Hits32 low K X := fun h => by have := hra.2 h; simp at this
      have k2 : ¬ Hits32 (low + 1) K X := fun h => by have := hrb.2 h; simp at this
      refine ⟨?_, ?_⟩
      · rcases Nat.lt_or_ge n 9 with t | t
        · exact t
        · exfalso
          rcases hits_last32 (k := K) HV.out.2.2.1 HV.out.2.2.2 HV.out.1 HE.out.1 (by omega) HLW.out with t1 | t1
          · exact k1 t1
          · exact k2 t1
      · unfold NoneAt32
        rw [hK, ← HLW.out]
        exact ⟨k1, k2⟩
    have HNX := Lib.hid hnx
    have HRR := Lib.hid (And.intro hra hrb)
    clear hnx hra hrb
    have HLQ := Lib.hid hlq
    clear hlq
    cases ra
    · cases rb
      · have hfx := HNX.out rfl rfl
        have HFX := Lib.hid hfx
        clear hfx
        go_wp2_with fail
        obtain ⟨t1, t2⟩ := HFX.out
        refine ⟨⟨n + 1, by rfl, by omega, by omega, Lib.hid ⟨fun m m1 m2 => ?_, HC.out.b, HC.out.ca⟩⟩, by simp only [intOf]; omega⟩
        rcases Nat.lt_or_ge m n with t | t
        · exact HM.out m m1 t
        · obtain rfl : m = n := by omega
          exact t2
      · have hit : Hits32 (low + 1) K X := HRR.out.2.1 rfl
        have HIT := Lib.hid hit
        clear hit
        go_wp2_with fail
        have hA11 := ((Below.refl w10.heap.size w10).alloc (Nat.le_refl _) (.cells #[.bool false, .slice none 0 0, .bool false, .slice none 0 0] 136))
        have hA12 := hA11.alloc hA11.size (.cells #[.bool false, .slice none 0 0, .bool false, .slice none 0 0] 136)
        have hs56 : RSlot ((w10.alloc (.cells #[.bool false, .slice none 0 0, .bool false, .slice none 0 0] 136)).alloc (.cells #[.bool false, .slice none 0 0, .bool false, .slice none 0 0] 136)) (w10.heap.size + 1) := by
          have := RSlot.new (w10.alloc (.cells #[.bool false, .slice none 0 0, .bool false, .slice none 0 0] 136)) 136
          simpa using this
        have hs54 := (RSlot.new w10 136).below ((Below.refl _ _).alloc (Nat.le_refl _) (.cells #[.bool false, .slice none 0 0, .bool false, .slice none 0 0] 136)) (Nat.le_refl _)
        have HI := Lib.hid (setintLK (w10.heap.size + 1) w3.heap.size 0 low (L + L) _ hs56 ((HLo.out.any (by omega)).below hA12 (Nat.le_refl _)) (by omega) (by omega) (by omega))
        have HA11 := Lib.hid (And.intro hA12 hs54)
        clear hA11 hA12 hs56 hs54
        refine HI.out.mono ?_
        rintro e w11 ⟨⟨rfl, r11, s11, b11⟩, k11⟩
        have hb11 := HA11.out.1.trans (b11.mono (Nat.le_succ _))
        have HCx := Lib.hid (HC.out.below hb11)
        have HBx := Lib.hid hb11
        have H11 := Lib.hid (And.intro r11 (HA11.out.2.kept k11 (by omega)))
        clear r11 s11 b11 k11 hb11 HI HA11
        go_wp2_with fail
        refine (ratsub_anyL w10.heap.size (w2.heap.size + 1) (w10.heap.size + 1) P Q low 1 _ _ _ _ _ _ _ _ _ _ (L + L) (L + L + (L + L)) w11 H11.out.2 HCx.out.rz H11.out.1 (by omega) rfl rfl rfl rfl rfl (sub_le HLQ.out HL.out.2.2.2.2.2) rfl rfl rfl rfl rfl rfl (by omega) (sub_pos HL.out.2.2.2.2.2)).mono ?_
        rintro e w12 ⟨rfl, r12, s12, b12⟩
        have H12 := Lib.hid (And.intro r12 (HBx.out.trans b12))
        clear r12 s12 b12 HCx HBx H11
        go_wp2_with fail
        refine (newrat_any 1 2 w12 (by omega) (by omega) (by decide) (by omega)).mono ?_
        rintro e w13 ⟨b13, rfl, hb13, r13, s13, c13⟩
        have HCm := Lib.hid (ratcmp_anyL w10.heap.size b13 _ _ 1 2 _ _ _ w13 (H12.out.1.below c13 (Nat.le_refl _)) ⟨r13.1.any (by omega), r13.2.1.any (by omega), r13.2.2⟩ rfl rfl (by omega))
        have H13 := Lib.hid (H12.out.2.trans (c13.mono H12.out.2.size))
        clear r13 s13 c13 H12
        go_wp2_with fail
        refine HCm.out.mono ?_
        rintro e w14 ⟨rfl, b14⟩
        generalize cmpN _ _ = cc
        have hb14 := H13.out.trans (b14.mono H13.out.size)
        have H14 := Lib.hid (back_of' HC.out.b hb14)
        have HLo := Lib.hid (HLo.out.below hb14 (Nat.le_refl _))
        have HH := Lib.hid (HH.out.below hb14 (Nat.le_refl _))
        clear b14 H13 HCm HC hb14
        go_wp2_with fail
        refine (string_word w6.heap.size 0 (low + 1) _ w14 HH.out (by omega) rfl).mono ?_
        rintro e w15 ⟨rfl, b15⟩
        have H15 := Lib.hid (back_of' H14.out b15)
        clear b15 H14
        go_wp2_with fail
        go_ret2
        refine ⟨E, n, low + 1, ⟨HE.out, ⟨n1, n17⟩, .inr (by rw [hK, ← HLW.out]), by rw [hK]; exact HIT.out, HM.out⟩, ?_, H15.out⟩
        exact congrArg (fun z => Ending.returned (Value.tuple #[Value.string ⟨(revDig (low + 1)).reverse.toArray⟩, Value.int .i64 z])) (len_wrap32 (by omega) (by omega) (by omega) n17)
    · have hitl : Hits32 low K X := HRR.out.1.1 rfl
      have HITL := Lib.hid hitl
      clear hitl
      cases rb
      · have HIT := HITL
        go_wp2_with fail
        have hA11 := ((Below.refl w10.heap.size w10).alloc (Nat.le_refl _) (.cells #[.bool false, .slice none 0 0, .bool false, .slice none 0 0] 136))
        have hA12 := hA11.alloc hA11.size (.cells #[.bool false, .slice none 0 0, .bool false, .slice none 0 0] 136)
        have hs56 : RSlot ((w10.alloc (.cells #[.bool false, .slice none 0 0, .bool false, .slice none 0 0] 136)).alloc (.cells #[.bool false, .slice none 0 0, .bool false, .slice none 0 0] 136)) (w10.heap.size + 1) := by
          have := RSlot.new (w10.alloc (.cells #[.bool false, .slice none 0 0, .bool false, .slice none 0 0] 136)) 136
          simpa using this
        have hs54 := (RSlot.new w10 136).below ((Below.refl _ _).alloc (Nat.le_refl _) (.cells #[.bool false, .slice none 0 0, .bool false, .slice none 0 0] 136)) (Nat.le_refl _)
        have HI := Lib.hid (setintLK (w10.heap.size + 1) w3.heap.size 0 low (L + L) _ hs56 ((HLo.out.any (by omega)).below hA12 (Nat.le_refl _)) (by omega) (by omega) (by omega))
        have HA11 := Lib.hid (And.intro hA12 hs54)
        clear hA11 hA12 hs56 hs54
        refine HI.out.mono ?_
        rintro e w11 ⟨⟨rfl, r11, s11, b11⟩, k11⟩
        have hb11 := HA11.out.1.trans (b11.mono (Nat.le_succ _))
        have HCx := Lib.hid (HC.out.below hb11)
        have HBx := Lib.hid hb11
        have H11 := Lib.hid (And.intro r11 (HA11.out.2.kept k11 (by omega)))
        clear r11 s11 b11 k11 hb11 HI HA11
        go_wp2_with fail
        refine (ratsub_anyL w10.heap.size (w2.heap.size + 1) (w10.heap.size + 1) P Q low 1 _ _ _ _ _ _ _ _ _ _ (L + L) (L + L + (L + L)) w11 H11.out.2 HCx.out.rz H11.out.1 (by omega) rfl rfl rfl rfl rfl (sub_le HLQ.out HL.out.2.2.2.2.2) rfl rfl rfl rfl rfl rfl (by omega) (sub_pos HL.out.2.2.2.2.2)).mono ?_
        rintro e w12 ⟨rfl, r12, s12, b12⟩
        have H12 := Lib.hid (And.intro r12 (HBx.out.trans b12))
        clear r12 s12 b12 HCx HBx H11
        go_wp2_with fail
        refine (newrat_any 1 2 w12 (by omega) (by omega) (by decide) (by omega)).mono ?_
        rintro e w13 ⟨b13, rfl, hb13, r13, s13, c13⟩
        have HCm := Lib.hid (ratcmp_anyL w10.heap.size b13 _ _ 1 2 _ _ _ w13 (H12.out.1.below c13 (Nat.le_refl _)) ⟨r13.1.any (by omega), r13.2.1.any (by omega), r13.2.2⟩ rfl rfl (by omega))
        have H13 := Lib.hid (H12.out.2.trans (c13.mono H12.out.2.size))
        clear r13 s13 c13 H12
        go_wp2_with fail
        refine HCm.out.mono ?_
        rintro e w14 ⟨rfl, b14⟩
        generalize cmpN _ _ = cc
        have hb14 := H13.out.trans (b14.mono H13.out.size)
        have H14 := Lib.hid (back_of' HC.out.b hb14)
        have HLo := Lib.hid (HLo.out.below hb14 (Nat.le_refl _))
        have HH := Lib.hid (HH.out.below hb14 (Nat.le_refl _))
        clear b14 H13 HCm HC hb14
        go_wp2_with fail
        refine (string_word w3.heap.size 0 low _ w14 HLo.out (by omega) rfl).mono ?_
        rintro e w15 ⟨rfl, b15⟩
        have H15 := Lib.hid (back_of' H14.out b15)
        clear b15 H14
        go_wp2_with fail
        go_ret2
        refine ⟨E, n, low, ⟨HE.out, ⟨n1, n17⟩, .inl (by rw [hK, ← HLW.out]), by rw [hK]; exact HIT.out, HM.out⟩, ?_, H15.out⟩
        exact congrArg (fun z => Ending.returned (Value.tuple #[Value.string ⟨(revDig low).reverse.toArray⟩, Value.int .i64 z])) (len_wrap32 (by omega) (by omega) (by omega) n17)
      · have hit : Hits32 (low + 1) K X := HRR.out.2.1 rfl
        have HIT := Lib.hid hit
        clear hit
        go_wp2_with fail
        have hA11 := ((Below.refl w10.heap.size w10).alloc (Nat.le_refl _) (.cells #[.bool false, .slice none 0 0, .bool false, .slice none 0 0] 136))
        have hA12 := hA11.alloc hA11.size (.cells #[.bool false, .slice none 0 0, .bool false, .slice none 0 0] 136)
        have hs56 : RSlot ((w10.alloc (.cells #[.bool false, .slice none 0 0, .bool false, .slice none 0 0] 136)).alloc (.cells #[.bool false, .slice none 0 0, .bool false, .slice none 0 0] 136)) (w10.heap.size + 1) := by
          have := RSlot.new (w10.alloc (.cells #[.bool false, .slice none 0 0, .bool false, .slice none 0 0] 136)) 136
          simpa using this
        have hs54 := (RSlot.new w10 136).below ((Below.refl _ _).alloc (Nat.le_refl _) (.cells #[.bool false, .slice none 0 0, .bool false, .slice none 0 0] 136)) (Nat.le_refl _)
        have HI := Lib.hid (setintLK (w10.heap.size + 1) w3.heap.size 0 low (L + L) _ hs56 ((HLo.out.any (by omega)).below hA12 (Nat.le_refl _)) (by omega) (by omega) (by omega))
        have HA11 := Lib.hid (And.intro hA12 hs54)
        clear hA11 hA12 hs56 hs54
        refine HI.out.mono ?_
        rintro e w11 ⟨⟨rfl, r11, s11, b11⟩, k11⟩
        have hb11 := HA11.out.1.trans (b11.mono (Nat.le_succ _))
        have HCx := Lib.hid (HC.out.below hb11)
        have HBx := Lib.hid hb11
        have H11 := Lib.hid (And.intro r11 (HA11.out.2.kept k11 (by omega)))
        clear r11 s11 b11 k11 hb11 HI HA11
        go_wp2_with fail
        refine (ratsub_anyL w10.heap.size (w2.heap.size + 1) (w10.heap.size + 1) P Q low 1 _ _ _ _ _ _ _ _ _ _ (L + L) (L + L + (L + L)) w11 H11.out.2 HCx.out.rz H11.out.1 (by omega) rfl rfl rfl rfl rfl (sub_le HLQ.out HL.out.2.2.2.2.2) rfl rfl rfl rfl rfl rfl (by omega) (sub_pos HL.out.2.2.2.2.2)).mono ?_
        rintro e w12 ⟨rfl, r12, s12, b12⟩
        have H12 := Lib.hid (And.intro r12 (HBx.out.trans b12))
        clear r12 s12 b12 HCx HBx H11
        go_wp2_with fail
        refine (newrat_any 1 2 w12 (by omega) (by omega) (by decide) (by omega)).mono ?_
        rintro e w13 ⟨b13, rfl, hb13, r13, s13, c13⟩
        have HCm := Lib.hid (ratcmp_anyL w10.heap.size b13 _ _ 1 2 _ _ _ w13 (H12.out.1.below c13 (Nat.le_refl _)) ⟨r13.1.any (by omega), r13.2.1.any (by omega), r13.2.2⟩ rfl rfl (by omega))
        have H13 := Lib.hid (H12.out.2.trans (c13.mono H12.out.2.size))
        clear r13 s13 c13 H12
        go_wp2_with fail
        refine HCm.out.mono ?_
        rintro e w14 ⟨rfl, b14⟩
        generalize cmpN _ _ = cc
        have hb14 := H13.out.trans (b14.mono H13.out.size)
        have H14 := Lib.hid (back_of' HC.out.b hb14)
        have HLo := Lib.hid (HLo.out.below hb14 (Nat.le_refl _))
        have HH := Lib.hid (HH.out.below hb14 (Nat.le_refl _))
        clear b14 H13 HCm HC hb14
        go_wp2_with fail
        · refine (bit0_word w3.heap.size 0 low w14 HLo.out (by omega)).mono ?_
          rintro e w15 ⟨rfl, hw⟩
          obtain rfl := hw.symm
          rcases Nat.mod_two_eq_zero_or_one low with hb | hb
          · rw [hb]
            go_wp2_with fail
            refine (string_word w3.heap.size 0 low _ w14 HLo.out (by omega) rfl).mono ?_
            rintro e w15 ⟨rfl, b15⟩
            have H15 := Lib.hid (back_of' H14.out b15)
            clear b15 H14
            go_wp2_with fail
            go_ret2
            refine ⟨E, n, low, ⟨HE.out, ⟨n1, n17⟩, .inl (by rw [hK, ← HLW.out]), by rw [hK]; exact HITL.out, HM.out⟩, ?_, H15.out⟩
            exact congrArg (fun z => Ending.returned (Value.tuple #[Value.string ⟨(revDig low).reverse.toArray⟩, Value.int .i64 z])) (len_wrap32 (by omega) (by omega) (by omega) n17)
          · rw [hb]
            go_wp2_with fail
            refine (string_word w6.heap.size 0 (low + 1) _ w14 HH.out (by omega) rfl).mono ?_
            rintro e w15 ⟨rfl, b15⟩
            have H15 := Lib.hid (back_of' H14.out b15)
            clear b15 H14
            go_wp2_with fail
            go_ret2
            refine ⟨E, n, low + 1, ⟨HE.out, ⟨n1, n17⟩, .inr (by rw [hK, ← HLW.out]), by rw [hK]; exact HIT.out, HM.out⟩, ?_, H15.out⟩
            exact congrArg (fun z => Ending.returned (Value.tuple #[Value.string ⟨(revDig (low + 1)).reverse.toArray⟩, Value.int .i64 z])) (len_wrap32 (by omega) (by omega) (by omega) n17)
        · refine (string_word w6.heap.size 0 (low + 1) _ w14 HH.out (by omega) rfl).mono ?_
          rintro e w15 ⟨rfl, b15⟩
          have H15 := Lib.hid (back_of' H14.out b15)
          clear b15 H14
          go_wp2_with fail
          go_ret2
          refine ⟨E, n, low + 1, ⟨HE.out, ⟨n1, n17⟩, .inr (by rw [hK, ← HLW.out]), by rw [hK]; exact HIT.out, HM.out⟩, ?_, H15.out⟩
          exact congrArg (fun z => Ending.returned (Value.tuple #[Value.string ⟨(revDig (low + 1)).reverse.toArray⟩, Value.int .i64 z])) (len_wrap32 (by omega) (by omega) (by omega) n17)
        · refine (string_word w3.heap.size 0 low _ w14 HLo.out (by omega) rfl).mono ?_
          rintro e w15 ⟨rfl, b15⟩
          have H15 := Lib.hid (back_of' H14.out b15)
          clear b15 H14
          go_wp2_with fail
          go_ret2
          refine ⟨E, n, low, ⟨HE.out, ⟨n1, n17⟩, .inl (by rw [hK, ← HLW.out]), by rw [hK]; exact HITL.out, HM.out⟩, ?_, H15.out⟩
          exact congrArg (fun z => Ending.returned (Value.tuple #[Value.string ⟨(revDig low).reverse.toArray⟩, Value.int .i64 z])) (len_wrap32 (by omega) (by omega) (by omega) n17)
end Go.Proofs.YtgccfdfbnhldbaaGreatDoor.Nb
