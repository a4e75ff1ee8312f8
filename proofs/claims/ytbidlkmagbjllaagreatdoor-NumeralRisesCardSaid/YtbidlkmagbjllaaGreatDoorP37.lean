/- BR2 BR3 X7 in one text. -/
import Derived.Test.YtbidlkmagbjllaaGreatDoorP36
import Derived.Test.YtbidlkmagbjllaaGreatDoorP35
import Derived.Test.YtbidlkmagbjllaaGreatDoorP30
import Derived.Test.YtbidlkmagbjllaaGreatDoorP16
import Derived.Test.YtbidlkmagbjllaaGreatDoorP17

namespace Go.Proofs.YtbidlkmagbjllaaGreatDoor.Nb
open Go Go.RowKit

/-- ahead of the last halving -/
structure RndSt (S T p q K m : Nat) (r : Bool) : Prop where
  m : m = 2 * (p * 2 ^ T) / (q * 2 ^ K)
  r : r = true ↔ 2 * (p * 2 ^ T) % (q * 2 ^ K) ≠ 0
  lo : K = 0 ∨ 2 ^ S * (q * 2 ^ K) ≤ 2 * (p * 2 ^ T)
/-- the number m times 2^(k - T) is the one nearest to p / q -/
def RndAt (S T p q k m : Nat) : Prop := (k = 0 ∨ 2 ^ (S - 1) * (q * 2 ^ k) ≤ p * 2 ^ T) ∧ p * 2 ^ T < 2 ^ S * (q * 2 ^ k) ∧ Near (p * 2 ^ T) (q * 2 ^ k) m
theorem RndAt.rnd {S T p q k m : Nat} (h : RndAt S T p q k m) : Rnd S T p q (k * 2 ^ (S - 1) + m) := ⟨k, m, h.1, h.2.1, h.2.2, rfl⟩
theorem rnd_half' {S T p q K m M : Nat} {r r' : Bool} (hM : m / 2 = M) (h : RndSt S T p q K m r) (hge : 2 ^ (S + 1) ≤ m) (hr : r' = (r || decide (m % 2 = 1))) (hq : 0 < q := by assumption) : RndSt S T p q (K + 1) M r' := by
  have hD : 0 < q * 2 ^ K := Nat.mul_pos hq (Nat.pow_pos (by omega))
  obtain ⟨e1, e2⟩ := half_quo hD h.m
  have e3 : q * 2 ^ (K + 1) = 2 * (q * 2 ^ K) := by rw [Nat.pow_succ, ← Nat.mul_assoc, Nat.mul_comm]
  refine ⟨by rw [e3, e1, hM], ?_, .inr ?_⟩
  · rw [e3, e2, hr, Bool.or_eq_true, h.r, decide_eq_true_iff]
  · rw [e3]
    have h1 : 2 ^ (S + 1) * (q * 2 ^ K) ≤ m * (q * 2 ^ K) := Nat.mul_le_mul_right _ hge
    have h2 : m * (q * 2 ^ K) ≤ 2 * (p * 2 ^ T) := by rw [h.m]; exact Nat.div_mul_le_self _ _
    rw [Nat.pow_succ, Nat.mul_assoc] at h1
    omega
theorem rnd_end {S T p q K m m' : Nat} {r : Bool} (h : RndSt S T p q K m r) (hl : m < 2 ^ (S + 1)) (hS : 0 < S ∧ 0 < q) (hm : m' = if m % 2 = 1 ∧ (r = true ∨ m / 2 % 2 = 1) then m / 2 + 1 else m / 2) : RndAt S T p q K m' := by
  have hD : 0 < q * 2 ^ K := Nat.mul_pos hS.2 (Nat.pow_pos (by omega))
  refine ⟨?_, ?_, ?_⟩
  · rcases h.lo with z | z
    · exact .inl z
    · right
      obtain ⟨s, rfl⟩ : ∃ s, S = s + 1 := ⟨S - 1, by omega⟩
      rw [Nat.add_sub_cancel]
      rw [Nat.pow_succ, Nat.mul_comm (2 ^ s), Nat.mul_assoc] at z
      omega
  · have h1 : 2 * (p * 2 ^ T) < 2 ^ (S + 1) * (q * 2 ^ K) := (Nat.div_lt_iff_lt_mul hD).1 (by rw [← h.m]; exact hl)
    rw [Nat.pow_succ, Nat.mul_comm (2 ^ S), Nat.mul_assoc] at h1
    omega
  · refine near_of hD h.m ?_
    rw [hm]
    simp only [h.r]
theorem rnd_bound {S T p q K m L : Nat} {r : Bool} (h : RndSt S T p q K m r) (hp : p < 18446744073709551616 ^ L) (hq : 0 < q) : K ≤ 64 * L + T + 1 := by
  rcases h.lo with z | z
  · omega
  · have h1 : 2 ^ K ≤ 2 ^ S * (q * 2 ^ K) := by
      have a1 : 1 * 2 ^ K ≤ q * 2 ^ K := Nat.mul_le_mul_right _ hq
      have a2 : 1 * (q * 2 ^ K) ≤ 2 ^ S * (q * 2 ^ K) := Nat.mul_le_mul_right _ (Nat.pow_pos (by omega))
      omega
    have h2 : 2 * (p * 2 ^ T) < 2 ^ (64 * L + T + 1) := by
      rw [pow64] at hp
      have a1 : p * 2 ^ T < 2 ^ (64 * L) * 2 ^ T := Nat.mul_lt_mul_of_pos_right hp (Nat.pow_pos (by omega))
      rw [← Nat.pow_add] at a1
      rw [Nat.pow_succ]
      omega
    have h3 : 2 ^ K < 2 ^ (64 * L + T + 1) := by omega
    have := (Nat.pow_lt_pow_iff_right (a := 2) (by omega)).1 h3
    omega
/-- by how much a fraction's parts are brought up -/
theorem start_of {S T p q K0 α β : Nat} (hp : 0 < p) (hq : 0 < q) (hb : 0 < β) (he : α * (q * 2 ^ K0) = 2 * (p * 2 ^ T) * β) (hup : blen p + T + 1 ≤ blen q + K0 + S + 1) (hlo : K0 = 0 ∨ blen p + T = blen q + S + K0) (hS : S ≤ 60) :
    α / β < 18446744073709551616 ∧ α / β = 2 * (p * 2 ^ T) / (q * 2 ^ K0) ∧ (α % β ≠ 0 ↔ 2 * (p * 2 ^ T) % (q * 2 ^ K0) ≠ 0) ∧ (K0 = 0 ∨ 2 ^ S * (q * 2 ^ K0) ≤ 2 * (p * 2 ^ T)) := by
  have hD : 0 < q * 2 ^ K0 := Nat.mul_pos hq (Nat.pow_pos (by omega))
  obtain ⟨e1, e2⟩ := same_quo hb hD he
  obtain ⟨p1, p2, p3⟩ := blen_spec hp
  obtain ⟨q1, q2, q3⟩ := blen_spec hq
  have hN : 2 * (p * 2 ^ T) = p * 2 ^ (T + 1) := by rw [Nat.pow_succ]; ac_rfl
  refine ⟨?_, e1, not_congr e2, ?_⟩
  · rw [e1]
    refine (Nat.div_lt_iff_lt_mul hD).2 ?_
    rw [hN]
    have a1 : p * 2 ^ (T + 1) < 2 ^ blen p * 2 ^ (T + 1) := Nat.mul_lt_mul_of_pos_right p3 (Nat.pow_pos (by omega))
    have a2 : 2 ^ (blen q - 1) * 2 ^ K0 ≤ q * 2 ^ K0 := Nat.mul_le_mul_right _ q2
    have a3 : 2 ^ 64 * (2 ^ (blen q - 1) * 2 ^ K0) ≤ 2 ^ 64 * (q * 2 ^ K0) := Nat.mul_le_mul_left _ a2
    rw [← Nat.pow_add] at a1
    rw [← Nat.pow_add, ← Nat.pow_add] at a3
    have a4 : 2 ^ (blen p + (T + 1)) ≤ 2 ^ (64 + (blen q - 1 + K0)) := Nat.pow_le_pow_right (by omega) (by omega)
    have e : (2 : Nat) ^ 64 = 18446744073709551616 := by decide
    rw [e] at a3
    omega
  · rcases hlo with z | z
    · exact .inl z
    · right
      rw [hN]
      have a1 : 2 ^ (blen p - 1) * 2 ^ (T + 1) ≤ p * 2 ^ (T + 1) := Nat.mul_le_mul_right _ p2
      have a2 : q * 2 ^ K0 ≤ 2 ^ blen q * 2 ^ K0 := Nat.mul_le_mul_right _ (Nat.le_of_lt q3)
      have a3 : 2 ^ S * (q * 2 ^ K0) ≤ 2 ^ S * (2 ^ blen q * 2 ^ K0) := Nat.mul_le_mul_left _ a2
      rw [← Nat.pow_add] at a1
      rw [← Nat.pow_add, ← Nat.pow_add] at a3
      rw [show S + (blen q + K0) = blen p - 1 + (T + 1) by omega] at a3
      omega

set_option maxRecDepth 8000 in
set_option maxHeartbeats 2000000 in
/-- nearest: of any fraction -/
theorem nearest_any (S T x p q L : Nat) (neg : Bool) (w : World) (hx : RatL w x neg p q L) (hS : 0 < S) (hS1 : S ≤ 60) (hT : T ≤ 2000) (hL : L ≤ 100000) (hL1 : 1 ≤ L) :
    Calls Tryz.prog 52 #[.pointer (some ⟨x, 0, none⟩), .int .i64 (S : Int), .int .i64 (-(T : Int))] w fun e w' => ∃ (k m : Nat) (ex : Bool), e = .returned (.tuple #[.int .u64 (m : Int), .int .i64 ((k : Int) - (T : Int)), .bool ex]) ∧ RndAt S T p q k m ∧ Below w.heap.size w w' := by
  obtain ⟨A1, k1, c1, A2, k2, c2, hb, e0, e1, e3, m1, m2, q0, hk2⟩ := hx.open
  have U1 := Lib.hid (fun n => under_atL x A2 k2 c2 (w.drewN n) e3 hk2)
  have HH := Lib.hid (And.intro (And.intro hS q0) (And.intro (mag_lt m1) q0))
  have HLL := Lib.hid (And.intro hL (And.intro hL1 (And.intro hS1 hT)))
  have hlen := m1.len
  by_cases hp0 : p = 0
  · have hk1 : k1 = 0 := by
      rcases Nat.eq_zero_or_pos k1 with z | z
      · exact z
      · have := hlen.2.1 (by omega); omega
    subst hk1
    have HR : Hid (RndAt S T p q 0 0) := Lib.hid (by
      subst hp0
      refine ⟨.inl rfl, ?_, ?_⟩
      · rw [Nat.zero_mul]; exact Nat.mul_pos (Nat.pow_pos (by omega)) (Nat.mul_pos q0 (Nat.pow_pos (by omega)))
      · exact ⟨by omega, by omega, by omega, by omega⟩)
    have hTI : -(T : Int) = ((0 : Nat) : Int) - (T : Int) := by omega
    have HTI := Lib.hid hTI
    clear m1 m2 hx hlen hp0 hTI
    obtain ⟨E, hE⟩ : ∃ E : Int, -(T : Int) = E := ⟨_, rfl⟩
    rw [hE]
    rw [hE] at HTI
    clear hE
    go_enter Tryz.func52, Tryz.ntmps52
    go_wp2_with fail
    go_quiet ((go_at_call 103; exact quiet_under (U1.out _)))
    go_wp2_with fail
    go_ret3
    exact ⟨0, 0, true, congrArg (fun z : Int => Ending.returned (.tuple #[.int .u64 0, .int .i64 z, .bool true])) HTI.out, HR.out, below_dr (Below.refl _ _) _⟩
  have hk1 : ¬ k1 = 0 := fun z => hp0 (hlen.1 z)
  have HL1 := Lib.hid (fun (W : World) (hW : Below w.heap.size w W) => length_any _ p L W (m1.below hW) (by omega))
  have HL2 := Lib.hid (fun (W : World) (hW : Below w.heap.size w W) => length_any _ q L W (m2.below hW) (by omega))
  have HM := Lib.hid (fun (W : World) (hW : Below w.heap.size w W) => And.intro (m1.below hW) (m2.below hW))
  have hbp : blen p ≤ 64 * L := blen_le (by rw [← pow64]; exact mag_lt m1)
  have hbq : blen q ≤ 64 * L := blen_le (by rw [← pow64]; exact mag_lt m2)
  obtain ⟨lp, hlp⟩ : ∃ l, blen p = l := ⟨_, rfl⟩
  obtain ⟨lq, hlq⟩ : ∃ l, blen q = l := ⟨_, rfl⟩
  obtain ⟨a1, ha1⟩ : ∃ a : Int, (lp : Int) - (lq : Int) = a := ⟨_, rfl⟩
  obtain ⟨a2, ha2⟩ : ∃ a : Int, a1 - (S : Int) = a := ⟨_, rfl⟩
  obtain ⟨a3, ha3⟩ : ∃ a : Int, max a2 (-(T : Int)) = a := ⟨_, rfl⟩
  obtain ⟨E, hE⟩ : ∃ a : Int, a3 - 1 = a := ⟨_, rfl⟩
  obtain ⟨K0, hK0⟩ : ∃ K0 : Nat, (K0 : Int) = E + 1 + (T : Int) := ⟨(E + 1 + (T : Int)).toNat, by omega⟩
  have hup : blen p + T + 1 ≤ blen q + K0 + S + 1 := by omega
  have hlo : K0 = 0 ∨ blen p + T = blen q + S + K0 := by omega
  rw [hlp] at HL1
  rw [hlq] at HL2
  have hEr : -3000 ≤ E ∧ E ≤ 100000000 := by omega
  have hw3 : wrap64 (max ((lp : Int) - (lq : Int) - (S : Int)) (-(T : Int)) - 1) = E := by
    rw [ha1, ha2, ha3]
    unfold wrap64
    omega
  have hlpl : (lp : Int) ≤ 100000000 := by omega
  have hlql : (lq : Int) ≤ 100000000 := by omega
  have hSI : (S : Int) ≤ 60 := by omega
  obtain ⟨lT, hlT⟩ : ∃ E : Int, -(T : Int) = E := ⟨_, rfl⟩
  rw [hlT]
  rw [hlT] at ha3 hw3
  by_cases hneg : E < 0
  · obtain ⟨N, hN⟩ : ∃ N : Nat, (N : Int) = -E := ⟨(-E).toNat, by omega⟩
    obtain rfl : E = -(N : Int) := by omega
    have hNp : 0 < N := by omega
    have hab : p * 2 ^ N * (q * 2 ^ K0) = 2 * (p * 2 ^ T) * q := by
      have e : (2 : Nat) ^ N * 2 ^ K0 = 2 * 2 ^ T := by rw [← Nat.pow_add, show N + K0 = T + 1 by omega, Nat.pow_succ, Nat.mul_comm]
      have : p * 2 ^ N * (q * 2 ^ K0) = p * q * (2 ^ N * 2 ^ K0) := by ac_rfl
      rw [this, e]
      ac_rfl
    have hst := start_of (by omega) q0 q0 hab hup hlo hS1
    obtain ⟨m0, hm0⟩ : ∃ z, p * 2 ^ N / q = z := ⟨_, rfl⟩
    have HLe := Lib.hid (fun (W : World) (hW : Below w.heap.size w W) => left_any _ p N L W (m1.below hW) (by omega))
    have HQ : Hid (0 < q ∧ p * 2 ^ N / q = m0 ∧ m0 < 18446744073709551616 ∧ m0 = 2 * (p * 2 ^ T) / (q * 2 ^ K0) ∧ (p * 2 ^ N % q ≠ 0 ↔ 2 * (p * 2 ^ T) % (q * 2 ^ K0) ≠ 0) ∧ (K0 = 0 ∨ 2 ^ S * (q * 2 ^ K0) ≤ 2 * (p * 2 ^ T)) ∧ -(N : Int) = (K0 : Int) - 1 - (T : Int)) := Lib.hid (by
      rw [hm0] at hst
      exact ⟨q0, hm0, hst.1, hst.2.1, hst.2.2.1, hst.2.2.2, by omega⟩)
    have hNl : N ≤ 3000 := by omega
    clear m1 m2 hx hlp hlq ha1 ha2 hE hK0 hup hlo hbp hbq hlen hst hab hm0 hlT hN ha3 hneg
    go_enter Tryz.func52, Tryz.ntmps52
    go_wp2_with fail
    go_quiet ((go_at_call 103; exact quiet_under (U1.out _)))
    go_wp2_with fail
    have hcur : ∀ n, Below w.heap.size w (w.drewN n) := fun n => below_dr (Below.refl _ _) n
    refine (HL1.out _ (hcur _)).mono ?_
    rintro e w1 ⟨rfl, rfl⟩
    go_wp2_with fail
    refine (HL2.out _ (hcur _)).mono ?_
    rintro e w1 ⟨rfl, rfl⟩
    go_wp2_with fail
    refine (HLe.out _ (hcur _)).mono ?_
    rintro e w1 ⟨v1, rfl, hm1, hb1⟩
    obtain ⟨A5, k5, c5, rfl⟩ := hm1.slice
    have HM1 := Lib.hid (And.intro hm1 (onto (hcur _) hb1))
    clear hm1 hb1
    have HQ1 := Lib.hid (quotient_any _ _ (p * 2 ^ N) q (L + N / 64 + 1) w1 HM1.out.1 ((HM.out _ HM1.out.2).2.more (by omega)) HQ.out.1 (by have := HLL.out; omega) (by omega))
    rw [HQ.out.2.1] at HQ1
    go_wp2_with fail
    refine HQ1.out.mono ?_
    rintro e w2 ⟨A3, k3, c3, A4, k4, c4, rfl, hm3, hm4, hb2⟩
    have HBW := Lib.hid (onto HM1.out.2 hb2)
    have HLo := Lib.hid (low_mag _ _ _ w2 hm3)
    rw [Nat.mod_eq_of_lt HQ.out.2.2.1] at HLo
    obtain ⟨r0, hr0⟩ : ∃ r : Bool, decide (0 < k4) = r := ⟨_, rfl⟩
    have H0 : Hid (RndSt S T p q K0 m0 r0 ∧ -(N : Int) = (K0 : Int) - 1 - (T : Int)) := Lib.hid ⟨⟨HQ.out.2.2.2.1, by
      have h1 := hm4.len
      have h2 := HQ.out.2.2.2.2.1
      rw [← hr0, decide_eq_true_iff, ← h2]
      constructor
      · intro h; exact h1.2.1 (by omega)
      · intro h
        rcases Nat.eq_zero_or_pos k4 with z | z
        · exact absurd (h1.1 z) h
        · omega, HQ.out.2.2.2.2.2.1⟩, HQ.out.2.2.2.2.2.2⟩
    have hm0l := HQ.out.2.2.1
    have HER := Lib.hid hEr
    clear hm3 hm4 hb2 HQ1 HM1 HQ HM HLe hcur
    go_wp2_with fail
    refine HLo.out.mono ?_
    rintro e w3 ⟨rfl, rfl⟩
    clear HLo
    go_wp2_with fail
    try rw [hr0]
    clear hr0
    go_loopw [11, 14, 15] (fun ev mv rv wr => ∃ (K m : Nat) (r : Bool) (E' : Int), ev = .int .i64 E' ∧ mv = .int .u64 (m : Int) ∧ rv = .bool r ∧ m < 18446744073709551616 ∧ w2 = wr ∧ Hid (Hid (RndSt S T p q K m r ∧ E' = (K : Int) - 1 - (T : Int)))) (fun _ mv _ _ => (intOf mv).toNat)
    case atStart => exact ⟨K0, m0, r0, -(N : Int), rfl, rfl, rfl, hm0l, rfl, Lib.hid H0⟩
    case round =>
      clear H0 hm0l
      obtain ⟨K, m, r, E, rfl, rfl, rfl, hml, rfl, HS⟩ := hrel
      have hKb := rnd_bound HS.out.out.1 HH.out.2.1 HH.out.2.2
      have hE := HS.out.out.2
      have hE0 : -3000 ≤ E := by omega
      have hE1 : E ≤ 100000000 := by have := HLL.out; omega
      have hw : wrap64 (E + 1) = E + 1 := by unfold wrap64; omega
      clear hKb hE
      obtain ⟨mq, hmq⟩ : ∃ z, m / 2 ^ (S + 1) = z := ⟨_, rfl⟩
      have hmI : (m : Int) / 2 ^ (S + 1) = (mq : Int) := by rw [← hmq, Int.natCast_ediv, Int.natCast_pow]; rfl
      obtain ⟨M, hM⟩ : ∃ M, m / 2 = M := ⟨_, rfl⟩
      have hM2 : (m : Int) / 2 = (M : Int) := by rw [← hM]; rfl
      by_cases hz : mq = 0
      · have hlt : m < 2 ^ (S + 1) := by
          rcases Nat.lt_or_ge m (2 ^ (S + 1)) with z | z
          · exact z
          · have := Nat.div_pos z (Nat.pow_pos (by omega)); omega
        subst hz
        have HKT := Lib.hid (show E + 1 = (K : Int) - (T : Int) by have := HS.out.out.2; omega)
        have hlt' := Lib.hid hlt
        clear hlt hmq
        by_cases ho : m % 2 = 1
        · have hand : bits .and .u64 (m : Int) 1 = 1 := by rw [and_one_u64 (m : Int) (by omega) (by omega)]; omega
          rcases r with _ | _
          · by_cases ho2 : M % 2 = 1
            · have hand2 : bits .and .u64 (M : Int) 1 = 1 := by rw [and_one_u64 (M : Int) (by omega) (by omega)]; omega
              go_wp2_with fail
              go_ret3
              have hR := rnd_end (m' := (M + 1)) HS.out.out.1 hlt'.out HH.out.1 (by rw [← hM] at ho2 ⊢; rw [if_pos ⟨ho, .inr ho2⟩])
              exact ⟨K, (M + 1), _, congrArg (fun z : Int => Ending.returned (.tuple #[.int .u64 ((((M + 1) : Nat)) : Int), .int .i64 z, .bool false])) HKT.out, hR, HBW.out⟩
            · have hand2 : bits .and .u64 (M : Int) 1 = 0 := by rw [and_one_u64 (M : Int) (by omega) (by omega)]; omega
              go_wp2_with fail
              go_ret3
              have hR := rnd_end (m' := M) HS.out.out.1 hlt'.out HH.out.1 (by rw [← hM] at ho2 ⊢; rw [if_neg (by simp [ho2])])
              exact ⟨K, M, _, congrArg (fun z : Int => Ending.returned (.tuple #[.int .u64 (((M : Nat)) : Int), .int .i64 z, .bool false])) HKT.out, hR, HBW.out⟩
          · skip
            go_wp2_with fail
            go_ret3
            have hR := rnd_end (m' := (M + 1)) HS.out.out.1 hlt'.out HH.out.1 (by rw [← hM, if_pos ⟨ho, .inl rfl⟩])
            exact ⟨K, (M + 1), _, congrArg (fun z : Int => Ending.returned (.tuple #[.int .u64 ((((M + 1) : Nat)) : Int), .int .i64 z, .bool false])) HKT.out, hR, HBW.out⟩
        · have hand : bits .and .u64 (m : Int) 1 = 0 := by rw [and_one_u64 (m : Int) (by omega) (by omega)]; omega
          rcases r with _ | _
          · skip
            go_wp2_with fail
            go_ret3
            have hR := rnd_end (m' := M) HS.out.out.1 hlt'.out HH.out.1 (by rw [← hM, if_neg (by simp [ho])])
            exact ⟨K, M, _, congrArg (fun z : Int => Ending.returned (.tuple #[.int .u64 (((M : Nat)) : Int), .int .i64 z, .bool true])) HKT.out, hR, HBW.out⟩
          · skip
            go_wp2_with fail
            go_ret3
            have hR := rnd_end (m' := M) HS.out.out.1 hlt'.out HH.out.1 (by rw [← hM, if_neg (by simp [ho])])
            exact ⟨K, M, _, congrArg (fun z : Int => Ending.returned (.tuple #[.int .u64 (((M : Nat)) : Int), .int .i64 z, .bool false])) HKT.out, hR, HBW.out⟩
      · have hge : 2 ^ (S + 1) ≤ m := by
          rcases Nat.lt_or_ge m (2 ^ (S + 1)) with z | z
          · exact absurd (Nat.div_eq_of_lt z) (by omega)
          · exact z
        have hpos : 0 < 2 ^ (S + 1) := Nat.pow_pos (by omega)
        have hm1 : 0 < m := by omega
        have hge' := Lib.hid hge
        have hzn : ((mq : Int) != 0) = true := by simp; omega
        clear hge hpos hmq hz
        by_cases ho : m % 2 = 1
        · have hand : bits .and .u64 (m : Int) 1 = 1 := by rw [and_one_u64 (m : Int) (by omega) (by omega)]; omega
          rcases r with _ | _
          · skip
            go_wp2_with fail
            go_roundw
            case rel => exact ⟨K + 1, M, true, E + 1, rfl, by simp, rfl, by omega, trivial, Lib.hid (Lib.hid ⟨rnd_half' hM HS.out.out.1 hge'.out (by simp [ho]), by have := HS.out.out.2; omega⟩)⟩
            case measure => simp [intOf]; omega
          · skip
            go_wp2_with fail
            go_roundw
            case rel => exact ⟨K + 1, M, true, E + 1, rfl, by simp, rfl, by omega, trivial, Lib.hid (Lib.hid ⟨rnd_half' hM HS.out.out.1 hge'.out (by simp [ho]), by have := HS.out.out.2; omega⟩)⟩
            case measure => simp [intOf]; omega
        · have hand : bits .and .u64 (m : Int) 1 = 0 := by rw [and_one_u64 (m : Int) (by omega) (by omega)]; omega
          rcases r with _ | _
          · skip
            go_wp2_with fail
            go_roundw
            case rel => exact ⟨K + 1, M, false, E + 1, rfl, by simp, rfl, by omega, trivial, Lib.hid (Lib.hid ⟨rnd_half' hM HS.out.out.1 hge'.out (by simp [ho]), by have := HS.out.out.2; omega⟩)⟩
            case measure => simp [intOf]; omega
          · skip
            go_wp2_with fail
            go_roundw
            case rel => exact ⟨K + 1, M, true, E + 1, rfl, by simp, rfl, by omega, trivial, Lib.hid (Lib.hid ⟨rnd_half' hM HS.out.out.1 hge'.out (by simp [ho]), by have := HS.out.out.2; omega⟩)⟩
            case measure => simp [intOf]; omega
  · obtain ⟨N, hN⟩ : ∃ N : Nat, (N : Int) = E := ⟨E.toNat, by omega⟩
    have hab : p * (q * 2 ^ K0) = 2 * (p * 2 ^ T) * (q * 2 ^ N) := by
      have e : (2 : Nat) ^ K0 = 2 * 2 ^ T * 2 ^ N := by rw [Nat.mul_comm 2, ← Nat.pow_succ, ← Nat.pow_add, show K0 = T + 1 + N by omega]
      rw [e]
      ac_rfl
    have hst := start_of (by omega) q0 (Nat.mul_pos q0 (Nat.pow_pos (by omega))) hab hup hlo hS1
    obtain ⟨m0, hm0⟩ : ∃ z, p / (q * 2 ^ N) = z := ⟨_, rfl⟩
    have HLe := Lib.hid (fun (W : World) (hW : Below w.heap.size w W) => left_any _ q N L W (m2.below hW) (by omega))
    have HQ : Hid (0 < q * 2 ^ N ∧ p / (q * 2 ^ N) = m0 ∧ m0 < 18446744073709551616 ∧ m0 = 2 * (p * 2 ^ T) / (q * 2 ^ K0) ∧ (p % (q * 2 ^ N) ≠ 0 ↔ 2 * (p * 2 ^ T) % (q * 2 ^ K0) ≠ 0) ∧ (K0 = 0 ∨ 2 ^ S * (q * 2 ^ K0) ≤ 2 * (p * 2 ^ T)) ∧ E = (K0 : Int) - 1 - (T : Int)) := Lib.hid (by
      rw [hm0] at hst
      exact ⟨Nat.mul_pos q0 (Nat.pow_pos (by omega)), hm0, hst.1, hst.2.1, hst.2.2.1, hst.2.2.2, by omega⟩)
    have hNl : N ≤ 100000000 := by omega
    clear m1 m2 hx hlp hlq ha1 ha2 hE hK0 hup hlo hbp hbq hlen hst hab hm0 hlT ha3
    obtain rfl : E = (N : Int) := hN.symm
    clear hN hneg
    go_enter Tryz.func52, Tryz.ntmps52
    go_wp2_with fail
    go_quiet ((go_at_call 103; exact quiet_under (U1.out _)))
    go_wp2_with fail
    have hcur : ∀ n, Below w.heap.size w (w.drewN n) := fun n => below_dr (Below.refl _ _) n
    refine (HL1.out _ (hcur _)).mono ?_
    rintro e w1 ⟨rfl, rfl⟩
    go_wp2_with fail
    refine (HL2.out _ (hcur _)).mono ?_
    rintro e w1 ⟨rfl, rfl⟩
    go_wp2_with fail
    refine (HLe.out _ (hcur _)).mono ?_
    rintro e w1 ⟨v1, rfl, hm1, hb1⟩
    obtain ⟨A5, k5, c5, rfl⟩ := hm1.slice
    have HM1 := Lib.hid (And.intro hm1 (onto (hcur _) hb1))
    clear hm1 hb1
    have HQ1 := Lib.hid (quotient_any _ _ p (q * 2 ^ N) (L + N / 64 + 1) w1 ((HM.out _ HM1.out.2).1.more (by omega)) HM1.out.1 HQ.out.1 (by have := HLL.out; omega) (by omega))
    rw [HQ.out.2.1] at HQ1
    go_wp2_with fail
    refine HQ1.out.mono ?_
    rintro e w2 ⟨A3, k3, c3, A4, k4, c4, rfl, hm3, hm4, hb2⟩
    have HBW := Lib.hid (onto HM1.out.2 hb2)
    have HLo := Lib.hid (low_mag _ _ _ w2 hm3)
    rw [Nat.mod_eq_of_lt HQ.out.2.2.1] at HLo
    obtain ⟨r0, hr0⟩ : ∃ r : Bool, decide (0 < k4) = r := ⟨_, rfl⟩
    have H0 : Hid (RndSt S T p q K0 m0 r0 ∧ (N : Int) = (K0 : Int) - 1 - (T : Int)) := Lib.hid ⟨⟨HQ.out.2.2.2.1, by
      have h1 := hm4.len
      have h2 := HQ.out.2.2.2.2.1
      rw [← hr0, decide_eq_true_iff, ← h2]
      constructor
      · intro h; exact h1.2.1 (by omega)
      · intro h
        rcases Nat.eq_zero_or_pos k4 with z | z
        · exact absurd (h1.1 z) h
        · omega, HQ.out.2.2.2.2.2.1⟩, HQ.out.2.2.2.2.2.2⟩
    have hm0l := HQ.out.2.2.1
    have HER := Lib.hid hEr
    clear hm3 hm4 hb2 HQ1 HM1 HQ HM HLe hcur
    go_wp2_with fail
    refine HLo.out.mono ?_
    rintro e w3 ⟨rfl, rfl⟩
    clear HLo
    go_wp2_with fail
    try rw [hr0]
    clear hr0
    go_loopw [11, 14, 15] (fun ev mv rv wr => ∃ (K m : Nat) (r : Bool) (E' : Int), ev = .int .i64 E' ∧ mv = .int .u64 (m : Int) ∧ rv = .bool r ∧ m < 18446744073709551616 ∧ w2 = wr ∧ Hid (Hid (RndSt S T p q K m r ∧ E' = (K : Int) - 1 - (T : Int)))) (fun _ mv _ _ => (intOf mv).toNat)
    case atStart => exact ⟨K0, m0, r0, (N : Int), rfl, rfl, rfl, hm0l, rfl, Lib.hid H0⟩
    case round =>
      clear H0 hm0l
      obtain ⟨K, m, r, E, rfl, rfl, rfl, hml, rfl, HS⟩ := hrel
      have hKb := rnd_bound HS.out.out.1 HH.out.2.1 HH.out.2.2
      have hE := HS.out.out.2
      have hE0 : -3000 ≤ E := by omega
      have hE1 : E ≤ 100000000 := by have := HLL.out; omega
      have hw : wrap64 (E + 1) = E + 1 := by unfold wrap64; omega
      clear hKb hE
      obtain ⟨mq, hmq⟩ : ∃ z, m / 2 ^ (S + 1) = z := ⟨_, rfl⟩
      have hmI : (m : Int) / 2 ^ (S + 1) = (mq : Int) := by rw [← hmq, Int.natCast_ediv, Int.natCast_pow]; rfl
      obtain ⟨M, hM⟩ : ∃ M, m / 2 = M := ⟨_, rfl⟩
      have hM2 : (m : Int) / 2 = (M : Int) := by rw [← hM]; rfl
      by_cases hz : mq = 0
      · have hlt : m < 2 ^ (S + 1) := by
          rcases Nat.lt_or_ge m (2 ^ (S + 1)) with z | z
          · exact z
          · have := Nat.div_pos z (Nat.pow_pos (by omega)); omega
        subst hz
        have HKT := Lib.hid (show E + 1 = (K : Int) - (T : Int) by have := HS.out.out.2; omega)
        have hlt' := Lib.hid hlt
        clear hlt hmq
        by_cases ho : m % 2 = 1
        · have hand : bits .and .u64 (m : Int) 1 = 1 := by rw [and_one_u64 (m : Int) (by omega) (by omega)]; omega
          rcases r with _ | _
          · by_cases ho2 : M % 2 = 1
            · have hand2 : bits .and .u64 (M : Int) 1 = 1 := by rw [and_one_u64 (M : Int) (by omega) (by omega)]; omega
              go_wp2_with fail
              go_ret3
              have hR := rnd_end (m' := (M + 1)) HS.out.out.1 hlt'.out HH.out.1 (by rw [← hM] at ho2 ⊢; rw [if_pos ⟨ho, .inr ho2⟩])
              exact ⟨K, (M + 1), _, congrArg (fun z : Int => Ending.returned (.tuple #[.int .u64 ((((M + 1) : Nat)) : Int), .int .i64 z, .bool false])) HKT.out, hR, HBW.out⟩
            · have hand2 : bits .and .u64 (M : Int) 1 = 0 := by rw [and_one_u64 (M : Int) (by omega) (by omega)]; omega
              go_wp2_with fail
              go_ret3
              have hR := rnd_end (m' := M) HS.out.out.1 hlt'.out HH.out.1 (by rw [← hM] at ho2 ⊢; rw [if_neg (by simp [ho2])])
              exact ⟨K, M, _, congrArg (fun z : Int => Ending.returned (.tuple #[.int .u64 (((M : Nat)) : Int), .int .i64 z, .bool false])) HKT.out, hR, HBW.out⟩
          · skip
            go_wp2_with fail
            go_ret3
            have hR := rnd_end (m' := (M + 1)) HS.out.out.1 hlt'.out HH.out.1 (by rw [← hM, if_pos ⟨ho, .inl rfl⟩])
            exact ⟨K, (M + 1), _, congrArg (fun z : Int => Ending.returned (.tuple #[.int .u64 ((((M + 1) : Nat)) : Int), .int .i64 z, .bool false])) HKT.out, hR, HBW.out⟩
        · have hand : bits .and .u64 (m : Int) 1 = 0 := by rw [and_one_u64 (m : Int) (by omega) (by omega)]; omega
          rcases r with _ | _
          · skip
            go_wp2_with fail
            go_ret3
            have hR := rnd_end (m' := M) HS.out.out.1 hlt'.out HH.out.1 (by rw [← hM, if_neg (by simp [ho])])
            exact ⟨K, M, _, congrArg (fun z : Int => Ending.returned (.tuple #[.int .u64 (((M : Nat)) : Int), .int .i64 z, .bool true])) HKT.out, hR, HBW.out⟩
          · skip
            go_wp2_with fail
            go_ret3
            have hR := rnd_end (m' := M) HS.out.out.1 hlt'.out HH.out.1 (by rw [← hM, if_neg (by simp [ho])])
            exact ⟨K, M, _, congrArg (fun z : Int => Ending.returned (.tuple #[.int .u64 (((M : Nat)) : Int), .int .i64 z, .bool false])) HKT.out, hR, HBW.out⟩
      · have hge : 2 ^ (S + 1) ≤ m := by
          rcases Nat.lt_or_ge m (2 ^ (S + 1)) with z | z
          · exact absurd (Nat.div_eq_of_lt z) (by omega)
          · exact z
        have hpos : 0 < 2 ^ (S + 1) := Nat.pow_pos (by omega)
        have hm1 : 0 < m := by omega
        have hge' := Lib.hid hge
        have hzn : ((mq : Int) != 0) = true := by simp; omega
        clear hge hpos hmq hz
        by_cases ho : m % 2 = 1
        · have hand : bits .and .u64 (m : Int) 1 = 1 := by rw [and_one_u64 (m : Int) (by omega) (by omega)]; omega
          rcases r with _ | _
          · skip
            go_wp2_with fail
            go_roundw
            case rel => exact ⟨K + 1, M, true, E + 1, rfl, by simp, rfl, by omega, trivial, Lib.hid (Lib.hid ⟨rnd_half' hM HS.out.out.1 hge'.out (by simp [ho]), by have := HS.out.out.2; omega⟩)⟩
            case measure => simp [intOf]; omega
          · skip
            go_wp2_with fail
            go_roundw
            case rel => exact ⟨K + 1, M, true, E + 1, rfl, by simp, rfl, by omega, trivial, Lib.hid (Lib.hid ⟨rnd_half' hM HS.out.out.1 hge'.out (by simp [ho]), by have := HS.out.out.2; omega⟩)⟩
            case measure => simp [intOf]; omega
        · have hand : bits .and .u64 (m : Int) 1 = 0 := by rw [and_one_u64 (m : Int) (by omega) (by omega)]; omega
          rcases r with _ | _
          · skip
            go_wp2_with fail
            go_roundw
            case rel => exact ⟨K + 1, M, false, E + 1, rfl, by simp, rfl, by omega, trivial, Lib.hid (Lib.hid ⟨rnd_half' hM HS.out.out.1 hge'.out (by simp [ho]), by have := HS.out.out.2; omega⟩)⟩
            case measure => simp [intOf]; omega
          · skip
            go_wp2_with fail
            go_roundw
            case rel => exact ⟨K + 1, M, true, E + 1, rfl, by simp, rfl, by omega, trivial, Lib.hid (Lib.hid ⟨rnd_half' hM HS.out.out.1 hge'.out (by simp [ho]), by have := HS.out.out.2; omega⟩)⟩
            case measure => simp [intOf]; omega
end Go.Proofs.YtbidlkmagbjllaaGreatDoor.Nb

namespace Go.Proofs.YtbidlkmagbjllaaGreatDoor.Nb
open Go Go.RowKit

/-- infinite beyond the greatest -/
def finX (X : Nat) : Nat := if X < 9218868437227405312 then X else 9218868437227405312
theorem bitLen_of {m l : Nat} (h0 : 0 < l) (hl : l ≤ 64) (h1 : 2 ^ (l - 1) ≤ m) (h2 : m < 2 ^ l) : Lib.bitLen m = l := by
  have hm : 0 < m := by have : 0 < 2 ^ (l - 1) := Nat.pow_pos (by omega); omega
  have h64 : m < 2 ^ 64 := Nat.lt_of_lt_of_le h2 (Nat.pow_le_pow_right (by omega) hl)
  obtain ⟨b1, b2, b3⟩ := Nx.bit_spec 64 m hm h64 (by omega)
  have c1 : 2 ^ (l - 1) < 2 ^ Lib.bitLen m := by omega
  have c2 : 2 ^ (Lib.bitLen m - 1) < 2 ^ l := by omega
  have d1 := (Nat.pow_lt_pow_iff_right (a := 2) (by omega)).1 c1
  have d2 := (Nat.pow_lt_pow_iff_right (a := 2) (by omega)).1 c2
  omega
theorem bitLen_small {m l : Nat} (hl : l ≤ 64) (h2 : m < 2 ^ l) : Lib.bitLen m ≤ l := by
  rcases Nat.eq_zero_or_pos m with h | h
  · subst h
    have : Lib.bitLen 0 = 0 := by decide
    omega
  · have h64 : m < 2 ^ 64 := Nat.lt_of_lt_of_le h2 (Nat.pow_le_pow_right (by omega) hl)
    obtain ⟨b1, b2, b3⟩ := Nx.bit_spec 64 m h h64 (by omega)
    have c2 : 2 ^ (Lib.bitLen m - 1) < 2 ^ l := by omega
    have d2 := (Nat.pow_lt_pow_iff_right (a := 2) (by omega)).1 c2
    omega
theorem and_low {a : Nat} (k : Nat) (h : a < 18446744073709551616) (hk : k ≤ 63) : bits .and .u64 (a : Int) ((2 ^ k - 1 : Nat) : Int) = ((a % 2 ^ k : Nat) : Int) := by
  have hb : 2 ^ k - 1 < 18446744073709551616 := by
    have := Nat.pow_le_pow_right (n := 2) (by omega) hk
    have e : (2 : Nat) ^ 63 = 9223372036854775808 := by decide
    omega
  rw [u64_and _ _ (by omega) (by omega) (by omega) (by omega), Int.toNat_natCast, Int.toNat_natCast, Nat.and_two_pow_sub_one_eq_mod]
theorem or_low {o c s : Nat} (ho : o < 2 ^ s) (hc : 2 ^ s * c + 2 ^ s ≤ 18446744073709551616) : bits .or .u64 ((2 ^ s * c : Nat) : Int) (o : Int) = ((2 ^ s * c + o : Nat) : Int) := by
  rw [u64_or_nat _ _ (by omega) (by omega)]
  rw [Nat.mul_comm, show c * 2 ^ s = c <<< s by rw [Nat.shiftLeft_eq], ← Nat.shiftLeft_add_eq_or_of_lt ho]
theorem inf_one (w : World) : Calls Tryz.prog 42 #[.int .i64 1] w fun e w' => e = .returned (.float .f64 9218868437227405312) ∧ w' = w := by
  have hfb := run_frombits 9218868437227405312
  go_enter Tryz.func42, Tryz.ntmps42
  go_wp2_with fail
  go_ret
  exact ⟨rfl, rfl⟩

/-- the bits of a number of 53 bits -/
theorem row_two (k : Nat) : k * 2 ^ (53 - 1) + 9007199254740992 = (k + 2) * 4503599627370496 := (Nat.add_mul k 2 4503599627370496).symm
theorem row_one (k r : Nat) : k * 2 ^ (53 - 1) + (4503599627370496 + r) = (k + 1) * 4503599627370496 + r := by
  rw [Nat.add_mul, Nat.one_mul, Nat.add_assoc]
theorem fin_over {X : Nat} (h : 2047 * 4503599627370496 ≤ X) : finX X = 9218868437227405312 := by
  unfold finX
  exact if_neg (Nat.not_lt.2 h)
theorem fin_in {X : Nat} (h : X < 2047 * 4503599627370496) : finX X = X := by
  unfold finX
  exact if_pos h

set_option maxRecDepth 8000 in
set_option maxHeartbeats 4000000 in
theorem float64_any (x p q L : Nat) (w : World) (hx : RatL w x false p q L) (hL : L ≤ 100000) (hL1 : 1 ≤ L) :
    Calls Tryz.prog 16 #[.pointer (some ⟨x, 0, none⟩)] w fun e w' => ∃ (X : Nat) (ex : Bool), e = .returned (.tuple #[.float .f64 (finX X), .bool ex]) ∧ Rnd 53 1074 p q X ∧ Below w.heap.size w w' := by
  have HN : Hid (Calls Tryz.prog 52 #[.pointer (some ⟨x, 0, none⟩), .int .i64 53, .int .i64 (-1074)] w fun e w' => ∃ (k m : Nat) (ex : Bool), e = .returned (.tuple #[.int .u64 (m : Int), .int .i64 ((k : Int) - ((1074 : Nat) : Int)), .bool ex]) ∧ RndAt 53 1074 p q k m ∧ Below w.heap.size w w') := Lib.hid (nearest_any 53 1074 x p q L false w hx (by omega) (by omega) (by omega) hL hL1)
  obtain ⟨A1, k1, c1, A2, k2, c2, hb, e0, -, -, m1, -, q0, -⟩ := hx.open
  have HP := Lib.hid (And.intro (mag_lt m1) (And.intro q0 hL))
  have HI := Lib.hid (fun W => inf_one W)
  clear hx m1 q0 hL hL1
  go_enter Tryz.func16, Tryz.ntmps16
  go_wp2_with fail
  refine HN.out.mono ?_
  rintro e w1 ⟨k, m, ex, rfl, hr, hb1⟩
  have y0 := (hb1.cell (p := ⟨x, 0, none⟩) (by exact hb)).trans e0
  have HB := Lib.hid hb1
  have HR := Lib.hid hr.rnd
  have hD : 0 < q * 2 ^ k := Nat.mul_pos HP.out.2.1 (Nat.pow_pos (by omega))
  have hm53 : m ≤ 9007199254740992 := by
    have := near_le hr.2.2 hr.2.1
    have e : (2 : Nat) ^ 53 = 9007199254740992 := by decide
    omega
  have hk52 : k ≠ 0 → 4503599627370496 ≤ m := fun hk => by
    have := near_ge hr.2.2 hD (hr.1.resolve_left hk)
    have e : (2 : Nat) ^ (53 - 1) = 4503599627370496 := by decide
    omega
  have hkl : k ≤ 64 * L + 1074 := by
    rcases hr.1 with z | z
    · omega
    · have a1 : 2 ^ k ≤ 2 ^ (53 - 1) * (q * 2 ^ k) := by
        have a1 : 1 * 2 ^ k ≤ q * 2 ^ k := Nat.mul_le_mul_right _ HP.out.2.1
        have a2 : 1 * (q * 2 ^ k) ≤ 2 ^ (53 - 1) * (q * 2 ^ k) := Nat.mul_le_mul_right _ (Nat.pow_pos (by omega))
        omega
      have a2' : ∀ T : Nat, p * 2 ^ T < 2 ^ (64 * L + T) := fun T => by
        rw [Nat.pow_add]
        exact Nat.mul_lt_mul_of_pos_right (by rw [← pow64]; exact HP.out.1) (Nat.two_pow_pos T)
      have a2 := a2' 1074
      have a3 : 2 ^ k < 2 ^ (64 * L + 1074) := Nat.lt_of_le_of_lt a1 (Nat.lt_of_le_of_lt z a2)
      have := (Nat.pow_lt_pow_iff_right (a := 2) (by omega)).1 a3
      omega
  have hk7 : k ≤ 10000000 := by have := HP.out.2.2; omega
  obtain ⟨E, hE⟩ : ∃ E : Int, (k : Int) - ((1074 : Nat) : Int) = E := ⟨_, rfl⟩
  rw [hE]
  have HE := Lib.hid hE
  have hE0 : -1074 ≤ E := by omega
  have hE1 : E ≤ 10000000 := by omega
  have HK := Lib.hid hk52
  clear hr hb1 hD hkl hE HN hk52
  by_cases c53 : m = 9007199254740992
  · have HC := Lib.hid c53
    obtain ⟨M, hM⟩ : ∃ M : Nat, M = 4503599627370496 := ⟨_, rfl⟩
    have hs53 : (m : Int) / 9007199254740992 = 1 := by omega
    have hdv : (m : Int) / 2 = (M : Int) := by omega
    have hdw : (M : Int) / 4503599627370496 = 1 := by omega
    have HLN := Lib.hid (fun W => len_bits M 53 W (by rw [hM]; decide) (by rw [hM]; decide))
    have hand : bits .and .u64 (M : Int) 4503599627370495 = 0 := by rw [hM]; decide
    have hMl : M ≤ 4503599627370496 := by omega
    clear hM c53
    obtain ⟨E2, hE2⟩ : ∃ E2, E + 1 = E2 := ⟨_, rfl⟩
    have hw1 : wrap64 (E + 1) = E2 := by unfold wrap64; omega
    have hE20 : -1074 ≤ E2 := by omega
    have hE21 : E2 ≤ 10000001 := by omega
    have HE2 : Hid (E2 = (k : Int) - 1073) := Lib.hid (by have := HE.out; omega)
    clear hE0 hE1 hE2
    by_cases hov : 2045 ≤ k
    · have hgt : (1024 : Int) < 53 + E2 := by have := HE2.out; omega
      have HF : Hid (finX (k * 2 ^ (53 - 1) + m) = 9218868437227405312) := Lib.hid (by
        rw [HC.out, row_two]
        exact fin_over (Nat.mul_le_mul_right _ (by omega)))
      go_wp2_with fail
      refine (HLN.out _).mono ?_
      rintro e w2 ⟨rfl, hw⟩
      obtain rfl := hw.symm
      go_wp2_with fail
      refine (HI.out _).mono ?_
      rintro e w2 ⟨rfl, rfl⟩
      go_wp2_with fail
      go_ret2
      exact ⟨_, false, congrArg (fun z : Nat => Ending.returned (.tuple #[.float .f64 z, .bool false])) HF.out.symm, HR.out, HB.out⟩
    · have hgt : ¬ (1024 : Int) < 53 + E2 := by have := HE2.out; omega
      obtain ⟨F, hF⟩ : ∃ F : Nat, (F : Int) = E2 + 1075 := ⟨(E2 + 1075).toNat, by omega⟩
      have hFk : F = k + 2 := by have := HE2.out; omega
      have hFl : F < 2047 := by omega
      have hsh : IntKind.u64.wrap ((E2 + 1075) * 4503599627370496) = ((F * 4503599627370496 : Nat) : Int) := by rw [← hF, IntKind.wrap_u64]; omega
      obtain ⟨Y, hY⟩ : ∃ Y, F * 4503599627370496 = Y := ⟨_, rfl⟩
      have hYl : Y < 18446744073709551616 := by rw [← hY]; exact Nat.lt_of_lt_of_le (Nat.mul_lt_mul_of_pos_right hFl (by omega)) (by omega)
      rw [hY] at hsh
      have hor : bits .or .u64 (Y : Int) 0 = (Y : Int) := by
        rw [show (0 : Int) = ((0 : Nat) : Int) from rfl, u64_or_nat _ _ (by omega) (by omega), Nat.or_zero]
      have hfb := run_frombits (Y : Int)
      rw [Int.toNat_natCast] at hfb
      have HY : Hid (finX (k * 2 ^ (53 - 1) + m) = Y) := Lib.hid (by
        rw [HC.out, row_two, ← hFk, fin_in (Nat.mul_lt_mul_of_pos_right hFl (by omega)), hY])
      clear hF hFk hY hYl hFl
      go_wp2_with fail
      refine (HLN.out _).mono ?_
      rintro e w2 ⟨rfl, hw⟩
      obtain rfl := hw.symm
      go_wp2_with fail
      go_ret2
      exact ⟨_, ex, congrArg (fun z : Nat => Ending.returned (.tuple #[.float .f64 z, .bool ex])) HY.out.symm, HR.out, HB.out⟩
  · have hs53 : (m : Int) / 9007199254740992 = 0 := by omega
    by_cases c52 : 4503599627370496 ≤ m
    · have hs52 : (m : Int) / 4503599627370496 = 1 := by omega
      have HLN := Lib.hid (fun W => len_bits m 53 W (by omega) (bitLen_of (by omega) (by omega) (by omega) (by omega)))
      obtain ⟨r, hr⟩ : ∃ r, m = 4503599627370496 + r := ⟨m - 4503599627370496, by omega⟩
      have hand : bits .and .u64 (m : Int) 4503599627370495 = (r : Int) := by
        have h := and_low (a := m) 52 (by omega) (by omega)
        rw [show ((2 ^ 52 - 1 : Nat) : Int) = 4503599627370495 from rfl] at h
        rw [h]
        have : m % 2 ^ 52 = r := by omega
        rw [this]
      by_cases hov : 2046 ≤ k
      · have hgt : (1024 : Int) < 53 + E := by have := HE.out; omega
        have HF : Hid (finX (k * 2 ^ (53 - 1) + m) = 9218868437227405312) := Lib.hid (by
          rw [hr, row_one]
          exact fin_over (Nat.le_trans (Nat.mul_le_mul_right _ (show 2047 ≤ k + 1 by omega)) (Nat.le_add_right _ _)))
        clear hr
        go_wp2_with fail
        refine (HLN.out _).mono ?_
        rintro e w2 ⟨rfl, hw⟩
        obtain rfl := hw.symm
        go_wp2_with fail
        refine (HI.out _).mono ?_
        rintro e w2 ⟨rfl, rfl⟩
        go_wp2_with fail
        go_ret2
        exact ⟨_, false, congrArg (fun z : Nat => Ending.returned (.tuple #[.float .f64 z, .bool false])) HF.out.symm, HR.out, HB.out⟩
      · have hgt : ¬ (1024 : Int) < 53 + E := by have := HE.out; omega
        obtain ⟨F, hF⟩ : ∃ F : Nat, (F : Int) = E + 1075 := ⟨(E + 1075).toNat, by omega⟩
        have hFk : F = k + 1 := by have := HE.out; omega
        have hFl : F < 2047 := by omega
        have hrl : r < 4503599627370496 := by omega
        have hsh : IntKind.u64.wrap ((E + 1075) * 4503599627370496) = ((4503599627370496 * F : Nat) : Int) := by rw [← hF, IntKind.wrap_u64]; omega
        have hor := or_low (o := r) (c := F) (s := 52) (by omega) (by omega)
        rw [show (2 : Nat) ^ 52 = 4503599627370496 by decide] at hor
        obtain ⟨Y, hY⟩ : ∃ Y, 4503599627370496 * F = Y := ⟨_, rfl⟩
        rw [hY] at hsh hor
        obtain ⟨Z, hZ⟩ : ∃ Z, Y + r = Z := ⟨_, rfl⟩
        rw [hZ] at hor
        have hfb := run_frombits (Z : Int)
        rw [Int.toNat_natCast] at hfb
        have HY : Hid (finX (k * 2 ^ (53 - 1) + m) = Z) := Lib.hid (by
          have hlt : (k + 1) * 4503599627370496 + r < 2047 * 4503599627370496 := by
            have h1 : (k + 1 + 1) * 4503599627370496 ≤ 2047 * 4503599627370496 := Nat.mul_le_mul_right _ (by omega)
            rw [Nat.add_mul (k + 1), Nat.one_mul] at h1
            exact Nat.lt_of_lt_of_le (Nat.add_lt_add_left hrl _) h1
          rw [hr, row_one, fin_in hlt, ← hZ, ← hY, hFk, Nat.mul_comm 4503599627370496])
        clear hF hFk hY hFl hr hZ hrl
        go_wp2_with fail
        refine (HLN.out _).mono ?_
        rintro e w2 ⟨rfl, hw⟩
        obtain rfl := hw.symm
        go_wp2_with fail
        go_ret2
        exact ⟨_, ex, congrArg (fun z : Nat => Ending.returned (.tuple #[.float .f64 z, .bool ex])) HY.out.symm, HR.out, HB.out⟩
    · have hs52 : (m : Int) / 4503599627370496 = 0 := by omega
      have hk0 : k = 0 := by
        rcases Nat.eq_zero_or_pos k with z | z
        · exact z
        · exact absurd (HK.out (by omega)) c52
      obtain ⟨l, hl⟩ : ∃ l, Lib.bitLen m = l := ⟨_, rfl⟩
      have hll : l ≤ 52 := by rw [← hl]; exact bitLen_small (by omega) (by omega)
      have HLN := Lib.hid (fun W => len_bits m l W (by omega) hl)
      have hgt : ¬ (1024 : Int) < (l : Int) + E := by have := HE.out; omega
      have hfb := run_frombits (m : Int)
      rw [Int.toNat_natCast] at hfb
      have HY : Hid (finX (k * 2 ^ (53 - 1) + m) = m) := Lib.hid (by
        rw [hk0, Nat.zero_mul, Nat.zero_add]
        exact fin_in (by omega))
      clear hl hk0
      go_wp2_with fail
      refine (HLN.out _).mono ?_
      rintro e w2 ⟨rfl, hw⟩
      obtain rfl := hw.symm
      go_wp2_with fail
      go_ret2
      exact ⟨_, ex, congrArg (fun z : Nat => Ending.returned (.tuple #[.float .f64 z, .bool ex])) HY.out.symm, HR.out, HB.out⟩
end Go.Proofs.YtbidlkmagbjllaaGreatDoor.Nb

namespace Go.Proofs.YtbidlkmagbjllaaGreatDoor
open Go Go.RowKit Nb Nx

theorem or_first {fr : Nat} (h : fr < 4503599627370496) : bits .or .u64 (fr : Int) 4503599627370496 = ((fr + 4503599627370496 : Nat) : Int) := by
  have := or_high (o := fr) (c := 1) (s := 52) (by omega) (by omega)
  simpa using this
/-- parts under way, whatever the sign -/
structure PartsU (w W : World) (dB : Nat) (g : Bool) (v1 v2 : Value) : Prop where
  r : DecAt W (w.heap.size + 1) (.bool false) (.int .u64 0) (.int .i64 0)
  d : DecAt W dB (.bool g) v1 v2
  f : Fmt W w.heap.size
  b : Below w.heap.size w W
  h : w.heap.size + 1 < dB
theorem PartsU.below {w W W' : World} {dB : Nat} {g : Bool} {v1 v2 : Value} (h : PartsU w W dB g v1 v2) (k : Below W.heap.size W W') : PartsU w W' dB g v1 v2 :=
  ⟨h.r.kept (c := W.heap.size) (Kept.of_below k) (Nat.ne_of_lt h.r.1), h.d.kept (c := W.heap.size) (Kept.of_below k) (Nat.ne_of_lt h.d.1), h.f.below k, back_of' h.b k, h.h⟩
theorem PartsU.set1 {w W : World} {dB : Nat} {g : Bool} {v1 v2 : Value} (h : PartsU w W dB g v1 v2) (v : Value) : PartsU w (W.setCell ⟨dB, 1, none⟩ v) dB g v v2 := by
  have q := h.h
  exact ⟨h.r.kept ((Kept.refl W dB).setCell (o := 1) v) (by omega), h.d.set1 v, h.f.kept ((Kept.refl W dB).setCell (o := 1) v) (by omega), h.b.setCell (p := ⟨dB, 1, none⟩) (by show w.heap.size ≤ dB; omega) v, h.h⟩
theorem PartsU.set2 {w W : World} {dB : Nat} {g : Bool} {v1 v2 : Value} (h : PartsU w W dB g v1 v2) (v : Value) : PartsU w (W.setCell ⟨dB, 2, none⟩ v) dB g v1 v := by
  have q := h.h
  exact ⟨h.r.kept ((Kept.refl W dB).setCell (o := 2) v) (by omega), h.d.set2 v, h.f.kept ((Kept.refl W dB).setCell (o := 2) v) (by omega), h.b.setCell (p := ⟨dB, 2, none⟩) (by show w.heap.size ≤ dB; omega) v, h.h⟩
/-- a finite number's fields: its sign, the exponent's field, the fraction -/
structure Fields (f : Nat) (g : Bool) (e0 fr : Nat) : Prop where
  f64 : f < 18446744073709551616
  sg : sgnV (f : Int) = g
  ex : IntKind.i64.wrap (expV (f : Int)) = (e0 : Int)
  fc : frcV (f : Int) = (fr : Int)
  fl : fr < 4503599627370496
  el : e0 < 2047


set_option maxRecDepth 8000 in
set_option maxHeartbeats 2000000 in
theorem parts_norm (f e0 fr M m t : Nat) (g : Bool) (X0 X : Int) (w : World) (hT : Tab64 w) (hf : Fields f g e0 fr) (he : e0 ≠ 0) (hM : fr + 4503599627370496 = M) (hmt : M = m * 2 ^ t) (hct : Lib.ctz 64 M = t) (ht : t < 64) (hx0 : (e0 : Int) - 1075 = X0) (hx : X0 + (t : Int) = X) :
    Calls Tryz.prog 71 #[.int .u64 (f : Int), fmt] w fun e w' => e = .returned (.tuple #[.agg #[.bool g, .int .u64 (m : Int), .int .i64 X], .int .i64 0]) ∧ Below w.heap.size w w' := by
  have hA1 := (Below.refl w.heap.size w).alloc (Nat.le_refl _) (.cells #[.int .u64 52, .int .i64 2047, .int .i64 1075] 129)
  have hA2 := hA1.alloc hA1.size (.cells #[.bool false, .int .u64 0, .int .i64 0] 76)
  have hF := (Fmt.new w 129).below ((Below.refl _ _).alloc (Nat.le_refl _) (.cells #[.bool false, .int .u64 0, .int .i64 0] 76))
  have hR : DecAt ((w.alloc (.cells #[.int .u64 52, .int .i64 2047, .int .i64 1075] 129)).alloc (.cells #[.bool false, .int .u64 0, .int .i64 0] 76)) (w.heap.size + 1) (.bool false) (.int .u64 0) (.int .i64 0) := by
    have := DecAt.new (w.alloc (.cells #[.int .u64 52, .int .i64 2047, .int .i64 1075] 129)) (.bool false) (.int .u64 0) (.int .i64 0) 76
    simpa using this
  have HSp := Lib.hid (fun W => split_dbl f W)
  rw [hf.sg, hf.ex, hf.fc] at HSp
  have hcl : clsV (f : Int) = 5 := by
    unfold clsV clsE
    rw [hf.ex, if_neg (by have := hf.el; omega), if_neg (by omega)]
  have HCl := Lib.hid (fun W => class_dbl f W)
  rw [hcl] at HCl
  have HA := Lib.hid (And.intro hA2 (And.intro hF hR))
  have HT := Lib.hid hT
  have hor : bits .or .u64 (fr : Int) 4503599627370496 = (M : Int) := by rw [or_first hf.fl, hM]
  have hw0 : wrap64 ((e0 : Int) - 1075) = X0 := by have := hf.el; unfold wrap64; omega
  have hw1 : wrap64 (X0 + (t : Int)) = X := by have := hf.el; unfold wrap64; omega
  have hdv : (M : Int) / 2 ^ t = (m : Int) := by
    have e : (M / 2 ^ t : Nat) = m := by rw [hmt]; exact Nat.mul_div_cancel _ (Nat.pow_pos (by omega))
    rw [← e, Int.natCast_ediv, Int.natCast_pow]; rfl
  have HM : Hid (fr + 4503599627370496 = M ∧ M = m * 2 ^ t ∧ Lib.ctz 64 M = t ∧ t < 64 ∧ fr < 4503599627370496) := Lib.hid ⟨hM, hmt, hct, ht, hf.fl⟩
  clear hA1 hA2 hF hR hT hf hmt hct hcl hx hM hx0 he
  go_enter Tryz.func71, Tryz.ntmps71
  go_wp2_with fail
  refine (HSp.out _).mono ?_
  rintro e W1 ⟨rfl, b1⟩
  have hs1 := HA.out.2.2.1
  have hl1 : w.heap.size + 1 < W1.heap.size := Nat.lt_of_lt_of_le hs1 b1.size
  have HP : Hid (PartsU w (W1.alloc (.cells #[.bool g, .int .u64 (fr : Int), .int .i64 X0] 76)) W1.heap.size g (.int .u64 (fr : Int)) (.int .i64 X0)) := Lib.hid (by
    have k1 := b1
    have hk : Below W1.heap.size W1 (W1.alloc (.cells #[.bool g, .int .u64 (fr : Int), .int .i64 X0] 76)) := (Below.refl _ _).alloc (Nat.le_refl _) _
    have k := back_of' k1 hk
    exact ⟨HA.out.2.2.kept (c := (w.alloc (.cells #[.int .u64 52, .int .i64 2047, .int .i64 1075] 129)).heap.size + 1) (Kept.of_below k) (by simp), DecAt.new W1 _ _ _ _, HA.out.2.1.below k, back_of' HA.out.1 k, hl1⟩)
  obtain ⟨f0, f1, f2, fl⟩ := HA.out.2.1.below b1
  clear b1 HA HSp hs1
  go_wp2_with fail
  refine (HCl.out _).mono ?_
  rintro e W3 ⟨rfl, b3⟩
  have HP := Lib.hid (HP.out.below b3)
  clear b3 f0 f1 f2 fl HCl
  obtain ⟨-, d0, d1, d2, q0, q1, q2⟩ := id HP.out.d
  obtain ⟨f0, f1, f2, fl⟩ := HP.out.f
  go_upto_block 0 with (fail)
  have hcur : Below W3.heap.size W3 W3.drew := (Below.refl _ _).drew
  go_cut [5] from 28 to 47 (fun v wx => v = .int .i64 0 ∧ Hid (PartsU w wx W1.heap.size g (.int .u64 (M : Int)) (.int .i64 X0)))
  case first =>
    go_wp2_with fail
    go_region_with (first | (go_at_call 125; refine (hidden_f _).mono ?_; rintro e W4 ⟨rfl, b4⟩; have HP4 := Lib.hid (HP.out.below (back_of' hcur b4)); obtain ⟨-, y0, y1, y2, p0, p1, p2⟩ := id HP4.out.d; clear b4) | fail)
    all_goals go_wp2_with fail
    all_goals go_meet
    all_goals exact ⟨rfl, Lib.hid (HP4.out.set1 _)⟩
  case rest =>
    obtain ⟨rfl, HP5⟩ := hcut
    clear d0 d1 d2 q0 q1 q2 f0 f1 f2 fl HP hcur
    obtain ⟨-, d0, d1, d2, q0, q1, q2⟩ := id HP5.out.d
    go_wp2_with fail
    refine (tz64_any M t _ (by have := HM.out; omega) (by have := HM.out; omega) (HT.out.below ⟨HP5.out.b.os, HP5.out.b.tape, HP5.out.b.output, HP5.out.b.size, HP5.out.b.block⟩) HM.out.2.2.1).mono ?_
    rintro e W6 ⟨rfl, hw⟩
    obtain rfl := hw
    go_upto_region 15 with (fail)
    have HP8 := Lib.hid ((HP5.out.set1 (.int .u64 (m : Int))).set2 (.int .i64 X))
    clear d0 d1 d2 q0 q1 q2 HP5
    generalize (wc.setCell ⟨W1.heap.size, 1, none⟩ (.int .u64 (m : Int))).setCell ⟨W1.heap.size, 2, none⟩ (.int .i64 X) = W8 at *
    obtain ⟨-, d0, d1, d2, q0, q1, q2⟩ := id HP8.out.d
    obtain ⟨-, r0, r1, r2, g0, g1, g2⟩ := id HP8.out.r
    go_wp2_with fail
    exact bodyPost_ret (by simp [results, Tryz.results71, go_sem, r0, r1, r2]) rfl ⟨rfl, ((HP8.out.b.setCell (p := ⟨w.heap.size + 1, 0, none⟩) (Nat.le_succ _) _).setCell (p := ⟨w.heap.size + 1, 1, none⟩) (Nat.le_succ _) _).setCell (p := ⟨w.heap.size + 1, 2, none⟩) (Nat.le_succ _) _⟩

set_option maxRecDepth 8000 in
set_option maxHeartbeats 2000000 in
theorem parts_sub (f fr m t : Nat) (g : Bool) (X : Int) (w : World) (hT : Tab64 w) (hf : Fields f g 0 fr) (hfr : fr ≠ 0) (hmt : fr = m * 2 ^ t) (hct : Lib.ctz 64 fr = t) (ht : t < 64) (hx : (-1074) + (t : Int) = X) :
    Calls Tryz.prog 71 #[.int .u64 (f : Int), fmt] w fun e w' => e = .returned (.tuple #[.agg #[.bool g, .int .u64 (m : Int), .int .i64 X], .int .i64 0]) ∧ Below w.heap.size w w' := by
  have hA1 := (Below.refl w.heap.size w).alloc (Nat.le_refl _) (.cells #[.int .u64 52, .int .i64 2047, .int .i64 1075] 129)
  have hA2 := hA1.alloc hA1.size (.cells #[.bool false, .int .u64 0, .int .i64 0] 76)
  have hF := (Fmt.new w 129).below ((Below.refl _ _).alloc (Nat.le_refl _) (.cells #[.bool false, .int .u64 0, .int .i64 0] 76))
  have hR : DecAt ((w.alloc (.cells #[.int .u64 52, .int .i64 2047, .int .i64 1075] 129)).alloc (.cells #[.bool false, .int .u64 0, .int .i64 0] 76)) (w.heap.size + 1) (.bool false) (.int .u64 0) (.int .i64 0) := by
    have := DecAt.new (w.alloc (.cells #[.int .u64 52, .int .i64 2047, .int .i64 1075] 129)) (.bool false) (.int .u64 0) (.int .i64 0) 76
    simpa using this
  have HSp := Lib.hid (fun W => split_dbl f W)
  rw [hf.sg, hf.ex, hf.fc] at HSp
  have hcl : clsV (f : Int) = 4 := by
    unfold clsV clsE
    rw [hf.ex, hf.fc, if_neg (by have := hf.el; omega), if_pos (by omega), if_neg (by omega)]
  have HCl := Lib.hid (fun W => class_dbl f W)
  rw [hcl] at HCl
  have HA := Lib.hid (And.intro hA2 (And.intro hF hR))
  have HT := Lib.hid hT
  have hw0 : wrap64 ((0 : Int) - 1075) = -1075 := by unfold wrap64; omega
  have hw1 : wrap64 ((-1074) + (t : Int)) = X := by have := hf.el; unfold wrap64; omega
  have hdv : (fr : Int) / 2 ^ t = (m : Int) := by
    have e : (fr / 2 ^ t : Nat) = m := by rw [hmt]; exact Nat.mul_div_cancel _ (Nat.pow_pos (by omega))
    rw [← e, Int.natCast_ediv, Int.natCast_pow]; rfl
  have HM : Hid (fr = fr ∧ fr = m * 2 ^ t ∧ Lib.ctz 64 fr = t ∧ t < 64 ∧ fr < 4503599627370496 ∧ fr ≠ 0) := Lib.hid ⟨rfl, hmt, hct, ht, hf.fl, hfr⟩
  clear hA1 hA2 hF hR hT hf hmt hct hcl
  go_enter Tryz.func71, Tryz.ntmps71
  go_wp2_with fail
  refine (HSp.out _).mono ?_
  rintro e W1 ⟨rfl, b1⟩
  have hs1 := HA.out.2.2.1
  have hl1 : w.heap.size + 1 < W1.heap.size := Nat.lt_of_lt_of_le hs1 b1.size
  have HP : Hid (PartsU w (W1.alloc (.cells #[.bool g, .int .u64 (fr : Int), .int .i64 (-1075)] 76)) W1.heap.size g (.int .u64 (fr : Int)) (.int .i64 (-1075))) := Lib.hid (by
    have k1 := b1
    have hk : Below W1.heap.size W1 (W1.alloc (.cells #[.bool g, .int .u64 (fr : Int), .int .i64 (-1075)] 76)) := (Below.refl _ _).alloc (Nat.le_refl _) _
    have k := back_of' k1 hk
    exact ⟨HA.out.2.2.kept (c := (w.alloc (.cells #[.int .u64 52, .int .i64 2047, .int .i64 1075] 129)).heap.size + 1) (Kept.of_below k) (by simp), DecAt.new W1 _ _ _ _, HA.out.2.1.below k, back_of' HA.out.1 k, hl1⟩)
  obtain ⟨f0, f1, f2, fl⟩ := HA.out.2.1.below b1
  clear b1 HA HSp hs1
  go_wp2_with fail
  refine (HCl.out _).mono ?_
  rintro e W3 ⟨rfl, b3⟩
  have HP := Lib.hid (HP.out.below b3)
  clear b3 f0 f1 f2 fl HCl
  obtain ⟨-, d0, d1, d2, q0, q1, q2⟩ := id HP.out.d
  obtain ⟨f0, f1, f2, fl⟩ := HP.out.f
  go_upto_region 12 with (fail)
  have HP5 := Lib.hid (HP.out.set2 (.int .i64 (-1074)))
  clear d0 d1 d2 q0 q1 q2 f0 f1 f2 fl HP
  generalize W3.setCell ⟨W1.heap.size, 2, none⟩ (.int .i64 (-1074)) = wc at *
  obtain ⟨-, d0, d1, d2, q0, q1, q2⟩ := id HP5.out.d
  go_wp2_with fail
  refine (tz64_any fr t _ (by have := HM.out; omega) (by have := HM.out; omega) (HT.out.below ⟨HP5.out.b.os, HP5.out.b.tape, HP5.out.b.output, HP5.out.b.size, HP5.out.b.block⟩) HM.out.2.2.1).mono ?_
  rintro e W6 ⟨rfl, hw⟩
  obtain rfl := hw
  go_upto_region 15 with (fail)
  have HP8 := Lib.hid ((HP5.out.set1 (.int .u64 (m : Int))).set2 (.int .i64 X))
  clear d0 d1 d2 q0 q1 q2 HP5
  generalize (wc.setCell ⟨W1.heap.size, 1, none⟩ (.int .u64 (m : Int))).setCell ⟨W1.heap.size, 2, none⟩ (.int .i64 X) = W8 at *
  obtain ⟨-, d0, d1, d2, q0, q1, q2⟩ := id HP8.out.d
  obtain ⟨-, r0, r1, r2, g0, g1, g2⟩ := id HP8.out.r
  go_wp2_with fail
  exact bodyPost_ret (by simp [results, Tryz.results71, go_sem, r0, r1, r2]) rfl ⟨rfl, ((HP8.out.b.setCell (p := ⟨w.heap.size + 1, 0, none⟩) (Nat.le_succ _) _).setCell (p := ⟨w.heap.size + 1, 1, none⟩) (Nat.le_succ _) _).setCell (p := ⟨w.heap.size + 1, 2, none⟩) (Nat.le_succ _) _⟩

set_option maxRecDepth 8000 in
set_option maxHeartbeats 2000000 in
theorem parts_zero (f : Nat) (g : Bool) (w : World) (hf : Fields f g 0 0) :
    Calls Tryz.prog 71 #[.int .u64 (f : Int), fmt] w fun e w' => e = .returned (.tuple #[.agg #[.bool g, .int .u64 0, .int .i64 0], .int .i64 0]) ∧ Below w.heap.size w w' := by
  have hA1 := (Below.refl w.heap.size w).alloc (Nat.le_refl _) (.cells #[.int .u64 52, .int .i64 2047, .int .i64 1075] 129)
  have hA2 := hA1.alloc hA1.size (.cells #[.bool false, .int .u64 0, .int .i64 0] 76)
  have hF := (Fmt.new w 129).below ((Below.refl _ _).alloc (Nat.le_refl _) (.cells #[.bool false, .int .u64 0, .int .i64 0] 76))
  have hR : DecAt ((w.alloc (.cells #[.int .u64 52, .int .i64 2047, .int .i64 1075] 129)).alloc (.cells #[.bool false, .int .u64 0, .int .i64 0] 76)) (w.heap.size + 1) (.bool false) (.int .u64 0) (.int .i64 0) := by
    have := DecAt.new (w.alloc (.cells #[.int .u64 52, .int .i64 2047, .int .i64 1075] 129)) (.bool false) (.int .u64 0) (.int .i64 0) 76
    simpa using this
  have HSp := Lib.hid (fun W => split_dbl f W)
  rw [hf.sg, hf.ex, hf.fc] at HSp
  have hcl : clsV (f : Int) = 3 := by
    unfold clsV clsE
    rw [hf.ex, hf.fc]
    rfl
  have HCl := Lib.hid (fun W => class_dbl f W)
  rw [hcl] at HCl
  have HA := Lib.hid (And.intro hA2 (And.intro hF hR))
  have hw0 : wrap64 ((0 : Int) - 1075) = -1075 := by unfold wrap64; omega
  clear hA1 hA2 hF hR hf hcl
  go_enter Tryz.func71, Tryz.ntmps71
  go_wp2_with fail
  refine (HSp.out _).mono ?_
  rintro e W1 ⟨rfl, b1⟩
  have hs1 := HA.out.2.2.1
  have hl1 : w.heap.size + 1 < W1.heap.size := Nat.lt_of_lt_of_le hs1 b1.size
  have HP : Hid (PartsU w (W1.alloc (.cells #[.bool g, .int .u64 0, .int .i64 (-1075)] 76)) W1.heap.size g (.int .u64 0) (.int .i64 (-1075))) := Lib.hid (by
    have k1 := b1
    have hk : Below W1.heap.size W1 (W1.alloc (.cells #[.bool g, .int .u64 0, .int .i64 (-1075)] 76)) := (Below.refl _ _).alloc (Nat.le_refl _) _
    have k := back_of' k1 hk
    exact ⟨HA.out.2.2.kept (c := (w.alloc (.cells #[.int .u64 52, .int .i64 2047, .int .i64 1075] 129)).heap.size + 1) (Kept.of_below k) (by simp), DecAt.new W1 _ _ _ _, HA.out.2.1.below k, back_of' HA.out.1 k, hl1⟩)
  obtain ⟨f0, f1, f2, fl⟩ := HA.out.2.1.below b1
  clear b1 HA HSp hs1
  go_wp2_with fail
  refine (HCl.out _).mono ?_
  rintro e W3 ⟨rfl, b3⟩
  have HP8 := Lib.hid (HP.out.below b3)
  clear b3 f0 f1 f2 fl HCl HP
  obtain ⟨-, r0, r1, r2, g0, g1, g2⟩ := id HP8.out.r
  go_wp2_with fail
  exact bodyPost_ret (by simp [results, Tryz.results71, go_sem, r0, r1, r2]) rfl ⟨rfl, ((HP8.out.b.setCell (p := ⟨w.heap.size + 1, 0, none⟩) (Nat.le_succ _) _).setCell (p := ⟨w.heap.size + 1, 1, none⟩) (Nat.le_succ _) _).setCell (p := ⟨w.heap.size + 1, 2, none⟩) (Nat.le_succ _) _⟩

set_option maxRecDepth 8000 in
set_option maxHeartbeats 1000000 in
/-- the parts of a number of which the fields' parts are known -/
theorem Parts_of (f : Nat) (g : Bool) (m : Nat) (X : Int) (w : World) (hT : Tab64 w)
    (hp : ∀ W, Tab64 W → Calls Tryz.prog 71 #[.int .u64 (f : Int), fmt] W fun e w' => e = .returned (.tuple #[.agg #[.bool g, .int .u64 (m : Int), .int .i64 X], .int .i64 0]) ∧ Below W.heap.size W w') :
    Calls Tryz.prog 28 #[.float .f64 f] w fun e w' => e = .returned (.tuple #[.agg #[.bool g, .int .u64 (m : Int), .int .i64 X], .int .i64 0]) ∧ Below w.heap.size w w' := by
  have hA := (Below.refl w.heap.size w).alloc (Nat.le_refl _) (.cells #[.bool false, .int .u64 0, .int .i64 0] 76)
  have HA := Lib.hid (And.intro hA (DecAt.new w (.bool false) (.int .u64 0) (.int .i64 0) 76))
  have HT := Lib.hid hT
  have HQ := Lib.hid hp
  have hbits := run_bits f
  clear hA hT hp
  go_enter Tryz.func28, Tryz.ntmps28
  go_wp2_with fail
  refine (of_zero _).mono ?_
  rintro e W1 ⟨rfl, b1⟩
  have H1 := Lib.hid (And.intro (back_of' HA.out.1 b1) (HA.out.2.kept (c := w.heap.size + 1) (Kept.of_below b1) (by omega)))
  clear b1 HA
  go_wp2_with fail
  refine (HQ.out W1 (HT.out.below H1.out.1)).mono ?_
  rintro e W2 ⟨rfl, b2⟩
  have H2 := Lib.hid (And.intro (back_of' H1.out.1 b2) (H1.out.2.kept (c := W1.heap.size) (Kept.of_below b2) (Nat.ne_of_lt H1.out.2.1)))
  clear b2 H1
  obtain ⟨-, r0, r1, r2, g0, g1, g2⟩ := id H2.out.2
  go_wp2_with fail
  exact bodyPost_ret (by simp [results, Tryz.results28, go_sem, r0, r1, r2]) rfl ⟨rfl, by
    repeat' (first | exact H2.out.1 | apply Below.setCell)
    all_goals (show w.heap.size ≤ w.heap.size; omega)⟩
end Go.Proofs.YtbidlkmagbjllaaGreatDoor
