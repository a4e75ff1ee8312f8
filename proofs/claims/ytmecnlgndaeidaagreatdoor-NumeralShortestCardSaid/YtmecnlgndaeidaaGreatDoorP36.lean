/- BR2 BR3 SH3 SH4 BT5 SH7 BN5 in one text. -/
import Derived.Test.YtmecnlgndaeidaaGreatDoorP28
import Derived.Test.YtmecnlgndaeidaaGreatDoorP35
import Derived.Test.YtmecnlgndaeidaaGreatDoorP15
import Derived.Test.YtmecnlgndaeidaaGreatDoorP14
import Derived.Test.YtmecnlgndaeidaaGreatDoorP12
import Derived.Test.YtmecnlgndaeidaaGreatDoorP30

namespace Go.Proofs.YtmecnlgndaeidaaGreatDoor.Nb
open Go Go.RowKit

/-- ahead of the last halving -/
structure RndSt (S T p q K m : Nat) (r : Bool) : Prop where
  m : m = 2 * (p * 2 ^ T) / (q * 2 ^ K)
  r : r = true ↔ 2 * (p * 2 ^ T) % (q * 2 ^ K) ≠ 0
  lo : K = 0 ∨ 2 ^ S * (q * 2 ^ K) ≤ 2 * (p * 2 ^ T)
/-- the number m times 2^(k - T) is the one nearest to p / q -/
def RndAt (S T p q k m : Nat) : Prop := (k = 0 ∨ 2 ^ (S - 1) * (q * 2 ^ k) ≤ p * 2 ^ T) ∧ p * 2 ^ T < 2 ^ S * (q * 2 ^ k) ∧ Near (p * 2 ^ T) (q * 2 ^ k) m
theorem RndAt.rnd {S T p q k m : Nat} (h : RndAt S T p q k m) : Rnd S T p q (k * 2 ^ (S - 1) + m) := ⟨k, m, h.1, h.2.1, h.2.2, rfl⟩
theorem rnd_half' {S T p q K m M : Nat} {r r' : Bool} (hM : m / 2 = M) (h : RndSt S T p q K m r) (hge : 2 ^ (S + 1) ≤ m) (hr : r' = (r || decide (m % 2 = 1))) (hq : 0 < q := by assumption) : RndSt S T p q (K + 1) M r' := by
  have hD : 0 < q * 2 ^ K := Nat.mul_pos hq (Nat.pow_pos (by omega))
  obtain ⟨e1, e2⟩ := half_quo hD h.m
  have e3 : q * 2 ^ (K + 1) = 2 * (q * 2 ^ K) := by rw [Nat.pow_succ, ← Nat.mul_assoc, Nat.mul_comm]
  refine ⟨by rw [e3, e1, hM], ?_, .inr ?_⟩
  · rw [e3, e2, hr, Bool.or_eq_true, h.r, decide_eq_true_iff]
  · rw [e3]
    have h1 : 2 ^ (S + 1) * (q * 2 ^ K) ≤ m * (q * 2 ^ K) := Nat.mul_le_mul_right _ hge
    have h2 : m * (q * 2 ^ K) ≤ 2 * (p * 2 ^ T) := by rw [h.m]; exact Nat.div_mul_le_self _ _
    rw [Nat.pow_succ, Nat.mul_assoc] at h1
    omega
theorem rnd_end {S T p q K m m' : Nat} {r : Bool} (h : RndSt S T p q K m r) (hl : m < 2 ^ (S + 1)) (hS : 0 < S ∧ 0 < q) (hm : m' = if m % 2 = 1 ∧ (r = true ∨ m / 2 % 2 = 1) then m / 2 + 1 else m / 2) : RndAt S T p q K m' := by
  have hD : 0 < q * 2 ^ K := Nat.mul_pos hS.2 (Nat.pow_pos (by omega))
  refine ⟨?_, ?_, ?_⟩
  · rcases h.lo with z | z
    · exact .inl z
    · right
      obtain ⟨s, rfl⟩ : ∃ s, S = s + 1 := ⟨S - 1, by omega⟩
      rw [Nat.add_sub_cancel]
      rw [Nat.pow_succ, Nat.mul_comm (2 ^ s), Nat.mul_assoc] at z
      omega
  · have h1 : 2 * (p * 2 ^ T) < 2 ^ (S + 1) * (q * 2 ^ K) := (Nat.div_lt_iff_lt_mul hD).1 (by rw [← h.m]; exact hl)
    rw [Nat.pow_succ, Nat.mul_comm (2 ^ S), Nat.mul_assoc] at h1
    omega
  · refine near_of hD h.m ?_
    rw [hm]
    simp only [h.r]
theorem rnd_bound {S T p q K m L : Nat} {r : Bool} (h : RndSt S T p q K m r) (hp : p < 18446744073709551616 ^ L) (hq : 0 < q) : K ≤ 64 * L + T + 1 := by
  rcases h.lo with z | z
  · omega
  · have h1 : 2 ^ K ≤ 2 ^ S * (q * 2 ^ K) := by
      have a1 : 1 * 2 ^ K ≤ q * 2 ^ K := Nat.mul_le_mul_right _ hq
      have a2 : 1 * (q * 2 ^ K) ≤ 2 ^ S * (q * 2 ^ K) := Nat.mul_le_mul_right _ (Nat.pow_pos (by omega))
      omega
    have h2 : 2 * (p * 2 ^ T) < 2 ^ (64 * L + T + 1) := by
      rw [pow64] at hp
      have a1 : p * 2 ^ T < 2 ^ (64 * L) * 2 ^ T := Nat.mul_lt_mul_of_pos_right hp (Nat.pow_pos (by omega))
      rw [← Nat.pow_add] at a1
      rw [Nat.pow_succ]
      omega
    have h3 : 2 ^ K < 2 ^ (64 * L + T + 1) := by omega
    have := (Nat.pow_lt_pow_iff_right (a := 2) (by omega)).1 h3
    omega
/-- by how much a fraction's parts are brought up -/
theorem start_of {S T p q K0 α β : Nat} (hp : 0 < p) (hq : 0 < q) (hb : 0 < β) (he : α * (q * 2 ^ K0) = 2 * (p * 2 ^ T) * β) (hup : blen p + T + 1 ≤ blen q + K0 + S + 1) (hlo : K0 = 0 ∨ blen p + T = blen q + S + K0) (hS : S ≤ 60) :
    α / β < 18446744073709551616 ∧ α / β = 2 * (p * 2 ^ T) / (q * 2 ^ K0) ∧ (α % β ≠ 0 ↔ 2 * (p * 2 ^ T) % (q * 2 ^ K0) ≠ 0) ∧ (K0 = 0 ∨ 2 ^ S * (q * 2 ^ K0) ≤ 2 * (p * 2 ^ T)) := by
  have hD : 0 < q * 2 ^ K0 := Nat.mul_pos hq (Nat.pow_pos (by omega))
  obtain ⟨e1, e2⟩ := same_quo hb hD he
  obtain ⟨p1, p2, p3⟩ := blen_spec hp
  obtain ⟨q1, q2, q3⟩ := blen_spec hq
  have hN : 2 * (p * 2 ^ T) = p * 2 ^ (T + 1) := by rw [Nat.pow_succ]; ac_rfl
  refine ⟨?_, e1, not_congr e2, ?_⟩
  · rw [e1]
    refine (Nat.div_lt_iff_lt_mul hD).2 ?_
    rw [hN]
    have a1 : p * 2 ^ (T + 1) < 2 ^ blen p * 2 ^ (T + 1) := Nat.mul_lt_mul_of_pos_right p3 (Nat.pow_pos (by omega))
    have a2 : 2 ^ (blen q - 1) * 2 ^ K0 ≤ q * 2 ^ K0 := Nat.mul_le_mul_right _ q2
    have a3 : 2 ^ 64 * (2 ^ (blen q - 1) * 2 ^ K0) ≤ 2 ^ 64 * (q * 2 ^ K0) := Nat.mul_le_mul_left _ a2
    rw [← Nat.pow_add] at a1
    rw [← Nat.pow_add, ← Nat.pow_add] at a3
    have a4 : 2 ^ (blen p + (T + 1)) ≤ 2 ^ (64 + (blen q - 1 + K0)) := Nat.pow_le_pow_right (by omega) (by omega)
    have e : (2 : Nat) ^ 64 = 18446744073709551616 := by decide
    rw [e] at a3
    omega
  · rcases hlo with z | z
    · exact .inl z
    · right
      rw [hN]
      have a1 : 2 ^ (blen p - 1) * 2 ^ (T + 1) ≤ p * 2 ^ (T + 1) := Nat.mul_le_mul_right _ p2
      have a2 : q * 2 ^ K0 ≤ 2 ^ blen q * 2 ^ K0 := Nat.mul_le_mul_right _ (Nat.le_of_lt q3)
      have a3 : 2 ^ S * (q * 2 ^ K0) ≤ 2 ^ S * (2 ^ blen q * 2 ^ K0) := Nat.mul_le_mul_left _ a2
      rw [← Nat.pow_add] at a1
      rw [← Nat.pow_add, ← Nat.pow_add] at a3
      rw [show S + (blen q + K0) = blen p - 1 + (T + 1) by omega] at a3
      omega

set_option maxRecDepth 8000 in
set_option maxHeartbeats 2000000 in
/-- nearest: of any fraction -/
theorem nearest_any (S T x p q L : Nat) (neg : Bool) (w : World) (hx : RatL w x neg p q L) (hS : 0 < S) (hS1 : S ≤ 60) (hT : T ≤ 2000) (hL : L ≤ 100000) (hL1 : 1 ≤ L) :
    Calls Tryz.prog 71 #[.pointer (some ⟨x, 0, none⟩), .int .i64 (S : Int), .int .i64 (-(T : Int))] w fun e w' => ∃ (k m : Nat) (ex : Bool), e = .returned (.tuple #[.int .u64 (m : Int), .int .i64 ((k : Int) - (T : Int)), .bool ex]) ∧ RndAt S T p q k m ∧ Below w.heap.size w w' := by
  obtain ⟨A1, k1, c1, A2, k2, c2, hb, e0, e1, e3, m1, m2, q0, hk2⟩ := hx.open
  have U1 := Lib.hid (fun n => under_atL x A2 k2 c2 (w.drewN n) e3 hk2)
  have HH := Lib.hid (And.intro (And.intro hS q0) (And.intro (mag_lt m1) q0))
  have HLL := Lib.hid (And.intro hL (And.intro hL1 (And.intro hS1 hT)))
  have hlen := m1.len
  by_cases hp0 : p = 0
  · have hk1 : k1 = 0 := by
      rcases Nat.eq_zero_or_pos k1 with z | z
      · exact z
      · have := hlen.2.1 (by omega); omega
    subst hk1
    have HR : Hid (RndAt S T p q 0 0) := Lib.hid (by
      subst hp0
      refine ⟨.inl rfl, ?_, ?_⟩
      · rw [Nat.zero_mul]; exact Nat.mul_pos (Nat.pow_pos (by omega)) (Nat.mul_pos q0 (Nat.pow_pos (by omega)))
      · exact ⟨by omega, by omega, by omega, by omega⟩)
    have hTI : -(T : Int) = ((0 : Nat) : Int) - (T : Int) := by omega
    have HTI := Lib.hid hTI
    clear m1 m2 hx hlen hp0 hTI
    obtain ⟨E, hE⟩ : ∃ E : Int, -(T : Int) = E := ⟨_, rfl⟩
    rw [hE]
    rw [hE] at HTI
    clear hE
    go_enter Tryz.func71, Tryz.ntmps71
    go_wp2_with fail
    go_quiet ((go_at_call 105; exact quiet_under (U1.out _)))
    go_wp2_with fail
    go_ret3
    exact ⟨0, 0, true, congrArg (fun z : Int => Ending.returned (.tuple #[.int .u64 0, .int .i64 z, .bool true])) HTI.out, HR.out, below_dr (Below.refl _ _) _⟩
  have hk1 : ¬ k1 = 0 := fun z => hp0 (hlen.1 z)
  have HL1 := Lib.hid (fun (W : World) (hW : Below w.heap.size w W) => length_any _ p L W (m1.below hW) (by omega))
  have HL2 := Lib.hid (fun (W : World) (hW : Below w.heap.size w W) => length_any _ q L W (m2.below hW) (by omega))
  have HM := Lib.hid (fun (W : World) (hW : Below w.heap.size w W) => And.intro (m1.below hW) (m2.below hW))
  have hbp : blen p ≤ 64 * L := blen_le (by rw [← pow64]; exact mag_lt m1)
  have hbq : blen q ≤ 64 * L := blen_le (by rw [← pow64]; exact mag_lt m2)
  obtain ⟨lp, hlp⟩ : ∃ l, blen p = l := ⟨_, rfl⟩
  obtain ⟨lq, hlq⟩ : ∃ l, blen q = l := ⟨_, rfl⟩
  obtain ⟨a1, ha1⟩ : ∃ a : Int, (lp : Int) - (lq : Int) = a := ⟨_, rfl⟩
  obtain ⟨a2, ha2⟩ : ∃ a : Int, a1 - (S : Int) = a := ⟨_, rfl⟩
  obtain ⟨a3, ha3⟩ : ∃ a : Int, max a2 (-(T : Int)) = a := ⟨_, rfl⟩
  obtain ⟨E, hE⟩ : ∃ a : Int, a3 - 1 = a := ⟨_, rfl⟩
  obtain ⟨K0, hK0⟩ : ∃ K0 : Nat, (K0 : Int) = E + 1 + (T : Int) := ⟨(E + 1 + (T : Int)).toNat, by omega⟩
  have hup : blen p + T + 1 ≤ blen q + K0 + S + 1 := by omega
  have hlo : K0 = 0 ∨ blen p + T = blen q + S + K0 := by omega
  rw [hlp] at HL1
  rw [hlq] at HL2
  have hEr : -3000 ≤ E ∧ E ≤ 100000000 := by omega
  have hw3 : wrap64 (max ((lp : Int) - (lq : Int) - (S : Int)) (-(T : Int)) - 1) = E := by
    rw [ha1, ha2, ha3]
    unfold wrap64
    omega
  have hlpl : (lp : Int) ≤ 100000000 := by omega
  have hlql : (lq : Int) ≤ 100000000 := by omega
  have hSI : (S : Int) ≤ 60 := by omega
  obtain ⟨lT, hlT⟩ : ∃ E : Int, -(T : Int) = E := ⟨_, rfl⟩
  rw [hlT]
  rw [hlT] at ha3 hw3
  by_cases hneg : E < 0
  · obtain ⟨N, hN⟩ : ∃ N : Nat, (N : Int) = -E := ⟨(-E).toNat, by omega⟩
    obtain rfl : E = -(N : Int) := by omega
    have hNp : 0 < N := by omega
    have hab : p * 2 ^ N * (q * 2 ^ K0) = 2 * (p * 2 ^ T) * q := by
      have e : (2 : Nat) ^ N * 2 ^ K0 = 2 * 2 ^ T := by rw [← Nat.pow_add, show N + K0 = T + 1 by omega, Nat.pow_succ, Nat.mul_comm]
      have : p * 2 ^ N * (q * 2 ^ K0) = p * q * (2 ^ N * 2 ^ K0) := by ac_rfl
      rw [this, e]
      ac_rfl
    have hst := start_of (by omega) q0 q0 hab hup hlo hS1
    obtain ⟨m0, hm0⟩ : ∃ z, p * 2 ^ N / q = z := ⟨_, rfl⟩
    have HLe := Lib.hid (fun (W : World) (hW : Below w.heap.size w W) => left_any _ p N L W (m1.below hW) (by omega))
    have HQ : Hid (0 < q ∧ p * 2 ^ N / q = m0 ∧ m0 < 18446744073709551616 ∧ m0 = 2 * (p * 2 ^ T) / (q * 2 ^ K0) ∧ (p * 2 ^ N % q ≠ 0 ↔ 2 * (p * 2 ^ T) % (q * 2 ^ K0) ≠ 0) ∧ (K0 = 0 ∨ 2 ^ S * (q * 2 ^ K0) ≤ 2 * (p * 2 ^ T)) ∧ -(N : Int) = (K0 : Int) - 1 - (T : Int)) := Lib.hid (by
      rw [hm0] at hst
      exact ⟨q0, hm0, hst.1, hst.2.1, hst.2.2.1, hst.2.2.2, by omega⟩)
    have hNl : N ≤ 3000 := by omega
    clear m1 m2 hx hlp hlq ha1 ha2 hE hK0 hup hlo hbp hbq hlen hst hab hm0 hlT hN ha3 hneg
    go_enter Tryz.func71, Tryz.ntmps71
    go_wp2_with fail
    go_quiet ((go_at_call 105; exact quiet_under (U1.out _)))
    go_wp2_with fail
    have hcur : ∀ n, Below w.heap.size w (w.drewN n) := fun n => below_dr (Below.refl _ _) n
    refine (HL1.out _ (hcur _)).mono ?_
    rintro e w1 ⟨rfl, rfl⟩
    go_wp2_with fail
    refine (HL2.out _ (hcur _)).mono ?_
    rintro e w1 ⟨rfl, rfl⟩
    go_wp2_with fail
    refine (HLe.out _ (hcur _)).mono ?_
    rintro e w1 ⟨v1, rfl, hm1, hb1⟩
    obtain ⟨A5, k5, c5, rfl⟩ := hm1.slice
    have HM1 := Lib.hid (And.intro hm1 (onto (hcur _) hb1))
    clear hm1 hb1
    have HQ1 := Lib.hid (quotient_any _ _ (p * 2 ^ N) q (L + N / 64 + 1) w1 HM1.out.1 ((HM.out _ HM1.out.2).2.more (by omega)) HQ.out.1 (by have := HLL.out; omega) (by omega))
    rw [HQ.out.2.1] at HQ1
    go_wp2_with fail
    refine HQ1.out.mono ?_
    rintro e w2 ⟨A3, k3, c3, A4, k4, c4, rfl, hm3, hm4, hb2⟩
    have HBW := Lib.hid (onto HM1.out.2 hb2)
    have HLo := Lib.hid (low_mag _ _ _ w2 hm3)
    rw [Nat.mod_eq_of_lt HQ.out.2.2.1] at HLo
    obtain ⟨r0, hr0⟩ : ∃ r : Bool, decide (0 < k4) = r := ⟨_, rfl⟩
    have H0 : Hid (RndSt S T p q K0 m0 r0 ∧ -(N : Int) = (K0 : Int) - 1 - (T : Int)) := Lib.hid ⟨⟨HQ.out.2.2.2.1, by
      have h1 := hm4.len
      have h2 := HQ.out.2.2.2.2.1
      rw [← hr0, decide_eq_true_iff, ← h2]
      constructor
      · intro h; exact h1.2.1 (by omega)
      · intro h
        rcases Nat.eq_zero_or_pos k4 with z | z
        · exact absurd (h1.1 z) h
        · omega, HQ.out.2.2.2.2.2.1⟩, HQ.out.2.2.2.2.2.2⟩
    have hm0l := HQ.out.2.2.1
    have HER := Lib.hid hEr
    clear hm3 hm4 hb2 HQ1 HM1 HQ HM HLe hcur
    go_wp2_with fail
    refine HLo.out.mono ?_
    rintro e w3 ⟨rfl, rfl⟩
    clear HLo
    go_wp2_with fail
    try rw [hr0]
    clear hr0
    go_loopw [11, 14, 15] (fun ev mv rv wr => ∃ (K m : Nat) (r : Bool) (E' : Int), ev = .int .i64 E' ∧ mv = .int .u64 (m : Int) ∧ rv = .bool r ∧ m < 18446744073709551616 ∧ w2 = wr ∧ Hid (Hid (RndSt S T p q K m r ∧ E' = (K : Int) - 1 - (T : Int)))) (fun _ mv _ _ => (intOf mv).toNat)
    case atStart => exact ⟨K0, m0, r0, -(N : Int), rfl, rfl, rfl, hm0l, rfl, Lib.hid H0⟩
    case round =>
      clear H0 hm0l
      obtain ⟨K, m, r, E, rfl, rfl, rfl, hml, rfl, HS⟩ := hrel
      have hKb := rnd_bound HS.out.out.1 HH.out.2.1 HH.out.2.2
      have hE := HS.out.out.2
      have hE0 : -3000 ≤ E := by omega
      have hE1 : E ≤ 100000000 := by have := HLL.out; omega
      have hw : wrap64 (E + 1) = E + 1 := by unfold wrap64; omega
      clear hKb hE
      obtain ⟨mq, hmq⟩ : ∃ z, m / 2 ^ (S + 1) = z := ⟨_, rfl⟩
      have hmI : (m : Int) / 2 ^ (S + 1) = (mq : Int) := by rw [← hmq, Int.natCast_ediv, Int.natCast_pow]; rfl
      obtain ⟨M, hM⟩ : ∃ M, m / 2 = M := ⟨_, rfl⟩
      have hM2 : (m : Int) / 2 = (M : Int) := by rw [← hM]; rfl
      by_cases hz : mq = 0
      · have hlt : m < 2 ^ (S + 1) := by
          rcases Nat.lt_or_ge m (2 ^ (S + 1)) with z | z
          · exact z
          · have := Nat.div_pos z (Nat.pow_pos (by omega)); omega
        subst hz
        have HKT := Lib.hid (show E + 1 = (K : Int) - (T : Int) by have := HS.out.out.2; omega)
        have hlt' := Lib.hid hlt
        clear hlt hmq
        by_cases ho : m % 2 = 1
        · have hand : bits .and .u64 (m : Int) 1 = 1 := by rw [and_one_u64 (m : Int) (by omega) (by omega)]; omega
          rcases r with _ | _
          · by_cases ho2 : M % 2 = 1
            · have hand2 : bits .and .u64 (M : Int) 1 = 1 := by rw [and_one_u64 (M : Int) (by omega) (by omega)]; omega
              go_wp2_with fail
              go_ret3
              have hR := rnd_end (m' := (M + 1)) HS.out.out.1 hlt'.out HH.out.1 (by rw [← hM] at ho2 ⊢; rw [if_pos ⟨ho, .inr ho2⟩])
              exact ⟨K, (M + 1), _, congrArg (fun z : Int => Ending.returned (.tuple #[.int .u64 ((((M + 1) : Nat)) : Int), .int .i64 z, .bool false])) HKT.out, hR, HBW.out⟩
            · have hand2 : bits .and .u64 (M : Int) 1 = 0 := by rw [and_one_u64 (M : Int) (by omega) (by omega)]; omega
              go_wp2_with fail
              go_ret3
              have hR := rnd_end (m' := M) HS.out.out.1 hlt'.out HH.out.1 (by rw [← hM] at ho2 ⊢; rw [if_neg (by simp [ho2])])
              exact ⟨K, M, _, congrArg (fun z : Int => Ending.returned (.tuple #[.int .u64 (((M : Nat)) : Int), .int .i64 z, .bool false])) HKT.out, hR, HBW.out⟩
          · skip
            go_wp2_with fail
            go_ret3
            have hR := rnd_end (m' := (M + 1)) HS.out.out.1 hlt'.out HH.out.1 (by rw [← hM, if_pos ⟨ho, .inl rfl⟩])
            exact ⟨K, (M + 1), _, congrArg (fun z : Int => Ending.returned (.tuple #[.int .u64 ((((M + 1) : Nat)) : Int), .int .i64 z, .bool false])) HKT.out, hR, HBW.out⟩
        · have hand : bits .and .u64 (m : Int) 1 = 0 := by rw [and_one_u64 (m : Int) (by omega) (by omega)]; omega
          rcases r with _ | _
          · skip
            go_wp2_with fail
            go_ret3
            have hR := rnd_end (m' := M) HS.out.out.1 hlt'.out HH.out.1 (by rw [← hM, if_neg (by simp [ho])])
            exact ⟨K, M, _, congrArg (fun z : Int => Ending.returned (.tuple #[.int .u64 (((M : Nat)) : Int), .int .i64 z, .bool true])) HKT.out, hR, HBW.out⟩
          · skip
            go_wp2_with fail
            go_ret3
            have hR := rnd_end (m' := M) HS.out.out.1 hlt'.out HH.out.1 (by rw [← hM, if_neg (by simp [ho])])
            exact ⟨K, M, _, congrArg (fun z : Int => Ending.returned (.tuple #[.int .u64 (((M : Nat)) : Int), .int .i64 z, .bool false])) HKT.out, hR, HBW.out⟩
      · have hge : 2 ^ (S + 1) ≤ m := by
          rcases Nat.lt_or_ge m (2 ^ (S + 1)) with z | z
          · exact absurd (Nat.div_eq_of_lt z) (by omega)
          · exact z
        have hpos : 0 < 2 ^ (S + 1) := Nat.pow_pos (by omega)
        have hm1 : 0 < m := by omega
        have hge' := Lib.hid hge
        have hzn : ((mq : Int) != 0) = true := by simp; omega
        clear hge hpos hmq hz
        by_cases ho : m % 2 = 1
        · have hand : bits .and .u64 (m : Int) 1 = 1 := by rw [and_one_u64 (m : Int) (by omega) (by omega)]; omega
          rcases r with _ | _
          · skip
            go_wp2_with fail
            go_roundw
            case rel => exact ⟨K + 1, M, true, E + 1, rfl, by simp, rfl, by omega, trivial, Lib.hid (Lib.hid ⟨rnd_half' hM HS.out.out.1 hge'.out (by simp [ho]), by have := HS.out.out.2; omega⟩)⟩
            case measure => simp [intOf]; omega
          · skip
            go_wp2_with fail
            go_roundw
            case rel => exact ⟨K + 1, M, true, E + 1, rfl, by simp, rfl, by omega, trivial, Lib.hid (Lib.hid ⟨rnd_half' hM HS.out.out.1 hge'.out (by simp [ho]), by have := HS.out.out.2; omega⟩)⟩
            case measure => simp [intOf]; omega
        · have hand : bits .and .u64 (m : Int) 1 = 0 := by rw [and_one_u64 (m : Int) (by omega) (by omega)]; omega
          rcases r with _ | _
          · skip
            go_wp2_with fail
            go_roundw
            case rel => exact ⟨K + 1, M, false, E + 1, rfl, by simp, rfl, by omega, trivial, Lib.hid (Lib.hid ⟨rnd_half' hM HS.out.out.1 hge'.out (by simp [ho]), by have := HS.out.out.2; omega⟩)⟩
            case measure => simp [intOf]; omega
          · skip
            go_wp2_with fail
            go_roundw
            case rel => exact ⟨K + 1, M, true, E + 1, rfl, by simp, rfl, by omega, trivial, Lib.hid (Lib.hid ⟨rnd_half' hM HS.out.out.1 hge'.out (by simp [ho]), by have := HS.out.out.2; omega⟩)⟩
            case measure => simp [intOf]; omega
  · obtain ⟨N, hN⟩ : ∃ N : Nat, (N : Int) = E := ⟨E.toNat, by omega⟩
    have hab : p * (q * 2 ^ K0) = 2 * (p * 2 ^ T) * (q * 2 ^ N) := by
      have e : (2 : Nat) ^ K0 = 2 * 2 ^ T * 2 ^ N := by rw [Nat.mul_comm 2, ← Nat.pow_succ, ← Nat.pow_add, show K0 = T + 1 + N by omega]
      rw [e]
      ac_rfl
    have hst := start_of (by omega) q0 (Nat.mul_pos q0 (Nat.pow_pos (by omega))) hab hup hlo hS1
    obtain ⟨m0, hm0⟩ : ∃ z, p / (q * 2 ^ N) = z := ⟨_, rfl⟩
    have HLe := Lib.hid (fun (W : World) (hW : Below w.heap.size w W) => left_any _ q N L W (m2.below hW) (by omega))
    have HQ : Hid (0 < q * 2 ^ N ∧ p / (q * 2 ^ N) = m0 ∧ m0 < 18446744073709551616 ∧ m0 = 2 * (p * 2 ^ T) / (q * 2 ^ K0) ∧ (p % (q * 2 ^ N) ≠ 0 ↔ 2 * (p * 2 ^ T) % (q * 2 ^ K0) ≠ 0) ∧ (K0 = 0 ∨ 2 ^ S * (q * 2 ^ K0) ≤ 2 * (p * 2 ^ T)) ∧ E = (K0 : Int) - 1 - (T : Int)) := Lib.hid (by
      rw [hm0] at hst
      exact ⟨Nat.mul_pos q0 (Nat.pow_pos (by omega)), hm0, hst.1, hst.2.1, hst.2.2.1, hst.2.2.2, by omega⟩)
    have hNl : N ≤ 100000000 := by omega
    clear m1 m2 hx hlp hlq ha1 ha2 hE hK0 hup hlo hbp hbq hlen hst hab hm0 hlT ha3
    obtain rfl : E = (N : Int) := hN.symm
    clear hN hneg
    go_enter Tryz.func71, Tryz.ntmps71
    go_wp2_with fail
    go_quiet ((go_at_call 105; exact quiet_under (U1.out _)))
    go_wp2_with fail
    have hcur : ∀ n, Below w.heap.size w (w.drewN n) := fun n => below_dr (Below.refl _ _) n
    refine (HL1.out _ (hcur _)).mono ?_
    rintro e w1 ⟨rfl, rfl⟩
    go_wp2_with fail
    refine (HL2.out _ (hcur _)).mono ?_
    rintro e w1 ⟨rfl, rfl⟩
    go_wp2_with fail
    refine (HLe.out _ (hcur _)).mono ?_
    rintro e w1 ⟨v1, rfl, hm1, hb1⟩
    obtain ⟨A5, k5, c5, rfl⟩ := hm1.slice
    have HM1 := Lib.hid (And.intro hm1 (onto (hcur _) hb1))
    clear hm1 hb1
    have HQ1 := Lib.hid (quotient_any _ _ p (q * 2 ^ N) (L + N / 64 + 1) w1 ((HM.out _ HM1.out.2).1.more (by omega)) HM1.out.1 HQ.out.1 (by have := HLL.out; omega) (by omega))
    rw [HQ.out.2.1] at HQ1
    go_wp2_with fail
    refine HQ1.out.mono ?_
    rintro e w2 ⟨A3, k3, c3, A4, k4, c4, rfl, hm3, hm4, hb2⟩
    have HBW := Lib.hid (onto HM1.out.2 hb2)
    have HLo := Lib.hid (low_mag _ _ _ w2 hm3)
    rw [Nat.mod_eq_of_lt HQ.out.2.2.1] at HLo
    obtain ⟨r0, hr0⟩ : ∃ r : Bool, decide (0 < k4) = r := ⟨_, rfl⟩
    have H0 : Hid (RndSt S T p q K0 m0 r0 ∧ (N : Int) = (K0 : Int) - 1 - (T : Int)) := Lib.hid ⟨⟨HQ.out.2.2.2.1, by
      have h1 := hm4.len
      have h2 := HQ.out.2.2.2.2.1
      rw [← hr0, decide_eq_true_iff, ← h2]
      constructor
      · intro h; exact h1.2.1 (by omega)
      · intro h
        rcases Nat.eq_zero_or_pos k4 with z | z
        · exact absurd (h1.1 z) h
        · omega, HQ.out.2.2.2.2.2.1⟩, HQ.out.2.2.2.2.2.2⟩
    have hm0l := HQ.out.2.2.1
    have HER := Lib.hid hEr
    clear hm3 hm4 hb2 HQ1 HM1 HQ HM HLe hcur
    go_wp2_with fail
    refine HLo.out.mono ?_
    rintro e w3 ⟨rfl, rfl⟩
    clear HLo
    go_wp2_with fail
    try rw [hr0]
    clear hr0
    go_loopw [11, 14, 15] (fun ev mv rv wr => ∃ (K m : Nat) (r : Bool) (E' : Int), ev = .int .i64 E' ∧ mv = .int .u64 (m : Int) ∧ rv = .bool r ∧ m < 18446744073709551616 ∧ w2 = wr ∧ Hid (Hid (RndSt S T p q K m r ∧ E' = (K : Int) - 1 - (T : Int)))) (fun _ mv _ _ => (intOf mv).toNat)
    case atStart => exact ⟨K0, m0, r0, (N : Int), rfl, rfl, rfl, hm0l, rfl, Lib.hid H0⟩
    case round =>
      clear H0 hm0l
      obtain ⟨K, m, r, E, rfl, rfl, rfl, hml, rfl, HS⟩ := hrel
      have hKb := rnd_bound HS.out.out.1 HH.out.2.1 HH.out.2.2
      have hE := HS.out.out.2
      have hE0 : -3000 ≤ E := by omega
      have hE1 : E ≤ 100000000 := by have := HLL.out; omega
      have hw : wrap64 (E + 1) = E + 1 := by unfold wrap64; omega
      clear hKb hE
      obtain ⟨mq, hmq⟩ : ∃ z, m / 2 ^ (S + 1) = z := ⟨_, rfl⟩
      have hmI : (m : Int) / 2 ^ (S + 1) = (mq : Int) := by rw [← hmq, Int.natCast_ediv, Int.natCast_pow]; rfl
      obtain ⟨M, hM⟩ : ∃ M, m / 2 = M := ⟨_, rfl⟩
      have hM2 : (m : Int) / 2 = (M : Int) := by rw [← hM]; rfl
      by_cases hz : mq = 0
      · have hlt : m < 2 ^ (S + 1) := by
          rcases Nat.lt_or_ge m (2 ^ (S + 1)) with z | z
          · exact z
          · have := Nat.div_pos z (Nat.pow_pos (by omega)); omega
        subst hz
        have HKT := Lib.hid (show E + 1 = (K : Int) - (T : Int) by have := HS.out.out.2; omega)
        have hlt' := Lib.hid hlt
        clear hlt hmq
        by_cases ho : m % 2 = 1
        · have hand : bits .and .u64 (m : Int) 1 = 1 := by rw [and_one_u64 (m : Int) (by omega) (by omega)]; omega
          rcases r with _ | _
          · by_cases ho2 : M % 2 = 1
            · have hand2 : bits .and .u64 (M : Int) 1 = 1 := by rw [and_one_u64 (M : Int) (by omega) (by omega)]; omega
              go_wp2_with fail
              go_ret3
              have hR := rnd_end (m' := (M + 1)) HS.out.out.1 hlt'.out HH.out.1 (by rw [← hM] at ho2 ⊢; rw [if_pos ⟨ho, .inr ho2⟩])
              exact ⟨K, (M + 1), _, congrArg (fun z : Int => Ending.returned (.tuple #[.int .u64 ((((M + 1) : Nat)) : Int), .int .i64 z, .bool false])) HKT.out, hR, HBW.out⟩
            · have hand2 : bits .and .u64 (M : Int) 1 = 0 := by rw [and_one_u64 (M : Int) (by omega) (by omega)]; omega
              go_wp2_with fail
              go_ret3
              have hR := rnd_end (m' := M) HS.out.out.1 hlt'.out HH.out.1 (by rw [← hM] at ho2 ⊢; rw [if_neg (by simp [ho2])])
              exact ⟨K, M, _, congrArg (fun z : Int => Ending.returned (.tuple #[.int .u64 (((M : Nat)) : Int), .int .i64 z, .bool false])) HKT.out, hR, HBW.out⟩
          · skip
            go_wp2_with fail
            go_ret3
            have hR := rnd_end (m' := (M + 1)) HS.out.out.1 hlt'.out HH.out.1 (by rw [← hM, if_pos ⟨ho, .inl rfl⟩])
            exact ⟨K, (M + 1), _, congrArg (fun z : Int => Ending.returned (.tuple #[.int .u64 ((((M + 1) : Nat)) : Int), .int .i64 z, .bool false])) HKT.out, hR, HBW.out⟩
        · have hand : bits .and .u64 (m : Int) 1 = 0 := by rw [and_one_u64 (m : Int) (by omega) (by omega)]; omega
          rcases r with _ | _
          · skip
            go_wp2_with fail
            go_ret3
            have hR := rnd_end (m' := M) HS.out.out.1 hlt'.out HH.out.1 (by rw [← hM, if_neg (by simp [ho])])
            exact ⟨K, M, _, congrArg (fun z : Int => Ending.returned (.tuple #[.int .u64 (((M : Nat)) : Int), .int .i64 z, .bool true])) HKT.out, hR, HBW.out⟩
          · skip
            go_wp2_with fail
            go_ret3
            have hR := rnd_end (m' := M) HS.out.out.1 hlt'.out HH.out.1 (by rw [← hM, if_neg (by simp [ho])])
            exact ⟨K, M, _, congrArg (fun z : Int => Ending.returned (.tuple #[.int .u64 (((M : Nat)) : Int), .int .i64 z, .bool false])) HKT.out, hR, HBW.out⟩
      · have hge : 2 ^ (S + 1) ≤ m := by
          rcases Nat.lt_or_ge m (2 ^ (S + 1)) with z | z
          · exact absurd (Nat.div_eq_of_lt z) (by omega)
          · exact z
        have hpos : 0 < 2 ^ (S + 1) := Nat.pow_pos (by omega)
        have hm1 : 0 < m := by omega
        have hge' := Lib.hid hge
        have hzn : ((mq : Int) != 0) = true := by simp; omega
        clear hge hpos hmq hz
        by_cases ho : m % 2 = 1
        · have hand : bits .and .u64 (m : Int) 1 = 1 := by rw [and_one_u64 (m : Int) (by omega) (by omega)]; omega
          rcases r with _ | _
          · skip
            go_wp2_with fail
            go_roundw
            case rel => exact ⟨K + 1, M, true, E + 1, rfl, by simp, rfl, by omega, trivial, Lib.hid (Lib.hid ⟨rnd_half' hM HS.out.out.1 hge'.out (by simp [ho]), by have := HS.out.out.2; omega⟩)⟩
            case measure => simp [intOf]; omega
          · skip
            go_wp2_with fail
            go_roundw
            case rel => exact ⟨K + 1, M, true, E + 1, rfl, by simp, rfl, by omega, trivial, Lib.hid (Lib.hid ⟨rnd_half' hM HS.out.out.1 hge'.out (by simp [ho]), by have := HS.out.out.2; omega⟩)⟩
            case measure => simp [intOf]; omega
        · have hand : bits .and .u64 (m : Int) 1 = 0 := by rw [and_one_u64 (m : Int) (by omega) (by omega)]; omega
          rcases r with _ | _
          · skip
            go_wp2_with fail
            go_roundw
            case rel => exact ⟨K + 1, M, false, E + 1, rfl, by simp, rfl, by omega, trivial, Lib.hid (Lib.hid ⟨rnd_half' hM HS.out.out.1 hge'.out (by simp [ho]), by have := HS.out.out.2; omega⟩)⟩
            case measure => simp [intOf]; omega
          · skip
            go_wp2_with fail
            go_roundw
            case rel => exact ⟨K + 1, M, true, E + 1, rfl, by simp, rfl, by omega, trivial, Lib.hid (Lib.hid ⟨rnd_half' hM HS.out.out.1 hge'.out (by simp [ho]), by have := HS.out.out.2; omega⟩)⟩
            case measure => simp [intOf]; omega
end Go.Proofs.YtmecnlgndaeidaaGreatDoor.Nb

namespace Go.Proofs.YtmecnlgndaeidaaGreatDoor.Nb
open Go Go.RowKit

/-- infinite beyond the greatest -/
def finX (X : Nat) : Nat := if X < 9218868437227405312 then X else 9218868437227405312
theorem bitLen_of {m l : Nat} (h0 : 0 < l) (hl : l ≤ 64) (h1 : 2 ^ (l - 1) ≤ m) (h2 : m < 2 ^ l) : Lib.bitLen m = l := by
  have hm : 0 < m := by have : 0 < 2 ^ (l - 1) := Nat.pow_pos (by omega); omega
  have h64 : m < 2 ^ 64 := Nat.lt_of_lt_of_le h2 (Nat.pow_le_pow_right (by omega) hl)
  obtain ⟨b1, b2, b3⟩ := Nx.bit_spec 64 m hm h64 (by omega)
  have c1 : 2 ^ (l - 1) < 2 ^ Lib.bitLen m := by omega
  have c2 : 2 ^ (Lib.bitLen m - 1) < 2 ^ l := by omega
  have d1 := (Nat.pow_lt_pow_iff_right (a := 2) (by omega)).1 c1
  have d2 := (Nat.pow_lt_pow_iff_right (a := 2) (by omega)).1 c2
  omega
theorem bitLen_small {m l : Nat} (hl : l ≤ 64) (h2 : m < 2 ^ l) : Lib.bitLen m ≤ l := by
  rcases Nat.eq_zero_or_pos m with h | h
  · subst h
    have : Lib.bitLen 0 = 0 := by decide
    omega
  · have h64 : m < 2 ^ 64 := Nat.lt_of_lt_of_le h2 (Nat.pow_le_pow_right (by omega) hl)
    obtain ⟨b1, b2, b3⟩ := Nx.bit_spec 64 m h h64 (by omega)
    have c2 : 2 ^ (Lib.bitLen m - 1) < 2 ^ l := by omega
    have d2 := (Nat.pow_lt_pow_iff_right (a := 2) (by omega)).1 c2
    omega
theorem and_low {a : Nat} (k : Nat) (h : a < 18446744073709551616) (hk : k ≤ 63) : bits .and .u64 (a : Int) ((2 ^ k - 1 : Nat) : Int) = ((a % 2 ^ k : Nat) : Int) := by
  have hb : 2 ^ k - 1 < 18446744073709551616 := by
    have := Nat.pow_le_pow_right (n := 2) (by omega) hk
    have e : (2 : Nat) ^ 63 = 9223372036854775808 := by decide
    omega
  rw [u64_and _ _ (by omega) (by omega) (by omega) (by omega), Int.toNat_natCast, Int.toNat_natCast, Nat.and_two_pow_sub_one_eq_mod]
theorem or_low {o c s : Nat} (ho : o < 2 ^ s) (hc : 2 ^ s * c + 2 ^ s ≤ 18446744073709551616) : bits .or .u64 ((2 ^ s * c : Nat) : Int) (o : Int) = ((2 ^ s * c + o : Nat) : Int) := by
  rw [u64_or_nat _ _ (by omega) (by omega)]
  rw [Nat.mul_comm, show c * 2 ^ s = c <<< s by rw [Nat.shiftLeft_eq], ← Nat.shiftLeft_add_eq_or_of_lt ho]
theorem inf_one (w : World) : Calls Tryz.prog 72 #[.int .i64 1] w fun e w' => e = .returned (.float .f64 9218868437227405312) ∧ w' = w := by
  have hfb := run_frombits 9218868437227405312
  go_enter Tryz.func72, Tryz.ntmps72
  go_wp2_with fail
  go_ret
  exact ⟨rfl, rfl⟩

/-- the bits of a number of 53 bits -/
theorem row_two (k : Nat) : k * 2 ^ (53 - 1) + 9007199254740992 = (k + 2) * 4503599627370496 := (Nat.add_mul k 2 4503599627370496).symm
theorem row_one (k r : Nat) : k * 2 ^ (53 - 1) + (4503599627370496 + r) = (k + 1) * 4503599627370496 + r := by
  rw [Nat.add_mul, Nat.one_mul, Nat.add_assoc]
theorem fin_over {X : Nat} (h : 2047 * 4503599627370496 ≤ X) : finX X = 9218868437227405312 := by
  unfold finX
  exact if_neg (Nat.not_lt.2 h)
theorem fin_in {X : Nat} (h : X < 2047 * 4503599627370496) : finX X = X := by
  unfold finX
  exact if_pos h

set_option maxRecDepth 8000 in
set_option maxHeartbeats 4000000 in
theorem float64_any (x p q L : Nat) (w : World) (hx : RatL w x false p q L) (hL : L ≤ 100000) (hL1 : 1 ≤ L) :
    Calls Tryz.prog 23 #[.pointer (some ⟨x, 0, none⟩)] w fun e w' => ∃ (X : Nat) (ex : Bool), e = .returned (.tuple #[.float .f64 (finX X), .bool ex]) ∧ Rnd 53 1074 p q X ∧ Below w.heap.size w w' := by
  have HN : Hid (Calls Tryz.prog 71 #[.pointer (some ⟨x, 0, none⟩), .int .i64 53, .int .i64 (-1074)] w fun e w' => ∃ (k m : Nat) (ex : Bool), e = .returned (.tuple #[.int .u64 (m : Int), .int .i64 ((k : Int) - ((1074 : Nat) : Int)), .bool ex]) ∧ RndAt 53 1074 p q k m ∧ Below w.heap.size w w') := Lib.hid (nearest_any 53 1074 x p q L false w hx (by omega) (by omega) (by omega) hL hL1)
  obtain ⟨A1, k1, c1, A2, k2, c2, hb, e0, -, -, m1, -, q0, -⟩ := hx.open
  have HP := Lib.hid (And.intro (mag_lt m1) (And.intro q0 hL))
  have HI := Lib.hid (fun W => inf_one W)
  clear hx m1 q0 hL hL1
  go_enter Tryz.func23, Tryz.ntmps23
  go_wp2_with fail
  refine HN.out.mono ?_
  rintro e w1 ⟨k, m, ex, rfl, hr, hb1⟩
  have y0 := (hb1.cell (p := ⟨x, 0, none⟩) (by exact hb)).trans e0
  have HB := Lib.hid hb1
  have HR := Lib.hid hr.rnd
  have hD : 0 < q * 2 ^ k := Nat.mul_pos HP.out.2.1 (Nat.pow_pos (by omega))
  have hm53 : m ≤ 9007199254740992 := by
    have := near_le hr.2.2 hr.2.1
    have e : (2 : Nat) ^ 53 = 9007199254740992 := by decide
    omega
  have hk52 : k ≠ 0 → 4503599627370496 ≤ m := fun hk => by
    have := near_ge hr.2.2 hD (hr.1.resolve_left hk)
    have e : (2 : Nat) ^ (53 - 1) = 4503599627370496 := by decide
    omega
  have hkl : k ≤ 64 * L + 1074 := by
    rcases hr.1 with z | z
    · omega
    · have a1 : 2 ^ k ≤ 2 ^ (53 - 1) * (q * 2 ^ k) := by
        have a1 : 1 * 2 ^ k ≤ q * 2 ^ k := Nat.mul_le_mul_right _ HP.out.2.1
        have a2 : 1 * (q * 2 ^ k) ≤ 2 ^ (53 - 1) * (q * 2 ^ k) := Nat.mul_le_mul_right _ (Nat.pow_pos (by omega))
        omega
      have a2' : ∀ T : Nat, p * 2 ^ T < 2 ^ (64 * L + T) := fun T => by
        rw [Nat.pow_add]
        exact Nat.mul_lt_mul_of_pos_right (by rw [← pow64]; exact HP.out.1) (Nat.two_pow_pos T)
      have a2 := a2' 1074
      have a3 : 2 ^ k < 2 ^ (64 * L + 1074) := Nat.lt_of_le_of_lt a1 (Nat.lt_of_le_of_lt z a2)
      have := (Nat.pow_lt_pow_iff_right (a := 2) (by omega)).1 a3
      omega
  have hk7 : k ≤ 10000000 := by have := HP.out.2.2; omega
  obtain ⟨E, hE⟩ : ∃ E : Int, (k : Int) - ((1074 : Nat) : Int) = E := ⟨_, rfl⟩
  rw [hE]
  have HE := Lib.hid hE
  have hE0 : -1074 ≤ E := by omega
  have hE1 : E ≤ 10000000 := by omega
  have HK := Lib.hid hk52
  clear hr hb1 hD hkl hE HN hk52
  by_cases c53 : m = 9007199254740992
  · have HC := Lib.hid c53
    obtain ⟨M, hM⟩ : ∃ M : Nat, M = 4503599627370496 := ⟨_, rfl⟩
    have hs53 : (m : Int) / 9007199254740992 = 1 := by omega
    have hdv : (m : Int) / 2 = (M : Int) := by omega
    have hdw : (M : Int) / 4503599627370496 = 1 := by omega
    have HLN := Lib.hid (fun W => len_bits M 53 W (by rw [hM]; decide) (by rw [hM]; decide))
    have hand : bits .and .u64 (M : Int) 4503599627370495 = 0 := by rw [hM]; decide
    have hMl : M ≤ 4503599627370496 := by omega
    clear hM c53
    obtain ⟨E2, hE2⟩ : ∃ E2, E + 1 = E2 := ⟨_, rfl⟩
    have hw1 : wrap64 (E + 1) = E2 := by unfold wrap64; omega
    have hE20 : -1074 ≤ E2 := by omega
    have hE21 : E2 ≤ 10000001 := by omega
    have HE2 : Hid (E2 = (k : Int) - 1073) := Lib.hid (by have := HE.out; omega)
    clear hE0 hE1 hE2
    by_cases hov : 2045 ≤ k
    · have hgt : (1024 : Int) < 53 + E2 := by have := HE2.out; omega
      have HF : Hid (finX (k * 2 ^ (53 - 1) + m) = 9218868437227405312) := Lib.hid (by
        rw [HC.out, row_two]
        exact fin_over (Nat.mul_le_mul_right _ (by omega)))
      go_wp2_with fail
      refine (HLN.out _).mono ?_
      rintro e w2 ⟨rfl, hw⟩
      obtain rfl := hw.symm
      go_wp2_with fail
      refine (HI.out _).mono ?_
      rintro e w2 ⟨rfl, rfl⟩
      go_wp2_with fail
      go_ret2
      exact ⟨_, false, congrArg (fun z : Nat => Ending.returned (.tuple #[.float .f64 z, .bool false])) HF.out.symm, HR.out, HB.out⟩
    · have hgt : ¬ (1024 : Int) < 53 + E2 := by have := HE2.out; omega
      obtain ⟨F, hF⟩ : ∃ F : Nat, (F : Int) = E2 + 1075 := ⟨(E2 + 1075).toNat, by omega⟩
      have hFk : F = k + 2 := by have := HE2.out; omega
      have hFl : F < 2047 := by omega
      have hsh : IntKind.u64.wrap ((E2 + 1075) * 4503599627370496) = ((F * 4503599627370496 : Nat) : Int) := by rw [← hF, IntKind.wrap_u64]; omega
      obtain ⟨Y, hY⟩ : ∃ Y, F * 4503599627370496 = Y := ⟨_, rfl⟩
      have hYl : Y < 18446744073709551616 := by rw [← hY]; exact Nat.lt_of_lt_of_le (Nat.mul_lt_mul_of_pos_right hFl (by omega)) (by omega)
      rw [hY] at hsh
      have hor : bits .or .u64 (Y : Int) 0 = (Y : Int) := by
        rw [show (0 : Int) = ((0 : Nat) : Int) from rfl, u64_or_nat _ _ (by omega) (by omega), Nat.or_zero]
      have hfb := run_frombits (Y : Int)
      rw [Int.toNat_natCast] at hfb
      have HY : Hid (finX (k * 2 ^ (53 - 1) + m) = Y) := Lib.hid (by
        rw [HC.out, row_two, ← hFk, fin_in (Nat.mul_lt_mul_of_pos_right hFl (by omega)), hY])
      clear hF hFk hY hYl hFl
      go_wp2_with fail
      refine (HLN.out _).mono ?_
      rintro e w2 ⟨rfl, hw⟩
      obtain rfl := hw.symm
      go_wp2_with fail
      go_ret2
      exact ⟨_, ex, congrArg (fun z : Nat => Ending.returned (.tuple #[.float .f64 z, .bool ex])) HY.out.symm, HR.out, HB.out⟩
  · have hs53 : (m : Int) / 9007199254740992 = 0 := by omega
    by_cases c52 : 4503599627370496 ≤ m
    · have hs52 : (m : Int) / 4503599627370496 = 1 := by omega
      have HLN := Lib.hid (fun W => len_bits m 53 W (by omega) (bitLen_of (by omega) (by omega) (by omega) (by omega)))
      obtain ⟨r, hr⟩ : ∃ r, m = 4503599627370496 + r := ⟨m - 4503599627370496, by omega⟩
      have hand : bits .and .u64 (m : Int) 4503599627370495 = (r : Int) := by
        have h := and_low (a := m) 52 (by omega) (by omega)
        rw [show ((2 ^ 52 - 1 : Nat) : Int) = 4503599627370495 from rfl] at h
        rw [h]
        have : m % 2 ^ 52 = r := by omega
        rw [this]
      by_cases hov : 2046 ≤ k
      · have hgt : (1024 : Int) < 53 + E := by have := HE.out; omega
        have HF : Hid (finX (k * 2 ^ (53 - 1) + m) = 9218868437227405312) := Lib.hid (by
          rw [hr, row_one]
          exact fin_over (Nat.le_trans (Nat.mul_le_mul_right _ (show 2047 ≤ k + 1 by omega)) (Nat.le_add_right _ _)))
        clear hr
        go_wp2_with fail
        refine (HLN.out _).mono ?_
        rintro e w2 ⟨rfl, hw⟩
        obtain rfl := hw.symm
        go_wp2_with fail
        refine (HI.out _).mono ?_
        rintro e w2 ⟨rfl, rfl⟩
        go_wp2_with fail
        go_ret2
        exact ⟨_, false, congrArg (fun z : Nat => Ending.returned (.tuple #[.float .f64 z, .bool false])) HF.out.symm, HR.out, HB.out⟩
      · have hgt : ¬ (1024 : Int) < 53 + E := by have := HE.out; omega
        obtain ⟨F, hF⟩ : ∃ F : Nat, (F : Int) = E + 1075 := ⟨(E + 1075).toNat, by omega⟩
        have hFk : F = k + 1 := by have := HE.out; omega
        have hFl : F < 2047 := by omega
        have hrl : r < 4503599627370496 := by omega
        have hsh : IntKind.u64.wrap ((E + 1075) * 4503599627370496) = ((4503599627370496 * F : Nat) : Int) := by rw [← hF, IntKind.wrap_u64]; omega
        have hor := or_low (o := r) (c := F) (s := 52) (by omega) (by omega)
        rw [show (2 : Nat) ^ 52 = 4503599627370496 by decide] at hor
        obtain ⟨Y, hY⟩ : ∃ Y, 4503599627370496 * F = Y := ⟨_, rfl⟩
        rw [hY] at hsh hor
        obtain ⟨Z, hZ⟩ : ∃ Z, Y + r = Z := ⟨_, rfl⟩
        rw [hZ] at hor
        have hfb := run_frombits (Z : Int)
        rw [Int.toNat_natCast] at hfb
        have HY : Hid (finX (k * 2 ^ (53 - 1) + m) = Z) := Lib.hid (by
          have hlt : (k + 1) * 4503599627370496 + r < 2047 * 4503599627370496 := by
            have h1 : (k + 1 + 1) * 4503599627370496 ≤ 2047 * 4503599627370496 := Nat.mul_le_mul_right _ (by omega)
            rw [Nat.add_mul (k + 1), Nat.one_mul] at h1
            exact Nat.lt_of_lt_of_le (Nat.add_lt_add_left hrl _) h1
          rw [hr, row_one, fin_in hlt, ← hZ, ← hY, hFk, Nat.mul_comm 4503599627370496])
        clear hF hFk hY hFl hr hZ hrl
        go_wp2_with fail
        refine (HLN.out _).mono ?_
        rintro e w2 ⟨rfl, hw⟩
        obtain rfl := hw.symm
        go_wp2_with fail
        go_ret2
        exact ⟨_, ex, congrArg (fun z : Nat => Ending.returned (.tuple #[.float .f64 z, .bool ex])) HY.out.symm, HR.out, HB.out⟩
    · have hs52 : (m : Int) / 4503599627370496 = 0 := by omega
      have hk0 : k = 0 := by
        rcases Nat.eq_zero_or_pos k with z | z
        · exact z
        · exact absurd (HK.out (by omega)) c52
      obtain ⟨l, hl⟩ : ∃ l, Lib.bitLen m = l := ⟨_, rfl⟩
      have hll : l ≤ 52 := by rw [← hl]; exact bitLen_small (by omega) (by omega)
      have HLN := Lib.hid (fun W => len_bits m l W (by omega) hl)
      have hgt : ¬ (1024 : Int) < (l : Int) + E := by have := HE.out; omega
      have hfb := run_frombits (m : Int)
      rw [Int.toNat_natCast] at hfb
      have HY : Hid (finX (k * 2 ^ (53 - 1) + m) = m) := Lib.hid (by
        rw [hk0, Nat.zero_mul, Nat.zero_add]
        exact fin_in (by omega))
      clear hl hk0
      go_wp2_with fail
      refine (HLN.out _).mono ?_
      rintro e w2 ⟨rfl, hw⟩
      obtain rfl := hw.symm
      go_wp2_with fail
      go_ret2
      exact ⟨_, ex, congrArg (fun z : Nat => Ending.returned (.tuple #[.float .f64 z, .bool ex])) HY.out.symm, HR.out, HB.out⟩
end Go.Proofs.YtmecnlgndaeidaaGreatDoor.Nb

namespace Go.Proofs.YtmecnlgndaeidaaGreatDoor.Nb
open Go Go.RowKit

/-- == of what a fraction is rounded to and a finite double from 0 on -/
theorem fin_same {X B : Nat} (hB : B < 9218868437227405312) : (FloatKind.f64.format.order (finX X) B == some Ordering.eq) = decide (X = B) := by
  rcases Nat.lt_or_ge X 9218868437227405312 with h | h
  · have e := Nx.order_fl (a := false) (b := false) h hB
    have e1 : Nx.fl false X = X := by simp [Nx.fl]
    have e2 : Nx.fl false B = B := by simp [Nx.fl]
    rw [e1, e2] at e
    rw [fin_in h, e]
    unfold Nx.sv
    simp only [Bool.false_eq_true, if_false]
    rcases Nat.lt_trichotomy X B with q | q | q
    · rw [Int.compare_eq_lt.2 (by omega), decide_eq_false (by omega)]; rfl
    · rw [q]; simp
    · rw [Int.compare_eq_gt.2 (by omega), decide_eq_false (by omega)]; rfl
  · have e1 : finX X = 9218868437227405312 := by unfold finX; rw [if_neg (by omega)]
    have e2 : Nx.fl false B = B := by simp [Nx.fl]
    have e3 := Nx.read_fl (a := false) hB
    rw [e2] at e3
    rw [e1, decide_eq_false (by omega)]
    show (Ieee.double.order 9218868437227405312 B == some Ordering.eq) = false
    unfold Ieee.Format.order
    have e4 : Ieee.double.read 9218868437227405312 = .infinity false := by rw [Nx.read_cases]; rfl
    rw [e3, e4]
    rfl

set_option maxRecDepth 8000 in
theorem again_any (z xv x0 B P Q L : Nat) (w : World) (hx : RatL w z false P Q L) (hL : L ≤ 100000) (hL1 : 1 ≤ L) (hv : w.cell? ⟨xv, 0, none⟩ = some (.float .f64 x0)) (hb : xv < w.heap.size)
    (HA : Hid (∀ W, Calls Tryz.prog 8 #[.float .f64 x0] W fun e w' => e = .returned (.float .f64 B) ∧ w' = W)) (hQ : 0 < Q) (hB : B < 9218868437227405312) :
    Calls Tryz.prog 22 #[.pointer (some ⟨z, 0, none⟩), .pointer (some ⟨xv, 0, none⟩)] w fun e w' => ∃ r : Bool, e = .returned (.bool r) ∧ (r = true ↔ Rnd 53 1074 P Q B) ∧ Below w.heap.size w w' := by
  have HF := Lib.hid (float64_any z P Q L w hx hL hL1)
  clear hx
  go_enter Tryz.func22, Tryz.ntmps22
  go_wp2_with fail
  refine HF.out.mono ?_
  rintro e w1 ⟨X, ex, rfl, hX, b1⟩
  have c1 := (b1.cell (p := ⟨xv, 0, none⟩) (by exact hb)).trans hv
  have HB1 := Lib.hid b1
  have HX := Lib.hid hX
  clear b1 hX
  go_wp2_with fail
  refine (HA.out w1).mono ?_
  rintro e w2 ⟨rfl, hw⟩
  obtain rfl := hw.symm
  go_wp2_with fail
  go_ret
  refine ⟨_, rfl, ?_, HB1.out⟩
  show (FloatKind.f64.format.order (finX X) B == some Ordering.eq) = true ↔ _
  rw [fin_same hB, decide_eq_true_eq]
  constructor
  · intro h; exact h ▸ HX.out
  · intro h; exact rnd_eq HX.out h (by omega) hQ hQ rfl
end Go.Proofs.YtmecnlgndaeidaaGreatDoor.Nb

namespace Go.Proofs.YtmecnlgndaeidaaGreatDoor.Nb
open Go Go.RowKit

set_option maxRecDepth 8000 in
set_option maxHeartbeats 2000000 in
/-- the closure read: a digit string's number, times the unit, is read again as the number -/
theorem read_any' (b n r s P Q ca cu u xv L L' : Nat) (R : Prop) (w : World) (hn : IntN w b 0 false n) (h0 : 0 < n) (ha : w.cell? ⟨ca, 0, none⟩ = some (.func (.func 22) #[] #[.pointer (some ⟨xv, 0, none⟩)])) (hca : ca < w.heap.size)
    (hc : w.cell? ⟨cu, 0, none⟩ = some (.pointer (some ⟨u, 0, none⟩))) (hcu : cu < w.heap.size) (hu : RatL w u false r s L)
    (hP : n / Nat.gcd n s * (r / Nat.gcd r 1) = P) (hQ : 1 / Nat.gcd r 1 * (s / Nat.gcd n s) = Q) (hPl : P < 18446744073709551616 ^ L') (hQl : Q < 18446744073709551616 ^ L') (hQ0 : 0 < Q) (hL : L ≤ 16777216 ∧ 1 ≤ L)
    (HG : Hid (∀ (z : Nat) (W : World), Below w.heap.size w W → RatL W z false P Q L' → Calls Tryz.prog 22 #[.pointer (some ⟨z, 0, none⟩), .pointer (some ⟨xv, 0, none⟩)] W fun e w' => ∃ r : Bool, e = .returned (.bool r) ∧ (r = true ↔ R) ∧ Below W.heap.size W w')) :
    Calls Tryz.prog 60 #[.pointer (some ⟨b, 0, none⟩), .pointer (some ⟨ca, 0, none⟩), .pointer (some ⟨cu, 0, none⟩)] w fun e w' => ∃ r : Bool, e = .returned (.bool r) ∧ (r = true ↔ R) ∧ Below w.heap.size w w' := by
  have HS := Lib.hid (sign_pos b 0 n w hn h0)
  have HE := Lib.hid (And.intro hP (And.intro hQ (And.intro hPl (And.intro hQl (And.intro hQ0 hL)))))
  have HN := Lib.hid (And.intro hn hu)
  clear hn hu hP hQ hPl hQl hQ0 hL
  go_enter Tryz.func60, Tryz.ntmps60
  go_wp2_with fail
  have hcur : Below w.heap.size w w.drew := (Below.refl _ _).drew
  have HSC := Lib.hid (fun (V : World) (hV : Below w.heap.size w V) => (show V.cell? ⟨ca, 0, none⟩ = some (.func (.func 22) #[] #[.pointer (some ⟨xv, 0, none⟩)]) ∧ V.cell? ⟨cu, 0, none⟩ = some (.pointer (some ⟨u, 0, none⟩)) from ⟨(hV.cell (p := ⟨ca, 0, none⟩) (by exact hca)).trans ha, (hV.cell (p := ⟨cu, 0, none⟩) (by exact hcu)).trans hc⟩))
  have H1 : Hid (RSlot ((w.drew.alloc (.cells #[.bool false, .slice none 0 0, .bool false, .slice none 0 0] 107)).alloc (.cells #[.bool false, .slice none 0 0, .bool false, .slice none 0 0] 107)) (w.heap.size + 1)) := Lib.hid (by have := RSlot.new (w.drew.alloc (.cells #[.bool false, .slice none 0 0, .bool false, .slice none 0 0] 107)) 107; simpa using this)
  have H2 : Hid (RSlot ((w.drew.alloc (.cells #[.bool false, .slice none 0 0, .bool false, .slice none 0 0] 107)).alloc (.cells #[.bool false, .slice none 0 0, .bool false, .slice none 0 0] 107)) w.heap.size) := Lib.hid ((RSlot.new w.drew 107).below ((Below.refl _ _).alloc (Nat.le_refl _) _) (Nat.le_refl _))
  have H3 : Hid (RSlot (w.drew.alloc (.cells #[.bool false, .slice none 0 0, .bool false, .slice none 0 0] 107)) w.heap.size) := Lib.hid (RSlot.new w.drew 107)
  go_region_held3 (fun w' => w'.cell? ⟨ca, 0, none⟩ = some (.func (.func 22) #[] #[.pointer (some ⟨xv, 0, none⟩)]) ∧ w'.cell? ⟨cu, 0, none⟩ = some (.pointer (some ⟨u, 0, none⟩))) (first | exact HSC.out _ (by first | exact hcur7 | exact hcur6 | exact hcur3 | exact hcur3.alloc hcur3.size _ | exact hcur | exact hcur.alloc hcur.size _ | exact (hcur.alloc hcur.size _).alloc (hcur.alloc hcur.size _).size _)) (first | (go_at_call 61; refine (sign_pos b 0 n w.drew HN.out.1 h0).mono ?_; rintro e w2 ⟨rfl, rfl⟩) | (go_at_call 63; refine (setintLK _ b 0 n L _ (by first | exact H3.out | exact H1.out | exact H2.out) ((HN.out.1.any HE.out.2.2.2.2.2.2).below (by first | exact hcur.alloc hcur.size _ | exact (hcur.alloc hcur.size _).alloc (hcur.alloc hcur.size _).size _) (Nat.le_refl _)) (by have := HE.out.2.2.2.2.2; omega) HE.out.2.2.2.2.2.2 (by have := HN.out.1.1; omega)).mono ?_; rintro e w3 ⟨⟨rfl, r3, s3, b3⟩, k3⟩; have hcur3 : Below w.heap.size w w3 := (by first | exact (hcur.alloc hcur.size (.cells #[.bool false, .slice none 0 0, .bool false, .slice none 0 0] 107)).trans (b3.mono (by omega)) | exact ((hcur.alloc hcur.size (.cells #[.bool false, .slice none 0 0, .bool false, .slice none 0 0] 107)).alloc (hcur.alloc hcur.size (.cells #[.bool false, .slice none 0 0, .bool false, .slice none 0 0] 107)).size (.cells #[.bool false, .slice none 0 0, .bool false, .slice none 0 0] 107)).trans (b3.mono (by omega))); (first | (have HRa : Hid (RatL w3 w.heap.size false n 1 L) := Lib.hid r3) | (have HRb : Hid (RatL w3 (w.heap.size + 1) false n 1 L) := Lib.hid r3)); have HK := Lib.hid k3; clear r3 s3 b3 k3) | (go_at_call 62; refine (ratmulL _ _ u n 1 r s P Q L L' _ (by first | exact H2.out.kept HK.out (by omega) | exact H1.out.kept HK.out (by omega) | exact RSlot.new w3 107) (by first | exact HRa.out | exact HRb.out | exact HRa.out.below ((Below.refl _ _).alloc (Nat.le_refl _) _) (Nat.le_refl _)) (by first | exact HN.out.2.below hcur3 (Nat.le_refl _) | exact HN.out.2.below (hcur3.alloc hcur3.size _) (Nat.le_refl _)) HE.out.1 HE.out.2.1 HE.out.2.2.1 HE.out.2.2.2.1 HE.out.2.2.2.2.1 HE.out.2.2.2.2.2.1 HE.out.2.2.2.2.2.2).mono ?_; rintro e w6 ⟨rfl, r6, s6, b6⟩; have hcur6 : Below w.heap.size w w6 := (by have z3 := hcur3.size; first | exact hcur3.trans (b6.mono (by omega)) | exact (hcur3.alloc hcur3.size (.cells #[.bool false, .slice none 0 0, .bool false, .slice none 0 0] 107)).trans (b6.mono (by omega))); have HG6 := Lib.hid (HG.out _ _ hcur6 r6); clear r6 s6 b6) | (go_at_call 22; refine HG6.out.mono ?_; rintro e w7 ⟨rr, rfl, hrr, b7⟩; have hcur7 := back_of' hcur6 b7; clear b7))
  all_goals go_wp2_with fail
  all_goals go_ret
  all_goals exact ⟨rr, rfl, hrr, hcur7⟩
end Go.Proofs.YtmecnlgndaeidaaGreatDoor.Nb

namespace Go.Proofs.YtmecnlgndaeidaaGreatDoor.Nb
open Go Go.RowKit

/-- an answer that is a whole number in new memory -/
def NewL (w : World) (neg : Bool) (n L : Nat) (e : Ending) (w' : World) : Prop :=
  ∃ b, e = .returned (.pointer (some ⟨b, 0, none⟩)) ∧ w.heap.size ≤ b ∧ IntL w' b 0 neg n L ∧ ISlot w' b 0 ∧ Below w.heap.size w w'
set_option maxRecDepth 8000 in
set_option maxHeartbeats 1000000 in
theorem set_anyL (z zo b o n L : Nat) (neg : Bool) (w : World) (h : ISlot w z zo) (hx : IntL w b o neg n L) (hn : neg = true → n ≠ 0) (hL : L ≤ 268435456) :
    Calls Tryz.prog 107 #[.pointer (some ⟨z, zo, none⟩), .pointer (some ⟨b, o, none⟩)] w (WroteL w z zo neg n L) := by
  obtain ⟨hb, h2, A, k, c, h3, h4⟩ := hx
  have H := Lib.hid h
  have HC := Lib.hid (fun j => clone_any _ n L (w.drewN j) (show MagN (w.drewN j) _ n L from h4) (by omega))
  clear h h4
  go_enter Tryz.func107, Tryz.ntmps107
  go_wp2_with fail
  go_region_with (first
    | (go_at_call 109; refine (HC.out _).mono ?_; rintro e w1 ⟨v, rfl, hm, hbw⟩; obtain ⟨A1, k1, c1, rfl⟩ := hm.slice; have hb2 : Below w.heap.size w w1 := (below_dN (Below.refl _ _) _).trans hbw; have y0 := (hb2.cell (p := ⟨b, o, none⟩) hb).trans h2; have HM := Lib.hid (made_numL z zo n L neg A1 k1 c1 w1 (H.out.below hb2 (Nat.le_refl _)) hm hn); have HB := Lib.hid (hb2.mono (Nat.le_of_lt H.out.1)); clear hm hbw hb2)
    | (go_at_call 108; refine HM.out.mono ?_; rintro e w2 ⟨rfl, h1, h2, h3⟩; have HF := Lib.hid (And.intro h1 (And.intro h2 (HB.out.trans h3))); clear h1 h2 h3))
  all_goals go_wp2_with fail
  all_goals (go_ret; exact ⟨rfl, HF.out.1, HF.out.2.1, HF.out.2.2⟩)
set_option maxRecDepth 8000 in
theorem num_anyL (x p q L : Nat) (w : World) (hx : RatL w x false p q L) (hL : L ≤ 268435456) :
    Calls Tryz.prog 56 #[.pointer (some ⟨x, 0, none⟩)] w (NewL w false p L) := by
  have hA := (Below.refl w.heap.size w).alloc (Nat.le_refl _) (.cells #[.bool false, .slice none 0 0] 105)
  have HS := Lib.hid (set_anyL w.heap.size 0 x 0 p L false _ (ISlot.new w 105) (hx.1.below hA (Nat.le_refl _)) (by simp) hL)
  have HA := Lib.hid hA
  clear hx hA hL
  go_enter Tryz.func56, Tryz.ntmps56
  go_wp2_with fail
  refine HS.out.mono ?_
  rintro e w1 ⟨rfl, h1, h2, h3⟩
  have HF := Lib.hid (And.intro h1 (And.intro h2 (HA.out.trans h3)))
  clear h1 h2 h3
  go_wp2_with fail
  go_ret
  exact ⟨_, rfl, Nat.le_refl _, HF.out⟩
set_option maxRecDepth 8000 in
theorem denom_anyL (x p q L : Nat) (w : World) (hx : RatL w x false p q L) (hL : L ≤ 268435456) :
    Calls Tryz.prog 57 #[.pointer (some ⟨x, 0, none⟩)] w (NewL w false q L) := by
  have hA := (Below.refl w.heap.size w).alloc (Nat.le_refl _) (.cells #[.bool false, .slice none 0 0] 105)
  obtain ⟨A1, k1, c1, A2, k2, c2, hb, e0, e1, e3, m1, m2, q0, hk2⟩ := (hx.below hA (Nat.le_refl _)).open
  have HU := Lib.hid (under_atL x A2 k2 c2 _ e3 hk2)
  have HC := Lib.hid (clone_any _ q L _ m2 (by omega))
  have HZ := Lib.hid (ISlot.new w 105)
  have HA := Lib.hid hA
  clear hx hA m1 m2 e0 e1 e3 hk2 hL
  go_enter Tryz.func57, Tryz.ntmps57
  go_wp2_with fail
  refine HU.out.mono ?_
  rintro e w1 ⟨rfl, rfl⟩
  go_wp2_with fail
  refine HC.out.mono ?_
  rintro e w1 ⟨v, rfl, hm, hb⟩
  obtain ⟨A, k, c, rfl⟩ := hm.slice
  have HM := Lib.hid (made_numL w.heap.size 0 q L false A k c w1 (HZ.out.below hb (Nat.le_refl _)) hm (by simp))
  have HB := Lib.hid (HA.out.trans (hb.mono HA.out.size))
  clear hm hb
  go_wp2_with fail
  refine HM.out.mono ?_
  rintro e w2 ⟨rfl, h1, h2, h3⟩
  have HF := Lib.hid (And.intro h1 (And.intro h2 (HB.out.trans h3)))
  clear h1 h2 h3
  go_wp2_with fail
  go_ret
  exact ⟨_, rfl, Nat.le_refl _, HF.out⟩
end Go.Proofs.YtmecnlgndaeidaaGreatDoor.Nb

namespace Go.Proofs.YtmecnlgndaeidaaGreatDoor.Nb
open Go Go.RowKit

theorem one_word {ws : List Nat} {n : Nat} (hv : val ws = n) (hl : ws.length ≤ 1) : ws.getD 0 0 = n := by
  match ws, hl with
  | [], _ => simpa [val] using hv
  | [a], _ => simpa [val] using hv
set_option maxRecDepth 8000 in
theorem bit0_word (b o n : Nat) (w : World) (hx : IntN w b o false n) (hn : n < 18446744073709551616) :
    Calls Tryz.prog 67 #[.pointer (some ⟨b, o, none⟩), .int .i64 0] w fun e w' => e = .returned (.int .u64 ((n % 2 : Nat) : Int)) ∧ w' = w := by
  obtain ⟨hb, h2, A, k, c, h3, h4⟩ := hx
  obtain ⟨ws, h1, g2, g3, g4⟩ := h4
  have HD := Lib.hid (digit_any A k c 0 ws w h1 (by omega))
  have hand := and_low 1 hn (by omega)
  clear h1
  go_enter Tryz.func67, Tryz.ntmps67
  go_wp2_with fail
  refine HD.out.mono ?_
  rintro e w1 ⟨rfl, rfl⟩
  rw [one_word g3 g4]
  go_wp2_with fail
  go_ret
  exact ⟨congrArg (fun z => Ending.returned (Value.int .u64 z)) hand, rfl⟩
end Go.Proofs.YtmecnlgndaeidaaGreatDoor.Nb

namespace Go.Proofs.YtmecnlgndaeidaaGreatDoor.Nb
open Go Go.RowKit Nx

set_option maxRecDepth 8000 in
theorem under_nil (b : Nat) (w : World) (h : w.cell? ⟨b, 3, none⟩ = some (.slice none 0 0)) :
    Calls Tryz.prog 105 #[.pointer (some ⟨b, 0, none⟩)] w fun e w' => (∃ v, e = .returned v) ∧ Below w.heap.size w w' := by
  go_enter Tryz.func105, Tryz.ntmps105
  go_wp2_with fail
  go_ret
  exact ⟨⟨_, rfl⟩, (Below.refl _ _).alloc (Nat.le_refl _) _⟩
/-- a fraction that nobody has set -/
structure RatO (w : World) (b : Nat) : Prop where
  l : b < w.heap.size
  c0 : w.cell? ⟨b, 0, none⟩ = some (.bool false)
  c1 : w.cell? ⟨b, 1, none⟩ = some (.slice none 0 0)
  c3 : w.cell? ⟨b, 3, none⟩ = some (.slice none 0 0)
theorem RatO.below {w w' : World} {b : Nat} (h : RatO w b) (k : Below w.heap.size w w') : RatO w' b :=
  ⟨Nat.lt_of_lt_of_le h.l k.size, (k.cell (p := ⟨b, 0, none⟩) (by exact h.l)).trans h.c0, (k.cell (p := ⟨b, 1, none⟩) (by exact h.l)).trans h.c1, (k.cell (p := ⟨b, 3, none⟩) (by exact h.l)).trans h.c3⟩
theorem RatO.new (w : World) (t : TypeId) : RatO (w.alloc (.cells #[.bool false, .slice none 0 0, .bool false, .slice none 0 0] t)) w.heap.size :=
  ⟨by simp, by simp [go_sem], by simp [go_sem], by simp [go_sem]⟩
set_option maxRecDepth 8000 in
set_option maxHeartbeats 1000000 in
theorem nearest_nil (E : Int) (x : Nat) (w : World) (hx : RatO w x) :
    Calls Tryz.prog 71 #[.pointer (some ⟨x, 0, none⟩), .int .i64 53, .int .i64 E] w fun e w' => e = .returned (.tuple #[.int .u64 0, .int .i64 E, .bool true]) ∧ Below w.heap.size w w' := by
  have HS := Lib.hid (fun (W : World) (hW : Below w.heap.size w W) => hx.below hW)
  have hcur : Below w.heap.size w w.drew := (Below.refl _ _).drew
  clear hx
  go_enter Tryz.func71, Tryz.ntmps71
  go_wp2_with fail
  go_region_held3 (fun w' => w'.cell? ⟨x, 1, none⟩ = some (.slice none 0 0)) (first | exact (HS.out _ hcur3).c1 | exact (HS.out _ hcur).c1) ((go_at_call 105; refine (under_nil x _ (HS.out _ hcur).c3).mono ?_; rintro e w3 ⟨⟨v, rfl⟩, b3⟩; have hcur3 : Below w.heap.size w w3 := back_of' hcur b3))
  all_goals go_wp2_with fail
  all_goals go_ret3
  all_goals exact ⟨rfl, hcur3⟩
set_option maxRecDepth 8000 in
set_option maxHeartbeats 1000000 in
theorem float64_nil (x : Nat) (w : World) (hx : RatO w x) :
    Calls Tryz.prog 23 #[.pointer (some ⟨x, 0, none⟩)] w fun e w' => e = .returned (.tuple #[.float .f64 0, .bool true]) ∧ Below w.heap.size w w' := by
  have HN := Lib.hid (nearest_nil (-1074) x w hx)
  have HX := Lib.hid (fun (W : World) (hW : Below w.heap.size w W) => hx.below hW)
  have HLN := Lib.hid (fun W => len_bits 0 0 W (by omega) (by decide))
  have hfb := run_frombits 0
  clear hx
  go_enter Tryz.func23, Tryz.ntmps23
  go_wp2_with fail
  refine HN.out.mono ?_
  rintro e w1 ⟨rfl, hb1⟩
  have y0 := (HX.out _ hb1).c0
  have HB := Lib.hid hb1
  clear hb1 HX HN
  go_wp2_with fail
  refine (HLN.out _).mono ?_
  rintro e w2 ⟨rfl, hw⟩
  obtain rfl := hw.symm
  go_wp2_with fail
  go_ret2
  exact ⟨rfl, HB.out⟩
set_option maxRecDepth 8000 in
set_option maxHeartbeats 2000000 in
theorem value_none (neg : Bool) (Z : ByteArray) (E : Int) (w : World) (hs : Z.size ≤ 1000000) (hE : -1000000000 ≤ E ∧ E ≤ 1000000000) (ht : Z.size = 0 ∨ E + (Z.size : Int) - 1 < -400) :
    Calls Tryz.prog 41 #[.agg #[.bool neg, .string Z, .int .i64 E]] w fun e w' => ∃ z, e = .returned (.tuple #[.pointer (some ⟨z, 0, none⟩), .bool true]) ∧ RatO w' z ∧ Below w.heap.size w w' := by
  have hB := (Below.refl w.heap.size w).alloc (Nat.le_refl _) (.cells #[.bool neg, .string Z, .int .i64 E] 79)
  have HB := Lib.hid (hB.alloc hB.size (.cells #[.bool false, .slice none 0 0, .bool false, .slice none 0 0] 107))
  have HR : Hid (RatO _ (w.heap.size + 1)) := Lib.hid (by have := RatO.new (w.alloc (.cells #[.bool neg, .string Z, .int .i64 E] 79)) 107; rwa [show (w.alloc (.cells #[.bool neg, .string Z, .int .i64 E] 79)).heap.size = w.heap.size + 1 by simp] at this)
  clear hB
  rcases Nat.eq_zero_or_pos Z.size with h0 | h0
  · have hz : Z = ⟨#[]⟩ := by
      have h1 := size_list Z
      have h2 : Z.data.toList = [] := List.length_eq_zero_iff.1 (by omega)
      cases Z with
      | mk d => cases d with
        | mk l => simp at h2; subst h2; rfl
    subst hz
    clear ht hs h0
    obtain ⟨h1, h2⟩ := hE
    go_enter Tryz.func41, Tryz.ntmps41
    go_wp2_with fail
    go_ret2
    exact ⟨_, rfl, HR.out, HB.out⟩
  · have he0 := not_empty_size h0
    have ht1 : E + (Z.size : Int) - 1 < -400 := by omega
    obtain ⟨h1, h2⟩ := hE
    clear ht
    go_enter Tryz.func41, Tryz.ntmps41
    go_wp2_with fail
    go_ret2
    exact ⟨_, rfl, HR.out, HB.out⟩
set_option maxRecDepth 8000 in
theorem inf_any (f : Nat) (w : World) (hf : f ≤ 9218868437227405312) : Calls Tryz.prog 42 #[.float .f64 f, .int .i64 0] w fun e w' => e = .returned (.bool (decide (f = 9218868437227405312))) ∧ w' = w := by
  have hg := gt_max f (by omega)
  generalize decide (f = 9218868437227405312) = q at hg
  have HA := Lib.hid (abs_pos f w (by
    have h := andnot_top (f := f) (by omega)
    rwa [Nat.mod_eq_of_lt (by omega)] at h))
  go_enter Tryz.func42, Tryz.ntmps42
  go_wp2_with fail
  refine HA.out.mono ?_
  rintro e w1 ⟨rfl, hw⟩
  obtain rfl := hw.symm
  go_wp2_with fail
  go_ret
  exact ⟨rfl, rfl⟩
set_option maxRecDepth 8000 in
theorem unspecial_no (s : ByteArray) (w : World) (u1 : (s.toList == [110, 97, 110]) = false) (u2 : (s.toList == [43, 105, 110, 102]) = false) (u3 : (s.toList == [45, 105, 110, 102]) = false) : Calls Tryz.prog 39 #[.string s] w fun e w' => e = .returned (.tuple #[.float .f64 0, .bool false]) ∧ w' = w := by
  go_enter Tryz.func39, Tryz.ntmps39
  go_wp2_with fail
  go_ret2
  exact ⟨rfl, rfl⟩
end Go.Proofs.YtmecnlgndaeidaaGreatDoor.Nb
