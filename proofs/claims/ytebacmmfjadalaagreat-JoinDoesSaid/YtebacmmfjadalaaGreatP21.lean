/- G7 T10 I5 in one text. -/
import Derived.Test.YtebacmmfjadalaaGreatP20
import Derived.Test.YtebacmmfjadalaaGreatP19
import Derived.Test.YtebacmmfjadalaaGreatP14

namespace Go.Proofs.YtebacmmfjadalaaGreat
open Go Go.RowKit

/-- the error of a push -/
def pushE (sns : List Sn) (se st : Int) (n : Nat) (bs : List Nat) : Int :=
  if chkE se n bs ≠ 0 then chkE se n bs else match sns[se.toNat]? with
  | none => 230
  | some s => if Ck.unwE s.last st ≠ 0 then Ck.unwE s.last st else Ck.timeE s.o s.n s.d (Ck.unwV s.last st)
/-- whether a number is known -/
def known (s : Sn) (q : Int) : Bool := below' s q && decide ((s.most - q).toNat < 64) && bitAt s (s.most - q).toNat
def tooOld (s : Sn) (q : Int) : Bool := below' s q && decide (64 ≤ (s.most - q).toNat)
/-- what becomes of a reading -/
def pushK (j : Jn) (s : Sn) (sq t : Int) : Int := if known s sq = true then 2 else if tooOld s sq = true then 3 else if (j.some && decide (t < j.hor)) = true then 4 else 1
/-- a joiner whose reading is only counted -/
def cntJ (j : Jn) (k : Int) : Jn := if k = 2 then { j with cd := j.cd + 1 } else if k = 3 then { j with co := j.co + 1 } else { j with cl := j.cl + 1 }
structure PushIn (w : World) (x B : Nat) (j : Jn) (sns : List Sn) (xs : List El) : Prop where
  inv : Inv w w x B j sns xs
  vi : VI w B j.wait xs
  own : ∀ g, j.sen.ownBlock = some g → x ≠ g ∧ g < B
  ok : ∀ s ∈ sns, SnOk s
  num : JNum j
  c1 : j.ct ≤ 4611686018427387904
  k1 : j.cs ≤ 4611686018427387904
  d1 : j.cd ≤ 4611686018427387904
  o1 : j.co ≤ 4611686018427387904
  l1 : j.cl ≤ 4611686018427387904
  few : xs.length < 4096
inductive PushP (w : World) (x B : Nat) (j : Jn) (sns : List Sn) (xs : List El) (se sq st : Int) (n : Nat) (bs : List Nat) (e : Ending) (w' : World) : Prop where
  | bad (h : pushE sns se st n bs ≠ 0) (he : e = .returned (.tuple #[.int .i64 0, .slice none 0 0, .int .i64 (pushE sns se st n bs)])) (hb : Below w.heap.size w w')
  | cnt (s : Sn) (hs : sns[se.toNat]? = some s) (h : pushE sns se st n bs = 0) (hk : pushK j s sq (Ck.timeV s.o s.n s.d (Ck.unwV s.last st)) ≠ 1) (he : e = .returned (.tuple #[.int .i64 (pushK j s sq (Ck.timeV s.o s.n s.d (Ck.unwV s.last st))), .slice none 0 0, .int .i64 0]))
      (hi : Inv w w' x B (cntJ j (pushK j s sq (Ck.timeV s.o s.n s.d (Ck.unwV s.last st)))) sns xs) (hf : Ft w w' (fun k => k = x))
  | took (s : Sn) (ov v' : Value) (e0 : El) (sb dn : Nat) (hs : sns[se.toNat]? = some s) (hse : 0 ≤ se) (h : pushE sns se st n bs = 0) (hk : pushK j s sq (Ck.timeV s.o s.n s.d (Ck.unwV s.last st)) = 1) (he : e = .returned (.tuple #[.int .i64 1, ov, .int .i64 0]))
      (hsb : j.sen.ownBlock = some sb) (hkey : e0.key = Ck.timeV s.o s.n s.d (Ck.unwV s.last st) :: se :: sq :: st :: (n : Int) :: bs.map keyN) (hdn : (s.most - sq) % 4294967296 = (dn : Int)) (hno : below' s sq = false ∨ (dn < 64 ∧ s.most - sq = (dn : Int) ∧ bitAt s dn = false))
      (hl : j.some = false ∨ j.hor ≤ Ck.timeV s.o s.n s.d (Ck.unwV s.last st))
      (ht : Took w w' x B sb se.toNat j sns xs s sq (Ck.unwV s.last st) (Ck.timeV s.o s.n s.d (Ck.unwV s.last st)) e0 ov v')

theorem chkE_zero {se : Int} {n : Nat} {bs : List Nat} (h : chkE se n bs = 0) : 0 ≤ se ∧ se < 64 ∧ n ≤ 6 := by
  unfold chkE at h
  split at h
  · omega
  · omega
theorem unwE_two (a b : Int) : Ck.unwE a b = 0 ∨ Ck.unwE a b = 1 := by unfold Ck.unwE; split <;> simp

theorem push_all (x B : Nat) (j : Jn) (sns : List Sn) (xs : List El) (se sq st : Int) (A : Option Addr) (n c : Nat) (bs : List Nat) (w : World) (hp : PushIn w x B j sns xs) (hfl : FlAt w A n bs) (hl : n * 8 ≤ 140737488355328) (hlt64 : Lt64 bs)
    (hfar : ∀ b f, A = some ⟨b, f, none⟩ → b ≠ x ∧ j.sen.ownBlock ≠ some b ∧ j.wait.ownBlock ≠ some b) (st0 : 0 ≤ st) (st1 : st ≤ 4294967295) (q0 : 0 ≤ sq) (q1 : sq ≤ 4294967295) :
    Calls Tryz.prog 12 #[.pointer (some ⟨x, 0, none⟩), .agg #[.int .i64 se, .int .u32 sq, .int .u32 st, .slice A n c]] w (PushP w x B j sns xs se sq st n bs) := by
  by_cases hq : chkE se n bs = 0
  · obtain ⟨se0, se1, -⟩ := chkE_zero hq
    obtain ⟨sn, rfl⟩ := Int.eq_ofNat_of_zero_le se0
    cases hs : sns[sn]? with
    | none =>
      have hE : pushE sns (sn : Int) st n bs = 230 := by
        unfold pushE
        rw [if_neg (by rw [hq]; simp), Int.toNat_natCast, hs]
      have hlen : (sns.length : Int) ≤ (sn : Int) := by
        have := List.getElem?_eq_none_iff.1 hs
        omega
      refine (push_nosensor x B j sns xs sn sq st A n c bs w w hp.inv hfl hl hq hlen).mono ?_
      rintro e w' ⟨rfl, hb⟩
      exact .bad (by rw [hE]; decide) (by rw [hE]) hb
    | some s =>
      have hok := hp.ok s (List.mem_of_getElem? hs)
      rcases unwE_two s.last st with hu | hu
      · by_cases ht : Ck.timeE s.o s.n s.d (Ck.unwV s.last st) = 0
        · have hE : pushE sns (sn : Int) st n bs = 0 := by
            unfold pushE
            rw [if_neg (by rw [hq]; simp), Int.toNat_natCast, hs]
            simp only
            rw [if_neg (by rw [hu]; simp)]
            exact ht
          have hsb : ∀ g, j.sen.ownBlock = some g → g < B := fun g hg => (hp.own g hg).2
          by_cases hbe : below' s sq = true
          · have hbe' := hbe
            unfold below' at hbe'
            simp only [Bool.and_eq_true, decide_eq_true_eq] at hbe'
            obtain ⟨dn, hdn⟩ := Int.eq_ofNat_of_zero_le (show 0 ≤ s.most - sq by omega)
            have htn : (s.most - sq).toNat = dn := by omega
            by_cases h64 : dn < 64
            · cases hbit : bitAt s dn with
              | true =>
                have hK : ∀ t, pushK j s sq t = 2 := fun t => by
                  unfold pushK known
                  rw [htn, hbe, hbit, decide_eq_true h64]
                  rfl
                refine (push_dup x B j sns xs sn sq st A n c bs w w hp.inv hfl hl hq s hs st0 st1 hsb _ _ rfl hu rfl ht q0 q1 hok.m0 hok.m1 hbe dn hdn h64 hbit hp.num.d0 hp.d1).mono ?_
                rintro e w' ⟨rfl, hi, hf⟩
                exact .cnt s (by rw [Int.toNat_natCast]; exact hs) hE (by rw [hK]; decide) (by rw [hK]) (by rw [hK]; exact hi) hf
              | false =>
                by_cases hla : (j.some && decide (Ck.timeV s.o s.n s.d (Ck.unwV s.last st) < j.hor)) = true
                · have hK : pushK j s sq (Ck.timeV s.o s.n s.d (Ck.unwV s.last st)) = 4 := by
                    unfold pushK known tooOld
                    rw [htn, hbe, hbit, decide_eq_true h64, decide_eq_false (show ¬ 64 ≤ dn by omega), hla]
                    rfl
                  simp only [Bool.and_eq_true, decide_eq_true_eq] at hla
                  refine (push_late2 x B j sns xs sn sq st A n c bs w w hp.inv hfl hl hq s hs st0 st1 hsb _ _ rfl hu rfl ht q0 q1 hok.m0 hok.m1 hbe dn hdn h64 hbit hla.1 hla.2 hp.num.l0 hp.l1).mono ?_
                  rintro e w' ⟨rfl, hi, hf⟩
                  exact .cnt s (by rw [Int.toNat_natCast]; exact hs) hE (by rw [hK]; decide) (by rw [hK]) (by rw [hK]; exact hi) hf
                · have hK : pushK j s sq (Ck.timeV s.o s.n s.d (Ck.unwV s.last st)) = 1 := by
                    unfold pushK known tooOld
                    rw [htn, hbe, hbit, decide_eq_true h64, decide_eq_false (show ¬ 64 ≤ dn by omega), if_neg (by simp), if_neg (by simp), if_neg hla]
                  have hlate : j.some = false ∨ j.hor ≤ Ck.timeV s.o s.n s.d (Ck.unwV s.last st) := by
                    cases hsm : j.some with
                    | false => exact .inl rfl
                    | true => rw [hsm] at hla; simp at hla; exact .inr hla
                  have hmod : (s.most - sq) % 4294967296 = (dn : Int) := by have := hok.m1; omega
                  refine (push_take x B j sns xs sn sq st A n c bs w w hp.inv hfl hl hlt64 hfar hp.vi hq s hs st0 st1 hsb _ _ rfl hu rfl ht q0 q1 hok.m0 hok.m1 dn hmod (.inr ⟨h64, hdn, hbit⟩) hlate _ rfl hp.few hp.num.c0 hp.c1 hp.num.k0 hp.k1 (by have := hp.num.t0; omega) (by have := hp.num.t1; omega) hp.num.w0 (by have := hp.num.w1; omega)).mono ?_
                  rintro e w' ⟨ov, v', e0, sb, rfl, hh⟩
                  exact .took s ov v' e0 sb dn (by rw [Int.toNat_natCast]; exact hs) (by omega) hE hK rfl hh.out.1 hh.out.2.1 hmod (.inr ⟨h64, hdn, hbit⟩) hlate (by rw [Int.toNat_natCast]; exact hh.out.2.2)
            · have hK : ∀ t, pushK j s sq t = 3 := fun t => by
                unfold pushK known tooOld
                rw [htn, hbe, decide_eq_false h64, decide_eq_true (show 64 ≤ dn by omega)]
                rfl
              refine (push_old x B j sns xs sn sq st A n c bs w w hp.inv hfl hl hq s hs st0 st1 hsb _ _ rfl hu rfl ht q0 q1 hok.m0 hok.m1 hbe dn hdn (by omega) hp.num.o0 hp.o1).mono ?_
              rintro e w' ⟨rfl, hi, hf⟩
              exact .cnt s (by rw [Int.toNat_natCast]; exact hs) hE (by rw [hK]; decide) (by rw [hK]) (by rw [hK]; exact hi) hf
          · have hbf : below' s sq = false := by simpa using hbe
            by_cases hla : (j.some && decide (Ck.timeV s.o s.n s.d (Ck.unwV s.last st) < j.hor)) = true
            · have hK : pushK j s sq (Ck.timeV s.o s.n s.d (Ck.unwV s.last st)) = 4 := by
                unfold pushK known tooOld
                rw [hbf, hla]
                rfl
              simp only [Bool.and_eq_true, decide_eq_true_eq] at hla
              refine (push_late1 x B j sns xs sn sq st A n c bs w w hp.inv hfl hl hq s hs st0 st1 hsb _ _ rfl hu rfl ht hok.m0 hok.m1 hbf hla.1 hla.2 hp.num.l0 hp.l1).mono ?_
              rintro e w' ⟨rfl, hi, hf⟩
              exact .cnt s (by rw [Int.toNat_natCast]; exact hs) hE (by rw [hK]; decide) (by rw [hK]) (by rw [hK]; exact hi) hf
            · have hK : pushK j s sq (Ck.timeV s.o s.n s.d (Ck.unwV s.last st)) = 1 := by
                unfold pushK known tooOld
                rw [hbf, if_neg (by simp), if_neg (by simp), if_neg hla]
              have hlate : j.some = false ∨ j.hor ≤ Ck.timeV s.o s.n s.d (Ck.unwV s.last st) := by
                cases hsm : j.some with
                | false => exact .inl rfl
                | true => rw [hsm] at hla; simp at hla; exact .inr hla
              obtain ⟨dn, hmod⟩ := Int.eq_ofNat_of_zero_le (show 0 ≤ (s.most - sq) % 4294967296 by omega)
              refine (push_take x B j sns xs sn sq st A n c bs w w hp.inv hfl hl hlt64 hfar hp.vi hq s hs st0 st1 hsb _ _ rfl hu rfl ht q0 q1 hok.m0 hok.m1 dn hmod (.inl hbf) hlate _ rfl hp.few hp.num.c0 hp.c1 hp.num.k0 hp.k1 (by have := hp.num.t0; omega) (by have := hp.num.t1; omega) hp.num.w0 (by have := hp.num.w1; omega)).mono ?_
              rintro e w' ⟨ov, v', e0, sb, rfl, hh⟩
              exact .took s ov v' e0 sb dn (by rw [Int.toNat_natCast]; exact hs) (by omega) hE hK rfl hh.out.1 hh.out.2.1 hmod (.inl hbf) hlate (by rw [Int.toNat_natCast]; exact hh.out.2.2)
        · have hE : pushE sns (sn : Int) st n bs = Ck.timeE s.o s.n s.d (Ck.unwV s.last st) := by
            unfold pushE
            rw [if_neg (by rw [hq]; simp), Int.toNat_natCast, hs]
            simp only
            rw [if_neg (by rw [hu]; simp)]
          refine (push_tim x B j sns xs sn sq st A n c bs w w hp.inv hfl hl hq s hs st0 st1 _ rfl hu ht).mono ?_
          rintro e w' ⟨rfl, hb⟩
          exact .bad (by rw [hE]; exact ht) (by rw [hE]) hb
      · have hE : pushE sns (sn : Int) st n bs = 1 := by
          unfold pushE
          rw [if_neg (by rw [hq]; simp), Int.toNat_natCast, hs]
          simp only
          rw [if_pos (by rw [hu]; decide), hu]
        refine (push_unw x B j sns xs sn sq st A n c bs w w hp.inv hfl hl hq s hs st0 st1 hu).mono ?_
        rintro e w' ⟨rfl, hb⟩
        exact .bad (by rw [hE]; decide) (by rw [hE]) hb
  · have hE : pushE sns se st n bs = chkE se n bs := by unfold pushE; rw [if_pos hq]
    refine (push_bad x B j sns xs se sq st A n c bs w w hp.inv hfl hl hq).mono ?_
    rintro e w' ⟨rfl, hb⟩
    exact .bad (by rw [hE]; exact hq) (by rw [hE]) hb
end Go.Proofs.YtebacmmfjadalaaGreat

namespace Go.Proofs.YtebacmmfjadalaaGreat
open Go Go.RowKit

theorem known_iff {s : Sn} {p : Int} (h : SnOk s) : known s p = true ↔ s.some = true ∧ p ≤ s.most ∧ s.most - p < 64 ∧ s.taken.toNat.testBit (s.most - p).toNat = true := by
  unfold known below' bitAt
  rw [bit_nat h.t0 h.t1]
  simp only [Bool.and_eq_true, decide_eq_true_eq]
  constructor
  · rintro ⟨⟨⟨h1, h2⟩, h3⟩, h4⟩
    exact ⟨h1, h2, by omega, h4⟩
  · rintro ⟨h1, h2, h3, h4⟩
    exact ⟨⟨⟨h1, h2⟩, by omega⟩, h4⟩
/-- what is known behind a number that was noted: that number, and what was known and is not too far below -/
theorem tk_known {s : Sn} {q p : Int} (h : SnOk s) (q0 : 0 ≤ q) (q1 : q ≤ 4294967295) (hn : s.some = true → q ≤ s.most → s.most - q < 64) :
    known (tk s q) p = true ↔ (p = q ∨ known s p = true) ∧ (tk s q).most - p < 64 := by
  have hk := tk_ok h q0 q1 hn
  rw [known_iff hk, known_iff h]
  unfold tk at hk ⊢
  split
  · rename_i hc
    have hd : (s.most - q).toNat < 64 := by have := hn hc.1 hc.2; omega
    simp only
    rw [pow_wrap hd, or_nat h.t0 h.t1 (pow_bd hd).1 (pow_bd hd).2, Int.toNat_natCast, Int.toNat_natCast, Nat.testBit_or, Nat.testBit_two_pow]
    constructor
    · rintro ⟨h1, h2, h3, h4⟩
      refine ⟨?_, h3⟩
      simp only [Bool.or_eq_true, decide_eq_true_eq] at h4
      rcases h4 with h4 | h4
      · exact .inr ⟨h1, h2, h3, h4⟩
      · left; omega
    · rintro ⟨h1 | h1, h3⟩
      · subst h1
        refine ⟨hc.1, hc.2, h3, by simp⟩
      · obtain ⟨g1, g2, g3, g4⟩ := h1
        exact ⟨g1, g2, g3, by rw [g4]; rfl⟩
  · rename_i hc
    simp only
    have hone : ∀ (k : Nat), k ≠ 0 → (1 : Nat).testBit k = false := fun k hk => by
      cases hb : (1 : Nat).testBit k with
      | false => rfl
      | true => exact absurd (Nat.testBit_one_eq_true_iff_self_eq_zero.1 hb) hk
    split
    · rename_i hz
      have e0 : bits .or .u64 0 1 = ((1 : Nat) : Int) := by decide
      rw [e0, Int.toNat_natCast]
      constructor
      · rintro ⟨h1, h2, h3, h4⟩
        refine ⟨.inl ?_, h3⟩
        rcases Nat.eq_zero_or_pos (q - p).toNat with h5 | h5
        · omega
        · rw [hone _ (by omega)] at h4; cases h4
      · rintro ⟨h1 | h1, h3⟩
        · subst h1
          refine ⟨trivial, Int.le_refl _, h3, ?_⟩
          rw [Int.sub_self]
          rfl
        · obtain ⟨g1, g2, g3, g4⟩ := h1
          exfalso
          have hqm : s.most < q := by
            rcases Int.lt_or_le s.most q with h | h
            · exact h
            · exact absurd ⟨g1, h⟩ hc
          rcases hz with hz | hz
          · rw [hz] at g1; cases g1
          · have := h.m0
            omega
    · rename_i hz
      have hz1 : s.some = true := by
        cases hs : s.some with
        | true => rfl
        | false => exact absurd (.inl hs) hz
      have hqm : s.most < q := by
        rcases Int.lt_or_le s.most q with h | h
        · exact h
        · exact absurd ⟨hz1, h⟩ hc
      have hup : q - s.most < 64 := by
        have h1 : ¬ 64 ≤ (q - s.most) % 4294967296 := fun h => hz (.inr h)
        have := h.m0
        omega
      rw [shl_nat h.t0, or_nat (by omega) (by omega) (by omega) (by omega), Int.toNat_natCast, Int.toNat_natCast, Nat.testBit_or, show (1 : Int).toNat = 1 from rfl, Nat.testBit_mod_two_pow, Nat.testBit_mul_two_pow]
      constructor
      · rintro ⟨h1, h2, h3, h4⟩
        refine ⟨?_, h3⟩
        rcases Nat.eq_zero_or_pos (q - p).toNat with h5 | h5
        · left; omega
        · rw [hone _ (by omega)] at h4
          simp only [Bool.or_false, Bool.and_eq_true, decide_eq_true_eq] at h4
          obtain ⟨h6, h7, h8⟩ := h4
          right
          refine ⟨hz1, by omega, by omega, ?_⟩
          rw [show (s.most - p).toNat = (q - p).toNat - (q - s.most).toNat by omega]
          exact h8
      · rintro ⟨h1 | h1, h3⟩
        · subst h1
          refine ⟨trivial, Int.le_refl _, h3, ?_⟩
          rw [Int.sub_self]
          simp
        · obtain ⟨g1, g2, g3, g4⟩ := h1
          refine ⟨trivial, by omega, h3, ?_⟩
          rw [show (s.most - p).toNat = (q - p).toNat - (q - s.most).toNat by omega] at g4
          rw [g4, decide_eq_true (show (q - p).toNat < 64 by omega), decide_eq_true (show (q - s.most).toNat ≤ (q - p).toNat by omega)]
          rfl
end Go.Proofs.YtebacmmfjadalaaGreat

namespace Go.Proofs.YtebacmmfjadalaaGreat
open Go Go.RowKit

theorem exp_nat {f : Nat} (h : f < 18446744073709551616) : expV (f : Int) = ((cnN f / 4503599627370496 % 2048 : Nat) : Int) := by
  unfold expV
  rw [canon_eq h]
  have hl := cnN_lt h
  generalize cnN f = c at *
  have e : ((c : Int) / 4503599627370496) = ((c / 4503599627370496 : Nat) : Int) := by omega
  rw [e, u64_and _ _ (by omega) (by omega) (by decide) (by decide), Int.toNat_natCast]
  congr 1
  exact Nat.and_two_pow_sub_one_eq_mod _ 11
theorem frc_nat {f : Nat} (h : f < 18446744073709551616) : frcV (f : Int) = ((cnN f % 4503599627370496 : Nat) : Int) := by
  unfold frcV
  rw [canon_eq h]
  have hl := cnN_lt h
  generalize cnN f = c at *
  rw [u64_and _ _ (by omega) (by omega) (by decide) (by decide), Int.toNat_natCast]
  congr 1
  exact Nat.and_two_pow_sub_one_eq_mod _ 52
theorem classify_any (e f : Int) (w : World) : Calls Tryz.prog 95 #[.int .i64 e, .int .u64 f, .int .i64 2047] w fun r w' => r = .returned (.int .i64 (clsE e f)) ∧ w = w' := by
  unfold clsE
  by_cases c1 : e = 2047
  · subst c1
    by_cases c2 : f = 0
    · subst c2
      go_enter Tryz.func95, Tryz.ntmps95
      go_wp2_with fail
      go_ret
      exact ⟨rfl, rfl⟩
    · have c2' : (f == 0) = false := by simpa using c2
      go_enter Tryz.func95, Tryz.ntmps95
      go_wp2_with fail
      go_ret
      exact ⟨rfl, rfl⟩
  · have c1' : (e == 2047) = false := by simpa using c1
    by_cases c3 : e = 0
    · subst c3
      by_cases c2 : f = 0
      · subst c2
        go_enter Tryz.func95, Tryz.ntmps95
        go_wp2_with fail
        go_ret
        exact ⟨rfl, rfl⟩
      · have c2' : (f == 0) = false := by simpa using c2
        go_enter Tryz.func95, Tryz.ntmps95
        go_wp2_with fail
        go_ret
        exact ⟨rfl, rfl⟩
    · have c3' : (e == 0) = false := by simpa using c3
      go_enter Tryz.func95, Tryz.ntmps95
      go_wp2_with fail
      go_ret
      exact ⟨rfl, rfl⟩
theorem rsplit_any (f : Nat) (w : World) (h : f < 18446744073709551616) : Calls Tryz.prog 94 #[.float .f64 f] w fun r w' => (∃ s, r = .returned (.tuple #[.bool s, .int .i64 (IntKind.i64.wrap (expV (f : Int))), .int .u64 (frcV (f : Int))])) ∧ w = w' := by
  have HB := Lib.hid (bits_any f)
  rw [exp_nat h, frc_nat h]
  have hl := cnN_lt h
  generalize cnN f = c at *
  have e3 : IntKind.i64.wrap ((c / 4503599627370496 % 2048 : Nat) : Int) = (c : Int) / 4503599627370496 % 2048 := by rw [IntKind.wrap_i64]; omega
  have e4 : ((c % 4503599627370496 : Nat) : Int) = (c : Int) % 4503599627370496 := by omega
  rw [e3, e4]
  have e1 : ((c : Int) / 4503599627370496).tmod 2048 = ((c / 4503599627370496 % 2048 : Nat) : Int) := by rw [Int.tmod_eq_emod_of_nonneg (by omega)]; omega
  have e2 : (c : Int).tmod 4503599627370496 = ((c % 4503599627370496 : Nat) : Int) := by rw [Int.tmod_eq_emod_of_nonneg (by omega)]; omega
  go_enter Tryz.func94, Tryz.ntmps94
  go_wp2_with fail
  refine (HB.out w).mono ?_
  rintro e w1 ⟨rfl, rfl⟩
  go_wp2_with fail
  go_ret3
  exact ⟨⟨_, rfl⟩, rfl⟩
theorem rclass_any (f : Nat) (w : World) (h : f < 18446744073709551616) : Calls Tryz.prog 78 #[.float .f64 f] w fun r w' => r = .returned (.int .i64 (clsV f)) ∧ w = w' := by
  have HS := Lib.hid (rsplit_any f w h)
  unfold clsV
  generalize IntKind.i64.wrap (expV (f : Int)) = E at *
  generalize frcV (f : Int) = F at *
  go_enter Tryz.func78, Tryz.ntmps78
  go_wp2_with fail
  refine HS.out.mono ?_
  rintro e w1 ⟨⟨s, rfl⟩, rfl⟩
  go_wp2_with fail
  refine (classify_any E F w).mono ?_
  rintro e w1 ⟨rfl, rfl⟩
  go_wp2_with fail
  go_ret
  exact ⟨rfl, rfl⟩
theorem clsE_bd (e f : Int) : 1 ≤ clsE e f ∧ clsE e f ≤ 5 := by unfold clsE; repeat' split <;> omega
theorem rfinite_any (f : Nat) (w : World) (h : f < 18446744073709551616) : Calls Tryz.prog 62 #[.float .f64 f] w fun r w' => r = .returned (.bool (!badV f)) ∧ w = w' := by
  have HS := Lib.hid (rclass_any f w h)
  have hb := clsE_bd (IntKind.i64.wrap (expV (f : Int))) (frcV (f : Int))
  have hv : (!badV f) = decide (2 < clsV (f : Int)) := by
    unfold badV
    have h2 : 1 ≤ clsV (f : Int) ∧ clsV (f : Int) ≤ 5 := hb
    generalize clsV (f : Int) = c at *
    rcases (by omega : c = 1 ∨ c = 2 ∨ c = 3 ∨ c = 4 ∨ c = 5) with rfl | rfl | rfl | rfl | rfl <;> rfl
  rw [hv]
  generalize clsV (f : Int) = c at *
  go_enter Tryz.func62, Tryz.ntmps62
  go_wp2_with fail
  refine HS.out.mono ?_
  rintro e w1 ⟨rfl, rfl⟩
  go_wp2_with fail
  go_ret
  exact ⟨rfl, rfl⟩
set_option maxHeartbeats 1000000 in
theorem allfinite_any (A : Option Addr) (n c : Nat) (bs : List Nat) (w : World) (h : FlAt w A n bs) (hl : n * 8 ≤ 140737488355328) (h64 : Lt64 bs) : Calls Tryz.prog 42 #[.slice A n c] w fun e w' => e = .returned (.bool (finL bs)) ∧ w = w' := by
  have HF := Lib.hid h
  have H64 := Lib.hid h64
  have hn := h.1
  clear h h64
  go_enter Tryz.func42, Tryz.ntmps42
  go_wp2_with fail
  go_loop [4, 7] (fun _ iv => ∃ k : Nat, k ≤ n ∧ iv = .int .i64 (k : Int) ∧ Hid ((bs.take k).all (fun b => !badV b) = true)) (fun _ iv => n - (intOf iv).toNat)
  case atStart => exact ⟨0, by omega, rfl, Lib.hid rfl⟩
  case round =>
    obtain ⟨k, hk, rfl, hh⟩ := hrel
    by_cases hlt : k < n
    · obtain ⟨b, off, rfl, hb, hcell⟩ := HF.out.at hlt
      have hy64 := H64.out k
      obtain ⟨y, hy⟩ : ∃ y, bs.getD k 0 = y := ⟨_, rfl⟩
      have HY := Lib.hid hy
      rw [hy] at hcell hy64
      have hki : (k : Int) < (n : Int) := by omega
      have HC := Lib.hid (rfinite_any y w hy64)
      clear hy
      cases hq : badV y with
      | true =>
        rw [hq] at HC
        have HQ := Lib.hid hq
        clear hq
        go_wp2_with fail
        refine HC.out.mono ?_
        rintro e w1 ⟨rfl, rfl⟩
        go_wp2_with fail
        go_ret
        refine ⟨?_, rfl⟩
        rw [finL_bad (k := k) (by omega) (by rw [HY.out]; exact HQ.out)]
        rfl
      | false =>
        rw [hq] at HC
        have HQ := Lib.hid hq
        clear hq
        go_wp2_with fail
        refine HC.out.mono ?_
        rintro e w1 ⟨rfl, rfl⟩
        go_wp2_with fail
        go_round
        case rel => exact ⟨k + 1, by omega, by go_num, Lib.hid (all_take hh.out (by omega) (by rw [HY.out]; exact HQ.out))⟩
        case measure => simp [intOf]; omega
    · have hkn : k = n := by omega
      subst hkn
      go_wp2_with fail
      go_ret
      refine ⟨?_, rfl⟩
      have := hh.out
      rw [List.take_of_length_le (by omega)] at this
      unfold finL
      rw [this]
      rfl
set_option maxHeartbeats 1000000 in
theorem rchk_any (se sq st : Int) (A : Option Addr) (n c : Nat) (bs : List Nat) (w : World) (h : FlAt w A n bs) (hl : n * 8 ≤ 140737488355328) (h64 : Lt64 bs) : Calls Tryz.prog 14 #[.agg #[.int .i64 se, .int .u32 sq, .int .u32 st, .slice A n c]] w fun e w' => e = .returned (.int .i64 (chkE se n bs)) ∧ Below w.heap.size w w' := by
  have HB := Lib.hid ((Below.refl w.heap.size w).alloc (Nat.le_refl _) (.cells #[.int .i64 se, .int .u32 sq, .int .u32 st, .slice A n c] 38))
  have HF := Lib.hid (allfinite_any A n c bs _ (h.below HB.out) hl h64)
  obtain ⟨q, hq⟩ : ∃ q, finL bs = q := ⟨_, rfl⟩
  rw [hq] at HF
  unfold chkE
  rw [hq]
  clear h hq
  by_cases c1 : se < 0
  · go_enter Tryz.func14, Tryz.ntmps14
    go_wp2_with fail
    go_ret
    first | exact ⟨rfl, HB.out⟩ | exact ⟨by rw [if_pos (.inl c1)], HB.out⟩
  · by_cases c2 : 64 ≤ se
    · go_enter Tryz.func14, Tryz.ntmps14
      go_wp2_with fail
      go_ret
      first | exact ⟨rfl, HB.out⟩ | exact ⟨by rw [if_pos (.inr (.inl c2))], HB.out⟩
    · have c2' : ¬ 64 ≤ se := c2
      by_cases c3 : 6 < n
      · have c3' : (6 : Int) < (n : Int) := by omega
        go_enter Tryz.func14, Tryz.ntmps14
        go_wp2_with fail
        go_ret
        first | exact ⟨rfl, HB.out⟩ | exact ⟨by rw [if_pos (.inr (.inr c3))], HB.out⟩
      · have c3' : ¬ (6 : Int) < (n : Int) := by omega
        rw [if_neg (by omega)]
        cases q
        · go_enter Tryz.func14, Tryz.ntmps14
          go_wp2_with fail
          refine HF.out.mono ?_
          rintro e w1 ⟨rfl, rfl⟩
          go_wp2_with fail
          go_ret
          exact ⟨rfl, HB.out⟩
        · go_enter Tryz.func14, Tryz.ntmps14
          go_wp2_with fail
          refine HF.out.mono ?_
          rintro e w1 ⟨rfl, rfl⟩
          go_wp2_with fail
          go_ret
          exact ⟨rfl, HB.out⟩
end Go.Proofs.YtebacmmfjadalaaGreat
