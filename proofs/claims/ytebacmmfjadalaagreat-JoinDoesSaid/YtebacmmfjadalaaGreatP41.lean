/- C1 in one text. -/
import Derived.Test.YtebacmmfjadalaaGreatP35
import Derived.Test.YtebacmmfjadalaaGreatP06

namespace Go.Proofs.YtebacmmfjadalaaGreat
open Go.RowKit Bg

/-- what the reference's within answers -/
def wiV (x m : Int) : Int := if -m ≤ x ∧ x ≤ m then x else 0
def wiE (x m : Int) : Int := if -m ≤ x ∧ x ≤ m then 0 else 1

theorem ret2_eq {k l : IntKind} {a b c d : Int} (h : a = b) (h' : c = d) : Ending.returned (.tuple #[.int k a, .int l c]) = Ending.returned (.tuple #[.int k b, .int l d]) := by rw [h, h']
theorem Below.drewN' {B : Nat} {a w : World} (h : Below B a w) (n : Nat) : Below B a (w.drewN n) := ⟨h.os, h.tape, h.output, h.size, h.block⟩

set_option maxHeartbeats 1000000 in
theorem rwithin_any (p : Addr) (x m : Int) (L : Nat) (w : World) (hp : IntAt w p x L) (hL : L ≤ 1099511627776) (hL2 : 2 ≤ L) (m0 : 0 ≤ m) (m1 : m ≤ 9223372036854775807) :
    Calls Tryz.prog 26 #[.pointer (some p), .int .i64 m] w fun e w' => e = .returned (.tuple #[.int .i64 (wiV x m), .int .i64 (wiE x m)]) ∧ Below w.heap.size w w' := by
  have hps : p.block < w.heap.size := by obtain ⟨b, off, -, -, -, rfl, hb, -⟩ := hp; exact hb
  have HP := Lib.hid hp
  have HS := Lib.hid (Slot.new w false none 0 0 117)
  have HB := Lib.hid (show Below w.heap.size w (w.alloc (.cells #[.bool false, .slice none 0 0] 117)) from (Below.refl _ _).alloc (Nat.le_refl _) _)
  clear hp
  go_enter Tryz.func26, Tryz.ntmps26
  go_wp2_with fail
  refine (Abs_any _ p x L _ HS.out (HP.out.below HB.out) hL).mono ?_
  rintro e w1 hg
  have HG := Lib.hid hg
  obtain ⟨rfl, -, -⟩ := hg
  go_wp2_with fail
  refine (newInt_any m w1 (by omega) m1).mono ?_
  rintro e w2 ⟨z, rfl, hz, hsl, hiz, hb2⟩
  have H2 := Lib.hid (And.intro hz (And.intro hsl (And.intro hiz hb2)))
  clear hz hsl hiz hb2
  go_wp2_with fail
  refine (Cmp_any _ z (x.natAbs : Int) m L w2 (HG.out.2.2.below H2.out.2.2.2) (H2.out.2.2.1.more hL2) hL).mono ?_
  rintro e w3 ⟨rfl, j, rfl⟩
  have HE := Lib.hid (show Below w.heap.size w w2 from HB.out.trans ((HG.out.2.1.below (B := w.heap.size) (Nat.le_refl _) (by simp)).trans (H2.out.2.2.2.mono (by have := HG.out.2.1.size; simp at this; omega))))
  by_cases c : -m ≤ x ∧ x ≤ m
  · have hc : cmpI (x.natAbs : Int) m ≤ 0 := by unfold cmpI; (repeat' split) <;> omega
    go_wp2_with fail
    refine (Int64_any p x L _ (show IntAt (w2.drewN j) p x L from ?_) (by omega) (by omega)).mono ?_
    · have h1 := (HP.out.below HB.out)
      have h2 := HG.out.2.1.intAt HS.out h1 (by rintro rfl; simp at hps)
      exact (show IntAt w2 p x L from h2.below (H2.out.2.2.2))
    rintro e w4 ⟨rfl, rfl⟩
    go_wp2_with fail
    go_ret2
    exact ⟨ret2_eq (if_pos c).symm (if_pos c).symm, Below.drewN' HE.out j⟩
  · have hc : 0 < cmpI (x.natAbs : Int) m := by unfold cmpI; (repeat' split) <;> omega
    go_wp2_with fail
    go_ret2
    exact ⟨ret2_eq (if_neg c).symm (if_neg c).symm, Below.drewN' HE.out j⟩

theorem near_any (a b : Int) (w : World) (a0 : -2305843009213693952 ≤ a) (a1 : a ≤ 2305843009213693952) (b0 : -2305843009213693952 ≤ b) (b1 : b ≤ 2305843009213693952) :
    Calls Tryz.prog 25 #[.int .i64 a, .int .i64 b] w fun e w' => e = .returned (.int .i64 (Ck.nearI a b)) ∧ w = w' := by
  unfold Ck.nearI
  by_cases c : a < b
  · rw [if_pos c]
    go_enter Tryz.func25, Tryz.ntmps25
    go_wp2_with fail
    go_ret
    exact ⟨rfl, rfl⟩
  · rw [if_neg c]
    go_enter Tryz.func25, Tryz.ntmps25
    go_wp2_with fail
    go_ret
    exact ⟨rfl, rfl⟩

theorem unw_wi (l s : Int) (h : Ck.inT l = true) : wiV (Ck.unw l s) 1125899906842624 = Ck.unwV l s ∧ wiE (Ck.unw l s) 1125899906842624 = Ck.unwE l s := by
  by_cases c : Ck.inT (Ck.unw l s) = true
  · have e : Ck.unwOk l s = true := Ck.unwOk_iff.2 ⟨h, c⟩
    have := Ck.inT_iff.1 c
    simp [wiV, wiE, Ck.unwV, Ck.unwE, e]; omega
  · have e : Ck.unwOk l s = false := by simp [Ck.unwOk, h]; simpa using c
    have : ¬ (-1125899906842624 ≤ Ck.unw l s ∧ Ck.unw l s ≤ 1125899906842624) := fun hh => c (Ck.inT_iff.2 hh)
    simp only [wiV, wiE, Ck.unwV, Ck.unwE, e, if_neg this]; simp
theorem bst_bd {l s k : Int} (l0 : -1125899906842624 ≤ l) (l1 : l ≤ 1125899906842624) (s0 : 0 ≤ s) (s1 : s ≤ 4294967295) : -4503599627370496 ≤ Ck.bst l s k ∧ Ck.bst l s k ≤ 4503599627370496 := by
  have := Ck.unw_bd l s
  unfold Ck.bst
  (repeat' split) <;> omega
theorem cand_bd {l s k : Int} (l0 : -1125899906842624 ≤ l) (l1 : l ≤ 1125899906842624) (s0 : 0 ≤ s) (s1 : s ≤ 4294967295) (k0 : -2 ≤ k) (k1 : k ≤ 2) : -4503599627370496 ≤ Ck.cand l s k ∧ Ck.cand l s k ≤ 4503599627370496 := by
  unfold Ck.cand; omega

set_option maxHeartbeats 2000000 in
theorem runwrap_any (l s : Int) (w : World) (s0 : 0 ≤ s) (s1 : s ≤ 4294967295) :
    Calls Tryz.prog 10 #[.int .i64 l, .int .u32 s] w fun e w' => e = .returned (.tuple #[.int .i64 (Ck.unwV l s), .int .i64 (Ck.unwE l s)]) ∧ Below w.heap.size w w' := by
  by_cases k : Ck.inT l = true
  · obtain ⟨l0, l1⟩ := Ck.inT_iff.1 k
    have HK := Lib.hid (unw_wi l s k)
    have HN := Lib.hid (fun W => near_any (a := l) (b := l) (w := W))
    clear k
    go_enter Tryz.func10, Tryz.ntmps10
    go_wp2_with fail
    go_loop [6, 7, 8] (fun b f k => ∃ i : Int, -2 ≤ i ∧ i ≤ 3 ∧ k = .int .i64 i ∧ b = .int .i64 (Ck.bst l s i) ∧ f = .bool (decide (i = -2))) (fun _ _ k => (3 - intOf k).toNat)
    case atStart => exact ⟨-2, by omega, by omega, rfl, rfl, rfl⟩
    case round =>
      obtain ⟨i, i0, i1, rfl, rfl, rfl⟩ := hrel
      by_cases c : i ≤ 2
      · have hst := Ck.bst_step (last := l) (s := s) (k := i) s0 (by omega) i0 c
        obtain ⟨b0, b1⟩ := bst_bd (k := i) l0 l1 s0 s1
        obtain ⟨g0, g1⟩ := cand_bd (k := i) l0 l1 s0 s1 i0 c
        have hcand : (l / 4294967296 + i) * 4294967296 + s = Ck.cand l s i := rfl
        obtain ⟨B, hB⟩ : ∃ B, Ck.bst l s i = B := ⟨_, rfl⟩
        obtain ⟨G, hG⟩ : ∃ G, Ck.cand l s i = G := ⟨_, rfl⟩
        rw [hB, hG] at hst
        rw [hB] at b0 b1 ⊢
        rw [hG] at g0 g1 hcand
        have HST := Lib.hid hst
        clear hst hB hG
        obtain ⟨fb, hfb⟩ : ∃ fb, decide (i = -2) = fb := ⟨_, rfl⟩
        obtain ⟨P, hP⟩ : ∃ P, Ck.nearI G l = P := ⟨_, rfl⟩
        obtain ⟨Q, hQ⟩ : ∃ Q, Ck.nearI B l = Q := ⟨_, rfl⟩
        have HP := Lib.hid hP
        have HQ := Lib.hid hQ
        have HF := Lib.hid hfb
        rw [hfb]
        clear hP hQ hfb
        cases fb
        · have hf : ¬ i = -2 := by have := HF.out; simpa using this
          by_cases c1 : P < Q
          · go_wp2_with (first | (go_at_call_of 25 G; refine (near_any G l _ (by omega) (by omega) (by omega) (by omega)).mono ?_; rw [HP.out]; rintro e w' ⟨rfl, rfl⟩) | (go_at_call_of 25 B; refine (near_any B l _ (by omega) (by omega) (by omega) (by omega)).mono ?_; rw [HQ.out]; rintro e w' ⟨rfl, rfl⟩))
            go_round
            case rel => exact ⟨i + 1, by omega, by omega, rfl, int_eq (by rw [HST.out, if_pos (by rw [HP.out, HQ.out]; omega)]), congrArg Value.bool (by simp; omega)⟩
            case measure => simp [intOf]; omega
          · by_cases c2 : Q < P
            · have c3 : (P == Q) = false := by simp; omega
              go_wp2_with (first | (go_at_call_of 25 G; refine (near_any G l _ (by omega) (by omega) (by omega) (by omega)).mono ?_; rw [HP.out]; rintro e w' ⟨rfl, rfl⟩) | (go_at_call_of 25 B; refine (near_any B l _ (by omega) (by omega) (by omega) (by omega)).mono ?_; rw [HQ.out]; rintro e w' ⟨rfl, rfl⟩))
              go_round
              case rel => exact ⟨i + 1, by omega, by omega, rfl, int_eq (by rw [HST.out, if_neg (by rw [HP.out, HQ.out]; omega)]), congrArg Value.bool (by simp; omega)⟩
              case measure => simp [intOf]; omega
            · have c3 : (P == Q) = true := by simp; omega
              by_cases c4 : B < G
              · go_wp2_with (first | (go_at_call_of 25 G; refine (near_any G l _ (by omega) (by omega) (by omega) (by omega)).mono ?_; rw [HP.out]; rintro e w' ⟨rfl, rfl⟩) | (go_at_call_of 25 B; refine (near_any B l _ (by omega) (by omega) (by omega) (by omega)).mono ?_; rw [HQ.out]; rintro e w' ⟨rfl, rfl⟩))
                go_round
                case rel => exact ⟨i + 1, by omega, by omega, rfl, int_eq (by rw [HST.out, if_pos (by rw [HP.out, HQ.out]; omega)]), congrArg Value.bool (by simp; omega)⟩
                case measure => simp [intOf]; omega
              · go_wp2_with (first | (go_at_call_of 25 G; refine (near_any G l _ (by omega) (by omega) (by omega) (by omega)).mono ?_; rw [HP.out]; rintro e w' ⟨rfl, rfl⟩) | (go_at_call_of 25 B; refine (near_any B l _ (by omega) (by omega) (by omega) (by omega)).mono ?_; rw [HQ.out]; rintro e w' ⟨rfl, rfl⟩))
                go_round
                case rel => exact ⟨i + 1, by omega, by omega, rfl, int_eq (by rw [HST.out, if_neg (by rw [HP.out, HQ.out]; omega)]), congrArg Value.bool (by simp; omega)⟩
                case measure => simp [intOf]; omega
        · have hf : i = -2 := by have := HF.out; simpa using this
          have HI := Lib.hid hf
          clear hf
          go_wp2_with fail
          go_round
          case rel => exact ⟨i + 1, by omega, by omega, rfl, int_eq (by rw [HST.out, if_pos (.inl HI.out)]), congrArg Value.bool (by have := HI.out; simp; omega)⟩
          case measure => simp [intOf]; omega
      · obtain rfl : i = 3 := by omega
        rw [Ck.bst_end]
        have hb := Ck.unw_bd l s
        obtain ⟨u, hu⟩ : ∃ u, Ck.unw l s = u := ⟨_, rfl⟩
        have HU := Lib.hid hu
        rw [hu] at hb ⊢
        obtain ⟨hb0, hb1⟩ := hb
        clear hu
        go_wp2_with fail
        refine (newInt_any u w (by omega) (by omega)).mono ?_
        rintro e w2 ⟨z, rfl, hz, hsl, hiz, hb2⟩
        have H2 := Lib.hid (And.intro hiz hb2)
        clear hz hsl hiz hb2
        go_wp2_with fail
        refine (rwithin_any z u 1125899906842624 2 w2 H2.out.1 (by omega) (by omega) (by omega) (by omega)).mono ?_
        rintro e w3 ⟨rfl, hb3⟩
        have H3 := Lib.hid hb3
        clear hb3
        go_wp2_with fail
        go_ret2
        have hk := HK.out
        rw [HU.out] at hk
        exact ⟨ret2_eq hk.1 hk.2, H2.out.2.trans (H3.out.mono H2.out.2.size)⟩
  · have k' : Ck.inT l = false := by simpa using k
    have e1 : Ck.unwOk l s = false := by simp [Ck.unwOk, k']
    rw [show Ck.unwV l s = 0 by simp [Ck.unwV, e1], show Ck.unwE l s = 1 by simp [Ck.unwE, e1]]
    clear k' e1
    by_cases c1 : l < -1125899906842624
    · clear k
      go_enter Tryz.func10, Tryz.ntmps10
      go_wp2_with fail
      go_ret2
      exact ⟨rfl, Below.refl _ _⟩
    · have c2 : 1125899906842624 < l := Int.not_le.1 fun h => k (Ck.inT_iff.2 ⟨by omega, h⟩)
      clear k
      go_enter Tryz.func10, Tryz.ntmps10
      go_wp2_with fail
      go_ret2
      exact ⟨rfl, Below.refl _ _⟩

end Go.Proofs.YtebacmmfjadalaaGreat
