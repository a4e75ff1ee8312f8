/- Contracts of the reference's clock: within, near, Unwrap; the walk of ClockUnwraps. No condition beside that the stamp fits 32 bits. -/
import Derived.Test.YtiohemofidphjaaDoorQ6
import Derived.Test.YtiohemofidphjaaDoorA7
namespace Go.Proofs.YtiohemofidphjaaDoor
open Go.RowKit Bg

/-- what the reference's within answers -/
def wiV (x m : Int) : Int := if -m ≤ x ∧ x ≤ m then x else 0
def wiE (x m : Int) : Int := if -m ≤ x ∧ x ≤ m then 0 else 1

theorem ret2_eq {k l : IntKind} {a b c d : Int} (h : a = b) (h' : c = d) : Ending.returned (.tuple #[.int k a, .int l c]) = Ending.returned (.tuple #[.int k b, .int l d]) := by rw [h, h']
theorem Below.drewN' {B : Nat} {a w : World} (h : Below B a w) (n : Nat) : Below B a (w.drewN n) := ⟨h.os, h.tape, h.output, h.size, h.block⟩

set_option maxHeartbeats 1000000 in
theorem rwithin_any (p : Addr) (x m : Int) (L : Nat) (w : World) (hp : IntAt w p x L) (hL : L ≤ 1099511627776) (hL2 : 2 ≤ L) (m0 : 0 ≤ m) (m1 : m ≤ 9223372036854775807) :
    Calls Tryd.prog 28 #[.pointer (some p), .int .i64 m] w fun e w' => e = .returned (.tuple #[.int .i64 (wiV x m), .int .i64 (wiE x m)]) ∧ Below w.heap.size w w' := by
  have hps : p.block < w.heap.size := by obtain ⟨b, off, -, -, -, rfl, hb, -⟩ := hp; exact hb
  have HP := Lib.hid hp
  have HS := Lib.hid (Slot.new w false none 0 0 68)
  have HB := Lib.hid (show Below w.heap.size w (w.alloc (.cells #[.bool false, .slice none 0 0] 68)) from (Below.refl _ _).alloc (Nat.le_refl _) _)
  clear hp
  go_enter Tryd.func28, Tryd.ntmps28
  go_wp2_with fail
  refine (Abs_any _ p x L _ HS.out (HP.out.below HB.out) hL).mono ?_
  rintro e w1 hg
  have HG := Lib.hid hg
  obtain ⟨rfl, -, -⟩ := hg
  go_wp2_with fail
  refine (newInt_any m w1 (by omega) m1).mono ?_
  rintro e w2 ⟨z, rfl, hz, hsl, hiz, hb2⟩
  have H2 := Lib.hid (And.intro hz (And.intro hsl (And.intro hiz hb2)))
  clear hz hsl hiz hb2
  go_wp2_with fail
  refine (Cmp_any _ z (x.natAbs : Int) m L w2 (HG.out.2.2.below H2.out.2.2.2) (H2.out.2.2.1.more hL2) hL).mono ?_
  rintro e w3 ⟨rfl, j, rfl⟩
  have HE := Lib.hid (show Below w.heap.size w w2 from HB.out.trans ((HG.out.2.1.below (B := w.heap.size) (Nat.le_refl _) (by simp)).trans (H2.out.2.2.2.mono (by have := HG.out.2.1.size; simp at this; omega))))
  by_cases c : -m ≤ x ∧ x ≤ m
  · have hc : cmpI (x.natAbs : Int) m ≤ 0 := by unfold cmpI; (repeat' split) <;> omega
    go_wp2_with fail
    refine (Int64_any p x L _ (show IntAt (w2.drewN j) p x L from ?_) (by omega) (by omega)).mono ?_
    · have h1 := (HP.out.below HB.out)
      have h2 := HG.out.2.1.intAt HS.out h1 (by rintro rfl; simp at hps)
      exact (show IntAt w2 p x L from h2.below (H2.out.2.2.2))
    rintro e w4 ⟨rfl, rfl⟩
    go_wp2_with fail
    go_ret2
    exact ⟨ret2_eq (if_pos c).symm (if_pos c).symm, Below.drewN' HE.out j⟩
  · have hc : 0 < cmpI (x.natAbs : Int) m := by unfold cmpI; (repeat' split) <;> omega
    go_wp2_with fail
    go_ret2
    exact ⟨ret2_eq (if_neg c).symm (if_neg c).symm, Below.drewN' HE.out j⟩

theorem unw_wi (l s : Int) (h : Ck.inT l = true) : wiV (Ck.unw l s) 1125899906842624 = Ck.unwV l s ∧ wiE (Ck.unw l s) 1125899906842624 = Ck.unwE l s := by
  by_cases c : Ck.inT (Ck.unw l s) = true
  · have e : Ck.unwOk l s = true := Ck.unwOk_iff.2 ⟨h, c⟩
    have := Ck.inT_iff.1 c
    simp [wiV, wiE, Ck.unwV, Ck.unwE, e]; omega
  · have e : Ck.unwOk l s = false := by simp [Ck.unwOk, h]; simpa using c
    have : ¬ (-1125899906842624 ≤ Ck.unw l s ∧ Ck.unw l s ≤ 1125899906842624) := fun hh => c (Ck.inT_iff.2 hh)
    simp only [wiV, wiE, Ck.unwV, Ck.unwE, e, if_neg this]; simp
theorem bst_bd {l s k : Int} (l0 : -1125899906842624 ≤ l) (l1 : l ≤ 1125899906842624) (s0 : 0 ≤ s) (s1 : s ≤ 4294967295) : -4503599627370496 ≤ Ck.bst l s k ∧ Ck.bst l s k ≤ 4503599627370496 := by
  have := Ck.unw_bd l s
  unfold Ck.bst
  (repeat' split) <;> omega
theorem cand_bd {l s k : Int} (l0 : -1125899906842624 ≤ l) (l1 : l ≤ 1125899906842624) (s0 : 0 ≤ s) (s1 : s ≤ 4294967295) (k0 : -2 ≤ k) (k1 : k ≤ 2) : -4503599627370496 ≤ Ck.cand l s k ∧ Ck.cand l s k ≤ 4503599627370496 := by
  unfold Ck.cand; omega

end Go.Proofs.YtiohemofidphjaaDoor
