/- SN6 in one text. -/
import Derived.Test.YtmecnlgndaeidaaGreatDoorP38
import Derived.Test.YtmecnlgndaeidaaGreatDoorP39
import Derived.Test.YtmecnlgndaeidaaGreatDoorP41
import Derived.Test.YtmecnlgndaeidaaGreatDoorP16

namespace Go.Proofs.YtmecnlgndaeidaaGreatDoor.Nb
open Go Nx

theorem revDig_ge {n d : Nat} (h : 10 ^ (n - 1) ≤ d) (hd : d < 10 ^ 18) : n ≤ (revDig d).length := by
  have h1 := revDig_dig 18 d hd
  have h2 := decN_lt _ h1.1
  rw [h1.2, List.length_reverse] at h2
  rcases Nat.lt_or_ge (revDig d).length n with c | c
  · have : 10 ^ (revDig d).length ≤ 10 ^ (n - 1) := Nat.pow_le_pow_right (by omega) (by omega)
    omega
  · exact c
/-- the digits that stand in Short's text, the point left out -/
def shortD (d0 : UInt8) (ds : List UInt8) : List UInt8 := d0 :: Lib.trimRightB ds 48
theorem shortD_len {X p q n d : Nat} {E : Int} {d0 : UInt8} {ds : List UInt8} (h : ShortSays X p q E n d d0 ds) : (shortD d0 ds).length = n := by
  have hf := h.few
  obtain ⟨h1, h2, d0', ds', e, hl, hl17⟩ := few_digits h.q0 hf
  rw [h.dig] at e
  injection e with e1 e2
  subst e1 e2
  have hrev : revDig d = ds.reverse ++ [d0] := by
    have := congrArg List.reverse h.dig
    rw [List.reverse_reverse, List.reverse_cons] at this
    exact this
  have hpos : revDig d = UInt8.ofNat (48 + d % 10) :: revDig (d / 10) := revDig_pos (by omega)
  unfold shortD
  rw [List.length_cons]
  rcases Nat.lt_or_ge n 2 with c | c
  · have n1 : n = 1 := by have := hf.n0; omega
    subst n1
    have hlo := low_in (n := 1) h.q0 hf.dec rfl (by omega)
    have hd0 := hf.d0
    rw [show (10 : Nat) ^ 1 = 10 by decide] at hlo
    have hd10 : d ≤ 10 := by omega
    rcases Nat.lt_or_ge d 10 with c2 | c2
    · rw [hpos, show d / 10 = 0 by omega, revDig_zero] at hrev
      have hz : ds = [] := by
        cases ds with
        | nil => rfl
        | cons a l => have := congrArg List.length hrev; simp at this
      subst hz
      rfl
    · obtain rfl : d = 10 := by omega
      rw [hpos, show 10 / 10 = 1 by decide, revDig_pos (by omega), show 1 / 10 = 0 by decide, revDig_zero] at hrev
      have hz : ds = [48] := by
        cases ds with
        | nil => have := congrArg List.length hrev; simp at this
        | cons a l =>
          cases l with
          | nil =>
            simp at hrev
            rw [hrev.1]
          | cons b m => have := congrArg List.length hrev; simp at this
      subst hz
      rfl
  · have hlast := few_last hf c
    have hlen := few_len h.q0 hf c
    have hle : (revDig d).length ≤ n := revDig_len_le n d hlen.2
    have hge := revDig_ge hlen.1 (by omega)
    have hds : ds ≠ [] := by
      intro hz
      subst hz
      have := congrArg List.length hrev
      simp at this
      omega
    have htr : Lib.trimRightB ds 48 = ds := by
      unfold Lib.trimRightB
      cases hr : ds.reverse with
      | nil => exact absurd (List.reverse_eq_nil_iff.1 hr) hds
      | cons a l =>
        rw [hr, hpos] at hrev
        injection hrev with e1 e2
        have ha : ¬ (a == 48) = true := by
          rw [← e1]
          intro e
          have e3 : UInt8.ofNat (48 + d % 10) = 48 := by simpa using e
          have e4 : (UInt8.ofNat (48 + d % 10)).toNat = 48 + d % 10 := dig_ofNat (Nat.mod_lt _ (by omega))
          rw [e3] at e4
          have e5 : (48 : UInt8).toNat = 48 := rfl
          omega
        rw [List.dropWhile_cons, if_neg ha, ← hr, List.reverse_reverse]
    rw [htr]
    omega
/-- a neighbour's text -/
def nbT (q : Nat) (e : Int) : DTxt := ⟨false, (revDig q).reverse, none, some (decide (e < 0), Lib.decDigits e.natAbs)⟩
theorem nbT_ok {q : Nat} {e : Int} (h0 : 0 < q) (hq : q < 10 ^ 18) : (nbT q e).Ok := by
  refine ⟨(revDig_dig 18 q hq).1, ?_, fun l h => (by cases h), fun b l h => ?_⟩
  · show (revDig q).reverse ≠ []
    rw [ne_eq, List.reverse_eq_nil_iff, revDig_pos (by omega)]
    simp
  · have h' : some (decide (e < 0), Lib.decDigits e.natAbs) = some (b, l) := h
    injection h' with h'
    injection h' with _ h2
    subst h2
    refine ⟨dec_digs _, fun hz => ?_⟩
    have := congrArg List.length hz
    rw [Lib.decDigits_length] at this
    have h3 := Lib.nDigits_pos e.natAbs
    simp at this
    omega
theorem nbT_list (q : Nat) (e : Int) : (nbT q e).list = (revDig q).reverse ++ 101 :: Lib.itoa e := by
  unfold nbT DTxt.list fracT expT sgn Lib.itoa
  by_cases c : e < 0
  · simp [c]
  · simp [c]
    rw [show e.natAbs = e.toNat by omega]
theorem nbT_exp {q : Nat} {e : Int} (h1 : -2000 ≤ e) (h2 : e ≤ 2000) : (nbT q e).exp = e := by
  have hl : (Lib.trimLeftB (Lib.decDigits e.natAbs) 48).length < 6 := by
    have := trim_len (Lib.decDigits e.natAbs)
    rw [Lib.decDigits_length] at this
    have := nDig_le 4 e.natAbs (by omega) (by omega)
    omega
  unfold nbT DTxt.exp expZ
  simp only [if_pos hl, Option.getD_none, List.length_nil]
  rw [decN_trim, decN_dec]
  by_cases c : e < 0
  · simp [c]; omega
  · simp [c]; omega
theorem nbT_digs (q : Nat) (e : Int) (hq : q < 10 ^ 18) : decN (nbT q e).digs = q := by
  unfold nbT DTxt.digs
  simp only [Option.getD_none, List.append_nil]
  exact (revDig_dig 18 q hq).2
/-- a text that is not read as the number -/
theorem nbT_not {q X f : Nat} {e c : Int} (_ : 0 < q) (hq : q < 10 ^ 18) (h1 : -2000 ≤ e) (h2 : e ≤ 2000) (hX0 : 0 < X) (hn : ¬ Hits q e X) (hs : (nbT q e).Says f c) : (c = 5 ∧ f = 0) ∨ (c = 0 ∧ f < 9218868437227405312 ∧ f ≠ X) := by
  rcases hs with ⟨rfl, rfl, -⟩ | ⟨rfl, Y, hY, hl, hf⟩
  · exact .inl ⟨rfl, rfl⟩
  · have hff : f = Y := by rw [hf]; rfl
    rw [hff]
    refine .inr ⟨rfl, hl, ?_⟩
    rintro rfl
    rcases hY with ⟨-, hz⟩ | ⟨-, -, P, Q, hQ, he, hr⟩
    · omega
    · rw [nbT_exp h1 h2, nbT_digs q e hq] at he
      refine hn ?_
      unfold Hits
      exact rnd_move hQ (Nat.pow_pos (by omega)) he hr
end Go.Proofs.YtmecnlgndaeidaaGreatDoor.Nb
