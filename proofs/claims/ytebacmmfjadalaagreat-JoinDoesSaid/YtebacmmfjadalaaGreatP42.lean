/- Q20 in one text. -/
import Derived.Test.YtebacmmfjadalaaGreatP40
import Derived.Test.YtebacmmfjadalaaGreatP41

namespace Go.Proofs.YtebacmmfjadalaaGreat.Bg
open Go Go.RowKit

theorem rcheck_any (o n d : Int) (w : World) :
    Calls Tryz.prog 22 #[clk o n d] w fun e w' => e = .returned (.int .i64 (if Ck.okc o n d then 0 else 130)) ∧ Below w.heap.size w w' := by
  unfold clk
  by_cases c0 : n < 1
  · rw [show Ck.okc o n d = false by simp [Ck.okc]; omega]
    go_enter Tryz.func22, Tryz.ntmps22
    go_wp2_with fail
    go_ret
    exact ⟨rfl, (Below.refl _ _).alloc (Nat.le_refl _) _⟩
  · by_cases c1 : 1000000000 < n
    · rw [show Ck.okc o n d = false by simp [Ck.okc]; omega]
      go_enter Tryz.func22, Tryz.ntmps22
      go_wp2_with fail
      go_ret
      exact ⟨rfl, (Below.refl _ _).alloc (Nat.le_refl _) _⟩
    · by_cases c2 : d < 1
      · rw [show Ck.okc o n d = false by simp [Ck.okc]; omega]
        go_enter Tryz.func22, Tryz.ntmps22
        go_wp2_with fail
        go_ret
        exact ⟨rfl, (Below.refl _ _).alloc (Nat.le_refl _) _⟩
      · by_cases c3 : 1000000000 < d
        · rw [show Ck.okc o n d = false by simp [Ck.okc]; omega]
          go_enter Tryz.func22, Tryz.ntmps22
          go_wp2_with fail
          go_ret
          exact ⟨rfl, (Below.refl _ _).alloc (Nat.le_refl _) _⟩
        · by_cases c4 : o < -1125899906842624
          · rw [show Ck.okc o n d = false by simp [Ck.okc]; omega]
            go_enter Tryz.func22, Tryz.ntmps22
            go_wp2_with fail
            go_ret
            exact ⟨rfl, (Below.refl _ _).alloc (Nat.le_refl _) _⟩
          · by_cases c5 : 1125899906842624 < o
            · rw [show Ck.okc o n d = false by simp [Ck.okc]; omega]
              go_enter Tryz.func22, Tryz.ntmps22
              go_wp2_with fail
              go_ret
              exact ⟨rfl, (Below.refl _ _).alloc (Nat.le_refl _) _⟩
            · rw [show Ck.okc o n d = true by simp [Ck.okc]; omega]
              go_enter Tryz.func22, Tryz.ntmps22
              go_wp2_with fail
              go_ret
              exact ⟨rfl, (Below.refl _ _).alloc (Nat.le_refl _) _⟩

theorem add_eq {z : Addr} {w w' : World} {x y r : Int} {L : Nat} {e : Ending} (h : Gives w z (x + y) L e w') (hr : r = y + x) : Gives w z r L e w' := by rw [hr, Int.add_comm]; exact h

set_option maxHeartbeats 2000000 in
theorem rplain_any (o n c : Int) (d : Nat) (w : World) (hk : Ck.okc o n d = true) (c0 : -1125899906842624 ≤ c) (c1 : c ≤ 1125899906842624) :
    Calls Tryz.prog 28 #[clk o n d, .int .i64 c] w (Fresh w (o + c * n / (d : Int)) 6) := by
  obtain ⟨n0, n1, d0, d1, o0, o1⟩ := Ck.okc_iff.1 hk
  have HA := Lib.hid (And.intro (And.intro n0 n1) (And.intro d0 d1))
  have HB := Lib.hid (And.intro (And.intro o0 o1) (And.intro c0 c1))
  clear hk n0 n1 d0 d1 o0 o1 c0 c1
  unfold clk
  go_enter Tryz.func28, Tryz.ntmps28
  go_wp2_with fail
  refine (floor_any c n d _ (by have := HB.out.2; omega) (by have := HB.out.2; omega) (by have := HA.out.1; omega) (by have := HA.out.1; omega) (by have := HA.out.2; omega) (by have := HA.out.2; omega)).mono ?_
  rintro e w1 ⟨z, rfl, hz, hs, hi, hb⟩
  have hc0 : w1.cell? ⟨w.heap.size, 0, none⟩ = some (.int .i64 o) := (hb.cell (by simp)).trans (by simp [go_sem])
  have H1 := Lib.hid (And.intro hi (And.intro hs (And.intro (show w.heap.size ≤ z.block from by simp at hz; omega) (((Below.refl w.heap.size w).alloc (Nat.le_refl _) _).trans (hb.mono (by simp))))))
  clear hz hs hi hb
  go_wp2_with fail
  refine (newInt_any o _ (by have := HB.out.1; omega) (by have := HB.out.1; omega)).mono ?_
  rintro e w2 ⟨q, rfl, hq, -, hqi, hb⟩
  have H2 := Lib.hid (And.intro (hqi.more (L' := 5) (by omega)) (And.intro (H1.out.1.below hb) (Fresh.keep H1.out.2.2.2 H1.out.2.1 hq hb)))
  have HZ := Lib.hid H1.out.2.2.1
  clear hq hqi hb H1 hc0
  go_wp2_with fail
  refine (Add_any z z q _ o 5 w2 H2.out.2.2.1 H2.out.2.1 H2.out.1 (by omega)).mono ?_
  rintro e w3 hg
  have H3 := Lib.hid (And.intro hg.2.2 (Gives.keep H2.out.2.2.2.2 H2.out.2.2.1 HZ.out hg))
  obtain ⟨rfl, -⟩ := hg
  clear H2
  go_wp2_with fail
  go_ret
  exact ⟨z, rfl, HZ.out, H3.out.2.1, by rw [Int.add_comm]; exact H3.out.1, H3.out.2.2⟩

theorem below_chain {w w1 w2 : World} (h : Below w.heap.size w w1) (h2 : Below w1.heap.size w1 w2) : Below w.heap.size w w2 := h.trans (h2.mono h.size)
theorem Fresh.open {w w' : World} {r : Int} {L : Nat} {e : Ending} (h : Fresh w r L e w') : ∃ z, e = .returned (.pointer (some z)) ∧ Hid (IntAt w' z r L ∧ Slot w' z ∧ w.heap.size ≤ z.block ∧ Below w.heap.size w w') := by
  obtain ⟨z, h1, h2, h3, h4, h5⟩ := h
  exact ⟨z, h1, Lib.hid ⟨h4, h3, h2, h5⟩⟩

theorem wi_time {o n d c : Int} (k : Ck.okc o n d = true) (kc : Ck.inT c = true) : wiV (o + c * n / d) 1125899906842624 = Ck.timeV o n d c ∧ wiE (o + c * n / d) 1125899906842624 = Ck.timeE o n d c := by
  unfold wiV wiE Ck.timeV Ck.timeE Ck.timeOk
  rw [k, kc]
  by_cases h : -1125899906842624 ≤ o + c * n / d ∧ o + c * n / d ≤ 1125899906842624
  · have h' : Ck.inT (o + c * n / d) = true := Ck.inT_iff.2 h
    rw [if_pos h, if_pos h, h']
    exact ⟨rfl, rfl⟩
  · have h' : Ck.inT (o + c * n / d) = false := Bool.eq_false_iff.2 fun e => h (Ck.inT_iff.1 e)
    rw [if_neg h, if_neg h, h']
    exact ⟨rfl, rfl⟩
theorem wi_count {o n d t : Int} (k : Ck.okc o n d = true) (kc : Ck.inT t = true) : wiV (-((o - t) * d / n)) 1125899906842624 = Ck.countV o n d t ∧ wiE (-((o - t) * d / n)) 1125899906842624 = Ck.countE o n d t := by
  unfold wiV wiE Ck.countV Ck.countE Ck.countOk
  rw [k, kc]
  by_cases h : -1125899906842624 ≤ -((o - t) * d / n) ∧ -((o - t) * d / n) ≤ 1125899906842624
  · have h' : Ck.inT (-((o - t) * d / n)) = true := Ck.inT_iff.2 h
    rw [if_pos h, if_pos h, h']
    exact ⟨rfl, rfl⟩
  · have h' : Ck.inT (-((o - t) * d / n)) = false := Bool.eq_false_iff.2 fun e => h (Ck.inT_iff.1 e)
    rw [if_neg h, if_neg h, h']
    exact ⟨rfl, rfl⟩

theorem rcheck_ok (o n d : Int) (w : World) (k : Ck.okc o n d = true) : Calls Tryz.prog 22 #[.agg #[.int .i64 o, .int .i64 n, .int .i64 d]] w fun e w' => e = .returned (.int .i64 0) ∧ Below w.heap.size w w' := by
  have h := rcheck_any o n d w
  rw [k] at h
  exact h
theorem rcheck_bad (o n d : Int) (w : World) (k : Ck.okc o n d = false) : Calls Tryz.prog 22 #[.agg #[.int .i64 o, .int .i64 n, .int .i64 d]] w fun e w' => e = .returned (.int .i64 130) ∧ Below w.heap.size w w' := by
  have h := rcheck_any o n d w
  rw [k] at h
  exact h

set_option maxHeartbeats 2000000 in
theorem rtime_any (o n d c : Int) (w : World) :
    Calls Tryz.prog 11 #[clk o n d, .int .i64 c] w fun e w' => e = .returned (.tuple #[.int .i64 (Ck.timeV o n d c), .int .i64 (Ck.timeE o n d c)]) ∧ Below w.heap.size w w' := by
  by_cases k : Ck.okc o n d = true
  · have K := Lib.hid k
    by_cases kc : Ck.inT c = true
    · obtain ⟨c0, c1⟩ := Ck.inT_iff.1 kc
      obtain ⟨h1, h2⟩ := wi_time k kc
      obtain ⟨m, rfl⟩ : ∃ m : Nat, d = (m : Int) := ⟨d.toNat, by have := (Ck.okc_iff.1 k).2.2.1; omega⟩
      have HE := Lib.hid (And.intro h1 h2)
      have HC := Lib.hid (And.intro c0 c1)
      clear k kc h1 h2
      unfold clk
      go_enter Tryz.func11, Tryz.ntmps11
      go_wp2_with (first | (go_at_call 22; refine (rcheck_ok _ _ _ _ K.out).mono ?_; rintro e w1 ⟨rfl, hb1⟩; obtain ⟨hcell, -⟩ := bcell hb1))
      refine (rplain_any o n c m _ K.out HC.out.1 HC.out.2).mono ?_
      rintro e w2 hf
      obtain ⟨z, rfl, HF⟩ := hf.open
      clear hf
      go_wp2_with fail
      refine (rwithin_any z _ 1125899906842624 6 _ HF.out.1 (by omega) (by omega) (by omega) (by omega)).mono ?_
      rintro e w3 ⟨rfl, hb3⟩
      rw [HE.out.1, HE.out.2]
      have HB := Lib.hid (below_chain (below_chain (below2 hb1) HF.out.2.2.2) hb3)
      clear hb3 hb1
      go_wp2_with fail
      go_ret2
      exact ⟨rfl, HB.out⟩
    · have kc' : Ck.inT c = false := by simpa using kc
      have e1 : Ck.timeOk o n d c = false := by simp [Ck.timeOk, kc']
      rw [show Ck.timeV o n d c = 0 by simp [Ck.timeV, e1], show Ck.timeE o n d c = 1 by simp [Ck.timeE, k, e1]]
      by_cases c0 : c < -1125899906842624
      · clear k kc kc' e1
        unfold clk
        go_enter Tryz.func11, Tryz.ntmps11
        go_wp2_with (first | (go_at_call 22; refine (rcheck_ok _ _ _ _ K.out).mono ?_; rintro e w1 ⟨rfl, hb1⟩; obtain ⟨hcell, -⟩ := bcell hb1))
        go_ret2
        exact ⟨rfl, below2 hb1⟩
      · have c1 : 1125899906842624 < c := by
          refine Classical.byContradiction fun h => kc (Ck.inT_iff.2 ⟨?_, ?_⟩) <;> omega
        clear k kc kc' e1
        unfold clk
        go_enter Tryz.func11, Tryz.ntmps11
        go_wp2_with (first | (go_at_call 22; refine (rcheck_ok _ _ _ _ K.out).mono ?_; rintro e w1 ⟨rfl, hb1⟩; obtain ⟨hcell, -⟩ := bcell hb1))
        go_ret2
        exact ⟨rfl, below2 hb1⟩
  · have k' : Ck.okc o n d = false := by simpa using k
    rw [show Ck.timeV o n d c = 0 by simp [Ck.timeV, Ck.timeOk, k'], show Ck.timeE o n d c = 130 by simp [Ck.timeE, k']]
    have K := Lib.hid k'
    clear k k'
    unfold clk
    go_enter Tryz.func11, Tryz.ntmps11
    go_wp2_with (go_at_call 22; refine (rcheck_bad _ _ _ _ K.out).mono ?_; rintro e w1 ⟨rfl, hb1⟩)
    go_ret2
    exact ⟨rfl, below2 hb1⟩
end Go.Proofs.YtebacmmfjadalaaGreat.Bg
