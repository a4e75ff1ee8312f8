/- Q11 Q15 Q16 Q12 Q17 in one text. -/
import Derived.Test.YtbidlkmagbjllaaGreatDoorP07
import Derived.Test.YtbidlkmagbjllaaGreatDoorP21
import Derived.Test.YtbidlkmagbjllaaGreatDoorP05

namespace Go.Proofs.YtbidlkmagbjllaaGreatDoor.Bg
open Go Go.RowKit

/-- a number's two cells -/
theorem IntAt.open {w : World} {p : Addr} {x : Int} {L : Nat} (h : IntAt w p x L) : ∃ (b off : Nat) (neg : Bool) (A : Option Addr) (k c n : Nat), p = ⟨b, off, none⟩ ∧ b < w.heap.size ∧ w.cell? ⟨b, off, none⟩ = some (.bool neg) ∧
    w.cell? ⟨b, off + 1, none⟩ = some (.slice A k c) ∧ MagN w (.slice A k c) n L ∧ x = (if neg then -(n : Int) else (n : Int)) ∧ (neg = true → n ≠ 0) := by
  obtain ⟨b, off, neg, v, n, h1, h2, h3, h4, h5, h6, h7⟩ := h
  have h5' := h5
  obtain ⟨ws, ⟨A, c, rfl, -⟩, -⟩ := h5
  exact ⟨b, off, neg, A, ws.length, c, n, h1, h2, h3, h4, h5', h6, h7⟩

theorem mul_sign {x y : Int} {m n : Nat} {s t : Bool} (hx : x = if s = true then -(m : Int) else (m : Int)) (hy : y = if t = true then -(n : Int) else (n : Int)) : x * y = if (s != t) = true then -((m * n : Nat) : Int) else ((m * n : Nat) : Int) := by
  rw [hx, hy, Int.natCast_mul]
  cases s <;> cases t <;> simp [Int.neg_mul, Int.mul_neg]

theorem keep_four {w w' : World} {a b c d : Addr} {va vb vc vd : Value} (hb : Below w.heap.size w w') (h : w.cell? a = some va ∧ w.cell? b = some vb ∧ w.cell? c = some vc ∧ w.cell? d = some vd)
    (ha : a.block < w.heap.size) (hb' : b.block < w.heap.size) (hc : c.block < w.heap.size) (hd : d.block < w.heap.size) : w'.cell? a = some va ∧ w'.cell? b = some vb ∧ w'.cell? c = some vc ∧ w'.cell? d = some vd :=
  ⟨(hb.cell ha).trans h.1, (hb.cell hb').trans h.2.1, (hb.cell hc).trans h.2.2.1, (hb.cell hd).trans h.2.2.2⟩
/-- a number's two cells behind a write into another number -/
theorem Wrote.pair {w w' : World} {z : Addr} {b off : Nat} {neg : Bool} {A : Option Addr} {k c : Nat} (h : Wrote w w' z) (hz : Slot w z) (hne : (⟨b, off, none⟩ : Addr) ≠ z) (hb : b < w.heap.size)
    (h0 : w.cell? ⟨b, off, none⟩ = some (.bool neg)) (h1 : w.cell? ⟨b, off + 1, none⟩ = some (.slice A k c)) : w'.cell? ⟨b, off, none⟩ = some (.bool neg) ∧ w'.cell? ⟨b, off + 1, none⟩ = some (.slice A k c) := by
  obtain ⟨b', off', n', A', k', c', rfl, g2, g3, g4, -, -⟩ := hz
  refine ⟨?_, ?_⟩
  · rw [h.cell (by exact hb) hne (by intro e; rw [e, g4] at h0; cases h0)]; exact h0
  · rw [h.cell (by exact hb) (by intro e; rw [e, g3] at h1; cases h1) (by
      intro e
      injection e with e1 e2
      exact hne (by rw [e1, show off = off' by omega]))]
    exact h1
theorem Wrote.four {w w' : World} {z : Addr} {b off b' off' : Nat} {neg neg' : Bool} {A A' : Option Addr} {k c k' c' : Nat} (h : Wrote w w' z) (hz : Slot w z) (hne : (⟨b, off, none⟩ : Addr) ≠ z) (hne' : (⟨b', off', none⟩ : Addr) ≠ z) (hb : b < w.heap.size) (hb' : b' < w.heap.size)
    (hh : w.cell? ⟨b, off, none⟩ = some (.bool neg) ∧ w.cell? ⟨b', off', none⟩ = some (.bool neg') ∧ w.cell? ⟨b, off + 1, none⟩ = some (.slice A k c) ∧ w.cell? ⟨b', off' + 1, none⟩ = some (.slice A' k' c')) :
    w'.cell? ⟨b, off, none⟩ = some (.bool neg) ∧ w'.cell? ⟨b', off', none⟩ = some (.bool neg') ∧ w'.cell? ⟨b, off + 1, none⟩ = some (.slice A k c) ∧ w'.cell? ⟨b', off' + 1, none⟩ = some (.slice A' k' c') := by
  have h1 := h.pair hz hne hb hh.1 hh.2.2.1
  have h2 := h.pair hz hne' hb' hh.2.1 hh.2.2.2
  exact ⟨h1.1, h2.1, h1.2, h2.2⟩

set_option maxHeartbeats 4000000 in
/-- the product of two numbers, written into a third one -/
theorem Mul_any (z p q : Addr) (x y : Int) (L L' : Nat) (w : World) (hz : Slot w z) (hp : IntAt w p x L) (hq : IntAt w q y L') (hzp : p ≠ z) (hzq : q ≠ z) (hL : L ≤ 536870912) (hL' : L' ≤ 536870912) :
    Calls Tryz.prog 59 #[.pointer (some z), .pointer (some p), .pointer (some q)] w (Gives w z (x * y) (L + L')) := by
  obtain ⟨b1, o1, s1, A1, k1, c1, m, rfl, hb1, h3, h4, h5, h6, h7⟩ := hp.open
  obtain ⟨b2, o2, s2, A2, k2, c2, n, rfl, hb2, g3, g4, g5, g6, g7⟩ := hq.open
  have H5 := Lib.hid h5
  have G5 := Lib.hid g5
  have HZ := Lib.hid hz
  have HX := Lib.hid (And.intro (And.intro h6 h7) (And.intro g6 g7))
  have HC := Lib.hid (show w.drew.cell? ⟨b1, o1, none⟩ = some (.bool s1) ∧ w.drew.cell? ⟨b2, o2, none⟩ = some (.bool s2) ∧ w.drew.cell? ⟨b1, o1 + 1, none⟩ = some (.slice A1 k1 c1) ∧ w.drew.cell? ⟨b2, o2 + 1, none⟩ = some (.slice A2 k2 c2) from ⟨h3, g3, h4, g4⟩)
  clear h5 g5 hz hp hq h6 h7 g6 g7
  go_enter Tryz.func59, Tryz.ntmps59
  go_wp2_with fail
  go_region_held3 (fun w' => w'.cell? ⟨b1, o1, none⟩ = some (.bool s1) ∧ w'.cell? ⟨b2, o2, none⟩ = some (.bool s2) ∧ w'.cell? ⟨b1, o1 + 1, none⟩ = some (.slice A1 k1 c1) ∧ w'.cell? ⟨b2, o2 + 1, none⟩ = some (.slice A2 k2 c2))
    (first | exact hg.2.1.four (HZ.out.below hb') hzp hzq (Nat.lt_of_lt_of_le hb1 hb'.size) (Nat.lt_of_lt_of_le hb2 hb'.size) (keep_four hb HC.out hb1 hb2 hb1 hb2) | exact keep_four hb HC.out hb1 hb2 hb1 hb2 | exact HC.out)
    (first | (go_at_call 37; refine (times_mag _ _ m n L L' _ (H5.out.below (Below.refl _ _).drew) (G5.out.below (Below.refl _ _).drew) hL hL').mono ?_; rintro e w1 ⟨v, rfl, hm, hb⟩; have hb' : Below w.heap.size w w1 := (Below.refl _ _).drew.trans hb) | (go_at_call 39; refine (put_any z _ v (m * n) (L + L') _ (HZ.out.below hb') hm).mono ?_; rintro e w2 hg; have HG := Lib.hid (hg.of_below hb'); obtain ⟨rfl, -⟩ := id hg))
  clear hg hb hb' hm
  go_wp2_with fail
  go_ret
  have h9 := HG.out
  rw [mul_sign HX.out.1.1 HX.out.2.1]
  exact h9
end Go.Proofs.YtbidlkmagbjllaaGreatDoor.Bg

namespace Go.Proofs.YtbidlkmagbjllaaGreatDoor.Bg
open Go Go.RowKit

theorem MagN.one {w : World} {v : Value} {d : Nat} (h : MagN w v d 1) (hd : 0 < d) : ∃ b off c, v = .slice (some ⟨b, off, none⟩) 1 c ∧ w.cell? ⟨b, off, none⟩ = some (.int .u32 (d : Nat)) ∧ b < w.heap.size ∧ d < 4294967296 := by
  obtain ⟨ws, ⟨A, c, rfl, h1, h2, h3, h4⟩, -, h5, h6⟩ := h
  rcases ws with _ | ⟨x, _ | ⟨y, r⟩⟩
  · simp [val] at h5; omega
  · have hx : x = d := by rw [← h5]; simp [val]
    subst hx
    obtain ⟨b, off, rfl, hb, hc⟩ := h4 (by simp)
    refine ⟨b, off, c, rfl, ?_, hb, ?_⟩
    · exact hc 0 (by simp)
    · exact h3.get 0
  · simp at h6

theorem MagN.zero (w : World) (A : Option Addr) (c L : Nat) (hc : c ≤ 9223372036854775807) : MagN w (.slice A 0 c) 0 L :=
  ⟨[], Mag.nil w A c hc, Or.inl rfl, rfl, Nat.zero_le _⟩

set_option maxRecDepth 8000 in
theorem over_lt (u v : Value) (m d L : Nat) (w : World) (hu : MagN w u m L) (hv : MagN w v d 1) (hL : L ≤ 536870912) (hlt : m < d) (hL1 : 1 ≤ L) :
    Calls Tryz.prog 114 #[u, v] w fun e w' => ∃ q r, e = .returned (.tuple #[q, r]) ∧ MagN w' q (m / d) L ∧ MagN w' r (m % d) 1 ∧ Below w.heap.size w w' := by
  have hc := compare_any u v m d L w hu (hv.more hL1) (by omega)
  have hcv : cmpN m d = -1 := by unfold cmpN; split <;> (try split) <;> omega
  simp only [hcv] at hc
  obtain ⟨-, -, -, -, -, -, hd'⟩ := hv.one (by omega)
  have hm := hu.less (L' := 1) (by omega)
  have hdm : m / d = 0 := Nat.div_eq_of_lt hlt
  have hmm : m % d = m := Nat.mod_eq_of_lt hlt
  rw [hdm, hmm]
  obtain ⟨ws, g1, g2⟩ := hm
  have G1 := Lib.hid g1
  have G2 := Lib.hid g2
  have HC := Lib.hid hc
  clear hu hv hc g1 g2 hdm hmm hcv
  go_enter Tryz.func114, Tryz.ntmps114
  go_wp2_with fail
  refine HC.out.mono ?_
  rintro e w1 ⟨rfl, j, rfl⟩
  go_wp2_with (at_builtin; refine wpList_append_words (w.drewN j) rfl _ _ rfl u ws rfl rfl G1.out (by have := G2.out.2.2; omega) ?_; intro v1 w1 hm1 hb1)
  have HB := Lib.hid (And.intro hm1 ((below_dN (Below.refl w.heap.size w) j).trans hb1))
  clear hm1 hb1
  go_ret2
  exact ⟨_, _, rfl, MagN.zero _ _ _ _ (by omega), ⟨ws, HB.out.1, G2.out⟩, HB.out.2⟩

theorem Mag.single (w : World) (x : Nat) (hx : x < 4294967296) (t : TypeId) : Mag (w.alloc (.cells #[.int .u32 (x : Nat)] t)) (.slice (some ⟨w.heap.size, 0, none⟩) 1 1) [x] := by
  refine ⟨_, 1, rfl, by simp, by omega, ?_, fun _ => ⟨w.heap.size, 0, rfl, by simp, fun j hj => ?_⟩⟩
  · intro y hy
    simp only [List.mem_singleton] at hy
    omega
  · have h0 : j = 0 := by simp at hj; omega
    subst h0
    simp [go_sem]

set_option maxRecDepth 8000 in
theorem over_ge (u v : Value) (m d L : Nat) (w : World) (hu : MagN w u m L) (hv : MagN w v d 1) (hL : L ≤ 536870912) (hd : 0 < d) (hge : d ≤ m) (hL1 : 1 ≤ L) :
    Calls Tryz.prog 114 #[u, v] w fun e w' => ∃ q r, e = .returned (.tuple #[q, r]) ∧ MagN w' q (m / d) L ∧ MagN w' r (m % d) 1 ∧ Below w.heap.size w w' := by
  have hc := compare_any u v m d L w hu (hv.more hL1) (by omega)
  generalize hcv : cmpN m d = cv at hc
  have k0 : 0 ≤ cv := by rw [← hcv]; unfold cmpN; split <;> (try split) <;> omega
  have k1 : cv ≤ 1 := by rw [← hcv]; unfold cmpN; split <;> (try split) <;> omega
  clear hcv
  obtain ⟨b, off, c, rfl, hcell, hb, hd'⟩ := hv.one hd
  obtain ⟨ws, g1, g2, rfl, g4⟩ := hu
  obtain ⟨A, ca, rfl, -⟩ := id g1
  obtain ⟨r, hr⟩ : ∃ r, val ws % d = r := ⟨_, rfl⟩
  have hrd : r < d := by rw [← hr]; exact Nat.mod_lt _ hd
  have hs := fun (W : World) (h : Mag W (.slice A ws.length ca) ws) => short_core A ws.length ca d ws W h (by omega) hd hd'
  rw [hr] at hs ⊢
  have HS := Lib.hid hs
  have G1 := Lib.hid g1
  have G4 := Lib.hid g4
  have HC := Lib.hid hc
  clear hv hc g1 g2 g4 hr hs hge
  go_enter Tryz.func114, Tryz.ntmps114
  go_wp2_with fail
  refine HC.out.mono ?_
  rintro e w1 ⟨rfl, j, rfl⟩
  go_wp2_with fail
  refine (HS.out _ (G1.out.drewN j)).mono ?_
  rintro e w2 ⟨q, rfl, hq, hb2⟩
  have HB := Lib.hid (And.intro hq ((below_dN (Below.refl w.heap.size w) j).trans hb2))
  clear hq hb2
  go_wp2_with fail
  refine (cut_any _ _ _ (Mag.single w2 r (by omega) 88)).mono ?_
  rintro e w3 ⟨A3, k3, c3, -, rfl, hm3, rfl⟩
  have HF := Lib.hid (show MagN _ _ r 1 from (show val [r] = r from by simp [val]) ▸ hm3)
  clear hm3
  go_wp2_with fail
  go_ret2
  exact ⟨_, _, rfl, (HB.out.1.more G4.out).below ((Below.refl _ _).alloc (Nat.le_refl _) _), HF.out, HB.out.2.trans ((Below.refl _ _).alloc HB.out.2.size _)⟩

theorem over_one (u v : Value) (m d L : Nat) (w : World) (hu : MagN w u m L) (hv : MagN w v d 1) (hL : L ≤ 536870912) (hd : 0 < d) (hL1 : 1 ≤ L) :
    Calls Tryz.prog 114 #[u, v] w fun e w' => ∃ q r, e = .returned (.tuple #[q, r]) ∧ MagN w' q (m / d) L ∧ MagN w' r (m % d) 1 ∧ Below w.heap.size w w' := by
  rcases Nat.lt_or_ge m d with c | c
  · exact over_lt u v m d L w hu hv hL c hL1
  · exact over_ge u v m d L w hu hv hL hd c hL1
end Go.Proofs.YtbidlkmagbjllaaGreatDoor.Bg

namespace Go.Proofs.YtbidlkmagbjllaaGreatDoor.Bg
open Go Go.RowKit

theorem MagN.slice {w : World} {v : Value} {n L : Nat} (h : MagN w v n L) : ∃ A k c, v = .slice A k c ∧ (k = 0 → n = 0) ∧ (k ≠ 0 → n ≠ 0) := by
  have h' := h
  obtain ⟨ws, ⟨A, c, rfl, -⟩, -⟩ := h
  exact ⟨A, _, c, rfl, h'.len.1, h'.len.2.1⟩

theorem MagN.unit (w : World) (t : TypeId) : MagN (w.alloc (.cells #[.int .u32 1] t)) (.slice (some ⟨w.heap.size, 0, none⟩) 1 1) 1 1 :=
  ⟨[1], Mag.single w 1 (by omega) t, Or.inr (by simp), by simp [val], by simp⟩

theorem div_neg_even {m d : Nat} (hd : 0 < d) (h : m % d = 0) : (-(m : Int)) / (d : Int) = -((m / d : Nat) : Int) := by
  obtain ⟨k, rfl⟩ := Nat.dvd_of_mod_eq_zero h
  rw [Nat.mul_div_cancel_left _ hd, Int.natCast_mul, ← Int.mul_neg, Int.mul_ediv_cancel_left _ (by omega)]
theorem div_neg_odd {m d : Nat} (hd : 0 < d) (h : m % d ≠ 0) : (-(m : Int)) / (d : Int) = -((m / d + 1 : Nat) : Int) := by
  have h1 := Nat.div_add_mod m d
  have h2 := Nat.mod_lt m hd
  have e : -(m : Int) = ((d : Int) - ((m % d : Nat) : Int)) + (d : Int) * (-((m / d + 1 : Nat) : Int)) := by
    have h3 : (m : Int) = (d : Int) * ((m / d : Nat) : Int) + ((m % d : Nat) : Int) := by rw [← Int.natCast_mul, ← Int.natCast_add, h1]
    rw [Int.natCast_add, Int.mul_neg, Int.mul_add]
    omega
  rw [e, Int.add_mul_ediv_left _ _ (by omega), Int.ediv_eq_zero_of_lt (by omega) (by omega), Int.zero_add]

/-- a quotient by one word, of which the rest is known to be nought or not -/
theorem over_even (u v : Value) (m d L : Nat) (w : World) (hu : MagN w u m L) (hv : MagN w v d 1) (hL : L ≤ 536870912) (hd : 0 < d) (hL1 : 1 ≤ L) (hm : m % d = 0) :
    Calls Tryz.prog 114 #[u, v] w fun e w' => ∃ q A c, e = .returned (.tuple #[q, .slice A 0 c]) ∧ MagN w' q (m / d) L ∧ Below w.heap.size w w' :=
  (over_one u v m d L w hu hv hL hd hL1).mono fun e w' ⟨q, r, h1, h2, h3, h4⟩ => by
    obtain ⟨A, k, c, rfl, -, h6⟩ := h3.slice
    have hk : k = 0 := Classical.byContradiction fun hk => h6 hk hm
    subst hk
    exact ⟨q, A, c, h1, h2, h4⟩
theorem over_odd (u v : Value) (m d L : Nat) (w : World) (hu : MagN w u m L) (hv : MagN w v d 1) (hL : L ≤ 536870912) (hd : 0 < d) (hL1 : 1 ≤ L) (hm : m % d ≠ 0) :
    Calls Tryz.prog 114 #[u, v] w fun e w' => ∃ q A c, e = .returned (.tuple #[q, .slice A 1 c]) ∧ MagN w' q (m / d) L ∧ Below w.heap.size w w' :=
  (over_one u v m d L w hu hv hL hd hL1).mono fun e w' ⟨q, r, h1, h2, h3, h4⟩ => by
    obtain ⟨ws, ⟨A, c, rfl, -⟩, -⟩ := id h3
    have hk := h3.len
    have h1' : ws.length = 1 := by
      have := hk.1
      omega
    rw [h1'] at h1
    exact ⟨q, A, c, h1, h2, h4⟩

end Go.Proofs.YtbidlkmagbjllaaGreatDoor.Bg

namespace Go.Proofs.YtbidlkmagbjllaaGreatDoor.Bg
open Go Go.RowKit

set_option maxHeartbeats 4000000 in
theorem sum_same (z p q : Addr) (x y : Int) (L : Nat) (t : Bool) (w : World) (hz : Slot w z) (hp : IntAt w p x L) (hq : IntAt w q y L) (hL : L ≤ 536870912)
    (b1 o1 : Nat) (s1 : Bool) (A1 : Option Addr) (k1 c1 m b2 o2 : Nat) (s2 : Bool) (A2 : Option Addr) (k2 c2 n : Nat)
    (e1 : p = ⟨b1, o1, none⟩) (_ : b1 < w.heap.size) (h3 : w.cell? ⟨b1, o1, none⟩ = some (.bool s1)) (h4 : w.cell? ⟨b1, o1 + 1, none⟩ = some (.slice A1 k1 c1)) (h5 : MagN w (.slice A1 k1 c1) m L)
    (e2 : q = ⟨b2, o2, none⟩) (_ : b2 < w.heap.size) (g3 : w.cell? ⟨b2, o2, none⟩ = some (.bool s2)) (g4 : w.cell? ⟨b2, o2 + 1, none⟩ = some (.slice A2 k2 c2)) (g5 : MagN w (.slice A2 k2 c2) n L)
    (hs : s1 = (s2 != t)) :
    Calls Tryz.prog 116 #[.pointer (some z), .pointer (some p), .pointer (some q), .bool t] w (Gives w z (if s1 then -((m + n : Nat) : Int) else ((m + n : Nat) : Int)) (L + 1)) := by
  subst e1 e2
  have H5 := Lib.hid h5
  have G5 := Lib.hid g5
  have HZ := Lib.hid hz
  clear h5 g5 hz hp hq
  cases s2 <;> cases t <;> simp at hs <;> subst hs
  · go_enter Tryz.func116, Tryz.ntmps116
    go_wp2_with fail
    go_region_with (first | (go_at_call 36; refine (plus_any _ _ m n L _ (H5.out.below (Below.refl _ _).drew) (G5.out.below (Below.refl _ _).drew) (by omega)).mono ?_; rintro e w1 ⟨v, rfl, hm, hb⟩; have hb' : Below w.heap.size w w1 := (Below.refl _ _).drew.trans hb) | (go_at_call 39; refine (put_any z _ v (m + n) (L + 1) _ (HZ.out.below hb') hm).mono ?_; rintro e w2 hg; have HG := Lib.hid (hg.of_below hb'); obtain ⟨rfl, -⟩ := id hg))
    all_goals (clear hg hb hb' hm; go_wp2_with fail; go_ret; have h9 := HG.out; simp at h9; exact h9)
  · go_enter Tryz.func116, Tryz.ntmps116
    go_wp2_with fail
    go_region_with (first | (go_at_call 36; refine (plus_any _ _ m n L _ (H5.out.below (Below.refl _ _).drew) (G5.out.below (Below.refl _ _).drew) (by omega)).mono ?_; rintro e w1 ⟨v, rfl, hm, hb⟩; have hb' : Below w.heap.size w w1 := (Below.refl _ _).drew.trans hb) | (go_at_call 39; refine (put_any z _ v (m + n) (L + 1) _ (HZ.out.below hb') hm).mono ?_; rintro e w2 hg; have HG := Lib.hid (hg.of_below hb'); obtain ⟨rfl, -⟩ := id hg))
    all_goals (clear hg hb hb' hm; go_wp2_with fail; go_ret; have h9 := HG.out; simp at h9; exact h9)
  · go_enter Tryz.func116, Tryz.ntmps116
    go_wp2_with fail
    go_region_with (first | (go_at_call 36; refine (plus_any _ _ m n L _ (H5.out.below (Below.refl _ _).drew) (G5.out.below (Below.refl _ _).drew) (by omega)).mono ?_; rintro e w1 ⟨v, rfl, hm, hb⟩; have hb' : Below w.heap.size w w1 := (Below.refl _ _).drew.trans hb) | (go_at_call 39; refine (put_any z _ v (m + n) (L + 1) _ (HZ.out.below hb') hm).mono ?_; rintro e w2 hg; have HG := Lib.hid (hg.of_below hb'); obtain ⟨rfl, -⟩ := id hg))
    all_goals (clear hg hb hb' hm; go_wp2_with fail; go_ret; have h9 := HG.out; simp at h9; exact h9)
  · go_enter Tryz.func116, Tryz.ntmps116
    go_wp2_with fail
    go_region_with (first | (go_at_call 36; refine (plus_any _ _ m n L _ (H5.out.below (Below.refl _ _).drew) (G5.out.below (Below.refl _ _).drew) (by omega)).mono ?_; rintro e w1 ⟨v, rfl, hm, hb⟩; have hb' : Below w.heap.size w w1 := (Below.refl _ _).drew.trans hb) | (go_at_call 39; refine (put_any z _ v (m + n) (L + 1) _ (HZ.out.below hb') hm).mono ?_; rintro e w2 hg; have HG := Lib.hid (hg.of_below hb'); obtain ⟨rfl, -⟩ := id hg))
    all_goals (clear hg hb hb' hm; go_wp2_with fail; go_ret; have h9 := HG.out; simp at h9; exact h9)
end Go.Proofs.YtbidlkmagbjllaaGreatDoor.Bg

namespace Go.Proofs.YtbidlkmagbjllaaGreatDoor.Bg
open Go Go.RowKit

end Go.Proofs.YtbidlkmagbjllaaGreatDoor.Bg
