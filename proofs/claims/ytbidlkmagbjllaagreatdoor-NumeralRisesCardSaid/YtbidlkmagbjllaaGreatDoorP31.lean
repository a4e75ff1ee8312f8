/- BK5 BL1 BL2 BL3 BL4 in one text. -/
import Derived.Test.YtbidlkmagbjllaaGreatDoorP27
import Derived.Test.YtbidlkmagbjllaaGreatDoorP30
import Derived.Test.YtbidlkmagbjllaaGreatDoorP12
import Derived.Deep.RegionHeld3

namespace Go.Proofs.YtbidlkmagbjllaaGreatDoor.Nb
open Go Go.RowKit

theorem all_zero : ∀ {ws : List Nat}, val ws = 0 → ∀ k, ws.getD k 0 = 0
  | [], _, k => by simp
  | a :: r, h, 0 => by simp [val] at h ⊢; omega
  | a :: r, h, k + 1 => by
    simp only [val] at h
    simpa using all_zero (ws := r) (by omega) k
theorem clear_of_lt {os : List Nat} {K : Nat} (h : val os < 18446744073709551616 ^ K) : Clear os K := by
  intro i hi
  by_cases hl : K ≤ os.length
  · have h1 := val_take_drop os hl
    have h0 : val (os.drop K) = 0 := by
      rcases Nat.eq_zero_or_pos (val (os.drop K)) with q | q
      · exact q
      · have : 18446744073709551616 ^ K * 1 ≤ 18446744073709551616 ^ K * val (os.drop K) := Nat.mul_le_mul_left _ q
        omega
    have h2 := all_zero h0 (i - K)
    rw [List.getD_eq_getElem?_getD, List.getElem?_drop, ← List.getD_eq_getElem?_getD, show K + (i - K) = i by omega] at h2
    exact h2
  · rw [List.getD_eq_getElem?_getD, List.getElem?_eq_none (by omega)]; rfl
theorem norm_top {ws : List Nat} (h : Norm ws) (hl : 0 < ws.length) : 0 < ws.getD (ws.length - 1) 0 := by
  rcases h with h | h
  · rw [h] at hl; simp at hl
  · rw [List.getLastD_eq_getLast?, List.getLast?_eq_getElem?, ← List.getD_eq_getElem?_getD] at h
    omega
theorem twice_le {P Z : Nat} (h : P * 9223372036854775808 ≤ Z) : P * 18446744073709551616 ≤ 2 * Z := by
  rw [show (18446744073709551616 : Nat) = 2 * 9223372036854775808 from rfl, Nat.mul_left_comm]
  exact Nat.mul_le_mul_left _ h
/-- by how much a divisor is brought up -/
structure UpBy (n Y up : Nat) : Prop where
  lt : up < 64
  hi : Y * 2 ^ up < 18446744073709551616 ^ n
  lo : 18446744073709551616 ^ n ≤ 2 * (Y * 2 ^ up)
theorem up_by {ys : List Nat} (hw : W64 ys) (hn : Norm ys) (h0 : 0 < ys.length) : UpBy ys.length (val ys) (64 - Lib.bitLen (ys.getD (ys.length - 1) 0)) ∧ 0 < Lib.bitLen (ys.getD (ys.length - 1) 0) ∧ Lib.bitLen (ys.getD (ys.length - 1) 0) ≤ 64 := by
  have ha := norm_top hn h0
  have hv := val_take_succ (ws := ys) (k := ys.length - 1) (by omega)
  have hv0 := val_take_lt hw (ys.length - 1)
  have hal := hw.get (ys.length - 1)
  obtain ⟨n, hnn⟩ : ∃ n, ys.length = n + 1 := ⟨ys.length - 1, by omega⟩
  rw [show ys.length - 1 + 1 = ys.length by omega, List.take_length] at hv
  rw [hnn, Nat.add_sub_cancel] at ha hv hv0 hal ⊢
  obtain ⟨a, haa⟩ : ∃ a, ys.getD n 0 = a := ⟨_, rfl⟩
  rw [haa] at ha hv hal ⊢
  obtain ⟨b1, b2, b3⟩ := Nx.bit_spec 64 a ha (by omega) (by omega)
  have b4 := bitLen_le a
  obtain ⟨l, hl⟩ : ∃ l, Lib.bitLen a = l := ⟨_, rfl⟩
  rw [hl] at b1 b2 b3 b4 ⊢
  have e1 : (18446744073709551616 : Nat) = 2 ^ l * 2 ^ (64 - l) := by rw [← Nat.pow_add, show l + (64 - l) = 64 by omega]
  have e2 : (9223372036854775808 : Nat) = 2 ^ (l - 1) * 2 ^ (64 - l) := by rw [← Nat.pow_add, show l - 1 + (64 - l) = 63 by omega]
  have hp : 0 < 2 ^ (64 - l) := Nat.pow_pos (by omega)
  obtain ⟨P, hP⟩ : ∃ P, 18446744073709551616 ^ n = P := ⟨_, rfl⟩
  have h3 : (a + 1) * 2 ^ (64 - l) ≤ 18446744073709551616 := by
    have : (a + 1) * 2 ^ (64 - l) ≤ 2 ^ l * 2 ^ (64 - l) := Nat.mul_le_mul_right _ b3
    omega
  have h4 : 9223372036854775808 ≤ a * 2 ^ (64 - l) := by rw [e2]; exact Nat.mul_le_mul_right _ b2
  rw [hP] at hv hv0
  refine ⟨⟨by omega, ?_, ?_⟩, b1, b4⟩
  · rw [Nat.pow_succ, hP, hv]
    have h5 : (val (ys.take n) + P * a) * 2 ^ (64 - l) < (P * (a + 1)) * 2 ^ (64 - l) := Nat.mul_lt_mul_of_pos_right (by rw [Nat.mul_add]; omega) hp
    have h6 : (P * (a + 1)) * 2 ^ (64 - l) ≤ P * 18446744073709551616 := by rw [Nat.mul_assoc]; exact Nat.mul_le_mul_left _ h3
    omega
  · rw [Nat.pow_succ, hP, hv]
    have h5 : P * 9223372036854775808 ≤ P * (a * 2 ^ (64 - l)) := Nat.mul_le_mul_left _ h4
    have h6 : P * (a * 2 ^ (64 - l)) ≤ (val (ys.take n) + P * a) * 2 ^ (64 - l) := by
      rw [← Nat.mul_assoc]
      exact Nat.mul_le_mul_right _ (by omega)
    exact twice_le (Nat.le_trans h5 h6)
/-- the dividend, brought up, is below the divisor by its first place -/
theorem up_start {n m X Y up lx : Nat} (h : UpBy n Y up) (hX : X < 18446744073709551616 ^ lx) (hm : lx + 1 = n + m) : X * 2 ^ up < Y * 2 ^ up * 18446744073709551616 ^ m := by
  have h1 : 18446744073709551616 ^ n * 18446744073709551616 ^ m ≤ 2 * (Y * 2 ^ up) * 18446744073709551616 ^ m := Nat.mul_le_mul_right _ h.lo
  rw [← Nat.pow_add, ← hm, Nat.pow_succ] at h1
  have h2 : X * 2 ^ up < 18446744073709551616 ^ lx * 9223372036854775808 := by
    have a1 : (2 : Nat) ^ up ≤ 2 ^ 63 := Nat.pow_le_pow_right (by omega) (by have := h.lt; omega)
    have a2 : X * 2 ^ up < 18446744073709551616 ^ lx * 2 ^ up := Nat.mul_lt_mul_of_pos_right hX (Nat.pow_pos (by omega))
    have a3 : 18446744073709551616 ^ lx * 2 ^ up ≤ 18446744073709551616 ^ lx * 2 ^ 63 := Nat.mul_le_mul_left _ a1
    omega
  have h3 : 2 * (Y * 2 ^ up) * 18446744073709551616 ^ m = 2 * (Y * 2 ^ up * 18446744073709551616 ^ m) := Nat.mul_assoc _ _ _
  omega

/-- ahead of round k - 1: what is left in os, what has been found in qs -/
structure LongSt (X V N m n k : Nat) (os qs : List Nat) : Prop where
  eq : val os + V * val qs = X
  lt : val os < V * 18446744073709551616 ^ k
  lo : os.length = N
  w : W64 os
  lq : qs.length = m
  wq : W64 qs
  zq : ∀ i, i < k → qs.getD i 0 = 0
theorem val_zeros : ∀ n, val (List.replicate n 0) = 0
  | 0 => rfl
  | n + 1 => by simp [List.replicate_succ, val, val_zeros n]
theorem long_start {X V N m n : Nat} {os : List Nat} (h : val os = X) (hl : X < V * 18446744073709551616 ^ m) (hN : os.length = N) (hw : W64 os) : LongSt X V N m n m os (List.replicate m 0) :=
  ⟨by rw [val_zeros, h]; omega, by rw [h]; exact hl, hN, hw, by simp, W64.rep _, fun i hi => by rw [List.getD_eq_getElem?_getD, List.getElem?_replicate]; split <;> rfl⟩
theorem long_step {X V N m n k q : Nat} {os os' qs : List Nat} (h : LongSt X V N m n (k + 1) os qs) (hk : k < m) (hV : 0 < V) (hq : q = val os / (18446744073709551616 ^ k * V)) (ho : val os' = val os % (18446744073709551616 ^ k * V)) (hl : os'.length = N) (hw : W64 os') :
    LongSt X V N m n k os' (qs.set k q) ∧ q < 18446744073709551616 := by
  have hp : 0 < 18446744073709551616 ^ k * V := Nat.mul_pos (Nat.pow_pos (by omega)) hV
  have hql : q < 18446744073709551616 := by
    rw [hq]
    refine (Nat.div_lt_iff_lt_mul hp).2 ?_
    have := h.lt
    rw [Nat.pow_succ] at this
    rw [Nat.mul_comm (18446744073709551616 ^ k), Nat.mul_left_comm, Nat.mul_comm 18446744073709551616]
    exact this
  refine ⟨⟨?_, ?_, hl, hw, by rw [List.length_set]; exact h.lq, h.wq.set hql, fun i hi => ?_⟩, hql⟩
  · have h1 := val_set (ws := qs) (k := k) q (by rw [h.lq]; exact hk)
    rw [h.zq k (by omega), Nat.mul_zero, Nat.add_zero] at h1
    have h2 := h.eq
    have h3 := Nat.div_add_mod (val os) (18446744073709551616 ^ k * V)
    rw [← hq, ← ho] at h3
    rw [h1, Nat.mul_add]
    have h4 : 18446744073709551616 ^ k * V * q = V * (18446744073709551616 ^ k * q) := by rw [Nat.mul_assoc, Nat.mul_left_comm]
    omega
  · rw [ho, Nat.mul_comm V]; exact Nat.mod_lt _ hp
  · have h1 := h.zq i (by omega)
    rw [List.getD_eq_getElem?_getD, List.getElem?_set, if_neg (by omega), ← List.getD_eq_getElem?_getD]
    exact h1
theorem long_end {X Y V up N m n : Nat} {os qs : List Nat} (h : LongSt (X * 2 ^ up) V N m n 0 os qs) (hV : V = Y * 2 ^ up) : val qs = X / Y ∧ val os / 2 ^ up = X % Y := by
  have h1 := h.eq
  have h2 := h.lt
  have hp : 0 < 2 ^ up := Nat.pow_pos (by omega)
  rw [Nat.pow_zero, Nat.mul_one] at h2
  have hV0 : 0 < V := by omega
  have h3 : val qs = X * 2 ^ up / V := by
    rw [← h1, Nat.add_mul_div_left _ _ hV0, Nat.div_eq_of_lt h2, Nat.zero_add]
  have h4 : val os = X * 2 ^ up % V := by
    rw [← h1, Nat.add_mul_mod_self_left, Nat.mod_eq_of_lt h2]
  rw [h3, h4, hV, Nat.mul_div_mul_right _ _ hp, Nat.mul_mod_mul_right, Nat.mul_div_cancel _ hp]
  exact ⟨rfl, rfl⟩

set_option maxRecDepth 8000 in
theorem leading_any (a : Nat) (w : World) (h : a < 18446744073709551616) : Calls Tryz.prog 162 #[.int .u64 (a : Int)] w fun e w' => e = .returned (.int .i64 (((64 - Lib.bitLen a : Nat)) : Int)) ∧ w = w' := by
  have HL := Lib.hid (fun w => Tryz.bits_Len64 (a : Int) w (by omega) (by omega))
  have hq := bitLen_le a
  obtain ⟨l, hl⟩ : ∃ l, Lib.bitLen a = l := ⟨_, rfl⟩
  simp only [Int.toNat_natCast] at HL
  rw [hl] at HL hq ⊢
  clear h hl
  go_enter Tryz.func162, Tryz.ntmps162
  go_wp2_with fail
  refine (HL.out _).mono ?_
  rintro e w2 ⟨rfl, rfl⟩
  go_wp2_with fail
  go_ret
  exact ⟨congrArg (fun z : Int => Ending.returned (.int .i64 z)) (by omega), rfl⟩
theorem Mag.kept {w w' : World} {g b o n c : Nat} {vs : List Nat} (h : Mag w (.slice (some ⟨b, o, none⟩) n c) vs) (hk : Kept w w' g) (hne : b ≠ g) : Mag w' (.slice (some ⟨b, o, none⟩) n c) vs := by
  obtain ⟨A, c', h1, h2, h3, h4, h5⟩ := h
  refine ⟨A, c', h1, h2, h3, h4, fun h0 => ?_⟩
  obtain ⟨b', o', e, hb, hc⟩ := h5 h0
  refine ⟨b', o', e, Nat.lt_of_lt_of_le hb hk.size, fun j hj => ?_⟩
  subst e
  injection h1 with h1 _ _
  injection h1 with h1
  injection h1 with e1 e2 _
  subst e1 e2
  exact (hk.cell (p := ⟨b, o + j, none⟩) hb hne).trans (hc j hj)
theorem BlkP.kept {w w' : World} {g b : Nat} {ws : List Nat} (h : BlkP w b ws) (hk : Kept w w' g) (hne : b ≠ g) : BlkP w' b ws := by
  have := h.lt
  obtain ⟨cur, h1, h2⟩ := h
  exact ⟨cur, (hk.block b this hne).trans h1, h2⟩
theorem Blk.kept {w w' : World} {g b : Nat} {ws : List Nat} (h : Blk w b ws) (hk : Kept w w' g) (hne : b ≠ g) : Blk w' b ws :=
  (hk.block b h.lt hne).trans h

theorem onto {w w1 w2 : World} (h : Below w.heap.size w w1) (h2 : Below w1.heap.size w1 w2) : Below w.heap.size w w2 := h.trans (h2.mono h.size)
theorem own_of_blk {w : World} {B g k c : Nat} {os : List Nat} (h : Blk w g os) (hl : os.length = c) (hc : c ≤ 536870912) (hk : k ≤ c) (hB : B ≤ g) : w.ownsRow B 74 1 (.slice (some ⟨g, 0, none⟩) k c) k (vals (os.take k)) := by
  refine ⟨by simp [vals]; omega, .inr ⟨g, c, cellsW os, rfl, hB, h, hk, by simp only [maxLen]; omega, by simp [cellsW, hl], ?_⟩⟩
  simp [cellsW, vals, List.map_take]
theorem vals_append (a b : List Nat) : vals a ++ vals b = vals (a ++ b) := by simp [vals]
theorem blkp_of_own {w : World} {B n : Nat} {v : Value} {ws : List Nat} (h : w.ownsRow B 74 1 v n (vals ws)) (hn : 0 < n) :
    ∃ g cap, v = .slice (some ⟨g, 0, none⟩) n cap ∧ B ≤ g ∧ BlkP w g ws ∧ n ≤ cap ∧ cap ≤ maxLen ∧ ws.length = n := by
  have hl : ws.length = n := by have := h.1; simpa [vals] using this
  rcases h.2 with ⟨-, h2⟩ | ⟨g, cap, cur, h1, h2, h3, h4, h5, h6, h7⟩
  · omega
  · refine ⟨g, cap, h1, h2, ⟨cur, h3, by omega, fun j hj => ?_⟩, h4, h5, hl⟩
    have e := vals_get hj
    rw [← h7, List.getElem?_take_of_lt (by omega)] at e
    rw [← e]; simp
theorem BlkP.take {w : World} {g : Nat} {ws : List Nat} (h : BlkP w g ws) (k : Nat) : BlkP w g (ws.take k) := by
  obtain ⟨cur, h1, h2, h3⟩ := h
  refine ⟨cur, h1, by rw [List.length_take]; omega, fun j hj => ?_⟩
  rw [List.length_take] at hj
  rw [h3 j (by omega), List.getD_eq_getElem?_getD, List.getD_eq_getElem?_getD, List.getElem?_take_of_lt (by omega)]
/-- a brought-up divisor has as many words -/
theorem up_len {vs : List Nat} {n Y up : Nat} (h : UpBy n Y up) (hn : 1 ≤ n) (hw : W64 vs) (hm : Norm vs) (hv : val vs = Y * 2 ^ up) : vs.length = n := by
  have h1 := norm_len_le hm (by rw [hv]; exact h.hi)
  rcases Nat.lt_or_ge vs.length n with q | q
  · exfalso
    have h2 := val_lt hw
    have h3 : 18446744073709551616 ^ vs.length ≤ 18446744073709551616 ^ (n - 1) := Nat.pow_le_pow_right (by omega) (by omega)
    have h4 := h.lo
    obtain ⟨p, rfl⟩ : ∃ p, n = p + 1 := ⟨n - 1, by omega⟩
    rw [Nat.pow_succ, ← hv] at h4
    rw [Nat.add_sub_cancel] at h3
    generalize 18446744073709551616 ^ p = P at h3 h4
    have h5 : P * 2 ≤ P * 18446744073709551616 := Nat.mul_le_mul_left _ (by omega)
    have h6 : 2 * val vs < 2 * P := by omega
    omega
  · omega
/-- a dividend's words, brought up, with noughts behind -/
theorem up_row {os : List Nat} {k lx X up : Nat} (hw : W64 os) (hk : k ≤ os.length) (hv : val (os.take k) = X * 2 ^ up) (hX : 18446744073709551616 ^ (lx - 1) ≤ X) (hl : 1 ≤ lx) (hkl : k ≤ lx + 1) :
    lx ≤ k ∧ val ((os.take k ++ [0, 0]).take (lx + 1)) = X * 2 ^ up ∧ ((os.take k ++ [0, 0]).take (lx + 1)).length = lx + 1 ∧ W64 ((os.take k ++ [0, 0]).take (lx + 1)) := by
  have hlk : (os.take k).length = k := by rw [List.length_take]; omega
  have h1 : lx ≤ k := by
    rcases Nat.lt_or_ge k lx with q | q
    · exfalso
      have h2 := val_lt (hw.take k)
      rw [hlk] at h2
      have h3 : 18446744073709551616 ^ k ≤ 18446744073709551616 ^ (lx - 1) := Nat.pow_le_pow_right (by omega) (by omega)
      have h4 : X * 1 ≤ X * 2 ^ up := Nat.mul_le_mul_left _ (Nat.pow_pos (by omega))
      omega
    · exact q
  refine ⟨h1, ?_, by simp [hlk]; omega, ?_⟩
  · rw [List.take_append, hlk, List.take_of_length_le (by omega), val_append, hv]
    have : ∀ i, val (([0, 0] : List Nat).take i) = 0 := fun i => by
      rcases i with _ | _ | i <;> simp [val]
    rw [this]; simp
  · exact ((hw.take k).append (fun y hy => by simp at hy; omega)).take _
theorem own_below {w w' : World} {B : Nat} {e : TypeId} {sz n : Nat} {v : Value} {xs : List Value} (h : w.ownsRow B e sz v n xs) (hb : Below w.heap.size w w') : w'.ownsRow B e sz v n xs := by
  refine ⟨h.1, ?_⟩
  rcases h.2 with hn | ⟨g, cap, cur, hv, h1, h2, h3⟩
  · exact .inl hn
  · exact .inr ⟨g, cap, cur, hv, h1, (hb.block g (Array.getElem?_eq_some_iff.1 h2).1).trans h2, h3⟩
theorem own_base {w : World} {B : Nat} {e : TypeId} {sz n : Nat} {v : Value} {xs : List Value} (h : w.ownsRow B e sz v n xs) : ∀ k, v.ownBlock = some k → B ≤ k := by
  intro k hk
  rcases h.2 with ⟨hn, -⟩ | ⟨g, cap, cur, hv, h1, -⟩
  · rw [hn] at hk; simp [Value.ownBlock] at hk
  · rw [hv] at hk
    simp only [Value.ownBlock] at hk
    injection hk with hk
    omega
theorem noughts_new (w : World) (T : TypeId) : ∀ j u, ([.int .u64 0, .int .u64 0] : List Value)[j]? = some u → (w.alloc (.cells #[.int .u64 0, .int .u64 0] T)).cell? ((⟨w.heap.size, 0, none⟩ : Addr).add j) = some u := by
  intro j u h
  rcases j with _ | _ | j
  · simp at h; subst h; simp [go_sem, Addr.add]
  · simp at h; subst h; simp [go_sem, Addr.add]
  · simp at h
end Go.Proofs.YtbidlkmagbjllaaGreatDoor.Nb

namespace Go.Proofs.YtbidlkmagbjllaaGreatDoor.Nb

/-- ahead of a step: x and y as combinations of x0 and y0 -/
structure EuSt (x0 y0 x y c d u v : Nat) (odd : Bool) : Prop where
  e1 : x * v + y * d = x0
  e2 : x * u + y * c = y0
  det : if odd then c * v = d * u + 1 else d * u = c * v + 1
  xy : y ≤ x
  uv : u ≤ v
  v1 : 1 ≤ v
  cd : c ≤ d ∨ (c = 1 ∧ d = 0 ∧ u = 0 ∧ odd = true)
theorem eu_start {x0 y0 : Nat} (h : y0 ≤ x0) : EuSt x0 y0 x0 y0 1 0 0 1 true := ⟨by omega, by omega, by simp, h, by omega, by omega, .inr ⟨rfl, rfl, rfl, rfl⟩⟩
theorem eu_step {x0 y0 x y c d u v q : Nat} {odd : Bool} (h : EuSt x0 y0 x y c d u v odd) (hy : 0 < y) (hq : q = x / y) : EuSt x0 y0 y (x % y) u v (c + q * u) (d + q * v) (!odd) := by
  obtain ⟨e1, e2, det, xy, uv, v1, cd⟩ := h
  have hd := Nat.div_add_mod x y
  rw [← hq] at hd
  have hq1 : 1 ≤ q := by rw [hq]; exact (Nat.le_div_iff_mul_le hy).2 (by omega)
  have hx : ∀ t, x * t = y * (q * t) + x % y * t := fun t => by
    rw [← Nat.mul_assoc, ← Nat.add_mul, hd]
  refine ⟨?_, ?_, ?_, Nat.le_of_lt (Nat.mod_lt _ hy), ?_, ?_, .inl uv⟩
  · rw [Nat.mul_add, ← e1, hx v]; omega
  · rw [Nat.mul_add, ← e2, hx u]; omega
  · have a1 : u * (d + q * v) = u * d + q * (u * v) := by rw [Nat.mul_add, Nat.mul_left_comm]
    have a2 : v * (c + q * u) = v * c + q * (u * v) := by rw [Nat.mul_add, Nat.mul_left_comm, Nat.mul_comm v u]
    rw [a1, a2]
    rw [Nat.mul_comm c v, Nat.mul_comm d u] at det
    cases odd <;> simp at det ⊢ <;> omega
  · rcases cd with h | ⟨rfl, rfl, rfl, -⟩
    · have : q * u ≤ q * v := Nat.mul_le_mul_left _ uv
      omega
    · have : q * 1 ≤ q * v := Nat.mul_le_mul_left _ v1
      omega
  · have : 1 * v ≤ q * v := Nat.mul_le_mul_right _ hq1
    omega
/-- the next step's numbers stay digits -/
theorem eu_room {x0 y0 x y c d u v q : Nat} {odd : Bool} (h : EuSt x0 y0 x y c d u v odd) (hy : 0 < y) (hq : q = x / y) : c + q * u ≤ y0 ∧ d + q * v ≤ x0 ∧ d + v ≤ x0 ∧ c ≤ y0 ∧ u ≤ y0 := by
  have h1 := eu_step h hy hq
  have a1 := h1.e1
  have a2 := h1.e2
  have a3 : 1 * (c + q * u) ≤ y * (c + q * u) := Nat.mul_le_mul_right _ hy
  have a4 : 1 * (d + q * v) ≤ y * (d + q * v) := Nat.mul_le_mul_right _ hy
  have b1 := h.e1
  have b2 := h.e2
  have hx : 1 ≤ x := by have := h.xy; omega
  have a5 : 1 * v ≤ x * v := Nat.mul_le_mul_right _ hx
  have a6 : 1 * d ≤ y * d := Nat.mul_le_mul_right _ hy
  have a7 : 1 * u ≤ x * u := Nat.mul_le_mul_right _ hx
  have a8 : 1 * c ≤ y * c := Nat.mul_le_mul_right _ hy
  omega

/-- what steps tell: where b is not 0, x and y are the last numbers for which it was sure -/
def Coming (x0 y0 a b c d : Nat) (odd : Bool) : Prop := b ≠ 0 → ∃ x y, EuSt x0 y0 x y a b c d (!odd) ∧ d ≤ y ∧ b + d ≤ x - y
/-- what such steps make of the whole numbers -/
structure After (X Y P C : Nat) (a b c d : Nat) : Prop where
  le : C ≤ P
  x : X = d * P + b * C
  y : Y = c * P + a * C
theorem After.sum {X Y P C a b c d : Nat} (h : After X Y P C a b c d) (hb : 0 < b) (hd : 0 < d) (hY : 0 < Y) : P + C < X + Y := by
  have h1 := h.x
  have a1 : 1 * P ≤ d * P := Nat.mul_le_mul_right _ hd
  have a2 : 1 * C ≤ b * C := Nat.mul_le_mul_right _ hb
  omega
theorem mul_top {X K t : Nat} (hK : 0 < K) : t * (X / K * K) ≤ t * X ∧ t * X ≤ t * (X / K * K) + t * K := by
  have h1 := Nat.div_add_mod X K
  have h2 := Nat.mod_lt X hK
  rw [Nat.mul_comm] at h1
  have a1 : t * (X / K * K) ≤ t * X := Nat.mul_le_mul_left _ (by omega)
  have a2 : t * X ≤ t * (X / K * K + K) := Nat.mul_le_mul_left _ (by omega)
  rw [Nat.mul_add] at a2
  exact ⟨a1, a2⟩
theorem after_core {X Y K x y a b c d : Nat} (hK : 0 < K) (h1 : a * (X / K) = x + b * (Y / K)) (h2 : d * (Y / K) = y + c * (X / K)) (hb : b ≤ x) (hc : c ≤ y) (hs : b + d ≤ x - y) (hdt : a * d = b * c + 1) :
    b * Y ≤ a * X ∧ c * X ≤ d * Y ∧ After X Y (a * X - b * Y) (d * Y - c * X) a b c d := by
  have t1 := mul_top (X := X) (t := a) hK
  have t2 := mul_top (X := Y) (t := b) hK
  have t3 := mul_top (X := X) (t := c) hK
  have t4 := mul_top (X := Y) (t := d) hK
  have m1 : a * (X / K * K) = x * K + b * (Y / K * K) := by rw [← Nat.mul_assoc, h1, Nat.add_mul, Nat.mul_assoc]
  have m2 : d * (Y / K * K) = y * K + c * (X / K * K) := by rw [← Nat.mul_assoc, h2, Nat.add_mul, Nat.mul_assoc]
  have k1 : b * K ≤ x * K := Nat.mul_le_mul_right _ hb
  have k2 : c * K ≤ y * K := Nat.mul_le_mul_right _ hc
  have hd1 : 1 ≤ d := by
    rcases Nat.eq_zero_or_pos d with h0 | h0
    · rw [h0] at hdt; omega
    · exact h0
  have k3 : (b + d + y) * K ≤ x * K := Nat.mul_le_mul_right _ (by omega)
  rw [Nat.add_mul, Nat.add_mul] at k3
  have g1 : b * Y ≤ a * X := by omega
  have g2 : c * X ≤ d * Y := by omega
  refine ⟨g1, g2, ?_, ?_, ?_⟩
  · omega
  · have p1 : d * (a * X) = b * (c * X) + X := by
      rw [← Nat.mul_assoc, Nat.mul_comm d a, hdt, Nat.add_mul, Nat.one_mul, Nat.mul_assoc]
    have p2 : d * (b * Y) = b * (d * Y) := Nat.mul_left_comm _ _ _
    rw [Nat.mul_sub, Nat.mul_sub, p1, p2]
    have q1 : b * (c * X) ≤ b * (d * Y) := Nat.mul_le_mul_left _ g2
    have q2 : d * (b * Y) ≤ d * (a * X) := Nat.mul_le_mul_left _ g1
    rw [p1, p2] at q2
    omega
  · have p1 : a * (d * Y) = c * (b * Y) + Y := by
      rw [← Nat.mul_assoc, hdt, Nat.add_mul, Nat.one_mul, Nat.mul_comm b c, Nat.mul_assoc]
    have p2 : c * (a * X) = a * (c * X) := Nat.mul_left_comm _ _ _
    rw [Nat.mul_sub, Nat.mul_sub, p1, p2]
    have q1 : a * (c * X) ≤ a * (d * Y) := Nat.mul_le_mul_left _ g2
    have q2 : c * (b * Y) ≤ c * (a * X) := Nat.mul_le_mul_left _ g1
    rw [p1] at q1
    rw [p2] at q2
    omega
theorem after_even {X Y K a b c d : Nat} (hK : 0 < K) (h : Coming (X / K) (Y / K) a b c d false) (hb : b ≠ 0) :
    b * Y ≤ a * X ∧ c * X ≤ d * Y ∧ After X Y (a * X - b * Y) (d * Y - c * X) a b c d ∧ 0 < d := by
  obtain ⟨x, y, ⟨e1, e2, det, xy, uv, v1, cd⟩, hd, hs⟩ := h hb
  simp at det
  have i1 : a * (X / K) = x + b * (Y / K) := by
    rw [← e1, ← e2, Nat.mul_add, Nat.mul_add]
    have a1 : a * (x * d) = x * (a * d) := Nat.mul_left_comm _ _ _
    have a2 : b * (x * c) = x * (b * c) := Nat.mul_left_comm _ _ _
    have a3 : a * (y * b) = b * (y * a) := by rw [Nat.mul_left_comm, Nat.mul_comm a b, ← Nat.mul_left_comm]
    rw [a1, a2, a3, det, Nat.mul_add]
    omega
  have i2 : d * (Y / K) = y + c * (X / K) := by
    rw [← e1, ← e2, Nat.mul_add, Nat.mul_add]
    have a1 : d * (x * c) = c * (x * d) := by rw [Nat.mul_left_comm, Nat.mul_comm d c, ← Nat.mul_left_comm]
    have a2 : d * (y * a) = y * (a * d) := by rw [Nat.mul_left_comm, Nat.mul_comm d a]
    have a3 : c * (y * b) = y * (b * c) := by rw [Nat.mul_left_comm, Nat.mul_comm c b]
    rw [a1, a2, a3, det, Nat.mul_add]
    omega
  obtain ⟨p1, p2, p3⟩ := after_core hK i1 i2 (by omega) (by omega) hs det
  exact ⟨p1, p2, p3, v1⟩
theorem after_odd {X Y K a b c d : Nat} (hK : 0 < K) (h : Coming (X / K) (Y / K) a b c d true) (hb : b ≠ 0) :
    a * X ≤ b * Y ∧ d * Y ≤ c * X ∧ After X Y (b * Y - a * X) (c * X - d * Y) a b c d ∧ 0 < d := by
  obtain ⟨x, y, ⟨e1, e2, det, xy, uv, v1, cd⟩, hd, hs⟩ := h hb
  simp at det cd
  have i1 : b * (Y / K) = x + a * (X / K) := by
    rw [← e1, ← e2, Nat.mul_add, Nat.mul_add]
    have a1 : b * (x * c) = x * (b * c) := Nat.mul_left_comm _ _ _
    have a2 : a * (x * d) = x * (a * d) := Nat.mul_left_comm _ _ _
    have a3 : a * (y * b) = b * (y * a) := by rw [Nat.mul_left_comm, Nat.mul_comm a b, ← Nat.mul_left_comm]
    rw [a1, a2, a3, det, Nat.mul_add]
    omega
  have i2 : c * (X / K) = y + d * (Y / K) := by
    rw [← e1, ← e2, Nat.mul_add, Nat.mul_add]
    have a1 : d * (x * c) = c * (x * d) := by rw [Nat.mul_left_comm, Nat.mul_comm d c, ← Nat.mul_left_comm]
    have a2 : d * (y * a) = y * (a * d) := by rw [Nat.mul_left_comm, Nat.mul_comm d a]
    have a3 : c * (y * b) = y * (b * c) := by rw [Nat.mul_left_comm, Nat.mul_comm c b]
    rw [a1, a2, a3, det, Nat.mul_add]
    omega
  have hm : b * c = a * d + 1 := det
  have hab : a ≤ b := cd
  have t1 := mul_top (X := X) (t := a) hK
  have t2 := mul_top (X := Y) (t := b) hK
  have t3 := mul_top (X := X) (t := c) hK
  have t4 := mul_top (X := Y) (t := d) hK
  have m1 : b * (Y / K * K) = x * K + a * (X / K * K) := by rw [← Nat.mul_assoc, i1, Nat.add_mul, Nat.mul_assoc]
  have m2 : c * (X / K * K) = y * K + d * (Y / K * K) := by rw [← Nat.mul_assoc, i2, Nat.add_mul, Nat.mul_assoc]
  have k1 : a * K ≤ x * K := Nat.mul_le_mul_right _ (by omega)
  have k2 : d * K ≤ y * K := Nat.mul_le_mul_right _ hd
  have k3 : (a + c + y) * K ≤ x * K := Nat.mul_le_mul_right _ (by omega)
  rw [Nat.add_mul, Nat.add_mul] at k3
  have g1 : a * X ≤ b * Y := by omega
  have g2 : d * Y ≤ c * X := by omega
  refine ⟨g1, g2, ⟨?_, ?_, ?_⟩, v1⟩
  · omega
  · have p1 : b * (c * X) = d * (a * X) + X := by
      rw [← Nat.mul_assoc, hm, Nat.add_mul, Nat.one_mul, Nat.mul_comm a d, Nat.mul_assoc]
    have p2 : d * (b * Y) = b * (d * Y) := Nat.mul_left_comm _ _ _
    rw [Nat.mul_sub, Nat.mul_sub, p1, p2]
    have q1 : b * (d * Y) ≤ b * (c * X) := Nat.mul_le_mul_left _ g2
    have q2 : d * (a * X) ≤ d * (b * Y) := Nat.mul_le_mul_left _ g1
    rw [p1] at q1
    rw [p2] at q2
    omega
  · have p1 : c * (b * Y) = a * (d * Y) + Y := by
      rw [← Nat.mul_assoc, Nat.mul_comm c b, hm, Nat.add_mul, Nat.one_mul, Nat.mul_assoc]
    have p2 : c * (a * X) = a * (c * X) := Nat.mul_left_comm _ _ _
    rw [Nat.mul_sub, Nat.mul_sub, p1, p2]
    have q1 : a * (d * Y) ≤ a * (c * X) := Nat.mul_le_mul_left _ g2
    have q2 : c * (a * X) ≤ c * (b * Y) := Nat.mul_le_mul_left _ g1
    rw [p1, p2] at q2
    omega
theorem After.gcd {X Y P C a b c d : Nat} (h : After X Y P C a b c d) (hP : ∃ s t, s * X = P + t * Y ∨ s * Y = P + t * X) (hC : ∃ s t, s * Y = C + t * X ∨ s * X = C + t * Y) : Nat.gcd X Y = Nat.gcd P C := by
  apply Nat.dvd_antisymm
  · apply Nat.dvd_gcd
    · obtain ⟨s, t, e | e⟩ := hP
      · exact (Nat.dvd_add_left (Nat.dvd_mul_left_of_dvd (Nat.gcd_dvd_right X Y) t)).1 (e ▸ Nat.dvd_mul_left_of_dvd (Nat.gcd_dvd_left X Y) s)
      · exact (Nat.dvd_add_left (Nat.dvd_mul_left_of_dvd (Nat.gcd_dvd_left X Y) t)).1 (e ▸ Nat.dvd_mul_left_of_dvd (Nat.gcd_dvd_right X Y) s)
    · obtain ⟨s, t, e | e⟩ := hC
      · exact (Nat.dvd_add_left (Nat.dvd_mul_left_of_dvd (Nat.gcd_dvd_left X Y) t)).1 (e ▸ Nat.dvd_mul_left_of_dvd (Nat.gcd_dvd_right X Y) s)
      · exact (Nat.dvd_add_left (Nat.dvd_mul_left_of_dvd (Nat.gcd_dvd_right X Y) t)).1 (e ▸ Nat.dvd_mul_left_of_dvd (Nat.gcd_dvd_left X Y) s)
  · apply Nat.dvd_gcd
    · rw [h.x]; exact Nat.dvd_add (Nat.dvd_mul_left_of_dvd (Nat.gcd_dvd_left P C) d) (Nat.dvd_mul_left_of_dvd (Nat.gcd_dvd_right P C) b)
    · rw [h.y]; exact Nat.dvd_add (Nat.dvd_mul_left_of_dvd (Nat.gcd_dvd_left P C) c) (Nat.dvd_mul_left_of_dvd (Nat.gcd_dvd_right P C) a)
end Go.Proofs.YtbidlkmagbjllaaGreatDoor.Nb

namespace Go.Proofs.YtbidlkmagbjllaaGreatDoor.Nb
open Go Go.RowKit

theorem cells_set {w : World} {g : Nat} {arr : Array Value} {T : TypeId} {fz : Nat × Nat} (h : w.heap[g]? = some (.cells arr T fz)) (i : Nat) (v : Value) : (w.setCell ⟨g, i, none⟩ v).heap[g]? = some (.cells (arr.setIfInBounds i v) T fz) := by
  simp [World.setCell, Array.getElem?_modify, h]
/-- the five cells of what steps gather -/
def ComAt (w : World) (g a b c d : Nat) (odd : Bool) : Prop := w.heap[g]? = some (.cells #[.int .u64 (a : Int), .int .u64 (b : Int), .int .u64 (c : Int), .int .u64 (d : Int), .bool odd] 233 (0, 0))
structure ComCells (w : World) (g a b c d : Nat) (odd : Bool) : Prop where
  m0 : w.cell? ⟨g, 0, none⟩ = some (.int .u64 (a : Int))
  m1 : w.cell? ⟨g, 1, none⟩ = some (.int .u64 (b : Int))
  m2 : w.cell? ⟨g, 2, none⟩ = some (.int .u64 (c : Int))
  m3 : w.cell? ⟨g, 3, none⟩ = some (.int .u64 (d : Int))
  m4 : w.cell? ⟨g, 4, none⟩ = some (.bool odd)
  f0 : w.frozen? ⟨g, 0, none⟩ = false
  f1 : w.frozen? ⟨g, 1, none⟩ = false
  f2 : w.frozen? ⟨g, 2, none⟩ = false
  f3 : w.frozen? ⟨g, 3, none⟩ = false
  f4 : w.frozen? ⟨g, 4, none⟩ = false
theorem ComAt.cells {w : World} {g a b c d : Nat} {odd : Bool} (h : ComAt w g a b c d odd) : ComCells w g a b c d odd := by
  unfold ComAt at h
  refine ⟨?_, ?_, ?_, ?_, ?_, ?_, ?_, ?_, ?_, ?_⟩
  · rw [cell_of_row w g 0 _ _ (0, 0) h]; rfl
  · rw [cell_of_row w g 1 _ _ (0, 0) h]; rfl
  · rw [cell_of_row w g 2 _ _ (0, 0) h]; rfl
  · rw [cell_of_row w g 3 _ _ (0, 0) h]; rfl
  · rw [cell_of_row w g 4 _ _ (0, 0) h]; rfl
  all_goals simp [World.frozen?, h]
def ComW (w wr : World) (x0 y0 a b c d u v : Nat) (odd : Bool) (x y : Nat) : Prop :=
  EuSt x0 y0 x y c d u v odd ∧ Coming x0 y0 a b c d odd ∧ ComAt wr (w.heap.size + 1) a b c d odd ∧ ComAt wr w.heap.size 0 0 0 0 false ∧ Below w.heap.size w wr

def StepsPost (w : World) (x0 y0 : Nat) (e : Ending) (w' : World) : Prop := ∃ (a b c d : Nat) (odd : Bool), e = .returned (.agg #[.int .u64 (a : Int), .int .u64 (b : Int), .int .u64 (c : Int), .int .u64 (d : Int), .bool odd]) ∧ (a < 18446744073709551616 ∧ b < 18446744073709551616 ∧ c < 18446744073709551616 ∧ d < 18446744073709551616) ∧ Coming x0 y0 a b c d odd ∧ Below w.heap.size w w'
set_option maxRecDepth 8000 in
set_option maxHeartbeats 4000000 in
theorem steps_any (x0 y0 : Nat) (w : World) (hx : x0 < 18446744073709551616) (hxy : y0 ≤ x0) :
    Calls Tryz.prog 190 #[.int .u64 (x0 : Int), .int .u64 (y0 : Int)] w (StepsPost w x0 y0) := by
  have HX := Lib.hid (And.intro hx hxy)
  clear hx hxy
  go_enter Tryz.func190, Tryz.ntmps190
  go_wp2_with fail
  have H0 : Hid (ComW w ((w.alloc (.cells #[.int .u64 0, .int .u64 0, .int .u64 0, .int .u64 0, .bool false] 233)).alloc (.cells #[.int .u64 0, .int .u64 0, .int .u64 1, .int .u64 0, .bool true] 233)) x0 y0 0 0 1 0 0 1 true x0 y0) := Lib.hid (by
    have b1 := (Below.refl w.heap.size w).alloc (Nat.le_refl _) (.cells #[.int .u64 0, .int .u64 0, .int .u64 0, .int .u64 0, .bool false] 233)
    have hs : (w.alloc (.cells #[.int .u64 0, .int .u64 0, .int .u64 0, .int .u64 0, .bool false] 233)).heap.size = w.heap.size + 1 := by simp
    have n1 := heap_alloc_new w (.cells #[.int .u64 0, .int .u64 0, .int .u64 0, .int .u64 0, .bool false] 233)
    generalize w.alloc (.cells #[.int .u64 0, .int .u64 0, .int .u64 0, .int .u64 0, .bool false] 233) = w1 at *
    have b2 := (Below.refl w1.heap.size w1).alloc (Nat.le_refl _) (.cells #[.int .u64 0, .int .u64 0, .int .u64 1, .int .u64 0, .bool true] 233)
    have n2 := heap_alloc_new w1 (.cells #[.int .u64 0, .int .u64 0, .int .u64 1, .int .u64 0, .bool true] 233)
    rw [hs] at n2
    exact ⟨eu_start HX.out.2, fun h => absurd rfl h, n2, (b2.block _ (by omega)).trans n1, onto b1 b2⟩)
  go_loopw [0, 1, 6, 7] (fun xv yv uv vv wr => ∃ (x y a b c d u v : Nat) (odd : Bool), xv = .int .u64 (x : Int) ∧ yv = .int .u64 (y : Int) ∧ uv = .int .u64 (u : Int) ∧ vv = .int .u64 (v : Int) ∧ (a < 18446744073709551616 ∧ b < 18446744073709551616 ∧ c < 18446744073709551616 ∧ d < 18446744073709551616) ∧ Hid (ComW w wr x0 y0 a b c d u v odd x y)) (fun _ yv _ _ _ => (intOf yv).toNat)
  case atStart => exact ⟨x0, y0, 0, 0, 1, 0, 0, 1, true, rfl, rfl, rfl, rfl, by omega, H0⟩
  case round =>
    clear H0
    obtain ⟨x, y, a, b, c, d, u, v, odd, rfl, rfl, rfl, rfl, hl, hh⟩ := hrel
    obtain ⟨he, hco, hg, hr, hbl⟩ := hh.out
    obtain ⟨m0, m1, m2, m3, m4, f0, f1, f2, f3, f4⟩ := hg.cells
    obtain ⟨z0, z1, z2, z3, z4, r0, r1, r2, r3, r4⟩ := hr.cells
    have HL := Lib.hid hl
    by_cases h1 : v ≤ y
    · have hy0 : 0 < y := by have := he.v1; omega
      have hrm := eu_room he hy0 rfl
      have hxy := he.xy
      have hx0 := HX.out
      have hdv : d + v < 18446744073709551616 := by omega
      have hxl : x < 18446744073709551616 := by
        have e1 := he.e1
        have : x * 1 ≤ x * v := Nat.mul_le_mul_left _ he.v1
        omega
      have s1 : IntKind.u64.wrap ((x : Int) - (y : Int)) = ((x : Int) - (y : Int)) := by rw [IntKind.wrap_u64]; omega
      have s2 : IntKind.u64.wrap ((d : Int) + (v : Int)) = ((d : Int) + (v : Int)) := by rw [IntKind.wrap_u64]; omega
      by_cases h2 : d + v ≤ x - y
      · have g1 : (v : Int) ≤ (y : Int) := by omega
        have g2 : (d : Int) + (v : Int) ≤ (x : Int) - (y : Int) := by omega
        have g3 : ¬ (y : Int) = 0 := by omega
        have hst := eu_step he hy0 rfl
        obtain ⟨q, hq⟩ : ∃ q, x / y = q := ⟨_, rfl⟩
        obtain ⟨r, hrr⟩ : ∃ r, x % y = r := ⟨_, rfl⟩
        rw [hq, hrr] at hst
        rw [hq] at hrm
        have d1 : (x : Int) / (y : Int) = (q : Int) := by rw [← hq]; rfl
        have d2 : (x : Int) % (y : Int) = (r : Int) := by rw [← hrr]; rfl
        obtain ⟨qu, hqu⟩ : ∃ z, q * u = z := ⟨_, rfl⟩
        obtain ⟨qv, hqv⟩ : ∃ z, q * v = z := ⟨_, rfl⟩
        rw [hqu, hqv] at hst hrm
        have w1 : IntKind.u64.wrap ((q : Int) * (u : Int)) = (qu : Int) := by
          rw [show (q : Int) * (u : Int) = ((q * u : Nat) : Int) by rw [Int.natCast_mul], hqu, IntKind.wrap_u64]; omega
        have w2 : IntKind.u64.wrap ((q : Int) * (v : Int)) = (qv : Int) := by
          rw [show (q : Int) * (v : Int) = ((q * v : Nat) : Int) by rw [Int.natCast_mul], hqv, IntKind.wrap_u64]; omega
        obtain ⟨u2, hu2⟩ : ∃ z, c + qu = z := ⟨_, rfl⟩
        obtain ⟨v2, hv2⟩ : ∃ z, d + qv = z := ⟨_, rfl⟩
        rw [hu2, hv2] at hst
        have w3 : IntKind.u64.wrap ((c : Int) + (qu : Int)) = (u2 : Int) := by rw [IntKind.wrap_u64]; omega
        have w4 : IntKind.u64.wrap ((d : Int) + (qv : Int)) = (v2 : Int) := by rw [IntKind.wrap_u64]; omega
        have hql : q < 18446744073709551616 := by
          have : x / y ≤ x := Nat.div_le_self _ _
          omega
        have s3 : IntKind.u64.wrap (q : Int) = (q : Int) := by rw [IntKind.wrap_u64]; omega
        have hrl : r < y := by rw [← hrr]; exact Nat.mod_lt _ hy0
        have HS := Lib.hid (And.intro hst (And.intro (show Coming x0 y0 c d u v (!odd) from fun _ => ⟨x, y, by rw [Bool.not_not]; exact he, h1, h2⟩) (And.intro hg (And.intro hr hbl))))
        have HB : Hid (u < 18446744073709551616 ∧ v < 18446744073709551616) := Lib.hid (by omega)
        clear he hco hg hr hbl hrm hx0 hst hq hrr hqu hqv hu2 hv2 hh hl
        go_wp2_with fail
        go_quiet (fail)
        go_wp2_with fail
        go_roundw
        case rel =>
          refine ⟨y, r, c, d, u, v, u2, v2, !odd, rfl, congrArg (Value.int .u64) d2, rfl, rfl, ⟨HL.out.2.2.1, HL.out.2.2.2, HB.out.1, HB.out.2⟩, Lib.hid ⟨HS.out.1, HS.out.2.1, ?_, ?_, ?_⟩⟩
          · exact cells_set (cells_set (cells_set (cells_set (cells_set (w := wr.drewN _) HS.out.2.2.1 0 _) 2 _) 1 _) 3 _) 4 _
          · have hne : w.heap.size ≠ w.heap.size + 1 := by omega
            exact (Below.heap_setCell _ ⟨w.heap.size + 1, 4, none⟩ _ _ hne).trans ((Below.heap_setCell _ ⟨w.heap.size + 1, 3, none⟩ _ _ hne).trans ((Below.heap_setCell _ ⟨w.heap.size + 1, 1, none⟩ _ _ hne).trans ((Below.heap_setCell _ ⟨w.heap.size + 1, 2, none⟩ _ _ hne).trans ((Below.heap_setCell _ ⟨w.heap.size + 1, 0, none⟩ _ _ hne).trans HS.out.2.2.2.1))))
          · have hle : w.heap.size ≤ w.heap.size + 1 := by omega
            exact (((((below_dN HS.out.2.2.2.2 _).setCell (p := ⟨w.heap.size + 1, 0, none⟩) hle _).setCell (p := ⟨w.heap.size + 1, 2, none⟩) hle _).setCell (p := ⟨w.heap.size + 1, 1, none⟩) hle _).setCell (p := ⟨w.heap.size + 1, 3, none⟩) hle _).setCell (p := ⟨w.heap.size + 1, 4, none⟩) hle _
        case measure => simp [intOf]; omega
      · have g1 : (v : Int) ≤ (y : Int) := by omega
        have g2 : ¬ (d : Int) + (v : Int) ≤ (x : Int) - (y : Int) := by omega
        have HS := Lib.hid (And.intro hco hbl)
        clear he hco hg hr hbl hrm hx0 hh hl
        go_wp2_with fail
        exact bodyPost_ret (by simp [results, Tryz.results190, go_sem, z0, z1, z2, z3, z4]) rfl ⟨a, b, c, d, odd, rfl, HL.out, HS.out.1, ((((HS.out.2.setCell (p := ⟨w.heap.size, 0, none⟩) (Nat.le_refl _) _).setCell (p := ⟨w.heap.size, 1, none⟩) (Nat.le_refl _) _).setCell (p := ⟨w.heap.size, 2, none⟩) (Nat.le_refl _) _).setCell (p := ⟨w.heap.size, 3, none⟩) (Nat.le_refl _) _).setCell (p := ⟨w.heap.size, 4, none⟩) (Nat.le_refl _) _⟩
    · have g1 : ¬ (v : Int) ≤ (y : Int) := by omega
      have HS := Lib.hid (And.intro hco hbl)
      clear he hco hg hr hbl hh hl
      go_wp2_with fail
      exact bodyPost_ret (by simp [results, Tryz.results190, go_sem, z0, z1, z2, z3, z4]) rfl ⟨a, b, c, d, odd, rfl, HL.out, HS.out.1, ((((HS.out.2.setCell (p := ⟨w.heap.size, 0, none⟩) (Nat.le_refl _) _).setCell (p := ⟨w.heap.size, 1, none⟩) (Nat.le_refl _) _).setCell (p := ⟨w.heap.size, 2, none⟩) (Nat.le_refl _) _).setCell (p := ⟨w.heap.size, 3, none⟩) (Nat.le_refl _) _).setCell (p := ⟨w.heap.size, 4, none⟩) (Nat.le_refl _) _⟩
end Go.Proofs.YtbidlkmagbjllaaGreatDoor.Nb

namespace Go.Proofs.YtbidlkmagbjllaaGreatDoor.Nb
open Go Go.RowKit

/-- behind i digits of a product by one digit -/
def ManySt (m os : List Nat) (d more i c : Nat) : Prop := val os + c * 18446744073709551616 ^ i = val (m.take i) * d + more
theorem many_start (m : List Nat) (d more n : Nat) : ManySt m (List.replicate n 0) d more 0 more := by simp [ManySt, val, val_rep]
theorem many_step {m os : List Nat} {d more i c c' lo : Nat} (h : ManySt m os d more i c) (hi : i < m.length) (hl : i < os.length) (hz : os.getD i 0 = 0) (hf : m.getD i 0 * d + c = c' * 18446744073709551616 + lo) : ManySt m (os.set i lo) d more (i + 1) c' := by
  unfold ManySt at *
  have hv := val_set (ws := os) (k := i) lo hl
  rw [hz, Nat.mul_zero, Nat.add_zero] at hv
  rw [val_take_succ hi, Nat.pow_succ, hv, Nat.add_mul]
  obtain ⟨P, hP⟩ : ∃ P, 18446744073709551616 ^ i = P := ⟨_, rfl⟩
  rw [hP] at h ⊢
  have h1 : P * (m.getD i 0 * d + c) = P * (c' * 18446744073709551616 + lo) := by rw [hf]
  rw [Nat.mul_add, Nat.mul_add] at h1
  have e1 : P * m.getD i 0 * d = P * (m.getD i 0 * d) := Nat.mul_assoc _ _ _
  have e2 : c' * (P * 18446744073709551616) = P * (c' * 18446744073709551616) := Nat.mul_left_comm _ _ _
  have e3 : c * P = P * c := Nat.mul_comm _ _
  rw [e1, e2]
  rw [e3] at h
  omega
def ManyW (w : World) (g n : Nat) (m : List Nat) (d more i c : Nat) (wr : World) : Prop :=
  ∃ os, Blk wr g os ∧ os.length = n ∧ W64 os ∧ ManySt m os d more i c ∧ Clear os i ∧ Below g w wr

set_option maxRecDepth 8000 in
set_option maxHeartbeats 2000000 in
theorem many_core (A : Option Addr) (M ca d x : Nat) (m : List Nat) (w : World) (hm : Mag w (.slice A M ca) m) (hl : M ≤ 536870912) (hd : d < 18446744073709551616) (hx : x < 18446744073709551616) :
    Calls Tryz.prog 155 #[.slice A M ca, .int .u64 (d : Int), .int .u64 (x : Int)] w (Num w (val m * d + x) (M + 1)) := by
  have hla := hm.lenN
  have HA := Lib.hid hm
  have HL := Lib.hid hla
  have hmk := run_make_row' (P := Tryz.prog) 100 74 (.int .u64 0) 8 Tryz.underlying100 infoW rfl .i64 .i64 (M + 1) (by omega) (by omega)
  have hqs : ((M + 1 : Nat) : Int) = (M : Int) + 1 := by omega
  rw [hqs] at hmk
  have HX := Lib.hid hx
  clear hm hla hqs hx
  go_enter Tryz.func155, Tryz.ntmps155
  go_wp2_with fail
  clear hmk
  have H0 := Lib.hid (show ManyW w w.heap.size (M + 1) m d x 0 x (w.alloc (.cells (madeCells #[.int .u64 0] (M + 1)) 74)) from ⟨_, Blk.made w (M + 1), by simp, W64.rep _, many_start _ _ _ _, Clear.rep _ _, (Below.refl _ _).alloc (Nat.le_refl _) _⟩)
  go_loopw [2, 16] (fun mv iv wr => ∃ k c : Nat, k ≤ M ∧ mv = .int .u64 (c : Int) ∧ iv = .int .i64 (k : Int) ∧ c < 18446744073709551616 ∧ Hid (ManyW w w.heap.size (M + 1) m d x k c wr)) (fun _ iv _ => M - (intOf iv).toNat)
  case atStart => exact ⟨0, x, Nat.zero_le _, rfl, rfl, HX.out, H0⟩
  case round =>
    clear H0
    obtain ⟨k, c, hk, rfl, rfl, hc, hp⟩ := hrel
    obtain ⟨os, hbk, hlen, hw, hst, hcl, hbel⟩ := hp.out
    have hfr : wr.frozen? ⟨w.heap.size, k, none⟩ = false := hbk.frozen _
    have hz := hcl k (Nat.le_refl _)
    have hco : wr.cell? ⟨w.heap.size, k, none⟩ = some (.int .u64 (0 : Nat)) := by rw [← hz]; exact hbk.cell (by omega)
    by_cases hlt : k < M
    · obtain ⟨b1, o1, ea, hb1, hc1⟩ := HA.out.at hlt
      subst ea
      have hxc := (hbel.cell (p := ⟨b1, o1 + k, none⟩) hb1).trans hc1
      obtain ⟨y, ey⟩ : ∃ y, m.getD k 0 = y := ⟨_, rfl⟩
      have wy := HA.out.w32.get k
      rw [ey] at hxc wy
      have HFO : Hid (∀ W, Calls Tryz.prog 179 #[.int .u64 (y : Int), .int .u64 (d : Int), .int .u64 0, .int .u64 (c : Int)] W fun e w' => e = .returned (.tuple #[.int .u64 (((y * d + 0 + c) / 18446744073709551616 : Nat) : Int), .int .u64 (((y * d + 0 + c) % 18446744073709551616 : Nat) : Int)]) ∧ w' = W) := Lib.hid (fun W => fold_any y d 0 c W wy hd (by omega) hc)
      obtain ⟨c2, hc2⟩ : ∃ z, (y * d + 0 + c) / 18446744073709551616 = z := ⟨_, rfl⟩
      obtain ⟨lo, hlo⟩ : ∃ z, (y * d + 0 + c) % 18446744073709551616 = z := ⟨_, rfl⟩
      rw [hc2, hlo] at HFO
      have hf : y * d + c = c2 * 18446744073709551616 + lo ∧ lo < 18446744073709551616 ∧ c2 < 18446744073709551616 := by
        have : y * d ≤ 18446744073709551615 * 18446744073709551615 := Nat.mul_le_mul (by omega) (by omega)
        omega
      have HS := Lib.hid (And.intro (many_step hst (by have := HL.out; omega) (by omega) hz (by rw [ey]; exact hf.1)) (And.intro hf.2.1 hf.2.2))
      have HO := Lib.hid (And.intro hbk (And.intro hlen (And.intro hw (And.intro hcl hbel))))
      have k0 : (0 : Int) ≤ (k : Int) := by omega
      have k1 : (k : Int) < (M : Int) := by omega
      have k2 : (k : Int) < (M : Int) + 1 := by omega
      clear hbk hlen hw hst hcl hbel hc1 ey hb1 hc2 hlo hf hz hp wy
      go_wp2_with fail
      refine (HFO.out _).mono ?_
      rintro e w9 ⟨rfl, rfl⟩
      go_wp2_with fail
      go_roundw
      case rel => exact ⟨k + 1, c2, by omega, rfl, by go_num, HS.out.2.2, Lib.hid ⟨_, blk_end HO.out.1 rfl, by rw [List.length_set]; exact HO.out.2.1, HO.out.2.2.1.set HS.out.2.1, HS.out.1, HO.out.2.2.2.1.step, HO.out.2.2.2.2.setCell (p := ⟨w.heap.size, k, none⟩) (Nat.le_refl _) _⟩⟩
      case measure => simp [intOf]; omega
    · obtain rfl : k = M := by omega
      have hv := val_set (ws := os) (k := k) c (by omega)
      rw [hz, Nat.mul_zero, Nat.add_zero] at hv
      have hvv : val (os.set k c) = val m * d + x := by
        unfold ManySt at hst
        rw [List.take_of_length_le (by have := HL.out; omega), Nat.mul_comm c] at hst
        omega
      have HO := Lib.hid (And.intro hbk (And.intro hlen (And.intro hw (And.intro hvv hbel))))
      have k2 : (k : Int) < (k : Int) + 1 := by omega
      clear hbk hlen hw hst hcl hbel hv hvv hz hp
      go_wp2_with fail
      have hb2 : Blk (wr.setCell ⟨w.heap.size, k, none⟩ (.int .u64 (c : Int))) w.heap.size (os.set k c) := HO.out.1.set k c
      have hms := hb2.mag (HO.out.2.2.1.set hc) (by rw [List.length_set, HO.out.2.1]; omega)
      rw [List.length_set, HO.out.2.1] at hms
      refine (norm_any _ _ _ hms).mono ?_
      rintro e w2 ⟨A2, k2, c2, -, rfl, hm2, rfl⟩
      rw [HO.out.2.2.2.1, List.length_set, HO.out.2.1] at hm2
      have HF := Lib.hid hm2
      clear hm2 hms hb2
      go_wp2_with fail
      go_ret
      exact ⟨_, rfl, HF.out, HO.out.2.2.2.2.setCell (p := ⟨w.heap.size, k, none⟩) (Nat.le_refl _) _⟩
theorem many_any (v : Value) (X d x L : Nat) (w : World) (h : MagN w v X L) (hL : L ≤ 536870912) (hd : d < 18446744073709551616) (hx : x < 18446744073709551616) :
    Calls Tryz.prog 155 #[v, .int .u64 (d : Int), .int .u64 (x : Int)] w (Num w (X * d + x) (L + 1)) := by
  obtain ⟨ws, h1, h2, rfl, h4⟩ := h
  have h1' := h1
  obtain ⟨A, c, rfl, -⟩ := h1
  exact (many_core A ws.length c d x ws w h1' (by omega) hd hx).mono fun e w' ⟨y, a, b, d⟩ => ⟨y, a, b.more (by omega), d⟩
/-- less: of any numbers, the second not above the first -/
theorem less_any (u v : Value) (m n L : Nat) (w : World) (hu : MagN w u m L) (hv : MagN w v n L) (hle : n ≤ m) (hL : L ≤ 1073741824) :
    Calls Tryz.prog 178 #[u, v] w (Num w (m - n) L) := by
  obtain ⟨a, h1, h2, rfl, h4⟩ := hu
  obtain ⟨b, g1, g2, rfl, g4⟩ := hv
  have h1' := h1
  have g1' := g1
  have hab : b.length ≤ a.length := by
    rcases Nat.lt_or_ge a.length b.length with q | q
    · have := norm_len_lt h1.w32 g2 q
      omega
    · exact q
  obtain ⟨A, ca, rfl, -⟩ := h1
  obtain ⟨B, cb, rfl, -⟩ := g1
  exact (less_core A B a.length b.length ca cb a b w h1' g1' (by omega) hab hle).mono fun e w' ⟨x, he, hx, hb⟩ => ⟨x, he, hx.more (by omega), hb⟩
end Go.Proofs.YtbidlkmagbjllaaGreatDoor.Nb

namespace Go.Proofs.YtbidlkmagbjllaaGreatDoor.Nb
open Go Go.RowKit

theorem many_zero (v : Value) (X d L : Nat) (w : World) (h : MagN w v X L) (hL : L ≤ 536870912) (hd : d < 18446744073709551616) :
    Calls Tryz.prog 155 #[v, .int .u64 (d : Int), .int .u64 0] w (Num w (d * X) (L + 1)) := by
  have := many_any v X d 0 L w h hL hd (by omega)
  rw [Nat.add_zero, Nat.mul_comm] at this
  exact this
theorem com_new (w : World) (a b c d : Nat) (odd : Bool) : ComAt (w.alloc (.cells #[.int .u64 (a : Int), .int .u64 (b : Int), .int .u64 (c : Int), .int .u64 (d : Int), .bool odd] 233)) w.heap.size a b c d odd := heap_alloc_new w _
theorem ComAt.keep {w w' : World} {g a b c d : Nat} {odd : Bool} (h : ComAt w g a b c d odd) (hb : Below w.heap.size w w') : ComAt w' g a b c d odd := by
  have hg : g < w.heap.size := (Array.getElem?_eq_some_iff.1 h).1
  exact (hb.block g hg).trans h
theorem ComAt.four {w : World} {g a b c d : Nat} {odd : Bool} (h : ComAt w g a b c d odd) : w.cell? ⟨g, 0, none⟩ = some (.int .u64 (a : Int)) ∧ w.cell? ⟨g, 1, none⟩ = some (.int .u64 (b : Int)) ∧ w.cell? ⟨g, 2, none⟩ = some (.int .u64 (c : Int)) ∧ w.cell? ⟨g, 3, none⟩ = some (.int .u64 (d : Int)) :=
  ⟨h.cells.m0, h.cells.m1, h.cells.m2, h.cells.m3⟩

set_option maxRecDepth 8000 in
set_option maxHeartbeats 4000000 in
theorem after_any (u v : Value) (X Y L a b c d p q s t : Nat) (odd : Bool) (w : World) (hu : MagN w u X L) (hv : MagN w v Y L) (hL : L ≤ 268435456) (hl : a < 18446744073709551616 ∧ b < 18446744073709551616 ∧ c < 18446744073709551616 ∧ d < 18446744073709551616)
    (h : if odd = true then (p = b * Y ∧ q = a * X ∧ s = c * X ∧ t = d * Y) else (p = a * X ∧ q = b * Y ∧ s = d * Y ∧ t = c * X)) (hp : q ≤ p) (hs : t ≤ s) :
    Calls Tryz.prog 192 #[.agg #[.int .u64 (a : Int), .int .u64 (b : Int), .int .u64 (c : Int), .int .u64 (d : Int), .bool odd], u, v] w (Num2 w (p - q) (s - t) (L + 1) (L + 1)) := by
  obtain ⟨A1, k1, c1, rfl⟩ := hu.slice
  obtain ⟨A2, k2, c2, rfl⟩ := hv.slice
  have hA := (Below.refl w.heap.size w).alloc (Nat.le_refl _) (.cells #[.int .u64 (a : Int), .int .u64 (b : Int), .int .u64 (c : Int), .int .u64 (d : Int), .bool odd] 233)
  have HA := Lib.hid hA
  have HC := Lib.hid (com_new w a b c d odd)
  have HU := Lib.hid (hu.below hA)
  have HV := Lib.hid (hv.below hA)
  have HL := Lib.hid hl
  have HP := Lib.hid (And.intro hp hs)
  have HLL := Lib.hid hL
  have HE := Lib.hid h
  clear hA hu hv hl h hp hs hL
  cases odd
  · go_enter Tryz.func192, Tryz.ntmps192
    go_wp2_with fail
    generalize w.alloc (.cells #[.int .u64 (a : Int), .int .u64 (b : Int), .int .u64 (c : Int), .int .u64 (d : Int), .bool false] 233) = w0 at *
    have hcur : Below w0.heap.size w0 w0.drew := (Below.refl _ _).drew
    obtain ⟨e1, e2, e3, e4⟩ := HE.out
    have HXa := Lib.hid (fun W (hW : Below w0.heap.size w0 W) => many_zero (.slice A1 k1 c1) X a L W (HU.out.below hW) (by have := HLL.out; omega) HL.out.1)
    have HYb := Lib.hid (fun W (hW : Below w0.heap.size w0 W) => many_zero (.slice A2 k2 c2) Y b L W (HV.out.below hW) (by have := HLL.out; omega) HL.out.2.1)
    have HXc := Lib.hid (fun W (hW : Below w0.heap.size w0 W) => many_zero (.slice A1 k1 c1) X c L W (HU.out.below hW) (by have := HLL.out; omega) HL.out.2.2.1)
    have HYd := Lib.hid (fun W (hW : Below w0.heap.size w0 W) => many_zero (.slice A2 k2 c2) Y d L W (HV.out.below hW) (by have := HLL.out; omega) HL.out.2.2.2)
    rw [← e1] at HXa
    rw [← e2] at HYb
    rw [← e3] at HYd
    rw [← e4] at HXc
    clear e1 e2 e3 e4 HE
    go_region_held3 (fun w' => w'.cell? ⟨w.heap.size, 0, none⟩ = some (.int .u64 (a : Int)) ∧ w'.cell? ⟨w.heap.size, 1, none⟩ = some (.int .u64 (b : Int)) ∧ w'.cell? ⟨w.heap.size, 2, none⟩ = some (.int .u64 (c : Int)) ∧ w'.cell? ⟨w.heap.size, 3, none⟩ = some (.int .u64 (d : Int))) (first | exact (HC.out.keep hcur).four) (first | (go_at_call_of 155 a; refine (HXa.out _ hcur).mono ?_; rintro e w1 ⟨v1, rfl, hm1, b1⟩; obtain ⟨B1, l1, d1, rfl⟩ := hm1.slice; replace hcur := onto hcur b1; have HV1 := Lib.hid hm1; clear hm1 b1) | (go_at_call_of 155 b; refine (HYb.out _ hcur).mono ?_; rintro e w2 ⟨v2, rfl, hm2, b2⟩; obtain ⟨B2, l2, d2, rfl⟩ := hm2.slice; replace hcur := onto hcur b2; have HV2 := Lib.hid (And.intro (HV1.out.below b2) hm2); clear hm2 b2) | (go_at_call_of 155 d; refine (HYd.out _ hcur).mono ?_; rintro e w4 ⟨v4, rfl, hm4, b4⟩; obtain ⟨B4, l4, d4, rfl⟩ := hm4.slice; replace hcur := onto hcur b4; have HV4 := Lib.hid (And.intro (HV3.out.below b4) hm4); clear hm4 b4) | (go_at_call_of 155 c; refine (HXc.out _ hcur).mono ?_; rintro e w5 ⟨v5, rfl, hm5, b5⟩; obtain ⟨B5, l5, d5, rfl⟩ := hm5.slice; replace hcur := onto hcur b5; have HV5 := Lib.hid (And.intro (HV4.out.1.below b5) (And.intro (HV4.out.2.below b5) hm5)); clear hm5 b5) | (go_at_call_of 178 l5; refine (less_any _ _ s t (L + 1) _ HV5.out.2.1 HV5.out.2.2 HP.out.2 (by have := HLL.out; omega)).mono ?_; rintro e w6 ⟨v6, rfl, hm6, b6⟩; obtain ⟨B6, l6, d6, rfl⟩ := hm6.slice; replace hcur := onto hcur b6; have HV6 := Lib.hid (And.intro (HV5.out.1.below b6) hm6); clear hm6 b6) | (go_at_call_of 178 l2; refine (less_any _ _ p q (L + 1) _ HV2.out.1 HV2.out.2 HP.out.1 (by have := HLL.out; omega)).mono ?_; rintro e w3 ⟨v3, rfl, hm3, b3⟩; obtain ⟨B3, l3, d3, rfl⟩ := hm3.slice; replace hcur := onto hcur b3; have HV3 := Lib.hid hm3; clear hm3 b3))
    go_wp2_with fail
    go_ret2
    exact ⟨B3, l3, d3, B6, l6, d6, rfl, HV6.out.1, HV6.out.2, onto HA.out hcur⟩
  · go_enter Tryz.func192, Tryz.ntmps192
    go_wp2_with fail
    generalize w.alloc (.cells #[.int .u64 (a : Int), .int .u64 (b : Int), .int .u64 (c : Int), .int .u64 (d : Int), .bool true] 233) = w0 at *
    have hcur : Below w0.heap.size w0 w0.drew := (Below.refl _ _).drew
    obtain ⟨e1, e2, e3, e4⟩ := HE.out
    have HXa := Lib.hid (fun W (hW : Below w0.heap.size w0 W) => many_zero (.slice A1 k1 c1) X a L W (HU.out.below hW) (by have := HLL.out; omega) HL.out.1)
    have HYb := Lib.hid (fun W (hW : Below w0.heap.size w0 W) => many_zero (.slice A2 k2 c2) Y b L W (HV.out.below hW) (by have := HLL.out; omega) HL.out.2.1)
    have HXc := Lib.hid (fun W (hW : Below w0.heap.size w0 W) => many_zero (.slice A1 k1 c1) X c L W (HU.out.below hW) (by have := HLL.out; omega) HL.out.2.2.1)
    have HYd := Lib.hid (fun W (hW : Below w0.heap.size w0 W) => many_zero (.slice A2 k2 c2) Y d L W (HV.out.below hW) (by have := HLL.out; omega) HL.out.2.2.2)
    rw [← e1] at HYb
    rw [← e2] at HXa
    rw [← e3] at HXc
    rw [← e4] at HYd
    clear e1 e2 e3 e4 HE
    go_region_held3 (fun w' => w'.cell? ⟨w.heap.size, 0, none⟩ = some (.int .u64 (a : Int)) ∧ w'.cell? ⟨w.heap.size, 1, none⟩ = some (.int .u64 (b : Int)) ∧ w'.cell? ⟨w.heap.size, 2, none⟩ = some (.int .u64 (c : Int)) ∧ w'.cell? ⟨w.heap.size, 3, none⟩ = some (.int .u64 (d : Int))) (first | exact (HC.out.keep hcur).four) (first | (go_at_call_of 155 b; refine (HYb.out _ hcur).mono ?_; rintro e w1 ⟨v1, rfl, hm1, b1⟩; obtain ⟨B1, l1, d1, rfl⟩ := hm1.slice; replace hcur := onto hcur b1; have HV1 := Lib.hid hm1; clear hm1 b1) | (go_at_call_of 155 a; refine (HXa.out _ hcur).mono ?_; rintro e w2 ⟨v2, rfl, hm2, b2⟩; obtain ⟨B2, l2, d2, rfl⟩ := hm2.slice; replace hcur := onto hcur b2; have HV2 := Lib.hid (And.intro (HV1.out.below b2) hm2); clear hm2 b2) | (go_at_call_of 155 c; refine (HXc.out _ hcur).mono ?_; rintro e w4 ⟨v4, rfl, hm4, b4⟩; obtain ⟨B4, l4, d4, rfl⟩ := hm4.slice; replace hcur := onto hcur b4; have HV4 := Lib.hid (And.intro (HV3.out.below b4) hm4); clear hm4 b4) | (go_at_call_of 155 d; refine (HYd.out _ hcur).mono ?_; rintro e w5 ⟨v5, rfl, hm5, b5⟩; obtain ⟨B5, l5, d5, rfl⟩ := hm5.slice; replace hcur := onto hcur b5; have HV5 := Lib.hid (And.intro (HV4.out.1.below b5) (And.intro (HV4.out.2.below b5) hm5)); clear hm5 b5) | (go_at_call_of 178 l5; refine (less_any _ _ s t (L + 1) _ HV5.out.2.1 HV5.out.2.2 HP.out.2 (by have := HLL.out; omega)).mono ?_; rintro e w6 ⟨v6, rfl, hm6, b6⟩; obtain ⟨B6, l6, d6, rfl⟩ := hm6.slice; replace hcur := onto hcur b6; have HV6 := Lib.hid (And.intro (HV5.out.1.below b6) hm6); clear hm6 b6) | (go_at_call_of 178 l2; refine (less_any _ _ p q (L + 1) _ HV2.out.1 HV2.out.2 HP.out.1 (by have := HLL.out; omega)).mono ?_; rintro e w3 ⟨v3, rfl, hm3, b3⟩; obtain ⟨B3, l3, d3, rfl⟩ := hm3.slice; replace hcur := onto hcur b3; have HV3 := Lib.hid hm3; clear hm3 b3))
    go_wp2_with fail
    go_ret2
    exact ⟨B3, l3, d3, B6, l6, d6, rfl, HV6.out.1, HV6.out.2, onto HA.out hcur⟩
end Go.Proofs.YtbidlkmagbjllaaGreatDoor.Nb
