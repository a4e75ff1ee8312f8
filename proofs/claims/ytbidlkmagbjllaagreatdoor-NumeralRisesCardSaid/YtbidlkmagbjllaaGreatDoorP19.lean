/- R1 R2 BK1 in one text. -/
import Derived.Test.YtbidlkmagbjllaaGreatDoorP07
import Derived.Test.YtbidlkmagbjllaaGreatDoorP05

namespace Go.Proofs.YtbidlkmagbjllaaGreatDoor.Bg
open Go Go.RowKit

def DigSt (X : Nat) (os : List Nat) (k : Nat) : Prop := val (os.take k) = X % 4294967296 ^ k
theorem dig_start (X : Nat) (os : List Nat) : DigSt X os 0 := by simp [DigSt, val, Nat.mod_one]
theorem dig_step {X k x : Nat} {os : List Nat} (h : DigSt X os k) (hk : k < os.length) (hx : X / 4294967296 ^ k % 4294967296 = x) : DigSt X (os.set k x) (k + 1) := by
  unfold DigSt at *
  rw [val_take_succ', set_take, set_getD hk, h, ← hx, Nat.pow_succ, Nat.mod_mul]
theorem dig_end {X n : Nat} {os : List Nat} (h : DigSt X os n) (hn : os.length = n) (hX : X < 4294967296 ^ n) : val os = X := by
  unfold DigSt at h
  rw [List.take_of_length_le (by omega), Nat.mod_eq_of_lt hX] at h
  exact h

theorem val_drop_two (ws : List Nat) (j : Nat) : val (ws.drop j) = ws.getD j 0 + 4294967296 * ws.getD (j + 1) 0 + 4294967296 * 4294967296 * val (ws.drop (j + 2)) := by
  have step : ∀ j, val (ws.drop j) = ws.getD j 0 + 4294967296 * val (ws.drop (j + 1)) := by
    intro j
    by_cases h : j < ws.length
    · exact val_drop_step ws h
    · rw [List.drop_of_length_le (by omega), List.drop_of_length_le (by omega), List.getD_eq_getElem?_getD, List.getElem?_eq_none (by omega)]
      simp [val]
  rw [step j, step (j + 1), show j + 1 + 1 = j + 2 by omega]
  omega
theorem val_div (ws : List Nat) (hw : W32 ws) (j : Nat) : val ws / 4294967296 ^ j = val (ws.drop j) := by
  by_cases h : j ≤ ws.length
  · have h1 := val_take_drop ws h
    rw [h1, Nat.add_mul_div_left _ _ (Nat.pow_pos (by omega)), Nat.div_eq_of_lt (val_take_lt hw j), Nat.zero_add]
  · rw [List.drop_of_length_le (by omega)]
    refine Nat.div_eq_of_lt (Nat.lt_of_lt_of_le (val_lt hw) (Nat.pow_le_pow_right (by omega) (by omega)))
theorem two32 (s : Nat) (hs : s ≤ 32) : (4294967296 : Nat) = 2 ^ s * 2 ^ (32 - s) := by
  rw [← Nat.pow_add, show s + (32 - s) = 32 by omega]
theorem right_digit {m : List Nat} (hw : W32 m) {q s k : Nat} (hs : s < 32) :
    val m / (4294967296 ^ q * 2 ^ s) / 4294967296 ^ k % 4294967296 = (m.getD (q + k) 0 + 4294967296 * m.getD (q + k + 1) 0) / 2 ^ s % 4294967296 := by
  have e1 : val m / (4294967296 ^ q * 2 ^ s) / 4294967296 ^ k = val (m.drop (q + k)) / 2 ^ s := by
    rw [Nat.div_div_eq_div_mul, Nat.mul_assoc, Nat.mul_comm (2 ^ s), ← Nat.mul_assoc, ← Nat.pow_add, ← Nat.div_div_eq_div_mul, val_div m hw]
  rw [e1, val_drop_two m (q + k)]
  generalize m.getD (q + k) 0 + 4294967296 * m.getD (q + k + 1) 0 = a
  generalize val (m.drop (q + k + 2)) = Z
  have e2 : 4294967296 * 4294967296 * Z = 2 ^ s * (4294967296 * (2 ^ (32 - s) * Z)) := by
    have h := two32 s (by omega)
    calc 4294967296 * 4294967296 * Z = 4294967296 * (4294967296 * Z) := by rw [Nat.mul_assoc]
      _ = (2 ^ s * 2 ^ (32 - s)) * (4294967296 * Z) := by rw [← h]
      _ = 2 ^ s * (4294967296 * (2 ^ (32 - s) * Z)) := by
        rw [Nat.mul_assoc, Nat.mul_left_comm (2 ^ (32 - s)) 4294967296 Z]
  rw [e2, Nat.add_mul_div_left _ _ (Nat.pow_pos (by omega)), Nat.add_mul_mod_self_left]
theorem right_lt {m : List Nat} (hw : W32 m) {q s : Nat} (_hq : q ≤ m.length) : val m / (4294967296 ^ q * 2 ^ s) < 4294967296 ^ (m.length - q) := by
  rw [← Nat.div_div_eq_div_mul, val_div m hw]
  refine Nat.lt_of_le_of_lt (Nat.div_le_self _ _) ?_
  have := val_lt (hw.drop q)
  rwa [List.length_drop] at this
theorem right_zero {m : List Nat} (hw : W32 m) {q s : Nat} (hq : m.length ≤ q) : val m / (4294967296 ^ q * 2 ^ s) = 0 := by
  rw [← Nat.div_div_eq_div_mul, val_div m hw, List.drop_of_length_le hq]
  simp [val]

/-- ahead of word i of m: what stands in os -/
def LeftSt (m : List Nat) (q s : Nat) (os : List Nat) (i : Nat) : Prop :=
  val os = 4294967296 ^ q * 2 ^ s * val (m.take i) ∧ os.getD (q + i) 0 < 2 ^ s ∧ Clear os (q + i + 1)
theorem left_start (m : List Nat) (q s n : Nat) : LeftSt m q s (List.replicate n 0) 0 := by
  refine ⟨by simp [val, val_rep], ?_, Clear.rep _ _⟩
  have := Clear.rep n 0 (q + 0) (by omega)
  rw [this]
  exact Nat.pow_pos (by omega)
theorem left_word {x s : Nat} (hx : x < 4294967296) (hs : s < 32) : x * 2 ^ s < 18446744073709551616 ∧ x * 2 ^ s / 4294967296 < 2 ^ s ∧ x * 2 ^ s / 4294967296 < 4294967296 ∧ ∃ c, x * 2 ^ s % 4294967296 = 2 ^ s * c ∧ 2 ^ s * c + 2 ^ s ≤ 4294967296 := by
  have h1 : x * 2 ^ s < 4294967296 * 2 ^ s := Nat.mul_lt_mul_of_pos_right hx (Nat.pow_pos (by omega))
  have h2 : 2 ^ s ≤ 2 ^ 31 := Nat.pow_le_pow_right (by omega) (by omega)
  have h3 : x * 2 ^ s / 4294967296 < 2 ^ s := Nat.div_lt_of_lt_mul h1
  have h4 := two32 s (by omega)
  refine ⟨by omega, h3, by omega, x % 2 ^ (32 - s), ?_, ?_⟩
  · rw [Nat.mul_comm x]
    conv => lhs; rw [h4]
    rw [Nat.mul_mod_mul_left]
  · have h5 : x % 2 ^ (32 - s) + 1 ≤ 2 ^ (32 - s) := Nat.mod_lt _ (Nat.pow_pos (by omega))
    have h6 := Nat.mul_le_mul_left (2 ^ s) h5
    rw [← h4, Nat.mul_add, Nat.mul_one] at h6
    exact h6
theorem left_step {m os : List Nat} {q s i t o : Nat} (h : LeftSt m q s os i) (hs : s < 32) (hm : W32 m) (ht : m.getD i 0 * 2 ^ s = t) (ho : os.getD (q + i) 0 = o) (hl : q + i + 1 < os.length) :
    LeftSt m q s ((os.set (q + i) (o + t % 4294967296)).set (q + i + 1) (t / 4294967296)) (i + 1) := by
  obtain ⟨h1, h2, h3⟩ := h
  have hw := left_word (hm.get i) hs
  rw [ht] at hw
  obtain ⟨-, w2, -, -⟩ := hw
  have s1 := set_val (os := os) (x := o + t % 4294967296) (i := q + i) (by omega)
  have s2 := set_val (os := os.set (q + i) (o + t % 4294967296)) (x := t / 4294967296) (i := q + i + 1) (by rw [List.length_set]; omega)
  rw [set_getD_ne (by omega), h3 _ (Nat.le_refl _), Nat.mul_zero, Nat.add_zero] at s2
  rw [ho, Nat.mul_add] at s1
  refine ⟨?_, ?_, ?_⟩
  · have e : 4294967296 ^ (q + i) * (t % 4294967296) + 4294967296 ^ (q + i + 1) * (t / 4294967296) = 4294967296 ^ (q + i) * t := by
      rw [Nat.pow_succ, Nat.mul_assoc, ← Nat.mul_add, Nat.mod_add_div]
    have e2 : 4294967296 ^ (q + i) * t = 4294967296 ^ q * 2 ^ s * (4294967296 ^ i * m.getD i 0) := by
      rw [← ht, Nat.pow_add]
      simp only [Nat.mul_assoc, Nat.mul_left_comm, Nat.mul_comm]
    rw [val_take_succ', Nat.mul_add, ← h1, ← e2]
    omega
  · rw [show q + (i + 1) = q + i + 1 by omega, set_getD (by rw [List.length_set]; omega)]
    exact w2
  · rw [show q + (i + 1) + 1 = q + i + 1 + 1 by omega]
    exact Clear.step ((h3.set (by omega)))
theorem left_end {m os : List Nat} {q s n : Nat} (h : LeftSt m q s os n) (hn : m.length = n) : val os = val m * (4294967296 ^ q * 2 ^ s) := by
  obtain ⟨h1, -, -⟩ := h
  rw [h1, List.take_of_length_le (by omega), Nat.mul_comm]
end Go.Proofs.YtbidlkmagbjllaaGreatDoor.Bg

namespace Go.Proofs.YtbidlkmagbjllaaGreatDoor.Bg
open Go Go.RowKit

theorem or_high_u32 {o c s : Nat} (ho : o < 2 ^ s) (hc : 2 ^ s * c + 2 ^ s ≤ 4294967296) : bits .or .u32 (o : Int) ((2 ^ s * c : Nat) : Int) = ((o + 2 ^ s * c : Nat) : Int) := by
  rw [u32_or_nat _ _ (by omega) (by omega)]
  rw [Nat.mul_comm, Nat.or_comm, show c * 2 ^ s = c <<< s by rw [Nat.shiftLeft_eq], ← Nat.shiftLeft_add_eq_or_of_lt ho, Nat.shiftLeft_eq, Nat.mul_comm, Nat.add_comm]

def LeftW (w : World) (g n : Nat) (m : List Nat) (q s i : Nat) (wr : World) : Prop :=
  ∃ os, Blk wr g os ∧ os.length = n ∧ W32 os ∧ LeftSt m q s os i ∧ Below g w wr

set_option maxHeartbeats 2000000 in
theorem left_core (A : Option Addr) (M ca q s N : Nat) (m : List Nat) (w : World) (hm : Mag w (.slice A M ca) m) (hl : q + M ≤ 536870912) (hs : s < 32) (hN : N = 32 * q + s) (hM : 0 < M) :
    Calls Tryz.prog 115 #[.slice A M ca, .int .u64 (N : Int)] w fun e w' => ∃ k os, e = .returned (.slice (some ⟨w.heap.size, 0, none⟩) k (q + M + 1)) ∧ Blk w' w.heap.size os ∧ W32 os ∧ os.length = q + M + 1 ∧
      val os = val m * (4294967296 ^ q * 2 ^ s) ∧ MagN w' (.slice (some ⟨w.heap.size, 0, none⟩) k (q + M + 1)) (val os) (q + M + 1) ∧ Below w.heap.size w w' := by
  have hla := hm.len
  have HA := Lib.hid hm
  have HL := Lib.hid hla
  have hmk := run_make_row' (P := Tryz.prog) 39 88 (.int .u32 0) 4 Tryz.underlying39 infoW rfl .i64 .i64 (q + M + 1) (by omega) (by omega)
  have e1 : (N : Int) / 32 = (q : Int) := by omega
  have e2 : (N : Int) % 32 = (s : Int) := by omega
  have hN1 : (N : Int) ≤ 18446744073709551615 := by omega
  have hM0 : ¬ M = 0 := by omega
  have hqs : ((q + M + 1 : Nat) : Int) = (q : Int) + (M : Int) + 1 := by omega
  rw [hqs] at hmk
  clear hm hla hN hqs
  go_enter Tryz.func115, Tryz.ntmps115
  go_wp2_with fail
  clear hmk
  have H0 := Lib.hid (show LeftW w w.heap.size (q + M + 1) m q s 0 (w.alloc (.cells (madeCells #[.int .u32 0] (q + M + 1)) 88)) from ⟨_, Blk.made w (q + M + 1), by simp, W32.rep _, left_start _ _ _ _, (Below.refl _ _).alloc (Nat.le_refl _) _⟩)
  go_loopw [8] (fun i wr => ∃ k : Nat, k ≤ M ∧ i = .int .i64 k ∧ Hid (LeftW w w.heap.size (q + M + 1) m q s k wr)) (fun i _ => M - (intOf i).toNat)
  case atStart => exact ⟨0, Nat.zero_le _, rfl, H0⟩
  case round =>
    obtain ⟨k, hk, rfl, hp⟩ := hrel
    by_cases hlt : k < M
    · obtain ⟨os, hbk, hlen, hw, hst, hbel⟩ := hp.out
      have HO := Lib.hid (And.intro hbk (And.intro hlen (And.intro hw (And.intro hst hbel))))
      have hfr : wr.frozen? ⟨w.heap.size, q + k, none⟩ = false := hbk.frozen _
      have hfr2 : wr.frozen? ⟨w.heap.size, q + k + 1, none⟩ = false := hbk.frozen _
      obtain ⟨o, ho⟩ : ∃ o, os.getD (q + k) 0 = o := ⟨_, rfl⟩
      have hco : wr.cell? ⟨w.heap.size, q + k, none⟩ = some (.int .u32 (o : Nat)) := by rw [← ho]; exact hbk.cell (by omega)
      have hz := hst.2.2 (q + k + 1) (by omega)
      have hco2 : wr.cell? ⟨w.heap.size, q + k + 1, none⟩ = some (.int .u32 (0 : Nat)) := by rw [← hz]; exact hbk.cell (by omega)
      have hos := hst.2.1
      rw [ho] at hos
      obtain ⟨b1, o1, ea, hb1, hc1⟩ := HA.out.at hlt
      subst ea
      have hx := (hbel.cell (p := ⟨b1, o1 + k, none⟩) hb1).trans hc1
      obtain ⟨x, ex⟩ : ∃ x, m.getD k 0 = x := ⟨_, rfl⟩
      have wx := HA.out.w32.get k
      rw [ex] at hx wx
      obtain ⟨t1, t2, t3, c, t4, t5⟩ := left_word wx hs
      obtain ⟨t, ht⟩ : ∃ t, x * 2 ^ s = t := ⟨_, rfl⟩
      rw [ht] at t1 t2 t3 t4
      have hwr : IntKind.u64.wrap ((x : Int) * 2 ^ s) = (t : Int) := by
        rw [show ((x : Int) * 2 ^ s) = ((x * 2 ^ s : Nat) : Int) by rw [Int.natCast_mul, Int.natCast_pow]; rfl, ht]
        exact IntWalk.u64_in _ ⟨by omega, by omega⟩
      have hor := or_high_u32 hos t5
      rw [← t4, show ((t % 4294967296 : Nat) : Int) = (t : Int) % 4294967296 by omega] at hor
      have hbd : o + t % 4294967296 < 4294967296 := by omega
      have EX := Lib.hid (And.intro ex (And.intro ht ho))
      have T := Lib.hid (And.intro t1 (And.intro t2 (And.intro t3 hbd)))
      clear hbk hlen hw hst hbel hc1 ex ho hb1 hz ht t1 t2 t3 t4 t5 hos hbd
      go_wp2_with fail
      go_roundw
      case rel => exact ⟨k + 1, by omega, by go_num, _, blk_end (y := t / 4294967296) (blk_end (y := o + t % 4294967296) HO.out.1 (by omega)) (by have := T.out.2.2.1; omega), by rw [List.length_set, List.length_set]; exact HO.out.2.1, (HO.out.2.2.1.set T.out.2.2.2).set T.out.2.2.1,
        left_step HO.out.2.2.2.1 hs HA.out.w32 (by rw [EX.out.1]; exact EX.out.2.1) EX.out.2.2 (by have := HO.out.2.1; omega), (HO.out.2.2.2.2.setCell (p := ⟨w.heap.size, q + k, none⟩) (Nat.le_refl _) _).setCell (p := ⟨w.heap.size, q + k + 1, none⟩) (Nat.le_refl _) _⟩
      case measure => simp [intOf]; omega
    · obtain rfl : k = M := by omega
      obtain ⟨os, hbk, hlen, hw, hst, hbel⟩ := hp.out
      have HO := Lib.hid (And.intro hbk (And.intro hlen (And.intro hw (And.intro hst hbel))))
      clear hbk hlen hw hst hbel
      go_wp2_with fail
      have hms := HO.out.1.mag HO.out.2.2.1 (by rw [HO.out.2.1]; omega)
      rw [HO.out.2.1] at hms
      refine (cut_any _ _ _ hms).mono ?_
      rintro e w2 ⟨A2, k2, c2, hA2, rfl, hm2, rfl⟩
      injection hA2 with a1 a2 a3
      subst a1
      subst a3
      clear a2
      rw [HO.out.2.1] at hm2
      have HF := Lib.hid hm2
      clear hm2 hms
      go_wp2_with fail
      go_ret
      exact ⟨_, os, rfl, HO.out.1, HO.out.2.2.1, HO.out.2.1, left_end HO.out.2.2.2.1 HL.out.symm, HF.out, HO.out.2.2.2.2⟩

theorem or_low {x y : Nat} (hx : x < 4294967296) (hy : y < 4294967296) : bits .or .u64 (x : Int) ((y : Int) * 4294967296) = ((x + 4294967296 * y : Nat) : Int) := by
  have e : ((y : Int) * 4294967296) = ((y * 4294967296 : Nat) : Int) := by omega
  rw [e, u64_or_nat x _ (by omega) (by omega)]
  rw [Nat.or_comm, show y * 4294967296 = y <<< 32 by rw [Nat.shiftLeft_eq], ← Nat.shiftLeft_add_eq_or_of_lt (by omega : x < 2 ^ 32), Nat.shiftLeft_eq]
  omega

theorem sh_cast (t s : Nat) : (t : Int) / 2 ^ s % 4294967296 = ((t / 2 ^ s % 4294967296 : Nat) : Int) := by
  rw [Int.natCast_emod, Int.natCast_ediv, Int.natCast_pow]; rfl
def RightW (w : World) (g n : Nat) (X i : Nat) (wr : World) : Prop :=
  ∃ os, Blk wr g os ∧ os.length = n ∧ W32 os ∧ DigSt X os i ∧ Below g w wr

theorem MagN.zero0 (w : World) (L : Nat) : MagN w (.slice none 0 0) 0 L := ⟨[], Mag.nil w none 0 (by omega), Or.inl rfl, rfl, Nat.zero_le _⟩
theorem right_big (A : Option Addr) (M ca q s N : Nat) (w : World) (hN : N = 32 * q + s) (hs : s < 32) (hq : M ≤ q) (hN2 : N ≤ 9223372036854775807) :
    Calls Tryz.prog 171 #[.slice A M ca, .int .u64 (N : Int)] w fun e w' => e = .returned (.slice none 0 0) ∧ w = w' := by
  have e1 : (N : Int) / 32 = (q : Int) := by omega
  have e2 : (N : Int) % 32 = (s : Int) := by omega
  have hqM : (M : Int) ≤ (q : Int) := by omega
  clear hN
  go_enter Tryz.func171, Tryz.ntmps171
  go_wp2_with fail
  go_ret
  exact ⟨rfl, rfl⟩

set_option maxHeartbeats 2000000 in
theorem right_core (A : Option Addr) (M ca q s N : Nat) (m : List Nat) (w : World) (hm : Mag w (.slice A M ca) m) (hl : M ≤ 536870912) (hs : s < 32) (hN : N = 32 * q + s) (hq : q < M) :
    Calls Tryz.prog 171 #[.slice A M ca, .int .u64 (N : Int)] w fun e w' => ∃ v, e = .returned v ∧ MagN w' v (val m / (4294967296 ^ q * 2 ^ s)) (M - q) ∧ Below w.heap.size w w' := by
  have hla := hm.len
  have HA := Lib.hid hm
  have HL := Lib.hid hla
  obtain ⟨n, hn⟩ : ∃ n, M - q = n := ⟨_, rfl⟩
  have hmk := run_make_row' (P := Tryz.prog) 39 88 (.int .u32 0) 4 Tryz.underlying39 infoW rfl .i64 .i64 n (by omega) (by omega)
  have e1 : (N : Int) / 32 = (q : Int) := by omega
  have e2 : (N : Int) % 32 = (s : Int) := by omega
  have hN1 : (N : Int) ≤ 18446744073709551615 := by omega
  have hqM : (q : Int) < (M : Int) := by omega
  have hX : val m / (4294967296 ^ q * 2 ^ s) < 4294967296 ^ n := by
    rw [← hn, hla]; exact right_lt hm.w32 (by omega)
  have hdig := fun k => right_digit (m := m) hm.w32 (q := q) (k := k) hs
  obtain ⟨X, hXe⟩ : ∃ X, val m / (4294967296 ^ q * 2 ^ s) = X := ⟨_, rfl⟩
  rw [hXe] at hX hdig
  rw [hXe, hn]
  have HX := Lib.hid hX
  have HD := Lib.hid hdig
  have hnM : (M : Int) - (q : Int) = (n : Int) := by omega
  have HNM := Lib.hid hn
  clear hm hla hN hX hdig hXe hn
  go_enter Tryz.func171, Tryz.ntmps171
  go_wp2_with fail
  clear hmk
  have H0 := Lib.hid (show RightW w w.heap.size n X 0 (w.alloc (.cells (madeCells #[.int .u32 0] n) 88)) from ⟨_, Blk.made w n, by simp, W32.rep _, dig_start _ _, (Below.refl _ _).alloc (Nat.le_refl _) _⟩)
  go_loopw [8] (fun i wr => ∃ k : Nat, k ≤ n ∧ i = .int .i64 k ∧ Hid (RightW w w.heap.size n X k wr)) (fun i _ => n - (intOf i).toNat)
  case atStart => exact ⟨0, Nat.zero_le _, rfl, H0⟩
  case round =>
    obtain ⟨k, hk, rfl, hp⟩ := hrel
    by_cases hlt : k < n
    · obtain ⟨os, hbk, hlen, hw, hst, hbel⟩ := hp.out
      have HO := Lib.hid (And.intro hbk (And.intro hlen (And.intro hw (And.intro hst hbel))))
      have hfr : wr.frozen? ⟨w.heap.size, k, none⟩ = false := hbk.frozen _
      obtain ⟨o, ho⟩ : ∃ o, os.getD k 0 = o := ⟨_, rfl⟩
      have hco : wr.cell? ⟨w.heap.size, k, none⟩ = some (.int .u32 (o : Nat)) := by rw [← ho]; exact hbk.cell (by omega)
      obtain ⟨b1, o1, ea, hb1, hc1⟩ := HA.out.at (j := q + k) (by have := HNM.out; omega)
      subst ea
      have hx := (hbel.cell (p := ⟨b1, o1 + (q + k), none⟩) hb1).trans hc1
      obtain ⟨x, ex⟩ : ∃ x, m.getD (q + k) 0 = x := ⟨_, rfl⟩
      have wx := HA.out.w32.get (q + k)
      rw [ex] at hx wx
      have hd := HD.out k
      rw [ex] at hd
      have hqk : ((q : Int) + (k : Int)).toNat = q + k := by omega
      by_cases hlt2 : q + k + 1 < M
      · obtain ⟨b2, o2, eb, hb2, hc2⟩ := HA.out.at (j := q + k + 1) hlt2
        injection eb with eb
        injection eb with eb1 eb2 _
        subst eb1 eb2
        have hy := (hbel.cell (p := ⟨b1, o1 + (q + k + 1), none⟩) hb1).trans hc2
        obtain ⟨y, ey⟩ : ∃ y, m.getD (q + k + 1) 0 = y := ⟨_, rfl⟩
        have wy := HA.out.w32.get (q + k + 1)
        rw [ey] at hy wy hd
        obtain ⟨t, ht⟩ : ∃ t, x + 4294967296 * y = t := ⟨_, rfl⟩
        rw [ht] at hd
        have hor := or_low wx wy
        rw [ht] at hor
        have htb : t ≤ 18446744073709551615 := by omega
        have hi2 : (q : Int) + (k : Int) + 1 < (M : Int) := by omega
        have HDD := Lib.hid hd
        clear hbk hlen hw hst hbel hc1 ex ho hb1 hc2 ey ht hd hb2
        go_wp2_with fail
        go_roundw
        case rel => exact ⟨k + 1, by omega, by go_num, _, blk_end (y := t / 2 ^ s % 4294967296) HO.out.1 (sh_cast t s), by rw [List.length_set]; exact HO.out.2.1, HO.out.2.2.1.set (Nat.mod_lt _ (by omega)), dig_step HO.out.2.2.2.1 (by have := HO.out.2.1; omega) HDD.out, HO.out.2.2.2.2.setCell (p := ⟨w.heap.size, k, none⟩) (Nat.le_refl _) _⟩
        case measure => simp [intOf]; omega
      · have hy0 : m.getD (q + k + 1) 0 = 0 := by rw [List.getD_eq_getElem?_getD, List.getElem?_eq_none (by have := HL.out; omega)]; rfl
        rw [hy0, Nat.mul_zero, Nat.add_zero] at hd
        have htb : x ≤ 18446744073709551615 := by omega
        have hi2 : ¬ (q : Int) + (k : Int) + 1 < (M : Int) := by omega
        have HDD := Lib.hid hd
        clear hbk hlen hw hst hbel hc1 ex ho hb1 hd hy0
        go_wp2_with fail
        go_roundw
        case rel => exact ⟨k + 1, by omega, by go_num, _, blk_end (y := x / 2 ^ s % 4294967296) HO.out.1 (sh_cast x s), by rw [List.length_set]; exact HO.out.2.1, HO.out.2.2.1.set (Nat.mod_lt _ (by omega)), dig_step HO.out.2.2.2.1 (by have := HO.out.2.1; omega) HDD.out, HO.out.2.2.2.2.setCell (p := ⟨w.heap.size, k, none⟩) (Nat.le_refl _) _⟩
        case measure => simp [intOf]; omega
    · obtain rfl : k = n := by omega
      obtain ⟨os, hbk, hlen, hw, hst, hbel⟩ := hp.out
      have HO := Lib.hid (And.intro hbk (And.intro hlen (And.intro hw (And.intro hst hbel))))
      clear hbk hlen hw hst hbel
      go_wp2_with fail
      have hms := HO.out.1.mag HO.out.2.2.1 (by rw [HO.out.2.1]; omega)
      rw [HO.out.2.1] at hms
      refine (cut_any _ _ _ hms).mono ?_
      rintro e w2 ⟨A2, k2, c2, -, rfl, hm2, rfl⟩
      rw [dig_end HO.out.2.2.2.1 HO.out.2.1 HX.out, HO.out.2.1] at hm2
      have HF := Lib.hid hm2
      clear hm2 hms
      go_wp2_with fail
      go_ret
      exact ⟨_, rfl, HF.out, HO.out.2.2.2.2⟩

/-- right: a magnitude over 2 to the N-th, rounded down -/
theorem right_any (v : Value) (X N L : Nat) (w : World) (h : MagN w v X L) (hL : L ≤ 536870912) (hN : N ≤ 9223372036854775807) :
    Calls Tryz.prog 171 #[v, .int .u64 (N : Int)] w fun e w' => ∃ v', e = .returned v' ∧ MagN w' v' (X / 2 ^ N) L ∧ Below w.heap.size w w' := by
  obtain ⟨ws, h1, h2, rfl, h4⟩ := h
  have h1' := h1
  have hw := h1.w32
  obtain ⟨A, c, rfl, -⟩ := h1
  have e : (2 : Nat) ^ N = 4294967296 ^ (N / 32) * 2 ^ (N % 32) := by
    rw [show (4294967296 : Nat) = 2 ^ 32 by decide, ← Nat.pow_mul, ← Nat.pow_add]
    congr 1
    omega
  rw [e]
  rcases Nat.lt_or_ge (N / 32) ws.length with hq | hq
  · exact (right_core A ws.length c (N / 32) (N % 32) N ws w h1' (by omega) (by omega) (by omega) hq).mono fun e w' ⟨x, a, b, d⟩ => ⟨x, a, b.more (by omega), d⟩
  · refine (right_big A ws.length c (N / 32) (N % 32) N w (by omega) (by omega) hq hN).mono fun e w' ⟨a, b⟩ => ?_
    subst b
    rw [right_zero hw hq]
    exact ⟨_, a, MagN.zero0 _ _, Below.refl _ _⟩
end Go.Proofs.YtbidlkmagbjllaaGreatDoor.Bg

namespace Go.Proofs.YtbidlkmagbjllaaGreatDoor.Nb

/-- one word turned -/
theorem val_set : ∀ {ws : List Nat} {k : Nat} (x : Nat), k < ws.length → val (ws.set k x) + 18446744073709551616 ^ k * ws.getD k 0 = val ws + 18446744073709551616 ^ k * x
  | a :: r, 0, x, _ => by simp [val]; omega
  | a :: r, k + 1, x, h => by
    have ih := val_set (ws := r) (k := k) x (by simpa using h)
    simp only [List.set_cons_succ, val, List.getD_cons_succ]
    rw [Nat.pow_succ, Nat.mul_comm (18446744073709551616 ^ k) 18446744073709551616, Nat.mul_assoc, Nat.mul_assoc]
    omega

/-- a guess by the first digits is not too small -/
theorem guess_first {U V P u0 u1 u2 v1 U0 V0 v2 : Nat} (hU : U = U0 + P * (u0 + 18446744073709551616 * (u1 + 18446744073709551616 * u2))) (hU0 : U0 < P) (hu0 : u0 < 18446744073709551616)
    (hV : V = V0 + P * (v2 + 18446744073709551616 * v1)) (hv1 : 0 < v1) :
    U / V ≤ (u2 * 18446744073709551616 + u1) / v1 := by
  have hP : 0 < P := by omega
  have h1 : P * 18446744073709551616 * v1 ≤ V := by
    rw [hV, Nat.mul_add, Nat.mul_assoc]
    omega
  have h2 : U / V ≤ U / (P * 18446744073709551616 * v1) := Nat.div_le_div_left h1 (Nat.mul_pos (Nat.mul_pos hP (by omega)) hv1)
  refine Nat.le_trans h2 ?_
  rw [← Nat.div_div_eq_div_mul]
  have h3 : U / (P * 18446744073709551616) = u2 * 18446744073709551616 + u1 := by
    have e : U = (U0 + P * u0) + P * 18446744073709551616 * (u2 * 18446744073709551616 + u1) := by
      rw [hU, Nat.mul_add, ← Nat.mul_assoc, Nat.mul_comm 18446744073709551616 u2, Nat.add_comm u1]
      omega
    have l : U0 + P * u0 < P * 18446744073709551616 := by
      have : P * u0 + P ≤ P * 18446744073709551616 := by
        have : P * (u0 + 1) ≤ P * 18446744073709551616 := Nat.mul_le_mul_left _ hu0
        rw [Nat.mul_add, Nat.mul_one] at this
        exact this
      omega
    rw [e, Nat.add_mul_div_left _ _ (Nat.mul_pos hP (by omega)), Nat.div_eq_of_lt l, Nat.zero_add]
  rw [h3]
  exact Nat.le_refl _

/-- where the second digit shows that a guess is too great -/
theorem guess_next {U V P u0 u1 u2 v1 U0 V0 v2 q rest : Nat} (hU : U = U0 + P * (u0 + 18446744073709551616 * (u1 + 18446744073709551616 * u2))) (hU0 : U0 < P)
    (hV : V = V0 + P * (v2 + 18446744073709551616 * v1)) (ht : q * v1 + rest = u2 * 18446744073709551616 + u1) (hq : U / V ≤ q) (hl : rest * 18446744073709551616 + u0 < q * v2) :
    U / V ≤ q - 1 := by
  rcases Nat.lt_or_ge (U / V) q with h | h
  · omega
  · exfalso
    have he : U / V = q := by omega
    have h1 : q * V ≤ U := by rw [← he]; exact Nat.div_mul_le_self _ _
    have h2 : q * (P * (v2 + 18446744073709551616 * v1)) ≤ q * V := Nat.mul_le_mul_left _ (by rw [hV]; omega)
    have h3 : q * (P * (v2 + 18446744073709551616 * v1)) = P * (q * v2 + 18446744073709551616 * (q * v1)) := by
      rw [Nat.mul_left_comm, Nat.mul_add, Nat.mul_left_comm q 18446744073709551616]
    have h4 : u0 + 18446744073709551616 * (u1 + 18446744073709551616 * u2) + 1 ≤ q * v2 + 18446744073709551616 * (q * v1) := by
      have e : u2 * 18446744073709551616 = 18446744073709551616 * u2 := Nat.mul_comm _ _
      omega
    have h5 : P * (u0 + 18446744073709551616 * (u1 + 18446744073709551616 * u2) + 1) ≤ P * (q * v2 + 18446744073709551616 * (q * v1)) := Nat.mul_le_mul_left _ h4
    rw [Nat.mul_add, Nat.mul_one] at h5
    omega

/-- the parts of a row from word j on, of which n + 1 count -/
theorem win_parts {os : List Nat} {j n : Nat} (hn : 2 ≤ n) (hl : j + n < os.length) (hc : Clear os (j + n + 1)) :
    val os / 18446744073709551616 ^ j = val os / 18446744073709551616 ^ j ∧ ∃ U0, val (os.drop j) = U0 + 18446744073709551616 ^ (n - 2) * (os.getD (j + (n - 2)) 0 + 18446744073709551616 * (os.getD (j + (n - 1)) 0 + 18446744073709551616 * os.getD (j + n) 0)) ∧ (W64 os → U0 < 18446744073709551616 ^ (n - 2)) := by
  refine ⟨rfl, val ((os.drop j).take (n - 2)), ?_, fun hw => ?_⟩
  · have h1 := val_take_drop (os.drop j) (k := n - 2) (by rw [List.length_drop]; omega)
    rw [h1]
    congr 2
    rw [List.drop_drop]
    have e3 : val (os.drop (j + n + 1)) = 0 := by
      have : ∀ ws : List Nat, (∀ k, ws.getD k 0 = 0) → val ws = 0 := by
        intro ws
        induction ws with
        | nil => intro _; rfl
        | cons a r ih =>
          intro h
          have h0 := h 0
          have ht := ih fun k => by have := h (k + 1); simpa using this
          simp only [List.getD_cons_zero] at h0
          simp [val, h0, ht]
      refine this _ fun k => ?_
      rw [List.getD_eq_getElem?_getD, List.getElem?_drop, ← List.getD_eq_getElem?_getD]
      exact hc _ (by omega)
    have st : ∀ i, i < os.length → val (os.drop i) = os.getD i 0 + 18446744073709551616 * val (os.drop (i + 1)) := by
      intro i hi
      rw [List.drop_eq_getElem_cons hi, val, List.getD_eq_getElem?_getD, List.getElem?_eq_getElem hi]
      rfl
    rw [st _ (by omega), show j + (n - 2) + 1 = j + (n - 1) by omega, st (j + (n - 1)) (by omega), show j + (n - 1) + 1 = j + n by omega, st (j + n) hl, e3, Nat.mul_zero, Nat.add_zero]
  · exact val_take_lt (hw.drop j) _
theorem drop_div {os : List Nat} (hw : W64 os) {j : Nat} (h : j ≤ os.length) : val (os.drop j) = val os / 18446744073709551616 ^ j := by
  have h1 := val_take_drop os h
  have h2 := val_take_lt hw j
  rw [h1, Nat.add_mul_div_left _ _ (Nat.pow_pos (by omega)), Nat.div_eq_of_lt h2, Nat.zero_add]
/-- a divisor's first digits -/
theorem div_parts {vs : List Nat} (hn : 2 ≤ vs.length) : ∃ V0, val vs = V0 + 18446744073709551616 ^ (vs.length - 2) * (vs.getD (vs.length - 2) 0 + 18446744073709551616 * vs.getD (vs.length - 1) 0) := by
  refine ⟨val (vs.take (vs.length - 2)), ?_⟩
  have h1 := val_take_drop vs (k := vs.length - 2) (by omega)
  rw [h1]
  congr 2
  have st : ∀ i, i < vs.length → val (vs.drop i) = vs.getD i 0 + 18446744073709551616 * val (vs.drop (i + 1)) := by
    intro i hi
    rw [List.drop_eq_getElem_cons hi, val, List.getD_eq_getElem?_getD, List.getElem?_eq_getElem hi]
    rfl
  rw [st _ (by omega), show vs.length - 2 + 1 = vs.length - 1 by omega, st (vs.length - 1) (by omega), show vs.length - 1 + 1 = vs.length by omega, List.drop_length]
  simp [val]

/-- taking q times V away: behind i digits -/
def SubSt (vs os : List Nat) (R q j i c b : Nat) : Prop := val os + q * (18446744073709551616 ^ j * val (vs.take i)) = R + (c + b) * 18446744073709551616 ^ (j + i)
theorem sub_start (vs os : List Nat) (q j : Nat) : SubSt vs os (val os) q j 0 0 0 := by simp [SubSt, val]
theorem sub_step {vs os : List Nat} {R q j i c b c' lo d b' : Nat} (h : SubSt vs os R q j i c b) (hi : i < vs.length) (hl : j + i < os.length)
    (hf : q * vs.getD i 0 + c = c' * 18446744073709551616 + lo) (hs : d + lo + b = os.getD (j + i) 0 + b' * 18446744073709551616) : SubSt vs (os.set (j + i) d) R q j (i + 1) c' b' := by
  unfold SubSt at *
  have hv := val_set (ws := os) (k := j + i) d hl
  rw [val_take_succ hi]
  obtain ⟨P, hP⟩ : ∃ P, 18446744073709551616 ^ (j + i) = P := ⟨_, rfl⟩
  have e1 : q * (18446744073709551616 ^ j * (val (vs.take i) + 18446744073709551616 ^ i * vs.getD i 0)) = q * (18446744073709551616 ^ j * val (vs.take i)) + P * (q * vs.getD i 0) := by
    rw [Nat.mul_add, Nat.mul_add, ← Nat.mul_assoc (18446744073709551616 ^ j), ← Nat.pow_add, hP, Nat.mul_left_comm q P]
  rw [e1, show j + (i + 1) = j + i + 1 by omega, Nat.pow_succ, hP]
  rw [hP] at h hv
  obtain ⟨Z, hZ⟩ : ∃ Z, q * (18446744073709551616 ^ j * val (vs.take i)) = Z := ⟨_, rfl⟩
  rw [hZ] at h ⊢
  obtain ⟨Y, hY⟩ : ∃ Y, q * vs.getD i 0 = Y := ⟨_, rfl⟩
  rw [hY] at hf ⊢
  have h1 : P * (d + lo + b) = P * (os.getD (j + i) 0 + b' * 18446744073709551616) := by rw [hs]
  have h2 : P * (Y + c) = P * (c' * 18446744073709551616 + lo) := by rw [hf]
  have e2 : (c' + b') * (P * 18446744073709551616) = P * (c' * 18446744073709551616) + P * (b' * 18446744073709551616) := by
    rw [Nat.add_mul, Nat.mul_left_comm c' P, Nat.mul_left_comm b' P]
  have e3 : (c + b) * P = P * c + P * b := by rw [Nat.mul_comm, Nat.mul_add]
  rw [e2]
  rw [e3] at h
  simp only [Nat.mul_add] at h1 h2
  omega
/-- the last digit, of which the carry is taken away -/
theorem sub_last {vs os : List Nat} {R q j n c b d b' : Nat} (h : SubSt vs os R q j n c b) (hn : n = vs.length) (hl : j + n < os.length)
    (hs : d + c + b = os.getD (j + n) 0 + b' * 18446744073709551616) : val (os.set (j + n) d) + q * (18446744073709551616 ^ j * val vs) = R + b' * 18446744073709551616 ^ (j + n + 1) := by
  unfold SubSt at h
  have hv := val_set (ws := os) (k := j + n) d hl
  rw [List.take_of_length_le (by omega)] at h
  obtain ⟨P, hP⟩ : ∃ P, 18446744073709551616 ^ (j + n) = P := ⟨_, rfl⟩
  rw [Nat.pow_succ, hP]
  rw [hP] at h hv
  have h1 : P * (d + c + b) = P * (os.getD (j + n) 0 + b' * 18446744073709551616) := by rw [hs]
  have e3 : (c + b) * P = P * c + P * b := by rw [Nat.mul_comm, Nat.mul_add]
  have e4 : b' * (P * 18446744073709551616) = P * (b' * 18446744073709551616) := Nat.mul_left_comm _ _ _
  rw [e4]
  rw [e3] at h
  simp only [Nat.mul_add] at h1
  omega
/-- adding the divisor back: behind i digits -/
def AddSt (vs os : List Nat) (S j i c : Nat) : Prop := val os + c * 18446744073709551616 ^ (j + i) = S + 18446744073709551616 ^ j * val (vs.take i)
theorem add_start (vs os : List Nat) (j : Nat) : AddSt vs os (val os) j 0 0 := by simp [AddSt, val]
theorem add_step {vs os : List Nat} {S j i c c' d : Nat} (h : AddSt vs os S j i c) (hi : i < vs.length) (hl : j + i < os.length)
    (hs : os.getD (j + i) 0 + vs.getD i 0 + c = c' * 18446744073709551616 + d) : AddSt vs (os.set (j + i) d) S j (i + 1) c' := by
  unfold AddSt at *
  have hv := val_set (ws := os) (k := j + i) d hl
  rw [val_take_succ hi]
  obtain ⟨P, hP⟩ : ∃ P, 18446744073709551616 ^ (j + i) = P := ⟨_, rfl⟩
  have e1 : 18446744073709551616 ^ j * (val (vs.take i) + 18446744073709551616 ^ i * vs.getD i 0) = 18446744073709551616 ^ j * val (vs.take i) + P * vs.getD i 0 := by
    rw [Nat.mul_add, ← Nat.mul_assoc (18446744073709551616 ^ j), ← Nat.pow_add, hP]
  rw [e1, show j + (i + 1) = j + i + 1 by omega, Nat.pow_succ, hP]
  rw [hP] at h hv
  have h1 : P * (os.getD (j + i) 0 + vs.getD i 0 + c) = P * (c' * 18446744073709551616 + d) := by rw [hs]
  have e2 : c' * (P * 18446744073709551616) = P * (c' * 18446744073709551616) := Nat.mul_left_comm _ _ _
  have e3 : c * P = P * c := Nat.mul_comm _ _
  rw [e2]
  rw [e3] at h
  simp only [Nat.mul_add] at h1
  omega
theorem add_last {vs os : List Nat} {S j n c c' d : Nat} (h : AddSt vs os S j n c) (hn : n = vs.length) (hl : j + n < os.length)
    (hs : os.getD (j + n) 0 + c = c' * 18446744073709551616 + d) : val (os.set (j + n) d) + c' * 18446744073709551616 ^ (j + n + 1) = S + 18446744073709551616 ^ j * val vs := by
  unfold AddSt at h
  have hv := val_set (ws := os) (k := j + n) d hl
  rw [List.take_of_length_le (by omega)] at h
  obtain ⟨P, hP⟩ : ∃ P, 18446744073709551616 ^ (j + n) = P := ⟨_, rfl⟩
  rw [Nat.pow_succ, hP]
  rw [hP] at h hv
  have h1 : P * (os.getD (j + n) 0 + c) = P * (c' * 18446744073709551616 + d) := by rw [hs]
  have e2 : c' * (P * 18446744073709551616) = P * (c' * 18446744073709551616) := Nat.mul_left_comm _ _ _
  have e3 : c * P = P * c := Nat.mul_comm _ _
  rw [e2]
  rw [e3] at h
  simp only [Nat.mul_add] at h1
  omega

/-- behind a taking away (b: a borrow is open): V is the divisor by its place -/
structure BackSt (os : List Nat) (R V K q b : Nat) : Prop where
  eq : val os + q * V = R + b * K
  lt : val os < K
  ge : R / V ≤ q
  b1 : b ≤ 1
theorem back_open {os : List Nat} {R V K q : Nat} (h : BackSt os R V K q 1) (hV : 0 < V) : R / V ≤ q - 1 ∧ 0 < q := by
  have h1 := h.eq
  have h2 := h.lt
  have h3 : R < q * V := by omega
  have h4 : R / V < q := (Nat.div_lt_iff_lt_mul hV).2 h3
  obtain ⟨e, he⟩ : ∃ e, R / V = e := ⟨_, rfl⟩
  rw [he] at h4 ⊢
  omega
theorem back_next {os os' : List Nat} {R V K q c : Nat} (h : BackSt os R V K q 1) (hV : 0 < V) (hl : val os' < K) (hc : c ≤ 1) (he : val os' + c * K = val os + V) : BackSt os' R V K (q - 1) (1 - c) := by
  obtain ⟨h1, h2⟩ := back_open h hV
  refine ⟨?_, hl, h1, by omega⟩
  have h3 := h.eq
  obtain ⟨p, rfl⟩ : ∃ p, q = p + 1 := ⟨q - 1, by omega⟩
  rw [Nat.add_sub_cancel]
  rw [Nat.add_mul] at h3
  have : (1 - c) * K + c * K = 1 * K := by rw [← Nat.add_mul]; congr 1; omega
  omega
theorem back_shut {os : List Nat} {R V K q : Nat} (h : BackSt os R V K q 0) (hV : 0 < V) : q = R / V ∧ val os = R % V := by
  have h1 := h.eq
  have h2 := h.ge
  have h3 : q ≤ R / V := (Nat.le_div_iff_mul_le hV).2 (by omega)
  have h4 : q = R / V := by omega
  refine ⟨h4, ?_⟩
  have h5 := Nat.div_add_mod R V
  rw [h4, Nat.mul_comm] at h1
  omega

/-- a block whose first words are these; whatever stands behind them -/
def BlkP (w : World) (g : Nat) (ws : List Nat) : Prop := ∃ cur : Array Value, w.heap[g]? = some (.cells cur 74 (0, 0)) ∧ ws.length ≤ cur.size ∧ ∀ j, j < ws.length → cur[j]? = some (.int .u64 (ws.getD j 0 : Nat))
theorem Blk.loose {w : World} {g : Nat} {ws : List Nat} (h : Blk w g ws) : BlkP w g ws := ⟨_, h, by simp [cellsW], fun _ hj => cellsW_get hj⟩
theorem BlkP.lt {w : World} {g : Nat} {ws : List Nat} (h : BlkP w g ws) : g < w.heap.size := by
  obtain ⟨cur, h, -⟩ := h
  rcases Nat.lt_or_ge g w.heap.size with hlt | hge
  · exact hlt
  · rw [Array.getElem?_eq_none hge] at h; cases h
theorem BlkP.cell {w : World} {g : Nat} {ws : List Nat} (h : BlkP w g ws) {j : Nat} (hj : j < ws.length) : w.cell? ⟨g, j, none⟩ = some (.int .u64 (ws.getD j 0 : Nat)) := by
  obtain ⟨cur, h, -, h2⟩ := h
  rw [cell_of_row w g j _ _ (0, 0) h]; exact h2 j hj
theorem BlkP.frozen {w : World} {g : Nat} {ws : List Nat} (h : BlkP w g ws) (j : Nat) : w.frozen? ⟨g, j, none⟩ = false := by
  obtain ⟨cur, h, -⟩ := h
  simp [World.frozen?, h]
theorem BlkP.set {w : World} {g : Nat} {ws : List Nat} (h : BlkP w g ws) (i x : Nat) : BlkP (w.setCell ⟨g, i, none⟩ (.int .u64 (x : Nat))) g (ws.set i x) := by
  obtain ⟨cur, h, h1, h2⟩ := h
  refine ⟨cur.setIfInBounds i (.int .u64 (x : Nat)), by simp [World.setCell, Array.getElem?_modify, h], by simpa using h1, fun j hj => ?_⟩
  rw [List.length_set] at hj
  rw [Array.getElem?_setIfInBounds, List.getD_eq_getElem?_getD, List.getElem?_set]
  by_cases e : i = j
  · subst e
    rw [if_pos rfl, if_pos rfl, if_pos hj, if_pos (by omega)]
    rfl
  · rw [if_neg e, if_neg e, ← List.getD_eq_getElem?_getD]
    exact h2 j hj
theorem BlkP.setI {w : World} {g k y : Nat} {ws : List Nat} {x : Int} (h : BlkP w g ws) (hx : x = (y : Int)) : BlkP (w.setCell ⟨g, k, none⟩ (.int .u64 x)) g (ws.set k y) := by
  rw [hx]; exact h.set k y
theorem BlkP.drewN {w : World} {g : Nat} {ws : List Nat} (h : BlkP w g ws) (n : Nat) : BlkP (w.drewN n) g ws := h
theorem BlkP.mag {w : World} {g c : Nat} {ws : List Nat} (h : BlkP w g ws) (hw : W64 ws) (hl : ws.length ≤ c) (hc : c ≤ 9223372036854775807) : Mag w (.slice (some ⟨g, 0, none⟩) ws.length c) ws :=
  ⟨_, _, rfl, hl, hc, hw, fun _ => ⟨g, 0, rfl, h.lt, fun j hj => by rw [Nat.zero_add]; exact h.cell hj⟩⟩
end Go.Proofs.YtbidlkmagbjllaaGreatDoor.Nb
