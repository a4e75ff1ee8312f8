/- Contracts of the reference's shifts: left, right. Conditions: lengths of at most 2 to the 29th words. -/
import Derived.Test.YtiohemofidphjaaDoorR1
namespace Go.Proofs.YtiohemofidphjaaDoor.Bg
open Go Go.RowKit

theorem or_high_u32 {o c s : Nat} (ho : o < 2 ^ s) (hc : 2 ^ s * c + 2 ^ s ≤ 4294967296) : bits .or .u32 (o : Int) ((2 ^ s * c : Nat) : Int) = ((o + 2 ^ s * c : Nat) : Int) := by
  rw [u32_or_nat _ _ (by omega) (by omega)]
  rw [Nat.mul_comm, Nat.or_comm, show c * 2 ^ s = c <<< s by rw [Nat.shiftLeft_eq], ← Nat.shiftLeft_add_eq_or_of_lt ho, Nat.shiftLeft_eq, Nat.mul_comm, Nat.add_comm]

def LeftW (w : World) (g n : Nat) (m : List Nat) (q s i : Nat) (wr : World) : Prop :=
  ∃ os, Blk wr g os ∧ os.length = n ∧ W32 os ∧ LeftSt m q s os i ∧ Below g w wr

set_option maxHeartbeats 2000000 in
theorem left_core (A : Option Addr) (M ca q s N : Nat) (m : List Nat) (w : World) (hm : Mag w (.slice A M ca) m) (hl : q + M ≤ 536870912) (hs : s < 32) (hN : N = 32 * q + s) (hM : 0 < M) :
    Calls Tryd.prog 69 #[.slice A M ca, .int .u64 (N : Int)] w fun e w' => ∃ k os, e = .returned (.slice (some ⟨w.heap.size, 0, none⟩) k (q + M + 1)) ∧ Blk w' w.heap.size os ∧ W32 os ∧ os.length = q + M + 1 ∧
      val os = val m * (4294967296 ^ q * 2 ^ s) ∧ MagN w' (.slice (some ⟨w.heap.size, 0, none⟩) k (q + M + 1)) (val os) (q + M + 1) ∧ Below w.heap.size w w' := by
  have hla := hm.len
  have HA := Lib.hid hm
  have HL := Lib.hid hla
  have hmk := run_make_row' (P := Tryd.prog) 66 73 (.int .u32 0) 4 Tryd.underlying66 infoW rfl .i64 .i64 (q + M + 1) (by omega) (by omega)
  have e1 : (N : Int) / 32 = (q : Int) := by omega
  have e2 : (N : Int) % 32 = (s : Int) := by omega
  have hN1 : (N : Int) ≤ 18446744073709551615 := by omega
  have hM0 : ¬ M = 0 := by omega
  have hqs : ((q + M + 1 : Nat) : Int) = (q : Int) + (M : Int) + 1 := by omega
  rw [hqs] at hmk
  clear hm hla hN hqs
  go_enter Tryd.func69, Tryd.ntmps69
  go_wp2_with fail
  clear hmk
  have H0 := Lib.hid (show LeftW w w.heap.size (q + M + 1) m q s 0 (w.alloc (.cells (madeCells #[.int .u32 0] (q + M + 1)) 73)) from ⟨_, Blk.made w (q + M + 1), by simp, W32.rep _, left_start _ _ _ _, (Below.refl _ _).alloc (Nat.le_refl _) _⟩)
  go_loopw [8] (fun i wr => ∃ k : Nat, k ≤ M ∧ i = .int .i64 k ∧ Hid (LeftW w w.heap.size (q + M + 1) m q s k wr)) (fun i _ => M - (intOf i).toNat)
  case atStart => exact ⟨0, Nat.zero_le _, rfl, H0⟩
  case round =>
    obtain ⟨k, hk, rfl, hp⟩ := hrel
    by_cases hlt : k < M
    · obtain ⟨os, hbk, hlen, hw, hst, hbel⟩ := hp.out
      have HO := Lib.hid (And.intro hbk (And.intro hlen (And.intro hw (And.intro hst hbel))))
      have hfr : wr.frozen? ⟨w.heap.size, q + k, none⟩ = false := hbk.frozen _
      have hfr2 : wr.frozen? ⟨w.heap.size, q + k + 1, none⟩ = false := hbk.frozen _
      obtain ⟨o, ho⟩ : ∃ o, os.getD (q + k) 0 = o := ⟨_, rfl⟩
      have hco : wr.cell? ⟨w.heap.size, q + k, none⟩ = some (.int .u32 (o : Nat)) := by rw [← ho]; exact hbk.cell (by omega)
      have hz := hst.2.2 (q + k + 1) (by omega)
      have hco2 : wr.cell? ⟨w.heap.size, q + k + 1, none⟩ = some (.int .u32 (0 : Nat)) := by rw [← hz]; exact hbk.cell (by omega)
      have hos := hst.2.1
      rw [ho] at hos
      obtain ⟨b1, o1, ea, hb1, hc1⟩ := HA.out.at hlt
      subst ea
      have hx := (hbel.cell (p := ⟨b1, o1 + k, none⟩) hb1).trans hc1
      obtain ⟨x, ex⟩ : ∃ x, m.getD k 0 = x := ⟨_, rfl⟩
      have wx := HA.out.w32.get k
      rw [ex] at hx wx
      obtain ⟨t1, t2, t3, c, t4, t5⟩ := left_word wx hs
      obtain ⟨t, ht⟩ : ∃ t, x * 2 ^ s = t := ⟨_, rfl⟩
      rw [ht] at t1 t2 t3 t4
      have hwr : IntKind.u64.wrap ((x : Int) * 2 ^ s) = (t : Int) := by
        rw [show ((x : Int) * 2 ^ s) = ((x * 2 ^ s : Nat) : Int) by rw [Int.natCast_mul, Int.natCast_pow]; rfl, ht]
        exact IntWalk.u64_in _ ⟨by omega, by omega⟩
      have hor := or_high_u32 hos t5
      rw [← t4, show ((t % 4294967296 : Nat) : Int) = (t : Int) % 4294967296 by omega] at hor
      have hbd : o + t % 4294967296 < 4294967296 := by omega
      have EX := Lib.hid (And.intro ex (And.intro ht ho))
      have T := Lib.hid (And.intro t1 (And.intro t2 (And.intro t3 hbd)))
      clear hbk hlen hw hst hbel hc1 ex ho hb1 hz ht t1 t2 t3 t4 t5 hos hbd
      go_wp2_with fail
      go_roundw
      case rel => exact ⟨k + 1, by omega, by go_num, _, blk_end (y := t / 4294967296) (blk_end (y := o + t % 4294967296) HO.out.1 (by omega)) (by have := T.out.2.2.1; omega), by rw [List.length_set, List.length_set]; exact HO.out.2.1, (HO.out.2.2.1.set T.out.2.2.2).set T.out.2.2.1,
        left_step HO.out.2.2.2.1 hs HA.out.w32 (by rw [EX.out.1]; exact EX.out.2.1) EX.out.2.2 (by have := HO.out.2.1; omega), (HO.out.2.2.2.2.setCell (p := ⟨w.heap.size, q + k, none⟩) (Nat.le_refl _) _).setCell (p := ⟨w.heap.size, q + k + 1, none⟩) (Nat.le_refl _) _⟩
      case measure => simp [intOf]; omega
    · obtain rfl : k = M := by omega
      obtain ⟨os, hbk, hlen, hw, hst, hbel⟩ := hp.out
      have HO := Lib.hid (And.intro hbk (And.intro hlen (And.intro hw (And.intro hst hbel))))
      clear hbk hlen hw hst hbel
      go_wp2_with fail
      have hms := HO.out.1.mag HO.out.2.2.1 (by rw [HO.out.2.1]; omega)
      rw [HO.out.2.1] at hms
      refine (cut_any _ _ _ hms).mono ?_
      rintro e w2 ⟨A2, k2, c2, hA2, rfl, hm2, rfl⟩
      injection hA2 with a1 a2 a3
      subst a1
      subst a3
      clear a2
      rw [HO.out.2.1] at hm2
      have HF := Lib.hid hm2
      clear hm2 hms
      go_wp2_with fail
      go_ret
      exact ⟨_, os, rfl, HO.out.1, HO.out.2.2.1, HO.out.2.1, left_end HO.out.2.2.2.1 HL.out.symm, HF.out, HO.out.2.2.2.2⟩

theorem or_low {x y : Nat} (hx : x < 4294967296) (hy : y < 4294967296) : bits .or .u64 (x : Int) ((y : Int) * 4294967296) = ((x + 4294967296 * y : Nat) : Int) := by
  have e : ((y : Int) * 4294967296) = ((y * 4294967296 : Nat) : Int) := by omega
  rw [e, u64_or_nat x _ (by omega) (by omega)]
  rw [Nat.or_comm, show y * 4294967296 = y <<< 32 by rw [Nat.shiftLeft_eq], ← Nat.shiftLeft_add_eq_or_of_lt (by omega : x < 2 ^ 32), Nat.shiftLeft_eq]
  omega

theorem sh_cast (t s : Nat) : (t : Int) / 2 ^ s % 4294967296 = ((t / 2 ^ s % 4294967296 : Nat) : Int) := by
  rw [Int.natCast_emod, Int.natCast_ediv, Int.natCast_pow]; rfl
def RightW (w : World) (g n : Nat) (X i : Nat) (wr : World) : Prop :=
  ∃ os, Blk wr g os ∧ os.length = n ∧ W32 os ∧ DigSt X os i ∧ Below g w wr

theorem MagN.zero0 (w : World) (L : Nat) : MagN w (.slice none 0 0) 0 L := ⟨[], Mag.nil w none 0 (by omega), Or.inl rfl, rfl, Nat.zero_le _⟩
theorem right_big (A : Option Addr) (M ca q s N : Nat) (w : World) (hN : N = 32 * q + s) (hs : s < 32) (hq : M ≤ q) (hN2 : N ≤ 9223372036854775807) :
    Calls Tryd.prog 64 #[.slice A M ca, .int .u64 (N : Int)] w fun e w' => e = .returned (.slice none 0 0) ∧ w = w' := by
  have e1 : (N : Int) / 32 = (q : Int) := by omega
  have e2 : (N : Int) % 32 = (s : Int) := by omega
  have hqM : (M : Int) ≤ (q : Int) := by omega
  clear hN
  go_enter Tryd.func64, Tryd.ntmps64
  go_wp2_with fail
  go_ret
  exact ⟨rfl, rfl⟩

set_option maxHeartbeats 2000000 in
theorem right_core (A : Option Addr) (M ca q s N : Nat) (m : List Nat) (w : World) (hm : Mag w (.slice A M ca) m) (hl : M ≤ 536870912) (hs : s < 32) (hN : N = 32 * q + s) (hq : q < M) :
    Calls Tryd.prog 64 #[.slice A M ca, .int .u64 (N : Int)] w fun e w' => ∃ v, e = .returned v ∧ MagN w' v (val m / (4294967296 ^ q * 2 ^ s)) (M - q) ∧ Below w.heap.size w w' := by
  have hla := hm.len
  have HA := Lib.hid hm
  have HL := Lib.hid hla
  obtain ⟨n, hn⟩ : ∃ n, M - q = n := ⟨_, rfl⟩
  have hmk := run_make_row' (P := Tryd.prog) 66 73 (.int .u32 0) 4 Tryd.underlying66 infoW rfl .i64 .i64 n (by omega) (by omega)
  have e1 : (N : Int) / 32 = (q : Int) := by omega
  have e2 : (N : Int) % 32 = (s : Int) := by omega
  have hN1 : (N : Int) ≤ 18446744073709551615 := by omega
  have hqM : (q : Int) < (M : Int) := by omega
  have hX : val m / (4294967296 ^ q * 2 ^ s) < 4294967296 ^ n := by
    rw [← hn, hla]; exact right_lt hm.w32 (by omega)
  have hdig := fun k => right_digit (m := m) hm.w32 (q := q) (k := k) hs
  obtain ⟨X, hXe⟩ : ∃ X, val m / (4294967296 ^ q * 2 ^ s) = X := ⟨_, rfl⟩
  rw [hXe] at hX hdig
  rw [hXe, hn]
  have HX := Lib.hid hX
  have HD := Lib.hid hdig
  have hnM : (M : Int) - (q : Int) = (n : Int) := by omega
  have HNM := Lib.hid hn
  clear hm hla hN hX hdig hXe hn
  go_enter Tryd.func64, Tryd.ntmps64
  go_wp2_with fail
  clear hmk
  have H0 := Lib.hid (show RightW w w.heap.size n X 0 (w.alloc (.cells (madeCells #[.int .u32 0] n) 73)) from ⟨_, Blk.made w n, by simp, W32.rep _, dig_start _ _, (Below.refl _ _).alloc (Nat.le_refl _) _⟩)
  go_loopw [8] (fun i wr => ∃ k : Nat, k ≤ n ∧ i = .int .i64 k ∧ Hid (RightW w w.heap.size n X k wr)) (fun i _ => n - (intOf i).toNat)
  case atStart => exact ⟨0, Nat.zero_le _, rfl, H0⟩
  case round =>
    obtain ⟨k, hk, rfl, hp⟩ := hrel
    by_cases hlt : k < n
    · obtain ⟨os, hbk, hlen, hw, hst, hbel⟩ := hp.out
      have HO := Lib.hid (And.intro hbk (And.intro hlen (And.intro hw (And.intro hst hbel))))
      have hfr : wr.frozen? ⟨w.heap.size, k, none⟩ = false := hbk.frozen _
      obtain ⟨o, ho⟩ : ∃ o, os.getD k 0 = o := ⟨_, rfl⟩
      have hco : wr.cell? ⟨w.heap.size, k, none⟩ = some (.int .u32 (o : Nat)) := by rw [← ho]; exact hbk.cell (by omega)
      obtain ⟨b1, o1, ea, hb1, hc1⟩ := HA.out.at (j := q + k) (by have := HNM.out; omega)
      subst ea
      have hx := (hbel.cell (p := ⟨b1, o1 + (q + k), none⟩) hb1).trans hc1
      obtain ⟨x, ex⟩ : ∃ x, m.getD (q + k) 0 = x := ⟨_, rfl⟩
      have wx := HA.out.w32.get (q + k)
      rw [ex] at hx wx
      have hd := HD.out k
      rw [ex] at hd
      have hqk : ((q : Int) + (k : Int)).toNat = q + k := by omega
      by_cases hlt2 : q + k + 1 < M
      · obtain ⟨b2, o2, eb, hb2, hc2⟩ := HA.out.at (j := q + k + 1) hlt2
        injection eb with eb
        injection eb with eb1 eb2 _
        subst eb1 eb2
        have hy := (hbel.cell (p := ⟨b1, o1 + (q + k + 1), none⟩) hb1).trans hc2
        obtain ⟨y, ey⟩ : ∃ y, m.getD (q + k + 1) 0 = y := ⟨_, rfl⟩
        have wy := HA.out.w32.get (q + k + 1)
        rw [ey] at hy wy hd
        obtain ⟨t, ht⟩ : ∃ t, x + 4294967296 * y = t := ⟨_, rfl⟩
        rw [ht] at hd
        have hor := or_low wx wy
        rw [ht] at hor
        have htb : t ≤ 18446744073709551615 := by omega
        have hi2 : (q : Int) + (k : Int) + 1 < (M : Int) := by omega
        have HDD := Lib.hid hd
        clear hbk hlen hw hst hbel hc1 ex ho hb1 hc2 ey ht hd hb2
        go_wp2_with fail
        go_roundw
        case rel => exact ⟨k + 1, by omega, by go_num, _, blk_end (y := t / 2 ^ s % 4294967296) HO.out.1 (sh_cast t s), by rw [List.length_set]; exact HO.out.2.1, HO.out.2.2.1.set (Nat.mod_lt _ (by omega)), dig_step HO.out.2.2.2.1 (by have := HO.out.2.1; omega) HDD.out, HO.out.2.2.2.2.setCell (p := ⟨w.heap.size, k, none⟩) (Nat.le_refl _) _⟩
        case measure => simp [intOf]; omega
      · have hy0 : m.getD (q + k + 1) 0 = 0 := by rw [List.getD_eq_getElem?_getD, List.getElem?_eq_none (by have := HL.out; omega)]; rfl
        rw [hy0, Nat.mul_zero, Nat.add_zero] at hd
        have htb : x ≤ 18446744073709551615 := by omega
        have hi2 : ¬ (q : Int) + (k : Int) + 1 < (M : Int) := by omega
        have HDD := Lib.hid hd
        clear hbk hlen hw hst hbel hc1 ex ho hb1 hd hy0
        go_wp2_with fail
        go_roundw
        case rel => exact ⟨k + 1, by omega, by go_num, _, blk_end (y := x / 2 ^ s % 4294967296) HO.out.1 (sh_cast x s), by rw [List.length_set]; exact HO.out.2.1, HO.out.2.2.1.set (Nat.mod_lt _ (by omega)), dig_step HO.out.2.2.2.1 (by have := HO.out.2.1; omega) HDD.out, HO.out.2.2.2.2.setCell (p := ⟨w.heap.size, k, none⟩) (Nat.le_refl _) _⟩
        case measure => simp [intOf]; omega
    · obtain rfl : k = n := by omega
      obtain ⟨os, hbk, hlen, hw, hst, hbel⟩ := hp.out
      have HO := Lib.hid (And.intro hbk (And.intro hlen (And.intro hw (And.intro hst hbel))))
      clear hbk hlen hw hst hbel
      go_wp2_with fail
      have hms := HO.out.1.mag HO.out.2.2.1 (by rw [HO.out.2.1]; omega)
      rw [HO.out.2.1] at hms
      refine (cut_any _ _ _ hms).mono ?_
      rintro e w2 ⟨A2, k2, c2, -, rfl, hm2, rfl⟩
      rw [dig_end HO.out.2.2.2.1 HO.out.2.1 HX.out, HO.out.2.1] at hm2
      have HF := Lib.hid hm2
      clear hm2 hms
      go_wp2_with fail
      go_ret
      exact ⟨_, rfl, HF.out, HO.out.2.2.2.2⟩

/-- right: a magnitude over 2 to the N-th, rounded down -/
theorem right_any (v : Value) (X N L : Nat) (w : World) (h : MagN w v X L) (hL : L ≤ 536870912) (hN : N ≤ 9223372036854775807) :
    Calls Tryd.prog 64 #[v, .int .u64 (N : Int)] w fun e w' => ∃ v', e = .returned v' ∧ MagN w' v' (X / 2 ^ N) L ∧ Below w.heap.size w w' := by
  obtain ⟨ws, h1, h2, rfl, h4⟩ := h
  have h1' := h1
  have hw := h1.w32
  obtain ⟨A, c, rfl, -⟩ := h1
  have e : (2 : Nat) ^ N = 4294967296 ^ (N / 32) * 2 ^ (N % 32) := by
    rw [show (4294967296 : Nat) = 2 ^ 32 by decide, ← Nat.pow_mul, ← Nat.pow_add]
    congr 1
    omega
  rw [e]
  rcases Nat.lt_or_ge (N / 32) ws.length with hq | hq
  · exact (right_core A ws.length c (N / 32) (N % 32) N ws w h1' (by omega) (by omega) (by omega) hq).mono fun e w' ⟨x, a, b, d⟩ => ⟨x, a, b.more (by omega), d⟩
  · refine (right_big A ws.length c (N / 32) (N % 32) N w (by omega) (by omega) hq hN).mono fun e w' ⟨a, b⟩ => ?_
    subst b
    rw [right_zero hw hq]
    exact ⟨_, a, MagN.zero0 _ _, Below.refl _ _⟩
end Go.Proofs.YtiohemofidphjaaDoor.Bg
