/- S2 RD5 in one text. -/
import Derived.Test.YtbidlkmagbjllaaGreatDoorP23
import Derived.Test.YtbidlkmagbjllaaGreatDoorP25
import Derived.Test.YtbidlkmagbjllaaGreatDoorP22
import Derived.Test.YtbidlkmagbjllaaGreatDoorP24

namespace Go.Proofs.YtbidlkmagbjllaaGreatDoor.Bg
open Go Go.RowKit

/-- the table lies in its variable -/
def Tab (w : World) : Prop := 9 < w.heap.size ∧ ∀ j, j < 32 → w.cell? ⟨9, j, none⟩ = some (.int .u8 (Lib.deBruijn32tab.getD j 0 : Nat))
theorem Tab.below {w w' : World} (h : Tab w) (hb : Below w.heap.size w w') : Tab w' :=
  ⟨Nat.lt_of_lt_of_le h.1 hb.size, fun j hj => (hb.cell (by exact h.1)).trans (h.2 j hj)⟩

theorem tz32_core (x k idx : Nat) (w : World) (hx0 : ((x : Int) == 0) = false) 
    (key : bits BinOp.and IntKind.u32 (x : Int) (-(x : Int) % 4294967296) * 125613361 % 4294967296 / 134217728 = (idx : Int))
    (hi : idx < 32) (hk : k < 32) (hcell : w.cell? ⟨9, idx, none⟩ = some (.int .u8 (k : Nat))) :
    Calls Tryz.prog 198 #[.int .u32 (x : Int)] w fun e w' => e = .returned (.int .i64 (k : Int)) ∧ w = w' := by
  go_enter Tryz.func198, Tryz.ntmps198
  go_wp2_with (simp only [key])
  go_ret
  exact ⟨rfl, rfl⟩
theorem tz_and {a b : Nat} (ha : a < 4294967296) (hb : b < 4294967296) : bits .and .u32 (a : Int) (b : Int) = ((a &&& b : Nat) : Int) := by
  rw [u32_and_nat _ _ (by omega) (by omega)]
theorem tz32_any (x : Nat) (w : World) (h0 : x ≠ 0) (h1 : x < 4294967296) (hT : Tab w) :
    Calls Tryz.prog 198 #[.int .u32 (x : Int)] w fun e w' => e = .returned (.int .i64 (Lib.ctz 32 x : Nat)) ∧ w = w' := by
  obtain ⟨hlow, hk⟩ := Lib.lowest_bit 32 x h0 h1
  obtain ⟨hi, htab⟩ := Lib.deBruijn32_at _ hk
  have hcell := hT.2 _ hi
  rw [htab] at hcell
  refine tz32_core x _ _ w (by simp; omega) ?_ hi hk hcell
  have e1 : -(x : Int) % 4294967296 = ((4294967296 - x : Nat) : Int) := by omega
  rw [e1, tz_and h1 (by omega), show x &&& (4294967296 - x) = 2 ^ Lib.ctz 32 x from hlow]
  generalize 2 ^ Lib.ctz 32 x = P
  omega

theorem len32_any (x : Nat) (w : World) (hx : x < 4294967296) : Calls Tryz.prog 113 #[.int .u32 (x : Int)] w fun e w' => e = .returned (.int .i64 (Lib.bitLen x : Nat)) ∧ w' = w := by
  have h := Tryz.bits_Len32 (x : Int) w (by omega) (by omega)
  rw [Int.toNat_natCast] at h
  exact h
theorem bitLen_le (x : Nat) (hx : x < 4294967296) : Lib.bitLen x ≤ 64 := by
  refine Lib.bitLenAux_le 64 x 64 ?_
  have h : (2 : Nat) ^ 64 = 18446744073709551616 := by decide
  omega
/-- BitLen: of a number above 0 -/
theorem bitlen_any (b off k c n L : Nat) (A : Option Addr) (w : World) (hc : w.cell? ⟨b, off + 1, none⟩ = some (.slice A k c)) (hm : MagN w (.slice A k c) n L) (hn : 0 < n) (hL : L ≤ 268435456) :
    Calls Tryz.prog 60 #[.pointer (some ⟨b, off, none⟩)] w fun e w' => ∃ l m : Nat, e = .returned (.int .i64 (l : Int)) ∧ BitsIs n l ∧ w' = w.drewN m := by
  obtain ⟨ws, h1, h2, h3, h4⟩ := hm
  have hk := h1.len
  have hk0 : ¬ k = 0 := by
    intro h0
    rw [h0] at hk
    rw [List.eq_nil_of_length_eq_zero hk.symm] at h3
    simp [val] at h3
    omega
  obtain ⟨j, rfl⟩ : ∃ j, k = j + 1 := ⟨k - 1, by omega⟩
  obtain ⟨b1, o1, ea, hb1, hc1⟩ := h1.at (j := j) (by omega)
  subst ea
  obtain ⟨x, hx⟩ : ∃ x, ws.getD j 0 = x := ⟨_, rfl⟩
  have wx := h1.w32.get j
  have hx0 : 0 < x := by
    rcases h2 with h2 | h2
    · rw [h2] at hk; simp at hk
    · have : ws.getLastD 0 = ws.getD j 0 := by rw [← getLastD_take (k := j) (by omega), List.take_of_length_le (by omega)]
      rw [this, hx] at h2
      omega
  rw [hx] at hc1 wx
  have HB := Lib.hid (bits_words h1.w32 hk.symm hx hx0)
  rw [h3] at HB
  have HLN := Lib.hid (fun W => len32_any x W wx)
  obtain ⟨l, hl⟩ : ∃ l, Lib.bitLen x = l := ⟨_, rfl⟩
  rw [hl] at HB HLN
  have hlb : (l : Int) ≤ 64 := by
    rw [← hl]
    have := bitLen_le x (by omega)
    omega
  have hjb : (j : Int) ≤ 268435456 := by omega
  have s1 : IntKind.i64.wrap ((j : Int) + 1 - 1) = (j : Int) := by rw [IntWalk.i64_in _ (by omega)]; omega
  have s2 : IntKind.i64.wrap (32 * (j : Int)) = 32 * (j : Int) := IntWalk.i64_in _ (by omega)
  have s3 : IntKind.i64.wrap (32 * (j : Int) + (l : Int)) = 32 * (j : Int) + (l : Int) := IntWalk.i64_in _ (by omega)
  have s4 : (j : Int) < (j : Int) + 1 := by omega
  have s5 : (0 : Int) ≤ (j : Int) := by omega
  clear h1 h2 h3 h4 hk hk0 hx hx0 hl wx hb1
  go_enter Tryz.func60, Tryz.ntmps60
  go_wp2_with fail
  go_quiet ((go_at_call 113; exact Calls.quiet_of_same (HLN.out _)))
  go_wp2_with fail
  go_ret
  exact ⟨32 * j + l, _, congrArg (fun z => Ending.returned (.int .i64 z)) (by omega), HB.out, rfl⟩

end Go.Proofs.YtbidlkmagbjllaaGreatDoor.Bg

namespace Go.Proofs.YtbidlkmagbjllaaGreatDoor.Bg
open Go Go.RowKit

theorem bit_word {ws : List Nat} (hw : W32 ws) {i q s x : Nat} (hi : i = 32 * q + s) (hs : s < 32) (hx : ws.getD q 0 = x) : x / 2 ^ s % 2 = val ws / 2 ^ i % 2 := by
  have e : (2 : Nat) ^ i = 4294967296 ^ q * 2 ^ s := by rw [two_words i, show i / 32 = q by omega, show i % 32 = s by omega]
  rw [e, ← Nat.div_div_eq_div_mul, val_div ws hw, val_drop_one ws q, hx]
  have h2 : (4294967296 : Nat) = 2 ^ s * (2 * 2 ^ (31 - s)) := by
    rw [← Nat.pow_succ', ← Nat.pow_add, show s + (31 - s + 1) = 32 by omega]
  conv => rhs; rw [h2]
  rw [Nat.mul_assoc, Nat.add_mul_div_left _ _ (Nat.two_pow_pos s), Nat.mul_assoc, Nat.add_mul_mod_self_left]
theorem and_one32 {x s : Nat} (hx : x < 4294967296) : bits .and .u32 ((x : Int) / 2 ^ s) 1 = ((x / 2 ^ s % 2 : Nat) : Int) := by
  have e : (x : Int) / 2 ^ s = ((x / 2 ^ s : Nat) : Int) := by rw [Int.natCast_ediv, Int.natCast_pow]; rfl
  have hl : x / 2 ^ s < 4294967296 := Nat.lt_of_le_of_lt (Nat.div_le_self _ _) hx
  rw [e, show (1 : Int) = ((1 : Nat) : Int) from rfl, u32_and_nat _ _ (by omega) (by omega), Nat.and_one_is_mod]

/-- Bit: of a number from 0 on -/
theorem bit_any (b off k c n L i : Nat) (A : Option Addr) (w : World) (h0 : w.cell? ⟨b, off, none⟩ = some (.bool false)) (h1 : w.cell? ⟨b, off + 1, none⟩ = some (.slice A k c)) (hm : MagN w (.slice A k c) n L) (hi : i ≤ 1099511627776) :
    Calls Tryz.prog 111 #[.pointer (some ⟨b, off, none⟩), .int .i64 (i : Int)] w fun e w' => e = .returned (.int .u64 ((n / 2 ^ i % 2 : Nat) : Int)) ∧ w = w' := by
  obtain ⟨ws, g1, g2, g3, g4⟩ := hm
  have hk := g1.len
  obtain ⟨q, hq⟩ : ∃ q, i / 32 = q := ⟨_, rfl⟩
  obtain ⟨s, hs⟩ : ∃ s, i % 32 = s := ⟨_, rfl⟩
  obtain ⟨x, hx⟩ : ∃ x, ws.getD q 0 = x := ⟨_, rfl⟩
  have hbw := bit_word g1.w32 (i := i) (q := q) (s := s) (by omega) (by omega) hx
  rw [g3] at hbw
  have hxw : x < 4294967296 := by rw [← hx]; exact g1.w32.get q
  have a1 : (i : Int) / 32 = (q : Int) := by omega
  have a2 : (i : Int) % 32 = (s : Int) := by omega
  have a3 : (s : Int) < 32 := by omega
  have hand := and_one32 (s := s) hxw
  rw [hbw] at hand
  have HR := Lib.hid hand
  obtain ⟨B, hB⟩ : ∃ B, n / 2 ^ i % 2 = B := ⟨_, rfl⟩
  have hB2 : B < 2 := by rw [← hB]; exact Nat.mod_lt _ (by omega)
  rw [hB] at hand hbw ⊢
  by_cases hlt : q < k
  · obtain ⟨b1, o1, ea, hb1, hc1⟩ := g1.at hlt
    subst ea
    rw [hx] at hc1
    have hqk : (q : Int) < (k : Int) := by omega
    clear g1 g2 g3 g4 hk hq hs hx hbw hB hb1 HR
    go_enter Tryz.func111, Tryz.ntmps111
    go_wp2_with fail
    go_ret
    exact ⟨rfl, rfl⟩
  · have hx0 : x = 0 := by rw [← hx, List.getD_eq_getElem?_getD, List.getElem?_eq_none (by omega)]; rfl
    have hB0 : B = 0 := by rw [← hbw, hx0]; simp
    subst hB0
    have hqk : ¬ (q : Int) < (k : Int) := by omega
    clear g1 g2 g3 g4 hk hq hs hx hbw hB hand HR
    go_enter Tryz.func111, Tryz.ntmps111
    go_wp2_with fail
    go_ret
    exact ⟨rfl, rfl⟩

/-- BitLen: of nought -/
theorem bitlen_zero (b off c : Nat) (A : Option Addr) (w : World) (h1 : w.cell? ⟨b, off + 1, none⟩ = some (.slice A 0 c)) :
    Calls Tryz.prog 60 #[.pointer (some ⟨b, off, none⟩)] w fun e w' => e = .returned (.int .i64 0) ∧ w = w' := by
  go_enter Tryz.func60, Tryz.ntmps60
  go_wp2_with fail
  go_ret
  exact ⟨rfl, rfl⟩

theorem pow_even {x y k : Nat} (h : y / 2 ^ k % 2 = 0) : x ^ (y / 2 ^ (k + 1)) * x ^ (y / 2 ^ (k + 1)) = x ^ (y / 2 ^ k) := by
  rw [← Nat.pow_add, Nat.pow_succ, ← Nat.div_div_eq_div_mul]
  congr 1
  omega
theorem pow_odd {x y k : Nat} (h : y / 2 ^ k % 2 = 1) : x ^ (y / 2 ^ (k + 1)) * x ^ (y / 2 ^ (k + 1)) * x = x ^ (y / 2 ^ k) := by
  rw [← Nat.pow_add, ← Nat.pow_succ]
  have e : y / 2 ^ (k + 1) = y / 2 ^ k / 2 := by rw [Nat.pow_succ, ← Nat.div_div_eq_div_mul]
  rw [e]
  congr 1
  omega
theorem pow_part {x y k L : Nat} (hx : 0 < x) (h : x ^ y < 4294967296 ^ L) : x ^ (y / 2 ^ k) < 4294967296 ^ L :=
  Nat.lt_of_le_of_lt (Nat.pow_le_pow_right hx (Nat.div_le_self _ _)) h

def ExpW (w wr : World) (v : Value) (x y k L : Nat) : Prop := MagN wr v (x ^ (y / 2 ^ k)) L ∧ Below w.heap.size w wr

theorem bitlen_how (b off k c n L : Nat) (A : Option Addr) (w : World) (hc : w.cell? ⟨b, off + 1, none⟩ = some (.slice A k c)) (hm : MagN w (.slice A k c) n L) (hL : L ≤ 268435456) :
    Calls Tryz.prog 60 #[.pointer (some ⟨b, off, none⟩)] w fun e w' => ∃ l m : Nat, e = .returned (.int .i64 (l : Int)) ∧ n < 2 ^ l ∧ (0 < n → BitsIs n l) ∧ l ≤ 32 * L ∧ w' = w.drewN m := by
  have hle : ∀ l, BitsIs n l → l ≤ 32 * L := fun l hl => by
    obtain ⟨ws, h1, -, h3, h4⟩ := hm
    have h5 := val_lt h1.w32
    have h6 : 4294967296 ^ ws.length ≤ 4294967296 ^ L := Nat.pow_le_pow_right (by omega) h4
    have h7 : (4294967296 : Nat) ^ L = 2 ^ (32 * L) := by rw [Nat.pow_mul]
    have h8 : 2 ^ (l - 1) < 2 ^ (32 * L) := by have := hl.2.1; omega
    have := (Nat.pow_lt_pow_iff_right (a := 2) (by omega)).1 h8
    omega
  rcases Nat.eq_zero_or_pos n with h0 | h0
  · have hk : k = 0 := Classical.byContradiction fun hk => hm.len.2.1 hk h0
    subst hk
    exact (bitlen_zero b off c A w hc).mono fun e w' ⟨a, b⟩ => ⟨0, 0, a, by omega, fun h => by omega, by omega, b.symm⟩
  · exact (bitlen_any b off k c n L A w hc hm h0 hL).mono fun e w' ⟨l, m, a, b, c⟩ => ⟨l, m, a, b.2.2, fun _ => b, hle l b, c⟩

set_option maxRecDepth 8000 in
set_option maxHeartbeats 2000000 in
/-- Exp: x to the power y, both from 0 on, x not 0 -/
theorem Exp_any (z p q : Addr) (x y L : Nat) (w : World) (hz : Slot w z) (hp : IntAt w p (x : Int) L) (hq : IntAt w q (y : Int) 2) (hx : 0 < x) (hb : x ^ y < 4294967296 ^ L) (hL : L ≤ 134217728) (hL1 : 1 ≤ L) :
    Calls Tryz.prog 57 #[.pointer (some z), .pointer (some p), .pointer (some q), .pointer none] w (Gives w z ((x ^ y : Nat) : Int) L) := by
  obtain ⟨b1, o1, s1, A1, k1, c1, m, rfl, hb1, h3, h4, h5, h6, h7⟩ := hp.open
  obtain ⟨b2, o2, s2, A2, k2, c2, n, rfl, hb2, g3, g4, g5, g6, g7⟩ := hq.open
  have e2 : s2 = false := by cases s2 with | false => rfl | true => simp at g6 g7; omega
  subst e2
  have e1 : s1 = false := by cases s1 with | false => rfl | true => simp at h6 h7; omega
  subst e1
  obtain rfl : m = x := by simp at h6; omega
  obtain rfl : n = y := by simp at g6; omega
  have H5 := Lib.hid h5
  have G5 := Lib.hid g5
  have HZ := Lib.hid hz
  have HP := Lib.hid (And.intro hx hb)
  have HC := Lib.hid (And.intro (And.intro h3 h4) (And.intro g3 g4))
  obtain ⟨P, hP⟩ : ∃ P, m ^ n = P := ⟨_, rfl⟩
  have HPP := Lib.hid hP
  rw [hP]
  clear h5 g5 hz hp hq h6 h7 g6 g7 hx hb h3 h4 g3 g4 hP
  go_enter Tryz.func57, Tryz.ntmps57
  have hcell : ∀ W, Below w.heap.size w W → W.cell? ⟨b1, o1, none⟩ = some (.bool false) ∧ W.cell? ⟨b1, o1 + 1, none⟩ = some (.slice A1 k1 c1) ∧ W.cell? ⟨b2, o2, none⟩ = some (.bool false) ∧ W.cell? ⟨b2, o2 + 1, none⟩ = some (.slice A2 k2 c2) := fun W hW =>
    ⟨(hW.cell hb1).trans HC.out.1.1, (hW.cell hb1).trans HC.out.1.2, (hW.cell hb2).trans HC.out.2.1, (hW.cell hb2).trans HC.out.2.2⟩
  have HCE := Lib.hid hcell
  clear hcell
  have hB0 : Hid (Below w.heap.size w (w.alloc (.cells #[.int .u32 1] 88))) := Lib.hid ((Below.refl _ _).alloc (Nat.le_refl _) _)
  have hU := Lib.hid (MagN.unit w 88)
  have HBL := Lib.hid (bitlen_how b2 o2 k2 c2 n 2 A2 _ (HCE.out _ hB0.out).2.2.2 (G5.out.below hB0.out) (by omega))
  go_wp2_with fail
  refine HBL.out.mono ?_
  rintro e w1 ⟨l, dr, rfl, hl, -, hl64, rfl⟩
  have H0 : Hid (ExpW w ((w.alloc (.cells #[.int .u32 1] 88)).drewN dr) (.slice (some ⟨w.heap.size, 0, none⟩) 1 1) m n l L) := Lib.hid ⟨by
    have := (hU.out.more hL1)
    rw [Nat.div_eq_of_lt hl, Nat.pow_zero]; exact this, below_dN hB0.out dr⟩
  have hli : (l : Int) ≤ 64 := by omega
  clear hl hl64 hU HBL
  go_wp2_with fail
  go_loopw [9, 10] (fun v i wr => ∃ k : Nat, k ≤ l ∧ i = .int .i64 ((k : Int) - 1) ∧ Hid (ExpW w wr v m n k L)) (fun _ i _ => (intOf i + 1).toNat)
  case atStart => exact ⟨l, Nat.le_refl _, rfl, H0⟩
  case round =>
    obtain ⟨k, hk, rfl, hh⟩ := hrel
    by_cases k0 : k = 0
    · subst k0
      obtain ⟨d1, d2, d3, d4⟩ := HCE.out _ hh.out.2
      have hm9 := hh.out.1
      rw [Nat.pow_zero, Nat.div_one, HPP.out] at hm9
      have HF := Lib.hid hm9
      obtain ⟨A9, k9, c9, rfl, -, -⟩ := hm9.slice
      clear hm9
      go_wp2_with fail
      refine (put_pos z _ P L _ _ (HZ.out.below hh.out.2) HF.out rfl).mono ?_
      rintro e w2 hg
      have HG := Lib.hid (hg.of_below hh.out.2)
      obtain ⟨rfl, -⟩ := id hg
      clear hg
      go_wp2_with fail
      go_ret
      exact HG.out
    · obtain ⟨j, rfl⟩ : ∃ j, k = j + 1 := ⟨k - 1, by omega⟩
      rw [show (((j + 1 : Nat) : Int) - 1) = (j : Int) by omega]
      have HT := Lib.hid (times_mag _ _ _ _ L L wr hh.out.1 hh.out.1 (by omega) (by omega))
      go_wp2_with fail
      refine HT.out.mono ?_
      rintro e w2 ⟨v2, rfl, hm2, hb2'⟩
      have HB2 : Hid (Below w.heap.size w w2) := Lib.hid (hh.out.2.trans (hb2'.mono hh.out.2.size))
      have HM2 := Lib.hid hm2
      obtain ⟨d1, d2, d3, d4⟩ := HCE.out _ HB2.out
      have HBI := Lib.hid (bit_any b2 o2 k2 c2 n 2 j A2 w2 d3 d4 (G5.out.below HB2.out) (by omega))
      obtain ⟨bb, hbb⟩ : ∃ bb, n / 2 ^ j % 2 = bb := ⟨_, rfl⟩
      rw [hbb] at HBI
      have HBB := Lib.hid hbb
      have hb2 : bb < 2 := by rw [← hbb]; exact Nat.mod_lt _ (by omega)
      clear hbb hm2 hb2' HT
      go_wp2_with fail
      refine HBI.out.mono ?_
      rintro e w3 ⟨rfl, rfl⟩
      rcases (by omega : bb = 0 ∨ bb = 1) with rfl | rfl
      · have HX : Hid (ExpW w w2 v2 m n j L) := Lib.hid ⟨by
          have := HM2.out
          rw [pow_even HBB.out] at this
          exact this.less (pow_part HP.out.1 HP.out.2), HB2.out⟩
        clear HBI
        go_wp2_with fail
        go_roundw
        case rel => exact ⟨j, by omega, rfl, HX⟩
        case measure => simp [intOf]
      · have HT2 := Lib.hid (times_mag v2 _ _ m (L + L) L w2 HM2.out (H5.out.below HB2.out) (by omega) (by omega))
        clear HBI
        go_wp2_with fail
        refine HT2.out.mono ?_
        rintro e w3 ⟨v3, rfl, hm3, hb3⟩
        have HX : Hid (ExpW w w3 v3 m n j L) := Lib.hid ⟨by
          have := hm3
          rw [pow_odd HBB.out] at this
          exact this.less (pow_part HP.out.1 HP.out.2), HB2.out.trans (hb3.mono HB2.out.size)⟩
        clear hm3 hb3 HT2
        go_wp2_with fail
        go_roundw
        case rel => exact ⟨j, by omega, rfl, HX⟩
        case measure => simp [intOf]
end Go.Proofs.YtbidlkmagbjllaaGreatDoor.Bg
