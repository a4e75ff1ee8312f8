/- Contracts of the reference's whole numbers, with the library's table of trailing zeros as its initialiser lays it: TrailingZeroBits, BitLen, one, common. -/
import Derived.Test.YtiohemofidphjaaDoorR5
import Derived.Test.YtiohemofidphjaaDoorS1
import Derived.Test.YtiohemofidphjaaDoorQ16
namespace Go.Proofs.YtiohemofidphjaaDoor.Bg
open Go Go.RowKit

/-- the table lies in its variable -/
def Tab (w : World) : Prop := 2 < w.heap.size ∧ ∀ j, j < 32 → w.cell? ⟨2, j, none⟩ = some (.int .u8 (Lib.deBruijn32tab.getD j 0 : Nat))
theorem Tab.below {w w' : World} (h : Tab w) (hb : Below w.heap.size w w') : Tab w' :=
  ⟨Nat.lt_of_lt_of_le h.1 hb.size, fun j hj => (hb.cell (by exact h.1)).trans (h.2 j hj)⟩

theorem tz32_core (x k idx : Nat) (w : World) (hx0 : ((x : Int) == 0) = false) 
    (key : bits BinOp.and IntKind.u32 (x : Int) (-(x : Int) % 4294967296) * 125613361 % 4294967296 / 134217728 = (idx : Int))
    (hi : idx < 32) (hk : k < 32) (hcell : w.cell? ⟨2, idx, none⟩ = some (.int .u8 (k : Nat))) :
    Calls Tryd.prog 73 #[.int .u32 (x : Int)] w fun e w' => e = .returned (.int .i64 (k : Int)) ∧ w = w' := by
  go_enter Tryd.func73, Tryd.ntmps73
  go_wp2_with (simp only [key])
  go_ret
  exact ⟨rfl, rfl⟩
theorem tz_and {a b : Nat} (ha : a < 4294967296) (hb : b < 4294967296) : bits .and .u32 (a : Int) (b : Int) = ((a &&& b : Nat) : Int) := by
  rw [u32_and_nat _ _ (by omega) (by omega)]
theorem tz32_any (x : Nat) (w : World) (h0 : x ≠ 0) (h1 : x < 4294967296) (hT : Tab w) :
    Calls Tryd.prog 73 #[.int .u32 (x : Int)] w fun e w' => e = .returned (.int .i64 (Lib.ctz 32 x : Nat)) ∧ w = w' := by
  obtain ⟨hlow, hk⟩ := Lib.lowest_bit 32 x h0 h1
  obtain ⟨hi, htab⟩ := Lib.deBruijn32_at _ hk
  have hcell := hT.2 _ hi
  rw [htab] at hcell
  refine tz32_core x _ _ w (by simp; omega) ?_ hi hk hcell
  have e1 : -(x : Int) % 4294967296 = ((4294967296 - x : Nat) : Int) := by omega
  rw [e1, tz_and h1 (by omega), show x &&& (4294967296 - x) = 2 ^ Lib.ctz 32 x from hlow]
  generalize 2 ^ Lib.ctz 32 x = P
  omega

/-- TrailingZeroBits: of a number above 0 -/
theorem tzb_any (b off k c n L : Nat) (A : Option Addr) (w : World) (hc : w.cell? ⟨b, off + 1, none⟩ = some (.slice A k c)) (hm : MagN w (.slice A k c) n L) (hn : 0 < n) (hL : L ≤ 268435456) (hT : Tab w) :
    Calls Tryd.prog 63 #[.pointer (some ⟨b, off, none⟩)] w fun e w' => ∃ t : Nat, e = .returned (.int .u64 (t : Int)) ∧ TzIs n t ∧ t ≤ 32 * L ∧ w = w' := by
  obtain ⟨ws, h1, h2, h3, h4⟩ := hm
  have hk := h1.len
  have HM := Lib.hid h1
  have HV := Lib.hid (And.intro hk h3)
  have HTT := Lib.hid hT
  have hkL : k ≤ 268435456 := by omega
  have hkL2 : k ≤ L := by omega
  clear h1 h2 hk hT
  go_enter Tryd.func63, Tryd.ntmps63
  go_wp2_with fail
  go_loop [3] (fun i => ∃ j : Nat, j ≤ k ∧ i = .int .i64 (j : Int) ∧ Hid (∀ m, m < j → ws.getD m 0 = 0)) (fun i => k - (intOf i).toNat)
  case atStart => exact ⟨0, Nat.zero_le _, rfl, Lib.hid (fun m hm => by omega)⟩
  case round =>
    obtain ⟨j, hj, rfl, hz⟩ := hrel
    by_cases hlt : j < k
    · obtain ⟨b1, o1, ea, hb1, hc1⟩ := HM.out.at hlt
      subst ea
      obtain ⟨x, hx⟩ : ∃ x, ws.getD j 0 = x := ⟨_, rfl⟩
      have wx := HM.out.w32.get j
      rw [hx] at hc1 wx
      have HX := Lib.hid hx
      clear hx
      by_cases hx0 : x = 0
      · subst hx0
        go_wp2_with fail
        go_round
        case rel => exact ⟨j + 1, by omega, by go_num, Lib.hid (fun m hm => by
          rcases Nat.lt_or_ge m j with h | h
          · exact hz.out m h
          · rw [show m = j by omega]; exact HX.out)⟩
        case measure => simp [intOf]; omega
      · have hxi : ¬ (x : Int) = 0 := by omega
        have hci := ctz_is hx0 wx
        have hct := hci.2
        have HCI := Lib.hid hci.1
        have HC := Lib.hid (fun W hW => tz32_any x W hx0 wx hW)
        obtain ⟨t, ht⟩ : ∃ t, Lib.ctz 32 x = t := ⟨_, rfl⟩
        rw [ht] at HC HCI hct
        clear hci ht
        go_wp2_with (go_at_call 73; refine (HC.out _ HTT.out).mono ?_; rintro e w' ⟨rfl, rfl⟩)
        go_ret
        exact ⟨32 * j + t, congrArg (fun z => Ending.returned (.int .u64 z)) (by omega), by rw [← HV.out.2]; exact tz_words hz.out HX.out hx0 HCI.out hct, by omega, rfl⟩
    · exfalso
      have hjk : j = k := by omega
      subst hjk
      have := take_zero hz.out
      rw [List.take_of_length_le (by have := HV.out.1; omega)] at this
      omega

theorem len32_any (x : Nat) (w : World) (hx : x < 4294967296) : Calls Tryd.prog 74 #[.int .u32 (x : Int)] w fun e w' => e = .returned (.int .i64 (Lib.bitLen x : Nat)) ∧ w' = w := by
  have h := Tryd.bits_Len32 (x : Int) w (by omega) (by omega)
  rw [Int.toNat_natCast] at h
  exact h
theorem bitLen_le (x : Nat) (hx : x < 4294967296) : Lib.bitLen x ≤ 64 := by
  refine Lib.bitLenAux_le 64 x 64 ?_
  have h : (2 : Nat) ^ 64 = 18446744073709551616 := by decide
  omega
/-- BitLen: of a number above 0 -/
theorem bitlen_any (b off k c n L : Nat) (A : Option Addr) (w : World) (hc : w.cell? ⟨b, off + 1, none⟩ = some (.slice A k c)) (hm : MagN w (.slice A k c) n L) (hn : 0 < n) (hL : L ≤ 268435456) :
    Calls Tryd.prog 65 #[.pointer (some ⟨b, off, none⟩)] w fun e w' => ∃ l m : Nat, e = .returned (.int .i64 (l : Int)) ∧ BitsIs n l ∧ w' = w.drewN m := by
  obtain ⟨ws, h1, h2, h3, h4⟩ := hm
  have hk := h1.len
  have hk0 : ¬ k = 0 := by
    intro h0
    rw [h0] at hk
    rw [List.eq_nil_of_length_eq_zero hk.symm] at h3
    simp [val] at h3
    omega
  obtain ⟨j, rfl⟩ : ∃ j, k = j + 1 := ⟨k - 1, by omega⟩
  obtain ⟨b1, o1, ea, hb1, hc1⟩ := h1.at (j := j) (by omega)
  subst ea
  obtain ⟨x, hx⟩ : ∃ x, ws.getD j 0 = x := ⟨_, rfl⟩
  have wx := h1.w32.get j
  have hx0 : 0 < x := by
    rcases h2 with h2 | h2
    · rw [h2] at hk; simp at hk
    · have : ws.getLastD 0 = ws.getD j 0 := by rw [← getLastD_take (k := j) (by omega), List.take_of_length_le (by omega)]
      rw [this, hx] at h2
      omega
  rw [hx] at hc1 wx
  have HB := Lib.hid (bits_words h1.w32 hk.symm hx hx0)
  rw [h3] at HB
  have HLN := Lib.hid (fun W => len32_any x W wx)
  obtain ⟨l, hl⟩ : ∃ l, Lib.bitLen x = l := ⟨_, rfl⟩
  rw [hl] at HB HLN
  have hlb : (l : Int) ≤ 64 := by
    rw [← hl]
    have := bitLen_le x (by omega)
    omega
  have hjb : (j : Int) ≤ 268435456 := by omega
  have s1 : IntKind.i64.wrap ((j : Int) + 1 - 1) = (j : Int) := by rw [IntWalk.i64_in _ (by omega)]; omega
  have s2 : IntKind.i64.wrap (32 * (j : Int)) = 32 * (j : Int) := IntWalk.i64_in _ (by omega)
  have s3 : IntKind.i64.wrap (32 * (j : Int) + (l : Int)) = 32 * (j : Int) + (l : Int) := IntWalk.i64_in _ (by omega)
  have s4 : (j : Int) < (j : Int) + 1 := by omega
  have s5 : (0 : Int) ≤ (j : Int) := by omega
  clear h1 h2 h3 h4 hk hk0 hx hx0 hl wx hb1
  go_enter Tryd.func65, Tryd.ntmps65
  go_wp2_with fail
  go_quiet ((go_at_call 74; exact Calls.quiet_of_same (HLN.out _)))
  go_wp2_with fail
  go_ret
  exact ⟨32 * j + l, _, congrArg (fun z => Ending.returned (.int .i64 z)) (by omega), HB.out, rfl⟩

/-- one: a new 1 -/
theorem one_any (w : World) : Calls Tryd.prog 61 #[] w fun e w' => ∃ A k c, e = .returned (.slice A k c) ∧ k = 1 ∧ MagN w' (.slice A k c) 1 1 ∧ Below w.heap.size w w' := by
  have HM := Lib.hid (MagN.unit w 73)
  go_enter Tryd.func61, Tryd.ntmps61
  go_wp2_with fail
  go_ret
  exact ⟨_, _, _, rfl, rfl, HM.out, (Below.refl _ _).alloc (Nat.le_refl _) _⟩
end Go.Proofs.YtiohemofidphjaaDoor.Bg
