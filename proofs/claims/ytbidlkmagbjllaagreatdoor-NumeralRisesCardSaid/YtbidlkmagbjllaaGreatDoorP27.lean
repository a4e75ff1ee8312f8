/- RD6 BK2 BK3 BK4 in one text. -/
import Derived.Test.YtbidlkmagbjllaaGreatDoorP26
import Derived.Test.YtbidlkmagbjllaaGreatDoorP11
import Derived.Test.YtbidlkmagbjllaaGreatDoorP19
import Derived.Test.YtbidlkmagbjllaaGreatDoorP05

namespace Go.Proofs.YtbidlkmagbjllaaGreatDoor.Bg
open Go Go.RowKit

theorem ten_words {j k : Nat} (h : j ≤ k) : 10 ^ j < 4294967296 ^ (k + 1) := by
  have h1 : 10 ^ j ≤ 4294967296 ^ j := Nat.pow_le_pow_left (by omega) _
  have h2 : 4294967296 ^ j ≤ 4294967296 ^ k := Nat.pow_le_pow_right (by omega) h
  have h3 : 0 < 4294967296 ^ k := Nat.pow_pos (by omega)
  rw [Nat.pow_succ]
  omega
theorem MagN.single (w : World) (x : Nat) (h0 : 0 < x) (hx : x < 4294967296) (t : TypeId) : MagN (w.alloc (.cells #[.int .u32 (x : Nat)] t)) (.slice (some ⟨w.heap.size, 0, none⟩) 1 1) x 1 :=
  ⟨[x], Mag.single w x hx t, Or.inr (by simp; omega), by simp [val], by simp⟩
def DigW (w wr : World) (s : ByteArray) (v : Value) (j : Nat) : Prop := MagN wr v (Nb.decN (s.data.toList.take j)) (s.size + 1) ∧ Below w.heap.size w wr

set_option maxRecDepth 8000 in
set_option maxHeartbeats 4000000 in
/-- SetString: a text of digits -/
theorem SetString_any (z : Addr) (s : ByteArray) (w : World) (hz : Slot w z) (h0 : 0 < s.size) (hs : s.size ≤ 1000000) (hd : ∀ b ∈ s.data.toList, 48 ≤ b.toNat ∧ b.toNat ≤ 57) :
    Calls Tryz.prog 12 #[.pointer (some z), .string s, .int .i64 10] w fun e w' => e = .returned (.tuple #[.pointer (some z), .bool true]) ∧ Wrote w w' z ∧ IntAt w' z (Nb.decN s.data.toList : Int) (s.size + 1) := by
  have HD := Lib.hid hd
  have HZ := Lib.hid hz
  have HDL : Hid (∀ j, j ≤ s.size → Nb.decN (s.data.toList.take j) < 4294967296 ^ (s.size + 1)) := Lib.hid (fun j hj => by
    have h1 := Nb.decN_lt (s.data.toList.take j) (fun b hb => hd b (List.mem_of_mem_take hb))
    have h2 : (s.data.toList.take j).length = j := by simp; omega
    rw [h2] at h1
    exact Nat.lt_trans h1 (ten_words hj))
  have hb := hd s[0] (by simp [ByteArray.getElem_eq_getElem_data])
  have hne1 : ((s[0].toNat : Int) == 45) = false := by simp; omega
  have hne2 : ((s[0].toNat : Int) == 43) = false := by simp; omega
  have hne3 : ¬ (s[0].toNat : Int) = 45 := by omega
  have hne4 : ¬ (s[0].toNat : Int) = 43 := by omega
  have h0i : (0 : Int) < (s.size : Int) := by omega
  have hsz : ¬ (s.size : Int) = 0 := by omega
  have hsi : (s.size : Int) ≤ 1000000 := by omega
  clear hd hz hb
  go_enter Tryz.func12, Tryz.ntmps12
  go_wp2_with fail
  clear hne1 hne2 hne3 hne4
  go_loopw [9, 10] (fun v i wr => ∃ (j : Nat) (A : Option Addr) (k c : Nat), j ≤ s.size ∧ i = .int .i64 (j : Int) ∧ v = .slice A k c ∧ Hid (DigW w wr s (.slice A k c) j)) (fun _ i _ => s.size - (intOf i).toNat)
  case atStart => exact ⟨0, none, 0, 0, Nat.zero_le _, rfl, rfl, Lib.hid ⟨by simp only [List.take_zero]; exact MagN.zero0 _ _, Below.refl _ _⟩⟩
  case round =>
    obtain ⟨j, A, k, c, hj, rfl, rfl, hh⟩ := hrel
    by_cases hlt : j < s.size
    · have hji : (j : Int) < (s.size : Int) := by omega
      go_wp2_with fail
      go_loopw [10, 11, 12, 13] (fun i n t kk wq => ∃ (a nn tt : Nat), a ≤ 9 ∧ j + a ≤ s.size ∧ i = .int .i64 ((j + a : Nat) : Int) ∧ n = .int .u32 (nn : Int) ∧ t = .int .u32 (tt : Int) ∧ kk = .int .i64 (a : Int) ∧ nn < tt ∧ tt ≤ 1000000000 ∧ Hid (10 ^ a = tt ∧ Nb.decN (s.data.toList.take (j + a)) = Nb.decN (s.data.toList.take j) * tt + nn) ∧ wq = wr) (fun _ _ _ kk _ => 9 - (intOf kk).toNat)
      case atStart => exact ⟨0, 0, 1, by omega, by omega, rfl, rfl, rfl, rfl, by omega, by omega, Lib.hid ⟨rfl, by rw [Nat.add_zero]; omega⟩, rfl⟩
      case round =>
        obtain ⟨a, nn, tt, ha9, hja, rfl, rfl, rfl, rfl, hnt, htt, hq, rfl⟩ := hrel
        by_cases hgo : a < 9 ∧ j + a < s.size
        · obtain ⟨g1, g2⟩ := hgo
          have hbd := HD.out s[j + a] (by simp [ByteArray.getElem_eq_getElem_data])
          have hb0 : (48 : Int) ≤ (s[j + a].toNat : Int) := by omega
          have hb1 : (s[j + a].toNat : Int) ≤ 57 := by omega
          have g1i : (a : Int) < 9 := by omega
          have g2i : ((j + a : Nat) : Int) < (s.size : Int) := by omega
          have HX : Hid (10 ^ (a + 1) = tt * 10 ∧ Nb.decN (s.data.toList.take (j + a + 1)) = Nb.decN (s.data.toList.take j) * (tt * 10) + (10 * nn + (s[j + a].toNat - 48))) := Lib.hid ⟨by rw [Nat.pow_succ, hq.out.1], by
            rw [Nb.take_snoc s (j + a) g2, Nb.decN_snoc, hq.out.2, Nat.add_mul, Nat.mul_assoc]; omega⟩
          have ht9 : tt ≤ 100000000 := by
            rw [← hq.out.1]
            exact Nat.pow_le_pow_right (n := 10) (by omega) (show a ≤ 8 by omega)
          go_wp2_with fail
          go_roundw
          case rel => exact ⟨a + 1, 10 * nn + (s[j + a].toNat - 48), tt * 10, by omega, by omega, by go_num, int_eq (by omega), int_eq (by omega), by go_num, by omega, by omega, HX, trivial⟩
          case measure => simp [intOf]; omega
        · have ht0 : 0 < tt := by omega
          have HM1 := Lib.hid (fun (W : World) (hW : Below wr.heap.size wr W) => times_mag _ _ _ tt (s.size + 1) 1 _ (hh.out.1.below (hW.alloc hW.size (.cells #[.int .u32 (tt : Nat)] 88))) (MagN.single W tt ht0 (by omega) 88) (by omega) (by omega))
          have HB := Lib.hid hh.out.2
          have ha0 : 0 < a := Classical.byContradiction fun h => hgo ⟨by omega, by omega⟩
          by_cases g1 : a < 9
          · have g2 : ¬ j + a < s.size := fun h => hgo ⟨g1, h⟩
            have g1i : (a : Int) < 9 := by omega
            have g2i : ¬ ((j + a : Nat) : Int) < (s.size : Int) := by omega
            clear hgo
            go_wp2_with fail
            refine (HM1.out _ (Below.refl _ _)).mono ?_
            rintro e w2 ⟨v2, rfl, hm2, hb2⟩
            have HM2 := Lib.hid hm2
            have HB2 : Hid (Below w.heap.size w w2) := Lib.hid (HB.out.trans ((((Below.refl _ _).alloc (Nat.le_refl _) _).trans (hb2.mono (by simp))).mono HB.out.size))
            clear hm2 hb2 HM1
            go_wp2_with fail
            refine (cut_any _ _ _ (Mag.single w2 nn (by omega) 88)).mono ?_
            rintro e w3 ⟨A3, k3, c3, -, rfl, hm3, rfl⟩
            have HM3 := Lib.hid (show MagN _ _ nn 1 from (show val [nn] = nn from by simp [val]) ▸ hm3)
            clear hm3
            go_wp2_with fail
            refine (plus_any v2 _ _ nn (s.size + 1 + 1) _ (HM2.out.below ((Below.refl _ _).alloc (Nat.le_refl _) _)) (HM3.out.more (by omega)) (by omega)).mono ?_
            rintro e w4 ⟨v4, rfl, hm4, hb4⟩
            obtain ⟨A4, k4, c4, rfl, -, -⟩ := hm4.slice
            have HX : Hid (DigW w w4 s (.slice A4 k4 c4) (j + a)) := Lib.hid ⟨by
              have h9 := hm4
              rw [← hq.out.2] at h9
              exact h9.less (HDL.out _ hja), (HB2.out.alloc HB2.out.size _).trans (hb4.mono (by have := HB2.out.size; simp; omega))⟩
            clear hm4 hb4
            go_wp2_with fail
            go_roundw
            case rel => exact ⟨j + a, A4, k4, c4, hja, rfl, rfl, HX⟩
            case measure => simp [intOf]; omega
          · have g1i : ¬ (a : Int) < 9 := by omega
            clear hgo
            go_wp2_with fail
            refine (HM1.out _ (Below.refl _ _)).mono ?_
            rintro e w2 ⟨v2, rfl, hm2, hb2⟩
            have HM2 := Lib.hid hm2
            have HB2 : Hid (Below w.heap.size w w2) := Lib.hid (HB.out.trans ((((Below.refl _ _).alloc (Nat.le_refl _) _).trans (hb2.mono (by simp))).mono HB.out.size))
            clear hm2 hb2 HM1
            go_wp2_with fail
            refine (cut_any _ _ _ (Mag.single w2 nn (by omega) 88)).mono ?_
            rintro e w3 ⟨A3, k3, c3, -, rfl, hm3, rfl⟩
            have HM3 := Lib.hid (show MagN _ _ nn 1 from (show val [nn] = nn from by simp [val]) ▸ hm3)
            clear hm3
            go_wp2_with fail
            refine (plus_any v2 _ _ nn (s.size + 1 + 1) _ (HM2.out.below ((Below.refl _ _).alloc (Nat.le_refl _) _)) (HM3.out.more (by omega)) (by omega)).mono ?_
            rintro e w4 ⟨v4, rfl, hm4, hb4⟩
            obtain ⟨A4, k4, c4, rfl, -, -⟩ := hm4.slice
            have HX : Hid (DigW w w4 s (.slice A4 k4 c4) (j + a)) := Lib.hid ⟨by
              have h9 := hm4
              rw [← hq.out.2] at h9
              exact h9.less (HDL.out _ hja), (HB2.out.alloc HB2.out.size _).trans (hb4.mono (by have := HB2.out.size; simp; omega))⟩
            clear hm4 hb4
            go_wp2_with fail
            go_roundw
            case rel => exact ⟨j + a, A4, k4, c4, hja, rfl, rfl, HX⟩
            case measure => simp [intOf]; omega
    · obtain rfl : j = s.size := by omega
      have hm9 := hh.out.1
      rw [List.take_of_length_le (by simp)] at hm9
      have HF := Lib.hid hm9
      have HB := Lib.hid hh.out.2
      clear hm9
      go_wp2_with fail
      refine (put_pos z _ (Nb.decN s.data.toList) (s.size + 1) _ _ (HZ.out.below HB.out) HF.out rfl).mono ?_
      rintro e w2 hg
      have HG := Lib.hid (hg.of_below HB.out)
      obtain ⟨rfl, -⟩ := id hg
      clear hg
      go_wp2_with fail
      go_ret2
      exact ⟨rfl, HG.out.2.1, HG.out.2.2⟩
end Go.Proofs.YtbidlkmagbjllaaGreatDoor.Bg

namespace Go.Proofs.YtbidlkmagbjllaaGreatDoor.Nb
open Go Go.RowKit

/-- a row os in block g, of which n + 1 digits from j on are divided by the n digits vs -/
structure KnIn (w : World) (g j n : Nat) (os vs : List Nat) (V : Option Addr) (cv : Nat) : Prop where
  blk : BlkP w g os
  wo : W64 os
  mag : Mag w (.slice V n cv) vs
  n2 : 2 ≤ n
  lt : j + n < os.length
  cl : Clear os (j + n + 1)
  dv : val os < val vs * 18446744073709551616 ^ (j + 1)
  v1 : 0 < vs.getD (n - 1) 0
  lo : os.length ≤ 1099511627776
/-- the digits that a guess looks at -/
structure KnDig (U V n x0 x1 x2 y1 y2 : Nat) : Prop where
  w : x0 < 18446744073709551616 ∧ x1 < 18446744073709551616 ∧ x2 < 18446744073709551616 ∧ y1 < 18446744073709551616 ∧ y2 < 18446744073709551616
  y0 : 0 < y1
  dv : U / V < 18446744073709551616
  top : x2 < y1 → U / V ≤ (x2 * 18446744073709551616 + x1) / y1
  next : ∀ q rest, q * y1 + rest = x2 * 18446744073709551616 + x1 → U / V ≤ q → rest * 18446744073709551616 + x0 < q * y2 → U / V ≤ q - 1
theorem KnIn.dig {w : World} {g j n : Nat} {os vs : List Nat} {V : Option Addr} {cv : Nat} (h : KnIn w g j n os vs V cv) :
    KnDig (val os / 18446744073709551616 ^ j) (val vs) n (os.getD (j + (n - 2)) 0) (os.getD (j + (n - 1)) 0) (os.getD (j + n) 0) (vs.getD (n - 1) 0) (vs.getD (n - 2) 0) := by
  have hn := h.mag.lenN
  obtain ⟨-, U0, hU, hU0⟩ := win_parts h.n2 h.lt h.cl
  have hU0 := hU0 h.wo
  obtain ⟨V0, hV⟩ := div_parts (vs := vs) (by have := h.n2; omega)
  rw [← hn] at hV
  rw [drop_div h.wo (by have := h.lt; omega)] at hU
  refine ⟨⟨h.wo.get _, h.wo.get _, h.wo.get _, h.mag.w32.get _, h.mag.w32.get _⟩, h.v1, ?_, fun _ => guess_first hU hU0 (h.wo.get _) hV h.v1, fun q rest e l d => guess_next hU hU0 hV e l d⟩
  rw [Nat.div_div_eq_div_mul]
  refine (Nat.div_lt_iff_lt_mul ?_).2 ?_
  · refine Nat.mul_pos (Nat.pow_pos (by omega)) ?_
    have := h.dv
    rcases Nat.eq_zero_or_pos (val vs) with h0 | h0
    · rw [h0] at this; omega
    · exact h0
  · have := h.dv
    rw [Nat.pow_succ] at this
    rw [Nat.mul_comm (18446744073709551616 ^ j), ← Nat.mul_assoc, Nat.mul_comm 18446744073709551616, Nat.mul_assoc, Nat.mul_comm 18446744073709551616]
    exact this

theorem mul_parts {q y p : Nat} (hq : q < 18446744073709551616) (hy : y < 18446744073709551616) (hp : q * y = p) : p / 18446744073709551616 < 18446744073709551616 := by
  have : q * y ≤ 18446744073709551615 * 18446744073709551615 := Nat.mul_le_mul (by omega) (by omega)
  omega

set_option maxRecDepth 8000 in
set_option maxHeartbeats 4000000 in
theorem guess_any (g j n cu : Nat) (os vs : List Nat) (V : Option Addr) (cv : Nat) (w : World) (h : KnIn w g j n os vs V cv) :
    Calls Tryz.prog 195 #[.slice (some ⟨g, j, none⟩) (n + 1) cu, .slice V n cv] w fun e w' => ∃ q : Nat, e = .returned (.int .u64 (q : Int)) ∧ (q < 18446744073709551616 ∧ val os / 18446744073709551616 ^ j / val vs ≤ q) ∧ ∃ k, w' = w.drewN k := by
  have hd := h.dig
  have hc2 := h.blk.cell (j := j + n) h.lt
  have hc1 := h.blk.cell (j := j + (n - 1)) (by have := h.lt; omega)
  have hc0 := h.blk.cell (j := j + (n - 2)) (by have := h.lt; omega)
  have hn := h.n2
  obtain ⟨b, o, rfl, hb, hv1⟩ := h.mag.at (j := n - 1) (by omega)
  obtain ⟨b', o', e', hb', hv2⟩ := h.mag.at (j := n - 2) (by omega)
  injection e' with e'
  injection e' with e1 e2 _
  subst e1 e2
  clear hb hb'
  have hnl : (n : Int) ≤ 1099511627776 := by have := h.lt; have := h.lo; omega
  clear h
  obtain ⟨U, hU⟩ : ∃ U, val os / 18446744073709551616 ^ j = U := ⟨_, rfl⟩
  obtain ⟨Z, hZ⟩ : ∃ Z, val vs = Z := ⟨_, rfl⟩
  obtain ⟨x0, h0⟩ : ∃ x, os.getD (j + (n - 2)) 0 = x := ⟨_, rfl⟩
  obtain ⟨x1, h1⟩ : ∃ x, os.getD (j + (n - 1)) 0 = x := ⟨_, rfl⟩
  obtain ⟨x2, h2⟩ : ∃ x, os.getD (j + n) 0 = x := ⟨_, rfl⟩
  obtain ⟨y1, h3⟩ : ∃ x, vs.getD (n - 1) 0 = x := ⟨_, rfl⟩
  obtain ⟨y2, h4⟩ : ∃ x, vs.getD (n - 2) 0 = x := ⟨_, rfl⟩
  rw [hU, hZ, h0, h1, h2, h3, h4] at hd
  rw [hU, hZ]
  rw [h2] at hc2
  rw [h1] at hc1
  rw [h0] at hc0
  rw [h3] at hv1
  rw [h4] at hv2
  clear hU hZ h0 h1 h2 h3 h4
  have HD := Lib.hid hd
  obtain ⟨⟨l0, l1, l2, l3, l4⟩, hy0, hdv, -, -⟩ := hd
  have HL := Lib.hid (And.intro l0 (And.intro l1 (And.intro l2 (And.intro l3 l4))))
  have i1 : (0 : Int) ≤ (n : Int) - 1 := by omega
  have i2 : (0 : Int) ≤ (n : Int) - 2 := by omega
  have i3 : (n : Int) - 1 < (n : Int) + 1 := by omega
  have i4 : (n : Int) - 2 < (n : Int) + 1 := by omega
  have i5 : (n : Int) - 1 < (n : Int) := by omega
  have i6 : (n : Int) - 2 < (n : Int) := by omega
  have t1 : ((n : Int) - 1).toNat = n - 1 := by omega
  have t2 : ((n : Int) - 2).toNat = n - 2 := by omega
  have HDV := Lib.hid hdv
  clear l0 l1 l2 l4 hdv
  by_cases c : y1 ≤ x2
  · go_enter Tryz.func195, Tryz.ntmps195
    go_wp2_with fail
    go_quiet (fail)
    go_wp2_with fail
    go_ret
    exact ⟨18446744073709551615, rfl, ⟨by omega, by have := HDV.out; omega⟩, _, rfl⟩
  · have hx : x2 < y1 := by omega
    have c' : ¬ (y1 : Int) ≤ (x2 : Int) := by omega
    have HR := Lib.hid (fun W => div_run x2 x1 y1 W hx l3 HL.out.2.1)
    obtain ⟨q0, hq0⟩ : ∃ q0, (x2 * 18446744073709551616 + x1) / y1 = q0 := ⟨_, rfl⟩
    obtain ⟨r0, hr0⟩ : ∃ r0, (x2 * 18446744073709551616 + x1) % y1 = r0 := ⟨_, rfl⟩
    have HI : Hid (q0 * y1 + r0 = x2 * 18446744073709551616 + x1 ∧ r0 < 18446744073709551616 ∧ U / Z ≤ q0 ∧ q0 < 18446744073709551616) := Lib.hid (by
      have e := Nat.div_add_mod (x2 * 18446744073709551616 + x1) y1
      rw [hq0, hr0, Nat.mul_comm] at e
      have hm := Nat.mod_lt (x2 * 18446744073709551616 + x1) hy0
      refine ⟨e, by omega, by rw [← hq0]; exact HD.out.top hx, ?_⟩
      rw [← hq0]
      refine (Nat.div_lt_iff_lt_mul hy0).2 ?_
      have := HL.out.2.1
      have h9 : (x2 + 1) * 18446744073709551616 ≤ y1 * 18446744073709551616 := Nat.mul_le_mul_right _ hx
      omega)
    rw [hq0, hr0] at HR
    clear hq0 hr0 hx c
    go_enter Tryz.func195, Tryz.ntmps195
    go_wp2_with fail
    go_quiet (fail)
    go_wp2_with fail
    go_quiet ((go_at_call 194; exact quiet_more (HR.out _)))
    go_wp2_with fail
    rename_i hz
    clear c' hz
    go_loopw [6, 7] (fun qv rv wr => ∃ (q rest : Nat), qv = .int .u64 (q : Int) ∧ rv = .int .u64 (rest : Int) ∧ Hid (q * y1 + rest = x2 * 18446744073709551616 + x1 ∧ rest < 18446744073709551616 ∧ U / Z ≤ q ∧ q < 18446744073709551616) ∧ ∃ k, wr = w.drewN k) (fun qv _ _ => (intOf qv).toNat)
    case atStart => exact ⟨q0, r0, rfl, rfl, HI, _, World.drewN_drewN _ _ _⟩
    case round =>
      clear HI HR
      obtain ⟨q, rest, rfl, rfl, hh, k, rfl⟩ := hrel
      have hql := hh.out.2.2.2
      have hrl := hh.out.2.1
      have HM := Lib.hid (fun W => Tryz.bits_Mul64 q y2 hql HL.out.2.2.2.2 W)
      obtain ⟨p, hp⟩ : ∃ p, q * y2 = p := ⟨_, rfl⟩
      have hpb := mul_parts hql HL.out.2.2.2.2 hp
      rw [hp] at HM
      obtain ⟨hi, hhi⟩ : ∃ x, p / 18446744073709551616 = x := ⟨_, rfl⟩
      obtain ⟨lo, hlo⟩ : ∃ x, p % 18446744073709551616 = x := ⟨_, rfl⟩
      rw [hhi, hlo] at HM
      rw [hhi] at hpb
      have HP := Lib.hid (And.intro hp (And.intro hhi hlo))
      have hx0 := HL.out.1
      clear hp hhi hlo
      by_cases c1 : hi < rest
      · have g1 : (hi : Int) < (rest : Int) := by omega
        go_wp2_with fail
        refine (HM.out _).mono ?_
        rintro e w9 ⟨rfl, rfl⟩
        go_wp2_with fail
        go_ret
        exact ⟨q, rfl, ⟨hql, hh.out.2.2.1⟩, k, rfl⟩
      by_cases c2 : hi = rest ∧ lo ≤ x0
      · obtain ⟨rfl, c3⟩ := c2
        have g1 : (lo : Int) ≤ (x0 : Int) := by omega
        clear c1
        go_wp2_with fail
        refine (HM.out _).mono ?_
        rintro e w9 ⟨rfl, rfl⟩
        go_wp2_with fail
        go_ret
        exact ⟨q, rfl, ⟨hql, hh.out.2.2.1⟩, k, rfl⟩
      have HN : Hid (U / Z ≤ q - 1 ∧ 0 < q) := Lib.hid (by
        have hlt : rest * 18446744073709551616 + x0 < q * y2 := by
          have := HP.out
          rw [this.1]
          omega
        refine ⟨HD.out.next q rest hh.out.1 hh.out.2.2.1 hlt, ?_⟩
        rcases Nat.eq_zero_or_pos q with h0 | h0
        · rw [h0] at hlt; omega
        · exact h0)
      have g1 : ¬ (hi : Int) < (rest : Int) := by omega
      have hA := add_run0 rest y1
      obtain ⟨r2, hr2⟩ : ∃ x, (rest + y1) % 18446744073709551616 = x := ⟨_, rfl⟩
      obtain ⟨cy, hcy⟩ : ∃ x, (rest + y1) / 18446744073709551616 = x := ⟨_, rfl⟩
      rw [hr2, hcy] at hA
      have HR2 := Lib.hid (And.intro hr2 hcy)
      have q1 : IntKind.u64.wrap ((q : Int) - 1) = ((q - 1 : Nat) : Int) := by
        have := HN.out.2
        rw [IntKind.wrap_u64]
        omega
      have HC2 : Hid (hi = rest → x0 < lo) := Lib.hid (fun e => by
        rcases Nat.lt_or_ge x0 lo with h | h
        · exact h
        · exact absurd ⟨e, h⟩ c2)
      clear hr2 hcy c2 c1
      by_cases c3 : cy = 0
      · subst c3
        have HZ : Hid ((q - 1) * y1 + r2 = x2 * 18446744073709551616 + x1 ∧ r2 < 18446744073709551616 ∧ U / Z ≤ q - 1 ∧ q - 1 < 18446744073709551616) := Lib.hid (by
          have a1 := HR2.out
          have a2 := hh.out.1
          have a3 := HN.out
          obtain ⟨p, rfl⟩ : ∃ p, q = p + 1 := ⟨q - 1, by omega⟩
          rw [Nat.add_sub_cancel] at a3 ⊢
          rw [Nat.add_mul] at a2
          exact ⟨by omega, by omega, a3.1, by omega⟩)
        by_cases c4 : hi = rest
        · have g2 := HC2.out c4
          subst c4
          have g3 : ¬ (lo : Int) ≤ (x0 : Int) := by omega
          go_wp2_with fail
          refine (HM.out _).mono ?_
          rintro e w9 ⟨rfl, rfl⟩
          go_wp2_with fail
          go_roundw
          case rel => exact ⟨q - 1, r2, rfl, rfl, HZ, k, rfl⟩
          case measure => have := HN.out.2; simp [intOf]; omega
        · have g2 : ((hi : Int) == (rest : Int)) = false := by simp; omega
          go_wp2_with fail
          refine (HM.out _).mono ?_
          rintro e w9 ⟨rfl, rfl⟩
          go_wp2_with fail
          go_roundw
          case rel => exact ⟨q - 1, r2, rfl, rfl, HZ, k, rfl⟩
          case measure => have := HN.out.2; simp [intOf]; omega
      · have g4 : ((cy : Int) != 0) = true := by simp; omega
        by_cases c4 : hi = rest
        · have g2 := HC2.out c4
          subst c4
          have g3 : ¬ (lo : Int) ≤ (x0 : Int) := by omega
          go_wp2_with fail
          refine (HM.out _).mono ?_
          rintro e w9 ⟨rfl, rfl⟩
          go_wp2_with fail
          go_ret
          exact ⟨q - 1, rfl, ⟨by omega, HN.out.1⟩, k, rfl⟩
        · have g2 : ((hi : Int) == (rest : Int)) = false := by simp; omega
          go_wp2_with fail
          refine (HM.out _).mono ?_
          rintro e w9 ⟨rfl, rfl⟩
          go_wp2_with fail
          go_ret
          exact ⟨q - 1, rfl, ⟨by omega, HN.out.1⟩, k, rfl⟩
end Go.Proofs.YtbidlkmagbjllaaGreatDoor.Nb

namespace Go.Proofs.YtbidlkmagbjllaaGreatDoor.Nb
open Go Go.RowKit

/-- a row of N words in block g that are 0 from word K on; nothing else has turned -/
structure KnW (w wr : World) (g N K : Nat) (os : List Nat) : Prop where
  blk : BlkP wr g os
  len : os.length = N
  w64 : W64 os
  cl : Clear os K
  below : Below g w wr
  kept : Kept w wr g
theorem KnW.set {w wr : World} {g N K : Nat} {os : List Nat} (h : KnW w wr g N K os) {i x : Nat} {z : Int} (hi : i < K) (hx : x < 18446744073709551616) (hz : z = (x : Int)) : KnW w (wr.setCell ⟨g, i, none⟩ (.int .u64 z)) g N K (os.set i x) :=
  ⟨h.blk.setI hz, by rw [List.length_set]; exact h.len, h.w64.set hx, h.cl.set hi, h.below.setCell (p := ⟨g, i, none⟩) (Nat.le_refl _) _, h.kept.setCell _⟩
theorem KnW.drewN {w wr : World} {g N K : Nat} {os : List Nat} (h : KnW w wr g N K os) (n : Nat) : KnW w (wr.drewN n) g N K os :=
  ⟨h.blk, h.len, h.w64, h.cl, below_dN h.below n, h.kept.drewN n⟩
theorem clear_zero : ∀ {ws : List Nat}, Clear ws 0 → val ws = 0 := by
  intro ws
  induction ws with
  | nil => intro _; rfl
  | cons a r ih =>
    intro h
    have h0 := h 0 (Nat.le_refl _)
    have ht := ih (fun k _ => by have := h (k + 1) (Nat.zero_le _); simpa using this)
    simp only [List.getD_cons_zero] at h0
    simp [val, h0, ht]
theorem clear_lt {os : List Nat} {K : Nat} (hw : W64 os) (hc : Clear os K) : val os < 18446744073709551616 ^ K := by
  by_cases h : K ≤ os.length
  · have h1 := val_take_drop os h
    have h2 := val_take_lt hw K
    have h3 : val (os.drop K) = 0 := clear_zero fun i _ => by
      rw [List.getD_eq_getElem?_getD, List.getElem?_drop, ← List.getD_eq_getElem?_getD]
      exact hc _ (by omega)
    rw [h3] at h1
    omega
  · have h1 := val_lt hw
    have h2 : 18446744073709551616 ^ os.length ≤ 18446744073709551616 ^ K := Nat.pow_le_pow_right (by omega) (by omega)
    omega

/-- taking away, as far as digit i -/
def StepA (w wr : World) (g N n j R q i c b : Nat) (vs : List Nat) : Prop := ∃ os, KnW w wr g N (j + n + 1) os ∧ SubSt vs os R q j i c b
/-- behind a taking away -/
def StepB (w wr : World) (g N n j R V q b : Nat) : Prop := ∃ os, KnW w wr g N (j + n + 1) os ∧ BackSt os R V (18446744073709551616 ^ (j + n + 1)) q b
/-- adding back, as far as digit i -/
def StepC (w wr : World) (g N n j S i c : Nat) (vs : List Nat) : Prop := ∃ os, KnW w wr g N (j + n + 1) os ∧ AddSt vs os S j i c

theorem sub_eq {x lo b d b' : Nat} (hb : b ≤ 1) (hx : x < 18446744073709551616) (hlo : lo < 18446744073709551616) (hd : (x + 18446744073709551616 - lo - b) % 18446744073709551616 = d) (hb' : (if x < lo + b then 1 else 0 : Nat) = b') :
    d + lo + b = x + b' * 18446744073709551616 ∧ d < 18446744073709551616 ∧ b' ≤ 1 := by
  subst hd hb'
  split <;> omega

set_option maxRecDepth 8000 in
set_option maxHeartbeats 8000000 in
theorem step_any (g j n cu : Nat) (os vs : List Nat) (b o cv : Nat) (w : World) (h : KnIn w g j n os vs (some ⟨b, o, none⟩) cv) (hg : b ≠ g) :
    Calls Tryz.prog 163 #[.slice (some ⟨g, j, none⟩) (n + 1) cu, .slice (some ⟨b, o, none⟩) n cv] w fun e w' => e = .returned (.int .u64 ((val os / (18446744073709551616 ^ j * val vs) : Nat) : Int)) ∧ ∃ os', KnW w w' g os.length (j + n + 1) os' ∧ val os' = val os % (18446744073709551616 ^ j * val vs) := by
  have HG := Lib.hid (guess_any g j n cu os vs _ cv w h)
  obtain ⟨R, hR⟩ : ∃ R, val os = R := ⟨_, rfl⟩
  obtain ⟨N, hN⟩ : ∃ N, os.length = N := ⟨_, rfl⟩
  obtain ⟨V, hV⟩ : ∃ V, 18446744073709551616 ^ j * val vs = V := ⟨_, rfl⟩
  have hV0 : 0 < V := by
    rw [← hV]
    refine Nat.mul_pos (Nat.pow_pos (by omega)) ?_
    have := h.dv
    rcases Nat.eq_zero_or_pos (val vs) with h0 | h0
    · rw [h0] at this; omega
    · exact h0
  have HA : Hid (∀ q, StepA w w g N n j R q 0 0 0 vs) := Lib.hid fun q => ⟨os, ⟨h.blk, hN, h.wo, h.cl, Below.refl _ _, Kept.refl _ _⟩, by rw [← hR]; exact sub_start vs os q j⟩
  have HM := Lib.hid h.mag
  have hn := h.mag.lenN
  have hnl : (n : Int) ≤ 1099511627776 := by have := h.lt; have := h.lo; omega
  have hjl : (j : Int) ≤ 1099511627776 := by have := h.lt; have := h.lo; omega
  have hlt : j + n < N := by rw [← hN]; exact h.lt
  have HH := Lib.hid (And.intro hn (And.intro hV (And.intro hV0 (And.intro hlt hg))))
  rw [Nat.div_div_eq_div_mul, hR, hV] at HG
  rw [hR, hN, hV]
  clear h hg hR hN hV hV0 hn hlt
  go_enter Tryz.func163, Tryz.ntmps163
  go_wp2_with fail
  refine HG.out.mono ?_
  rintro e w1 ⟨q, rfl, hq, kk, rfl⟩
  have HQ := Lib.hid hq
  have hql := hq.1
  have H0 : Hid (StepA w (w.drewN kk) g N n j R q 0 0 0 vs) := Lib.hid (by obtain ⟨os, h1, h2⟩ := HA.out q; exact ⟨os, h1.drewN kk, h2⟩)
  clear hq HA HG
  go_wp2_with fail
  go_loopw [7, 8, 18] (fun cv' bv iv wr => ∃ i c b' : Nat, i ≤ n ∧ cv' = .int .u64 (c : Int) ∧ bv = .int .u64 (b' : Int) ∧ iv = .int .i64 (i : Int) ∧ (c < 18446744073709551616 ∧ b' ≤ 1) ∧ Hid (StepA w wr g N n j R q i c b' vs)) (fun _ _ iv _ => n - (intOf iv).toNat)
  case atStart => exact ⟨0, 0, 0, Nat.zero_le _, rfl, rfl, rfl, by omega, H0⟩
  case round =>
    clear H0
    obtain ⟨i, c, b', hi, rfl, rfl, rfl, ⟨hcl, hbl⟩, hh⟩ := hrel
    obtain ⟨os', hk, hs⟩ := hh.out
    by_cases hlt : i < n
    · obtain ⟨x, hx⟩ : ∃ x, os'.getD (j + i) 0 = x := ⟨_, rfl⟩
      have hco := hk.blk.cell (j := j + i) (by have := HH.out.2.2.2.1; have := hk.len; omega)
      have hfr := hk.blk.frozen (j + i)
      have hxl := hk.w64.get (j + i)
      rw [hx] at hco hxl
      obtain ⟨b1, o1, e1, hb1, hc1⟩ := HM.out.at hlt
      injection e1 with e1
      injection e1 with e1 e2 _
      subst e1 e2
      have hvc := (hk.kept.cell (p := ⟨b, o + i, none⟩) hb1 HH.out.2.2.2.2).trans hc1
      obtain ⟨y, hy⟩ : ∃ y, vs.getD i 0 = y := ⟨_, rfl⟩
      have hyl := HM.out.w32.get i
      rw [hy] at hvc hyl
      have HFO : Hid (∀ W, Calls Tryz.prog 179 #[.int .u64 (q : Int), .int .u64 (y : Int), .int .u64 0, .int .u64 (c : Int)] W fun e w' => e = .returned (.tuple #[.int .u64 (((q * y + 0 + c) / 18446744073709551616 : Nat) : Int), .int .u64 (((q * y + 0 + c) % 18446744073709551616 : Nat) : Int)]) ∧ w' = W) := Lib.hid (fun W => fold_any q y 0 c W hql hyl (by omega) hcl)
      obtain ⟨c2, hc2⟩ : ∃ x, (q * y + 0 + c) / 18446744073709551616 = x := ⟨_, rfl⟩
      obtain ⟨lo, hlo⟩ : ∃ x, (q * y + 0 + c) % 18446744073709551616 = x := ⟨_, rfl⟩
      rw [hc2, hlo] at HFO
      have hf : q * y + c = c2 * 18446744073709551616 + lo ∧ lo < 18446744073709551616 ∧ c2 < 18446744073709551616 := by
        have : q * y ≤ 18446744073709551615 * 18446744073709551615 := Nat.mul_le_mul (by omega) (by omega)
        omega
      have hsub := sub_run x lo b' hbl
      obtain ⟨d, hd⟩ : ∃ h, (x + 18446744073709551616 - lo - b') % 18446744073709551616 = h := ⟨_, rfl⟩
      obtain ⟨b2, hb2⟩ : ∃ h, (if x < lo + b' then 1 else 0 : Nat) = h := ⟨_, rfl⟩
      rw [hd, hb2] at hsub
      have hse := sub_eq hbl hxl hf.2.1 hd hb2
      have HS : Hid (KnW w wr g N (j + n + 1) os' ∧ SubSt vs (os'.set (j + i) d) R q j (i + 1) c2 b2 ∧ d < 18446744073709551616 ∧ b2 ≤ 1 ∧ c2 < 18446744073709551616) := Lib.hid ⟨hk, sub_step hs (by have := HH.out.1; omega) (by have := HH.out.2.2.2.1; have := hk.len; omega) (by rw [hy]; exact hf.1) (by rw [hx]; exact hse.1), hse.2.1, hse.2.2, hf.2.2⟩
      clear hk hs hx hy hb1 hc1 hf hd hb2 hse hc2 hlo hxl hyl
      have i0 : (0 : Int) ≤ (i : Int) := by omega
      have i1 : (i : Int) < (n : Int) := by omega
      have i2 : (i : Int) < (n : Int) + 1 := by omega
      go_wp2_with fail
      refine (HFO.out _).mono ?_
      rintro e w9 ⟨rfl, rfl⟩
      go_wp2_with fail
      go_roundw
      case rel => exact ⟨i + 1, c2, b2, by omega, rfl, rfl, by go_num, ⟨HS.out.2.2.2.2, HS.out.2.2.2.1⟩, Lib.hid ⟨_, HS.out.1.set (by omega) HS.out.2.2.1 rfl, HS.out.2.1⟩⟩
      case measure => simp [intOf]; omega
    · obtain rfl : i = n := by omega
      obtain ⟨x, hx⟩ : ∃ x, os'.getD (j + i) 0 = x := ⟨_, rfl⟩
      have hco := hk.blk.cell (j := j + i) (by have := HH.out.2.2.2.1; have := hk.len; omega)
      have hfr := hk.blk.frozen (j + i)
      have hxl := hk.w64.get (j + i)
      rw [hx] at hco hxl
      have hsub := sub_run x c b' hbl
      obtain ⟨d, hd⟩ : ∃ h, (x + 18446744073709551616 - c - b') % 18446744073709551616 = h := ⟨_, rfl⟩
      obtain ⟨b2, hb2⟩ : ∃ h, (if x < c + b' then 1 else 0 : Nat) = h := ⟨_, rfl⟩
      rw [hd, hb2] at hsub
      have hse := sub_eq hbl hxl hcl hd hb2
      have HB : Hid (b2 ≤ 1 ∧ StepB w (wr.setCell ⟨g, j + i, none⟩ (.int .u64 (d : Int))) g N i j R V q b2) := Lib.hid (by
        have h1 := sub_last hs HH.out.1 (by have := HH.out.2.2.2.1; have := hk.len; omega) (by rw [hx]; exact hse.1)
        have h2 := hk.set (i := j + i) (x := d) (z := d) (by omega) hse.2.1 rfl
        rw [HH.out.2.1] at h1
        exact ⟨hse.2.2, _, h2, ⟨h1, clear_lt h2.w64 h2.cl, HQ.out.2, hse.2.2⟩⟩)
      clear hk hs hx hd hb2 hse hxl hcl hbl hh hlt
      have i2 : (i : Int) < (i : Int) + 1 := by omega
      go_wp2_with fail
      go_loopw [6, 8] (fun qv bv wr2 => ∃ q' b' : Nat, qv = .int .u64 (q' : Int) ∧ bv = .int .u64 (b' : Int) ∧ (b' ≤ 1 ∧ q' < 18446744073709551616) ∧ Hid (StepB w wr2 g N i j R V q' b')) (fun qv _ _ => (intOf qv).toNat)
      case atStart => exact ⟨q, b2, rfl, rfl, ⟨HB.out.1, hql⟩, Lib.hid HB.out.2⟩
      case round =>
        clear HB hsub hco hfr HQ hql
        obtain ⟨q', b', rfl, rfl, ⟨hbl, hql⟩, hh⟩ := hrel
        by_cases hb0 : b' = 0
        · subst hb0
          go_wp2_with fail
          go_ret
          obtain ⟨os', hk, hs⟩ := hh.out
          obtain ⟨h1, h2⟩ := back_shut hs HH.out.2.2.1
          exact ⟨congrArg (fun z : Nat => Ending.returned (.int .u64 (z : Int))) h1, os', hk, h2⟩
        · obtain rfl : b' = 1 := by omega
          obtain ⟨os', hk, hs⟩ := hh.out
          have HBK := Lib.hid hs
          obtain ⟨S, hS⟩ : ∃ S, val os' = S := ⟨_, rfl⟩
          have HSV := Lib.hid hS
          have HC0 : Hid (StepC w wr g N i j S 0 0 vs) := Lib.hid ⟨os', hk, by rw [← hS]; exact add_start vs os' j⟩
          clear hk hs hh hS hb0
          rw [show ((1 : Nat) : Int) = 1 from rfl]
          go_wp2_with fail
          go_loopw [7, 61] (fun cv' iv wr3 => ∃ k c : Nat, k ≤ i ∧ cv' = .int .u64 (c : Int) ∧ iv = .int .i64 (k : Int) ∧ c ≤ 1 ∧ Hid (StepC w wr3 g N i j S k c vs)) (fun _ iv _ => i - (intOf iv).toNat)
          case atStart => exact ⟨0, 0, Nat.zero_le _, rfl, rfl, by omega, HC0⟩
          case round =>
            clear HC0
            obtain ⟨k, c3, hk3, rfl, rfl, hc3, hh⟩ := hrel
            obtain ⟨os3, hk, hs⟩ := hh.out
            by_cases hlt : k < i
            · obtain ⟨x, hx⟩ : ∃ x, os3.getD (j + k) 0 = x := ⟨_, rfl⟩
              have hco := hk.blk.cell (j := j + k) (by have := HH.out.2.2.2.1; have := hk.len; omega)
              have hfr := hk.blk.frozen (j + k)
              have hxl := hk.w64.get (j + k)
              rw [hx] at hco hxl
              obtain ⟨b1, o1, e1, hb1, hc1⟩ := HM.out.at hlt
              injection e1 with e1
              injection e1 with e1 e2 _
              subst e1 e2
              have hvc := (hk.kept.cell (p := ⟨b, o + k, none⟩) hb1 HH.out.2.2.2.2).trans hc1
              obtain ⟨y, hy⟩ : ∃ y, vs.getD k 0 = y := ⟨_, rfl⟩
              have hyl := HM.out.w32.get k
              rw [hy] at hvc hyl
              have hadd := add_run x y c3 hc3
              obtain ⟨d3, hd⟩ : ∃ h, (x + y + c3) % 18446744073709551616 = h := ⟨_, rfl⟩
              obtain ⟨c4, hc4⟩ : ∃ h, (x + y + c3) / 18446744073709551616 = h := ⟨_, rfl⟩
              rw [hd, hc4] at hadd
              have HS : Hid (KnW w (wr.drewN 1) g N (j + i + 1) os3 ∧ AddSt vs (os3.set (j + k) d3) S j (k + 1) c4 ∧ d3 < 18446744073709551616 ∧ c4 ≤ 1) := Lib.hid ⟨hk.drewN 1, add_step hs (by have := HH.out.1; omega) (by have := HH.out.2.2.2.1; have := hk.len; omega) (by rw [hx, hy]; omega), by omega, by omega⟩
              clear hk hs hx hy hb1 hc1 hd hc4 hxl hyl hh
              have i0 : (0 : Int) ≤ (k : Int) := by omega
              have i1 : (k : Int) < (i : Int) := by omega
              have i3 : (k : Int) < (i : Int) + 1 := by omega
              go_wp2_with fail
              go_region_with (fail)
              all_goals go_wp2_with fail
              all_goals go_roundw
              all_goals first
                | (simp [intOf]; omega)
                | exact ⟨k + 1, c4, by omega, rfl, by go_num, HS.out.2.2.2, Lib.hid ⟨_, HS.out.1.set (by omega) HS.out.2.2.1 rfl, HS.out.2.1⟩⟩
            · obtain rfl : k = i := by omega
              obtain ⟨x, hx⟩ : ∃ x, os3.getD (j + k) 0 = x := ⟨_, rfl⟩
              have hco := hk.blk.cell (j := j + k) (by have := HH.out.2.2.2.1; have := hk.len; omega)
              have hfr := hk.blk.frozen (j + k)
              have hxl := hk.w64.get (j + k)
              rw [hx] at hco hxl
              have hadd : ∀ W, (callFunc 197 #[.int .u64 (x : Int), .int .u64 0, .int .u64 (c3 : Int)]).run Tryz.prog W = .ok (.value (.tuple #[.int .u64 (((x + 0 + c3) % 18446744073709551616 : Nat) : Int), .int .u64 (((x + 0 + c3) / 18446744073709551616 : Nat) : Int)])) W := fun W => add_run x 0 c3 hc3 W
              obtain ⟨d3, hd⟩ : ∃ h, (x + 0 + c3) % 18446744073709551616 = h := ⟨_, rfl⟩
              obtain ⟨c4, hc4⟩ : ∃ h, (x + 0 + c3) / 18446744073709551616 = h := ⟨_, rfl⟩
              rw [hd, hc4] at hadd
              have hc5 : c4 ≤ 1 := by omega
              have HS : Hid (StepB w (wr.setCell ⟨g, j + k, none⟩ (.int .u64 (d3 : Int))) g N k j R V (q' - 1) (1 - c4)) := Lib.hid (by
                have h1 := add_last (d := d3) (c' := c4) hs HH.out.1 (by have := HH.out.2.2.2.1; have := hk.len; omega) (by rw [hx]; omega)
                have h2 := hk.set (i := j + k) (x := d3) (z := d3) (by omega) (by omega) rfl
                rw [HH.out.2.1, ← HSV.out] at h1
                exact ⟨_, h2, back_next HBK.out HH.out.2.2.1 (clear_lt h2.w64 h2.cl) hc5 h1⟩)
              have HQ1 := Lib.hid (back_open HBK.out HH.out.2.2.1).2
              have e1 : IntKind.u64.wrap (1 - (c4 : Int)) = ((1 - c4 : Nat) : Int) := by rw [IntKind.wrap_u64]; omega
              have e2 : IntKind.u64.wrap ((q' : Int) - 1) = ((q' - 1 : Nat) : Int) := by have := HQ1.out; rw [IntKind.wrap_u64]; omega
              clear hk hs hx hd hc4 hxl hh hlt
              have i2 : (k : Int) < (k : Int) + 1 := by omega
              go_wp2_with fail
              go_roundw
              case rel => exact ⟨q' - 1, 1 - c4, rfl, rfl, by omega, HS⟩
              case measure => have := HQ1.out; simp [intOf]; omega
end Go.Proofs.YtbidlkmagbjllaaGreatDoor.Nb

namespace Go.Proofs.YtbidlkmagbjllaaGreatDoor.Nb
open Go Go.RowKit

/-- behind i digits of a shift to the right by s bits, from word q on -/
def RightSt (m os : List Nat) (q s i : Nat) : Prop := 2 ^ s * val os + m.getD q 0 % 2 ^ s = val ((m.drop q).take i) + 18446744073709551616 ^ i * (m.getD (q + i) 0 % 2 ^ s)
theorem right_start (m : List Nat) (q s n : Nat) : RightSt m (List.replicate n 0) q s 0 := by simp [RightSt, val, val_rep]
theorem right_word {x y s : Nat} (hs : s < 64) (hx : x < 18446744073709551616) : x / 2 ^ s < 2 ^ (64 - s) ∧ y * 2 ^ (64 - s) % 18446744073709551616 = 2 ^ (64 - s) * (y % 2 ^ s) ∧ 2 ^ (64 - s) * (y % 2 ^ s) + 2 ^ (64 - s) ≤ 18446744073709551616 ∧
    2 ^ s * (x / 2 ^ s + 2 ^ (64 - s) * (y % 2 ^ s)) + x % 2 ^ s = x + 18446744073709551616 * (y % 2 ^ s) := by
  have e := two64 s (by omega)
  have hp : 0 < 2 ^ s := Nat.pow_pos (by omega)
  have hp' : 0 < 2 ^ (64 - s) := Nat.pow_pos (by omega)
  have hm : y % 2 ^ s < 2 ^ s := Nat.mod_lt _ hp
  refine ⟨?_, ?_, ?_, ?_⟩
  · refine (Nat.div_lt_iff_lt_mul hp).2 ?_
    rw [Nat.mul_comm, ← e]; exact hx
  · rw [e, Nat.mul_mod_mul_right, Nat.mul_comm]
  · have h1 : 2 ^ (64 - s) * (y % 2 ^ s + 1) ≤ 2 ^ (64 - s) * 2 ^ s := Nat.mul_le_mul_left _ hm
    rw [Nat.mul_add, Nat.mul_one, Nat.mul_comm (2 ^ (64 - s)) (2 ^ s), ← e] at h1
    exact h1
  · rw [Nat.mul_add, ← Nat.mul_assoc, ← e]
    have := Nat.div_add_mod x (2 ^ s)
    omega
theorem right_step {m os : List Nat} {q s i x y : Nat} (h : RightSt m os q s i) (hs : s < 64) (hx : x < 18446744073709551616) (ex : m.getD (q + i) 0 = x) (ey : m.getD (q + i + 1) 0 = y) (hm : q + i < m.length) (hl : i < os.length) (hc : Clear os i) :
    RightSt m (os.set i (x / 2 ^ s + 2 ^ (64 - s) * (y % 2 ^ s))) q s (i + 1) := by
  unfold RightSt at *
  have hv := val_set (ws := os) (k := i) (x / 2 ^ s + 2 ^ (64 - s) * (y % 2 ^ s)) hl
  have hw := (right_word (y := y) hs hx).2.2.2
  rw [hc i (Nat.le_refl _), Nat.mul_zero, Nat.add_zero] at hv
  have hg : (m.drop q).getD i 0 = x := by rw [List.getD_eq_getElem?_getD, List.getElem?_drop, ← List.getD_eq_getElem?_getD, ex]
  rw [val_take_succ (by rw [List.length_drop]; omega), hg, show q + (i + 1) = q + i + 1 by omega, ey, Nat.pow_succ]
  rw [ex] at h
  rw [hv, Nat.mul_add]
  obtain ⟨P, hP⟩ : ∃ P, 18446744073709551616 ^ i = P := ⟨_, rfl⟩
  rw [hP] at h ⊢
  rw [Nat.mul_left_comm (2 ^ s) P]
  have h2 : P * (2 ^ s * (x / 2 ^ s + 2 ^ (64 - s) * (y % 2 ^ s)) + x % 2 ^ s) = P * (x + 18446744073709551616 * (y % 2 ^ s)) := by rw [hw]
  rw [Nat.mul_add, Nat.mul_add P x, ← Nat.mul_assoc P 18446744073709551616] at h2
  omega
theorem right_end {m os : List Nat} {q s n : Nat} (h : RightSt m os q s n) (hq : q + n = m.length) (hw : W64 m) : val os = val m / (18446744073709551616 ^ q * 2 ^ s) := by
  unfold RightSt at h
  have h0 : m.getD (q + n) 0 = 0 := by
    rw [List.getD_eq_getElem?_getD, List.getElem?_eq_none (by omega)]; rfl
  rw [h0, Nat.zero_mod, Nat.mul_zero, Nat.add_zero, List.take_of_length_le (by rw [List.length_drop]; omega), drop_div hw (by omega)] at h
  have hp : 0 < 2 ^ s := Nat.pow_pos (by omega)
  rw [← Nat.div_div_eq_div_mul, ← h, Nat.mul_add_div hp, Nat.div_eq_of_lt (Nat.mod_lt _ hp), Nat.add_zero]

def RightW (w : World) (g n : Nat) (m : List Nat) (q s i : Nat) (wr : World) : Prop :=
  ∃ os, Blk wr g os ∧ os.length = n ∧ W64 os ∧ RightSt m os q s i ∧ Clear os i ∧ Below g w wr

set_option maxRecDepth 8000 in
set_option maxHeartbeats 2000000 in
theorem right_core (A : Option Addr) (M ca q s N n : Nat) (m : List Nat) (w : World) (hm : Mag w (.slice A M ca) m) (hl : M ≤ 536870912) (hs : s < 64) (hN : N = 64 * q + s) (hM : q + n = M) (hn : 0 < n) :
    Calls Tryz.prog 164 #[.slice A M ca, .int .u64 (N : Int)] w fun e w' => ∃ A' k' c' lost, e = .returned (.tuple #[.slice A' k' c', .bool lost]) ∧ MagN w' (.slice A' k' c') (val m / (18446744073709551616 ^ q * 2 ^ s)) n ∧ Below w.heap.size w w' := by
  have hla := hm.lenN
  have HA := Lib.hid hm
  have HL := Lib.hid (And.intro hla hM)
  have hmk := run_make_row' (P := Tryz.prog) 100 74 (.int .u64 0) 8 Tryz.underlying100 infoW rfl .i64 .i64 n (by omega) (by omega)
  have e1 : (N : Int) / 64 = (q : Int) := by omega
  have e2 : (N : Int) % 64 = (s : Int) := by omega
  have hN1 : (N : Int) ≤ 18446744073709551615 := by omega
  have hMn : (M : Int) - (q : Int) = (n : Int) := by omega
  have hqM : ¬ (M : Int) ≤ (q : Int) := by omega
  have hqM2 : (q : Int) ≤ (M : Int) := by omega
  have hqM3 : (q : Int) < (M : Int) := by omega
  obtain ⟨b1, o1, ea, hb1, hc1⟩ := hm.at (show q < M by omega)
  subst ea
  have hcM : (M : Int) ≤ (ca : Int) := by obtain ⟨_, _, e, h, -⟩ := hm; injection e with _ _ e; omega
  have HB1 := Lib.hid hb1
  obtain ⟨x0, hx0⟩ : ∃ x0, m.getD q 0 = x0 := ⟨_, rfl⟩
  rw [hx0] at hc1
  clear hm hla hN hM hx0 hb1
  go_enter Tryz.func164, Tryz.ntmps164
  go_wp2_with fail
  go_loopw [8, 39] (fun zv iv wr => ∃ (k : Nat) (z : Int), k ≤ q ∧ zv = .int .u64 z ∧ iv = .int .i64 (k : Int) ∧ w = wr) (fun _ iv _ => q - (intOf iv).toNat)
  case atStart => exact ⟨0, _, Nat.zero_le _, rfl, rfl, rfl⟩
  case round =>
    obtain ⟨k, z, hk, rfl, rfl, rfl⟩ := hrel
    by_cases hlt : k < q
    · obtain ⟨b2, o2, ea, hb2, hc2⟩ := HA.out.at (show k < M by have := HL.out; omega)
      injection ea with ea
      injection ea with ea eb _
      subst ea eb
      obtain ⟨x, hx⟩ : ∃ x, m.getD k 0 = x := ⟨_, rfl⟩
      rw [hx] at hc2
      have i0 : (0 : Int) ≤ (k : Int) := by omega
      have i1 : (k : Int) < (q : Int) := by omega
      clear hx hb2
      go_wp2_with fail
      go_roundw
      case rel => exact ⟨k + 1, _, by omega, rfl, by go_num, trivial⟩
      case measure => simp [intOf]; omega
    · obtain rfl : k = q := by omega
      clear hc1 hlt
      have hd0 : (0 : Int) ≤ (M : Int) - (k : Int) := by omega
      go_wp2_with fail
      clear hmk
      have H0 := Lib.hid (show RightW w w.heap.size n m k s 0 (w.alloc (.cells (madeCells #[.int .u64 0] n) 74)) from ⟨_, Blk.made w n, by simp, W64.rep _, right_start _ _ _ _, Clear.rep _ _, (Below.refl _ _).alloc (Nat.le_refl _) _⟩)
      go_loopw [54] (fun iv wr => ∃ i : Nat, i ≤ n ∧ iv = .int .i64 (i : Int) ∧ Hid (RightW w w.heap.size n m k s i wr)) (fun iv _ => n - (intOf iv).toNat)
      case atStart => exact ⟨0, Nat.zero_le _, rfl, H0⟩
      case round =>
        clear H0
        obtain ⟨i, hi, rfl, hp⟩ := hrel
        obtain ⟨os, hbk, hlen, hw, hst, hcl, hbel⟩ := hp.out
        by_cases hlt : i < n
        · have hfr : wr.frozen? ⟨w.heap.size, i, none⟩ = false := hbk.frozen _
          obtain ⟨o, ho⟩ : ∃ o, os.getD i 0 = o := ⟨_, rfl⟩
          have hco : wr.cell? ⟨w.heap.size, i, none⟩ = some (.int .u64 (o : Nat)) := by rw [← ho]; exact hbk.cell (by omega)
          obtain ⟨x, ex⟩ : ∃ x, m.getD (k + i) 0 = x := ⟨_, rfl⟩
          obtain ⟨y, ey⟩ : ∃ y, m.getD (k + i + 1) 0 = y := ⟨_, rfl⟩
          have HD1 := fun W (hW : Mag W _ m) => digit_any (some ⟨b1, o1, none⟩) M ca (k + i) m W hW (by omega)
          have HD2 := fun W (hW : Mag W _ m) => digit_any (some ⟨b1, o1, none⟩) M ca (k + i + 1) m W hW (by omega)
          have c1 : ((k + i : Nat) : Int) = (k : Int) + (i : Int) := by omega
          have c2 : ((k + i + 1 : Nat) : Int) = (k : Int) + (i : Int) + 1 := by omega
          rw [c1, ex] at HD1
          rw [c2, ey] at HD2
          have wx : x < 18446744073709551616 := by rw [← ex]; exact HA.out.w32.get _
          obtain ⟨r1, r2, r3, r4⟩ := right_word (y := y) hs wx
          obtain ⟨hv, ehv⟩ : ∃ hv, 2 ^ (64 - s) * (y % 2 ^ s) = hv := ⟨_, rfl⟩
          obtain ⟨d, ed⟩ : ∃ d, x / 2 ^ s + hv = d := ⟨_, rfl⟩
          have hwr : IntKind.u64.wrap ((y : Int) * 2 ^ (64 - s)) = (hv : Int) := by
            rw [show ((y : Int) * 2 ^ (64 - s)) = ((y * 2 ^ (64 - s) : Nat) : Int) by rw [Int.natCast_mul, Int.natCast_pow]; rfl]
            rw [IntKind.wrap_u64]; omega
          have hor : bits .or .u64 ((x : Int) / 2 ^ s) (hv : Int) = (d : Int) := by
            have h := or_high r1 r3
            rw [ehv] at h
            rw [← ed, ← h, Int.natCast_ediv, Int.natCast_pow]
            rfl
          have hdl : d < 18446744073709551616 := by omega
          have HS : Hid (RightSt m (os.set i d) k s (i + 1)) := Lib.hid (by
            have h := right_step hst hs wx ex ey (by have := HL.out; omega) (by omega) hcl
            rw [ehv, ed] at h
            exact h)
          have HO := Lib.hid (And.intro hbk (And.intro hlen (And.intro hw (And.intro hcl hbel))))
          have HDD := Lib.hid (And.intro HD1 HD2)
          have HMW := Lib.hid (HA.out.below hbel)
          have HDL := Lib.hid hdl
          have i0 : (0 : Int) ≤ (i : Int) := by omega
          have i1 : (i : Int) < (n : Int) := by omega
          clear hbk hlen hw hst hcl hbel ho ex ey wx r1 r2 r3 r4 ehv ed hdl HD1 HD2 c1 c2 hp
          go_wp2_with fail
          refine (HDD.out.1 _ HMW.out).mono ?_
          rintro e w9 ⟨rfl, rfl⟩
          go_wp2_with fail
          refine (HDD.out.2 _ HMW.out).mono ?_
          rintro e w9 ⟨rfl, rfl⟩
          go_wp2_with fail
          go_roundw
          case rel => exact ⟨i + 1, by omega, by go_num, Lib.hid ⟨_, blk_end HO.out.1 rfl, by rw [List.length_set]; exact HO.out.2.1, HO.out.2.2.1.set HDL.out, HS.out, HO.out.2.2.2.1.step, HO.out.2.2.2.2.setCell (p := ⟨w.heap.size, i, none⟩) (Nat.le_refl _) _⟩⟩
          case measure => simp [intOf]; omega
        · obtain rfl : i = n := by omega
          have HO := Lib.hid (And.intro hbk (And.intro hlen (And.intro hw (And.intro hst hbel))))
          clear hbk hlen hw hst hcl hbel
          go_wp2_with fail
          have hms := HO.out.1.mag HO.out.2.2.1 (by rw [HO.out.2.1]; omega)
          rw [HO.out.2.1] at hms
          refine (norm_any _ _ _ hms).mono ?_
          rintro e w2 ⟨A2, k2, c2, -, rfl, hm2, rfl⟩
          rw [right_end HO.out.2.2.2.1 (by have := HL.out; omega) HA.out.w32, HO.out.2.1] at hm2
          have HF := Lib.hid hm2
          clear hm2 hms
          go_wp2_with fail
          go_ret2
          exact ⟨_, _, _, _, rfl, HF.out, HO.out.2.2.2.2⟩

set_option maxRecDepth 8000 in
/-- right: a magnitude over 2 to the N-th, downwards -/
theorem right_any (v : Value) (X N L : Nat) (w : World) (h : MagN w v X L) (hL : L ≤ 536870912) (hN : N ≤ 18446744073709551615) :
    Calls Tryz.prog 164 #[v, .int .u64 (N : Int)] w fun e w' => ∃ A' k' c' lost, e = .returned (.tuple #[.slice A' k' c', .bool lost]) ∧ MagN w' (.slice A' k' c') (X / 2 ^ N) L ∧ Below w.heap.size w w' := by
  obtain ⟨ws, h1, h2, rfl, h4⟩ := h
  have h1' := h1
  obtain ⟨A, c, rfl, -⟩ := h1
  have e : (2 : Nat) ^ N = 18446744073709551616 ^ (N / 64) * 2 ^ (N % 64) := by
    rw [show (18446744073709551616 : Nat) = 2 ^ 64 by decide, ← Nat.pow_mul, ← Nat.pow_add]
    congr 1
    omega
  rw [e]
  by_cases h0 : ws.length ≤ N / 64
  · have hz : val ws / (18446744073709551616 ^ (N / 64) * 2 ^ (N % 64)) = 0 := by
      refine Nat.div_eq_of_lt ?_
      have a1 := val_lt h1'.w32
      have a2 : 18446744073709551616 ^ ws.length ≤ 18446744073709551616 ^ (N / 64) := Nat.pow_le_pow_right (by omega) h0
      have a3 : 18446744073709551616 ^ (N / 64) * 1 ≤ 18446744073709551616 ^ (N / 64) * 2 ^ (N % 64) := Nat.mul_le_mul_left _ (Nat.pow_pos (by omega))
      omega
    have HR : Hid (MagN w (.slice none 0 0) (val ws / (18446744073709551616 ^ (N / 64) * 2 ^ (N % 64))) L) := Lib.hid (by rw [hz]; exact zero_in w _)
    obtain ⟨q, hq⟩ : ∃ q, N / 64 = q := ⟨_, rfl⟩
    have e1 : (N : Int) / 64 = (q : Int) := by omega
    have e2 : (ws.length : Int) ≤ (q : Int) := by omega
    have hN1 : (N : Int) ≤ 18446744073709551615 := by omega
    have hl0 : (ws.length : Int) ≤ 536870912 := by omega
    obtain ⟨M, hM⟩ : ∃ M, ws.length = M := ⟨_, rfl⟩
    rw [hM] at e2 hl0 ⊢
    clear h1' h2 h4 e hz h0 hq hM
    go_enter Tryz.func164, Tryz.ntmps164
    go_wp2_with fail
    go_ret2
    exact ⟨_, _, _, _, rfl, HR.out, Below.refl _ _⟩
  · exact (right_core A ws.length c (N / 64) (N % 64) N (ws.length - N / 64) ws w h1' (by omega) (by omega) (by omega) (by omega) (by omega)).mono fun e w' ⟨A', k', c', lost, a, b, d⟩ => ⟨A', k', c', lost, a, b.more (by omega), d⟩
end Go.Proofs.YtbidlkmagbjllaaGreatDoor.Nb
