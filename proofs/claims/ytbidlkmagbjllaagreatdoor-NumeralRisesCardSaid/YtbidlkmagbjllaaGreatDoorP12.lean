/- Y14 Y15 Y16 Y17 Y19 Y20 in one text. -/
import Derived.Test.YtbidlkmagbjllaaGreatDoorP11
import Derived.Laws.BytesArg
import Derived.Lib.MinMax

namespace Go.Proofs.YtbidlkmagbjllaaGreatDoor.Nb
open Go Go.RowKit

theorem infoU : (Tryz.prog.info? 5).map (fun i => (i.zero, i.size, i.bytes)) = some (some (.int .u8 0), 1, 1) := by kernel_rfl
theorem byte_new (w : World) (x : Int) (T : TypeId) : ∀ j u, [(Value.int .u8 x)][j]? = some u → (w.alloc (.cells #[.int .u8 x] T)).cell? ((⟨w.heap.size, 0, none⟩ : Addr).add j) = some u := by
  intro j u h
  have hj : j = 0 := by
    have := (List.getElem?_eq_some_iff.1 h).1
    simp at this
    omega
  subst hj
  simp at h
  subst h
  simp [go_sem, Addr.add]
/-- a row of bytes of a call's own -/
def Row (w : World) (B : Nat) (v : Value) (bs : List UInt8) : Prop := w.ownsRow B 5 1 v bs.length (bs.map fun b => .int .u8 (b.toNat : Int))
theorem MagN.zeroLen {w : World} {A : Option Addr} {k c L : Nat} (h : MagN w (.slice A k c) 0 L) : k = 0 := by
  rcases Nat.eq_zero_or_pos k with q | q
  · exact q
  · have := h.len.2.1 (by omega); omega
theorem MagN.one_len {w : World} {A : Option Addr} {k c n : Nat} (h : MagN w (.slice A k c) n 1) (hn : 0 < n) : k = 1 := by
  have h1 := h.len.1
  have h2 := h.len.2.2
  rcases Nat.eq_zero_or_pos k with q | q
  · have := h1 q; omega
  · omega
theorem MagN.mag {w : World} {A : Option Addr} {k c n L : Nat} (h : MagN w (.slice A k c) n L) : ∃ ws, Mag w (.slice A k c) ws ∧ val ws = n ∧ ws.length = k := by
  obtain ⟨ws, h1, h2, h3, h4⟩ := h
  exact ⟨ws, h1, h3, h1.lenN.symm⟩

set_option maxRecDepth 8000 in
set_option maxHeartbeats 2000000 in
theorem plain_one (u : Value) (w : World) (hu : MagN w u 1 1) :
    Calls Tryz.prog 207 #[u, .int .u64 10] w fun e w' => ∃ v, e = .returned v ∧ Row w' w.heap.size v [49] ∧ Below w.heap.size w w' := by
  have HU := Lib.hid (unit_ten w)
  obtain ⟨A, k, c, rfl⟩ := hu.slice
  have hk := hu.one_len (by omega)
  subst hk
  obtain ⟨ws, hm, hv, hl⟩ := hu.mag
  have HS := Lib.hid (short_core A 1 c 10000000000000000000 ws w hm (by omega) (by omega) (by omega))
  rw [hv, Nat.div_eq_of_lt (show 1 < 10000000000000000000 by omega), Nat.mod_eq_of_lt (show 1 < 10000000000000000000 by omega)] at HS
  clear hm hv hl hu
  go_enter Tryz.func207, Tryz.ntmps207
  go_wp2_with fail
  refine HU.out.mono ?_
  rintro e w1 ⟨rfl, rfl⟩
  go_wp2_with fail
  go_loopw [0, 7] (fun a b wr => (a = .slice A 1 c ∧ b = .slice none 0 0 ∧ w1 = wr) ∨ (∃ A' c' v, a = .slice A' 0 c' ∧ b = v ∧ Hid (Row wr w1.heap.size v [49] ∧ Below w1.heap.size w1 wr))) (fun a _ _ => match a with | .slice _ k _ => k | _ => 0)
  case atStart => exact .inl ⟨rfl, rfl, rfl⟩
  case round =>
    rcases hrel with ⟨rfl, rfl, rfl⟩ | ⟨A', c', v, rfl, rfl, hh⟩
    · go_wp2_with fail
      refine HS.out.mono ?_
      rintro e w2 ⟨A2, k2, c2, rfl, hz, hb⟩
      have hk2 := hz.zeroLen
      subst hk2
      have HB := Lib.hid hb
      clear hz hb
      go_wp2_with fail
      go_loopw [7, 9, 10] (fun b r i wr => (b = .slice none 0 0 ∧ r = .int .u64 1 ∧ i = .int .i64 0 ∧ w2 = wr) ∨ (∃ v, b = v ∧ r = .int .u64 0 ∧ i = .int .i64 1 ∧ Hid (Row wr w1.heap.size v [49] ∧ Below w1.heap.size w1 wr))) (fun _ _ i _ => 2 - (intOf i).toNat)
      case atStart => exact .inl ⟨rfl, rfl, rfl, rfl⟩
      case round =>
        rcases hrel with ⟨rfl, rfl, rfl, rfl⟩ | ⟨v, rfl, rfl, rfl, hh⟩
        · obtain ⟨i0, hi0, hz0, hz1, hz2⟩ := info_parts infoU
          have HBX := Lib.hid ((Below.refl w2.heap.size w2).alloc (Nat.le_refl _) (.cells #[.int .u8 49] 5))
          have hsz := HB.out.size
          go_wp2_with (at_builtin; refine wpList_append_own _ rfl _ _ 61 rfl w1.heap.size 5 i0 _ 1 1 Tryz.underlying61 hi0 hz0 hz1 hz2 rfl (by omega) (.slice none 0 0) 0 [] rfl (World.ownsRow_nil _ _ _ _) ⟨w2.heap.size, 0, none⟩ 1 1 [.int .u8 49] rfl rfl (byte_new _ 49 _) (by simp [Value.oneCell']) (by simp only [maxLen]; omega) (by omega) (Nat.le_trans hsz HBX.out.size) ?_; intro v' w3 hr3 hg3 ha3; have HR3 := Lib.hid (And.intro hr3 hg3); clear hr3 hg3 ha3)
          go_roundw
          case rel => exact .inr ⟨_, rfl, rfl, rfl, Lib.hid ⟨by have h := HR3.out.1; exact h, (HB.out.trans (HBX.out.mono hsz)).grown HR3.out.2 (Nat.le_trans hsz HBX.out.size) (by simp [Value.ownBlock])⟩⟩
          case measure => simp [intOf]
        · go_wp2_with fail
          go_roundw
          case rel => exact .inr ⟨_, _, _, rfl, rfl, hh⟩
          case measure => simp
    · go_wp2_with fail
      go_ret
      exact ⟨_, rfl, hh.out.1, hh.out.2⟩
theorem Row.one {w : World} {B : Nat} {v : Value} {b : UInt8} (h : Row w B v [b]) : ∃ g c, v = .slice (some ⟨g, 0, none⟩) 1 c ∧ w.cell? ⟨g, 0, none⟩ = some (.int .u8 (b.toNat : Int)) ∧ g < w.heap.size ∧ B ≤ g := by
  have h' : w.ownsRow B 5 1 v 1 [.int .u8 (b.toNat : Int)] := h
  rcases h'.2 with ⟨-, h0⟩ | ⟨g, cap, cur, rfl, hb, hh, -⟩
  · omega
  · have h2 : g < w.heap.size := by
      rcases Nat.lt_or_ge g w.heap.size with q | q
      · exact q
      · rw [Array.getElem?_eq_none q] at hh; cases hh
    exact ⟨g, cap, rfl, World.ownsRow.cellAt h' 0 (by omega), h2, hb⟩
set_option maxRecDepth 8000 in
set_option maxHeartbeats 2000000 in
theorem spread_one (u : Value) (A : Option Addr) (c : Nat) (w : World) (hu : MagN w u 1 1) :
    Calls Tryz.prog 199 #[.slice none 0 0, u, .int .u64 10, .slice A 1 c, .int .i64 0] w fun e w' => ∃ v, e = .returned v ∧ Row w' w.heap.size v [49] ∧ Below w.heap.size w w' := by
  have HP := Lib.hid (plain_one u w hu)
  obtain ⟨A0, k, c0, rfl⟩ := hu.slice
  have hk := hu.one_len (by omega)
  subst hk
  clear hu
  go_enter Tryz.func199, Tryz.ntmps199
  go_wp2_with fail
  refine HP.out.mono ?_
  rintro e w1 ⟨v, rfl, hr, hb⟩
  obtain ⟨g, cg, rfl, hcell, hg1, hg2⟩ := hr.one
  have HB := Lib.hid hb
  clear hr hb
  go_wp2_with fail
  go_loop [0, 32] (fun b i => b = .slice none 0 0 ∧ i = .int .i64 0) (fun _ _ => 0)
  case atStart => exact ⟨rfl, rfl⟩
  case round =>
    obtain ⟨rfl, rfl⟩ := hrel
    go_wp2_with fail
    go_loopw [0, 12] (fun b i wr => (b = .slice none 0 0 ∧ i = .int .i64 0 ∧ w1 = wr) ∨ (∃ v, b = v ∧ i = .int .i64 (-1) ∧ Hid (Row wr w.heap.size v [49] ∧ Below w.heap.size w wr))) (fun _ i _ => (intOf i + 1).toNat)
    case atStart => exact .inl ⟨rfl, rfl, rfl⟩
    case round =>
      rcases hrel with ⟨rfl, rfl, rfl⟩ | ⟨v, rfl, rfl, hh⟩
      · obtain ⟨i0, hi0, hz0, hz1, hz2⟩ := info_parts infoU
        have hcell' : w1.cell? ⟨g, 0, none⟩ = some (.int .u8 49) := hcell
        clear hcell
        have HBX := Lib.hid ((Below.refl w1.heap.size w1).alloc (Nat.le_refl _) (.cells #[.int .u8 49] 5))
        have hsz := HB.out.size
        go_wp2_with (at_builtin; refine wpList_append_own _ rfl _ _ 61 rfl w.heap.size 5 i0 _ 1 1 Tryz.underlying61 hi0 hz0 hz1 hz2 rfl (by omega) (.slice none 0 0) 0 [] rfl (World.ownsRow_nil _ _ _ _) ⟨w1.heap.size, 0, none⟩ 1 1 [.int .u8 49] rfl rfl (byte_new _ 49 _) (by simp [Value.oneCell']) (by simp only [maxLen]; omega) (by omega) (Nat.le_trans hsz HBX.out.size) ?_; intro v' w3 hr3 hg3 ha3; have HR3 := Lib.hid (And.intro hr3 hg3); clear hr3 hg3 ha3)
        go_roundw
        case rel => exact .inr ⟨_, rfl, rfl, Lib.hid ⟨by have h := HR3.out.1; exact h, (HB.out.trans (HBX.out.mono hsz)).grown HR3.out.2 (Nat.le_trans hsz HBX.out.size) (by simp [Value.ownBlock])⟩⟩
        case measure => simp [intOf]
      · go_wp2_with fail
        go_ret
        exact ⟨_, rfl, hh.out.1, hh.out.2⟩
theorem infoSc : (Tryz.prog.info? 239).map (fun i => (i.zero, i.size, i.bytes)) = some (some (.agg #[.slice none 0 0, .int .i64 0]), 2, 32) := by kernel_rfl
theorem own_slice {w : World} {B e size : Nat} {v : Value} {k : Nat} {xs : List Value} (h : w.ownsRow B e size v k xs) : ∃ A c, v = .slice A k c := by
  rcases h.2 with ⟨h1, h2⟩ | ⟨g, cap, cur, h1, -⟩
  · exact ⟨none, 0, by rw [h1, h2]⟩
  · exact ⟨_, _, h1⟩
theorem MagN.two_len {w : World} {A : Option Addr} {k c n : Nat} (h : MagN w (.slice A k c) n 2) (hn : 18446744073709551616 ≤ n) : k = 2 := by
  have h2 := h.len.2.2
  obtain ⟨ws, g1, g2, g3, g4⟩ := h
  have hl := g1.lenN
  rcases Nat.lt_or_ge k 2 with q | q
  · exfalso
    have := one_lt (w := w) (v := .slice A k c) (n := n) ⟨ws, g1, g2, g3, by omega⟩
    omega
  · omega
theorem two_new (w : World) (x y : Value) (T : TypeId) : ∀ j u, [x, y][j]? = some u → (w.alloc (.cells #[x, y] T)).cell? ((⟨w.heap.size, 0, none⟩ : Addr).add j) = some u := by
  intro j u h
  have hj : j < 2 := (List.getElem?_eq_some_iff.1 h).1
  rcases j with _ | _ | j
  · simp at h; subst h; simp [go_sem, Addr.add]
  · simp at h; subst h; simp [go_sem, Addr.add]
  · omega
set_option maxRecDepth 8000 in
set_option maxHeartbeats 2000000 in
theorem text_one (u : Value) (w : World) (hu : MagN w u 1 1) :
    Calls Tryz.prog 181 #[u, .int .i64 10] w fun e w' => e = .returned (.string ⟨#[49]⟩) ∧ Below w.heap.size w w' := by
  have HU := Lib.hid (unit_ten w)
  have HW := Lib.hid (word_any 10000000000000000000 w (by omega))
  have HX := Lib.hid hu
  obtain ⟨A0, k, c0, rfl⟩ := hu.slice
  have hk := hu.one_len (by omega)
  subst hk
  clear hu
  go_enter Tryz.func181, Tryz.ntmps181
  go_wp2_with fail
  refine HU.out.mono ?_
  rintro e w1 ⟨rfl, rfl⟩
  go_wp2_with fail
  refine HW.out.mono ?_
  rintro e w2 ⟨v, rfl, hv, hb⟩
  obtain ⟨A1, k1, c1, rfl⟩ := hv.slice
  have hk := hv.one_len (by omega)
  subst hk
  have HB := Lib.hid (And.intro hv hb)
  clear hv hb
  go_wp2_with fail
  have HB1 := Lib.hid ((Below.refl w2.heap.size w2).alloc (Nat.le_refl _) (.cells #[.slice A1 1 c1, .int .i64 19] 239))
  go_loopw [7, 8] (fun l p wr => (l = .slice none 0 0 ∧ p = .pointer (some ⟨w2.heap.size, 0, none⟩) ∧ w2.alloc (.cells #[.slice A1 1 c1, .int .i64 19] 239) = wr) ∨ (∃ A' c' b A2 c2, l = .slice A' 1 c' ∧ p = .pointer (some ⟨b, 0, none⟩) ∧ wr.cell? ⟨b, 0, none⟩ = some (.slice A2 2 c2) ∧ Hid (MagN wr (.slice A0 1 c0) 1 1 ∧ Below w1.heap.size w1 wr))) (fun l _ _ => match l with | .slice _ k _ => 1 - k | _ => 0)
  case atStart => exact .inl ⟨rfl, rfl, rfl⟩
  case round =>
    rcases hrel with ⟨rfl, rfl, rfl⟩ | ⟨A', c', b, A2, c2, rfl, rfl, hcell, hh⟩
    · obtain ⟨i0, hi0, hz0, hz1, hz2⟩ := info_parts infoSc
      obtain ⟨w3, hw3⟩ : ∃ w3, w2.alloc (.cells #[.slice A1 1 c1, .int .i64 19] 239) = w3 := ⟨_, rfl⟩
      have hc0 : w3.cell? ⟨w2.heap.size, 0, none⟩ = some (.slice A1 1 c1) := by rw [← hw3]; simp [go_sem]
      have hc1 : w3.cell? ⟨w2.heap.size, 1, none⟩ = some (.int .i64 19) := by rw [← hw3]; simp [go_sem]
      have hlt : w2.heap.size < w3.heap.size := by rw [← hw3]; simp
      rw [hw3] at HB1 ⊢
      have HBX := Lib.hid ((Below.refl w3.heap.size w3).alloc (Nat.le_refl _) (.cells #[.slice A1 1 c1, .int .i64 19] 239))
      have hsz := HB1.out.size
      clear hw3
      go_wp2_with (at_builtin; refine wpList_append_own _ rfl _ _ 237 rfl w3.heap.size 239 i0 _ 2 32 Tryz.underlying237 hi0 hz0 hz1 hz2 rfl (by omega) (.slice none 0 0) 0 [] rfl (World.ownsRow_nil _ _ _ _) ⟨w3.heap.size, 0, none⟩ 1 1 [.slice A1 1 c1, .int .i64 19] rfl rfl (two_new _ _ _ _) (by simp [Value.oneCell']) (by simp only [maxLen]; omega) (by omega) HBX.out.size ?_; intro v' w4 hr3 hg3 ha3; obtain ⟨A', c', hv'⟩ := own_slice hr3; subst hv'; have HR3 := Lib.hid (And.intro hr3 (show Below w3.heap.size w3 w4 from HBX.out.grown hg3 HBX.out.size (by simp [Value.ownBlock]))); clear hr3 hg3 ha3; have hp0 := (HR3.out.2.cell (p := ⟨w2.heap.size, 0, none⟩) hlt).trans hc0; have hp1 := (HR3.out.2.cell (p := ⟨w2.heap.size, 1, none⟩) hlt).trans hc1)
      obtain ⟨w5, hw5⟩ : ∃ w5, w4.alloc (.cells #[.slice A1 1 c1, .int .i64 19] 239) = w5 := ⟨_, rfl⟩
      obtain ⟨pb, hpb⟩ : ∃ pb, w4.heap.size = pb := ⟨_, rfl⟩
      have hq0 : w5.cell? ⟨pb, 0, none⟩ = some (.slice A1 1 c1) := by rw [← hw5, ← hpb]; simp [go_sem]
      have hq1 : w5.cell? ⟨pb, 1, none⟩ = some (.int .i64 19) := by rw [← hw5, ← hpb]; simp [go_sem]
      have hf0 : w5.frozen? ⟨pb, 0, none⟩ = false := by rw [← hw5, ← hpb]; simp [go_sem]
      have hf1 : w5.frozen? ⟨pb, 1, none⟩ = false := by rw [← hw5, ← hpb]; simp [go_sem]
      have hpl : pb < w5.heap.size := by rw [← hw5, ← hpb]; simp
      have HB5 : Hid (Below w4.heap.size w4 w5) := Lib.hid (by rw [← hw5]; exact (Below.refl _ _).alloc (Nat.le_refl _) _)
      have HBW : Hid (Below w2.heap.size w2 w5) := Lib.hid ((HB1.out.trans (HR3.out.2.mono hsz)).trans (HB5.out.mono (Nat.le_trans hsz HR3.out.2.size)))
      have HBV : Hid (Below w1.heap.size w1 w5) := Lib.hid (HB.out.2.trans (HBW.out.mono HB.out.2.size))
      have HX1 := HX
      have HPB : Hid (w1.heap.size ≤ pb) := Lib.hid (by rw [← hpb]; exact Nat.le_trans HB.out.2.size (Nat.le_trans hsz HR3.out.2.size))
      have HM5 := Lib.hid (HB.out.1.below HBW.out)
      have HTM := Lib.hid (fun j => times_mag (.slice A1 1 c1) (.slice A1 1 c1) 10000000000000000000 10000000000000000000 1 1 (w5.drewN j) (show MagN (w5.drewN j) _ _ 1 from HM5.out) (show MagN (w5.drewN j) _ _ 1 from HM5.out) (by omega) (by omega))
      rw [hw5, hpb]

      clear hp0 hp1 hw5 hc0 hc1
      go_region_with (go_at_call 134; refine (HTM.out _).mono ?_; rintro e w6 ⟨x, rfl, hx, hbx⟩; obtain ⟨A2, k2, c2, rfl⟩ := hx.slice; have hk2 := hx.two_len (by omega); subst hk2; have y0 := (hbx.cell (p := ⟨pb, 0, none⟩) hpl).trans hq0; have y1 := (hbx.cell (p := ⟨pb, 1, none⟩) hpl).trans hq1; have y2 := (hbx.frozen (p := ⟨pb, 0, none⟩) hpl).trans hf0; have y3 := (hbx.frozen (p := ⟨pb, 1, none⟩) hpl).trans hf1; have HX := Lib.hid (show Below w1.heap.size w1 w6 from HBV.out.trans ((show Below w5.heap.size w5 w6 from (below_dN (Below.refl _ _) _).trans hbx).mono HBV.out.size)); clear hx hbx)
      all_goals go_roundw
      all_goals first
        | (simp; done)
        | (have HG := Lib.hid ((HX.out.setCell (p := ⟨pb, 0, none⟩) HPB.out (.slice A2 2 c2)).setCell (p := ⟨pb, 1, none⟩) HPB.out (.int .i64 (IntKind.i64.wrap 38)))
           exact ⟨_, _, _, _, _, _, _, _, _, _, _, _, _, _, _, _, _, _, _, _, _, _, _, _, .inr ⟨_, _, pb, A2, c2, rfl, rfl, by simp [go_sem, y0], Lib.hid ⟨HX1.out.below HG.out, HG.out⟩⟩, rfl⟩)
    · have HS := Lib.hid (spread_one _ A' c' wr hh.out.1)
      go_wp2_with fail
      refine HS.out.mono ?_
      rintro e w3 ⟨v, rfl, hr, hb⟩
      obtain ⟨g, cg, rfl, hce, hg1, hg2⟩ := hr.one
      have HB3 := Lib.hid hb
      clear hr hb
      have hcz : ∀ i, i < 1 → w3.cell? ⟨g, 0 + i, none⟩ = some (.int .u8 (([49] : List Int).getD i 0)) := by
        intro i hi
        obtain rfl : i = 0 := by omega
        exact hce
      have hconv := run_convert_bytes_arg (P := Tryz.prog) w3 61 5 Tryz.underlying61 Tryz.underlying5 g 0 1 cg [49] rfl hcz 9 Tryz.underlying9
      rw [show strOfNums [49] = ⟨#[49]⟩ from rfl] at hconv
      clear hcz
      go_wp2_with fail
      go_ret
      exact ⟨rfl, hh.out.2.trans (HB3.out.mono hh.out.2.size)⟩
end Go.Proofs.YtbidlkmagbjllaaGreatDoor.Nb

namespace Go.Proofs.YtbidlkmagbjllaaGreatDoor.Nb
open Go Go.RowKit

theorem sum_end' {a b os : List Nat} {n c : Nat} (h : SumSt a b os n c) (ha : a.length ≤ n) (hb : b.length ≤ n) (hn : os.length = n + 1) : val (os.set n c) = val a + val b := by
  unfold SumSt at h
  rw [List.take_of_length_le (l := a) (by omega), List.take_of_length_le (l := b) (by omega)] at h
  have h1 := val_take_succ' (os.set n c) n
  rw [List.take_of_length_le (by rw [List.length_set]; omega), set_take, set_getD (by omega)] at h1
  omega
def SumW (w : World) (g n : Nat) (a b : List Nat) (i c : Nat) (wr : World) : Prop :=
  ∃ os, Blk wr g os ∧ os.length = n + 1 ∧ W64 os ∧ SumSt a b os i c ∧ Below g w wr

set_option maxRecDepth 8000 in
set_option maxHeartbeats 2000000 in
theorem sum_core (A B : Option Addr) (n m ca cb : Nat) (a b : List Nat) (w : World) (ha : Mag w (.slice A n ca) a) (hb : Mag w (.slice B m cb) b) (hl : n ≤ 1073741824) (hm : m ≤ 1073741824) :
    Calls Tryz.prog 177 #[.slice A n ca, .slice B m cb] w (Num w (val a + val b) (max n m + 1)) := by
  have hla := ha.lenN
  have hlb := hb.lenN
  have HA := Lib.hid ha
  have HB := Lib.hid hb
  have HL := Lib.hid (And.intro hla hlb)
  obtain ⟨N, hN⟩ : ∃ N, max n m = N := ⟨_, rfl⟩
  have hNi : max (n : Int) (m : Int) = (N : Int) := by omega
  have hNb : n ≤ N ∧ m ≤ N ∧ N ≤ 1073741824 := by omega
  have hmk := run_make_row' (P := Tryz.prog) 100 74 (.int .u64 0) 8 Tryz.underlying100 infoW rfl .i64 .i64 (N + 1) (by omega) (by omega)
  rw [show ((N + 1 : Nat) : Int) = (N : Int) + 1 from by omega] at hmk
  rw [hN]
  obtain ⟨hN1, hN2, hN3⟩ := hNb
  clear ha hb hla hlb hN
  go_enter Tryz.func177, Tryz.ntmps177
  go_wp2_with fail
  clear hmk
  have H0 := Lib.hid (show SumW w w.heap.size N a b 0 0 (w.alloc (.cells (madeCells #[.int .u64 0] (N + 1)) 74)) from ⟨_, Blk.made w (N + 1), by simp, W64.rep _, by simp [SumSt, val], (Below.refl _ _).alloc (Nat.le_refl _) _⟩)
  go_loopw [7, 18] (fun cy i wr => ∃ k cc : Nat, k ≤ N ∧ i = .int .i64 k ∧ cy = .int .u64 cc ∧ cc ≤ 1 ∧ Hid (SumW w w.heap.size N a b k cc wr)) (fun _ i _ => N - (intOf i).toNat)
  case atStart => exact ⟨0, 0, Nat.zero_le _, rfl, rfl, by omega, H0⟩
  case round =>
    obtain ⟨k, cc, hk, rfl, rfl, hcc, hp⟩ := hrel
    by_cases hlt : k < N
    · obtain ⟨os, hbk, hlen, hw, hst, hbel⟩ := hp.out
      have HO := Lib.hid (And.intro hbk (And.intro hlen (And.intro hw (And.intro hst hbel))))
      have hfr : wr.frozen? ⟨w.heap.size, k, none⟩ = false := hbk.frozen k
      obtain ⟨o, ho⟩ : ∃ o, os.getD k 0 = o := ⟨_, rfl⟩
      have hco : wr.cell? ⟨w.heap.size, k, none⟩ = some (.int .u64 (o : Nat)) := by rw [← ho]; exact hbk.cell (by omega)
      have HDA := Lib.hid (digit_any A n ca k a wr (HA.out.below hbel) (by omega))
      have HDB := Lib.hid (digit_any B m cb k b wr (HB.out.below hbel) (by omega))
      obtain ⟨x, ex⟩ : ∃ x, a.getD k 0 = x := ⟨_, rfl⟩
      have wx := HA.out.w32.get k
      rw [ex] at HDA wx
      obtain ⟨y, ey⟩ : ∃ y, b.getD k 0 = y := ⟨_, rfl⟩
      have wy := HB.out.w32.get k
      rw [ey] at HDB wy
      have EX := Lib.hid (And.intro ex ey)
      have hadd := add_run x y cc hcc
      obtain ⟨t, ht⟩ : ∃ t, x + y + cc = t := ⟨_, rfl⟩
      rw [ht] at hadd
      obtain ⟨tl, htl⟩ : ∃ h, t % 18446744073709551616 = h := ⟨_, rfl⟩
      obtain ⟨th, hth⟩ : ∃ h, t / 18446744073709551616 = h := ⟨_, rfl⟩
      rw [htl, hth] at hadd
      have HT := Lib.hid (And.intro ht (And.intro htl (And.intro hth (show th ≤ 1 by omega))))
      clear hbk hlen hw hst hbel ex ey ho ht htl hth
      go_wp2_with fail
      refine HDA.out.mono ?_
      rintro e w9 ⟨rfl, rfl⟩
      go_wp2_with fail
      refine HDB.out.mono ?_
      rintro e w9 ⟨rfl, rfl⟩
      go_wp2_with fail
      go_roundw
      case rel => exact ⟨k + 1, th, by omega, by go_num, rfl, HT.out.2.2.2, Lib.hid ⟨os.set k tl, blk_end HO.out.1 rfl, by rw [List.length_set]; exact HO.out.2.1, HO.out.2.2.1.set (by have := HT.out; omega), by
        have h := sum_step (s := t) HO.out.2.2.2.1 (by have := HO.out.2.1; omega) (by rw [EX.out.1, EX.out.2, ← HT.out.1]; omega)
        rw [HT.out.2.1, HT.out.2.2.1] at h
        exact h, HO.out.2.2.2.2.setCell (p := ⟨w.heap.size, k, none⟩) (Nat.le_refl _) _⟩⟩
      case measure => simp [intOf]; omega
    · obtain rfl : k = N := by omega
      obtain ⟨os, hbk, hlen, hw, hst, hbel⟩ := hp.out
      have hfr : wr.frozen? ⟨w.heap.size, k, none⟩ = false := hbk.frozen k
      obtain ⟨o, ho⟩ : ∃ o, os.getD k 0 = o := ⟨_, rfl⟩
      have hco : wr.cell? ⟨w.heap.size, k, none⟩ = some (.int .u64 (o : Nat)) := by rw [← ho]; exact hbk.cell (by omega)
      have hbk2 := blk_end (k := k) (y := cc) hbk rfl
      have hms := hbk2.mag (hw.set (by omega)) (by rw [List.length_set]; omega)
      have hv := sum_end' hst (by have := HL.out; omega) (by have := HL.out; omega) hlen
      have HB2 := Lib.hid (hbel.setCell (p := ⟨w.heap.size, k, none⟩) (Nat.le_refl _) (.int .u64 (cc : Int)))
      have HM := Lib.hid (norm_any _ _ _ hms)
      rw [hv, List.length_set, hlen] at HM
      clear hbk hlen hw hst hbel hms hbk2 hv ho
      go_wp2_with fail
      refine HM.out.mono ?_
      rintro e w2 ⟨A2, k2, c2, -, rfl, hm2, rfl⟩
      have HF := Lib.hid hm2
      clear hm2
      go_wp2_with fail
      go_ret
      exact ⟨_, rfl, HF.out, HB2.out⟩

theorem sum_mag (u v : Value) (m n L L' : Nat) (w : World) (hu : MagN w u m L) (hv : MagN w v n L') (hL : L ≤ 1073741824) (hL' : L' ≤ 1073741824) :
    Calls Tryz.prog 177 #[u, v] w (Num w (m + n) (max L L' + 1)) := by
  obtain ⟨a, h1, h2, rfl, h4⟩ := hu
  obtain ⟨b, g1, g2, rfl, g4⟩ := hv
  have h1' := h1
  have g1' := g1
  obtain ⟨A, ca, rfl, -⟩ := h1
  obtain ⟨B, cb, rfl, -⟩ := g1
  exact (sum_core A B a.length b.length ca cb a b w h1' g1' (by omega) (by omega)).mono fun e w' ⟨x, he, hx, hb⟩ => ⟨x, he, hx.more (by omega), hb⟩
theorem sum_one (u v : Value) (m n : Nat) (w : World) (hu : MagN w u m 1) (hv : MagN w v n 1) (h : m + n < 18446744073709551616) :
    Calls Tryz.prog 177 #[u, v] w (Num w (m + n) 1) :=
  (sum_mag u v m n 1 1 w hu hv (by omega) (by omega)).mono fun e w' ⟨x, a, b, d⟩ => ⟨x, a, b.less (by rw [Nat.pow_one]; exact h), d⟩

def DifW (w : World) (g n : Nat) (a b : List Nat) (i c : Nat) (wr : World) : Prop :=
  ∃ os, Blk wr g os ∧ os.length = n ∧ W64 os ∧ DifSt a b os i c ∧ Below g w wr
theorem dif_step {a b os : List Nat} {i c x y o c' : Nat} (h : DifSt a b os i c) (hi : i < os.length) (hc : c ≤ 1) (hx : a.getD i 0 = x) (hy : b.getD i 0 = y) (wx : x < 18446744073709551616) (wy : y < 18446744073709551616)
    (ho : (x + 18446744073709551616 - y - c) % 18446744073709551616 = o) (hc' : (if x < y + c then 1 else 0 : Nat) = c') : DifSt a b (os.set i o) (i + 1) c' := by
  subst hx hy
  by_cases q : a.getD i 0 < b.getD i 0 + c
  · rw [if_pos q] at hc'
    subst hc'
    have h1 := dif_yes h hi (by omega) (by omega)
    rw [show o = a.getD i 0 + 18446744073709551616 - (c + b.getD i 0) by omega]
    exact h1
  · rw [if_neg q] at hc'
    subst hc'
    have h1 := dif_no h hi (by omega)
    rw [show o = a.getD i 0 - (c + b.getD i 0) by omega]
    exact h1
set_option maxRecDepth 8000 in
set_option maxHeartbeats 2000000 in
theorem less_core (A B : Option Addr) (n m ca cb : Nat) (a b : List Nat) (w : World) (ha : Mag w (.slice A n ca) a) (hb : Mag w (.slice B m cb) b) (hl : n ≤ 1073741824) (hm : m ≤ n) (hle : val b ≤ val a) :
    Calls Tryz.prog 178 #[.slice A n ca, .slice B m cb] w (Num w (val a - val b) n) := by
  have hla := ha.lenN
  have hlb := hb.lenN
  have HA := Lib.hid ha
  have HB := Lib.hid hb
  have HL := Lib.hid (And.intro hla (And.intro hlb hle))
  have hmk := run_make_row' (P := Tryz.prog) 100 74 (.int .u64 0) 8 Tryz.underlying100 infoW rfl .i64 .i64 n (by omega) (by omega)
  clear ha hb hla hlb hle
  go_enter Tryz.func178, Tryz.ntmps178
  go_wp2_with fail
  clear hmk
  have H0 := Lib.hid (show DifW w w.heap.size n a b 0 0 (w.alloc (.cells (madeCells #[.int .u64 0] n) 74)) from ⟨_, Blk.made w n, by simp, W64.rep _, by simp [DifSt, val], (Below.refl _ _).alloc (Nat.le_refl _) _⟩)
  go_loopw [6, 13] (fun cy i wr => ∃ k cc : Nat, k ≤ n ∧ i = .int .i64 k ∧ cy = .int .u64 cc ∧ cc ≤ 1 ∧ Hid (DifW w w.heap.size n a b k cc wr)) (fun _ i _ => n - (intOf i).toNat)
  case atStart => exact ⟨0, 0, Nat.zero_le _, rfl, rfl, by omega, H0⟩
  case round =>
    obtain ⟨k, cc, hk, rfl, rfl, hcc, hp⟩ := hrel
    by_cases hlt : k < n
    · obtain ⟨os, hbk, hlen, hw, hst, hbel⟩ := hp.out
      have HO := Lib.hid (And.intro hbk (And.intro hlen (And.intro hw (And.intro hst hbel))))
      have hfr : wr.frozen? ⟨w.heap.size, k, none⟩ = false := hbk.frozen k
      obtain ⟨o, ho⟩ : ∃ o, os.getD k 0 = o := ⟨_, rfl⟩
      have hco : wr.cell? ⟨w.heap.size, k, none⟩ = some (.int .u64 (o : Nat)) := by rw [← ho]; exact hbk.cell (by omega)
      have HDB := Lib.hid (fun j => digit_any B m cb k b (wr.drewN j) (show Mag wr _ b from HB.out.below hbel) (by omega))
      obtain ⟨b1, o1, e1, hb1, hc1⟩ := HA.out.at hlt
      subst e1
      have hx := (hbel.cell (p := ⟨b1, o1 + k, none⟩) hb1).trans hc1
      obtain ⟨x, ex⟩ : ∃ x, a.getD k 0 = x := ⟨_, rfl⟩
      have wx := HA.out.w32.get k
      rw [ex] at hx wx
      obtain ⟨y, ey⟩ : ∃ y, b.getD k 0 = y := ⟨_, rfl⟩
      have wy := HB.out.w32.get k
      rw [ey] at HDB wy
      have EX := Lib.hid (And.intro ex ey)
      have hsub := sub_run x y cc hcc
      obtain ⟨tl, htl⟩ : ∃ h, (x + 18446744073709551616 - y - cc) % 18446744073709551616 = h := ⟨_, rfl⟩
      obtain ⟨th, hth⟩ : ∃ h, (if x < y + cc then 1 else 0 : Nat) = h := ⟨_, rfl⟩
      rw [htl, hth] at hsub
      have HT := Lib.hid (And.intro htl (And.intro hth (And.intro (show th ≤ 1 by rw [← hth]; split <;> omega) (And.intro wx wy))))
      clear hbk hlen hw hst hbel ex ey ho htl hth hc1 hb1
      go_wp2_with fail
      go_region_with (go_at_call 137; refine (HDB.out _).mono ?_; rintro e w9 ⟨rfl, rfl⟩)
      all_goals go_wp2_with fail
      all_goals go_roundw
      all_goals first
        | (simp [intOf]; omega)
        | exact ⟨k + 1, th, by omega, by go_num, rfl, HT.out.2.2.1, Lib.hid ⟨os.set k tl, blk_end HO.out.1 rfl, by rw [List.length_set]; exact HO.out.2.1, HO.out.2.2.1.set (by have := HT.out.1; omega), dif_step HO.out.2.2.2.1 (by have := HO.out.2.1; omega) hcc EX.out.1 EX.out.2 HT.out.2.2.2.1 HT.out.2.2.2.2 HT.out.1 HT.out.2.1, (below_dN HO.out.2.2.2.2 1).setCell (p := ⟨w.heap.size, k, none⟩) (Nat.le_refl _) _⟩⟩
    · obtain rfl : k = n := by omega
      obtain ⟨os, hbk, hlen, hw, hst, hbel⟩ := hp.out
      have hms := hbk.mag hw (by omega)
      have hv := dif_end hst HL.out.1.symm (by have := HL.out; omega) hlen hw HL.out.2.2
      have HB2 := Lib.hid hbel
      have HM := Lib.hid (norm_any _ _ _ hms)
      rw [hv, hlen] at HM
      clear hbk hlen hw hst hbel hms hv
      go_wp2_with fail
      refine HM.out.mono ?_
      rintro e w2 ⟨A2, k2, c2, -, rfl, hm2, rfl⟩
      have HF := Lib.hid hm2
      clear hm2
      go_wp2_with fail
      go_ret
      exact ⟨_, rfl, HF.out, HB2.out⟩
/-- less: of two numbers of one word, the second not above the first -/
theorem less_one (u v : Value) (m n : Nat) (w : World) (hu : MagN w u m 1) (hv : MagN w v n 1) (hle : n ≤ m) :
    Calls Tryz.prog 178 #[u, v] w (Num w (m - n) 1) := by
  obtain ⟨a, h1, h2, rfl, h4⟩ := hu
  obtain ⟨b, g1, g2, rfl, g4⟩ := hv
  have h1' := h1
  have g1' := g1
  have hab : b.length ≤ a.length := by
    rcases Nat.lt_or_ge a.length b.length with q | q
    · exfalso
      have h3 : a = [] := List.eq_nil_of_length_eq_zero (by omega)
      subst h3
      have := norm_pos g2 (by omega)
      simp [val] at hle
      omega
    · exact q
  obtain ⟨A, ca, rfl, -⟩ := h1
  obtain ⟨B, cb, rfl, -⟩ := g1
  exact (less_core A B a.length b.length ca cb a b w h1' g1' (by omega) hab hle).mono fun e w' ⟨x, he, hx, hb⟩ => ⟨x, he, hx.more (by omega), hb⟩
end Go.Proofs.YtbidlkmagbjllaaGreatDoor.Nb

namespace Go.Proofs.YtbidlkmagbjllaaGreatDoor.Nb
open Go Go.RowKit

/-- the whole number lies in block b from place o on: its sign, its amount of one word -/
def IntN (w : World) (b o : Nat) (neg : Bool) (n : Nat) : Prop :=
  b < w.heap.size ∧ w.cell? ⟨b, o, none⟩ = some (.bool neg) ∧ ∃ A k c, w.cell? ⟨b, o + 1, none⟩ = some (.slice A k c) ∧ MagN w (.slice A k c) n 1
/-- a whole number can be written there -/
def ISlot (w : World) (b o : Nat) : Prop :=
  b < w.heap.size ∧ (∃ neg, w.cell? ⟨b, o, none⟩ = some (.bool neg)) ∧ (∃ A k c, w.cell? ⟨b, o + 1, none⟩ = some (.slice A k c)) ∧ w.frozen? ⟨b, o, none⟩ = false ∧ w.frozen? ⟨b, o + 1, none⟩ = false
theorem IntN.below {w w' : World} {b o n B : Nat} {neg : Bool} (h : IntN w b o neg n) (hb : Below B w w') (hB : w.heap.size ≤ B) : IntN w' b o neg n := by
  obtain ⟨h1, h2, A, k, c, h3, h4⟩ := h
  have hb' := hb.mono hB
  exact ⟨Nat.lt_of_lt_of_le h1 hb.size, (hb.cell (p := ⟨b, o, none⟩) (show b < B by omega)).trans h2, A, k, c, (hb.cell (p := ⟨b, o + 1, none⟩) (show b < B by omega)).trans h3, h4.below hb'⟩
theorem ISlot.below {w w' : World} {b o B : Nat} (h : ISlot w b o) (hb : Below B w w') (hB : w.heap.size ≤ B) : ISlot w' b o := by
  obtain ⟨h1, ⟨neg, h2⟩, ⟨A, k, c, h3⟩, h4, h5⟩ := h
  have q : b < B := by omega
  exact ⟨Nat.lt_of_lt_of_le h1 hb.size, ⟨neg, (hb.cell (p := ⟨b, o, none⟩) q).trans h2⟩, ⟨A, k, c, (hb.cell (p := ⟨b, o + 1, none⟩) q).trans h3⟩, (hb.frozen (p := ⟨b, o, none⟩) q).trans h4, (hb.frozen (p := ⟨b, o + 1, none⟩) q).trans h5⟩
/-- words stand where they stood, whatever is written over a cell that holds no word -/
theorem MagN.set {w : World} {v : Value} {n L : Nat} (h : MagN w v n L) {p : Addr} {x y : Value} (hp : w.cell? p = some y) (hy : ∀ k i, y ≠ .int k i) : MagN (w.setCell p x) v n L := by
  obtain ⟨ws, h1, h2⟩ := h
  refine ⟨ws, h1.keep (by simp [World.setCell]) (fun q k i _ hc => ?_), h2⟩
  rw [World.cell?_setCell_other]
  · exact hc
  · rintro rfl
    rw [hp] at hc
    injection hc with hc
    exact hy _ _ hc
def put (w : World) (b o : Nat) (neg : Bool) (v : Value) : World := (w.setCell ⟨b, o, none⟩ (.bool neg)).setCell ⟨b, o + 1, none⟩ v
theorem ISlot.magN {w : World} {b o : Nat} (h : ISlot w b o) {v : Value} {n L : Nat} (hm : MagN w v n L) (neg : Bool) (x : Value) : MagN (put w b o neg x) v n L := by
  obtain ⟨h1, ⟨neg', h2⟩, ⟨A, k, c, h3⟩, h4, h5⟩ := h
  refine (hm.set h2 (by intros; simp)).set (y := .slice A k c) ?_ (by intros; simp)
  rw [World.cell?_setCell_other _ _ _ _ (by simp)]
  exact h3
theorem ISlot.lay {w : World} {b o : Nat} (h : ISlot w b o) {A : Option Addr} {k c n : Nat} (hm : MagN w (.slice A k c) n 1) (neg : Bool) : IntN (put w b o neg (.slice A k c)) b o neg n ∧ ISlot (put w b o neg (.slice A k c)) b o := by
  have hk := h.magN hm neg (.slice A k c)
  obtain ⟨h1, ⟨neg', h2⟩, ⟨A', k', c', h3⟩, h4, h5⟩ := h
  have e0 : (put w b o neg (.slice A k c)).cell? ⟨b, o, none⟩ = some (.bool neg) := by simp [put, go_sem, h2]
  have e1 : (put w b o neg (.slice A k c)).cell? ⟨b, o + 1, none⟩ = some (.slice A k c) := by simp [put, go_sem, h3]
  have es : b < (put w b o neg (.slice A k c)).heap.size := by simpa [put, World.setCell] using h1
  exact ⟨⟨es, e0, A, k, c, e1, hk⟩, es, ⟨neg, e0⟩, ⟨A, k, c, e1⟩, by simp [put, go_sem, h4], by simp [put, go_sem, h5]⟩
theorem below_put {B : Nat} {w w' : World} (h : Below B w w') {b o : Nat} (hb : B ≤ b) (neg : Bool) (v : Value) : Below B w (put w' b o neg v) :=
  (h.setCell (p := ⟨b, o, none⟩) hb _).setCell (p := ⟨b, o + 1, none⟩) hb _
theorem put_cell {w : World} {b o b' o' : Nat} (neg : Bool) (v : Value) (h : b' ≠ b ∨ (o' ≠ o ∧ o' ≠ o + 1)) : (put w b o neg v).cell? ⟨b', o', none⟩ = w.cell? ⟨b', o', none⟩ := by
  unfold put
  rw [World.cell?_setCell_other _ _ _ _ (by intro e; injection e with e1 e2; omega), World.cell?_setCell_other _ _ _ _ (by intro e; injection e with e1 e2; omega)]

set_option maxRecDepth 8000 in
theorem made_any (b o : Nat) (neg : Bool) (A : Option Addr) (k c : Nat) (w : World) (h : ISlot w b o) :
    Calls Tryz.prog 101 #[.pointer (some ⟨b, o, none⟩), .bool neg, .slice A k c] w fun e w' => e = .returned (.pointer (some ⟨b, o, none⟩)) ∧ w' = put w b o (neg && decide (0 < k)) (.slice A k c) := by
  obtain ⟨h1, ⟨neg', h2⟩, ⟨A', k', c', h3⟩, h4, h5⟩ := h
  rcases neg with _ | _
  · go_enter Tryz.func101, Tryz.ntmps101
    go_wp2_with fail
    go_ret
    exact ⟨rfl, rfl⟩
  · go_enter Tryz.func101, Tryz.ntmps101
    go_wp2_with fail
    go_ret
    exact ⟨rfl, rfl⟩
theorem ISlot.new (w : World) (t : TypeId) : ISlot (w.alloc (.cells #[.bool false, .slice none 0 0] t)) w.heap.size 0 := by
  refine ⟨by simp, ⟨false, by simp [go_sem]⟩, ⟨none, 0, 0, by simp [go_sem]⟩, by simp [go_sem], by simp [go_sem]⟩

/-- the answer of a setter: the number is written there, nothing below its block has turned -/
def Wrote1 (w : World) (b o : Nat) (neg : Bool) (n : Nat) (e : Ending) (w' : World) : Prop :=
  e = .returned (.pointer (some ⟨b, o, none⟩)) ∧ IntN w' b o neg n ∧ ISlot w' b o ∧ Below b w w'

set_option maxRecDepth 8000 in
/-- the last step of a setter: a number in new memory is written -/
theorem made_num (b o n : Nat) (neg : Bool) (A : Option Addr) (k c : Nat) (w : World) (h : ISlot w b o) (hm : MagN w (.slice A k c) n 1) (hn : neg = true → n ≠ 0) :
    Calls Tryz.prog 101 #[.pointer (some ⟨b, o, none⟩), .bool neg, .slice A k c] w (Wrote1 w b o neg n) := by
  refine (made_any b o neg A k c w h).mono ?_
  rintro e w' ⟨rfl, rfl⟩
  have hq : (neg && decide (0 < k)) = neg := by
    rcases neg with _ | _
    · rfl
    · have h1 := hm.len.1
      have h2 : 0 < k := by
        rcases Nat.eq_zero_or_pos k with q | q
        · exact absurd (h1 q) (hn rfl)
        · exact q
      simp [h2]
  rw [hq]
  have h2 := h.lay hm neg
  exact ⟨rfl, h2.1, h2.2, below_put (Below.refl _ _) (Nat.le_refl _) _ _⟩
theorem Wrote1.after {w w1 w' : World} {b o n : Nat} {neg : Bool} {e : Ending} (h : Wrote1 w1 b o neg n e w') (hb : Below b w w1) : Wrote1 w b o neg n e w' :=
  ⟨h.1, h.2.1, h.2.2.1, hb.trans h.2.2.2⟩
set_option maxRecDepth 8000 in
theorem setUint_any (b o n : Nat) (w : World) (h : ISlot w b o) (hn : n < 18446744073709551616) :
    Calls Tryz.prog 89 #[.pointer (some ⟨b, o, none⟩), .int .u64 (n : Int)] w (Wrote1 w b o false n) := by
  have HW := Lib.hid (word_any n w hn)
  have H := Lib.hid h
  clear h
  go_enter Tryz.func89, Tryz.ntmps89
  go_wp2_with fail
  refine HW.out.mono ?_
  rintro e w1 ⟨v, rfl, hm, hb⟩
  obtain ⟨A, k, c, rfl⟩ := hm.slice
  have HM := Lib.hid (made_num b o n false A k c w1 (H.out.below hb (Nat.le_refl _)) hm (by simp))
  have HB := Lib.hid (hb.mono (Nat.le_of_lt H.out.1))
  clear hm hb
  go_wp2_with fail
  refine HM.out.mono ?_
  rintro e w2 ⟨rfl, h1, h2, h3⟩
  have HF := Lib.hid (And.intro h1 (And.intro h2 h3))
  clear h1 h2 h3
  go_wp2_with fail
  go_ret
  exact ⟨rfl, HF.out.1, HF.out.2.1, HB.out.trans HF.out.2.2⟩
set_option maxRecDepth 8000 in
theorem setInt_any (b o n : Nat) (w : World) (h : ISlot w b o) (hn : n ≤ 9223372036854775807) :
    Calls Tryz.prog 131 #[.pointer (some ⟨b, o, none⟩), .int .i64 (n : Int)] w (Wrote1 w b o false n) := by
  have HW := Lib.hid (word_any n w (by omega))
  have H := Lib.hid h
  clear h
  go_enter Tryz.func131, Tryz.ntmps131
  go_wp2_with fail
  refine HW.out.mono ?_
  rintro e w1 ⟨v, rfl, hm, hb⟩
  obtain ⟨A, k, c, rfl⟩ := hm.slice
  have HM := Lib.hid (made_num b o n false A k c w1 (H.out.below hb (Nat.le_refl _)) hm (by simp))
  have HB := Lib.hid (hb.mono (Nat.le_of_lt H.out.1))
  clear hm hb
  go_wp2_with fail
  refine HM.out.mono ?_
  rintro e w2 ⟨rfl, h1, h2, h3⟩
  have HF := Lib.hid (And.intro h1 (And.intro h2 h3))
  clear h1 h2 h3
  go_wp2_with fail
  go_ret
  exact ⟨rfl, HF.out.1, HF.out.2.1, HB.out.trans HF.out.2.2⟩
/-- an answer that is a number in new memory -/
def New1 (w : World) (neg : Bool) (n : Nat) (e : Ending) (w' : World) : Prop :=
  ∃ b, e = .returned (.pointer (some ⟨b, 0, none⟩)) ∧ w.heap.size ≤ b ∧ IntN w' b 0 neg n ∧ ISlot w' b 0 ∧ Below w.heap.size w w'
set_option maxRecDepth 8000 in
theorem newInt_any (n : Nat) (w : World) (hn : n ≤ 9223372036854775807) : Calls Tryz.prog 81 #[.int .i64 (n : Int)] w (New1 w false n) := by
  have HS := Lib.hid (setInt_any w.heap.size 0 n _ (ISlot.new w 102) hn)
  have HA := Lib.hid ((Below.refl w.heap.size w).alloc (Nat.le_refl _) (.cells #[.bool false, .slice none 0 0] 102))
  go_enter Tryz.func81, Tryz.ntmps81
  go_wp2_with fail
  refine HS.out.mono ?_
  rintro e w1 ⟨rfl, h1, h2, h3⟩
  have HF := Lib.hid (And.intro h1 (And.intro h2 h3))
  clear h1 h2 h3
  go_wp2_with fail
  go_ret
  exact ⟨_, rfl, Nat.le_refl _, HF.out.1, HF.out.2.1, HA.out.trans HF.out.2.2⟩
end Go.Proofs.YtbidlkmagbjllaaGreatDoor.Nb

namespace Go.Proofs.YtbidlkmagbjllaaGreatDoor.Nb
open Go Go.RowKit

set_option maxRecDepth 8000 in
set_option maxHeartbeats 1000000 in
theorem set_any (z zo b o n : Nat) (neg : Bool) (w : World) (h : ISlot w z zo) (hx : IntN w b o neg n) (hn : neg = true → n ≠ 0) :
    Calls Tryz.prog 129 #[.pointer (some ⟨z, zo, none⟩), .pointer (some ⟨b, o, none⟩)] w (Wrote1 w z zo neg n) := by
  obtain ⟨hb, h2, A, k, c, h3, h4⟩ := hx
  have H := Lib.hid h
  have HC := Lib.hid (fun j => clone_any _ n 1 (w.drewN j) (show MagN (w.drewN j) _ n 1 from h4) (by omega))
  clear h h4
  go_enter Tryz.func129, Tryz.ntmps129
  go_wp2_with fail
  go_region_with (first
    | (go_at_call 105; refine (HC.out _).mono ?_; rintro e w1 ⟨v, rfl, hm, hbw⟩; obtain ⟨A1, k1, c1, rfl⟩ := hm.slice; have hb2 : Below w.heap.size w w1 := (below_dN (Below.refl _ _) _).trans hbw; have y0 := (hb2.cell (p := ⟨b, o, none⟩) hb).trans h2; have HM := Lib.hid (made_num z zo n neg A1 k1 c1 w1 (H.out.below hb2 (Nat.le_refl _)) hm hn); have HB := Lib.hid (hb2.mono (Nat.le_of_lt H.out.1)); clear hm hbw hb2)
    | (go_at_call 101; refine HM.out.mono ?_; rintro e w2 ⟨rfl, h1, h2, h3⟩; have HF := Lib.hid (And.intro h1 (And.intro h2 (HB.out.trans h3))); clear h1 h2 h3))
  all_goals go_wp2_with fail
  all_goals (go_ret; exact ⟨rfl, HF.out.1, HF.out.2.1, HF.out.2.2⟩)

set_option maxRecDepth 8000 in
theorem sign_pos (b o n : Nat) (w : World) (hx : IntN w b o false n) (hn : 0 < n) :
    Calls Tryz.prog 83 #[.pointer (some ⟨b, o, none⟩)] w fun e w' => e = .returned (.int .i64 1) ∧ w' = w := by
  obtain ⟨hb, h2, A, k, c, h3, h4⟩ := hx
  have hk := h4.one_len hn
  subst hk
  clear h4
  go_enter Tryz.func83, Tryz.ntmps83
  go_wp2_with fail
  go_ret
  exact ⟨rfl, rfl⟩
set_option maxRecDepth 8000 in
theorem bitlen_any (b o n : Nat) (neg : Bool) (w : World) (hx : IntN w b o neg n) :
    Calls Tryz.prog 127 #[.pointer (some ⟨b, o, none⟩)] w fun e w' => e = .returned (.int .i64 (Lib.bitLen n)) ∧ w' = w := by
  obtain ⟨hb, h2, A, k, c, h3, h4⟩ := hx
  have HL := Lib.hid (length_one _ n w h4)
  obtain ⟨q, hq⟩ : ∃ q, Lib.bitLen n = q := ⟨_, rfl⟩
  rw [hq] at HL ⊢
  clear h4
  go_enter Tryz.func127, Tryz.ntmps127
  go_wp2_with fail
  refine HL.out.mono ?_
  rintro e w1 ⟨rfl, rfl⟩
  go_wp2_with fail
  go_ret
  exact ⟨rfl, rfl⟩
set_option maxRecDepth 8000 in
set_option maxHeartbeats 1000000 in
theorem cmp_any (b o m b' o' n : Nat) (w : World) (hx : IntN w b o false m) (hy : IntN w b' o' false n) :
    Calls Tryz.prog 135 #[.pointer (some ⟨b, o, none⟩), .pointer (some ⟨b', o', none⟩)] w fun e w' => e = .returned (.int .i64 (cmpN m n)) ∧ ∃ j, w' = w.drewN j := by
  obtain ⟨hb, h2, A, k, c, h3, h4⟩ := hx
  obtain ⟨hb', h2', A', k', c', h3', h4'⟩ := hy
  have HC := Lib.hid (fun j => compare_any _ _ m n 1 (w.drewN j) (show MagN (w.drewN j) _ m 1 from h4) (show MagN (w.drewN j) _ n 1 from h4') (by omega))
  obtain ⟨q, hq⟩ : ∃ q, cmpN m n = q := ⟨_, rfl⟩
  rw [hq] at HC ⊢
  clear h4 h4'
  go_enter Tryz.func135, Tryz.ntmps135
  go_wp2_with fail
  go_quiet (fail)
  go_wp2_with fail
  go_quiet ((go_at_call 160; exact quiet_more (HC.out _)))
  go_wp2_with fail
  go_ret
  exact ⟨rfl, _, by rw [World.drewN_drewN]⟩
set_option maxRecDepth 8000 in
theorem string_one (b o : Nat) (w : World) (hx : IntN w b o false 1) :
    Calls Tryz.prog 88 #[.pointer (some ⟨b, o, none⟩)] w fun e w' => e = .returned (.string ⟨#[49]⟩) ∧ Below w.heap.size w w' := by
  have HT : Hid (Calls Tryz.prog 138 #[.pointer (some ⟨b, o, none⟩), .int .i64 10] w fun e w' => e = .returned (.string ⟨#[49]⟩) ∧ Below w.heap.size w w') := Lib.hid (by
    obtain ⟨hb, h2, A, k, c, h3, h4⟩ := hx
    have HX := Lib.hid (text_one _ w h4)
    clear h4
    go_enter Tryz.func138, Tryz.ntmps138
    go_wp2_with fail
    refine HX.out.mono ?_
    rintro e w1 ⟨rfl, hb1⟩
    have HB := Lib.hid hb1
    clear hb1
    go_wp2_with fail
    go_ret
    exact ⟨rfl, HB.out⟩)
  clear hx
  go_enter Tryz.func88, Tryz.ntmps88
  go_wp2_with fail
  refine HT.out.mono ?_
  rintro e w1 ⟨rfl, hb1⟩
  have HB := Lib.hid hb1
  clear hb1
  go_wp2_with fail
  go_ret
  exact ⟨rfl, HB.out⟩
end Go.Proofs.YtbidlkmagbjllaaGreatDoor.Nb

namespace Go.Proofs.YtbidlkmagbjllaaGreatDoor.Nb
open Go Go.RowKit

/-- the fraction lies in block b: a whole number, and an amount above 0 -/
def RatN (w : World) (b : Nat) (neg : Bool) (p q : Nat) : Prop := IntN w b 0 neg p ∧ IntN w b 2 false q ∧ 0 < q
def RSlot (w : World) (b : Nat) : Prop := ISlot w b 0 ∧ ISlot w b 2
theorem RatN.below {w w' : World} {b p q B : Nat} {neg : Bool} (h : RatN w b neg p q) (hb : Below B w w') (hB : w.heap.size ≤ B) : RatN w' b neg p q :=
  ⟨h.1.below hb hB, h.2.1.below hb hB, h.2.2⟩
theorem RSlot.below {w w' : World} {b B : Nat} (h : RSlot w b) (hb : Below B w w') (hB : w.heap.size ≤ B) : RSlot w' b := ⟨h.1.below hb hB, h.2.below hb hB⟩
theorem RSlot.new (w : World) (t : TypeId) : RSlot (w.alloc (.cells #[.bool false, .slice none 0 0, .bool false, .slice none 0 0] t)) w.heap.size :=
  ⟨⟨by simp, ⟨false, by simp [go_sem]⟩, ⟨none, 0, 0, by simp [go_sem]⟩, by simp [go_sem], by simp [go_sem]⟩, ⟨by simp, ⟨false, by simp [go_sem]⟩, ⟨none, 0, 0, by simp [go_sem]⟩, by simp [go_sem], by simp [go_sem]⟩⟩
/-- the answer of a setter of a fraction -/
def WroteR (w : World) (b : Nat) (neg : Bool) (p q : Nat) (e : Ending) (w' : World) : Prop :=
  e = .returned (.pointer (some ⟨b, 0, none⟩)) ∧ RatN w' b neg p q ∧ RSlot w' b ∧ Below b w w'
/-- an answer that is a fraction in new memory -/
def NewR (w : World) (neg : Bool) (p q : Nat) (e : Ending) (w' : World) : Prop :=
  ∃ b, e = .returned (.pointer (some ⟨b, 0, none⟩)) ∧ w.heap.size ≤ b ∧ RatN w' b neg p q ∧ RSlot w' b ∧ Below w.heap.size w w'
theorem WroteR.after {w w1 w' : World} {b p q : Nat} {neg : Bool} {e : Ending} (h : WroteR w1 b neg p q e w') (hb : Below b w w1) : WroteR w b neg p q e w' :=
  ⟨h.1, h.2.1, h.2.2.1, hb.trans h.2.2.2⟩

theorem put_frozen {w : World} (b o : Nat) (neg : Bool) (v : Value) (p : Addr) : (put w b o neg v).frozen? p = w.frozen? p := by
  unfold put; simp [go_sem]
theorem ISlot.put {w : World} {b o : Nat} (h : ISlot w b o) {b' o' : Nat} (hne : b ≠ b' ∨ (o ≠ o' ∧ o ≠ o' + 1 ∧ o + 1 ≠ o')) (neg : Bool) (v : Value) : ISlot (put w b' o' neg v) b o := by
  obtain ⟨h1, ⟨neg', h2⟩, ⟨A, k, c, h3⟩, h4, h5⟩ := h
  refine ⟨by simpa [Nb.put, World.setCell] using h1, ⟨neg', ?_⟩, ⟨A, k, c, ?_⟩, by rw [put_frozen]; exact h4, by rw [put_frozen]; exact h5⟩
  · rw [put_cell _ _ (by omega)]; exact h2
  · rw [put_cell _ _ (by omega)]; exact h3
theorem IntN.put {w : World} {b o n : Nat} {neg' : Bool} (h : IntN w b o neg' n) {b' o' : Nat} (hs : ISlot w b' o') (hne : b ≠ b' ∨ (o ≠ o' ∧ o ≠ o' + 1 ∧ o + 1 ≠ o')) (neg : Bool) (v : Value) : IntN (put w b' o' neg v) b o neg' n := by
  obtain ⟨h1, h2, A, k, c, h3, h4⟩ := h
  refine ⟨by simpa [Nb.put, World.setCell] using h1, ?_, A, k, c, ?_, hs.magN h4 neg v⟩
  · rw [put_cell _ _ (by omega)]; exact h2
  · rw [put_cell _ _ (by omega)]; exact h3

set_option maxRecDepth 8000 in
/-- under: the denominator's amount -/
theorem under_any (b p q : Nat) (neg : Bool) (w : World) (h : RatN w b neg p q) :
    Calls Tryz.prog 103 #[.pointer (some ⟨b, 0, none⟩)] w fun e w' => ∃ A k c, e = .returned (.slice A k c) ∧ MagN w (.slice A k c) q 1 ∧ w = w' := by
  obtain ⟨-, ⟨hb, h2, A, k, c, h3, h4⟩, h0⟩ := h
  have h3' : w.cell? ⟨b, 3, none⟩ = some (.slice A k c) := h3
  have hk := h4.one_len h0
  subst hk
  have HM := Lib.hid h4
  clear h4 h3 h2
  go_enter Tryz.func103, Tryz.ntmps103
  go_wp2_with fail
  go_ret
  exact ⟨_, _, _, rfl, HM.out, rfl⟩

theorem neg_len {w : World} {A : Option Addr} {k c n L : Nat} {neg : Bool} (hm : MagN w (.slice A k c) n L) (hn : neg = true → n ≠ 0) : (neg && decide (0 < k)) = neg := by
  rcases neg with _ | _
  · rfl
  · have h1 := hm.len.1
    have h2 : 0 < k := by
      rcases Nat.eq_zero_or_pos k with q | q
      · exact absurd (h1 q) (hn rfl)
      · exact q
    simp [h2]
set_option maxRecDepth 8000 in
theorem raw_any (z p q : Nat) (neg : Bool) (A A' : Option Addr) (k c k' c' : Nat) (w : World) (h : RSlot w z) (hp : MagN w (.slice A k c) p 1) (hq : MagN w (.slice A' k' c') q 1) (hn : neg = true → p ≠ 0) (h0 : 0 < q) :
    Calls Tryz.prog 104 #[.pointer (some ⟨z, 0, none⟩), .bool neg, .slice A k c, .slice A' k' c'] w (WroteR w z neg p q) := by
  have H1 := Lib.hid (made_any z 0 neg A k c w h.1)
  rw [neg_len hp hn] at H1
  have s2 := h.2.put (b' := z) (o' := 0) (.inr (by omega)) neg (.slice A k c)
  have H2 := Lib.hid (made_any z 2 false A' k' c' (put w z 0 neg (.slice A k c)) s2)
  have HF := Lib.hid (show WroteR w z neg p q (.returned (.pointer (some ⟨z, 0, none⟩))) (put (put w z 0 neg (.slice A k c)) z 2 false (.slice A' k' c')) from by
    have l1 := h.1.lay hp neg
    have q1 := h.1.magN hq neg (.slice A k c)
    have l2 := s2.lay q1 false
    exact ⟨rfl, ⟨l1.1.put s2 (.inr (by omega)) _ _, l2.1, h0⟩, ⟨l1.2.put (.inr (by omega)) _ _, l2.2⟩, below_put (below_put (Below.refl _ _) (Nat.le_refl _) _ _) (Nat.le_refl _) _ _⟩)
  clear h s2 hp hq
  go_enter Tryz.func104, Tryz.ntmps104
  go_wp2_with fail
  refine H1.out.mono ?_
  rintro e w1 ⟨rfl, rfl⟩
  go_wp2_with fail
  refine H2.out.mono ?_
  rintro e w2 ⟨rfl, rfl⟩
  go_wp2_with fail
  go_ret
  exact HF.out
end Go.Proofs.YtbidlkmagbjllaaGreatDoor.Nb

namespace Go.Proofs.YtbidlkmagbjllaaGreatDoor.Nb
open Go Go.RowKit

theorem one_new (w : World) (t : TypeId) : MagN (w.alloc (.cells #[.int .u64 1] t)) (.slice (some ⟨w.heap.size, 0, none⟩) 1 1) 1 1 :=
  ⟨[1], Mag.one w 1 (by omega) t, .inr (by simp), by simp [val], by simp⟩
theorem back_of' {w w1 w2 : World} (h : Below w.heap.size w w1) (h2 : Below w1.heap.size w1 w2) : Below w.heap.size w w2 := h.trans (h2.mono h.size)
theorem below_dr {B : Nat} {a w : World} (h : Below B a w) (n : Nat) : Below B a (w.drewN n) := ⟨h.os, h.tape, h.output, h.size, h.block⟩
theorem below_one {B : Nat} {w w1 : World} (h : Below B w w1) (hB : B ≤ w1.heap.size) (o : Obj) : Below B w (w1.alloc o) := h.alloc hB o

theorem two_put {w3 w5 : World} {z p q : Nat} {neg : Bool} {A1 A2 : Option Addr} {k1 c1 k2 c2 : Nat} (h : RSlot w3 z) (hp : MagN w3 (.slice A1 k1 c1) p 1)
    (hb : Below (put w3 z 0 neg (.slice A1 k1 c1)).heap.size (put w3 z 0 neg (.slice A1 k1 c1)) w5) (hq : MagN w5 (.slice A2 k2 c2) q 1) (h0 : 0 < q) :
    ISlot w5 z 2 ∧ RatN (put w5 z 2 false (.slice A2 k2 c2)) z neg p q ∧ RSlot (put w5 z 2 false (.slice A2 k2 c2)) z ∧ Below z w3 (put w5 z 2 false (.slice A2 k2 c2)) := by
  have l1 := h.1.lay hp neg
  have s2 := (h.2.put (b' := z) (o' := 0) (.inr (by omega)) neg (.slice A1 k1 c1)).below hb (Nat.le_refl _)
  have l2 := s2.lay hq false
  have i1 := l1.1.below hb (Nat.le_refl _)
  have s1 := l1.2.below hb (Nat.le_refl _)
  have hz : z ≤ (put w3 z 0 neg (.slice A1 k1 c1)).heap.size := Nat.le_of_lt l1.2.1
  exact ⟨s2, ⟨i1.put s2 (.inr (by omega)) _ _, l2.1, h0⟩, ⟨s1.put (.inr (by omega)) _ _, l2.2⟩, below_put ((below_put (Below.refl _ _) (Nat.le_refl _) neg (.slice A1 k1 c1)).trans (hb.mono hz)) (Nat.le_refl _) _ _⟩

set_option maxRecDepth 8000 in
set_option maxHeartbeats 1000000 in
/-- made of an amount and another one that have no common divisor -/
theorem ratmade_any (z p q : Nat) (neg : Bool) (u v : Value) (w : World) (h : RSlot w z) (hu : MagN w u p 1) (hv : MagN w v q 1) (hg : Nat.gcd p q = 1) (hn : neg = true → p ≠ 0) (h0 : 0 < q) :
    Calls Tryz.prog 180 #[.pointer (some ⟨z, 0, none⟩), .bool neg, u, v] w (WroteR w z neg p q) := by
  obtain ⟨A, k, c, rfl⟩ := hu.slice
  obtain ⟨A', k', c', rfl⟩ := hv.slice
  have HD := Lib.hid (divisor_one _ _ p q w hu hv)
  rw [hg] at HD
  have HU := Lib.hid (fun (W : World) (hW : Below w.heap.size w W) => clone_any _ p 1 W (hu.below hW) (by omega))
  have HV := Lib.hid (fun (W : World) (hW : Below w.heap.size w W) => hv.below hW)
  have H := Lib.hid h
  have HN := Lib.hid (And.intro hn h0)
  have hz : z < w.heap.size := h.1.1
  clear h hu hv hg hn h0
  go_enter Tryz.func180, Tryz.ntmps180
  go_wp2_with fail
  refine HD.out.mono ?_
  rintro e w1 ⟨g, rfl, hm, hb⟩
  have hb2 := hb.alloc hb.size (.cells #[.int .u64 1] 74)
  have HC := Lib.hid (compare_any _ _ 1 1 1 _ (hm.below ((Below.refl _ _).alloc (Nat.le_refl _) (.cells #[.int .u64 1] 74))) (one_new w1 74) (by omega))
  have HB := Lib.hid hb2
  clear hm hb hb2
  go_wp2_with fail
  refine HC.out.mono ?_
  rintro e w2 ⟨rfl, j, rfl⟩
  have hc1 : cmpN 1 1 = 0 := by unfold cmpN; simp
  go_wp2_with fail
  have hcur : Below w.heap.size w ((w1.alloc (.cells #[.int .u64 1] 74)).drewN j).drew := (below_dr HB.out j).drew
  go_region_held3 (fun _ => True) (trivial) (first | (go_at_call 105; refine (HU.out _ hcur).mono ?_; rintro e w3 ⟨x, rfl, hm, hb3⟩; obtain ⟨A1, k1, c1, rfl⟩ := hm.slice; have hcur3 := back_of' hcur hb3; have s1 := H.out.below hcur3 (Nat.le_refl _); have HW := Lib.hid (s1.1.magN (HV.out _ hcur3) neg (.slice A1 k1 c1)); have HM := Lib.hid (made_any z 0 neg A1 k1 c1 w3 s1.1); rw [neg_len hm HN.out.1] at HM; have HF := Lib.hid (And.intro hm hcur3); clear s1 hm hb3 hcur3) | (go_at_call 101; refine HM.out.mono ?_; rintro e w4 ⟨rfl, rfl⟩))
  have HX := Lib.hid (fun (W : World) (hW : Below (put w3 z 0 neg (.slice A1 k1 c1)).heap.size (put w3 z 0 neg (.slice A1 k1 c1)) W) (A2 : Option Addr) (k2 c2 : Nat) (hm : MagN W (.slice A2 k2 c2) q 1) => two_put (H.out.below HF.out.2 (Nat.le_refl _)) HF.out.1 hW hm HN.out.2)
  have HG := Lib.hid (HF.out.2.mono (Nat.le_of_lt hz))
  obtain ⟨W4, hW4⟩ : ∃ W4, put w3 z 0 neg (.slice A1 k1 c1) = W4 := ⟨_, rfl⟩
  rw [hW4] at HX HW
  rw [hW4]
  clear hcur HM HF hW4
  go_wp2_with fail
  have hcur : Below W4.heap.size W4 W4.drew := (Below.refl _ _).drew
  go_region_held3 (fun _ => True) (trivial) (first | (go_at_call 105; refine (clone_any _ q 1 _ (HW.out.below hcur) (by omega)).mono ?_; rintro e w5 ⟨x, rfl, hm, hb5⟩; obtain ⟨A2, k2, c2, rfl⟩ := hm.slice; obtain ⟨s2, r1, r2, r3⟩ := HX.out _ (back_of' hcur hb5) _ _ _ hm; have HM := Lib.hid (made_any z 2 false A2 k2 c2 w5 s2); have HF := Lib.hid (And.intro r1 (And.intro r2 r3)); clear s2 hm hb5 r1 r2 r3) | (go_at_call 101; refine HM.out.mono ?_; rintro e w4 ⟨rfl, rfl⟩))
  all_goals go_wp2_with fail
  all_goals (go_ret; exact ⟨rfl, HF.out.1, HF.out.2.1, HG.out.trans HF.out.2.2⟩)
end Go.Proofs.YtbidlkmagbjllaaGreatDoor.Nb
