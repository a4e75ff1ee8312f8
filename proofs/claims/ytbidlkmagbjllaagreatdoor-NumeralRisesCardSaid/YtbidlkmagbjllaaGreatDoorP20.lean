/- R3 R4 RD1 RD2 in one text. -/
import Derived.Test.YtbidlkmagbjllaaGreatDoorP19
import Derived.Test.YtbidlkmagbjllaaGreatDoorP09
import Derived.Test.YtbidlkmagbjllaaGreatDoorP08
import Derived.IntWalk

namespace Go.Proofs.YtbidlkmagbjllaaGreatDoor.Bg
open Go Go.RowKit

/-- ahead of word i of d: what stands in os (carry and borrow: c) -/
def LessSt (us ds os : List Nat) (j g i c : Nat) : Prop := val os + 4294967296 ^ j * (g * val (ds.take i)) = val us + 4294967296 ^ (j + i) * c
theorem less_word {os : List Nat} {k x y z b : Nat} (hk : k < os.length) (hx : os.getD k 0 = x) (hz : z + y = x + 4294967296 * b) :
    val (os.set k z) + 4294967296 ^ k * y = val os + 4294967296 ^ (k + 1) * b := by
  have h := set_val (x := z) hk
  have e : 4294967296 ^ k * z + 4294967296 ^ k * y = 4294967296 ^ k * x + 4294967296 ^ (k + 1) * b := by
    rw [← Nat.mul_add, hz, Nat.mul_add, Nat.pow_succ, Nat.mul_assoc]
  rw [hx] at h
  omega
theorem less_step {us ds os : List Nat} {j g i cy bo p x y z b : Nat} (h : LessSt us ds os j g i (cy + bo)) (hk : j + i < os.length) (hp : p = g * ds.getD i 0 + cy) (hy : y = p % 4294967296 + bo)
    (hx : os.getD (j + i) 0 = x) (hz : z + y = x + 4294967296 * b) : LessSt us ds (os.set (j + i) z) j g (i + 1) (p / 4294967296 + b) := by
  unfold LessSt at *
  have h1 := less_word hk hx hz
  rw [val_take_succ', Nat.mul_add, Nat.mul_add, show j + (i + 1) = j + i + 1 by omega]
  have e : 4294967296 ^ (j + i) * y + 4294967296 ^ (j + i + 1) * (p / 4294967296) = 4294967296 ^ (j + i) * (g * ds.getD i 0) + 4294967296 ^ (j + i) * (cy + bo) := by
    rw [Nat.pow_succ, Nat.mul_assoc, ← Nat.mul_add, ← Nat.mul_add]
    congr 1
    omega
  have e2 : 4294967296 ^ j * (g * (4294967296 ^ i * ds.getD i 0)) = 4294967296 ^ (j + i) * (g * ds.getD i 0) := by
    rw [Nat.pow_add, Nat.mul_left_comm g, Nat.mul_assoc]
  rw [e2, Nat.mul_add]
  omega
theorem less_end {us ds os : List Nat} {j g n c x z b : Nat} (h : LessSt us ds os j g n c) (hn : ds.length = n) (hk : j + n < os.length) (hx : os.getD (j + n) 0 = x) (hz : z + c = x + 4294967296 * b) :
    val (os.set (j + n) z) + 4294967296 ^ j * (g * val ds) = val us + 4294967296 ^ (j + n + 1) * b := by
  unfold LessSt at h
  have h1 := less_word hk hx hz
  rw [List.take_of_length_le (by omega)] at h
  omega

/-- w' is w but for block g (and new blocks) -/
def Only (w : World) (g : Nat) (w' : World) : Prop := w.grownBy w' (some g)
theorem Only.refl (w : World) (g : Nat) : Only w g w := ⟨rfl, rfl, rfl, Nat.le_refl _, fun _ _ _ => rfl⟩
theorem Only.trans {a b c : World} {g : Nat} (h : Only a g b) (k : Only b g c) : Only a g c := World.grownBy.trans h k
theorem Only.size {a b : World} {g : Nat} (h : Only a g b) : a.heap.size ≤ b.heap.size := World.grownBy.size h
theorem Only.cell {a b : World} {g : Nat} (h : Only a g b) {p : Addr} (hp : p.block < a.heap.size) (hne : p.block ≠ g) : b.cell? p = a.cell? p :=
  World.cell?_of_block (World.grownBy.block h p.block hp (fun e => hne (by injection e)))
theorem Only.setCell {a b : World} {g : Nat} (h : Only a g b) (i : Nat) (v : Value) : Only a g (b.setCell ⟨g, i, none⟩ v) :=
  h.trans ⟨rfl, rfl, rfl, by simp [World.setCell], fun k _ hne => by
    have : k ≠ g := fun e => hne (by rw [e])
    simp only [World.setCell, Array.getElem?_modify, if_neg (Ne.symm this)]⟩
theorem Only.below {a b : World} {g B : Nat} (h : Only a g b) (hB : B ≤ g) (hB2 : B ≤ a.heap.size) : Below B a b :=
  (Below.refl B a).grown h hB2 (fun k hk => by injection hk with hk; omega)
theorem Only.mag {a b : World} {g : Nat} (h : Only a g b) {A : Option Addr} {k c : Nat} {ws : List Nat} (hm : Mag a (.slice A k c) ws) (hne : ∀ x, A = some x → x.block ≠ g) : Mag b (.slice A k c) ws := by
  obtain ⟨A', c', e, h2, h3, h4, h5⟩ := hm
  have e' := e
  injection e with e1 e2 e3
  subst e1
  refine ⟨A, c', e', h2, h3, h4, fun hl => ?_⟩
  obtain ⟨bb, off, rfl, hb, hc⟩ := h5 hl
  exact ⟨bb, off, rfl, Nat.lt_of_lt_of_le hb h.size, fun j hj => (h.cell (p := ⟨bb, off + j, none⟩) (by exact hb) (hne ⟨bb, off, none⟩ rfl)).trans (hc j hj)⟩

def LessW (w : World) (gb n : Nat) (us ds : List Nat) (j g i c : Nat) (wr : World) : Prop :=
  ∃ os, Blk wr gb os ∧ os.length = n ∧ W32 os ∧ (LessSt us ds os j g i c ∧ os.drop (j + i) = us.drop (j + i)) ∧ Only w gb wr
theorem drop_more {os us : List Nat} {k z : Nat} (h : os.drop k = us.drop k) : (os.set k z).drop (k + 1) = us.drop (k + 1) := by
  rw [List.drop_set_of_lt (by omega)]
  have := congrArg (List.drop 1) h
  rwa [List.drop_drop, List.drop_drop] at this

set_option maxHeartbeats 4000000 in
theorem less_core (gb n cu nd cd bd od j g : Nat) (us ds : List Nat) (w : World) (hu : Blk w gb us) (hw : W32 us) (hn : us.length = n) (hd : Mag w (.slice (some ⟨bd, od, none⟩) nd cd) ds) (hne : bd ≠ gb) (hj : j + nd < n) (hl : n ≤ 536870912) (hg : g < 4294967296) :
    Calls Tryz.prog 169 #[.slice (some ⟨gb, 0, none⟩) n cu, .slice (some ⟨bd, od, none⟩) nd cd, .int .i64 (j : Int), .int .u64 (g : Int)] w fun e w' => ∃ os b, e = .returned (.bool (decide (b = 1))) ∧ b ≤ 1 ∧ Blk w' gb os ∧ os.length = n ∧ W32 os ∧
      val os + 4294967296 ^ j * (g * val ds) = val us + 4294967296 ^ (j + nd + 1) * b ∧ os.drop (j + nd + 1) = us.drop (j + nd + 1) ∧ Only w gb w' := by
  have hdl := hd.len
  have HD := Lib.hid hd
  have HL := Lib.hid hdl
  have H0 := Lib.hid (show LessW w gb n us ds j g 0 (0 + 0) w from ⟨us, hu, hn, hw, ⟨by simp [LessSt, val], rfl⟩, Only.refl _ _⟩)
  clear hd hdl hu hn hw
  go_enter Tryz.func169, Tryz.ntmps169
  go_wp2_with fail
  go_loopw [9, 10, 11] (fun cv bv i wr => ∃ k cy bo : Nat, k ≤ nd ∧ i = .int .i64 k ∧ cv = .int .u64 cy ∧ bv = .int .u64 bo ∧ cy < 4294967296 ∧ bo ≤ 1 ∧ Hid (LessW w gb n us ds j g k (cy + bo) wr)) (fun _ _ i _ => nd - (intOf i).toNat)
  case atStart => exact ⟨0, 0, 0, Nat.zero_le _, rfl, rfl, rfl, by omega, by omega, H0⟩
  case round =>
    obtain ⟨k, cy, bo, hk, rfl, rfl, rfl, hcy, hbo, hp⟩ := hrel
    obtain ⟨os, hbk, hlen, hw, hst, hon⟩ := hp.out
    have HO := Lib.hid (And.intro hbk (And.intro hlen (And.intro hw (And.intro hst hon))))
    by_cases hlt : k < nd
    · have hfr : wr.frozen? ⟨gb, j + k, none⟩ = false := hbk.frozen _
      obtain ⟨x, ex⟩ : ∃ x, os.getD (j + k) 0 = x := ⟨_, rfl⟩
      have hco : wr.cell? ⟨gb, j + k, none⟩ = some (.int .u32 (x : Nat)) := by rw [← ex]; exact hbk.cell (by omega)
      have wx := hw.get (j + k)
      rw [ex] at wx
      obtain ⟨b1, o1, ea, hb1, hc1⟩ := HD.out.at (j := k) hlt
      injection ea with ea
      injection ea with ea1 ea2 _
      subst ea1 ea2
      have hx := (hon.cell (p := ⟨bd, od + k, none⟩) hb1 hne).trans hc1
      obtain ⟨dk, edk⟩ : ∃ x, ds.getD k 0 = x := ⟨_, rfl⟩
      have wd := HD.out.w32.get k
      rw [edk] at hx wd
      obtain ⟨P, hP⟩ : ∃ p, g * dk = p := ⟨_, rfl⟩
      have hpb := pro_word (o := 0) hg wd (by omega) hcy
      rw [Nat.add_zero, hP] at hpb
      have hmul : (g : Int) * (dk : Int) = (P : Int) := by rw [← hP, Int.natCast_mul]
      obtain ⟨p, hpp⟩ : ∃ p, P + cy = p := ⟨_, rfl⟩
      rw [hpp] at hpb
      have hadd : (P : Int) + (cy : Int) = (p : Int) := by omega
      obtain ⟨r, hr⟩ : ∃ r, p % 4294967296 = r := ⟨_, rfl⟩
      obtain ⟨c, hc⟩ : ∃ c, p / 4294967296 = c := ⟨_, rfl⟩
      have hand : bits .and .u64 (p : Int) 4294967295 = (r : Int) := by rw [Ck.and32 (by omega) (by omega)]; omega
      have hdiv : (p : Int) / 4294967296 = (c : Int) := by omega
      have hrb : r < 4294967296 := by omega
      have hcb : c < 4294967296 := by omega
      have HP := Lib.hid (And.intro hP (And.intro hpp (And.intro hr (And.intro hc (And.intro ex edk)))))
      have hmb : (P : Int) + (cy : Int) ≤ 18446744073709551615 := by omega
      have hP0 : (P : Int) ≤ 18446744073709551615 := by omega
      clear hP hpp hr hc ex edk hbk hlen hw hst hon hc1 hb1
      by_cases hxy : x < r + bo
      · have hxi : (x : Int) < (r : Int) + (bo : Int) := by omega
        go_wp2_with fail
        go_roundw
        case rel => exact ⟨k + 1, c, 1, by omega, by go_num, rfl, rfl, hcb, by omega, os.set (j + k) (x + 4294967296 - (r + bo)), blk_end HO.out.1 (by omega), by rw [List.length_set]; exact HO.out.2.1, HO.out.2.2.1.set (by omega),
          ⟨(by have h9 := less_step (p := p) (x := x) (y := r + bo) (z := x + 4294967296 - (r + bo)) (b := 1) HO.out.2.2.2.1.1 (by have := HO.out.2.1; omega) (by rw [HP.out.2.2.2.2.2, HP.out.1, HP.out.2.1]) (by rw [HP.out.2.2.1]) HP.out.2.2.2.2.1 (by omega); rwa [HP.out.2.2.2.1] at h9), drop_more HO.out.2.2.2.1.2⟩, HO.out.2.2.2.2.setCell _ _⟩
        case measure => simp [intOf]; omega
      · have hxi : ¬ (x : Int) < (r : Int) + (bo : Int) := by omega
        go_wp2_with fail
        go_roundw
        case rel => exact ⟨k + 1, c, 0, by omega, by go_num, rfl, rfl, hcb, by omega, os.set (j + k) (x - (r + bo)), blk_end HO.out.1 (by omega), by rw [List.length_set]; exact HO.out.2.1, HO.out.2.2.1.set (by omega),
          ⟨(by have h9 := less_step (p := p) (x := x) (y := r + bo) (z := x - (r + bo)) (b := 0) HO.out.2.2.2.1.1 (by have := HO.out.2.1; omega) (by rw [HP.out.2.2.2.2.2, HP.out.1, HP.out.2.1]) (by rw [HP.out.2.2.1]) HP.out.2.2.2.2.1 (by omega); rwa [HP.out.2.2.2.1] at h9), drop_more HO.out.2.2.2.1.2⟩, HO.out.2.2.2.2.setCell _ _⟩
        case measure => simp [intOf]; omega
    · obtain rfl : k = nd := by omega
      have hfr : wr.frozen? ⟨gb, j + k, none⟩ = false := hbk.frozen _
      obtain ⟨x, ex⟩ : ∃ x, os.getD (j + k) 0 = x := ⟨_, rfl⟩
      have hco : wr.cell? ⟨gb, j + k, none⟩ = some (.int .u32 (x : Nat)) := by rw [← ex]; exact hbk.cell (by omega)
      have wx := hw.get (j + k)
      rw [ex] at wx
      have EX := Lib.hid ex
      clear hbk hlen hw hst hon ex
      by_cases hxy : x < cy + bo
      · have hxi : (x : Int) < (cy : Int) + (bo : Int) := by omega
        have hwr : IntKind.u64.wrap ((x : Int) - ((cy : Int) + (bo : Int))) % 4294967296 = ((x + 4294967296 - (cy + bo) : Nat) : Int) := by rw [IntKind.wrap_u64]; omega
        go_wp2_with fail
        go_ret
        exact ⟨os.set (j + k) (x + 4294967296 - (cy + bo)), 1, by simp, by omega, blk_end HO.out.1 (by first | rfl | exact hwr), by rw [List.length_set]; exact HO.out.2.1, HO.out.2.2.1.set (by omega),
          less_end HO.out.2.2.2.1.1 HL.out.symm (by have := HO.out.2.1; omega) EX.out (by omega), drop_more HO.out.2.2.2.1.2, HO.out.2.2.2.2.setCell _ _⟩
      · have hxi : ¬ (x : Int) < (cy : Int) + (bo : Int) := by omega
        go_wp2_with fail
        go_ret
        exact ⟨os.set (j + k) (x - (cy + bo)), 0, by simp, by omega, blk_end HO.out.1 (by omega), by rw [List.length_set]; exact HO.out.2.1, HO.out.2.2.1.set (by omega),
          less_end HO.out.2.2.2.1.1 HL.out.symm (by have := HO.out.2.1; omega) EX.out (by omega), drop_more HO.out.2.2.2.1.2, HO.out.2.2.2.2.setCell _ _⟩
end Go.Proofs.YtbidlkmagbjllaaGreatDoor.Bg

namespace Go.Proofs.YtbidlkmagbjllaaGreatDoor.Bg
open Go Go.RowKit

theorem val_drop_one (ws : List Nat) (j : Nat) : val (ws.drop j) = ws.getD j 0 + 4294967296 * val (ws.drop (j + 1)) := by
  by_cases h : j < ws.length
  · exact val_drop_step ws h
  · rw [List.drop_of_length_le (by omega), List.drop_of_length_le (by omega), List.getD_eq_getElem?_getD, List.getElem?_eq_none (by omega)]
    simp [val]
def OverSt (X D : Nat) (us qs : List Nat) (i : Nat) : Prop := X = val us + D * val qs ∧ val us < D * 4294967296 ^ i ∧ ∀ k, k < i → qs.getD k 0 = 0
theorem drop_zero_of_lt {us : List Nat} (hw : W32 us) {k : Nat} (h : val us < 4294967296 ^ k) : val (us.drop k) = 0 := by
  rw [← val_div us hw k]; exact Nat.div_eq_of_lt h
theorem over_window {us : List Nat} (hw : W32 us) {D j : Nat} (hD : D < 18446744073709551616) (h : val us < D * 4294967296 ^ (j + 1)) :
    val us / 4294967296 ^ j = us.getD j 0 + 4294967296 * (us.getD (j + 1) 0 + 4294967296 * us.getD (j + 2) 0) ∧ val (us.drop (j + 3)) = 0 ∧ us.getD (j + 1) 0 + 4294967296 * us.getD (j + 2) 0 < D := by
  have hlt : val us < 4294967296 ^ (j + 3) := by
    refine Nat.lt_of_lt_of_le h ?_
    rw [show j + 3 = 2 + (j + 1) by omega, Nat.pow_add 4294967296 2 (j + 1)]
    have hD2 : D ≤ 4294967296 ^ 2 := by show D ≤ 18446744073709551616; omega
    exact Nat.mul_le_mul_right _ hD2
  have hz := drop_zero_of_lt hw hlt
  have h1 := val_div us hw j
  have h2 := val_drop_two us j
  have h3 := val_drop_two us (j + 2)
  rw [show j + 2 + 1 = j + 3 by omega] at h3
  have h4 := val_drop_one us (j + 3)
  have e1 : us.getD (j + 3) 0 = 0 := by omega
  have e2 : val (us.drop (j + 2 + 2)) = 0 := by
    rw [show j + 2 + 2 = j + 3 + 1 by omega]
    omega
  rw [e1, e2] at h3
  have h6 : val us / 4294967296 ^ j < D * 4294967296 := by
    refine Nat.div_lt_of_lt_mul ?_
    rw [Nat.mul_left_comm, ← Nat.pow_succ]; exact h
  rw [h1, h2, h3] at h6
  refine ⟨?_, hz, ?_⟩
  · rw [h1, h2, h3]; omega
  · omega
theorem over_digit {us : List Nat} (hw : W32 us) {D j d0 d1 : Nat} (hd : D = d1 * 4294967296 + d0) (h1 : 2147483648 ≤ d1) (h2 : d1 < 4294967296) (h3 : d0 < 4294967296) (h : val us < D * 4294967296 ^ (j + 1)) {u0 u1 u2 : Nat}
    (e0 : us.getD j 0 = u0) (e1 : us.getD (j + 1) 0 = u1) (e2 : us.getD (j + 2) 0 = u2) :
    Ck.QIn (D : Int) (d1 : Int) (d0 : Int) ((u2 : Int) * 4294967296 + u1) (u0 : Int) ∧ (((u2 : Int) * 4294967296 + u1) * 4294967296 + u0) / (D : Int) = ((val us / 4294967296 ^ j / D : Nat) : Int) ∧ val us / 4294967296 ^ j / D < 4294967296 := by
  obtain ⟨w1, -, w3⟩ := over_window hw (j := j) (by omega) h
  have b0 := hw.get j
  rw [e0, e1, e2] at w1
  rw [e1, e2] at w3
  rw [e0] at b0
  have hq : Ck.QIn (D : Int) (d1 : Int) (d0 : Int) ((u2 : Int) * 4294967296 + u1) (u0 : Int) := ⟨by omega, by omega, by omega, by omega, by omega, by omega, by omega, by omega, by omega⟩
  have e : (((u2 : Int) * 4294967296 + u1) * 4294967296 + u0) / (D : Int) = ((val us / 4294967296 ^ j / D : Nat) : Int) := by
    rw [w1, Int.natCast_ediv]
    congr 1
    omega
  refine ⟨hq, e, ?_⟩
  have := hq.dig.2
  omega
theorem less_no {us os : List Nat} {D j g b : Nat} (hwu : W32 us) (hwo : W32 os) (hD : D < 18446744073709551616) (h : val us < D * 4294967296 ^ (j + 1)) (hg : val us / 4294967296 ^ j / D = g) (hlen : j + 3 ≤ os.length)
    (he : val os + 4294967296 ^ j * (g * D) = val us + 4294967296 ^ (j + 3) * b) (hd : os.drop (j + 3) = us.drop (j + 3)) (hb : b ≤ 1) : b = 0 ∧ val os < D * 4294967296 ^ j := by
  obtain ⟨-, hz, -⟩ := over_window hwu hD h
  have h1 := val_take_drop os hlen
  rw [hd, hz, Nat.mul_zero, Nat.add_zero] at h1
  have h2 := val_take_lt hwo (j + 3)
  have hdd : val us / 4294967296 ^ j / D = val us / (4294967296 ^ j * D) := Nat.div_div_eq_div_mul _ _ _
  have hD0 : 0 < D := by
    rcases Nat.eq_zero_or_pos D with h0 | h0
    · rw [h0, Nat.zero_mul] at h; omega
    · exact h0
  have hpos : 0 < 4294967296 ^ j * D := Nat.mul_pos (Nat.pow_pos (by omega)) hD0
  have h3 := Nat.div_add_mod (val us) (4294967296 ^ j * D)
  have h4 := Nat.mod_lt (val us) hpos
  rw [← hdd, hg, Nat.mul_assoc, Nat.mul_comm D g] at h3
  rw [Nat.mul_comm] at h4
  have hb0 : b = 0 := by
    rcases Nat.eq_zero_or_pos b with h0 | h0
    · exact h0
    · have : b = 1 := by omega
      subst this
      omega
  refine ⟨hb0, ?_⟩
  rw [hb0, Nat.mul_zero, Nat.add_zero] at he
  rw [Nat.mul_comm (4294967296 ^ j) D] at h3
  omega
theorem over_step {X D : Nat} {us os qs : List Nat} {j g : Nat} (h : OverSt X D us qs (j + 1)) (hj : j < qs.length) (he : val os + 4294967296 ^ j * (g * D) = val us) (hlt : val os < D * 4294967296 ^ j) : OverSt X D os (qs.set j g) j := by
  obtain ⟨h1, h2, h3⟩ := h
  have hs := set_val (x := g) hj
  rw [h3 j (by omega), Nat.mul_zero, Nat.add_zero] at hs
  refine ⟨?_, hlt, fun k hk => by rw [set_getD_ne (by omega)]; exact h3 k (by omega)⟩
  rw [hs, Nat.mul_add, h1, ← he]
  have : 4294967296 ^ j * (g * D) = D * (4294967296 ^ j * g) := by rw [Nat.mul_comm g D, Nat.mul_left_comm]
  omega
theorem over_end {A D P : Nat} {us qs : List Nat} (h : OverSt (A * P) (D * P) us qs 0) (hP : 0 < P) (hD : 0 < D) : val qs = A / D ∧ val us = A % D * P := by
  obtain ⟨h1, h2, -⟩ := h
  rw [Nat.pow_zero, Nat.mul_one] at h2
  have hpos : 0 < D * P := Nat.mul_pos hD hP
  have e1 : A * P / (D * P) = val qs := by
    rw [h1, Nat.add_mul_div_left _ _ hpos, Nat.div_eq_of_lt h2, Nat.zero_add]
  have e2 : A * P % (D * P) = val us := by
    rw [h1, Nat.add_mul_mod_self_left, Nat.mod_eq_of_lt h2]
  rw [Nat.mul_div_mul_right _ _ hP] at e1
  rw [Nat.mul_mod_mul_right] at e2
  exact ⟨e1.symm, e2.symm⟩
theorem over_start {A D P : Nat} {us : List Nat} {M n : Nat} (hv : val us = A * P) (hA : A < 4294967296 ^ M) (hD : 4294967296 ≤ D) (hM : 2 ≤ M) (hP : 0 < P) : OverSt (A * P) (D * P) us (List.replicate n 0) (M - 1) := by
  refine ⟨by rw [val_rep, hv, Nat.mul_zero, Nat.add_zero], ?_, fun k _ => Clear.rep n 0 k (by omega)⟩
  rw [hv, Nat.mul_assoc, Nat.mul_left_comm, Nat.mul_comm A P]
  refine Nat.mul_lt_mul_of_pos_left ?_ hP
  have : 4294967296 ^ M = 4294967296 * 4294967296 ^ (M - 1) := by
    rw [show M = (M - 1) + 1 by omega, Nat.pow_succ, Nat.mul_comm]; rfl
  rw [this] at hA
  exact Nat.lt_of_lt_of_le hA (Nat.mul_le_mul_right _ hD)
end Go.Proofs.YtbidlkmagbjllaaGreatDoor.Bg

namespace Go.Proofs.YtbidlkmagbjllaaGreatDoor.Bg
open Go Go.RowKit

/-- the rest from place j on, by its first three words -/
theorem wide_window {us : List Nat} (hw : W32 us) {D j n u0 u1 u2 : Nat} (hn : 2 ≤ n) (hD : D < 4294967296 ^ n) (hl : j + n < us.length) (h : val us < D * 4294967296 ^ (j + 1))
    (e0 : us.getD (j + n) 0 = u0) (e1 : us.getD (j + n - 1) 0 = u1) (e2 : us.getD (j + n - 2) 0 = u2) :
    val (us.drop (j + n + 1)) = 0 ∧ val us / 4294967296 ^ j < D * 4294967296 ∧
    ∃ W0, W0 < 4294967296 ^ (n - 2) ∧ val us / 4294967296 ^ j = ((u0 * 4294967296 + u1) * 4294967296 + u2) * 4294967296 ^ (n - 2) + W0 := by
  have hlt : val us < 4294967296 ^ (j + n + 1) := by
    refine Nat.lt_of_lt_of_le h ?_
    rw [show j + n + 1 = n + (j + 1) by omega, Nat.pow_add 4294967296 n (j + 1)]
    exact Nat.mul_le_mul_right _ (Nat.le_of_lt hD)
  have hz := drop_zero_of_lt hw hlt
  refine ⟨hz, ?_, val ((us.drop j).take (n - 2)), val_take_lt (hw.drop j) _, ?_⟩
  · refine Nat.div_lt_of_lt_mul ?_
    rw [Nat.mul_left_comm, ← Nat.pow_succ]; exact h
  · have h1 := val_take_drop (us.drop j) (k := n - 2) (by rw [List.length_drop]; omega)
    rw [val_div us hw j, h1, List.drop_drop]
    have a2 := val_drop_one us (j + (n - 2))
    have a1 := val_drop_one us (j + (n - 2) + 1)
    have a0 := val_drop_one us (j + (n - 2) + 1 + 1)
    rw [show j + (n - 2) + 1 + 1 + 1 = j + n + 1 by omega, hz, show j + (n - 2) + 1 + 1 = j + n by omega, e0] at a0
    rw [show j + (n - 2) + 1 + 1 = j + n by omega, a0, show j + (n - 2) + 1 = j + n - 1 by omega, e1] at a1
    rw [show j + (n - 2) + 1 = j + n - 1 by omega, a1, show j + (n - 2) = j + n - 2 by omega, e2] at a2
    rw [show j + (n - 2) = j + n - 2 by omega, a2, Nat.add_comm, Nat.mul_comm]
    congr 2
    omega
/-- the divisor by its first two words -/
theorem wide_div {ds : List Nat} (hw : W32 ds) {n v0 v1 : Nat} (hn : 2 ≤ n) (hl : ds.length = n) (e1 : ds.getD (n - 1) 0 = v1) (e0 : ds.getD (n - 2) 0 = v0) :
    ∃ V0, V0 < 4294967296 ^ (n - 2) ∧ val ds = (v1 * 4294967296 + v0) * 4294967296 ^ (n - 2) + V0 := by
  refine ⟨val (ds.take (n - 2)), val_take_lt hw _, ?_⟩
  have h1 := val_take_drop ds (k := n - 2) (by omega)
  have a1 := val_drop_one ds (n - 2)
  have a0 := val_drop_one ds (n - 2 + 1)
  rw [show n - 2 + 1 + 1 = n by omega, List.drop_of_length_le (l := ds) (i := n) (by omega), show n - 2 + 1 = n - 1 by omega, e1] at a0
  rw [show n - 2 + 1 = n - 1 by omega, a0, e0] at a1
  rw [h1, a1, Nat.add_comm, Nat.mul_comm]
  simp only [val]
  congr 2
  omega
/-- what a guess begins with -/
theorem wide_in {W D P W0 V0 t u2 v1 v0 : Nat} (hW : W = (t * 4294967296 + u2) * P + W0) (hV : D = (v1 * 4294967296 + v0) * P + V0) (hV0 : V0 < P) (hlt : W < D * 4294967296)
    (h1 : v1 < 4294967296) (h2 : 2147483648 ≤ v1) (h3 : v0 < 4294967296) (h4 : u2 < 4294967296) : KIn v1 v0 t u2 := by
  refine ⟨h1, h2, h3, h4, Nat.not_lt.1 fun hc => ?_⟩
  obtain ⟨E, hE⟩ : ∃ E, v1 * 4294967296 + v0 = E := ⟨_, rfl⟩
  rw [hE] at hc hV
  have a1 : (E + 1) * 4294967296 * P ≤ (t * 4294967296 + u2) * P := Nat.mul_le_mul_right _ (by omega)
  have a2 : (E + 1) * P * 4294967296 = (E + 1) * 4294967296 * P := Nat.mul_right_comm _ _ _
  have a3 : D < (E + 1) * P := by rw [Nat.add_mul, Nat.one_mul]; omega
  omega
/-- nothing was borrowed -/
theorem wide_no {us os : List Nat} {D j g : Nat} (hD0 : 0 < D) (hle : val us / 4294967296 ^ j / D ≤ g) (he : val os + 4294967296 ^ j * (g * D) = val us) : val os < D * 4294967296 ^ j := by
  have hpos : 0 < 4294967296 ^ j * D := Nat.mul_pos (Nat.pow_pos (by omega)) hD0
  rw [Nat.div_div_eq_div_mul] at hle
  have h1 := Nat.lt_mul_div_succ (val us) hpos
  have h2 : 4294967296 ^ j * D * (val us / (4294967296 ^ j * D) + 1) ≤ 4294967296 ^ j * D * (g + 1) := Nat.mul_le_mul_left _ (by omega)
  have h3 : 4294967296 ^ j * D * (g + 1) = 4294967296 ^ j * (g * D) + D * 4294967296 ^ j := by
    rw [Nat.mul_add, Nat.mul_one, Nat.mul_assoc, Nat.mul_comm D g, Nat.mul_comm D]
  omega
/-- one was borrowed: the guess was one too great -/
theorem wide_yes {us os os' : List Nat} {D j n g c : Nat} (hD0 : 0 < D) (hle : val us / 4294967296 ^ j / D ≤ g) (hge : g ≤ val us / 4294967296 ^ j / D + 1)
    (he : val os + 4294967296 ^ j * (g * D) = val us + 4294967296 ^ (j + n + 1)) (hm : val os' + 4294967296 ^ (j + n + 1) * c = val os + 4294967296 ^ j * D) (hc : c ≤ 1)
    (hlo : val os < 4294967296 ^ (j + n + 1)) (hlo' : val os' < 4294967296 ^ (j + n + 1)) :
    ∃ k, g = k + 1 ∧ val os' + 4294967296 ^ j * (k * D) = val us ∧ val os' < D * 4294967296 ^ j := by
  have hpos : 0 < 4294967296 ^ j * D := Nat.mul_pos (Nat.pow_pos (by omega)) hD0
  rw [Nat.div_div_eq_div_mul] at hle hge
  have h1 := Nat.lt_mul_div_succ (val us) hpos
  have h2 := Nat.mul_div_le (val us) (4294967296 ^ j * D)
  generalize hq : val us / (4294967296 ^ j * D) = q at *
  have key : ∀ k, 4294967296 ^ j * D * k = 4294967296 ^ j * (k * D) := fun k => by rw [Nat.mul_assoc, Nat.mul_comm D k]
  rw [key] at h1 h2
  have hgq : g = q + 1 := by
    rcases Nat.lt_or_ge q g with hlt | hge2
    · omega
    · exfalso
      have : g * D ≤ q * D := Nat.mul_le_mul_right _ hge2
      have := Nat.mul_le_mul_left (4294967296 ^ j) this
      omega
  have e1 : 4294967296 ^ j * ((q + 1) * D) = 4294967296 ^ j * (q * D) + 4294967296 ^ j * D := by rw [Nat.add_mul, Nat.one_mul, Nat.mul_add]
  subst hgq
  refine ⟨q, rfl, ?_⟩
  rw [e1] at h1 he
  have e2 : D * 4294967296 ^ j = 4294967296 ^ j * D := Nat.mul_comm _ _
  rw [e2]
  rcases (by omega : c = 0 ∨ c = 1) with rfl | rfl
  · omega
  · omega
theorem over_start_wide {A D P : Nat} {us : List Nat} {M n k : Nat} (hv : val us = A * P) (hA : A < 4294967296 ^ M) (hD : 4294967296 ^ (n - 1) ≤ D) (hn : 1 ≤ n) (hM : n ≤ M) (hP : 0 < P) : OverSt (A * P) (D * P) us (List.replicate k 0) (M + 1 - n) := by
  refine ⟨by rw [val_rep, hv, Nat.mul_zero, Nat.add_zero], ?_, fun i _ => Clear.rep k 0 i (by omega)⟩
  rw [hv, Nat.mul_assoc, Nat.mul_left_comm, Nat.mul_comm A P]
  refine Nat.mul_lt_mul_of_pos_left ?_ hP
  have : 4294967296 ^ M = 4294967296 ^ (n - 1) * 4294967296 ^ (M + 1 - n) := by
    rw [← Nat.pow_add]; congr 1; omega
  rw [this] at hA
  exact Nat.lt_of_lt_of_le hA (Nat.mul_le_mul_right _ hD)
/-- a row whose words from place k on are noughts -/
theorem low_of_drop {os : List Nat} (hw : W32 os) {k : Nat} (hk : k ≤ os.length) (hz : val (os.drop k) = 0) : val os < 4294967296 ^ k := by
  have h1 := val_take_drop os hk
  have h2 := val_take_lt hw k
  rw [hz, Nat.mul_zero, Nat.add_zero] at h1
  omega
/-- moved up by s, the first bit of a number's last word stands -/
theorem wide_norm {ds : List Nat} (hw : W32 ds) (_hn : Norm ds) {n s y : Nat} (hl : ds.length = n) (h0 : 0 < n) (hy : ds.getD (n - 1) 0 = y) (hs : s ≤ 31) (y0 : 2147483648 ≤ y * 2 ^ s) (y1 : y * 2 ^ s < 4294967296) :
    val ds * 2 ^ s < 4294967296 ^ n ∧ 2147483648 * 4294967296 ^ (n - 1) ≤ val ds * 2 ^ s := by
  have h1 := val_take_succ' ds (n - 1)
  rw [show n - 1 + 1 = n by omega, List.take_of_length_le (by omega), hy] at h1
  have h2 := val_take_lt hw (n - 1)
  have e : (4294967296 : Nat) ^ n = 4294967296 ^ (n - 1) * 4294967296 := by rw [← Nat.pow_succ]; congr 1; omega
  rw [e]
  generalize 4294967296 ^ (n - 1) = Q at *
  generalize val (ds.take (n - 1)) = V at *
  constructor
  · have h3 := two32 s (by omega)
    have h4 : y < 2 ^ (32 - s) := by
      rw [h3, Nat.mul_comm] at y1
      exact Nat.lt_of_mul_lt_mul_left y1
    have h5 : val ds < Q * 2 ^ (32 - s) := by
      have : Q * (y + 1) ≤ Q * 2 ^ (32 - s) := Nat.mul_le_mul_left _ h4
      rw [Nat.mul_add, Nat.mul_one] at this
      omega
    have h6 := Nat.mul_lt_mul_of_pos_right h5 (Nat.two_pow_pos s)
    rw [Nat.mul_assoc, Nat.mul_comm (2 ^ (32 - s)), ← h3] at h6
    exact h6
  · rw [h1, Nat.add_mul, Nat.mul_assoc, Nat.mul_comm 2147483648]
    have := Nat.mul_le_mul_left Q y0
    omega
/-- the last word of a number whose first bit stands -/
theorem wide_top {ds : List Nat} (hw : W32 ds) {n v : Nat} (hl : ds.length = n) (h0 : 0 < n) (hv : ds.getD (n - 1) 0 = v) (h : 2147483648 * 4294967296 ^ (n - 1) ≤ val ds) : 2147483648 ≤ v := by
  have h1 := val_take_succ' ds (n - 1)
  rw [show n - 1 + 1 = n by omega, List.take_of_length_le (by omega), hv] at h1
  have h2 := val_take_lt hw (n - 1)
  refine Nat.not_lt.1 fun hlt => ?_
  have h3 : 4294967296 ^ (n - 1) * (v + 1) ≤ 4294967296 ^ (n - 1) * 2147483648 := Nat.mul_le_mul_left _ (by omega)
  rw [Nat.mul_add, Nat.mul_one] at h3
  omega
/-- the guess of a word, as the walk has it -/
def KZ (v1 v0 t u0 : Nat) (q r : Int) : Prop := ∃ a b : Nat, q = (a : Int) ∧ r = (b : Int) ∧ KInv v1 v0 t u0 a b
theorem KZ.bounds {v1 v0 t u0 : Nat} {q r : Int} (h : KZ v1 v0 t u0 q r) : 0 ≤ r ∧ r < 4294967296 ∧ 0 ≤ q ∧ q ≤ 4294967297 := by
  obtain ⟨a, b, rfl, rfl, i⟩ := h
  have := i.rl
  have := i.gl
  omega
theorem KZ.prod {v1 v0 t u0 : Nat} {q r : Int} (h : KZ v1 v0 t u0 q r) (k : KIn v1 v0 t u0) (hq : q < 4294967296) : 0 ≤ q * (v0 : Int) ∧ q * (v0 : Int) ≤ 18446744073709551615 := by
  obtain ⟨a, b, rfl, rfl, i⟩ := h
  have h1 := Nat.mul_le_mul (show a ≤ 4294967295 by omega) (show v0 ≤ 4294967295 by have := k.v0l; omega)
  rw [← Int.natCast_mul]
  omega
theorem KZ.side {v0 u0 a b : Nat} (h : 4294967296 ≤ (a : Int) ∨ 4294967296 * (b : Int) + (u0 : Int) < (a : Int) * (v0 : Int)) : 4294967296 ≤ a ∨ b * 4294967296 + u0 < a * v0 := by
  rw [← Int.natCast_mul] at h
  omega
theorem KZ.dec {v1 v0 t u0 : Nat} {q r : Int} (h : KZ v1 v0 t u0 q r) (k : KIn v1 v0 t u0) (h1 : 4294967296 ≤ q ∨ 4294967296 * r + (u0 : Int) < q * (v0 : Int)) (h2 : r + (v1 : Int) < 4294967296) : KZ v1 v0 t u0 (q - 1) (r + (v1 : Int)) := by
  obtain ⟨a, b, rfl, rfl, i⟩ := h
  have h3 := KZ.side h1
  have h4 := (i.more k h3).2.1
  exact ⟨a - 1, b + v1, by omega, by omega, i.dec k h3 (by omega)⟩
theorem KZ.one {v1 v0 t u0 : Nat} {q r : Int} (h : KZ v1 v0 t u0 q r) (k : KIn v1 v0 t u0) (h1 : 4294967296 ≤ q ∨ 4294967296 * r + (u0 : Int) < q * (v0 : Int)) : 0 ≤ q - 1 := by
  obtain ⟨a, b, rfl, rfl, i⟩ := h
  have h4 := (i.more k (KZ.side h1)).2.1
  omega
theorem KZ.brk {v1 v0 t u0 : Nat} {q r : Int} (h : KZ v1 v0 t u0 q r) (k : KIn v1 v0 t u0) (h1 : 4294967296 ≤ q ∨ 4294967296 * r + (u0 : Int) < q * (v0 : Int)) (h2 : 4294967296 ≤ r + (v1 : Int)) : q - 1 = (kG v1 v0 t u0 : Int) := by
  obtain ⟨a, b, rfl, rfl, i⟩ := h
  have h3 := KZ.side h1
  have h4 := (i.more k h3).2.1
  have h5 := i.brk k h3 (by omega)
  omega
theorem KZ.stop {v1 v0 t u0 : Nat} {q r : Int} (h : KZ v1 v0 t u0 q r) (k : KIn v1 v0 t u0) (h1 : ¬ 4294967296 ≤ q) (h2 : ¬ 4294967296 * r + (u0 : Int) < q * (v0 : Int)) : q = (kG v1 v0 t u0 : Int) := by
  obtain ⟨a, b, rfl, rfl, i⟩ := h
  rw [← Int.natCast_mul] at h2
  have h5 := i.stop k (by omega) (by omega)
  omega
end Go.Proofs.YtbidlkmagbjllaaGreatDoor.Bg

namespace Go.Proofs.YtbidlkmagbjllaaGreatDoor.Bg
open Go Go.RowKit

theorem Only.drewN {a b : World} {g : Nat} (h : Only a g b) (n : Nat) : Only a g (b.drewN n) := h.trans ⟨rfl, rfl, rfl, Nat.le_refl _, fun _ _ _ => rfl⟩
/-- ahead of word i of d: what stands in os (carry c) -/
def MoreSt (us ds os : List Nat) (j i c : Nat) : Prop := val os + 4294967296 ^ (j + i) * c = val us + 4294967296 ^ j * val (ds.take i)
theorem more_step {us ds os : List Nat} {j i c x y z c' : Nat} (h : MoreSt us ds os j i c) (hk : j + i < os.length) (hx : os.getD (j + i) 0 = x) (hy : ds.getD i 0 = y) (hz : 4294967296 * c' + z = x + y + c) :
    MoreSt us ds (os.set (j + i) z) j (i + 1) c' := by
  unfold MoreSt at *
  have h1 := set_val (x := z) hk
  rw [hx] at h1
  rw [val_take_succ', hy, Nat.mul_add, show j + (i + 1) = j + i + 1 by omega, Nat.pow_succ]
  have e1 : 4294967296 ^ j * (4294967296 ^ i * y) = 4294967296 ^ (j + i) * y := by rw [← Nat.mul_assoc, ← Nat.pow_add]
  rw [e1]
  have e2 : 4294967296 ^ (j + i) * 4294967296 * c' + 4294967296 ^ (j + i) * z = 4294967296 ^ (j + i) * x + 4294967296 ^ (j + i) * y + 4294967296 ^ (j + i) * c := by
    rw [Nat.mul_assoc, ← Nat.mul_add, hz, Nat.mul_add, Nat.mul_add]
  omega
theorem more_end {us ds os : List Nat} {j n c x z c' : Nat} (h : MoreSt us ds os j n c) (hn : ds.length = n) (hk : j + n < os.length) (hx : os.getD (j + n) 0 = x) (hz : 4294967296 * c' + z = x + c) :
    val (os.set (j + n) z) + 4294967296 ^ (j + n + 1) * c' = val us + 4294967296 ^ j * val ds := by
  unfold MoreSt at h
  have h1 := set_val (x := z) hk
  rw [hx] at h1
  rw [List.take_of_length_le (by omega)] at h
  rw [Nat.pow_succ]
  have e2 : 4294967296 ^ (j + n) * 4294967296 * c' + 4294967296 ^ (j + n) * z = 4294967296 ^ (j + n) * x + 4294967296 ^ (j + n) * c := by
    rw [Nat.mul_assoc, ← Nat.mul_add, hz, Nat.mul_add]
  omega
def MoreW (w : World) (gb n : Nat) (us ds : List Nat) (j i c : Nat) (wr : World) : Prop :=
  ∃ os, Blk wr gb os ∧ os.length = n ∧ W32 os ∧ (MoreSt us ds os j i c ∧ os.drop (j + i) = us.drop (j + i)) ∧ Only w gb wr

set_option maxHeartbeats 4000000 in
theorem more_core (gb n cu nd cd bd od j : Nat) (us ds : List Nat) (w : World) (hu : Blk w gb us) (hw : W32 us) (hn : us.length = n) (hd : Mag w (.slice (some ⟨bd, od, none⟩) nd cd) ds) (hne : bd ≠ gb) (hj : j + nd < n) (hl : n ≤ 536870912) :
    Calls Tryz.prog 170 #[.slice (some ⟨gb, 0, none⟩) n cu, .slice (some ⟨bd, od, none⟩) nd cd, .int .i64 (j : Int)] w fun e w' => ∃ os c, e = .returned (.tuple #[]) ∧ c ≤ 1 ∧ Blk w' gb os ∧ os.length = n ∧ W32 os ∧
      val os + 4294967296 ^ (j + nd + 1) * c = val us + 4294967296 ^ j * val ds ∧ os.drop (j + nd + 1) = us.drop (j + nd + 1) ∧ Only w gb w' := by
  have hdl := hd.len
  have HD := Lib.hid hd
  have HL := Lib.hid hdl
  have H0 := Lib.hid (show MoreW w gb n us ds j 0 0 w from ⟨us, hu, hn, hw, ⟨by simp [MoreSt, val], rfl⟩, Only.refl _ _⟩)
  clear hd hdl hu hn hw
  go_enter Tryz.func170, Tryz.ntmps170
  go_wp2_with fail
  go_loopw [6, 7] (fun cv i wr => ∃ k cy : Nat, k ≤ nd ∧ i = .int .i64 k ∧ cv = .int .u64 cy ∧ cy ≤ 1 ∧ Hid (MoreW w gb n us ds j k cy wr)) (fun _ i _ => nd - (intOf i).toNat)
  case atStart => exact ⟨0, 0, Nat.zero_le _, rfl, rfl, by omega, H0⟩
  case round =>
    obtain ⟨k, cy, hk, rfl, rfl, hcy, hp⟩ := hrel
    obtain ⟨os, hbk, hlen, hw, hst, hon⟩ := hp.out
    have HO := Lib.hid (And.intro hbk (And.intro hlen (And.intro hw (And.intro hst hon))))
    by_cases hlt : k < nd
    · have hfr : wr.frozen? ⟨gb, j + k, none⟩ = false := hbk.frozen _
      obtain ⟨x, ex⟩ : ∃ x, os.getD (j + k) 0 = x := ⟨_, rfl⟩
      have hco : wr.cell? ⟨gb, j + k, none⟩ = some (.int .u32 (x : Nat)) := by rw [← ex]; exact hbk.cell (by omega)
      have wx := hw.get (j + k)
      rw [ex] at wx
      obtain ⟨b1, o1, ea, hb1, hc1⟩ := HD.out.at (j := k) hlt
      injection ea with ea
      injection ea with ea1 ea2 _
      subst ea1 ea2
      have hx := (hon.cell (p := ⟨bd, od + k, none⟩) hb1 hne).trans hc1
      obtain ⟨dk, edk⟩ : ∃ x, ds.getD k 0 = x := ⟨_, rfl⟩
      have wd := HD.out.w32.get k
      rw [edk] at hx wd
      have EX := Lib.hid (And.intro ex edk)
      clear ex edk hbk hlen hw hst hon hc1 hb1
      have q1 : (j : Int) + (k : Int) < (n : Int) := by omega
      have q2 : (k : Int) < (nd : Int) := by omega
      have e1 : IntKind.i64.wrap ((j : Int) + (k : Int)) = (j : Int) + (k : Int) := IntWalk.i64_in _ ⟨by omega, by omega⟩
      have e2 : ((j : Int) + (k : Int)).toNat = j + k := by omega
      have e4 : IntKind.u64.wrap ((x : Int) + (dk : Int)) = (x : Int) + (dk : Int) := IntWalk.u64_in _ ⟨by omega, by omega⟩
      have e5 : IntKind.u64.wrap ((x : Int) + (dk : Int) + (cy : Int)) = (x : Int) + (dk : Int) + (cy : Int) := IntWalk.u64_in _ ⟨by omega, by omega⟩
      go_wp2_with fail
      go_quiet (fail)
      go_wp2_with fail
      go_roundw
      case rel => exact ⟨k + 1, (x + dk + cy) / 4294967296, by omega, by go_num, int_eq (by omega), by omega, os.set (j + k) ((x + dk + cy) % 4294967296), blk_end (HO.out.1.drewN _) (by omega), by rw [List.length_set]; exact HO.out.2.1, HO.out.2.2.1.set (by omega),
          ⟨more_step HO.out.2.2.2.1.1 (by have := HO.out.2.1; omega) EX.out.1 EX.out.2 (by omega), drop_more HO.out.2.2.2.1.2⟩, Only.setCell (HO.out.2.2.2.2.drewN _) _ _⟩
      case measure => simp [intOf]; omega
    · obtain rfl : k = nd := by omega
      have hfr : wr.frozen? ⟨gb, j + k, none⟩ = false := hbk.frozen _
      obtain ⟨x, ex⟩ : ∃ x, os.getD (j + k) 0 = x := ⟨_, rfl⟩
      have hco : wr.cell? ⟨gb, j + k, none⟩ = some (.int .u32 (x : Nat)) := by rw [← ex]; exact hbk.cell (by omega)
      have wx := hw.get (j + k)
      rw [ex] at wx
      have EX := Lib.hid ex
      clear hbk hlen hw hst hon ex
      go_wp2_with fail
      go_end0
      exact ⟨os.set (j + k) ((x + cy) % 4294967296), (x + cy) / 4294967296, rfl, by omega, blk_end HO.out.1 (by omega), by rw [List.length_set]; exact HO.out.2.1, HO.out.2.2.1.set (by omega),
          more_end HO.out.2.2.2.1.1 HL.out.symm (by have := HO.out.2.1; omega) EX.out (by omega), drop_more HO.out.2.2.2.1.2, HO.out.2.2.2.2.setCell _ _⟩
end Go.Proofs.YtbidlkmagbjllaaGreatDoor.Bg
