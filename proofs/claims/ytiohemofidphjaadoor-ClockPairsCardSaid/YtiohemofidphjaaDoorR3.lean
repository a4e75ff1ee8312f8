/- Contract of the reference's less: a multiple of a magnitude is taken off another one, from a place on. -/
import Derived.Test.YtiohemofidphjaaDoorR2
import Derived.Test.YtiohemofidphjaaDoorD2
namespace Go.Proofs.YtiohemofidphjaaDoor.Bg
open Go Go.RowKit

/-- ahead of word i of d: what stands in os (carry and borrow: c) -/
def LessSt (us ds os : List Nat) (j g i c : Nat) : Prop := val os + 4294967296 ^ j * (g * val (ds.take i)) = val us + 4294967296 ^ (j + i) * c
theorem less_word {os : List Nat} {k x y z b : Nat} (hk : k < os.length) (hx : os.getD k 0 = x) (hz : z + y = x + 4294967296 * b) :
    val (os.set k z) + 4294967296 ^ k * y = val os + 4294967296 ^ (k + 1) * b := by
  have h := set_val (x := z) hk
  have e : 4294967296 ^ k * z + 4294967296 ^ k * y = 4294967296 ^ k * x + 4294967296 ^ (k + 1) * b := by
    rw [← Nat.mul_add, hz, Nat.mul_add, Nat.pow_succ, Nat.mul_assoc]
  rw [hx] at h
  omega
theorem less_step {us ds os : List Nat} {j g i cy bo p x y z b : Nat} (h : LessSt us ds os j g i (cy + bo)) (hk : j + i < os.length) (hp : p = g * ds.getD i 0 + cy) (hy : y = p % 4294967296 + bo)
    (hx : os.getD (j + i) 0 = x) (hz : z + y = x + 4294967296 * b) : LessSt us ds (os.set (j + i) z) j g (i + 1) (p / 4294967296 + b) := by
  unfold LessSt at *
  have h1 := less_word hk hx hz
  rw [val_take_succ', Nat.mul_add, Nat.mul_add, show j + (i + 1) = j + i + 1 by omega]
  have e : 4294967296 ^ (j + i) * y + 4294967296 ^ (j + i + 1) * (p / 4294967296) = 4294967296 ^ (j + i) * (g * ds.getD i 0) + 4294967296 ^ (j + i) * (cy + bo) := by
    rw [Nat.pow_succ, Nat.mul_assoc, ← Nat.mul_add, ← Nat.mul_add]
    congr 1
    omega
  have e2 : 4294967296 ^ j * (g * (4294967296 ^ i * ds.getD i 0)) = 4294967296 ^ (j + i) * (g * ds.getD i 0) := by
    rw [Nat.pow_add, Nat.mul_left_comm g, Nat.mul_assoc]
  rw [e2, Nat.mul_add]
  omega
theorem less_end {us ds os : List Nat} {j g n c x z b : Nat} (h : LessSt us ds os j g n c) (hn : ds.length = n) (hk : j + n < os.length) (hx : os.getD (j + n) 0 = x) (hz : z + c = x + 4294967296 * b) :
    val (os.set (j + n) z) + 4294967296 ^ j * (g * val ds) = val us + 4294967296 ^ (j + n + 1) * b := by
  unfold LessSt at h
  have h1 := less_word hk hx hz
  rw [List.take_of_length_le (by omega)] at h
  omega

/-- w' is w but for block g (and new blocks) -/
def Only (w : World) (g : Nat) (w' : World) : Prop := w.grownBy w' (some g)
theorem Only.refl (w : World) (g : Nat) : Only w g w := ⟨rfl, rfl, rfl, Nat.le_refl _, fun _ _ _ => rfl⟩
theorem Only.trans {a b c : World} {g : Nat} (h : Only a g b) (k : Only b g c) : Only a g c := World.grownBy.trans h k
theorem Only.size {a b : World} {g : Nat} (h : Only a g b) : a.heap.size ≤ b.heap.size := World.grownBy.size h
theorem Only.cell {a b : World} {g : Nat} (h : Only a g b) {p : Addr} (hp : p.block < a.heap.size) (hne : p.block ≠ g) : b.cell? p = a.cell? p :=
  World.cell?_of_block (World.grownBy.block h p.block hp (fun e => hne (by injection e)))
theorem Only.setCell {a b : World} {g : Nat} (h : Only a g b) (i : Nat) (v : Value) : Only a g (b.setCell ⟨g, i, none⟩ v) :=
  h.trans ⟨rfl, rfl, rfl, by simp [World.setCell], fun k _ hne => by
    have : k ≠ g := fun e => hne (by rw [e])
    simp only [World.setCell, Array.getElem?_modify, if_neg (Ne.symm this)]⟩
theorem Only.below {a b : World} {g B : Nat} (h : Only a g b) (hB : B ≤ g) (hB2 : B ≤ a.heap.size) : Below B a b :=
  (Below.refl B a).grown h hB2 (fun k hk => by injection hk with hk; omega)
theorem Only.mag {a b : World} {g : Nat} (h : Only a g b) {A : Option Addr} {k c : Nat} {ws : List Nat} (hm : Mag a (.slice A k c) ws) (hne : ∀ x, A = some x → x.block ≠ g) : Mag b (.slice A k c) ws := by
  obtain ⟨A', c', e, h2, h3, h4, h5⟩ := hm
  have e' := e
  injection e with e1 e2 e3
  subst e1
  refine ⟨A, c', e', h2, h3, h4, fun hl => ?_⟩
  obtain ⟨bb, off, rfl, hb, hc⟩ := h5 hl
  exact ⟨bb, off, rfl, Nat.lt_of_lt_of_le hb h.size, fun j hj => (h.cell (p := ⟨bb, off + j, none⟩) (by exact hb) (hne ⟨bb, off, none⟩ rfl)).trans (hc j hj)⟩

def LessW (w : World) (gb n : Nat) (us ds : List Nat) (j g i c : Nat) (wr : World) : Prop :=
  ∃ os, Blk wr gb os ∧ os.length = n ∧ W32 os ∧ (LessSt us ds os j g i c ∧ os.drop (j + i) = us.drop (j + i)) ∧ Only w gb wr
theorem drop_more {os us : List Nat} {k z : Nat} (h : os.drop k = us.drop k) : (os.set k z).drop (k + 1) = us.drop (k + 1) := by
  rw [List.drop_set_of_lt (by omega)]
  have := congrArg (List.drop 1) h
  rwa [List.drop_drop, List.drop_drop] at this

set_option maxHeartbeats 4000000 in
theorem less_core (gb n cu nd cd bd od j g : Nat) (us ds : List Nat) (w : World) (hu : Blk w gb us) (hw : W32 us) (hn : us.length = n) (hd : Mag w (.slice (some ⟨bd, od, none⟩) nd cd) ds) (hne : bd ≠ gb) (hj : j + nd < n) (hl : n ≤ 536870912) (hg : g < 4294967296) :
    Calls Tryd.prog 70 #[.slice (some ⟨gb, 0, none⟩) n cu, .slice (some ⟨bd, od, none⟩) nd cd, .int .i64 (j : Int), .int .u64 (g : Int)] w fun e w' => ∃ os b, e = .returned (.bool (decide (b = 1))) ∧ b ≤ 1 ∧ Blk w' gb os ∧ os.length = n ∧ W32 os ∧
      val os + 4294967296 ^ j * (g * val ds) = val us + 4294967296 ^ (j + nd + 1) * b ∧ os.drop (j + nd + 1) = us.drop (j + nd + 1) ∧ Only w gb w' := by
  have hdl := hd.len
  have HD := Lib.hid hd
  have HL := Lib.hid hdl
  have H0 := Lib.hid (show LessW w gb n us ds j g 0 (0 + 0) w from ⟨us, hu, hn, hw, ⟨by simp [LessSt, val], rfl⟩, Only.refl _ _⟩)
  clear hd hdl hu hn hw
  go_enter Tryd.func70, Tryd.ntmps70
  go_wp2_with fail
  go_loopw [9, 10, 11] (fun cv bv i wr => ∃ k cy bo : Nat, k ≤ nd ∧ i = .int .i64 k ∧ cv = .int .u64 cy ∧ bv = .int .u64 bo ∧ cy < 4294967296 ∧ bo ≤ 1 ∧ Hid (LessW w gb n us ds j g k (cy + bo) wr)) (fun _ _ i _ => nd - (intOf i).toNat)
  case atStart => exact ⟨0, 0, 0, Nat.zero_le _, rfl, rfl, rfl, by omega, by omega, H0⟩
  case round =>
    obtain ⟨k, cy, bo, hk, rfl, rfl, rfl, hcy, hbo, hp⟩ := hrel
    obtain ⟨os, hbk, hlen, hw, hst, hon⟩ := hp.out
    have HO := Lib.hid (And.intro hbk (And.intro hlen (And.intro hw (And.intro hst hon))))
    by_cases hlt : k < nd
    · have hfr : wr.frozen? ⟨gb, j + k, none⟩ = false := hbk.frozen _
      obtain ⟨x, ex⟩ : ∃ x, os.getD (j + k) 0 = x := ⟨_, rfl⟩
      have hco : wr.cell? ⟨gb, j + k, none⟩ = some (.int .u32 (x : Nat)) := by rw [← ex]; exact hbk.cell (by omega)
      have wx := hw.get (j + k)
      rw [ex] at wx
      obtain ⟨b1, o1, ea, hb1, hc1⟩ := HD.out.at (j := k) hlt
      injection ea with ea
      injection ea with ea1 ea2 _
      subst ea1 ea2
      have hx := (hon.cell (p := ⟨bd, od + k, none⟩) hb1 hne).trans hc1
      obtain ⟨dk, edk⟩ : ∃ x, ds.getD k 0 = x := ⟨_, rfl⟩
      have wd := HD.out.w32.get k
      rw [edk] at hx wd
      obtain ⟨P, hP⟩ : ∃ p, g * dk = p := ⟨_, rfl⟩
      have hpb := pro_word (o := 0) hg wd (by omega) hcy
      rw [Nat.add_zero, hP] at hpb
      have hmul : (g : Int) * (dk : Int) = (P : Int) := by rw [← hP, Int.natCast_mul]
      obtain ⟨p, hpp⟩ : ∃ p, P + cy = p := ⟨_, rfl⟩
      rw [hpp] at hpb
      have hadd : (P : Int) + (cy : Int) = (p : Int) := by omega
      obtain ⟨r, hr⟩ : ∃ r, p % 4294967296 = r := ⟨_, rfl⟩
      obtain ⟨c, hc⟩ : ∃ c, p / 4294967296 = c := ⟨_, rfl⟩
      have hand : bits .and .u64 (p : Int) 4294967295 = (r : Int) := by rw [Ck.and32 (by omega) (by omega)]; omega
      have hdiv : (p : Int) / 4294967296 = (c : Int) := by omega
      have hrb : r < 4294967296 := by omega
      have hcb : c < 4294967296 := by omega
      have HP := Lib.hid (And.intro hP (And.intro hpp (And.intro hr (And.intro hc (And.intro ex edk)))))
      have hmb : (P : Int) + (cy : Int) ≤ 18446744073709551615 := by omega
      have hP0 : (P : Int) ≤ 18446744073709551615 := by omega
      clear hP hpp hr hc ex edk hbk hlen hw hst hon hc1 hb1
      by_cases hxy : x < r + bo
      · have hxi : (x : Int) < (r : Int) + (bo : Int) := by omega
        go_wp2_with fail
        go_roundw
        case rel => exact ⟨k + 1, c, 1, by omega, by go_num, rfl, rfl, hcb, by omega, os.set (j + k) (x + 4294967296 - (r + bo)), blk_end HO.out.1 (by omega), by rw [List.length_set]; exact HO.out.2.1, HO.out.2.2.1.set (by omega),
          ⟨(by have h9 := less_step (p := p) (x := x) (y := r + bo) (z := x + 4294967296 - (r + bo)) (b := 1) HO.out.2.2.2.1.1 (by have := HO.out.2.1; omega) (by rw [HP.out.2.2.2.2.2, HP.out.1, HP.out.2.1]) (by rw [HP.out.2.2.1]) HP.out.2.2.2.2.1 (by omega); rwa [HP.out.2.2.2.1] at h9), drop_more HO.out.2.2.2.1.2⟩, HO.out.2.2.2.2.setCell _ _⟩
        case measure => simp [intOf]; omega
      · have hxi : ¬ (x : Int) < (r : Int) + (bo : Int) := by omega
        go_wp2_with fail
        go_roundw
        case rel => exact ⟨k + 1, c, 0, by omega, by go_num, rfl, rfl, hcb, by omega, os.set (j + k) (x - (r + bo)), blk_end HO.out.1 (by omega), by rw [List.length_set]; exact HO.out.2.1, HO.out.2.2.1.set (by omega),
          ⟨(by have h9 := less_step (p := p) (x := x) (y := r + bo) (z := x - (r + bo)) (b := 0) HO.out.2.2.2.1.1 (by have := HO.out.2.1; omega) (by rw [HP.out.2.2.2.2.2, HP.out.1, HP.out.2.1]) (by rw [HP.out.2.2.1]) HP.out.2.2.2.2.1 (by omega); rwa [HP.out.2.2.2.1] at h9), drop_more HO.out.2.2.2.1.2⟩, HO.out.2.2.2.2.setCell _ _⟩
        case measure => simp [intOf]; omega
    · obtain rfl : k = nd := by omega
      have hfr : wr.frozen? ⟨gb, j + k, none⟩ = false := hbk.frozen _
      obtain ⟨x, ex⟩ : ∃ x, os.getD (j + k) 0 = x := ⟨_, rfl⟩
      have hco : wr.cell? ⟨gb, j + k, none⟩ = some (.int .u32 (x : Nat)) := by rw [← ex]; exact hbk.cell (by omega)
      have wx := hw.get (j + k)
      rw [ex] at wx
      have EX := Lib.hid ex
      clear hbk hlen hw hst hon ex
      by_cases hxy : x < cy + bo
      · have hxi : (x : Int) < (cy : Int) + (bo : Int) := by omega
        have hwr : IntKind.u64.wrap ((x : Int) - ((cy : Int) + (bo : Int))) % 4294967296 = ((x + 4294967296 - (cy + bo) : Nat) : Int) := by rw [IntKind.wrap_u64]; omega
        go_wp2_with fail
        go_ret
        exact ⟨os.set (j + k) (x + 4294967296 - (cy + bo)), 1, by simp, by omega, blk_end HO.out.1 (by first | rfl | exact hwr), by rw [List.length_set]; exact HO.out.2.1, HO.out.2.2.1.set (by omega),
          less_end HO.out.2.2.2.1.1 HL.out.symm (by have := HO.out.2.1; omega) EX.out (by omega), drop_more HO.out.2.2.2.1.2, HO.out.2.2.2.2.setCell _ _⟩
      · have hxi : ¬ (x : Int) < (cy : Int) + (bo : Int) := by omega
        go_wp2_with fail
        go_ret
        exact ⟨os.set (j + k) (x - (cy + bo)), 0, by simp, by omega, blk_end HO.out.1 (by omega), by rw [List.length_set]; exact HO.out.2.1, HO.out.2.2.1.set (by omega),
          less_end HO.out.2.2.2.1.1 HL.out.symm (by have := HO.out.2.1; omega) EX.out (by omega), drop_more HO.out.2.2.2.1.2, HO.out.2.2.2.2.setCell _ _⟩
end Go.Proofs.YtiohemofidphjaaDoor.Bg
