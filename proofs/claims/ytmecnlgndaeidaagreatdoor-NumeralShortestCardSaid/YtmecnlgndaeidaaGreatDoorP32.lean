/- BL1 BL2 BL3 BL4 BL5 in one text. -/
import Derived.Test.YtmecnlgndaeidaaGreatDoorP30
import Derived.Test.YtmecnlgndaeidaaGreatDoorP12
import Derived.Deep.RegionHeld3

namespace Go.Proofs.YtmecnlgndaeidaaGreatDoor.Nb

/-- ahead of a step: x and y as combinations of x0 and y0 -/
structure EuSt (x0 y0 x y c d u v : Nat) (odd : Bool) : Prop where
  e1 : x * v + y * d = x0
  e2 : x * u + y * c = y0
  det : if odd then c * v = d * u + 1 else d * u = c * v + 1
  xy : y ≤ x
  uv : u ≤ v
  v1 : 1 ≤ v
  cd : c ≤ d ∨ (c = 1 ∧ d = 0 ∧ u = 0 ∧ odd = true)
theorem eu_start {x0 y0 : Nat} (h : y0 ≤ x0) : EuSt x0 y0 x0 y0 1 0 0 1 true := ⟨by omega, by omega, by simp, h, by omega, by omega, .inr ⟨rfl, rfl, rfl, rfl⟩⟩
theorem eu_step {x0 y0 x y c d u v q : Nat} {odd : Bool} (h : EuSt x0 y0 x y c d u v odd) (hy : 0 < y) (hq : q = x / y) : EuSt x0 y0 y (x % y) u v (c + q * u) (d + q * v) (!odd) := by
  obtain ⟨e1, e2, det, xy, uv, v1, cd⟩ := h
  have hd := Nat.div_add_mod x y
  rw [← hq] at hd
  have hq1 : 1 ≤ q := by rw [hq]; exact (Nat.le_div_iff_mul_le hy).2 (by omega)
  have hx : ∀ t, x * t = y * (q * t) + x % y * t := fun t => by
    rw [← Nat.mul_assoc, ← Nat.add_mul, hd]
  refine ⟨?_, ?_, ?_, Nat.le_of_lt (Nat.mod_lt _ hy), ?_, ?_, .inl uv⟩
  · rw [Nat.mul_add, ← e1, hx v]; omega
  · rw [Nat.mul_add, ← e2, hx u]; omega
  · have a1 : u * (d + q * v) = u * d + q * (u * v) := by rw [Nat.mul_add, Nat.mul_left_comm]
    have a2 : v * (c + q * u) = v * c + q * (u * v) := by rw [Nat.mul_add, Nat.mul_left_comm, Nat.mul_comm v u]
    rw [a1, a2]
    rw [Nat.mul_comm c v, Nat.mul_comm d u] at det
    cases odd <;> simp at det ⊢ <;> omega
  · rcases cd with h | ⟨rfl, rfl, rfl, -⟩
    · have : q * u ≤ q * v := Nat.mul_le_mul_left _ uv
      omega
    · have : q * 1 ≤ q * v := Nat.mul_le_mul_left _ v1
      omega
  · have : 1 * v ≤ q * v := Nat.mul_le_mul_right _ hq1
    omega
/-- the next step's numbers stay digits -/
theorem eu_room {x0 y0 x y c d u v q : Nat} {odd : Bool} (h : EuSt x0 y0 x y c d u v odd) (hy : 0 < y) (hq : q = x / y) : c + q * u ≤ y0 ∧ d + q * v ≤ x0 ∧ d + v ≤ x0 ∧ c ≤ y0 ∧ u ≤ y0 := by
  have h1 := eu_step h hy hq
  have a1 := h1.e1
  have a2 := h1.e2
  have a3 : 1 * (c + q * u) ≤ y * (c + q * u) := Nat.mul_le_mul_right _ hy
  have a4 : 1 * (d + q * v) ≤ y * (d + q * v) := Nat.mul_le_mul_right _ hy
  have b1 := h.e1
  have b2 := h.e2
  have hx : 1 ≤ x := by have := h.xy; omega
  have a5 : 1 * v ≤ x * v := Nat.mul_le_mul_right _ hx
  have a6 : 1 * d ≤ y * d := Nat.mul_le_mul_right _ hy
  have a7 : 1 * u ≤ x * u := Nat.mul_le_mul_right _ hx
  have a8 : 1 * c ≤ y * c := Nat.mul_le_mul_right _ hy
  omega

/-- what steps tell: where b is not 0, x and y are the last numbers for which it was sure -/
def Coming (x0 y0 a b c d : Nat) (odd : Bool) : Prop := b ≠ 0 → ∃ x y, EuSt x0 y0 x y a b c d (!odd) ∧ d ≤ y ∧ b + d ≤ x - y
/-- what such steps make of the whole numbers -/
structure After (X Y P C : Nat) (a b c d : Nat) : Prop where
  le : C ≤ P
  x : X = d * P + b * C
  y : Y = c * P + a * C
theorem After.sum {X Y P C a b c d : Nat} (h : After X Y P C a b c d) (hb : 0 < b) (hd : 0 < d) (hY : 0 < Y) : P + C < X + Y := by
  have h1 := h.x
  have a1 : 1 * P ≤ d * P := Nat.mul_le_mul_right _ hd
  have a2 : 1 * C ≤ b * C := Nat.mul_le_mul_right _ hb
  omega
theorem mul_top {X K t : Nat} (hK : 0 < K) : t * (X / K * K) ≤ t * X ∧ t * X ≤ t * (X / K * K) + t * K := by
  have h1 := Nat.div_add_mod X K
  have h2 := Nat.mod_lt X hK
  rw [Nat.mul_comm] at h1
  have a1 : t * (X / K * K) ≤ t * X := Nat.mul_le_mul_left _ (by omega)
  have a2 : t * X ≤ t * (X / K * K + K) := Nat.mul_le_mul_left _ (by omega)
  rw [Nat.mul_add] at a2
  exact ⟨a1, a2⟩
theorem after_core {X Y K x y a b c d : Nat} (hK : 0 < K) (h1 : a * (X / K) = x + b * (Y / K)) (h2 : d * (Y / K) = y + c * (X / K)) (hb : b ≤ x) (hc : c ≤ y) (hs : b + d ≤ x - y) (hdt : a * d = b * c + 1) :
    b * Y ≤ a * X ∧ c * X ≤ d * Y ∧ After X Y (a * X - b * Y) (d * Y - c * X) a b c d := by
  have t1 := mul_top (X := X) (t := a) hK
  have t2 := mul_top (X := Y) (t := b) hK
  have t3 := mul_top (X := X) (t := c) hK
  have t4 := mul_top (X := Y) (t := d) hK
  have m1 : a * (X / K * K) = x * K + b * (Y / K * K) := by rw [← Nat.mul_assoc, h1, Nat.add_mul, Nat.mul_assoc]
  have m2 : d * (Y / K * K) = y * K + c * (X / K * K) := by rw [← Nat.mul_assoc, h2, Nat.add_mul, Nat.mul_assoc]
  have k1 : b * K ≤ x * K := Nat.mul_le_mul_right _ hb
  have k2 : c * K ≤ y * K := Nat.mul_le_mul_right _ hc
  have hd1 : 1 ≤ d := by
    rcases Nat.eq_zero_or_pos d with h0 | h0
    · rw [h0] at hdt; omega
    · exact h0
  have k3 : (b + d + y) * K ≤ x * K := Nat.mul_le_mul_right _ (by omega)
  rw [Nat.add_mul, Nat.add_mul] at k3
  have g1 : b * Y ≤ a * X := by omega
  have g2 : c * X ≤ d * Y := by omega
  refine ⟨g1, g2, ?_, ?_, ?_⟩
  · omega
  · have p1 : d * (a * X) = b * (c * X) + X := by
      rw [← Nat.mul_assoc, Nat.mul_comm d a, hdt, Nat.add_mul, Nat.one_mul, Nat.mul_assoc]
    have p2 : d * (b * Y) = b * (d * Y) := Nat.mul_left_comm _ _ _
    rw [Nat.mul_sub, Nat.mul_sub, p1, p2]
    have q1 : b * (c * X) ≤ b * (d * Y) := Nat.mul_le_mul_left _ g2
    have q2 : d * (b * Y) ≤ d * (a * X) := Nat.mul_le_mul_left _ g1
    rw [p1, p2] at q2
    omega
  · have p1 : a * (d * Y) = c * (b * Y) + Y := by
      rw [← Nat.mul_assoc, hdt, Nat.add_mul, Nat.one_mul, Nat.mul_comm b c, Nat.mul_assoc]
    have p2 : c * (a * X) = a * (c * X) := Nat.mul_left_comm _ _ _
    rw [Nat.mul_sub, Nat.mul_sub, p1, p2]
    have q1 : a * (c * X) ≤ a * (d * Y) := Nat.mul_le_mul_left _ g2
    have q2 : c * (b * Y) ≤ c * (a * X) := Nat.mul_le_mul_left _ g1
    rw [p1] at q1
    rw [p2] at q2
    omega
theorem after_even {X Y K a b c d : Nat} (hK : 0 < K) (h : Coming (X / K) (Y / K) a b c d false) (hb : b ≠ 0) :
    b * Y ≤ a * X ∧ c * X ≤ d * Y ∧ After X Y (a * X - b * Y) (d * Y - c * X) a b c d ∧ 0 < d := by
  obtain ⟨x, y, ⟨e1, e2, det, xy, uv, v1, cd⟩, hd, hs⟩ := h hb
  simp at det
  have i1 : a * (X / K) = x + b * (Y / K) := by
    rw [← e1, ← e2, Nat.mul_add, Nat.mul_add]
    have a1 : a * (x * d) = x * (a * d) := Nat.mul_left_comm _ _ _
    have a2 : b * (x * c) = x * (b * c) := Nat.mul_left_comm _ _ _
    have a3 : a * (y * b) = b * (y * a) := by rw [Nat.mul_left_comm, Nat.mul_comm a b, ← Nat.mul_left_comm]
    rw [a1, a2, a3, det, Nat.mul_add]
    omega
  have i2 : d * (Y / K) = y + c * (X / K) := by
    rw [← e1, ← e2, Nat.mul_add, Nat.mul_add]
    have a1 : d * (x * c) = c * (x * d) := by rw [Nat.mul_left_comm, Nat.mul_comm d c, ← Nat.mul_left_comm]
    have a2 : d * (y * a) = y * (a * d) := by rw [Nat.mul_left_comm, Nat.mul_comm d a]
    have a3 : c * (y * b) = y * (b * c) := by rw [Nat.mul_left_comm, Nat.mul_comm c b]
    rw [a1, a2, a3, det, Nat.mul_add]
    omega
  obtain ⟨p1, p2, p3⟩ := after_core hK i1 i2 (by omega) (by omega) hs det
  exact ⟨p1, p2, p3, v1⟩
theorem after_odd {X Y K a b c d : Nat} (hK : 0 < K) (h : Coming (X / K) (Y / K) a b c d true) (hb : b ≠ 0) :
    a * X ≤ b * Y ∧ d * Y ≤ c * X ∧ After X Y (b * Y - a * X) (c * X - d * Y) a b c d ∧ 0 < d := by
  obtain ⟨x, y, ⟨e1, e2, det, xy, uv, v1, cd⟩, hd, hs⟩ := h hb
  simp at det cd
  have i1 : b * (Y / K) = x + a * (X / K) := by
    rw [← e1, ← e2, Nat.mul_add, Nat.mul_add]
    have a1 : b * (x * c) = x * (b * c) := Nat.mul_left_comm _ _ _
    have a2 : a * (x * d) = x * (a * d) := Nat.mul_left_comm _ _ _
    have a3 : a * (y * b) = b * (y * a) := by rw [Nat.mul_left_comm, Nat.mul_comm a b, ← Nat.mul_left_comm]
    rw [a1, a2, a3, det, Nat.mul_add]
    omega
  have i2 : c * (X / K) = y + d * (Y / K) := by
    rw [← e1, ← e2, Nat.mul_add, Nat.mul_add]
    have a1 : d * (x * c) = c * (x * d) := by rw [Nat.mul_left_comm, Nat.mul_comm d c, ← Nat.mul_left_comm]
    have a2 : d * (y * a) = y * (a * d) := by rw [Nat.mul_left_comm, Nat.mul_comm d a]
    have a3 : c * (y * b) = y * (b * c) := by rw [Nat.mul_left_comm, Nat.mul_comm c b]
    rw [a1, a2, a3, det, Nat.mul_add]
    omega
  have hm : b * c = a * d + 1 := det
  have hab : a ≤ b := cd
  have t1 := mul_top (X := X) (t := a) hK
  have t2 := mul_top (X := Y) (t := b) hK
  have t3 := mul_top (X := X) (t := c) hK
  have t4 := mul_top (X := Y) (t := d) hK
  have m1 : b * (Y / K * K) = x * K + a * (X / K * K) := by rw [← Nat.mul_assoc, i1, Nat.add_mul, Nat.mul_assoc]
  have m2 : c * (X / K * K) = y * K + d * (Y / K * K) := by rw [← Nat.mul_assoc, i2, Nat.add_mul, Nat.mul_assoc]
  have k1 : a * K ≤ x * K := Nat.mul_le_mul_right _ (by omega)
  have k2 : d * K ≤ y * K := Nat.mul_le_mul_right _ hd
  have k3 : (a + c + y) * K ≤ x * K := Nat.mul_le_mul_right _ (by omega)
  rw [Nat.add_mul, Nat.add_mul] at k3
  have g1 : a * X ≤ b * Y := by omega
  have g2 : d * Y ≤ c * X := by omega
  refine ⟨g1, g2, ⟨?_, ?_, ?_⟩, v1⟩
  · omega
  · have p1 : b * (c * X) = d * (a * X) + X := by
      rw [← Nat.mul_assoc, hm, Nat.add_mul, Nat.one_mul, Nat.mul_comm a d, Nat.mul_assoc]
    have p2 : d * (b * Y) = b * (d * Y) := Nat.mul_left_comm _ _ _
    rw [Nat.mul_sub, Nat.mul_sub, p1, p2]
    have q1 : b * (d * Y) ≤ b * (c * X) := Nat.mul_le_mul_left _ g2
    have q2 : d * (a * X) ≤ d * (b * Y) := Nat.mul_le_mul_left _ g1
    rw [p1] at q1
    rw [p2] at q2
    omega
  · have p1 : c * (b * Y) = a * (d * Y) + Y := by
      rw [← Nat.mul_assoc, Nat.mul_comm c b, hm, Nat.add_mul, Nat.one_mul, Nat.mul_assoc]
    have p2 : c * (a * X) = a * (c * X) := Nat.mul_left_comm _ _ _
    rw [Nat.mul_sub, Nat.mul_sub, p1, p2]
    have q1 : a * (d * Y) ≤ a * (c * X) := Nat.mul_le_mul_left _ g2
    have q2 : c * (a * X) ≤ c * (b * Y) := Nat.mul_le_mul_left _ g1
    rw [p1, p2] at q2
    omega
theorem After.gcd {X Y P C a b c d : Nat} (h : After X Y P C a b c d) (hP : ∃ s t, s * X = P + t * Y ∨ s * Y = P + t * X) (hC : ∃ s t, s * Y = C + t * X ∨ s * X = C + t * Y) : Nat.gcd X Y = Nat.gcd P C := by
  apply Nat.dvd_antisymm
  · apply Nat.dvd_gcd
    · obtain ⟨s, t, e | e⟩ := hP
      · exact (Nat.dvd_add_left (Nat.dvd_mul_left_of_dvd (Nat.gcd_dvd_right X Y) t)).1 (e ▸ Nat.dvd_mul_left_of_dvd (Nat.gcd_dvd_left X Y) s)
      · exact (Nat.dvd_add_left (Nat.dvd_mul_left_of_dvd (Nat.gcd_dvd_left X Y) t)).1 (e ▸ Nat.dvd_mul_left_of_dvd (Nat.gcd_dvd_right X Y) s)
    · obtain ⟨s, t, e | e⟩ := hC
      · exact (Nat.dvd_add_left (Nat.dvd_mul_left_of_dvd (Nat.gcd_dvd_left X Y) t)).1 (e ▸ Nat.dvd_mul_left_of_dvd (Nat.gcd_dvd_right X Y) s)
      · exact (Nat.dvd_add_left (Nat.dvd_mul_left_of_dvd (Nat.gcd_dvd_right X Y) t)).1 (e ▸ Nat.dvd_mul_left_of_dvd (Nat.gcd_dvd_left X Y) s)
  · apply Nat.dvd_gcd
    · rw [h.x]; exact Nat.dvd_add (Nat.dvd_mul_left_of_dvd (Nat.gcd_dvd_left P C) d) (Nat.dvd_mul_left_of_dvd (Nat.gcd_dvd_right P C) b)
    · rw [h.y]; exact Nat.dvd_add (Nat.dvd_mul_left_of_dvd (Nat.gcd_dvd_left P C) c) (Nat.dvd_mul_left_of_dvd (Nat.gcd_dvd_right P C) a)
end Go.Proofs.YtmecnlgndaeidaaGreatDoor.Nb

namespace Go.Proofs.YtmecnlgndaeidaaGreatDoor.Nb
open Go Go.RowKit

theorem cells_set {w : World} {g : Nat} {arr : Array Value} {T : TypeId} {fz : Nat × Nat} (h : w.heap[g]? = some (.cells arr T fz)) (i : Nat) (v : Value) : (w.setCell ⟨g, i, none⟩ v).heap[g]? = some (.cells (arr.setIfInBounds i v) T fz) := by
  simp [World.setCell, Array.getElem?_modify, h]
/-- the five cells of what steps gather -/
def ComAt (w : World) (g a b c d : Nat) (odd : Bool) : Prop := w.heap[g]? = some (.cells #[.int .u64 (a : Int), .int .u64 (b : Int), .int .u64 (c : Int), .int .u64 (d : Int), .bool odd] 222 (0, 0))
structure ComCells (w : World) (g a b c d : Nat) (odd : Bool) : Prop where
  m0 : w.cell? ⟨g, 0, none⟩ = some (.int .u64 (a : Int))
  m1 : w.cell? ⟨g, 1, none⟩ = some (.int .u64 (b : Int))
  m2 : w.cell? ⟨g, 2, none⟩ = some (.int .u64 (c : Int))
  m3 : w.cell? ⟨g, 3, none⟩ = some (.int .u64 (d : Int))
  m4 : w.cell? ⟨g, 4, none⟩ = some (.bool odd)
  f0 : w.frozen? ⟨g, 0, none⟩ = false
  f1 : w.frozen? ⟨g, 1, none⟩ = false
  f2 : w.frozen? ⟨g, 2, none⟩ = false
  f3 : w.frozen? ⟨g, 3, none⟩ = false
  f4 : w.frozen? ⟨g, 4, none⟩ = false
theorem ComAt.cells {w : World} {g a b c d : Nat} {odd : Bool} (h : ComAt w g a b c d odd) : ComCells w g a b c d odd := by
  unfold ComAt at h
  refine ⟨?_, ?_, ?_, ?_, ?_, ?_, ?_, ?_, ?_, ?_⟩
  · rw [cell_of_row w g 0 _ _ (0, 0) h]; rfl
  · rw [cell_of_row w g 1 _ _ (0, 0) h]; rfl
  · rw [cell_of_row w g 2 _ _ (0, 0) h]; rfl
  · rw [cell_of_row w g 3 _ _ (0, 0) h]; rfl
  · rw [cell_of_row w g 4 _ _ (0, 0) h]; rfl
  all_goals simp [World.frozen?, h]
def ComW (w wr : World) (x0 y0 a b c d u v : Nat) (odd : Bool) (x y : Nat) : Prop :=
  EuSt x0 y0 x y c d u v odd ∧ Coming x0 y0 a b c d odd ∧ ComAt wr (w.heap.size + 1) a b c d odd ∧ ComAt wr w.heap.size 0 0 0 0 false ∧ Below w.heap.size w wr

def StepsPost (w : World) (x0 y0 : Nat) (e : Ending) (w' : World) : Prop := ∃ (a b c d : Nat) (odd : Bool), e = .returned (.agg #[.int .u64 (a : Int), .int .u64 (b : Int), .int .u64 (c : Int), .int .u64 (d : Int), .bool odd]) ∧ (a < 18446744073709551616 ∧ b < 18446744073709551616 ∧ c < 18446744073709551616 ∧ d < 18446744073709551616) ∧ Coming x0 y0 a b c d odd ∧ Below w.heap.size w w'
set_option maxRecDepth 8000 in
set_option maxHeartbeats 4000000 in
theorem steps_any (x0 y0 : Nat) (w : World) (hx : x0 < 18446744073709551616) (hxy : y0 ≤ x0) :
    Calls Tryz.prog 183 #[.int .u64 (x0 : Int), .int .u64 (y0 : Int)] w (StepsPost w x0 y0) := by
  have HX := Lib.hid (And.intro hx hxy)
  clear hx hxy
  go_enter Tryz.func183, Tryz.ntmps183
  go_wp2_with fail
  have H0 : Hid (ComW w ((w.alloc (.cells #[.int .u64 0, .int .u64 0, .int .u64 0, .int .u64 0, .bool false] 222)).alloc (.cells #[.int .u64 0, .int .u64 0, .int .u64 1, .int .u64 0, .bool true] 222)) x0 y0 0 0 1 0 0 1 true x0 y0) := Lib.hid (by
    have b1 := (Below.refl w.heap.size w).alloc (Nat.le_refl _) (.cells #[.int .u64 0, .int .u64 0, .int .u64 0, .int .u64 0, .bool false] 222)
    have hs : (w.alloc (.cells #[.int .u64 0, .int .u64 0, .int .u64 0, .int .u64 0, .bool false] 222)).heap.size = w.heap.size + 1 := by simp
    have n1 := heap_alloc_new w (.cells #[.int .u64 0, .int .u64 0, .int .u64 0, .int .u64 0, .bool false] 222)
    generalize w.alloc (.cells #[.int .u64 0, .int .u64 0, .int .u64 0, .int .u64 0, .bool false] 222) = w1 at *
    have b2 := (Below.refl w1.heap.size w1).alloc (Nat.le_refl _) (.cells #[.int .u64 0, .int .u64 0, .int .u64 1, .int .u64 0, .bool true] 222)
    have n2 := heap_alloc_new w1 (.cells #[.int .u64 0, .int .u64 0, .int .u64 1, .int .u64 0, .bool true] 222)
    rw [hs] at n2
    exact ⟨eu_start HX.out.2, fun h => absurd rfl h, n2, (b2.block _ (by omega)).trans n1, onto b1 b2⟩)
  go_loopw [0, 1, 6, 7] (fun xv yv uv vv wr => ∃ (x y a b c d u v : Nat) (odd : Bool), xv = .int .u64 (x : Int) ∧ yv = .int .u64 (y : Int) ∧ uv = .int .u64 (u : Int) ∧ vv = .int .u64 (v : Int) ∧ (a < 18446744073709551616 ∧ b < 18446744073709551616 ∧ c < 18446744073709551616 ∧ d < 18446744073709551616) ∧ Hid (ComW w wr x0 y0 a b c d u v odd x y)) (fun _ yv _ _ _ => (intOf yv).toNat)
  case atStart => exact ⟨x0, y0, 0, 0, 1, 0, 0, 1, true, rfl, rfl, rfl, rfl, by omega, H0⟩
  case round =>
    clear H0
    obtain ⟨x, y, a, b, c, d, u, v, odd, rfl, rfl, rfl, rfl, hl, hh⟩ := hrel
    obtain ⟨he, hco, hg, hr, hbl⟩ := hh.out
    obtain ⟨m0, m1, m2, m3, m4, f0, f1, f2, f3, f4⟩ := hg.cells
    obtain ⟨z0, z1, z2, z3, z4, r0, r1, r2, r3, r4⟩ := hr.cells
    have HL := Lib.hid hl
    by_cases h1 : v ≤ y
    · have hy0 : 0 < y := by have := he.v1; omega
      have hrm := eu_room he hy0 rfl
      have hxy := he.xy
      have hx0 := HX.out
      have hdv : d + v < 18446744073709551616 := by omega
      have hxl : x < 18446744073709551616 := by
        have e1 := he.e1
        have : x * 1 ≤ x * v := Nat.mul_le_mul_left _ he.v1
        omega
      have s1 : IntKind.u64.wrap ((x : Int) - (y : Int)) = ((x : Int) - (y : Int)) := by rw [IntKind.wrap_u64]; omega
      have s2 : IntKind.u64.wrap ((d : Int) + (v : Int)) = ((d : Int) + (v : Int)) := by rw [IntKind.wrap_u64]; omega
      by_cases h2 : d + v ≤ x - y
      · have g1 : (v : Int) ≤ (y : Int) := by omega
        have g2 : (d : Int) + (v : Int) ≤ (x : Int) - (y : Int) := by omega
        have g3 : ¬ (y : Int) = 0 := by omega
        have hst := eu_step he hy0 rfl
        obtain ⟨q, hq⟩ : ∃ q, x / y = q := ⟨_, rfl⟩
        obtain ⟨r, hrr⟩ : ∃ r, x % y = r := ⟨_, rfl⟩
        rw [hq, hrr] at hst
        rw [hq] at hrm
        have d1 : (x : Int) / (y : Int) = (q : Int) := by rw [← hq]; rfl
        have d2 : (x : Int) % (y : Int) = (r : Int) := by rw [← hrr]; rfl
        obtain ⟨qu, hqu⟩ : ∃ z, q * u = z := ⟨_, rfl⟩
        obtain ⟨qv, hqv⟩ : ∃ z, q * v = z := ⟨_, rfl⟩
        rw [hqu, hqv] at hst hrm
        have w1 : IntKind.u64.wrap ((q : Int) * (u : Int)) = (qu : Int) := by
          rw [show (q : Int) * (u : Int) = ((q * u : Nat) : Int) by rw [Int.natCast_mul], hqu, IntKind.wrap_u64]; omega
        have w2 : IntKind.u64.wrap ((q : Int) * (v : Int)) = (qv : Int) := by
          rw [show (q : Int) * (v : Int) = ((q * v : Nat) : Int) by rw [Int.natCast_mul], hqv, IntKind.wrap_u64]; omega
        obtain ⟨u2, hu2⟩ : ∃ z, c + qu = z := ⟨_, rfl⟩
        obtain ⟨v2, hv2⟩ : ∃ z, d + qv = z := ⟨_, rfl⟩
        rw [hu2, hv2] at hst
        have w3 : IntKind.u64.wrap ((c : Int) + (qu : Int)) = (u2 : Int) := by rw [IntKind.wrap_u64]; omega
        have w4 : IntKind.u64.wrap ((d : Int) + (qv : Int)) = (v2 : Int) := by rw [IntKind.wrap_u64]; omega
        have hql : q < 18446744073709551616 := by
          have : x / y ≤ x := Nat.div_le_self _ _
          omega
        have s3 : IntKind.u64.wrap (q : Int) = (q : Int) := by rw [IntKind.wrap_u64]; omega
        have hrl : r < y := by rw [← hrr]; exact Nat.mod_lt _ hy0
        have HS := Lib.hid (And.intro hst (And.intro (show Coming x0 y0 c d u v (!odd) from fun _ => ⟨x, y, by rw [Bool.not_not]; exact he, h1, h2⟩) (And.intro hg (And.intro hr hbl))))
        have HB : Hid (u < 18446744073709551616 ∧ v < 18446744073709551616) := Lib.hid (by omega)
        clear he hco hg hr hbl hrm hx0 hst hq hrr hqu hqv hu2 hv2 hh hl
        go_wp2_with fail
        go_quiet (fail)
        go_wp2_with fail
        go_roundw
        case rel =>
          refine ⟨y, r, c, d, u, v, u2, v2, !odd, rfl, congrArg (Value.int .u64) d2, rfl, rfl, ⟨HL.out.2.2.1, HL.out.2.2.2, HB.out.1, HB.out.2⟩, Lib.hid ⟨HS.out.1, HS.out.2.1, ?_, ?_, ?_⟩⟩
          · exact cells_set (cells_set (cells_set (cells_set (cells_set (w := wr.drewN _) HS.out.2.2.1 0 _) 2 _) 1 _) 3 _) 4 _
          · have hne : w.heap.size ≠ w.heap.size + 1 := by omega
            exact (Below.heap_setCell _ ⟨w.heap.size + 1, 4, none⟩ _ _ hne).trans ((Below.heap_setCell _ ⟨w.heap.size + 1, 3, none⟩ _ _ hne).trans ((Below.heap_setCell _ ⟨w.heap.size + 1, 1, none⟩ _ _ hne).trans ((Below.heap_setCell _ ⟨w.heap.size + 1, 2, none⟩ _ _ hne).trans ((Below.heap_setCell _ ⟨w.heap.size + 1, 0, none⟩ _ _ hne).trans HS.out.2.2.2.1))))
          · have hle : w.heap.size ≤ w.heap.size + 1 := by omega
            exact (((((below_dN HS.out.2.2.2.2 _).setCell (p := ⟨w.heap.size + 1, 0, none⟩) hle _).setCell (p := ⟨w.heap.size + 1, 2, none⟩) hle _).setCell (p := ⟨w.heap.size + 1, 1, none⟩) hle _).setCell (p := ⟨w.heap.size + 1, 3, none⟩) hle _).setCell (p := ⟨w.heap.size + 1, 4, none⟩) hle _
        case measure => simp [intOf]; omega
      · have g1 : (v : Int) ≤ (y : Int) := by omega
        have g2 : ¬ (d : Int) + (v : Int) ≤ (x : Int) - (y : Int) := by omega
        have HS := Lib.hid (And.intro hco hbl)
        clear he hco hg hr hbl hrm hx0 hh hl
        go_wp2_with fail
        exact bodyPost_ret (by simp [results, Tryz.results183, go_sem, z0, z1, z2, z3, z4]) rfl ⟨a, b, c, d, odd, rfl, HL.out, HS.out.1, ((((HS.out.2.setCell (p := ⟨w.heap.size, 0, none⟩) (Nat.le_refl _) _).setCell (p := ⟨w.heap.size, 1, none⟩) (Nat.le_refl _) _).setCell (p := ⟨w.heap.size, 2, none⟩) (Nat.le_refl _) _).setCell (p := ⟨w.heap.size, 3, none⟩) (Nat.le_refl _) _).setCell (p := ⟨w.heap.size, 4, none⟩) (Nat.le_refl _) _⟩
    · have g1 : ¬ (v : Int) ≤ (y : Int) := by omega
      have HS := Lib.hid (And.intro hco hbl)
      clear he hco hg hr hbl hh hl
      go_wp2_with fail
      exact bodyPost_ret (by simp [results, Tryz.results183, go_sem, z0, z1, z2, z3, z4]) rfl ⟨a, b, c, d, odd, rfl, HL.out, HS.out.1, ((((HS.out.2.setCell (p := ⟨w.heap.size, 0, none⟩) (Nat.le_refl _) _).setCell (p := ⟨w.heap.size, 1, none⟩) (Nat.le_refl _) _).setCell (p := ⟨w.heap.size, 2, none⟩) (Nat.le_refl _) _).setCell (p := ⟨w.heap.size, 3, none⟩) (Nat.le_refl _) _).setCell (p := ⟨w.heap.size, 4, none⟩) (Nat.le_refl _) _⟩
end Go.Proofs.YtmecnlgndaeidaaGreatDoor.Nb

namespace Go.Proofs.YtmecnlgndaeidaaGreatDoor.Nb
open Go Go.RowKit

/-- behind i digits of a product by one digit -/
def ManySt (m os : List Nat) (d more i c : Nat) : Prop := val os + c * 18446744073709551616 ^ i = val (m.take i) * d + more
theorem many_start (m : List Nat) (d more n : Nat) : ManySt m (List.replicate n 0) d more 0 more := by simp [ManySt, val, val_rep]
theorem many_step {m os : List Nat} {d more i c c' lo : Nat} (h : ManySt m os d more i c) (hi : i < m.length) (hl : i < os.length) (hz : os.getD i 0 = 0) (hf : m.getD i 0 * d + c = c' * 18446744073709551616 + lo) : ManySt m (os.set i lo) d more (i + 1) c' := by
  unfold ManySt at *
  have hv := val_set (ws := os) (k := i) lo hl
  rw [hz, Nat.mul_zero, Nat.add_zero] at hv
  rw [val_take_succ hi, Nat.pow_succ, hv, Nat.add_mul]
  obtain ⟨P, hP⟩ : ∃ P, 18446744073709551616 ^ i = P := ⟨_, rfl⟩
  rw [hP] at h ⊢
  have h1 : P * (m.getD i 0 * d + c) = P * (c' * 18446744073709551616 + lo) := by rw [hf]
  rw [Nat.mul_add, Nat.mul_add] at h1
  have e1 : P * m.getD i 0 * d = P * (m.getD i 0 * d) := Nat.mul_assoc _ _ _
  have e2 : c' * (P * 18446744073709551616) = P * (c' * 18446744073709551616) := Nat.mul_left_comm _ _ _
  have e3 : c * P = P * c := Nat.mul_comm _ _
  rw [e1, e2]
  rw [e3] at h
  omega
def ManyW (w : World) (g n : Nat) (m : List Nat) (d more i c : Nat) (wr : World) : Prop :=
  ∃ os, Blk wr g os ∧ os.length = n ∧ W64 os ∧ ManySt m os d more i c ∧ Clear os i ∧ Below g w wr

set_option maxRecDepth 8000 in
set_option maxHeartbeats 2000000 in
theorem many_core (A : Option Addr) (M ca d x : Nat) (m : List Nat) (w : World) (hm : Mag w (.slice A M ca) m) (hl : M ≤ 536870912) (hd : d < 18446744073709551616) (hx : x < 18446744073709551616) :
    Calls Tryz.prog 177 #[.slice A M ca, .int .u64 (d : Int), .int .u64 (x : Int)] w (Num w (val m * d + x) (M + 1)) := by
  have hla := hm.lenN
  have HA := Lib.hid hm
  have HL := Lib.hid hla
  have hmk := run_make_row' (P := Tryz.prog) 103 22 (.int .u64 0) 8 Tryz.underlying103 infoW rfl .i64 .i64 (M + 1) (by omega) (by omega)
  have hqs : ((M + 1 : Nat) : Int) = (M : Int) + 1 := by omega
  rw [hqs] at hmk
  have HX := Lib.hid hx
  clear hm hla hqs hx
  go_enter Tryz.func177, Tryz.ntmps177
  go_wp2_with fail
  clear hmk
  have H0 := Lib.hid (show ManyW w w.heap.size (M + 1) m d x 0 x (w.alloc (.cells (madeCells #[.int .u64 0] (M + 1)) 22)) from ⟨_, Blk.made w (M + 1), by simp, W64.rep _, many_start _ _ _ _, Clear.rep _ _, (Below.refl _ _).alloc (Nat.le_refl _) _⟩)
  go_loopw [2, 16] (fun mv iv wr => ∃ k c : Nat, k ≤ M ∧ mv = .int .u64 (c : Int) ∧ iv = .int .i64 (k : Int) ∧ c < 18446744073709551616 ∧ Hid (ManyW w w.heap.size (M + 1) m d x k c wr)) (fun _ iv _ => M - (intOf iv).toNat)
  case atStart => exact ⟨0, x, Nat.zero_le _, rfl, rfl, HX.out, H0⟩
  case round =>
    clear H0
    obtain ⟨k, c, hk, rfl, rfl, hc, hp⟩ := hrel
    obtain ⟨os, hbk, hlen, hw, hst, hcl, hbel⟩ := hp.out
    have hfr : wr.frozen? ⟨w.heap.size, k, none⟩ = false := hbk.frozen _
    have hz := hcl k (Nat.le_refl _)
    have hco : wr.cell? ⟨w.heap.size, k, none⟩ = some (.int .u64 (0 : Nat)) := by rw [← hz]; exact hbk.cell (by omega)
    by_cases hlt : k < M
    · obtain ⟨b1, o1, ea, hb1, hc1⟩ := HA.out.at hlt
      subst ea
      have hxc := (hbel.cell (p := ⟨b1, o1 + k, none⟩) hb1).trans hc1
      obtain ⟨y, ey⟩ : ∃ y, m.getD k 0 = y := ⟨_, rfl⟩
      have wy := HA.out.w32.get k
      rw [ey] at hxc wy
      have HFO : Hid (∀ W, Calls Tryz.prog 156 #[.int .u64 (y : Int), .int .u64 (d : Int), .int .u64 0, .int .u64 (c : Int)] W fun e w' => e = .returned (.tuple #[.int .u64 (((y * d + 0 + c) / 18446744073709551616 : Nat) : Int), .int .u64 (((y * d + 0 + c) % 18446744073709551616 : Nat) : Int)]) ∧ w' = W) := Lib.hid (fun W => fold_any y d 0 c W wy hd (by omega) hc)
      obtain ⟨c2, hc2⟩ : ∃ z, (y * d + 0 + c) / 18446744073709551616 = z := ⟨_, rfl⟩
      obtain ⟨lo, hlo⟩ : ∃ z, (y * d + 0 + c) % 18446744073709551616 = z := ⟨_, rfl⟩
      rw [hc2, hlo] at HFO
      have hf : y * d + c = c2 * 18446744073709551616 + lo ∧ lo < 18446744073709551616 ∧ c2 < 18446744073709551616 := by
        have : y * d ≤ 18446744073709551615 * 18446744073709551615 := Nat.mul_le_mul (by omega) (by omega)
        omega
      have HS := Lib.hid (And.intro (many_step hst (by have := HL.out; omega) (by omega) hz (by rw [ey]; exact hf.1)) (And.intro hf.2.1 hf.2.2))
      have HO := Lib.hid (And.intro hbk (And.intro hlen (And.intro hw (And.intro hcl hbel))))
      have k0 : (0 : Int) ≤ (k : Int) := by omega
      have k1 : (k : Int) < (M : Int) := by omega
      have k2 : (k : Int) < (M : Int) + 1 := by omega
      clear hbk hlen hw hst hcl hbel hc1 ey hb1 hc2 hlo hf hz hp wy
      go_wp2_with fail
      refine (HFO.out _).mono ?_
      rintro e w9 ⟨rfl, rfl⟩
      go_wp2_with fail
      go_roundw
      case rel => exact ⟨k + 1, c2, by omega, rfl, by go_num, HS.out.2.2, Lib.hid ⟨_, blk_end HO.out.1 rfl, by rw [List.length_set]; exact HO.out.2.1, HO.out.2.2.1.set HS.out.2.1, HS.out.1, HO.out.2.2.2.1.step, HO.out.2.2.2.2.setCell (p := ⟨w.heap.size, k, none⟩) (Nat.le_refl _) _⟩⟩
      case measure => simp [intOf]; omega
    · obtain rfl : k = M := by omega
      have hv := val_set (ws := os) (k := k) c (by omega)
      rw [hz, Nat.mul_zero, Nat.add_zero] at hv
      have hvv : val (os.set k c) = val m * d + x := by
        unfold ManySt at hst
        rw [List.take_of_length_le (by have := HL.out; omega), Nat.mul_comm c] at hst
        omega
      have HO := Lib.hid (And.intro hbk (And.intro hlen (And.intro hw (And.intro hvv hbel))))
      have k2 : (k : Int) < (k : Int) + 1 := by omega
      clear hbk hlen hw hst hcl hbel hv hvv hz hp
      go_wp2_with fail
      have hb2 : Blk (wr.setCell ⟨w.heap.size, k, none⟩ (.int .u64 (c : Int))) w.heap.size (os.set k c) := HO.out.1.set k c
      have hms := hb2.mag (HO.out.2.2.1.set hc) (by rw [List.length_set, HO.out.2.1]; omega)
      rw [List.length_set, HO.out.2.1] at hms
      refine (norm_any _ _ _ hms).mono ?_
      rintro e w2 ⟨A2, k2, c2, -, rfl, hm2, rfl⟩
      rw [HO.out.2.2.2.1, List.length_set, HO.out.2.1] at hm2
      have HF := Lib.hid hm2
      clear hm2 hms hb2
      go_wp2_with fail
      go_ret
      exact ⟨_, rfl, HF.out, HO.out.2.2.2.2.setCell (p := ⟨w.heap.size, k, none⟩) (Nat.le_refl _) _⟩
theorem many_any (v : Value) (X d x L : Nat) (w : World) (h : MagN w v X L) (hL : L ≤ 536870912) (hd : d < 18446744073709551616) (hx : x < 18446744073709551616) :
    Calls Tryz.prog 177 #[v, .int .u64 (d : Int), .int .u64 (x : Int)] w (Num w (X * d + x) (L + 1)) := by
  obtain ⟨ws, h1, h2, rfl, h4⟩ := h
  have h1' := h1
  obtain ⟨A, c, rfl, -⟩ := h1
  exact (many_core A ws.length c d x ws w h1' (by omega) hd hx).mono fun e w' ⟨y, a, b, d⟩ => ⟨y, a, b.more (by omega), d⟩
/-- less: of any numbers, the second not above the first -/
theorem less_any (u v : Value) (m n L : Nat) (w : World) (hu : MagN w u m L) (hv : MagN w v n L) (hle : n ≤ m) (hL : L ≤ 1073741824) :
    Calls Tryz.prog 155 #[u, v] w (Num w (m - n) L) := by
  obtain ⟨a, h1, h2, rfl, h4⟩ := hu
  obtain ⟨b, g1, g2, rfl, g4⟩ := hv
  have h1' := h1
  have g1' := g1
  have hab : b.length ≤ a.length := by
    rcases Nat.lt_or_ge a.length b.length with q | q
    · have := norm_len_lt h1.w32 g2 q
      omega
    · exact q
  obtain ⟨A, ca, rfl, -⟩ := h1
  obtain ⟨B, cb, rfl, -⟩ := g1
  exact (less_core A B a.length b.length ca cb a b w h1' g1' (by omega) hab hle).mono fun e w' ⟨x, he, hx, hb⟩ => ⟨x, he, hx.more (by omega), hb⟩
end Go.Proofs.YtmecnlgndaeidaaGreatDoor.Nb

namespace Go.Proofs.YtmecnlgndaeidaaGreatDoor.Nb
open Go Go.RowKit

theorem many_zero (v : Value) (X d L : Nat) (w : World) (h : MagN w v X L) (hL : L ≤ 536870912) (hd : d < 18446744073709551616) :
    Calls Tryz.prog 177 #[v, .int .u64 (d : Int), .int .u64 0] w (Num w (d * X) (L + 1)) := by
  have := many_any v X d 0 L w h hL hd (by omega)
  rw [Nat.add_zero, Nat.mul_comm] at this
  exact this
theorem com_new (w : World) (a b c d : Nat) (odd : Bool) : ComAt (w.alloc (.cells #[.int .u64 (a : Int), .int .u64 (b : Int), .int .u64 (c : Int), .int .u64 (d : Int), .bool odd] 222)) w.heap.size a b c d odd := heap_alloc_new w _
theorem ComAt.keep {w w' : World} {g a b c d : Nat} {odd : Bool} (h : ComAt w g a b c d odd) (hb : Below w.heap.size w w') : ComAt w' g a b c d odd := by
  have hg : g < w.heap.size := (Array.getElem?_eq_some_iff.1 h).1
  exact (hb.block g hg).trans h
theorem ComAt.four {w : World} {g a b c d : Nat} {odd : Bool} (h : ComAt w g a b c d odd) : w.cell? ⟨g, 0, none⟩ = some (.int .u64 (a : Int)) ∧ w.cell? ⟨g, 1, none⟩ = some (.int .u64 (b : Int)) ∧ w.cell? ⟨g, 2, none⟩ = some (.int .u64 (c : Int)) ∧ w.cell? ⟨g, 3, none⟩ = some (.int .u64 (d : Int)) :=
  ⟨h.cells.m0, h.cells.m1, h.cells.m2, h.cells.m3⟩

set_option maxRecDepth 8000 in
set_option maxHeartbeats 4000000 in
theorem after_any (u v : Value) (X Y L a b c d p q s t : Nat) (odd : Bool) (w : World) (hu : MagN w u X L) (hv : MagN w v Y L) (hL : L ≤ 268435456) (hl : a < 18446744073709551616 ∧ b < 18446744073709551616 ∧ c < 18446744073709551616 ∧ d < 18446744073709551616)
    (h : if odd = true then (p = b * Y ∧ q = a * X ∧ s = c * X ∧ t = d * Y) else (p = a * X ∧ q = b * Y ∧ s = d * Y ∧ t = c * X)) (hp : q ≤ p) (hs : t ≤ s) :
    Calls Tryz.prog 185 #[.agg #[.int .u64 (a : Int), .int .u64 (b : Int), .int .u64 (c : Int), .int .u64 (d : Int), .bool odd], u, v] w (Num2 w (p - q) (s - t) (L + 1) (L + 1)) := by
  obtain ⟨A1, k1, c1, rfl⟩ := hu.slice
  obtain ⟨A2, k2, c2, rfl⟩ := hv.slice
  have hA := (Below.refl w.heap.size w).alloc (Nat.le_refl _) (.cells #[.int .u64 (a : Int), .int .u64 (b : Int), .int .u64 (c : Int), .int .u64 (d : Int), .bool odd] 222)
  have HA := Lib.hid hA
  have HC := Lib.hid (com_new w a b c d odd)
  have HU := Lib.hid (hu.below hA)
  have HV := Lib.hid (hv.below hA)
  have HL := Lib.hid hl
  have HP := Lib.hid (And.intro hp hs)
  have HLL := Lib.hid hL
  have HE := Lib.hid h
  clear hA hu hv hl h hp hs hL
  cases odd
  · go_enter Tryz.func185, Tryz.ntmps185
    go_wp2_with fail
    generalize w.alloc (.cells #[.int .u64 (a : Int), .int .u64 (b : Int), .int .u64 (c : Int), .int .u64 (d : Int), .bool false] 222) = w0 at *
    have hcur : Below w0.heap.size w0 w0.drew := (Below.refl _ _).drew
    obtain ⟨e1, e2, e3, e4⟩ := HE.out
    have HXa := Lib.hid (fun W (hW : Below w0.heap.size w0 W) => many_zero (.slice A1 k1 c1) X a L W (HU.out.below hW) (by have := HLL.out; omega) HL.out.1)
    have HYb := Lib.hid (fun W (hW : Below w0.heap.size w0 W) => many_zero (.slice A2 k2 c2) Y b L W (HV.out.below hW) (by have := HLL.out; omega) HL.out.2.1)
    have HXc := Lib.hid (fun W (hW : Below w0.heap.size w0 W) => many_zero (.slice A1 k1 c1) X c L W (HU.out.below hW) (by have := HLL.out; omega) HL.out.2.2.1)
    have HYd := Lib.hid (fun W (hW : Below w0.heap.size w0 W) => many_zero (.slice A2 k2 c2) Y d L W (HV.out.below hW) (by have := HLL.out; omega) HL.out.2.2.2)
    rw [← e1] at HXa
    rw [← e2] at HYb
    rw [← e3] at HYd
    rw [← e4] at HXc
    clear e1 e2 e3 e4 HE
    go_region_held3 (fun w' => w'.cell? ⟨w.heap.size, 0, none⟩ = some (.int .u64 (a : Int)) ∧ w'.cell? ⟨w.heap.size, 1, none⟩ = some (.int .u64 (b : Int)) ∧ w'.cell? ⟨w.heap.size, 2, none⟩ = some (.int .u64 (c : Int)) ∧ w'.cell? ⟨w.heap.size, 3, none⟩ = some (.int .u64 (d : Int))) (first | exact (HC.out.keep hcur).four) (first | (go_at_call_of 177 a; refine (HXa.out _ hcur).mono ?_; rintro e w1 ⟨v1, rfl, hm1, b1⟩; obtain ⟨B1, l1, d1, rfl⟩ := hm1.slice; replace hcur := onto hcur b1; have HV1 := Lib.hid hm1; clear hm1 b1) | (go_at_call_of 177 b; refine (HYb.out _ hcur).mono ?_; rintro e w2 ⟨v2, rfl, hm2, b2⟩; obtain ⟨B2, l2, d2, rfl⟩ := hm2.slice; replace hcur := onto hcur b2; have HV2 := Lib.hid (And.intro (HV1.out.below b2) hm2); clear hm2 b2) | (go_at_call_of 177 d; refine (HYd.out _ hcur).mono ?_; rintro e w4 ⟨v4, rfl, hm4, b4⟩; obtain ⟨B4, l4, d4, rfl⟩ := hm4.slice; replace hcur := onto hcur b4; have HV4 := Lib.hid (And.intro (HV3.out.below b4) hm4); clear hm4 b4) | (go_at_call_of 177 c; refine (HXc.out _ hcur).mono ?_; rintro e w5 ⟨v5, rfl, hm5, b5⟩; obtain ⟨B5, l5, d5, rfl⟩ := hm5.slice; replace hcur := onto hcur b5; have HV5 := Lib.hid (And.intro (HV4.out.1.below b5) (And.intro (HV4.out.2.below b5) hm5)); clear hm5 b5) | (go_at_call_of 155 l5; refine (less_any _ _ s t (L + 1) _ HV5.out.2.1 HV5.out.2.2 HP.out.2 (by have := HLL.out; omega)).mono ?_; rintro e w6 ⟨v6, rfl, hm6, b6⟩; obtain ⟨B6, l6, d6, rfl⟩ := hm6.slice; replace hcur := onto hcur b6; have HV6 := Lib.hid (And.intro (HV5.out.1.below b6) hm6); clear hm6 b6) | (go_at_call_of 155 l2; refine (less_any _ _ p q (L + 1) _ HV2.out.1 HV2.out.2 HP.out.1 (by have := HLL.out; omega)).mono ?_; rintro e w3 ⟨v3, rfl, hm3, b3⟩; obtain ⟨B3, l3, d3, rfl⟩ := hm3.slice; replace hcur := onto hcur b3; have HV3 := Lib.hid hm3; clear hm3 b3))
    go_wp2_with fail
    go_ret2
    exact ⟨B3, l3, d3, B6, l6, d6, rfl, HV6.out.1, HV6.out.2, onto HA.out hcur⟩
  · go_enter Tryz.func185, Tryz.ntmps185
    go_wp2_with fail
    generalize w.alloc (.cells #[.int .u64 (a : Int), .int .u64 (b : Int), .int .u64 (c : Int), .int .u64 (d : Int), .bool true] 222) = w0 at *
    have hcur : Below w0.heap.size w0 w0.drew := (Below.refl _ _).drew
    obtain ⟨e1, e2, e3, e4⟩ := HE.out
    have HXa := Lib.hid (fun W (hW : Below w0.heap.size w0 W) => many_zero (.slice A1 k1 c1) X a L W (HU.out.below hW) (by have := HLL.out; omega) HL.out.1)
    have HYb := Lib.hid (fun W (hW : Below w0.heap.size w0 W) => many_zero (.slice A2 k2 c2) Y b L W (HV.out.below hW) (by have := HLL.out; omega) HL.out.2.1)
    have HXc := Lib.hid (fun W (hW : Below w0.heap.size w0 W) => many_zero (.slice A1 k1 c1) X c L W (HU.out.below hW) (by have := HLL.out; omega) HL.out.2.2.1)
    have HYd := Lib.hid (fun W (hW : Below w0.heap.size w0 W) => many_zero (.slice A2 k2 c2) Y d L W (HV.out.below hW) (by have := HLL.out; omega) HL.out.2.2.2)
    rw [← e1] at HYb
    rw [← e2] at HXa
    rw [← e3] at HXc
    rw [← e4] at HYd
    clear e1 e2 e3 e4 HE
    go_region_held3 (fun w' => w'.cell? ⟨w.heap.size, 0, none⟩ = some (.int .u64 (a : Int)) ∧ w'.cell? ⟨w.heap.size, 1, none⟩ = some (.int .u64 (b : Int)) ∧ w'.cell? ⟨w.heap.size, 2, none⟩ = some (.int .u64 (c : Int)) ∧ w'.cell? ⟨w.heap.size, 3, none⟩ = some (.int .u64 (d : Int))) (first | exact (HC.out.keep hcur).four) (first | (go_at_call_of 177 b; refine (HYb.out _ hcur).mono ?_; rintro e w1 ⟨v1, rfl, hm1, b1⟩; obtain ⟨B1, l1, d1, rfl⟩ := hm1.slice; replace hcur := onto hcur b1; have HV1 := Lib.hid hm1; clear hm1 b1) | (go_at_call_of 177 a; refine (HXa.out _ hcur).mono ?_; rintro e w2 ⟨v2, rfl, hm2, b2⟩; obtain ⟨B2, l2, d2, rfl⟩ := hm2.slice; replace hcur := onto hcur b2; have HV2 := Lib.hid (And.intro (HV1.out.below b2) hm2); clear hm2 b2) | (go_at_call_of 177 c; refine (HXc.out _ hcur).mono ?_; rintro e w4 ⟨v4, rfl, hm4, b4⟩; obtain ⟨B4, l4, d4, rfl⟩ := hm4.slice; replace hcur := onto hcur b4; have HV4 := Lib.hid (And.intro (HV3.out.below b4) hm4); clear hm4 b4) | (go_at_call_of 177 d; refine (HYd.out _ hcur).mono ?_; rintro e w5 ⟨v5, rfl, hm5, b5⟩; obtain ⟨B5, l5, d5, rfl⟩ := hm5.slice; replace hcur := onto hcur b5; have HV5 := Lib.hid (And.intro (HV4.out.1.below b5) (And.intro (HV4.out.2.below b5) hm5)); clear hm5 b5) | (go_at_call_of 155 l5; refine (less_any _ _ s t (L + 1) _ HV5.out.2.1 HV5.out.2.2 HP.out.2 (by have := HLL.out; omega)).mono ?_; rintro e w6 ⟨v6, rfl, hm6, b6⟩; obtain ⟨B6, l6, d6, rfl⟩ := hm6.slice; replace hcur := onto hcur b6; have HV6 := Lib.hid (And.intro (HV5.out.1.below b6) hm6); clear hm6 b6) | (go_at_call_of 155 l2; refine (less_any _ _ p q (L + 1) _ HV2.out.1 HV2.out.2 HP.out.1 (by have := HLL.out; omega)).mono ?_; rintro e w3 ⟨v3, rfl, hm3, b3⟩; obtain ⟨B3, l3, d3, rfl⟩ := hm3.slice; replace hcur := onto hcur b3; have HV3 := Lib.hid hm3; clear hm3 b3))
    go_wp2_with fail
    go_ret2
    exact ⟨B3, l3, d3, B6, l6, d6, rfl, HV6.out.1, HV6.out.2, onto HA.out hcur⟩
end Go.Proofs.YtmecnlgndaeidaaGreatDoor.Nb

namespace Go.Proofs.YtmecnlgndaeidaaGreatDoor.Nb
open Go Go.RowKit

/-- how many bits a number has -/
def blen (X : Nat) : Nat := if X = 0 then 0 else Nat.log2 X + 1
theorem blen_zero : blen 0 = 0 := rfl
theorem blen_spec {X : Nat} (h : 0 < X) : 0 < blen X ∧ 2 ^ (blen X - 1) ≤ X ∧ X < 2 ^ blen X := by
  unfold blen
  rw [if_neg (by omega), Nat.add_sub_cancel]
  exact ⟨by omega, (Nat.le_log2 (by omega)).1 (Nat.le_refl _), (Nat.log2_lt (by omega)).1 (by omega)⟩
theorem blen_eq {X l : Nat} (h0 : 0 < l) (h1 : 2 ^ (l - 1) ≤ X) (h2 : X < 2 ^ l) : blen X = l := by
  have hX : X ≠ 0 := by have : 0 < 2 ^ (l - 1) := Nat.pow_pos (by omega); omega
  unfold blen
  rw [if_neg hX]
  have a := (Nat.le_log2 hX).2 h1
  have b := (Nat.log2_lt hX).2 h2
  omega
theorem blen_le {X l : Nat} (h : X < 2 ^ l) : blen X ≤ l := by
  rcases Nat.eq_zero_or_pos X with h0 | h0
  · rw [h0, blen_zero]; omega
  · obtain ⟨a, b, c⟩ := blen_spec h0
    rcases Nat.lt_or_ge l (blen X) with q | q
    · exfalso
      have : 2 ^ l ≤ 2 ^ (blen X - 1) := Nat.pow_le_pow_right (by omega) (by omega)
      omega
    · exact q
theorem pow64 (k : Nat) : 18446744073709551616 ^ k = 2 ^ (64 * k) := by
  rw [Nat.pow_mul]
theorem blen_row {ws : List Nat} (hw : W64 ws) (hn : Norm ws) (h0 : 0 < ws.length) : blen (val ws) = 64 * (ws.length - 1) + Lib.bitLen (ws.getD (ws.length - 1) 0) := by
  have ha := norm_top hn h0
  have hal := hw.get (ws.length - 1)
  have hv := val_take_succ (ws := ws) (k := ws.length - 1) (by omega)
  have hv0 := val_take_lt hw (ws.length - 1)
  rw [show ws.length - 1 + 1 = ws.length by omega, List.take_length] at hv
  obtain ⟨n, hn⟩ : ∃ n, ws.length - 1 = n := ⟨_, rfl⟩
  rw [hn] at ha hal hv hv0 ⊢
  obtain ⟨a, haa⟩ : ∃ a, ws.getD n 0 = a := ⟨_, rfl⟩
  rw [haa] at ha hal hv ⊢
  obtain ⟨b1, b2, b3⟩ := Nx.bit_spec 64 a ha (by omega) (by omega)
  obtain ⟨l, hl⟩ : ∃ l, Lib.bitLen a = l := ⟨_, rfl⟩
  rw [hl] at b1 b2 b3 ⊢
  rw [pow64] at hv hv0
  refine blen_eq (by omega) ?_ ?_
  · rw [hv, show 64 * n + l - 1 = 64 * n + (l - 1) by omega, Nat.pow_add]
    have := Nat.mul_le_mul_left (2 ^ (64 * n)) b2
    omega
  · rw [hv, Nat.pow_add]
    have h1 : 2 ^ (64 * n) * (a + 1) ≤ 2 ^ (64 * n) * 2 ^ l := Nat.mul_le_mul_left _ b3
    rw [Nat.mul_add, Nat.mul_one] at h1
    omega

set_option maxRecDepth 8000 in
theorem length_any (v : Value) (X L : Nat) (w : World) (h : MagN w v X L) (hL : L ≤ 536870912) : Calls Tryz.prog 121 #[v] w fun e w' => e = .returned (.int .i64 (blen X : Int)) ∧ w = w' := by
  obtain ⟨ws, h1, h2, rfl, h4⟩ := h
  have h1' := h1
  obtain ⟨A, c, rfl, -⟩ := h1
  rcases Nat.eq_zero_or_pos ws.length with h0 | h0
  · have hz : val ws = 0 := by rw [List.eq_nil_of_length_eq_zero h0]; rfl
    rw [h0, hz, blen_zero]
    clear h1' h2 h4 h0 hz
    go_enter Tryz.func121, Tryz.ntmps121
    go_wp2_with fail
    go_ret
    exact ⟨rfl, rfl⟩
  · have hb := blen_row h1'.w32 h2 h0
    have hal := h1'.w32.get (ws.length - 1)
    obtain ⟨b, o, rfl, hbs, hc⟩ := h1'.at (j := ws.length - 1) (by omega)
    obtain ⟨a, haa⟩ : ∃ a, ws.getD (ws.length - 1) 0 = a := ⟨_, rfl⟩
    rw [haa] at hb hal hc
    have hbl := bitLen_le a
    have HL := Lib.hid (fun w => Tryz.bits_Len64 (a : Int) w (by omega) (by omega))
    simp only [Int.toNat_natCast] at HL
    obtain ⟨l, hl⟩ : ∃ l, Lib.bitLen a = l := ⟨_, rfl⟩
    rw [hl] at HL hb hbl
    obtain ⟨n, hn⟩ : ∃ n, ws.length = n := ⟨_, rfl⟩
    rw [hn] at hb hc h0 h4 ⊢
    have HB := Lib.hid hb
    have hnl : (n : Int) ≤ 536870912 := by omega
    have hn0 : ¬ n = 0 := by omega
    have i0 : (0 : Int) ≤ (n : Int) - 1 := by omega
    have i1 : (n : Int) - 1 < (n : Int) := by omega
    have t1 : ((n : Int) - 1).toNat = n - 1 := by omega
    clear h1' h2 hbs haa hl hn hb hal h4 h0
    go_enter Tryz.func121, Tryz.ntmps121
    go_wp2_with fail
    refine (HL.out _).mono ?_
    rintro e w2 ⟨rfl, rfl⟩
    go_wp2_with fail
    go_ret
    have e1 : 64 * ((n : Int) - 1) + (l : Int) = (blen (val ws) : Int) := by rw [HB.out]; omega
    exact ⟨congrArg (fun z : Int => Ending.returned (.int .i64 z)) e1, rfl⟩

theorem top_val {ws : List Nat} (hw : W64 ws) (i s : Nat) (hs : s < 64) : val ws / (18446744073709551616 ^ i * 2 ^ s) % 18446744073709551616 = ws.getD i 0 / 2 ^ s + 2 ^ (64 - s) * (ws.getD (i + 1) 0 % 2 ^ s) := by
  have hp : 0 < 2 ^ s := Nat.pow_pos (by omega)
  have hp' : 0 < 2 ^ (64 - s) := Nat.pow_pos (by omega)
  obtain ⟨Z, hZ⟩ : ∃ Z, val ws / 18446744073709551616 ^ i = ws.getD i 0 + 18446744073709551616 * (ws.getD (i + 1) 0 + 18446744073709551616 * Z) := by
    have st : ∀ j, ∃ R, (j ≤ ws.length → val (ws.drop j) = R) ∧ (ws.length < j → R = 0) ∧ R = ws.getD j 0 + 18446744073709551616 * (if j + 1 ≤ ws.length then val (ws.drop (j + 1)) else 0) := by
      intro j
      refine ⟨_, ?_, ?_, rfl⟩
      · intro hj
        rcases Nat.lt_or_ge j ws.length with q | q
        · rw [if_pos (by omega), List.drop_eq_getElem_cons q, val, List.getD_eq_getElem?_getD, List.getElem?_eq_getElem q]; rfl
        · rw [if_neg (by omega), List.drop_of_length_le q, List.getD_eq_getElem?_getD, List.getElem?_eq_none q]; rfl
      · intro hj
        rw [if_neg (by omega), List.getD_eq_getElem?_getD, List.getElem?_eq_none (by omega)]; rfl
    rcases Nat.lt_or_ge i ws.length with q | q
    · rw [← drop_div hw (by omega)]
      obtain ⟨R, r1, -, r3⟩ := st i
      obtain ⟨R', s1, -, s3⟩ := st (i + 1)
      rw [if_pos (by omega), s1 (by omega)] at r3
      rw [r1 (by omega), r3, s3]
      exact ⟨_, rfl⟩
    · have h0 : val ws / 18446744073709551616 ^ i = 0 := by
        refine Nat.div_eq_of_lt ?_
        have a1 := val_lt hw
        have a2 : 18446744073709551616 ^ ws.length ≤ 18446744073709551616 ^ i := Nat.pow_le_pow_right (by omega) q
        omega
      refine ⟨0, ?_⟩
      rw [h0, List.getD_eq_getElem?_getD, List.getElem?_eq_none q, List.getD_eq_getElem?_getD, List.getElem?_eq_none (by omega)]; rfl
  have e := two64 s (by omega)
  rw [← Nat.div_div_eq_div_mul, hZ]
  obtain ⟨x, hx⟩ : ∃ x, ws.getD i 0 = x := ⟨_, rfl⟩
  obtain ⟨y, hy⟩ : ∃ y, ws.getD (i + 1) 0 = y := ⟨_, rfl⟩
  have hxl := hw.get i
  rw [hx] at hxl
  rw [hx, hy]
  have h1 : (x + 18446744073709551616 * (y + 18446744073709551616 * Z)) / 2 ^ s = x / 2 ^ s + 2 ^ (64 - s) * (y + 18446744073709551616 * Z) := by
    have e' : 18446744073709551616 * (y + 18446744073709551616 * Z) = 2 ^ s * (2 ^ (64 - s) * (y + 18446744073709551616 * Z)) := by rw [← Nat.mul_assoc, ← e]
    rw [e', Nat.add_mul_div_left _ _ hp]
  have h2 : x / 2 ^ s < 2 ^ (64 - s) := (right_word (y := y) hs hxl).1
  have h3 : (y + 18446744073709551616 * Z) % 2 ^ s = y % 2 ^ s := by
    have e' : 18446744073709551616 * Z = 2 ^ s * (2 ^ (64 - s) * Z) := by rw [← Nat.mul_assoc, ← e]
    rw [e', Nat.add_mul_mod_self_left]
  rw [h1]
  have e2 : (18446744073709551616 : Nat) = 2 ^ (64 - s) * 2 ^ s := by rw [Nat.mul_comm]; exact e
  have h4 : ∀ B, B = 2 ^ (64 - s) * 2 ^ s → (x / 2 ^ s + 2 ^ (64 - s) * (y + 18446744073709551616 * Z)) % B = x / 2 ^ s + 2 ^ (64 - s) * ((y + 18446744073709551616 * Z) % 2 ^ s) := by
    rintro B rfl
    rw [Nat.mod_mul, Nat.add_mul_mod_self_left, Nat.mod_eq_of_lt h2, Nat.add_mul_div_left _ _ hp', Nat.div_eq_of_lt h2, Nat.zero_add]
  rw [h4 _ e2, h3]

set_option maxRecDepth 8000 in
set_option maxHeartbeats 1000000 in
theorem top_any (v : Value) (X from_ L : Nat) (w : World) (h : MagN w v X L) (hf : from_ ≤ 1099511627776) : Calls Tryz.prog 184 #[v, .int .i64 (from_ : Int)] w fun e w' => e = .returned (.int .u64 ((X / 2 ^ from_ % 18446744073709551616 : Nat) : Int)) ∧ w = w' := by
  obtain ⟨ws, h1, h2, rfl, h4⟩ := h
  have h1' := h1
  obtain ⟨A, c, rfl, -⟩ := h1
  obtain ⟨q, hq⟩ : ∃ q, from_ / 64 = q := ⟨_, rfl⟩
  obtain ⟨s, hs⟩ : ∃ s, from_ % 64 = s := ⟨_, rfl⟩
  have hs64 : s < 64 := by omega
  have hF : from_ = 64 * q + s := by omega
  have hv := top_val h1'.w32 q s hs64
  rw [hF, Nat.pow_add, ← pow64, hv]
  have HD1 := fun W (hW : Mag W _ ws) => digit_any A ws.length c q ws W hW (by omega)
  have HD2 := fun W (hW : Mag W _ ws) => digit_any A ws.length c (q + 1) ws W hW (by omega)
  have c2 : ((q + 1 : Nat) : Int) = (q : Int) + 1 := by omega
  rw [c2] at HD2
  have wx := h1'.w32.get q
  obtain ⟨x, ex⟩ : ∃ x, ws.getD q 0 = x := ⟨_, rfl⟩
  obtain ⟨y, ey⟩ : ∃ y, ws.getD (q + 1) 0 = y := ⟨_, rfl⟩
  rw [ex] at HD1 wx ⊢
  rw [ey] at HD2 ⊢
  obtain ⟨r1, r2, r3, r4⟩ := right_word (y := y) hs64 wx
  obtain ⟨hv', ehv⟩ : ∃ hv, 2 ^ (64 - s) * (y % 2 ^ s) = hv := ⟨_, rfl⟩
  obtain ⟨d, ed⟩ : ∃ d, x / 2 ^ s + hv' = d := ⟨_, rfl⟩
  have hwr : IntKind.u64.wrap ((y : Int) * 2 ^ (64 - s)) = (hv' : Int) := by
    rw [show ((y : Int) * 2 ^ (64 - s)) = ((y * 2 ^ (64 - s) : Nat) : Int) by rw [Int.natCast_mul, Int.natCast_pow]; rfl]
    rw [IntKind.wrap_u64]; omega
  have hor : bits .or .u64 ((x : Int) / 2 ^ s) (hv' : Int) = (d : Int) := by
    have h := or_high r1 r3
    rw [ehv] at h
    rw [← ed, ← h, Int.natCast_ediv, Int.natCast_pow]
    rfl
  rw [ehv, ed]
  have e1 : ((64 * q + s : Nat) : Int).tdiv 64 = (q : Int) := by rw [Int.tdiv_eq_ediv_of_nonneg (by omega)]; omega
  have e2 : ((64 * q + s : Nat) : Int).tmod 64 = (s : Int) := by rw [Int.tmod_eq_emod_of_nonneg (by omega)]; omega
  obtain ⟨F, hFF⟩ : ∃ F : Nat, 64 * q + s = F := ⟨_, rfl⟩
  rw [hFF] at e1 e2 ⊢
  have hFl : (F : Int) ≤ 1099511627776 := by omega
  have e3 : (F : Int) / 64 = (q : Int) := by omega
  have e4 : (F : Int) % 64 = (s : Int) := by omega
  have hql : (q : Int) ≤ 1099511627776 := by omega
  have HDD := Lib.hid (And.intro HD1 HD2)
  have HM := Lib.hid h1'
  have hsl : (s : Int) < 64 := by omega
  clear HD1 HD2 hv h1' h2 h4 hq hs hF hf ex ey wx r1 r2 r3 r4 ehv ed c2 hFF
  go_enter Tryz.func184, Tryz.ntmps184
  go_wp2_with fail
  refine (HDD.out.1 _ HM.out).mono ?_
  rintro e w9 ⟨rfl, rfl⟩
  go_wp2_with fail
  refine (HDD.out.2 _ HM.out).mono ?_
  rintro e w9 ⟨rfl, rfl⟩
  go_wp2_with fail
  go_ret
  exact ⟨rfl, rfl⟩
end Go.Proofs.YtmecnlgndaeidaaGreatDoor.Nb
