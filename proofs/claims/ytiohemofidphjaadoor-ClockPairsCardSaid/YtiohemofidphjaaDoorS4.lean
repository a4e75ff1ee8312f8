/- Contract of the reference's made: a fraction becomes the quotient of two magnitudes, in lowest terms. -/
import Derived.Test.YtiohemofidphjaaDoorS3
namespace Go.Proofs.YtiohemofidphjaaDoor.Bg
open Go Go.RowKit

/-- block g may have changed, no list of words has -/
structure KeepR (w w' : World) (g : Nat) : Prop where
  size : w.heap.size ≤ w'.heap.size
  mag : ∀ v ws, Mag w v ws → Mag w' v ws
  cell : ∀ p : Addr, p.block < w.heap.size → p.block ≠ g → w'.cell? p = w.cell? p
  frozen : ∀ p : Addr, p.block < w.heap.size → p.block ≠ g → w'.frozen? p = w.frozen? p
  below : ∀ B, B ≤ g → B ≤ w.heap.size → Below B w w'
theorem KeepR.of_below {w w' : World} {g : Nat} (h : Below w.heap.size w w') : KeepR w w' g :=
  ⟨h.size, fun _ _ hm => hm.below h, fun _ hp _ => h.cell hp, fun _ hp _ => h.frozen hp, fun _ _ hB => h.mono hB⟩
theorem KeepR.trans {a b c : World} {g : Nat} (h : KeepR a b g) (k : KeepR b c g) : KeepR a c g :=
  ⟨Nat.le_trans h.size k.size, fun v ws hm => k.mag v ws (h.mag v ws hm), fun p hp hn => (k.cell p (Nat.lt_of_lt_of_le hp h.size) hn).trans (h.cell p hp hn),
    fun p hp hn => (k.frozen p (Nat.lt_of_lt_of_le hp h.size) hn).trans (h.frozen p hp hn), fun B h1 h2 => (h.below B h1 h2).trans (k.below B h1 (Nat.le_trans h2 h.size))⟩
theorem KeepR.of_wrote {w w' : World} {z : Addr} (h : Wrote w w' z) (hz : Slot w z) : KeepR w w' z.block := by
  refine ⟨h.size, fun _ _ hm => h.mag hz hm, fun p hp hn => ?_, fun p hp hn => ?_, fun _ h1 h2 => h.below h1 h2⟩
  · obtain ⟨b, off, neg, A, n, c, rfl, -⟩ := hz
    exact h.cell hp (by rintro rfl; exact hn rfl) (by rintro rfl; exact hn rfl)
  · obtain ⟨b, off, w1, neg, A, n, c, rfl, hb, rfl⟩ := h
    have h0 : ∀ (W : World) (i : Nat) (v : Value), (W.setCell ⟨b, i, none⟩ v).frozen? p = W.frozen? p := fun W i v => by
      refine World.frozen?_of_block ?_
      simp only [World.setCell, Array.getElem?_modify]
      rw [if_neg (fun e => hn e.symm)]
    rw [h0, h0]
    exact hb.frozen hp
theorem KeepR.magN {w w' : World} {g : Nat} (h : KeepR w w' g) {v : Value} {n L : Nat} (hm : MagN w v n L) : MagN w' v n L := by
  obtain ⟨ws, h1, h2⟩ := hm
  exact ⟨ws, h.mag _ _ h1, h2⟩
theorem KeepR.intAt {w w' : World} {g : Nat} (h : KeepR w w' g) {p : Addr} {x : Int} {L : Nat} (hi : IntAt w p x L) (hne : p.block ≠ g) : IntAt w' p x L := by
  obtain ⟨b, off, neg, v, n, rfl, h2, h3, h4, h5, h6⟩ := hi
  exact ⟨b, off, neg, v, n, rfl, Nat.lt_of_lt_of_le h2 h.size, (h.cell ⟨b, off, none⟩ h2 hne).trans h3, (h.cell ⟨b, off + 1, none⟩ h2 hne).trans h4, h.magN h5, h6⟩
theorem KeepR.slot {w w' : World} {g : Nat} (h : KeepR w w' g) {p : Addr} (hi : Slot w p) (hne : p.block ≠ g) : Slot w' p := by
  obtain ⟨b, off, neg, A, n, c, rfl, h2, h3, h4, h5, h6⟩ := hi
  exact ⟨b, off, neg, A, n, c, rfl, Nat.lt_of_lt_of_le h2 h.size, (h.cell ⟨b, off, none⟩ h2 hne).trans h3, (h.cell ⟨b, off + 1, none⟩ h2 hne).trans h4, (h.frozen ⟨b, off, none⟩ h2 hne).trans h5, (h.frozen ⟨b, off + 1, none⟩ h2 hne).trans h6⟩

/-- the fraction x / y (y above 0) lies at r, and can be written -/
structure RatAt (w : World) (b off : Nat) (x : Int) (y : Nat) (L : Nat) : Prop where
  num : IntAt w ⟨b, off, none⟩ x L
  den : IntAt w ⟨b, off + 2, none⟩ (y : Int) 2
  sa : Slot w ⟨b, off, none⟩
  sb : Slot w ⟨b, off + 2, none⟩

theorem put_two {w w1 w2 : World} {b off : Nat} {x : Int} {y L : Nat} {e1 e2 : Ending} (sa : Slot w ⟨b, off, none⟩) (sb : Slot w ⟨b, off + 2, none⟩) (h1 : Gives w ⟨b, off, none⟩ x L e1 w1) (h2 : Gives w1 ⟨b, off + 2, none⟩ (y : Int) 2 e2 w2) :
    RatAt w2 b off x y L ∧ KeepR w w2 b := by
  have s1 := h1.2.1.slot sa sb
  have s0 := h1.2.1.slot sa sa
  refine ⟨⟨h2.2.1.intAt s1 h1.2.2 (by intro e; injection e with _ e _; omega), h2.2.2, h2.2.1.slot s1 s0, h2.2.1.slot s1 s1⟩, ?_⟩
  have k1 : KeepR w w1 b := KeepR.of_wrote h1.2.1 sa
  have k2 : KeepR w1 w2 b := KeepR.of_wrote h2.2.1 s1
  exact k1.trans k2

theorem mag_set {w : World} {p : Addr} {A : Option Addr} {k c : Nat} {x v : Value} {ws : List Nat} (hp : w.cell? p = some (.slice A k c)) (h : Mag w v ws) : Mag (w.setCell p x) v ws :=
  h.keep (by simp [World.setCell]) fun q kk n _ hc => by
    have hne : p ≠ q := by rintro rfl; rw [hp] at hc; cases hc
    rw [World.cell?_setCell_other _ _ _ _ hne]; exact hc
theorem magN_set {w : World} {p : Addr} {A : Option Addr} {k c : Nat} {x v : Value} {n L : Nat} (hp : w.cell? p = some (.slice A k c)) (h : MagN w v n L) : MagN (w.setCell p x) v n L := by
  obtain ⟨ws, h1, h2⟩ := h
  exact ⟨ws, mag_set hp h1, h2⟩
theorem bits_le {w : World} {v : Value} {n l : Nat} (h : MagN w v n 2) (hl : BitsIs n l) : l ≤ 64 := by
  obtain ⟨ws, h1, h2, h3, h4⟩ := h
  have h5 := val_lt h1.w32
  have h6 : 4294967296 ^ ws.length ≤ 4294967296 ^ 2 := Nat.pow_le_pow_right (by omega) h4
  have h7 : (4294967296 : Nat) ^ 2 = 2 ^ 64 := by decide
  refine Nat.not_lt.1 fun hlt => ?_
  have h8 : (2 : Nat) ^ 64 ≤ 2 ^ (l - 1) := Nat.pow_le_pow_right (by omega) (by omega)
  have := hl.2.1
  omega
theorem cmp_one {g : Nat} (h : g ≠ 1) : cmpN g 1 ≠ 0 := by unfold cmpN; split <;> (try split) <;> omega
theorem Slot.keep {w w' : World} {p : Addr} (h : Slot w p) (hb : Below w.heap.size w w') : Slot w' p := h.below hb

def sgn (neg : Bool) (k : Nat) : Int := if neg then -(k : Int) else (k : Int)
/-- the fraction x / y was written at r -/
def Made (w : World) (b off : Nat) (x : Int) (y L : Nat) (e : Ending) (w' : World) : Prop := e = .returned (.pointer (some ⟨b, off, none⟩)) ∧ RatAt w' b off x y L ∧ KeepR w w' b

set_option maxHeartbeats 2000000 in
theorem made_zero (b off : Nat) (neg : Bool) (A A2 : Option Addr) (c k2 c2 : Nat) (w : World) (sa : Slot w ⟨b, off, none⟩) (sb : Slot w ⟨b, off + 2, none⟩) :
    Calls Tryd.prog 53 #[.pointer (some ⟨b, off, none⟩), .bool neg, .slice A 0 c, .slice A2 k2 c2] w (Made w b off 0 1 2) := by
  have hb2 : Below w.heap.size w ((w.alloc (.cells #[.bool false, .slice A 0 c] 68)).alloc (.cells #[.bool false, .slice A2 k2 c2] 68)) := ((Below.refl _ _).alloc (Nat.le_refl _) _).alloc (by simp) _
  have HB2 := Lib.hid hb2
  have HS := Lib.hid (And.intro (sa.below hb2) (sb.below hb2))
  clear hb2 sa sb
  go_enter Tryd.func53, Tryd.ntmps53
  go_wp2_with fail
  generalize (w.alloc (.cells #[.bool false, .slice A 0 c] 68)).alloc (.cells #[.bool false, .slice A2 k2 c2] 68) = W2 at *
  refine (put_pos ⟨b, off, none⟩ (.slice none 0 0) 0 2 0 _ HS.out.1 (MagN.zero0 _ _) rfl).mono ?_
  rintro e V1 hg1
  have HP1 := Lib.hid hg1
  obtain ⟨rfl, -, -⟩ := hg1
  have HS1 := Lib.hid (HP1.out.2.1.slot HS.out.1 HS.out.2)
  go_wp2_with fail
  go_region_with (first | (go_at_call 61; refine (one_any _).mono ?_; rintro e W7 ⟨A7, k7, c7, rfl, -, h7, hb7⟩; have H7 := Lib.hid h7; have HB7 := Lib.hid ((Below.refl _ _).drew.trans hb7); clear h7 hb7) | (go_at_call 47; refine (put_pos ⟨b, off + 2, none⟩ (.slice A7 k7 c7) 1 2 1 _ (HS1.out.below HB7.out) (H7.out.more (by omega)) rfl).mono ?_; rintro e V2 hg2; have HP2 := Lib.hid hg2; obtain ⟨rfl, -, -⟩ := hg2))
  go_wp2_with fail
  go_ret
  have hfin := put_two (y := 1) HS.out.1 HS.out.2 HP1.out (HP2.out.of_below HB7.out)
  exact ⟨rfl, hfin.1, (KeepR.of_below HB2.out).trans hfin.2⟩

set_option maxRecDepth 8000 in
set_option maxHeartbeats 4000000 in
theorem made_pos (b off : Nat) (neg : Bool) (A : Option Addr) (k c : Nat) (v : Value) (m n L : Nat) (w : World) (sa : Slot w ⟨b, off, none⟩) (sb : Slot w ⟨b, off + 2, none⟩) (hu : MagN w (.slice A k c) m L) (hv : MagN w v n 2)
    (hm : 0 < m) (hn : 0 < n) (hL : L ≤ 67108864) (hL2 : 2 ≤ L) (hT : Tab w) :
    Calls Tryd.prog 53 #[.pointer (some ⟨b, off, none⟩), .bool neg, .slice A k c, v] w (Made w b off (sgn neg (m / Nat.gcd m n)) (n / Nat.gcd m n) L) := by
  obtain ⟨A2, k2, c2, rfl, -, -⟩ := hv.slice
  have hk0 : ¬ k = 0 := fun h => by have := hu.len.1 h; omega
  have hki : ¬ (k : Int) = 0 := by omega
  have HU := Lib.hid hu
  have HV := Lib.hid hv
  have HT := Lib.hid hT
  have HS := Lib.hid (And.intro sa sb)
  have hb2 : Below w.heap.size w ((w.alloc (.cells #[.bool false, .slice A k c] 68)).alloc (.cells #[.bool false, .slice A2 k2 c2] 68)) := ((Below.refl _ _).alloc (Nat.le_refl _) _).alloc (by simp) _
  have HB2 := Lib.hid hb2
  have x1 : ((w.alloc (.cells #[.bool false, .slice A k c] 68)).alloc (.cells #[.bool false, .slice A2 k2 c2] 68)).cell? ⟨w.heap.size, 0 + 1, none⟩ = some (.slice A k c) := by simp [go_sem]
  have y1 : ((w.alloc (.cells #[.bool false, .slice A k c] 68)).alloc (.cells #[.bool false, .slice A2 k2 c2] 68)).cell? ⟨w.heap.size + 1, 0 + 1, none⟩ = some (.slice A2 k2 c2) := by simp [go_sem]
  have y2 : ((w.alloc (.cells #[.bool false, .slice A k c] 68)).alloc (.cells #[.bool false, .slice A2 k2 c2] 68)).frozen? ⟨w.heap.size + 1, 0 + 1, none⟩ = false := by simp [go_sem]
  have yl : w.heap.size + 1 < ((w.alloc (.cells #[.bool false, .slice A k c] 68)).alloc (.cells #[.bool false, .slice A2 k2 c2] 68)).heap.size := by simp
  have HX := Lib.hid (And.intro x1 (And.intro y1 (And.intro y2 yl)))
  clear hu hv hT sa sb hb2 hk0 x1 y1 y2 yl
  go_enter Tryd.func53, Tryd.ntmps53
  go_wp2_with fail
  generalize (w.alloc (.cells #[.bool false, .slice A k c] 68)).alloc (.cells #[.bool false, .slice A2 k2 c2] 68) = W2 at *
  refine (tzb_any _ 0 k c m L A W2 HX.out.1 (HU.out.below HB2.out) hm (by omega) (HT.out.below HB2.out)).mono ?_
  rintro e W ⟨ta, rfl, hta, hta2, rfl⟩
  have HTA := Lib.hid hta
  clear hta
  go_wp2_with fail
  refine (tzb_any _ 0 k2 c2 n 2 A2 W2 HX.out.2.1 (HV.out.below HB2.out) hn (by omega) (HT.out.below HB2.out)).mono ?_
  rintro e W ⟨tb, rfl, htb, htb2, rfl⟩
  have HTB := Lib.hid htb
  clear htb
  obtain ⟨N, hN⟩ : ∃ N, min ta tb = N := ⟨_, rfl⟩
  have hNb : N ≤ 9223372036854775807 := by omega
  have HN := Lib.hid hN
  clear hN
  go_upto_if 39 with fail
  go_cut [11] (fun v wx => v = .int .u64 (N : Int) ∧ W2 = wx)
  case first =>
    by_cases hlt : tb < ta
    · go_wp2_with fail
      go_meet
      exact ⟨congrArg (Value.int .u64) (by have := HN.out; omega), rfl⟩
    · go_wp2_with fail
      go_meet
      exact ⟨congrArg (Value.int .u64) (by have := HN.out; omega), rfl⟩
  case rest =>
    obtain ⟨rfl, rfl⟩ := hcut
    have HRA := Lib.hid (fun W (h : Below W2.heap.size W2 W) => right_any (.slice A k c) m N L W ((HU.out.below HB2.out).below h) (by omega) hNb)
    go_wp2_with fail
    refine (HRA.out _ (Below.refl _ _)).mono ?_
    rintro e W3 ⟨a3, rfl, ha3, hb3⟩
    obtain ⟨A3, k3, c3, rfl, -, -⟩ := ha3.slice
    have HA3 := Lib.hid ha3
    have HB3 := Lib.hid hb3
    clear ha3 hb3 HRA
    go_wp2_with fail
    refine (right_any (.slice A2 k2 c2) n N 2 W3 ((HV.out.below HB2.out).below HB3.out) (by omega) hNb).mono ?_
    rintro e W4 ⟨b4, rfl, hb4, hl4⟩
    obtain ⟨A4, k4, c4, rfl, -, -⟩ := hb4.slice
    have HB4 := Lib.hid hb4
    have HL4 := Lib.hid hl4
    clear hb4 hl4
    have hw24 : Below W2.heap.size W2 W4 := HB3.out.trans (HL4.out.mono HB3.out.size)
    have y1 : W4.cell? ⟨w.heap.size + 1, 1, none⟩ = some (.slice A2 k2 c2) := (hw24.cell (by exact HX.out.2.2.2)).trans HX.out.2.1
    have y2 : W4.frozen? ⟨w.heap.size + 1, 1, none⟩ = false := (hw24.frozen (by exact HX.out.2.2.2)).trans HX.out.2.2.1
    have HW4 := Lib.hid hw24
    clear hw24
    have ha0 : 0 < m / 2 ^ N := Nat.div_pos (Nat.le_of_dvd hm (HTA.out.dvd (by have := HN.out; omega))) (Nat.two_pow_pos N)
    have hb0 : 0 < n / 2 ^ N := Nat.div_pos (Nat.le_of_dvd hn (HTB.out.dvd (by have := HN.out; omega))) (Nat.two_pow_pos N)
    have hset : Below w.heap.size w (W4.setCell ⟨w.heap.size + 1, 1, none⟩ (.slice A4 k4 c4)) := (HB2.out.trans (HW4.out.mono HB2.out.size)).setCell (p := ⟨w.heap.size + 1, 1, none⟩) (by show _ ≤ w.heap.size + 1; omega) _
    go_wp2_with fail
    have z1 : (W4.setCell ⟨w.heap.size + 1, 1, none⟩ (.slice A4 k4 c4)).cell? ⟨w.heap.size + 1, 0 + 1, none⟩ = some (.slice A4 k4 c4) := by simp [go_sem, y1]
    have HMA := Lib.hid (magN_set (p := ⟨w.heap.size + 1, 1, none⟩) (x := .slice A4 k4 c4) y1 (HA3.out.below HL4.out))
    have HMB := Lib.hid (magN_set (p := ⟨w.heap.size + 1, 1, none⟩) (x := .slice A4 k4 c4) y1 HB4.out)
    have HWB := Lib.hid hset
    have HZ := Lib.hid z1
    clear hset z1 y1 y2
    generalize W4.setCell ⟨w.heap.size + 1, 1, none⟩ (.slice A4 k4 c4) = W5 at *
    refine (tzb_any (w.heap.size + 1) 0 k4 c4 (n / 2 ^ N) 2 A4 W5 HZ.out HMB.out hb0 (by omega) (HT.out.below HWB.out)).mono ?_
    rintro e W ⟨t4, rfl, ht4, ht42, rfl⟩
    have HT4 := Lib.hid ht4
    clear ht4
    have ht4i : (t4 : Int) ≤ 64 := by omega
    go_wp2_with fail
    refine (bitlen_any (w.heap.size + 1) 0 k4 c4 (n / 2 ^ N) 2 A4 W5 HZ.out HMB.out hb0 (by omega)).mono ?_
    rintro e W ⟨l, mm, rfl, hl, rfl⟩
    have hl1 := hl.1
    have hlb : l ≤ 64 := bits_le HMB.out hl
    have HLL := Lib.hid hl
    clear hl
    go_upto_if 57 with fail
    go_cut [2, 3] (fun a b wx => ∃ Aa ka ca Ab kb cb, a = .slice Aa ka ca ∧ b = .slice Ab kb cb ∧ Hid (MagN wx a (m / Nat.gcd m n) L ∧ MagN wx b (n / Nat.gcd m n) 2 ∧ Below w.heap.size w wx))
    case first =>
      by_cases htl : t4 = l - 1
      · have hd1 : ((t4 : Int) != (l : Int) - 1) = false := by simp; omega
        have hp2 := pow_of_bits HT4.out HLL.out htl
        have hg1 := coprime_pow HTA.out HTB.out HN.out.symm hp2
        have hr := red_div (HTA.out.dvd (k := N) (by have := HN.out; omega)) (HTB.out.dvd (k := N) (by have := HN.out; omega)) hg1
        rw [Nat.div_one, Nat.div_one] at hr
        have HR := Lib.hid hr
        clear hp2 hg1 hr
        go_wp2_with fail
        go_meet
        exact ⟨_, _, _, _, _, _, rfl, rfl, Lib.hid ⟨by rw [← HR.out.1]; exact HMA.out.below (below_dN (Below.refl _ _) _), by rw [← HR.out.2]; exact HMB.out.below (below_dN (Below.refl _ _) _), below_dN HWB.out _⟩⟩
      · have hd1 : ((t4 : Int) != (l : Int) - 1) = true := by simp; omega
        go_wp2_with fail
        refine (common_any (.slice A3 k3 c3) (.slice A4 k4 c4) _ _ L (W5.drewN mm) (HMA.out.below (below_dN (Below.refl _ _) _)) (HMB.out.below (below_dN (Below.refl _ _) _)) (by omega) hL2 ha0 hb0).mono ?_
        rintro e W6 ⟨g, rfl, hg, hb6⟩
        obtain ⟨G, hG⟩ : ∃ G, Nat.gcd (m / 2 ^ N) (n / 2 ^ N) = G := ⟨_, rfl⟩
        rw [hG] at hg
        have hG0 : 0 < G := by rw [← hG]; exact Nat.gcd_pos_of_pos_left _ ha0
        have hr := red_div (HTA.out.dvd (k := N) (by have := HN.out; omega)) (HTB.out.dvd (k := N) (by have := HN.out; omega)) hG
        have HR := Lib.hid hr
        have HG := Lib.hid hg
        have HB6 := Lib.hid (show Below W5.heap.size W5 W6 from (below_dN (Below.refl _ _) mm).trans hb6)
        clear hr hg hb6 hG
        go_wp2_with fail
        refine (one_any W6).mono ?_
        rintro e W7 ⟨A7, k7, c7, rfl, -, h7, hb7⟩
        have H7 := Lib.hid h7
        have HB7 := Lib.hid hb7
        clear h7 hb7
        go_wp2_with fail
        have hcp := compare_any g (.slice A7 k7 c7) G 1 2 W7 (HG.out.below HB7.out) (H7.out.more (by omega)) (by omega)
        obtain ⟨cc, hcc⟩ : ∃ cc, cmpN G 1 = cc := ⟨_, rfl⟩
        rw [hcc] at hcp
        refine hcp.mono ?_
        rintro e W8 ⟨rfl, j8, rfl⟩
        by_cases hg1 : G = 1
        · have hc0 : (cc != 0) = false := by rw [← hcc, hg1]; decide
          have HCC := Lib.hid hcc
          clear hcc hcp
          go_wp2_with fail
          go_meet
          have hb57 : Below W5.heap.size W5 (W7.drewN j8) := below_dN (HB6.out.trans (HB7.out.mono HB6.out.size)) _
          exact ⟨_, _, _, _, _, _, rfl, rfl, Lib.hid ⟨by have h9 := HR.out.1; rw [hg1, Nat.div_one] at h9; rw [← h9]; exact HMA.out.below hb57, by have h9 := HR.out.2; rw [hg1, Nat.div_one] at h9; rw [← h9]; exact HMB.out.below hb57, HWB.out.trans (hb57.mono HWB.out.size)⟩⟩
        · have hc0 : (cc != 0) = true := by rw [← hcc]; simpa using cmp_one hg1
          have HCC := Lib.hid hcc
          clear hcc hcp
          have hb57 := Lib.hid (show Below W5.heap.size W5 (W7.drewN j8) from below_dN (HB6.out.trans (HB7.out.mono HB6.out.size)) _)
          go_wp2_with fail
          refine (over_any2 (.slice A3 k3 c3) g _ G L _ (HMA.out.below hb57.out) (HG.out.below (below_dN HB7.out _)) (by omega) hG0 hL2).mono ?_
          rintro e W9 ⟨q9, r9, rfl, hq9, -, hb9⟩
          obtain ⟨A9, k9, c9, rfl, -, -⟩ := hq9.slice
          have HQ9 := Lib.hid hq9
          have HB9 := Lib.hid (show Below W5.heap.size W5 W9 from hb57.out.trans (hb9.mono hb57.out.size))
          have HG9 := Lib.hid ((HG.out.below (below_dN HB7.out j8)).below hb9)
          clear hq9 hb9
          go_wp2_with fail
          refine (over_any2 (.slice A4 k4 c4) g _ G 2 _ (HMB.out.below HB9.out) HG9.out (by omega) hG0 (by omega)).mono ?_
          rintro e WX ⟨qX, rX, rfl, hqX, -, hbX⟩
          obtain ⟨AX, kX, cX, rfl, -, -⟩ := hqX.slice
          have HQX := Lib.hid hqX
          have HBX := Lib.hid hbX
          clear hqX hbX
          go_wp2_with fail
          go_meet
          exact ⟨_, _, _, _, _, _, rfl, rfl, Lib.hid ⟨by rw [← HR.out.1]; exact HQ9.out.below HBX.out, by rw [← HR.out.2]; exact HQX.out, (HWB.out.trans (HB9.out.mono HWB.out.size)).trans (HBX.out.mono (by have := HWB.out.size; have := HB9.out.size; omega))⟩⟩
    case rest =>
      obtain ⟨Aa, ka, ca, Ab, kb, cb, rfl, rfl, hres⟩ := hcut
      go_wp2_with fail
      refine (put_any ⟨b, off, none⟩ neg (.slice Aa ka ca) _ L _ (HS.out.1.below hres.out.2.2) hres.out.1).mono ?_
      rintro e V1 hg1
      have HP1 := Lib.hid hg1
      obtain ⟨rfl, -, -⟩ := hg1
      go_wp2_with fail
      have hs1 := HP1.out.2.1.slot (HS.out.1.below hres.out.2.2) (HS.out.2.below hres.out.2.2)
      refine (put_pos ⟨b, off + 2, none⟩ (.slice Ab kb cb) _ 2 _ _ hs1 (HP1.out.2.1.magN (HS.out.1.below hres.out.2.2) hres.out.2.1) rfl).mono ?_
      rintro e V2 hg2
      have HP2 := Lib.hid hg2
      obtain ⟨rfl, -, -⟩ := hg2
      go_wp2_with fail
      go_ret
      have hfin := put_two (HS.out.1.below hres.out.2.2) (HS.out.2.below hres.out.2.2) HP1.out HP2.out
      exact ⟨rfl, hfin.1, (KeepR.of_below hres.out.2.2).trans hfin.2⟩
end Go.Proofs.YtiohemofidphjaaDoor.Bg
