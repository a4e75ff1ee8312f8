/- Two clocks: how fast one goes against the other and how far apart they are, as the program reckons it. No condition. -/
import Derived.Test.YtiohemofidphjaaDoorC1
import Derived.Test.YtiohemofidphjaaDoorB2
import Derived.Test.YtiohemofidphjaaDoorQ20

namespace Go.Proofs.YtiohemofidphjaaDoor.Bg
open Go Go.RowKit

def driP (n d m k : Int) : Int := 1000000000 * (n * k - d * m)
def driQ (d m : Int) : Int := d * m
/-- how fast one clock goes against another; the error's number -/
def driV (o n d p m k : Int) : Int := if Ck.okc o n d && Ck.okc p m k then wiV (driP n d m k / driQ d m) 4611686018427387904 else 0
def driE (o n d p m k : Int) : Int := if Ck.okc o n d && Ck.okc p m k then wiE (driP n d m k / driQ d m) 4611686018427387904 else 130

theorem prod_pos {a b : Int} (a0 : 1 ≤ a) (a1 : a ≤ 1000000000) (b0 : 1 ≤ b) (b1 : b ≤ 1000000000) : 1 ≤ a * b ∧ a * b ≤ 1000000000000000000 := by
  have h1 : 1 * 1 ≤ a * b := Int.mul_le_mul a0 b0 (by omega) (by omega)
  have h2 : a * b ≤ 1000000000 * 1000000000 := Int.mul_le_mul a1 b1 (by omega) (by omega)
  omega

/-- the program's bound is the reference's -/
theorem dri_fits {n d m k : Int} (n0 : 1 ≤ n) (n1 : n ≤ 1000000000) (d0 : 1 ≤ d) (d1 : d ≤ 1000000000) (m0 : 1 ≤ m) (m1 : m ≤ 1000000000) (k0 : 1 ≤ k) (k1 : k ≤ 1000000000) :
    (if Ck.fits (driP n d m k) (driQ d m) then driP n d m k / driQ d m else 0) = wiV (driP n d m k / driQ d m) 4611686018427387904 ∧
    (if Ck.fits (driP n d m k) (driQ d m) then (0 : Int) else 1) = wiE (driP n d m k / driQ d m) 4611686018427387904 := by
  obtain ⟨a0, a1⟩ := prod_pos n0 n1 k0 k1
  obtain ⟨b0, b1⟩ := prod_pos d0 d1 m0 m1
  unfold driP driQ
  obtain ⟨X, hX⟩ : ∃ X, n * k = X := ⟨_, rfl⟩
  obtain ⟨Y, hY⟩ : ∃ Y, d * m = Y := ⟨_, rfl⟩
  rw [hX] at a0 a1 ⊢
  rw [hY] at b0 b1 ⊢
  obtain ⟨q, r, hq, hp, r0, r1⟩ := Ck.fl (1000000000 * (X - Y)) Y (by omega)
  have hq0 : -1000000000 ≤ q := by
    rw [← hq, Int.le_ediv_iff_mul_le (by omega)]
    omega
  have hf : Ck.fits (1000000000 * (X - Y)) Y = decide (-4611686018427387904 ≤ q ∧ q ≤ 4611686018427387904) := by
    unfold Ck.fits
    by_cases hs : 0 ≤ X - Y
    · have : ((1000000000 * (X - Y)).natAbs : Int) = 1000000000 * (X - Y) := by omega
      rw [this, hq]
      simp; omega
    · have h1 : ((1000000000 * (X - Y)).natAbs : Int) / Y ≤ 1000000000 := by
        refine Int.le_of_lt_add_one (Int.ediv_lt_of_lt_mul (by omega) ?_)
        omega
      have h2 : q ≤ 0 := by
        rw [← hq]
        refine Int.le_of_lt_add_one (Int.ediv_lt_of_lt_mul (by omega) ?_)
        omega
      have c1 : ((1000000000 * (X - Y)).natAbs : Int) / Y ≤ 4611686018427387904 := by omega
      have c2 : -4611686018427387904 ≤ q ∧ q ≤ 4611686018427387904 := by omega
      simp [c1, c2]
  rw [hf, hq]
  unfold wiV wiE
  by_cases c : -4611686018427387904 ≤ q ∧ q ≤ 4611686018427387904
  · simp [c]
  · simp [c]

end Go.Proofs.YtiohemofidphjaaDoor.Bg

namespace Go.Proofs.YtiohemofidphjaaDoor
open Go Go.RowKit Bg

theorem below_a2 {w x : World} {o1 o2 : Obj} (h : Below ((w.alloc o1).alloc o2).heap.size ((w.alloc o1).alloc o2) x) : Below w.heap.size w x :=
  (((Below.refl _ _).alloc (Nat.le_refl _) _).alloc (by simp) _).trans (h.mono (by simp; omega))
theorem dri_bd {n d m k : Int} (n0 : 1 ≤ n) (n1 : n ≤ 1000000000) (d0 : 1 ≤ d) (d1 : d ≤ 1000000000) (m0 : 1 ≤ m) (m1 : m ≤ 1000000000) (k0 : 1 ≤ k) (k1 : k ≤ 1000000000) :
    1 ≤ n * k ∧ n * k ≤ 1000000000000000000 ∧ 1 ≤ d * m ∧ d * m ≤ 1000000000000000000 ∧ ((driP n d m k).natAbs : Int) ≤ 1000000000000000000000000000 := by
  obtain ⟨a0, a1⟩ := prod_pos n0 n1 k0 k1
  obtain ⟨b0, b1⟩ := prod_pos d0 d1 m0 m1
  refine ⟨a0, a1, b0, b1, ?_⟩
  unfold driP
  omega

/-- two clocks' numbers lie in the two blocks from b on -/
def Keep4 (x2 : World) (b : Nat) (n d m k : Int) (w' : World) : Prop :=
  w'.cell? ⟨b, 1, none⟩ = some (.int .i64 n) ∧ w'.cell? ⟨b, 2, none⟩ = some (.int .i64 d) ∧ w'.cell? ⟨b + 1, 1, none⟩ = some (.int .i64 m) ∧ w'.cell? ⟨b + 1, 2, none⟩ = some (.int .i64 k) ∧ Below (b + 2) x2 w'
theorem Keep4.keep {x2 w1 w2 : World} {b : Nat} {n d m k : Int} (h : Keep4 x2 b n d m k w1) (hb : Below w1.heap.size w1 w2) (hx : b + 2 ≤ x2.heap.size) : Keep4 x2 b n d m k w2 := by
  have hs := h.2.2.2.2.size
  exact ⟨(hb.cell (by show b < _; omega)).trans h.1, (hb.cell (by show b < _; omega)).trans h.2.1, (hb.cell (by show b + 1 < _; omega)).trans h.2.2.1, (hb.cell (by show b + 1 < _; omega)).trans h.2.2.2.1, h.2.2.2.2.trans (hb.mono (by omega))⟩

set_option maxRecDepth 8000 in
set_option maxHeartbeats 8000000 in
theorem drift_any (o n d p m k : Int) (w : World) :
    Calls Tryd.prog 8 #[clk o n d, clk p m k] w fun e w' => e = .returned (.tuple #[.int .i64 (driV o n d p m k), .int .i64 (driE o n d p m k)]) ∧ Below w.heap.size w w' := by
  have h0 := Below.refl ((w.alloc (.cells #[.int .i64 o, .int .i64 n, .int .i64 d] 24)).alloc (.cells #[.int .i64 p, .int .i64 m, .int .i64 k] 24)).heap.size ((w.alloc (.cells #[.int .i64 o, .int .i64 n, .int .i64 d] 24)).alloc (.cells #[.int .i64 p, .int .i64 m, .int .i64 k] 24))
  by_cases kc : Ck.okc o n d = true
  · by_cases kd : Ck.okc p m k = true
    · obtain ⟨n0, n1, d0, d1, o0, o1⟩ := Ck.okc_iff.1 kc
      obtain ⟨m0, m1, k0, k1, p0, p1⟩ := Ck.okc_iff.1 kd
      obtain ⟨a0, a1, b0, b1, e1⟩ := dri_bd n0 n1 d0 d1 m0 m1 k0 k1
      obtain ⟨f1, f2⟩ := dri_fits n0 n1 d0 d1 m0 m1 k0 k1
      have hv : driV o n d p m k = if Ck.fits (driP n d m k) (driQ d m) then driP n d m k / driQ d m else 0 := by rw [f1]; simp [driV, kc, kd]
      have he : driE o n d p m k = if Ck.fits (driP n d m k) (driQ d m) then 0 else 1 := by rw [f2]; simp [driE, kc, kd]
      rw [hv, he]
      clear f1 f2 hv he
      have C1 := Lib.hid kc
      have C2 := Lib.hid kd
      have HO := Lib.hid (fun W => over_any (driP n d m k) (d * m) W (by omega) (by omega) (by omega))
      have HT := Lib.hid (fun W => times_any 1000000000 (n * k - d * m) W (by omega) (by omega) (by omega) (by omega))
      rw [show driQ d m = d * m from rfl]
      by_cases ceq : (o = p ∧ n = m) ∧ d = k
      · obtain ⟨⟨rfl, rfl⟩, rfl⟩ := ceq
        have z1 : driP n d n d / (d * n) = 0 := by
          unfold driP
          rw [show n * d = d * n from Int.mul_comm _ _, Int.sub_self]
          simp
        have z2 : Ck.fits (driP n d n d) (d * n) = true := by
          unfold Ck.fits driP
          rw [show n * d = d * n from Int.mul_comm _ _, Int.sub_self]
          simp
        rw [z1, z2]
        clear z1 z2 HO HT C2 kc kd
        unfold clk
        go_enter Tryd.func8, Tryd.ntmps8
        go_wp2_with fail
        refine (keep_in (check_ok _ _ _ _ C1.out) (by assumption)).mono ?_
        rintro e x1 ⟨rfl, hx1⟩
        obtain ⟨hcell1, hfrz1⟩ := bcell hx1
        go_wp2_with fail
        refine (keep_in (check_ok _ _ _ _ C1.out) (by assumption)).mono ?_
        rintro e x2 ⟨rfl, hx2⟩
        obtain ⟨hcell2, hfrz2⟩ := bcell hx2
        go_wp2_with fail
        go_ret2
        exact ⟨rfl, below_a2 hx2⟩
      · obtain ⟨V, hV⟩ : ∃ V, (if Ck.fits (driP n d m k) (d * m) then driP n d m k / (d * m) else 0) = V := ⟨_, rfl⟩
        obtain ⟨F, hF⟩ : ∃ F, Ck.fits (driP n d m k) (d * m) = F := ⟨_, rfl⟩
        have hV0 : F = false → V = 0 := by rintro rfl; rw [hF] at hV; simp at hV; exact hV.symm
        rw [hV, hF] at HO ⊢
        obtain ⟨P, hP⟩ : ∃ P, driP n d m k = P := ⟨_, rfl⟩
        rw [show 1000000000 * (n * k - d * m) = P from hP] at HT
        rw [hP] at HO
        clear hV hF kc kd e1 hP
        unfold clk
        rcases (by omega : ¬ o = p ∨ (o = p ∧ ¬ n = m) ∨ (o = p ∧ n = m ∧ ¬ d = k)) with hne | ⟨rfl, hne⟩ | ⟨rfl, rfl, hne⟩
        · clear ceq
          have W1 : IntKind.i64.wrap (n * k) = n * k := IntWalk.i64_in _ (by omega)
          have W2 : IntKind.i64.wrap (d * m) = d * m := IntWalk.i64_in _ (by omega)
          have W3 : IntKind.i64.wrap (n * k - d * m) = n * k - d * m := IntWalk.i64_in _ (by omega)
          go_enter Tryd.func8, Tryd.ntmps8
          go_wp2_with fail
          refine (keep_in (check_ok _ _ _ _ C1.out) (by assumption)).mono ?_
          rintro e x1 ⟨rfl, hx1⟩
          obtain ⟨hcell1, hfrz1⟩ := bcell hx1
          go_wp2_with fail
          refine (keep_in (check_ok _ _ _ _ C2.out) (by assumption)).mono ?_
          rintro e x2 ⟨rfl, hx2⟩
          obtain ⟨hcell2, hfrz2⟩ := bcell hx2
          go_wp2_with fail
          have hx2s : w.heap.size + 2 ≤ x2.heap.size := by have := hx2.size; simpa using this
          have HX := Lib.hid (below_a2 hx2)
          have HC : Hid (Keep4 x2 w.heap.size n d m k x2.drew) := Lib.hid ⟨(hcell2 _ _ (by simp; try omega)).trans (by simp [go_sem]), (hcell2 _ _ (by simp; try omega)).trans (by simp [go_sem]), (hcell2 _ _ (by simp; try omega)).trans (by simp [go_sem]), (hcell2 _ _ (by simp; try omega)).trans (by simp [go_sem]), (Below.refl _ _).drew⟩
          clear hcell1 hcell2 hfrz1 hfrz2 hx1 hx2
          unfold Keep4 at HC
          go_region_held3 (fun w' => w'.cell? ⟨w.heap.size, 1, none⟩ = some (.int .i64 n) ∧ w'.cell? ⟨w.heap.size, 2, none⟩ = some (.int .i64 d) ∧ w'.cell? ⟨w.heap.size + 1, 1, none⟩ = some (.int .i64 m) ∧ w'.cell? ⟨w.heap.size + 1, 2, none⟩ = some (.int .i64 k) ∧ Below (w.heap.size + 2) x2 w')
            (first | exact HC.out | exact Keep4.keep (by assumption) hb2 hx2s | exact Keep4.keep (by assumption) hb1 hx2s)
            (first | (go_at_call 16; refine (HT.out _).mono ?_; rintro e w' ⟨rfl, hb1⟩) | (go_at_call 17; refine (HO.out _).mono ?_; rintro e w' ⟨rfl, hb2⟩))
          have hS : Keep4 x2 w.heap.size n d m k w' := by assumption
          have HE := Lib.hid (HX.out.trans (hS.2.2.2.2.mono (by omega)))
          clear hS
          cases F
          · rw [hV0 rfl]
            go_wp2_with fail
            go_ret2
            exact ⟨rfl, HE.out⟩
          · go_wp2_with fail
            go_ret2
            exact ⟨rfl, HE.out⟩
        · clear ceq
          have W1 : IntKind.i64.wrap (n * k) = n * k := IntWalk.i64_in _ (by omega)
          have W2 : IntKind.i64.wrap (d * m) = d * m := IntWalk.i64_in _ (by omega)
          have W3 : IntKind.i64.wrap (n * k - d * m) = n * k - d * m := IntWalk.i64_in _ (by omega)
          go_enter Tryd.func8, Tryd.ntmps8
          go_wp2_with fail
          refine (keep_in (check_ok _ _ _ _ C1.out) (by assumption)).mono ?_
          rintro e x1 ⟨rfl, hx1⟩
          obtain ⟨hcell1, hfrz1⟩ := bcell hx1
          go_wp2_with fail
          refine (keep_in (check_ok _ _ _ _ C2.out) (by assumption)).mono ?_
          rintro e x2 ⟨rfl, hx2⟩
          obtain ⟨hcell2, hfrz2⟩ := bcell hx2
          go_wp2_with fail
          have hx2s : w.heap.size + 2 ≤ x2.heap.size := by have := hx2.size; simpa using this
          have HX := Lib.hid (below_a2 hx2)
          have HC : Hid (Keep4 x2 w.heap.size n d m k x2.drew) := Lib.hid ⟨(hcell2 _ _ (by simp; try omega)).trans (by simp [go_sem]), (hcell2 _ _ (by simp; try omega)).trans (by simp [go_sem]), (hcell2 _ _ (by simp; try omega)).trans (by simp [go_sem]), (hcell2 _ _ (by simp; try omega)).trans (by simp [go_sem]), (Below.refl _ _).drew⟩
          clear hcell1 hcell2 hfrz1 hfrz2 hx1 hx2
          unfold Keep4 at HC
          go_region_held3 (fun w' => w'.cell? ⟨w.heap.size, 1, none⟩ = some (.int .i64 n) ∧ w'.cell? ⟨w.heap.size, 2, none⟩ = some (.int .i64 d) ∧ w'.cell? ⟨w.heap.size + 1, 1, none⟩ = some (.int .i64 m) ∧ w'.cell? ⟨w.heap.size + 1, 2, none⟩ = some (.int .i64 k) ∧ Below (w.heap.size + 2) x2 w')
            (first | exact HC.out | exact Keep4.keep (by assumption) hb2 hx2s | exact Keep4.keep (by assumption) hb1 hx2s)
            (first | (go_at_call 16; refine (HT.out _).mono ?_; rintro e w' ⟨rfl, hb1⟩) | (go_at_call 17; refine (HO.out _).mono ?_; rintro e w' ⟨rfl, hb2⟩))
          have hS : Keep4 x2 w.heap.size n d m k w' := by assumption
          have HE := Lib.hid (HX.out.trans (hS.2.2.2.2.mono (by omega)))
          clear hS
          cases F
          · rw [hV0 rfl]
            go_wp2_with fail
            go_ret2
            exact ⟨rfl, HE.out⟩
          · go_wp2_with fail
            go_ret2
            exact ⟨rfl, HE.out⟩
        · clear ceq
          have W1 : IntKind.i64.wrap (n * k) = n * k := IntWalk.i64_in _ (by omega)
          have W2 : IntKind.i64.wrap (d * n) = d * n := IntWalk.i64_in _ (by omega)
          have W3 : IntKind.i64.wrap (n * k - d * n) = n * k - d * n := IntWalk.i64_in _ (by omega)
          go_enter Tryd.func8, Tryd.ntmps8
          go_wp2_with fail
          refine (keep_in (check_ok _ _ _ _ C1.out) (by assumption)).mono ?_
          rintro e x1 ⟨rfl, hx1⟩
          obtain ⟨hcell1, hfrz1⟩ := bcell hx1
          go_wp2_with fail
          refine (keep_in (check_ok _ _ _ _ C2.out) (by assumption)).mono ?_
          rintro e x2 ⟨rfl, hx2⟩
          obtain ⟨hcell2, hfrz2⟩ := bcell hx2
          go_wp2_with fail
          have hx2s : w.heap.size + 2 ≤ x2.heap.size := by have := hx2.size; simpa using this
          have HX := Lib.hid (below_a2 hx2)
          have HC : Hid (Keep4 x2 w.heap.size n d n k x2.drew) := Lib.hid ⟨(hcell2 _ _ (by simp; try omega)).trans (by simp [go_sem]), (hcell2 _ _ (by simp; try omega)).trans (by simp [go_sem]), (hcell2 _ _ (by simp; try omega)).trans (by simp [go_sem]), (hcell2 _ _ (by simp; try omega)).trans (by simp [go_sem]), (Below.refl _ _).drew⟩
          clear hcell1 hcell2 hfrz1 hfrz2 hx1 hx2
          unfold Keep4 at HC
          go_region_held3 (fun w' => w'.cell? ⟨w.heap.size, 1, none⟩ = some (.int .i64 n) ∧ w'.cell? ⟨w.heap.size, 2, none⟩ = some (.int .i64 d) ∧ w'.cell? ⟨w.heap.size + 1, 1, none⟩ = some (.int .i64 n) ∧ w'.cell? ⟨w.heap.size + 1, 2, none⟩ = some (.int .i64 k) ∧ Below (w.heap.size + 2) x2 w')
            (first | exact HC.out | exact Keep4.keep (by assumption) hb2 hx2s | exact Keep4.keep (by assumption) hb1 hx2s)
            (first | (go_at_call 16; refine (HT.out _).mono ?_; rintro e w' ⟨rfl, hb1⟩) | (go_at_call 17; refine (HO.out _).mono ?_; rintro e w' ⟨rfl, hb2⟩))
          have hS : Keep4 x2 w.heap.size n d n k w' := by assumption
          have HE := Lib.hid (HX.out.trans (hS.2.2.2.2.mono (by omega)))
          clear hS
          cases F
          · rw [hV0 rfl]
            go_wp2_with fail
            go_ret2
            exact ⟨rfl, HE.out⟩
          · go_wp2_with fail
            go_ret2
            exact ⟨rfl, HE.out⟩
    · have kd' : Ck.okc p m k = false := by simpa using kd
      rw [show driV o n d p m k = 0 by simp [driV, kd'], show driE o n d p m k = 130 by simp [driE, kd']]
      have C1 := Lib.hid kc
      have C2 := Lib.hid kd'
      clear kc kd kd'
      unfold clk
      go_enter Tryd.func8, Tryd.ntmps8
      go_wp2_with fail
      refine (keep_in (check_ok _ _ _ _ C1.out) (by assumption)).mono ?_
      rintro e x1 ⟨rfl, hx1⟩
      obtain ⟨hcell1, hfrz1⟩ := bcell hx1
      go_wp2_with fail
      refine (keep_in (check_bad _ _ _ _ C2.out) (by assumption)).mono ?_
      rintro e x2 ⟨rfl, hx2⟩
      obtain ⟨hcell2, hfrz2⟩ := bcell hx2
      go_wp2_with fail
      go_ret2
      exact ⟨rfl, below_a2 hx2⟩
  · have kc' : Ck.okc o n d = false := by simpa using kc
    rw [show driV o n d p m k = 0 by simp [driV, kc'], show driE o n d p m k = 130 by simp [driE, kc']]
    have C1 := Lib.hid kc'
    clear kc kc'
    unfold clk
    go_enter Tryd.func8, Tryd.ntmps8
    go_wp2_with fail
    refine (keep_in (check_bad _ _ _ _ C1.out) (by assumption)).mono ?_
    rintro e x1 ⟨rfl, hx1⟩
    obtain ⟨hcell1, hfrz1⟩ := bcell hx1
    go_wp2_with fail
    go_ret2
    exact ⟨rfl, below_a2 hx1⟩
end Go.Proofs.YtiohemofidphjaaDoor

namespace Go.Proofs.YtiohemofidphjaaDoor
open Go Go.RowKit Bg

/-- how far apart two clocks are at a count; the error's number -/
def apV (o n d p m k c : Int) : Int := if Ck.timeE o n d c = 0 then (if Ck.timeE p m k c = 0 then Ck.timeV o n d c - Ck.timeV p m k c else 0) else 0
def apE (o n d p m k c : Int) : Int := if Ck.timeE o n d c = 0 then Ck.timeE p m k c else Ck.timeE o n d c
theorem timeV_in (o n d c : Int) : -1125899906842624 ≤ Ck.timeV o n d c ∧ Ck.timeV o n d c ≤ 1125899906842624 := by
  unfold Ck.timeV
  split
  · rename_i h
    exact Ck.inT_iff.1 (Ck.timeOk_iff.1 h).2.2
  · omega
theorem timeE_0 {o n d c : Int} (h : ¬ Ck.timeE o n d c = 0) : Ck.timeV o n d c = 0 := by
  unfold Ck.timeE at h
  unfold Ck.timeV
  split at h
  · split at h
    · exact absurd rfl h
    · rename_i h2; rw [if_neg h2]
  · rename_i h2
    rw [if_neg]
    intro h3
    exact h2 (Ck.timeOk_iff.1 h3).1

set_option maxRecDepth 8000 in
set_option maxHeartbeats 2000000 in
theorem apart_any (o n d p m k c : Int) (w : World) :
    Calls Tryd.prog 10 #[clk o n d, clk p m k, .int .i64 c] w fun e w' => e = .returned (.tuple #[.int .i64 (apV o n d p m k c), .int .i64 (apE o n d p m k c)]) ∧ Below w.heap.size w w' := by
  have h1 := fun W => time_any o n d c W
  have h2 := fun W => time_any p m k c W
  have b1 := timeV_in o n d c
  have b2 := timeV_in p m k c
  unfold apV apE
  obtain ⟨T1, hT1⟩ : ∃ x, Ck.timeV o n d c = x := ⟨_, rfl⟩
  obtain ⟨E1, hE1⟩ : ∃ x, Ck.timeE o n d c = x := ⟨_, rfl⟩
  obtain ⟨T2, hT2⟩ : ∃ x, Ck.timeV p m k c = x := ⟨_, rfl⟩
  obtain ⟨E2, hE2⟩ : ∃ x, Ck.timeE p m k c = x := ⟨_, rfl⟩
  rw [hT1, hE1] at h1
  rw [hT2, hE2] at h2
  rw [hT1] at b1
  rw [hT2] at b2
  rw [hT1, hE1, hT2, hE2]
  have H1 := Lib.hid h1
  have H2 := Lib.hid h2
  obtain ⟨b10, b11⟩ := b1
  obtain ⟨b20, b21⟩ := b2
  have W1 : IntKind.i64.wrap (T1 - T2) = T1 - T2 := IntWalk.i64_in _ (by omega)
  clear h1 h2 hT1 hE1 hT2 hE2
  unfold clk at *
  have h0 := Below.refl ((w.alloc (.cells #[.int .i64 o, .int .i64 n, .int .i64 d] 24)).alloc (.cells #[.int .i64 p, .int .i64 m, .int .i64 k] 24)).heap.size ((w.alloc (.cells #[.int .i64 o, .int .i64 n, .int .i64 d] 24)).alloc (.cells #[.int .i64 p, .int .i64 m, .int .i64 k] 24))
  by_cases c1 : E1 = 0
  · subst c1
    rw [if_pos rfl, if_pos rfl]
    by_cases c2 : E2 = 0
    · subst c2
      rw [if_pos rfl]
      go_enter Tryd.func10, Tryd.ntmps10
      go_wp2_with fail
      refine (keep_in (H1.out _) (by assumption)).mono ?_
      rintro e x1 ⟨rfl, hx1⟩
      obtain ⟨hcell1, hfrz1⟩ := bcell hx1
      go_wp2_with fail
      refine (keep_in (H2.out _) (by assumption)).mono ?_
      rintro e x2 ⟨rfl, hx2⟩
      obtain ⟨hcell2, hfrz2⟩ := bcell hx2
      go_wp2_with fail
      go_ret2
      exact ⟨rfl, below_a2 hx2⟩
    · rw [if_neg c2]
      go_enter Tryd.func10, Tryd.ntmps10
      go_wp2_with fail
      refine (keep_in (H1.out _) (by assumption)).mono ?_
      rintro e x1 ⟨rfl, hx1⟩
      obtain ⟨hcell1, hfrz1⟩ := bcell hx1
      go_wp2_with fail
      refine (keep_in (H2.out _) (by assumption)).mono ?_
      rintro e x2 ⟨rfl, hx2⟩
      obtain ⟨hcell2, hfrz2⟩ := bcell hx2
      go_wp2_with fail
      go_ret2
      exact ⟨rfl, below_a2 hx2⟩
  · rw [if_neg c1, if_neg c1]
    go_enter Tryd.func10, Tryd.ntmps10
    go_wp2_with fail
    refine (keep_in (H1.out _) (by assumption)).mono ?_
    rintro e x1 ⟨rfl, hx1⟩
    obtain ⟨hcell1, hfrz1⟩ := bcell hx1
    go_wp2_with fail
    go_ret2
    exact ⟨rfl, below_a2 hx1⟩

set_option maxRecDepth 8000 in
set_option maxHeartbeats 2000000 in
theorem rapart_any (o n d p m k c : Int) (w : World) :
    Calls Tryd.prog 11 #[clk o n d, clk p m k, .int .i64 c] w fun e w' => e = .returned (.tuple #[.int .i64 (apV o n d p m k c), .int .i64 (apE o n d p m k c)]) ∧ Below w.heap.size w w' := by
  have h1 := fun W => rtime_any o n d c W
  have h2 := fun W => rtime_any p m k c W
  have b1 := timeV_in o n d c
  have b2 := timeV_in p m k c
  unfold apV apE
  obtain ⟨T1, hT1⟩ : ∃ x, Ck.timeV o n d c = x := ⟨_, rfl⟩
  obtain ⟨E1, hE1⟩ : ∃ x, Ck.timeE o n d c = x := ⟨_, rfl⟩
  obtain ⟨T2, hT2⟩ : ∃ x, Ck.timeV p m k c = x := ⟨_, rfl⟩
  obtain ⟨E2, hE2⟩ : ∃ x, Ck.timeE p m k c = x := ⟨_, rfl⟩
  rw [hT1, hE1] at h1
  rw [hT2, hE2] at h2
  rw [hT1] at b1
  rw [hT2] at b2
  rw [hT1, hE1, hT2, hE2]
  have H1 := Lib.hid h1
  have H2 := Lib.hid h2
  obtain ⟨b10, b11⟩ := b1
  obtain ⟨b20, b21⟩ := b2
  have W1 : IntKind.i64.wrap (T1 - T2) = T1 - T2 := IntWalk.i64_in _ (by omega)
  clear h1 h2 hT1 hE1 hT2 hE2
  unfold clk at *
  have h0 := Below.refl ((w.alloc (.cells #[.int .i64 o, .int .i64 n, .int .i64 d] 24)).alloc (.cells #[.int .i64 p, .int .i64 m, .int .i64 k] 24)).heap.size ((w.alloc (.cells #[.int .i64 o, .int .i64 n, .int .i64 d] 24)).alloc (.cells #[.int .i64 p, .int .i64 m, .int .i64 k] 24))
  by_cases c1 : E1 = 0
  · subst c1
    rw [if_pos rfl, if_pos rfl]
    by_cases c2 : E2 = 0
    · subst c2
      rw [if_pos rfl]
      go_enter Tryd.func11, Tryd.ntmps11
      go_wp2_with fail
      refine (keep_in (H1.out _) (by assumption)).mono ?_
      rintro e x1 ⟨rfl, hx1⟩
      obtain ⟨hcell1, hfrz1⟩ := bcell hx1
      go_wp2_with fail
      refine (keep_in (H2.out _) (by assumption)).mono ?_
      rintro e x2 ⟨rfl, hx2⟩
      obtain ⟨hcell2, hfrz2⟩ := bcell hx2
      go_wp2_with fail
      go_ret2
      exact ⟨rfl, below_a2 hx2⟩
    · rw [if_neg c2]
      go_enter Tryd.func11, Tryd.ntmps11
      go_wp2_with fail
      refine (keep_in (H1.out _) (by assumption)).mono ?_
      rintro e x1 ⟨rfl, hx1⟩
      obtain ⟨hcell1, hfrz1⟩ := bcell hx1
      go_wp2_with fail
      refine (keep_in (H2.out _) (by assumption)).mono ?_
      rintro e x2 ⟨rfl, hx2⟩
      obtain ⟨hcell2, hfrz2⟩ := bcell hx2
      go_wp2_with fail
      go_ret2
      exact ⟨rfl, below_a2 hx2⟩
  · rw [if_neg c1, if_neg c1]
    go_enter Tryd.func11, Tryd.ntmps11
    go_wp2_with fail
    refine (keep_in (H1.out _) (by assumption)).mono ?_
    rintro e x1 ⟨rfl, hx1⟩
    obtain ⟨hcell1, hfrz1⟩ := bcell hx1
    go_wp2_with fail
    go_ret2
    exact ⟨rfl, below_a2 hx1⟩
end Go.Proofs.YtiohemofidphjaaDoor
