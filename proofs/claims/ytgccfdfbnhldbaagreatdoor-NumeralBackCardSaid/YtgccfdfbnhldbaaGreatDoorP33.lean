/- HD10 HD12 HD13 HB11 HF0 in one text. -/
import Derived.Test.YtgccfdfbnhldbaaGreatDoorP32
import Derived.Test.YtgccfdfbnhldbaaGreatDoorP31
import Derived.Test.YtgccfdfbnhldbaaGreatDoorP30
import Derived.Test.YtgccfdfbnhldbaaGreatDoorP29
import Derived.Test.YtgccfdfbnhldbaaGreatDoorP27
import Derived.Test.YtgccfdfbnhldbaaGreatDoorP13

namespace Go.Proofs.YtgccfdfbnhldbaaGreatDoor.Nb
open Go Go.RowKit Nx

theorem wideB_mod {f : Nat} (_ : f < 4294967296) (h : f % 2147483648 < 2139095040) : wideB f < 18446744073709551616 ∧ wideB f % 9223372036854775808 = wideN (f % 2147483648) := by
  have := wide_lt h
  unfold wideB
  split <;> omega
theorem spec_wide {f : Nat} (hf : f < 4294967296) (h : f % 2147483648 < 2139095040) : specL (wideB f) = [] := by
  have h1 := wideB_mod hf h
  have := wide_lt h
  exact (spec_fin h1.1).2 (by omega)
theorem sgL_wide {f : Nat} (h : f % 2147483648 < 2139095040) : sgL (wideB f) = if 2147483648 ≤ f then [45] else [] := by
  have := wide_lt h
  unfold sgL wideB
  by_cases c : 2147483648 ≤ f
  · rw [if_pos c, if_pos c, if_pos (by omega)]
  · rw [if_neg c, if_neg c, if_neg (by omega)]
set_option maxRecDepth 8000 in
set_option maxHeartbeats 1000000 in
theorem Short32_fin (f X : Nat) (w : World) (hf : f < 4294967296) (hfX : f % 2147483648 = X) (hX : X < 2139095040) (h0 : 0 < X) (hT : Tab64 w) (hP : TabP w) : Calls Tryz.prog 12 #[.float .f32 f] w fun e w' => ∃ (p q n d : Nat) (E : Int) (d0 : UInt8) (ds : List UInt8), ShortSays32 X p q E n d d0 ds ∧ e = .returned (.string ⟨(sgL (wideB f) ++ shortT d0 ds (E + (ds.length + 1 : Nat) - n)).toArray⟩) ∧ Below w.heap.size w w' := by
  obtain ⟨t, ht⟩ := finN32 (f := f) hf (by omega) (by omega)
  obtain ⟨tX, htX⟩ := finN32 (f := X) (by omega) (by omega) (by omega)
  have hoM : oddM32 f = oddM32 X := by unfold oddM32 bigM32; rw [show f / 8388608 % 256 = X / 8388608 % 256 by omega, show f % 8388608 = X % 8388608 by omega]
  have hoX : oddX32 f = oddX32 X := by unfold oddX32 bigX32 bigM32; rw [show f / 8388608 % 256 = X / 8388608 % 256 by omega, show f % 8388608 = X % 8388608 by omega]
  have hF := wideB_mod (f := f) hf (by omega)
  have hcvB := wide_fin hf (by omega)
  have hcv : Hid (floatToFloatBits .f32 f .f64 = some (wideB f)) := Lib.hid hcvB
  have hc0 : ∀ W, (convert 27 25 (.float .f32 f)).run Tryz.prog W = .ok (.float .f64 (wideB f)) W := fun W => conv_up W hcv.out
  clear hcvB
  have hsp : specL (wideB f) = [] := spec_wide hf (by omega)
  obtain ⟨sg, hsg⟩ : ∃ sg, sgL (wideB f) = sg := ⟨_, rfl⟩
  have hsgl : sg.length ≤ 1 := by rw [← hsg]; unfold sgL; split <;> simp
  obtain ⟨ng, hneg⟩ : ∃ ng, decide (2147483648 ≤ f) = ng := ⟨_, rfl⟩
  have HS := Lib.hid (fun W => special_any (wideB f) W hF.1)
  rw [hsp, show decide (([] : List UInt8) ≠ []) = false by simp] at HS
  have HBg := Lib.hid (fun W => begun_any (wideB f) W hF.1)
  rw [hsg] at HBg ⊢
  have HPt := Lib.hid (fun W (hW : Tab64 W) => Parts32_any f t W hW ht)
  rw [hneg, hoM, hoX] at HPt
  obtain ⟨m, hm⟩ : ∃ m, oddM32 X = m := ⟨_, rfl⟩
  obtain ⟨Z, hZ⟩ : ∃ Z, oddX32 X = Z := ⟨_, rfl⟩
  have hmu : m < 18446744073709551616 := by have := htX.up; omega
  have hm0 : m ≠ 0 := by have := htX.od; omega
  have hZu : -10000 ≤ Z ∧ Z ≤ 10000 := by have := htX.x0; have := htX.x1; omega
  rw [hm, hZ] at HPt
  have hab := fun W => Sh.abs_any (wideB f) W hF.1
  rw [hF.2, hfX] at hab
  have HAb : Hid (∀ W, Calls Tryz.prog 40 #[.float .f64 (wideB f)] W fun e w' => e = .returned (.float .f64 (wideN X)) ∧ w' = W) := Lib.hid hab
  clear hab
  have HTT := Lib.hid htX
  have hmf : ∀ (fn : Fn) (first cap : Array Value) (w : World), (Instr.makeFunc fn first cap).run Tryz.prog w = .ok (.func fn first cap) w := fun _ _ _ _ => rfl
  have hA := (Below.refl w.heap.size w).alloc (Nat.le_refl _) (.cells #[.float .f32 f] 27)
  have hc : (w.alloc (.cells #[.float .f32 f] 27)).cell? ⟨w.heap.size, 0, none⟩ = some (.float .f32 f) := by simp [go_sem]
  obtain ⟨W, hW⟩ : ∃ W, w.alloc (.cells #[.float .f32 f] 27) = W := ⟨_, rfl⟩
  have hws : w.heap.size < W.heap.size := by rw [← hW]; simp
  rw [hW] at hA hc
  have HA := Lib.hid hA
  have HT := Lib.hid (And.intro hT hP)
  clear hA hT hP hsp hsg hneg ht htX hoM hoX hfX hf hF
  go_enter Tryz.func12, Tryz.ntmps12
  go_wp2_with fail
  refine (HS.out W).mono ?_
  rintro e w1 ⟨rfl, hw⟩
  obtain rfl := hw.symm
  go_wp2_with fail
  refine (HBg.out W).mono ?_
  rintro e w1 ⟨rfl, d1, b1⟩
  have c1 := (b1.cell (p := ⟨w.heap.size, 0, none⟩) (by exact hws)).trans hc
  have H1 := Lib.hid (And.intro d1 b1)
  clear d1 b1 hc
  go_wp2_with fail
  refine (HPt.out w1 (HT.out.1.below (back_of' HA.out H1.out.2))).mono ?_
  rintro e w2 ⟨rfl, b2⟩
  have hk := b2.trans (((Below.refl w2.heap.size w2).alloc (Nat.le_refl _) (.cells #[.bool ng, .int .u64 (m : Int), .int .i64 Z] 60)).mono b2.size)
  have c2 := (hk.cell (p := ⟨w.heap.size, 0, none⟩) (by exact Nat.lt_of_lt_of_le hws H1.out.2.size)).trans c1
  have H2 := Lib.hid (And.intro (H1.out.1.below hk) (back_of' H1.out.2 hk))
  clear b2 hk c1 H1
  have HAm := Lib.hid (fun V => amount_any ng m Z _ _ 10100 V hmu hZu rfl rfl (by omega) (by omega))
  go_wp2_with fail
  refine (HAm.out _).mono ?_
  rintro e w3 ⟨z, p, q, rfl, r3, hv3, b3⟩
  have c3 := (b3.cell (p := ⟨w.heap.size, 0, none⟩) (by exact Nat.lt_of_lt_of_le hws H2.out.2.size)).trans c2
  have H3 := Lib.hid (And.intro (H2.out.1.below b3) (And.intro (back_of' H2.out.2 b3) r3))
  have hq0 : 0 < q := r3.2.2
  have hval : p * 2 ^ 149 = amt32 X * q := parts_val32 hX HTT.out (by rw [hZ]) (by rw [hZ]) (by rw [hm]; exact hv3)
  have hin := val_in32 hX h0 hq0 hval
  have HFe := Lib.hid (fewest32_any z w.heap.size f (wideB f) p q 10100 X w3 H3.out.2.2 c3 (Nat.lt_of_lt_of_le hws H3.out.2.1.size) hcv.out HAb h0 hX hin.1 hin.2.1 hin.2.2 hval (by omega) (by omega))
  have HV := Lib.hid (And.intro hq0 hval)
  clear c3 c2 r3 hv3 b3 H2 HAm hval hin
  go_wp2_with fail
  refine HFe.out.mono ?_
  rintro e w4 ⟨E, n, d, hf, rfl, b4⟩
  obtain ⟨hd1, hd2, d0, ds, hdig, hdl, hd17⟩ := few_digits32 HV.out.1 hf
  have HF := Lib.hid (show ShortSays32 X p q E n d d0 ds from ⟨HV.out.1, HV.out.2, hf, hdig⟩)
  have H4 := Lib.hid (And.intro (H3.out.1.below b4) (back_of' H3.out.2.1 b4))
  have hE := few_exp32 hf HV.out.1 hX h0 HV.out.2
  have hn := hf.n0
  rw [hdig, hdl]
  clear b4 H3 HFe hf
  go_wp2_with fail
  refine (short_any W.heap.size W.heap.size sg d0 ds _ w4 H4.out.1 (by omega) (by omega) (by omega) H4.out.2.size (HT.out.2.below (back_of' HA.out H4.out.2) HT.out.2.2) (Nat.lt_trans HT.out.2.2 hws)).mono ?_
  rintro e w5 ⟨rfl, b5⟩
  have HB := Lib.hid (back_of' HA.out (H4.out.2.trans b5))
  clear b5
  go_wp2_with fail
  go_ret
  exact ⟨p, q, n, d, E, d0, ds, HF.out, rfl, HB.out⟩

theorem Short32_zero (f : Nat) (w : World) (hf : f < 4294967296) (h0 : f % 2147483648 = 0) (hT : Tab64 w) : Calls Tryz.prog 12 #[.float .f32 f] w fun e w' => e = .returned (.string ⟨(sgL (wideB f) ++ [48]).toArray⟩) ∧ Below w.heap.size w w' := by
  have hF := wideB_mod (f := f) hf (by omega)
  have hcvB := wide_fin hf (by omega)
  have hcv : Hid (floatToFloatBits .f32 f .f64 = some (wideB f)) := Lib.hid hcvB
  have hc0 : ∀ W, (convert 27 25 (.float .f32 f)).run Tryz.prog W = .ok (.float .f64 (wideB f)) W := fun W => conv_up W hcv.out
  clear hcvB
  have hsp : specL (wideB f) = [] := spec_wide hf (by omega)
  obtain ⟨sg, hsg⟩ : ∃ sg, sgL (wideB f) = sg := ⟨_, rfl⟩
  have hsgl : sg.length ≤ 1 := by rw [← hsg]; unfold sgL; split <;> simp
  have HS := Lib.hid (fun W => special_any (wideB f) W hF.1)
  rw [hsp, show decide (([] : List UInt8) ≠ []) = false by simp] at HS
  have HBg := Lib.hid (fun W => begun_any (wideB f) W hF.1)
  rw [hsg] at HBg ⊢
  have HPt := Lib.hid (fun W (hW : Tab64 W) => Parts32_zero f W hW hf h0)
  have HT := Lib.hid hT
  have hA := (Below.refl w.heap.size w).alloc (Nat.le_refl _) (.cells #[.float .f32 f] 27)
  have hc : (w.alloc (.cells #[.float .f32 f] 27)).cell? ⟨w.heap.size, 0, none⟩ = some (.float .f32 f) := by simp [go_sem]
  obtain ⟨W, hW⟩ : ∃ W, w.alloc (.cells #[.float .f32 f] 27) = W := ⟨_, rfl⟩
  have hws : w.heap.size < W.heap.size := by rw [← hW]; simp
  rw [hW] at hA hc
  have HA := Lib.hid hA
  clear hA hT hsp hsg h0 hf hF
  go_enter Tryz.func12, Tryz.ntmps12
  go_wp2_with fail
  refine (HS.out W).mono ?_
  rintro e w1 ⟨rfl, hw⟩
  obtain rfl := hw.symm
  go_wp2_with fail
  refine (HBg.out W).mono ?_
  rintro e w1 ⟨rfl, d1, b1⟩
  have c1 := (b1.cell (p := ⟨w.heap.size, 0, none⟩) (by exact hws)).trans hc
  have H1 := Lib.hid (And.intro d1 b1)
  clear d1 b1 hc
  go_wp2_with fail
  refine (HPt.out w1 (HT.out.below (back_of' HA.out H1.out.2))).mono ?_
  rintro e w2 ⟨rfl, b2⟩
  generalize decide (2147483648 ≤ f) = ng at *
  have hk := b2.trans (((Below.refl w2.heap.size w2).alloc (Nat.le_refl _) (.cells #[.bool ng, .int .u64 0, .int .i64 0] 60)).mono b2.size)
  have H2 := Lib.hid (And.intro (H1.out.1.below hk) (back_of' H1.out.2 hk))
  clear b2 hk c1 H1 HPt
  go_wp2_with fail
  refine (wbyte W.heap.size W.heap.size sg 48 _ H2.out.1 (by omega) H2.out.2.size 48 rfl).mono ?_
  rintro e w3 ⟨rfl, d3, b3⟩
  have hsz := H2.out.2.size
  have H3 := Lib.hid (And.intro d3 (H2.out.2.trans b3))
  clear d3 b3 H2 hsz
  go_wp2_with fail
  refine (bstring W.heap.size W.heap.size _ w3 H3.out.1 H3.out.2.size).mono ?_
  rintro e w4 ⟨rfl, b4⟩
  have HB := Lib.hid (back_of' HA.out (H3.out.2.trans b4))
  clear b4
  go_wp2_with fail
  go_ret
  exact ⟨rfl, HB.out⟩

set_option maxRecDepth 8000 in
/-- Short32 of what is not finite -/
theorem Short32_spec (f : Nat) (l : List UInt8) (w : World) (F : World → Nat) (hF : ∀ W, F W < 18446744073709551616 ∧ specL (F W) = l) (h : l ≠ []) (D : World → World) (hcv : ∀ W, (convert 27 25 (.float .f32 f)).run Tryz.prog W = .ok (.float .f64 (F W)) (D W)) (hD : ∀ W, Below W.heap.size W (D W)) : Calls Tryz.prog 12 #[.float .f32 f] w fun e w' => e = .returned (.string ⟨l.toArray⟩) ∧ Below w.heap.size w w' := by
  have HS : Hid (∀ V W, Calls Tryz.prog 25 #[.float .f64 (F V)] W fun e w' => e = .returned (.tuple #[.string ⟨l.toArray⟩, .bool true]) ∧ w' = W) := Lib.hid (fun V W => by
    have := special_any (F V) W (hF V).1
    rw [(hF V).2, decide_eq_true h] at this
    exact this)
  obtain ⟨S, hS⟩ : ∃ S : ByteArray, (⟨l.toArray⟩ : ByteArray) = S := ⟨_, rfl⟩
  rw [hS] at HS ⊢
  have hA := Lib.hid (((Below.refl w.heap.size w).alloc (Nat.le_refl _) (.cells #[.float .f32 f] 27)))
  have HD := Lib.hid hD
  have hc : (w.alloc (.cells #[.float .f32 f] 27)).cell? ⟨w.heap.size, 0, none⟩ = some (.float .f32 f) := by simp [go_sem]
  clear h hS hF hD
  go_enter Tryz.func12, Tryz.ntmps12
  go_wp2_with fail
  refine (HS.out _ _).mono ?_
  rintro e w1 ⟨rfl, hw⟩
  obtain rfl := hw.symm
  go_wp2_with fail
  go_ret
  exact ⟨rfl, back_of' hA.out (HD.out _)⟩
end Go.Proofs.YtgccfdfbnhldbaaGreatDoor.Nb

namespace Go.Proofs.YtgccfdfbnhldbaaGreatDoor.Nb
open Go Go.RowKit Nx

theorem neg_flip32 {f : Nat} (hf : f < 4294967296) : Op.negFloat .f32 f = (f + 2147483648) % 4294967296 := by
  show f ^^^ 2 ^ (8 + 23) = _
  apply Nat.eq_of_testBit_eq
  intro i
  have e : (f + 2147483648) % 4294967296 = (f / 2147483648 + 1) % 2 * 2 ^ 31 + f % 2 ^ 31 := by
    rw [show (2 : Nat) ^ 31 = 2147483648 by decide]
    omega
  rw [e, Nat.testBit_xor, Nat.testBit_two_pow]
  have hl : f % 2 ^ 31 < 2 ^ 31 := Nat.mod_lt _ (Nat.pow_pos (by omega))
  rw [Nat.mul_comm, Nat.testBit_two_pow_mul_add _ hl]
  by_cases h : i < 31
  · rw [if_pos h, Nat.testBit_mod_two_pow]
    have : ¬ 8 + 23 = i := by omega
    simp [h, this]
  · rw [if_neg h]
    by_cases h2 : i = 31
    · subst h2
      have h3 : f < 2 ^ 32 := hf
      simp only [Nat.testBit_eq_decide_div_mod_eq, show 8 + 23 = 31 by omega, Nat.sub_self, Nat.pow_zero, Nat.div_one, show (2 : Nat) ^ 31 = 2147483648 by decide, decide_true, Bool.xor_true]
      have : f / 2147483648 % 2 = 0 ∨ f / 2147483648 % 2 = 1 := by omega
      rcases this with q | q
      · have : (f / 2147483648 + 1) % 2 % 2 = 1 := by omega
        rw [q, this]; rfl
      · have : (f / 2147483648 + 1) % 2 % 2 = 0 := by omega
        rw [q, this]; rfl
    · have h3 : f.testBit i = false := Nat.testBit_lt_two_pow (Nat.lt_of_lt_of_le hf (by rw [show (4294967296 : Nat) = 2 ^ 32 by decide]; exact Nat.pow_le_pow_right (by omega) (by omega)))
      have h4 : ((f / 2147483648 + 1) % 2).testBit (i - 31) = false := by
        apply Nat.testBit_lt_two_pow
        have := Nat.one_lt_two_pow (n := i - 31) (by omega)
        omega
      have h5 : ¬ 8 + 23 = i := by omega
      rw [h3, h4]
      simp [h5]


theorem fin_inf32 {X : Nat} : (finS X = 2139095040 ↔ 2139095040 ≤ X) ∧ finS X ≤ 2139095040 := by
  unfold finS
  split <;> constructor <;> first | constructor <;> omega | omega
theorem wide_inf {X : Nat} : (wideF X = 9218868437227405312 ↔ 2139095040 ≤ X) ∧ wideF X ≤ 9218868437227405312 := by
  unfold wideF
  split
  · rename_i h
    have := wide_lt h
    constructor
    · constructor <;> omega
    · omega
  · constructor
    · constructor <;> omega
    · omega
theorem conv_down {a b : Nat} (W : World) (h : floatToFloatBits .f64 a .f32 = some b) : (convert 25 27 (.float .f64 a)).run Tryz.prog W = .ok (.float .f32 b) W :=
  run_convert_float_float W 25 27 .f64 .f32 a b (by kernel_rfl) (by kernel_rfl) h
set_option maxRecDepth 8000 in
theorem mcanon32_any (f : Nat) (w : World) (hf : f < 4294967296) : Calls Tryz.prog 49 #[.float .f32 f] w fun e w' => e = .returned (.float .f32 (cn32 f)) ∧ Below w.heap.size w w' := by
  have hb := run_bits32 f
  obtain ⟨c, hc⟩ : ∃ c, cn32 f = c := ⟨_, rfl⟩
  have HC := Lib.hid (fun W => canon_sgl f W hf)
  rw [canon_eq32 hf, hc] at HC
  have hr := run_frombits32 (c : Int)
  have HF := Lib.hid (fun W => of_sgl W)
  rw [hc]
  clear hc
  go_enter Tryz.func49, Tryz.ntmps49
  go_wp2_with fail
  refine (HF.out _).mono ?_
  rintro e w1 ⟨rfl, b1⟩
  have H1 := Lib.hid b1
  clear b1
  go_wp2_with fail
  refine (HC.out _).mono ?_
  rintro e w2 ⟨rfl, b2⟩
  have H2 := Lib.hid (back_of' H1.out b2)
  clear b2 H1
  go_wp2_with fail
  go_ret
  exact ⟨rfl, H2.out⟩
set_option maxRecDepth 8000 in
/-- Parse32 of a special text -/
theorem parse32_spec (f r : Nat) (s : ByteArray) (w : World) (hs : s.data.toList = specL f) (h : specL f ≠ []) (c : World → Nat) (D : World → World) (hcv : ∀ W, (convert 25 27 (.float .f64 (cnN f))).run Tryz.prog W = .ok (.float .f32 (c W)) (D W)) (hD : ∀ W, Below W.heap.size W (D W)) (hc : ∀ W, c W < 4294967296 ∧ cn32 (c W) = r) : Calls Tryz.prog 11 #[.string s] w fun e w' => e = .returned (.tuple #[.float .f32 r, .int .i64 0]) ∧ Below w.heap.size w w' := by
  have hz : (s.size : Int) ≤ 2000 := by
    have h1 : s.size = (specL f).length := by rw [← size_list, hs]
    have h2 : (specL f).length ≤ 4 := by unfold specL; (repeat' split) <;> simp
    omega
  have HU := Lib.hid (unspecial_spec f s w hs h)
  have HC := Lib.hid (fun W W' => mcanon32_any (c W) W' (hc W).1)
  have HR := Lib.hid (fun W => (hc W).2)
  have HD := Lib.hid hD
  obtain ⟨k, hk⟩ : ∃ k, cnN f = k := ⟨_, rfl⟩
  rw [hk] at HU hcv
  clear hs h hk hc hD
  go_enter Tryz.func11, Tryz.ntmps11
  go_wp2_with fail
  refine HU.out.mono ?_
  rintro e w1 ⟨rfl, b1⟩
  have H1 := Lib.hid b1
  clear b1
  go_wp2_with fail
  refine (HC.out w1 _).mono ?_
  rintro e w2 ⟨rfl, b2⟩
  have H2 := Lib.hid (back_of' (back_of' H1.out (HD.out w1)) b2)
  have hr := HR.out w1
  rw [hr]
  clear b2
  go_wp2_with fail
  go_ret2
  exact ⟨rfl, H2.out⟩

set_option maxRecDepth 8000 in
set_option maxHeartbeats 2000000 in
theorem parse32_any (s : ByteArray) (t : DTxt) (w : World) (hs : s.data.toList = t.list) (hok : t.Ok) (hl : s.size ≤ 2000) :
    Calls Tryz.prog 11 #[.string s] w fun e w' => ∃ (f : Nat) (c : Int), e = .returned (.tuple #[.float .f32 f, .int .i64 c]) ∧ t.Says32 f c ∧ Below w.heap.size w w' := by
  obtain ⟨u1, u2, u3⟩ := text_plain hs hok
  have HS := Lib.hid (fun W => unspecial_no s W u1 u2 u3)
  have HU := Lib.hid (fun W => undecimal_any s t W hs hok (by omega))
  have hxr := expZ_range t.ex hok.g3
  have hlen : t.digs.length ≤ 2000 := by
    have h1 : s.size = t.list.length := by rw [← size_list, hs]
    have h2 : t.digs.length ≤ t.list.length := by
      unfold DTxt.digs DTxt.list fracT
      cases t.d2 <;> simp <;> omega
    omega
  have hd2 : (t.d2.getD []).length ≤ t.digs.length := by unfold DTxt.digs; simp
  have hE : -1002000 ≤ t.exp ∧ t.exp ≤ 1000000 := by unfold DTxt.exp; omega
  have hkey := trim_len t.digs
  obtain ⟨Z, hZ⟩ : ∃ Z : ByteArray, (⟨(Lib.trimLeftB t.digs 48).toArray⟩ : ByteArray) = Z := ⟨_, rfl⟩
  have hZl : Z.data.toList = t.key := by rw [← hZ]; rfl
  have hZs : Z.size = t.key.length := by rw [← size_list, hZl]
  have hZd : ∀ b ∈ Z.data.toList, 48 ≤ b.toNat ∧ b.toNat ≤ 57 := by
    have hd : IsDig t.digs := hok.g1.append (by
      cases h2 : t.d2 with
      | none => simp [IsDig]
      | some l => exact (hok.g2 l h2).1)
    rw [hZl]; exact hd.trim
  have hZD : decN Z.data.toList = decN t.digs := by rw [hZl]; exact decN_trim _
  rw [hZ] at HU
  have hk2 : Z.size ≤ 2000 := by rw [hZs]; unfold DTxt.key; omega
  have HV : Hid (∀ W, Calls Tryz.prog 34 #[.agg #[.bool t.neg, .string Z, .int .i64 t.exp]] W fun e W' => ((t.high ∧ e = .returned (.tuple #[.pointer none, .bool false])) ∨ (¬ t.high ∧ ∃ z, e = .returned (.tuple #[.pointer (some ⟨z, 0, none⟩), .bool true]) ∧ Calls Tryz.prog 50 #[.pointer (some ⟨z, 0, none⟩)] W' fun e' W2 => ∃ (X : Nat) (ex : Bool), e' = .returned (.tuple #[.float .f32 (finS X), .bool ex]) ∧ t.Amt32 X ∧ Below W'.heap.size W' W2)) ∧ Below W.heap.size W W') := Lib.hid (fun W => by
    by_cases hlo : t.low
    · refine (value_none t.neg Z t.exp W (by omega) (by omega) (by rw [hZs]; exact hlo)).mono ?_
      rintro e W' ⟨z, rfl, hr, hb⟩
      refine ⟨.inr ⟨fun h => h.1 hlo, z, rfl, (float32_nil z W' hr).mono ?_⟩, hb⟩
      rintro e' W2 ⟨rfl, hb2⟩
      exact ⟨0, true, rfl, .inl ⟨hlo, rfl⟩, hb2⟩
    · have h0 : 0 < Z.size := by
        rw [hZs]
        rcases Nat.eq_zero_or_pos t.key.length with q | q
        · exact absurd (.inl q) hlo
        · exact q
      by_cases hhi : 400 < t.exp + (t.key.length : Int) - 1
      · refine (value_over t.neg Z t.exp W h0 (by omega) (by omega) (by rw [hZs]; exact hhi)).mono ?_
        rintro e W' ⟨rfl, hb⟩
        exact ⟨.inl ⟨⟨hlo, hhi⟩, rfl⟩, hb⟩
      · have hnh : ¬ t.high := fun h => hhi h.2
        have h1 : -400 ≤ t.exp + (t.key.length : Int) - 1 := by
          by_cases h : t.exp + (t.key.length : Int) - 1 < -400
          · exact absurd (.inr h) hlo
          · omega
        refine (value_mid t.neg Z t.exp _ _ 10000 W hZd h0 (by omega) (by rw [hZs]; exact h1) (by rw [hZs]; omega) rfl rfl (by omega) (by omega)).mono ?_
        rintro e W' ⟨z, p, q, rfl, hr, he, hb⟩
        have hq0 : 0 < q := hr.2.2
        refine ⟨.inr ⟨hnh, z, rfl, (float32_any z p q 10000 W' hr (by omega) (by omega)).mono ?_⟩, hb⟩
        rintro e' W2 ⟨X, ex, rfl, hX, hb2⟩
        rw [hZD] at he
        exact ⟨X, ex, rfl, .inr ⟨hlo, hnh, p, q, hq0, he, hX⟩, hb2⟩)
  have hs2 : (s.size : Int) ≤ 2000 := by omega
  obtain ⟨E, hEe⟩ : ∃ E, t.exp = E := ⟨_, rfl⟩
  obtain ⟨neg, hneg⟩ : ∃ n, t.neg = n := ⟨_, rfl⟩
  have HN := Lib.hid hneg
  rw [hEe, hneg] at HU HV
  clear hxr hlen hd2 hE hkey hZ hZl hZs hZd hZD hk2 hEe hneg u1 u2 u3 hs hok
  go_enter Tryz.func11, Tryz.ntmps11
  go_wp2_with fail
  refine (HS.out w).mono ?_
  rintro e w1 ⟨rfl, hw⟩
  obtain rfl := hw.symm
  go_wp2_with fail
  refine (HU.out w).mono ?_
  rintro e w1 ⟨rfl, b1⟩
  have hb1 := b1.alloc b1.size (.cells #[.bool neg, .string Z, .int .i64 E] 73)
  have c1 : (w1.alloc (.cells #[.bool neg, .string Z, .int .i64 E] 73)).cell? ⟨w1.heap.size, 0, none⟩ = some (.bool neg) := by simp [go_sem]
  have hl1 : w1.heap.size < (w1.alloc (.cells #[.bool neg, .string Z, .int .i64 E] 73)).heap.size := by simp
  have HB1 := Lib.hid (And.intro hb1 (And.intro c1 hl1))
  clear b1 hb1 c1 hl1
  go_wp2_with fail
  refine (HV.out _).mono ?_
  rintro e w2 ⟨hh, b2⟩
  have HB2 := Lib.hid (And.intro (back_of' HB1.out.1 b2) (And.intro ((b2.cell (p := ⟨w1.heap.size, 0, none⟩) HB1.out.2.2).trans HB1.out.2.1) (Nat.lt_of_lt_of_le HB1.out.2.2 b2.size)))
  clear b2
  rcases hh with ⟨hhi, rfl⟩ | ⟨hnh, z, rfl, hc⟩
  · have HF : Hid (t.Says32 0 5) := Lib.hid (.inl ⟨rfl, rfl, .inl hhi⟩)
    clear hhi
    go_wp2_with fail
    go_ret2
    exact ⟨0, 5, rfl, HF.out, HB2.out.1⟩
  · have HC := Lib.hid hc
    clear hc hnh
    go_wp2_with fail
    refine HC.out.mono ?_
    rintro e w3 ⟨X, ex, rfl, ha, b3⟩
    have HB3 := Lib.hid (back_of' HB2.out.1 b3)
    have c3 := (b3.cell (p := ⟨w1.heap.size, 0, none⟩) HB2.out.2.2).trans HB2.out.2.1
    have HA := Lib.hid ha
    obtain ⟨F, hF⟩ : ∃ F, finS X = F := ⟨_, rfl⟩
    have hF1 := fin_inf32 (X := X)
    rw [hF] at hF1 ⊢
    obtain ⟨G, hG⟩ : ∃ G, wideF X = G := ⟨_, rfl⟩
    have hG1 := wide_inf (X := X)
    rw [hG] at hG1
    have hcv : ∀ W, (convert 27 25 (.float .f32 F)).run Tryz.prog W = .ok (.float .f64 G) W := fun W => by
      rw [← hF, ← hG]
      exact conv_up W (wide_fins X)
    have HI := Lib.hid (fun W => inf_any G W hG1.2)
    clear b3 ha
    by_cases hov : 2139095040 ≤ X
    · have hd : decide (G = 9218868437227405312) = true := by simpa using hG1.1.2 hov
      rw [hd] at HI
      have HF : Hid (t.Says32 0 5) := Lib.hid (.inl ⟨rfl, rfl, .inr ⟨X, HA.out, hov⟩⟩)
      clear hov hd hF hF1 hG hG1
      go_wp2_with fail
      refine (HI.out _).mono ?_
      rintro e w4 ⟨rfl, hw⟩
      obtain rfl := hw.symm
      go_wp2_with fail
      go_ret2
      exact ⟨0, 5, rfl, HF.out, HB3.out⟩
    · have hd : decide (G = 9218868437227405312) = false := by
        apply decide_eq_false
        intro h
        exact hov (hG1.1.1 h)
      rw [hd] at HI
      have hFX : F = X := by rw [← hF]; unfold finS; rw [if_pos (by omega)]
      cases neg
      · have HF : Hid (t.Says32 F 0) := Lib.hid (.inr ⟨rfl, X, HA.out, by omega, by rw [HN.out, hFX]; rfl⟩)
        clear hov hd hF hF1 hFX hG hG1
        go_wp2_with fail
        refine (HI.out _).mono ?_
        rintro e w4 ⟨rfl, hw⟩
        obtain rfl := hw.symm
        go_wp2_with fail
        go_ret2
        exact ⟨F, 0, rfl, HF.out, HB3.out⟩
      · obtain ⟨F2, hF2⟩ : ∃ F2, F + 2147483648 = F2 := ⟨_, rfl⟩
        have hneg : ∀ W, (Op.unary .neg (.float .f32 F)).run Tryz.prog W = .ok (.float .f32 F2) W := fun W => by
          have h := neg_flip32 (f := F) (by omega)
          rw [Nat.mod_eq_of_lt (by omega), hF2] at h
          rw [← h]
          rfl
        have HF : Hid (t.Says32 F2 0) := Lib.hid (.inr ⟨rfl, X, HA.out, by omega, by rw [HN.out, ← hF2, hFX]; rfl⟩)
        clear hov hd hF hF1 hFX hF2 hG hG1
        go_wp2_with fail
        refine (HI.out _).mono ?_
        rintro e w4 ⟨rfl, hw⟩
        obtain rfl := hw.symm
        go_wp2_with fail
        go_ret2
        exact ⟨F2, 0, rfl, HF.out, HB3.out⟩
end Go.Proofs.YtgccfdfbnhldbaaGreatDoor.Nb

namespace Go.Proofs.YtgccfdfbnhldbaaGreatDoor.Nb
open Go Go.RowKit Nx

theorem conv_nan {s k : FloatKind} {src dst : TypeId} {b : Nat} {sg : Bool} {fr : Nat} (hs : (Tryz.prog.underlying src).isSome = true) (hd : Tryz.prog.underlying dst = some (.float k)) (ne : s ≠ k) (h : s.decode b = .nan sg fr) (W : World) :
    (convert src dst (.float s b)).run Tryz.prog W = .ok (.float k ((Question.nanConv k b).cut (W.tape W.drawn (.nanConv k b)))) W.drew := by
  obtain ⟨u, hs'⟩ := Option.isSome_iff_exists.1 hs
  cases u <;> simp [convert, run_underlying hs', run_underlying hd, Conv.floatToFloat, ne, h, choose] <;> rfl
theorem cut64 (b t : Nat) : (Question.nanConv .f64 b).cut t < 18446744073709551616 ∧ nanN ((Question.nanConv .f64 b).cut t) = true := by
  unfold Question.cut nanN
  simp only
  rw [show (2 : Nat) ^ 63 = 9223372036854775808 by decide, show (2 : Nat) ^ 52 - 1 = 4503599627370495 by decide]
  rw [decide_eq_true_eq]
  have h1 : t % 2 = 0 ∨ t % 2 = 1 := by omega
  have h2 : t / 2 % 4503599627370495 < 4503599627370495 := Nat.mod_lt _ (by omega)
  generalize t / 2 % 4503599627370495 = r at *
  rcases h1 with h | h <;> rw [h] <;> omega
theorem cut32 (b t : Nat) : (Question.nanConv .f32 b).cut t < 4294967296 ∧ cn32 ((Question.nanConv .f32 b).cut t) = 2143289344 := by
  have h : (Question.nanConv .f32 b).cut t < 4294967296 ∧ nan32 ((Question.nanConv .f32 b).cut t) = true := by
    unfold Question.cut nan32
    simp only
    rw [show (2 : Nat) ^ 31 = 2147483648 by decide, show (2 : Nat) ^ 23 - 1 = 8388607 by decide]
    rw [decide_eq_true_eq]
    have h1 : t % 2 = 0 ∨ t % 2 = 1 := by omega
    have h2 : t / 2 % 8388607 < 8388607 := Nat.mod_lt _ (by omega)
    generalize t / 2 % 8388607 = r at *
    rcases h1 with h | h <;> rw [h] <;> omega
  refine ⟨h.1, ?_⟩
  unfold cn32
  rw [if_pos h.2]
theorem read_nan32 {b : Nat} (h : nan32 b = true) : ∃ sg fr, FloatKind.f32.decode b = .nan sg fr := by
  have e1 : Ieee.single.signWeight = 2147483648 := by decide
  have e2 : Ieee.single.binade = 8388608 := by decide
  have e3 : Ieee.single.infRung = 2139095040 := by decide
  unfold nan32 at h
  rw [decide_eq_true_eq] at h
  show ∃ sg fr, Ieee.single.read b = _
  unfold Ieee.Format.read
  simp only [e1, e2, e3]
  rw [if_neg (by omega), if_neg (by omega), if_neg (by omega)]
  exact ⟨_, _, rfl⟩
theorem spec_nan {f : Nat} (h : nanN f = true) : specL f = [110, 97, 110] := by unfold specL; rw [if_pos h]
/-- Short32's text, read -/
theorem short32_back (f : Nat) (w : World) (hf : f < 4294967296) (hT : Tab64 w) (hP : TabP w) : Calls Tryz.prog 12 #[.float .f32 f] w fun e w' => ∃ s : ByteArray, e = .returned (.string s) ∧ Below w.heap.size w w' ∧ ∀ W, Calls Tryz.prog 11 #[.string s] W fun e' W' => e' = .returned (.tuple #[.float .f32 (cn32 f), .int .i64 0]) ∧ Below W.heap.size W W' := by
  by_cases hn : nan32 f = true
  · have hc : cn32 f = 2143289344 := by unfold cn32; rw [if_pos hn]
    rw [hc]
    obtain ⟨sg, fr, hr⟩ := read_nan32 hn
    refine (Short32_spec f [110, 97, 110] w (fun W => (Question.nanConv .f64 f).cut (W.tape W.drawn (.nanConv .f64 f))) (fun W => ⟨(cut64 f _).1, spec_nan (cut64 f _).2⟩) (by simp) (fun W => W.drew) (fun W => conv_nan (by kernel_rfl) (by kernel_rfl) (by decide) hr W) (fun W => (Below.refl _ _).drew)).mono ?_
    rintro e w' ⟨rfl, hb⟩
    refine ⟨_, rfl, hb, fun W => ?_⟩
    have hs : specL 9221120237041090561 = [110, 97, 110] := by decide
    have hr2 : FloatKind.f64.decode (cnN 9221120237041090561) = .nan false 2251799813685249 := by decide +kernel
    exact parse32_spec 9221120237041090561 2143289344 _ W hs.symm (by rw [hs]; simp) (fun W => (Question.nanConv .f32 (cnN 9221120237041090561)).cut (W.tape W.drawn (.nanConv .f32 (cnN 9221120237041090561)))) (fun W => W.drew) (fun W => conv_nan (by kernel_rfl) (by kernel_rfl) (by decide) hr2 W) (fun W => (Below.refl _ _).drew) (fun W => cut32 _ _)
  · have hcn : cn32 f = f := by unfold cn32; rw [if_neg hn]
    rw [hcn]
    have hn' : ¬ 2139095040 < f % 2147483648 := by unfold nan32 at hn; simpa using hn
    have inf : ∀ (a F : Nat) (l : List UInt8), f = a → floatToFloatBits .f32 a .f64 = some F → floatToFloatBits .f64 (cnN F) .f32 = some a → F < 18446744073709551616 → specL F = l → l ≠ [] → cn32 a = a → a < 4294967296 → Calls Tryz.prog 12 #[.float .f32 f] w fun e w' => ∃ s : ByteArray, e = .returned (.string s) ∧ Below w.heap.size w w' ∧ ∀ W, Calls Tryz.prog 11 #[.string s] W fun e' W' => e' = .returned (.tuple #[.float .f32 f, .int .i64 0]) ∧ Below W.heap.size W W' := by
      rintro a F l rfl h1 h2 h3 h4 h5 h6 h7
      refine (Short32_spec f l w (fun _ => F) (fun W => ⟨h3, h4⟩) h5 (fun W => W) (fun W => conv_up W h1) (fun W => Below.refl _ _)).mono ?_
      rintro e w' ⟨rfl, hb⟩
      refine ⟨_, rfl, hb, fun W => ?_⟩
      exact parse32_spec F f _ W h4.symm (by rw [h4]; exact h5) (fun _ => f) (fun W => W) (fun W => conv_down W h2) (fun W => Below.refl _ _) (fun W => ⟨h7, h6⟩)
    by_cases h1 : f = 2139095040
    · exact inf 2139095040 9218868437227405312 [43, 105, 110, 102] h1 (by decide +kernel) (by decide +kernel) (by omega) (by decide) (by simp) (by decide) (by omega)
    · by_cases h2 : f = 4286578688
      · exact inf 4286578688 18442240474082181120 [45, 105, 110, 102] h2 (by decide +kernel) (by decide +kernel) (by omega) (by decide) (by simp) (by decide) (by omega)
      · have hfin : f % 2147483648 < 2139095040 := by omega
        have hsg : sgL (wideB f) = sgn (decide (2147483648 ≤ f)) := by rw [sgL_wide hfin]; unfold sgn; by_cases c : 2147483648 ≤ f <;> simp [c]
        by_cases h0 : f % 2147483648 = 0
        · refine (Short32_zero f w hf h0 hT).mono ?_
          rintro e w' ⟨rfl, hb⟩
          refine ⟨_, rfl, hb, fun W => ?_⟩
          have hok : (⟨decide (2147483648 ≤ f), [48], none, none⟩ : DTxt).Ok := ⟨fun x hx => by simp at hx; subst hx; decide, by simp, fun l hl => (by cases hl), fun b l hl => (by cases hl)⟩
          refine (parse32_any _ ⟨decide (2147483648 ≤ f), [48], none, none⟩ W ?_ hok ?_).mono ?_
          · rw [hsg]; unfold DTxt.list; simp [fracT, expT]
          · unfold sgL; split <;> simp [ByteArray.size]
          · rintro e' W' ⟨g, c, rfl, hs, hb'⟩
            refine ⟨?_, hb'⟩
            have hlow : (⟨decide (2147483648 ≤ f), [48], none, none⟩ : DTxt).low := .inl rfl
            rcases hs with ⟨-, -, h1 | ⟨Y, hY, hi⟩⟩ | ⟨rfl, Y, hY, -, hg⟩
            · exact absurd hlow h1.1
            · rcases hY with ⟨-, rfl⟩ | ⟨h1, -⟩
              · omega
              · exact absurd hlow h1
            · rcases hY with ⟨-, rfl⟩ | ⟨h1, -⟩
              · have : g = f := by
                  rw [hg]
                  by_cases c : 2147483648 ≤ f
                  · simp [c]; omega
                  · simp [c]; omega
                rw [this]
              · exact absurd hlow h1
        · refine (Short32_fin f (f % 2147483648) w hf rfl hfin (by omega) hT hP).mono ?_
          rintro e w' ⟨p, q, n, d, E, d0, ds, hs, rfl, hb⟩
          refine ⟨_, rfl, hb, fun W => ?_⟩
          obtain ⟨hok, hl, hh, hr⟩ := short_txt32 hs hfin (by omega) rfl (decide (2147483648 ≤ f))
          refine (parse32_any _ (shT (decide (2147483648 ≤ f)) d0 ds (E + (ds.length + 1 : Nat) - n)) W ?_ hok ?_).mono ?_
          · rw [hsg, shT_list]
          · obtain ⟨-, hd17, -⟩ := few_data32 hs
            have h1 := Sh.preT_len d0 ds
            have hE := few_exp32 hs.few hs.q0 hfin (by omega) hs.val
            have hn := hs.few.n0
            have h2 := Lib.itoa_length_le (E + (ds.length + 1 : Nat) - n) (by omega) (by omega)
            have h3 : (sgL (wideB f)).length ≤ 1 := by unfold sgL; split <;> simp
            rw [Sh.shortT_pre]
            obtain ⟨it, hit⟩ : ∃ it, Lib.itoa (E + (ds.length + 1 : Nat) - n) = it := ⟨_, rfl⟩
            rw [hit] at h2 ⊢
            show (sgL (wideB f) ++ (Sh.preT d0 ds ++ 101 :: it)).toArray.size ≤ 2000
            simp
            omega
          · rintro e' W' ⟨g, c, rfl, hsay, hb'⟩
            obtain ⟨rfl, hg⟩ := says_of32 hl hh hfin hr hsay
            refine ⟨?_, hb'⟩
            have : g = f := by
              rw [hg]
              unfold shT
              by_cases c : 2147483648 ≤ f
              · simp [c]; omega
              · simp [c]; omega
            rw [this]
end Go.Proofs.YtgccfdfbnhldbaaGreatDoor.Nb

namespace Go.Proofs.YtgccfdfbnhldbaaGreatDoor.Nb
open Go Go.RowKit

set_option maxRecDepth 8000 in
set_option maxHeartbeats 4000000 in
theorem times_coreN (A B : Option Addr) (n m ca cb : Nat) (a b : List Nat) (w : World) (ha : Mag w (.slice A n ca) a) (hb : Mag w (.slice B m cb) b) (hl : n ≤ 536870912) (hm : m ≤ 536870912) :
    Calls Tryz.prog 103 #[.slice A n ca, .slice B m cb] w fun e w' => ∃ A k c, e = .returned (.slice A k c) ∧ MagN w' (.slice A k c) (val a * val b) (n + m) ∧ Below w.heap.size w w' ∧ NewO w A := by
  have hla := ha.lenN
  have hlb := hb.lenN
  have HA := Lib.hid ha
  have HB := Lib.hid hb
  have HL := Lib.hid (And.intro hla hlb)
  have hmk := run_make_row' (P := Tryz.prog) 88 22 (.int .u64 0) 8 Tryz.underlying88 infoW rfl .i64 .i64 (n + m) (by omega) (by omega)
  rw [show ((n + m : Nat) : Int) = (n : Int) + (m : Int) from by omega] at hmk
  clear ha hb hla hlb
  by_cases hz : n = 0 ∨ m = 0
  · have HZ : Hid (val a * val b = 0) := Lib.hid (by
      rcases hz with h | h
      · rw [List.length_eq_zero_iff.1 (HL.out.1.symm.trans h)]; simp [val]
      · rw [List.length_eq_zero_iff.1 (HL.out.2.symm.trans h)]; simp [val])
    have HR : Hid (MagN w (.slice none 0 0) (val a * val b) (n + m)) := Lib.hid (by rw [HZ.out]; exact ⟨[], Mag.nil w none 0 (by omega), .inl rfl, rfl, by simp⟩)
    rcases hz with h | h
    · subst h
      go_enter Tryz.func103, Tryz.ntmps103
      go_wp2_with fail
      go_ret
      exact ⟨_, _, _, rfl, HR.out, Below.refl _ _, NewO.nil _⟩
    · subst h
      by_cases h2 : n = 0
      · subst h2
        go_enter Tryz.func103, Tryz.ntmps103
        go_wp2_with fail
        go_ret
        exact ⟨_, _, _, rfl, HR.out, Below.refl _ _, NewO.nil _⟩
      · have h3 : ((n : Int) == 0) = false := by simp; omega
        go_enter Tryz.func103, Tryz.ntmps103
        go_wp2_with fail
        go_ret
        exact ⟨_, _, _, rfl, HR.out, Below.refl _ _, NewO.nil _⟩
  have hn0 : ((n : Int) == 0) = false := by simp; omega
  have hm0 : ((m : Int) == 0) = false := by simp; omega
  go_enter Tryz.func103, Tryz.ntmps103
  go_wp2_with fail
  clear hmk
  have H0 := Lib.hid (show TimesSt w w.heap.size (n + m) a b 0 0 0 m (w.alloc (.cells (madeCells #[.int .u64 0] (n + m)) 22)) from ⟨_, Blk.made w (n + m), by simp, W64.rep _, pro_start a b _, Clear.rep _ _, (Below.refl _ _).alloc (Nat.le_refl _) _⟩)
  go_loopw [27] (fun i wr => ∃ k : Nat, k ≤ n ∧ i = .int .i64 k ∧ Hid (TimesSt w w.heap.size (n + m) a b k 0 0 (k + m) wr)) (fun i _ => n - (intOf i).toNat)
  case atStart => exact ⟨0, Nat.zero_le _, rfl, by rw [Nat.zero_add]; exact H0⟩
  case round =>
    obtain ⟨i, hi, rfl, hp⟩ := hrel
    by_cases hlt : i < n
    · obtain ⟨os0, -, -, -, -, -, hbel0⟩ := hp.out
      obtain ⟨b1, o1, e1, hb1, hc1⟩ := HA.out.at hlt
      subst e1
      have hx := (hbel0.cell (p := ⟨b1, o1 + i, none⟩) hb1).trans hc1
      obtain ⟨x, ex⟩ : ∃ x, a.getD i 0 = x := ⟨_, rfl⟩
      have wx := HA.out.w32.get i
      rw [ex] at hx wx
      have EXA := Lib.hid ex
      have qi0 : (0 : Int) ≤ (i : Int) := by omega
      have qi1 : (i : Int) < (n : Int) := by omega
      clear hc1 ex hb1 hbel0
      obtain ⟨wo, rfl⟩ : ∃ wo : World, wo = wr := ⟨_, rfl⟩
      go_wp2_with fail
      go_loopw [8, 34] (fun cy k wr => ∃ kk cc : Nat, kk ≤ m ∧ k = .int .i64 kk ∧ cy = .int .u64 cc ∧ cc < 18446744073709551616 ∧ Hid (TimesSt w w.heap.size (n + m) a b i kk cc (i + m) wr)) (fun _ k _ => m - (intOf k).toNat)
      case atStart => exact ⟨0, 0, Nat.zero_le _, rfl, rfl, by omega, hp⟩
      case round =>
        obtain ⟨k, cc, hk, rfl, rfl, hcc, hq⟩ := hrel
        obtain ⟨os, hbk, hlen, hw, hst, hcl, hbel⟩ := hq.out
        have HO := Lib.hid (And.intro hbk (And.intro hlen (And.intro hw (And.intro hst (And.intro hcl hbel)))))
        by_cases hlt2 : k < m
        · have hfr : wr.frozen? ⟨w.heap.size, i + k, none⟩ = false := hbk.frozen (i + k)
          obtain ⟨o, ho⟩ : ∃ o, os.getD (i + k) 0 = o := ⟨_, rfl⟩
          have hco : wr.cell? ⟨w.heap.size, i + k, none⟩ = some (.int .u64 (o : Nat)) := by rw [← ho]; exact hbk.cell (by omega)
          have wo' := hw.get (i + k)
          rw [ho] at wo'
          obtain ⟨b2, o2, e2, hb2, hc2⟩ := HB.out.at hlt2
          subst e2
          have hy := (hbel.cell (p := ⟨b2, o2 + k, none⟩) hb2).trans hc2
          obtain ⟨y, ey⟩ : ∃ y, b.getD k 0 = y := ⟨_, rfl⟩
          have wy := HB.out.w32.get k
          rw [ey] at hy wy
          have EX := Lib.hid (And.intro EXA.out (And.intro ey ho))
          have HFO := Lib.hid (fun W => fold_any x y o cc W wx wy wo' hcc)
          obtain ⟨t, ht⟩ : ∃ t, x * y + o + cc = t := ⟨_, rfl⟩
          have htw := pro_word wx wy wo' hcc
          rw [ht] at HFO htw
          have HT := Lib.hid ht
          obtain ⟨thi, hthi⟩ : ∃ h, t / 18446744073709551616 = h := ⟨_, rfl⟩
          obtain ⟨tlo, htlo⟩ : ∃ h, t % 18446744073709551616 = h := ⟨_, rfl⟩
          rw [hthi, htlo] at HFO
          have HTT := Lib.hid (And.intro hthi (And.intro htlo htw))
          clear hbk hlen hw hst hcl hc2 ey ho hb2 hbel ht hthi htlo htw
          have q0 : (0 : Int) ≤ (i : Int) + (k : Int) := by omega
          have q1 : (i : Int) + (k : Int) < (n : Int) + (m : Int) := by omega
          have qk0 : (0 : Int) ≤ (k : Int) := by omega
          have qk1 : (k : Int) < (m : Int) := by omega
          have e1 : IntKind.i64.wrap ((i : Int) + (k : Int)) = (i : Int) + (k : Int) := IntWalk.i64_in _ ⟨by omega, by omega⟩
          have e2 : ((i : Int) + (k : Int)).toNat = i + k := by omega
          go_wp2_with fail
          refine (HFO.out _).mono ?_
          rintro e w9 ⟨rfl, rfl⟩
          go_wp2_with fail
          go_roundw
          case rel => exact ⟨k + 1, thi, by omega, by go_num, rfl, by have := HTT.out; omega, Lib.hid ⟨os.set (i + k) tlo, blk_end HO.out.1 (by omega), by rw [List.length_set]; exact HO.out.2.1, HO.out.2.2.1.set (by have := HTT.out; omega), by
            have h := pro_step (t := t) HO.out.2.2.2.1 (by have := HO.out.2.1; omega) (by rw [EX.out.1, EX.out.2.1, EX.out.2.2, HT.out])
            rw [HTT.out.1, HTT.out.2.1] at h
            exact h, HO.out.2.2.2.2.1.set (by omega), HO.out.2.2.2.2.2.setCell (p := ⟨w.heap.size, i + k, none⟩) (Nat.le_refl _) _⟩⟩
          case measure => simp [intOf]; omega
        · obtain rfl : k = m := by omega
          have hfr : wr.frozen? ⟨w.heap.size, i + k, none⟩ = false := hbk.frozen (i + k)
          obtain ⟨o, ho⟩ : ∃ o, os.getD (i + k) 0 = o := ⟨_, rfl⟩
          have hco : wr.cell? ⟨w.heap.size, i + k, none⟩ = some (.int .u64 (o : Nat)) := by rw [← ho]; exact hbk.cell (by omega)
          clear hbk hlen hw hst hcl hbel ho
          have e2 : ((i : Int) + (k : Int)).toNat = i + k := by omega
          go_wp2_with fail
          go_roundw
          case rel =>
            have hlb : k = b.length := HL.out.2
            refine ⟨i + 1, by omega, by go_num, Lib.hid ⟨os.set (i + k) cc, blk_end HO.out.1 (by omega), by rw [List.length_set]; exact HO.out.2.1, HO.out.2.2.1.set hcc, ?_, by rw [show i + 1 + k = i + k + 1 by omega]; exact HO.out.2.2.2.2.1.step, HO.out.2.2.2.2.2.setCell (p := ⟨w.heap.size, i + k, none⟩) (Nat.le_refl _) _⟩⟩
            have h1 := HO.out.2.2.2.1
            have h2 := HO.out.2.2.2.2.1
            have h3 := HO.out.2.1
            rw [hlb] at h1 h2 ⊢
            exact pro_next h1 h2 (by omega)
          case measure => simp [intOf]; omega
    · obtain rfl : i = n := by omega
      obtain ⟨os, hbk, hlen, hw, hst, hcl, hbel⟩ := hp.out
      have HO := Lib.hid (And.intro hbk (And.intro hlen (And.intro hw (And.intro hst hbel))))
      clear hbk hlen hw hst hcl hbel
      go_wp2_with fail
      have hms := HO.out.1.mag HO.out.2.2.1 (by rw [HO.out.2.1]; omega)
      rw [HO.out.2.1] at hms
      refine (norm_any _ _ _ hms).mono ?_
      rintro e w2 ⟨A2, k2, c2, hA2, rfl, hm2, rfl⟩
      have HNW : Hid (NewO w A2) := Lib.hid (by injection hA2 with hA2; rw [← hA2]; exact NewO.at _)
      clear hA2
      rw [pro_end HO.out.2.2.2.1 (by have := HL.out; omega), HO.out.2.1] at hm2
      have HF := Lib.hid hm2
      clear hm2 hms
      go_wp2_with fail
      go_ret
      exact ⟨_, _, _, rfl, HF.out, HO.out.2.2.2.2, HNW.out⟩

/-- times: of two magnitudes -/
theorem times_new (u v : Value) (m n L L' : Nat) (w : World) (hu : MagN w u m L) (hv : MagN w v n L') (hL : L ≤ 536870912) (hL' : L' ≤ 536870912) :
    Calls Tryz.prog 103 #[u, v] w fun e w' => ∃ A k c, e = .returned (.slice A k c) ∧ MagN w' (.slice A k c) (m * n) (L + L') ∧ Below w.heap.size w w' ∧ NewO w A := by
  obtain ⟨a, h1, h2, rfl, h4⟩ := hu
  obtain ⟨b, g1, g2, rfl, g4⟩ := hv
  have h1' := h1
  have g1' := g1
  obtain ⟨A, ca, rfl, -⟩ := h1
  obtain ⟨B, cb, rfl, -⟩ := g1
  exact (times_coreN A B a.length b.length ca cb a b w h1' g1' (by omega) (by omega)).mono fun e w' ⟨A, k, c, he, hx, hb⟩ => ⟨A, k, c, he, hx.more (by omega), hb⟩
end Go.Proofs.YtgccfdfbnhldbaaGreatDoor.Nb

namespace Go.Proofs.YtgccfdfbnhldbaaGreatDoor.Nb
open Go Go.RowKit Nx

theorem tenth_hits : Hits 1 (-1) 4591870180066957722 ∧ ¬ Hits 2 (-1) 4591870180066957722 := by
  have h1 : Rnd 53 1074 1 10 4591870180066957722 := rnd_near (by omega) (by omega) (by decide +kernel) (by decide +kernel)
  have h2 : Rnd 53 1074 2 10 4596373779694328218 := rnd_near (by omega) (by omega) (by decide +kernel) (by decide +kernel)
  constructor
  · exact h1
  · intro h
    have h3 : Rnd 53 1074 2 10 4591870180066957722 := h
    have := rnd_eq h2 h3 (by omega) (by omega) (by omega) rfl
    omega
theorem seven_hits : Hits 750 (-2) 4620130267728707584 := by
  have h1 : Rnd 53 1074 750 100 4620130267728707584 := (rnd_same (by omega) (Nat.two_pow_pos 1074) (by decide +kernel)).2 (rnd_self 4620130267728707584)
  exact h1
set_option exponentiation.threshold 2000 in
/-- the digits of a tenth -/
theorem tenth_says {p q n d : Nat} {E : Int} {d0 : UInt8} {ds : List UInt8} (h : ShortSays 4591870180066957722 p q E n d d0 ds) : shortT d0 ds (E + (ds.length + 1 : Nat) - n) = [49, 101, 45, 49] := by
  have hq := h.q0
  have hv := h.val
  obtain ⟨T, hT⟩ : ∃ T : Nat, 2 ^ 1074 = T := ⟨_, rfl⟩
  obtain ⟨M, hM⟩ : ∃ M : Nat, amt64 4591870180066957722 = M := ⟨_, rfl⟩
  have t1 : T ≤ 10 * M ∧ 10 * M < 2 * T := by rw [← hT, ← hM]; decide +kernel
  rw [hT, hM] at hv
  clear hT hM
  have hT0 : 0 < T := by omega
  have k1 : q ≤ p * 10 := by
    refine Nat.le_of_mul_le_mul_right (a := q) (b := p * 10) (c := T) ?_ hT0
    have e : p * 10 * T = 10 * M * q := by rw [Nat.mul_right_comm, hv]; ac_rfl
    rw [e, Nat.mul_comm q]
    exact Nat.mul_le_mul_right q t1.1
  have k2 : p * 10 < 2 * q := by
    refine Nat.lt_of_mul_lt_mul_right (a := T) ?_
    have e : p * 10 * T = 10 * M * q := by rw [Nat.mul_right_comm, hv]; ac_rfl
    have e2 : 2 * q * T = 2 * T * q := by ac_rfl
    rw [e, e2]
    exact Nat.mul_lt_mul_of_pos_right t1.2 hq
  have a1 : AtM p q (-1) := by
    unfold AtM
    rw [show (-1 : Int).toNat = 0 from rfl, show (- -1 : Int).toNat = 1 from rfl]
    omega
  have a0 : ¬ AtM p q 0 := by
    unfold AtM
    rw [show (0 : Int).toNat = 0 from rfl, show (-0 : Int).toNat = 0 from rfl]
    omega
  have hE : E = -1 := by
    rcases Int.lt_or_le E (-1) with c | c
    · exact absurd (a1.le (by omega)) h.few.dec.2
    · rcases Int.lt_or_le E 0 with c2 | c2
      · omega
      · exact absurd (h.few.dec.1.le c2) a0
  subst hE
  have hlow : lowK p q (-1) = 1 := by
    unfold lowK
    rw [show (-1 : Int).toNat = 0 from rfl, show (- -1 : Int).toNat = 1 from rfl, Nat.pow_one, Nat.pow_zero, Nat.mul_one]
    exact Nat.div_eq_of_lt_le (by omega) (by omega)
  have hn : n = 1 := by
    have hn0 := h.few.n0
    rcases Nat.lt_or_ge 1 n with c | c
    · have h1 := h.few.least 1 (by omega) c
      unfold NoneAt at h1
      rw [show (-1 : Int) - ((1 : Nat) : Int) + 1 = -1 by omega, hlow] at h1
      exact absurd tenth_hits.1 h1.1
    · omega
  subst hn
  have hd0 := h.few.d0
  have hit := h.few.hit
  rw [show (-1 : Int) - ((1 : Nat) : Int) + 1 = -1 by omega] at hd0 hit
  rw [hlow] at hd0
  have hd : d = 1 := by
    rcases hd0 with c | c
    · exact c
    · subst c
      exact absurd hit tenth_hits.2
  subst hd
  have hdig := h.dig
  rw [revDig_pos (by omega), show 1 / 10 = 0 by decide, revDig_zero] at hdig
  simp at hdig
  obtain ⟨rfl, rfl⟩ := hdig
  decide +kernel
theorem tenth_short (w : World) (hT : Tab64 w) (hP : TabP w) : Calls Tryz.prog 9 #[.float .f64 4591870180066957722] w fun e w' => e = .returned (.string ⟨#[49, 101, 45, 49]⟩) ∧ Below w.heap.size w w' := by
  refine (Short_fin 4591870180066957722 4591870180066957722 w (by omega) (by decide) (by omega) (by omega) hT hP).mono ?_
  rintro e w' ⟨p, q, n, d, E, d0, ds, hs, rfl, hb⟩
  rw [tenth_says hs]
  exact ⟨rfl, hb⟩
theorem ten_hex (w : World) (hT : Tab64 w) (hP : TabP w) : Calls Tryz.prog 7 #[.float .f64 4621819117588971520] w fun e w' => e = .returned (.string ⟨#[48, 120, 49, 46, 52, 112, 51]⟩) ∧ Below w.heap.size w w' := by
  have h := hex_any 4621819117588971520 w hT hP (by omega)
  rw [show hexL 4621819117588971520 = [48, 120, 49, 46, 52, 112, 51] by decide +kernel] at h
  exact h
theorem seven_parse (w : World) : Calls Tryz.prog 8 #[.string ⟨#[48, 48, 55, 46, 53, 48, 101, 48, 48]⟩] w fun e w' => e = .returned (.tuple #[.float .f64 4620130267728707584, .int .i64 0]) ∧ Below w.heap.size w w' := by
  have hok : (⟨false, [48, 48, 55], some [53, 48], some (false, [48, 48])⟩ : DTxt).Ok := by
    refine ⟨fun x hx => ?_, by simp, fun l hl => ?_, fun b l hl => ?_⟩
    · simp at hx
      rcases hx with rfl | rfl <;> decide
    · injection hl with hl
      subst hl
      refine ⟨fun x hx => ?_, by simp⟩
      simp at hx
      rcases hx with rfl | rfl <;> decide
    · injection hl with hl
      injection hl with h1 h2
      subst h2
      refine ⟨fun x hx => ?_, by simp⟩
      simp at hx
      subst hx
      decide
  refine (parse_any _ ⟨false, [48, 48, 55], some [53, 48], some (false, [48, 48])⟩ w rfl hok (by decide)).mono ?_
  rintro e w' ⟨f, c, rfl, hs, hb⟩
  have hexp : (⟨false, [48, 48, 55], some [53, 48], some (false, [48, 48])⟩ : DTxt).exp = -2 := by decide +kernel
  have hkey : (⟨false, [48, 48, 55], some [53, 48], some (false, [48, 48])⟩ : DTxt).key = [55, 53, 48] := by decide +kernel
  have hdn : decN (⟨false, [48, 48, 55], some [53, 48], some (false, [48, 48])⟩ : DTxt).digs = 750 := by decide +kernel
  have hl : ¬ (⟨false, [48, 48, 55], some [53, 48], some (false, [48, 48])⟩ : DTxt).low := by
    unfold DTxt.low
    rw [hkey, hexp]
    simp
  have hh : ¬ (⟨false, [48, 48, 55], some [53, 48], some (false, [48, 48])⟩ : DTxt).high := by
    unfold DTxt.high
    rw [hkey, hexp]
    simp
  obtain ⟨rfl, hf⟩ := says_of (X := 4620130267728707584) hl hh (by omega) (by rw [hdn, hexp]; exact seven_hits) hs
  rw [hf]
  exact ⟨rfl, hb⟩
theorem body_ex' : bodyL 12000345 = [49, 50, 46, 48, 48, 48, 51, 52, 53] := by
  unfold bodyL
  rw [Lib.decDigits_eq, show 12000345 / 1000000 = 12 by decide, Lib.nDigits_big (by omega), show 12 / 10 = 1 by decide, Lib.nDigits_small (by omega)]
  rfl
set_option maxRecDepth 8000 in
set_option maxHeartbeats 1000000 in
theorem awake_all (w : World) (hT : Tab64 w) (hP : TabP w) : Calls Tryz.prog 15 #[] w fun e w' => e = .returned (.bool true) ∧ Below w.heap.size w w' := by
  have HT := Lib.hid (And.intro hT hP)
  have HX := Lib.hid (seven_parse w)
  clear hT hP
  go_enter Tryz.func15, Tryz.ntmps15
  go_wp2_with fail
  refine HX.out.mono ?_
  rintro e w1 ⟨rfl, b1⟩
  have H1 := Lib.hid (And.intro b1 (And.intro (HT.out.1.below b1) (HT.out.2.below b1 HT.out.2.2)))
  clear b1 HX
  go_wp2_with fail
  have HTi := Lib.hid (time_pos 12000345 w1 (by omega) H1.out.2.2)
  rw [body_ex'] at HTi
  refine HTi.out.mono ?_
  rintro e w2 ⟨rfl, b2⟩
  have H2 := Lib.hid (And.intro (back_of' H1.out.1 b2) (And.intro (H1.out.2.1.below b2) (H1.out.2.2.below b2 H1.out.2.2.2)))
  clear b2 H1 HTi
  go_wp2_with fail
  refine (ten_hex w2 H2.out.2.1 H2.out.2.2).mono ?_
  rintro e w3 ⟨rfl, b3⟩
  have H3 := Lib.hid (And.intro (back_of' H2.out.1 b3) (And.intro (H2.out.2.1.below b3) (H2.out.2.2.below b3 H2.out.2.2.2)))
  clear b3 H2
  go_wp2_with fail
  refine (tenth_short w3 H3.out.2.1 H3.out.2.2).mono ?_
  rintro e w4 ⟨rfl, b4⟩
  have H4 := Lib.hid (back_of' H3.out.1 b4)
  clear b4 H3
  go_wp2_with fail
  go_ret
  exact ⟨rfl, H4.out⟩
end Go.Proofs.YtgccfdfbnhldbaaGreatDoor.Nb
