/- SH8 SH10 in one text. -/
import Derived.Test.YtmecnlgndaeidaaGreatDoorP17
import Derived.Test.YtmecnlgndaeidaaGreatDoorP11
import Derived.Lib.ItoaLen
import Derived.Test.YtmecnlgndaeidaaGreatDoorP38
import Derived.Test.YtmecnlgndaeidaaGreatDoorP30
import Derived.Test.YtmecnlgndaeidaaGreatDoorP37

namespace Go.Proofs.YtmecnlgndaeidaaGreatDoor.Nb
open Go Go.RowKit

/-- the text that short makes -/
def shortT (d0 : UInt8) (ds : List UInt8) (X : Int) : List UInt8 := d0 :: ((if Lib.trimRightB ds 48 = [] then [] else 46 :: Lib.trimRightB ds 48) ++ (101 :: Lib.itoa X))
theorem first_idx (d0 : UInt8) (ds : List UInt8) : ∀ W, (Instr.index 9 (.string ⟨(d0 :: ds).toArray⟩) (.int .i64 0)).run Tryz.prog W = .ok (.int .u8 (d0.toNat : Int)) W := by
  intro W
  rw [run_index_string W 9 _ .i64 0 (by kernel_rfl), dif_pos (by simp [ByteArray.size])]
  rfl
theorem itoa_len {X : Int} (h : -100000 ≤ X ∧ X ≤ 100000) : (Lib.itoa X).length ≤ 1000000 := by
  have := Lib.itoa_length_le X (by omega) (by omega)
  omega
theorem rest_list (d0 : UInt8) (ds : List UInt8) : ((⟨(d0 :: ds).toArray⟩ : ByteArray).extract 1 (ds.length + 1)).data.toList = ds := by
  simp [ByteArray.extract, ByteArray.copySlice]
set_option maxRecDepth 8000 in
set_option maxHeartbeats 1000000 in
theorem short_any (B b : Nat) (l : List UInt8) (d0 : UInt8) (ds : List UInt8) (X : Int) (w : World) (hb : Bld w B b l) (hl : l.length ≤ 10) (hd : ds.length ≤ 100) (hX : -100000 ≤ X ∧ X ≤ 100000) (hB : B ≤ w.heap.size) (hP : TabP w) (hg : 2 < B) :
    Calls Tryz.prog 24 #[.pointer (some ⟨b, 0, none⟩), .string ⟨(d0 :: ds).toArray⟩, .int .i64 X] w fun e w' => e = .returned (.string ⟨(l ++ shortT d0 ds X).toArray⟩) ∧ Below B w w' := by
  have hidx := first_idx d0 ds
  have HI := Lib.hid (And.intro hb (And.intro hB hP))
  clear hb hB hP
  go_enter Tryz.func24, Tryz.ntmps24
  go_wp2_with fail
  refine (wbyte B b l d0 w HI.out.1 (by omega) HI.out.2.1 _ rfl).mono ?_
  rintro e w1 ⟨rfl, d1, b1⟩
  have H1 := Lib.hid (And.intro d1 b1)
  clear d1 b1
  go_wp2_with fail
  obtain ⟨R, hR⟩ : ∃ R, (⟨(d0 :: ds).toArray⟩ : ByteArray).extract 1 (ds.length + 1) = R := ⟨_, rfl⟩
  have hRl : R.data.toList = ds := by rw [← hR]; exact rest_list d0 ds
  rw [hR]
  have hRs : R.size ≤ 9223372036854775807 := by have h0 := size_list R; rw [hRl] at h0; omega
  refine (Tryz.strings_TrimRight_one R 48 (by decide) w1 hRs).mono ?_
  rw [hRl]
  obtain ⟨T, hT⟩ : ∃ T, Lib.trimRightB ds 48 = T := ⟨_, rfl⟩
  rw [hT]
  rintro e w2 ⟨rfl, hw⟩
  obtain rfl := hw.symm
  have hz1 : B ≤ w1.heap.size := Nat.le_trans HI.out.2.1 H1.out.2.size
  by_cases hE : T = []
  · subst hE
    go_wp2_with fail
    have hz3a : B ≤ w1.heap.size := Nat.le_trans HI.out.2.1 H1.out.2.size
    refine (wbyte B b _ 101 w1 H1.out.1 (by simp; omega) hz3a 101 rfl).mono ?_
    rintro e w3 ⟨rfl, d3, b3⟩
    have H3 := Lib.hid (And.intro d3 (H1.out.2.trans b3))
    clear d3 b3
    go_wp2_with fail
    refine (itoa_any X w3 (by omega) (by omega) (HI.out.2.2.below H3.out.2 hg)).mono ?_
    rintro e w4 ⟨rfl, b4⟩
    have hz3 : B ≤ w3.heap.size := Nat.le_trans HI.out.2.1 H3.out.2.size
    have H4 := Lib.hid (And.intro (H3.out.1.below b4) (H3.out.2.trans (b4.mono hz3)))
    clear b4
    go_wp2_with fail
    refine (wstring B b _ ⟨(Lib.itoa X).toArray⟩ w4 H4.out.1 (by simp; omega) (by have := itoa_len hX; simpa [ByteArray.size] using this) (Nat.le_trans HI.out.2.1 H4.out.2.size)).mono ?_
    rintro e w5 ⟨rfl, d5, b5⟩
    have H5 := Lib.hid (And.intro d5 (H4.out.2.trans b5))
    clear d5 b5
    go_wp2_with fail
    refine (bstring B b _ w5 H5.out.1 (Nat.le_trans HI.out.2.1 H5.out.2.size)).mono ?_
    rintro e w6 ⟨rfl, b6⟩
    have HF := Lib.hid (H5.out.2.trans b6)
    clear b6
    go_wp2_with fail
    go_ret
    refine ⟨?_, HF.out⟩
    refine congrArg (fun z => Ending.returned (Value.string ⟨z⟩)) ?_
    unfold shortT
    rw [hT]
    simp
  · have hiE : T.isEmpty = false := by cases T with | nil => exact absurd rfl hE | cons a t => rfl
    have hTl : T.length ≤ 100 := by
      rw [← hT]
      unfold Lib.trimRightB
      rw [List.length_reverse]
      have := (List.dropWhile_sublist (p := (· == (48 : UInt8))) (l := ds.reverse)).length_le
      rw [List.length_reverse] at this
      omega
    go_wp2_with fail
    refine (wbyte B b _ 46 w1 H1.out.1 (by simp; omega) hz1 46 rfl).mono ?_
    rintro e wa ⟨rfl, da, ba⟩
    have Ha := Lib.hid (And.intro da (H1.out.2.trans ba))
    clear da ba
    go_wp2_with fail
    refine (wstring B b _ ⟨T.toArray⟩ wa Ha.out.1 (by simp; omega) (by simp [ByteArray.size]; omega) (Nat.le_trans HI.out.2.1 Ha.out.2.size)).mono ?_
    rintro e wb ⟨rfl, db, bb⟩
    have Hb := Lib.hid (And.intro db (Ha.out.2.trans bb))
    clear db bb
    go_wp2_with fail
    have hz3a : B ≤ wb.heap.size := Nat.le_trans HI.out.2.1 Hb.out.2.size
    refine (wbyte B b _ 101 wb Hb.out.1 (by simp; omega) hz3a 101 rfl).mono ?_
    rintro e w3 ⟨rfl, d3, b3⟩
    have H3 := Lib.hid (And.intro d3 (Hb.out.2.trans b3))
    clear d3 b3
    go_wp2_with fail
    refine (itoa_any X w3 (by omega) (by omega) (HI.out.2.2.below H3.out.2 hg)).mono ?_
    rintro e w4 ⟨rfl, b4⟩
    have hz3 : B ≤ w3.heap.size := Nat.le_trans HI.out.2.1 H3.out.2.size
    have H4 := Lib.hid (And.intro (H3.out.1.below b4) (H3.out.2.trans (b4.mono hz3)))
    clear b4
    go_wp2_with fail
    refine (wstring B b _ ⟨(Lib.itoa X).toArray⟩ w4 H4.out.1 (by simp; omega) (by have := itoa_len hX; simpa [ByteArray.size] using this) (Nat.le_trans HI.out.2.1 H4.out.2.size)).mono ?_
    rintro e w5 ⟨rfl, d5, b5⟩
    have H5 := Lib.hid (And.intro d5 (H4.out.2.trans b5))
    clear d5 b5
    go_wp2_with fail
    refine (bstring B b _ w5 H5.out.1 (Nat.le_trans HI.out.2.1 H5.out.2.size)).mono ?_
    rintro e w6 ⟨rfl, b6⟩
    have HF := Lib.hid (H5.out.2.trans b6)
    clear b6
    go_wp2_with fail
    go_ret
    refine ⟨?_, HF.out⟩
    refine congrArg (fun z => Ending.returned (Value.string ⟨z⟩)) ?_
    unfold shortT
    rw [hT]
    simp [hE]
end Go.Proofs.YtmecnlgndaeidaaGreatDoor.Nb

namespace Go.Proofs.YtmecnlgndaeidaaGreatDoor.Nb
open Go Go.RowKit Nx

/-- what Short's text is made of -/
structure ShortSays (X : Nat) (p q : Nat) (E : Int) (n d : Nat) (d0 : UInt8) (ds : List UInt8) : Prop where
  q0 : 0 < q
  val : p * 2 ^ 1074 = amt64 X * q
  few : FewSays p q X E n d
  dig : (revDig d).reverse = d0 :: ds
theorem few_digits {p q X n d : Nat} {E : Int} (hq : 0 < q) (h : FewSays p q X E n d) : 1 ≤ d ∧ d < 1000000000000000000 ∧ ∃ d0 ds, (revDig d).reverse = d0 :: ds ∧ (revDig d).length = ds.length + 1 ∧ ds.length ≤ 17 := by
  have h1 := low_in (n := n) hq h.dec rfl h.n0.1
  have h2 : 10 ^ n ≤ 10 ^ 17 := Nat.pow_le_pow_right (by omega) h.n0.2
  have h3 : 0 < 10 ^ (n - 1) := Nat.pow_pos (by omega)
  have h4 := h.d0
  have e1 : 1 ≤ d := by omega
  have e2 : d < 10 ^ 18 := by omega
  have hl := revDig_len_le 18 d e2
  refine ⟨e1, by omega, ?_⟩
  cases hr : (revDig d).reverse with
  | nil =>
    rw [List.reverse_eq_nil_iff, revDig_pos (by omega)] at hr
    exact absurd hr (by simp)
  | cons a l =>
    have := congrArg List.length hr
    simp at this
    exact ⟨a, l, rfl, by omega, by omega⟩
theorem atm_top {p q n : Nat} {E : Int} (hE : E.toNat = n) (h0 : (-E).toNat = 0) (h : p < q * 10 ^ n) : ¬ AtM p q E := by
  unfold AtM
  rw [hE, h0, Nat.pow_zero, Nat.mul_one, Nat.mul_comm]
  omega
theorem few_exp {p q X n d : Nat} {E : Int} (h : FewSays p q X E n d) (hq : 0 < q) (hX : X < 9218868437227405312) (h0 : 0 < X) (hv : p * 2 ^ 1074 = amt64 X * q) : -400 ≤ E ∧ E < 400 := by
  obtain ⟨-, a1, a2⟩ := val_in hX h0 hq hv
  have hA0 : AtM p q (-400) := by
    unfold AtM
    rw [show (-400 : Int).toNat = 0 from rfl, show (- -400 : Int).toNat = 400 from rfl, Nat.pow_zero, Nat.one_mul]
    exact a1
  have hA1 : ¬ AtM p q 400 := atm_top (n := 400) rfl rfl a2
  constructor
  · rcases Int.lt_or_le E (-400) with t | t
    · exact absurd (hA0.le (by omega)) h.dec.2
    · exact t
  · rcases Int.lt_or_le E 400 with t | t
    · exact t
    · exact absurd (h.dec.1.le t) hA1
set_option maxRecDepth 8000 in
set_option maxHeartbeats 1000000 in
theorem Short_pos (X : Nat) (w : World) (hX : X < 9218868437227405312) (h0 : 0 < X) (hT : Tab64 w) (hP : TabP w) : Calls Tryz.prog 7 #[.float .f64 X] w fun e w' => ∃ (p q n d : Nat) (E : Int) (d0 : UInt8) (ds : List UInt8), ShortSays X p q E n d d0 ds ∧ e = .returned (.string ⟨(shortT d0 ds (E + (ds.length + 1 : Nat) - n)).toArray⟩) ∧ Below w.heap.size w w' := by
  obtain ⟨t, ht⟩ := finN (f := X) (by omega) (by omega) (by omega)
  have hsp : specL X = [] := by
    unfold specL
    rw [if_neg (by unfold nanN; simp; omega), if_neg (by omega), if_neg (by omega)]
  have hsg : sgL X = [] := by unfold sgL; rw [if_neg (by omega)]
  have hneg : decide (9223372036854775808 ≤ X) = false := decide_eq_false (by omega)
  have HS := Lib.hid (fun W => special_any X W (by omega))
  rw [hsp, show decide (([] : List UInt8) ≠ []) = false by simp] at HS
  have HBg := Lib.hid (fun W => begun_any X W (by omega))
  rw [hsg] at HBg
  have HPt := Lib.hid (fun W (hW : Tab64 W) => Parts_any X t W hW ht)
  rw [hneg] at HPt
  obtain ⟨m, hm⟩ : ∃ m, oddM X = m := ⟨_, rfl⟩
  obtain ⟨Z, hZ⟩ : ∃ Z, oddX X = Z := ⟨_, rfl⟩
  have hmu : m < 18446744073709551616 := by have := ht.up; omega
  have hm0 : m ≠ 0 := by have := ht.od; omega
  have hZu : -10000 ≤ Z ∧ Z ≤ 10000 := by have := ht.x0; have := ht.x1; omega
  rw [hm, hZ] at HPt
  have HAb : Hid (∀ W, Calls Tryz.prog 8 #[.float .f64 X] W fun e w' => e = .returned (.float .f64 X) ∧ w' = W) := Lib.hid (fun W => abs_pos X W ((andnot_top (by omega)).trans (by rw [Nat.mod_eq_of_lt (by omega)])))
  have HTT := Lib.hid ht
  have hmf : ∀ (fn : Fn) (first cap : Array Value) (w : World), (Instr.makeFunc fn first cap).run Tryz.prog w = .ok (.func fn first cap) w := fun _ _ _ _ => rfl
  have hA := (Below.refl w.heap.size w).alloc (Nat.le_refl _) (.cells #[.float .f64 X] 23)
  have hc : (w.alloc (.cells #[.float .f64 X] 23)).cell? ⟨w.heap.size, 0, none⟩ = some (.float .f64 X) := by simp [go_sem]
  obtain ⟨W, hW⟩ : ∃ W, w.alloc (.cells #[.float .f64 X] 23) = W := ⟨_, rfl⟩
  have hws : w.heap.size < W.heap.size := by rw [← hW]; simp
  rw [hW] at hA hc
  have HA := Lib.hid hA
  have HT := Lib.hid (And.intro hT hP)
  clear hA hT hP hsp hsg hneg ht
  go_enter Tryz.func7, Tryz.ntmps7
  go_wp2_with fail
  refine (HS.out W).mono ?_
  rintro e w1 ⟨rfl, hw⟩
  obtain rfl := hw.symm
  go_wp2_with fail
  refine (HBg.out W).mono ?_
  rintro e w1 ⟨rfl, d1, b1⟩
  have c1 := (b1.cell (p := ⟨w.heap.size, 0, none⟩) (by exact hws)).trans hc
  have H1 := Lib.hid (And.intro d1 b1)
  clear d1 b1 hc
  go_wp2_with fail
  refine (HPt.out w1 (HT.out.1.below (back_of' HA.out H1.out.2))).mono ?_
  rintro e w2 ⟨rfl, b2⟩
  have hk := b2.trans (((Below.refl w2.heap.size w2).alloc (Nat.le_refl _) (.cells #[.bool false, .int .u64 (m : Int), .int .i64 Z] 47)).mono b2.size)
  have c2 := (hk.cell (p := ⟨w.heap.size, 0, none⟩) (by exact Nat.lt_of_lt_of_le hws H1.out.2.size)).trans c1
  have H2 := Lib.hid (And.intro (H1.out.1.below hk) (back_of' H1.out.2 hk))
  clear b2 hk c1 H1
  have HAm := Lib.hid (fun V => amount_any false m Z _ _ 10100 V hmu hZu rfl rfl (by omega) (by omega))
  go_wp2_with fail
  refine (HAm.out _).mono ?_
  rintro e w3 ⟨z, p, q, rfl, r3, hv3, b3⟩
  have c3 := (b3.cell (p := ⟨w.heap.size, 0, none⟩) (by exact Nat.lt_of_lt_of_le hws H2.out.2.size)).trans c2
  have H3 := Lib.hid (And.intro (H2.out.1.below b3) (And.intro (back_of' H2.out.2 b3) r3))
  have hq0 : 0 < q := r3.2.2
  have hval : p * 2 ^ 1074 = amt64 X * q := parts_val hX HTT.out (by rw [hZ]) (by rw [hZ]) (by rw [hm]; exact hv3)
  have hin := val_in hX h0 hq0 hval
  have HFe := Lib.hid (fewest_any z w.heap.size X p q 10100 X w3 H3.out.2.2 c3 (Nat.lt_of_lt_of_le hws H3.out.2.1.size) HAb h0 hX hin.1 hin.2.1 hin.2.2 hval (by omega) (by omega))
  have HV := Lib.hid (And.intro hq0 hval)
  clear c3 c2 r3 hv3 b3 H2 HAm hval hin
  go_wp2_with fail
  refine HFe.out.mono ?_
  rintro e w4 ⟨E, n, d, hf, rfl, b4⟩
  obtain ⟨hd1, hd2, d0, ds, hdig, hdl, hd17⟩ := few_digits HV.out.1 hf
  have HF := Lib.hid (show ShortSays X p q E n d d0 ds from ⟨HV.out.1, HV.out.2, hf, hdig⟩)
  have H4 := Lib.hid (And.intro (H3.out.1.below b4) (back_of' H3.out.2.1 b4))
  have hE := few_exp hf HV.out.1 hX h0 HV.out.2
  have hn := hf.n0
  rw [hdig, hdl]
  clear b4 H3 HFe hf
  go_wp2_with fail
  refine (short_any W.heap.size W.heap.size [] d0 ds _ w4 H4.out.1 (by simp) (by omega) (by omega) H4.out.2.size (HT.out.2.below (back_of' HA.out H4.out.2) HT.out.2.2) (Nat.lt_trans HT.out.2.2 hws)).mono ?_
  rintro e w5 ⟨rfl, b5⟩
  have HB := Lib.hid (back_of' HA.out (H4.out.2.trans b5))
  clear b5
  go_wp2_with fail
  go_ret
  exact ⟨p, q, n, d, E, d0, ds, HF.out, rfl, HB.out⟩
end Go.Proofs.YtmecnlgndaeidaaGreatDoor.Nb
