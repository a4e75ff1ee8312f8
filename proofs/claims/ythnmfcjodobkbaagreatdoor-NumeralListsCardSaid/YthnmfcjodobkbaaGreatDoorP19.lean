/- E7 E8 in one text. -/
import Derived.Test.YthnmfcjodobkbaaGreatDoorP18
import Derived.Test.YthnmfcjodobkbaaGreatDoorP16

namespace Go.Proofs.YthnmfcjodobkbaaGreatDoor.Nb
open Go Go.RowKit

set_option maxRecDepth 8000 in
theorem again_tenth (z xv : Nat) (w : World) (hx : RatN w z false 1 10) (hv : w.cell? ⟨xv, 0, none⟩ = some (.float .f64 4591870180066957722)) (hb : xv < w.heap.size) :
    Calls Tryz.prog 43 #[.pointer (some ⟨z, 0, none⟩), .pointer (some ⟨xv, 0, none⟩)] w fun e w' => e = .returned (.bool true) ∧ Below w.heap.size w w' := by
  have HF := Lib.hid (float_tenth z w hx)
  clear hx
  go_enter Tryz.func43, Tryz.ntmps43
  go_wp2_with fail
  refine HF.out.mono ?_
  rintro e w1 ⟨rfl, b1⟩
  have c1 := (b1.cell (p := ⟨xv, 0, none⟩) (by exact hb)).trans hv
  have HB1 := Lib.hid b1
  clear b1
  go_wp2_with fail
  refine (abs_pos 4591870180066957722 w1 (by decide)).mono ?_
  rintro e w2 ⟨rfl, hw⟩
  obtain rfl := hw.symm
  go_wp2_with fail
  go_ret
  exact ⟨rfl, HB1.out⟩
set_option maxRecDepth 8000 in
theorem again_fifth (z xv : Nat) (w : World) (hx : RatN w z false 1 5) (hv : w.cell? ⟨xv, 0, none⟩ = some (.float .f64 4591870180066957722)) (hb : xv < w.heap.size) :
    Calls Tryz.prog 43 #[.pointer (some ⟨z, 0, none⟩), .pointer (some ⟨xv, 0, none⟩)] w fun e w' => e = .returned (.bool false) ∧ Below w.heap.size w w' := by
  have HF := Lib.hid (float_fifth z w hx)
  clear hx
  go_enter Tryz.func43, Tryz.ntmps43
  go_wp2_with fail
  refine HF.out.mono ?_
  rintro e w1 ⟨rfl, b1⟩
  have c1 := (b1.cell (p := ⟨xv, 0, none⟩) (by exact hb)).trans hv
  have HB1 := Lib.hid b1
  clear b1
  go_wp2_with fail
  refine (abs_pos 4591870180066957722 w1 (by decide)).mono ?_
  rintro e w2 ⟨rfl, hw⟩
  obtain rfl := hw.symm
  go_wp2_with fail
  go_ret
  exact ⟨rfl, HB1.out⟩

set_option maxRecDepth 8000 in
set_option maxHeartbeats 2000000 in
/-- the closure read: a digit string's number, times the unit, is read again as the number -/
theorem read_ex (b n P Q ca cu u xv : Nat) (bb : Bool) (w : World) (hn : IntN w b 0 false n) (h0 : 0 < n) (ha : w.cell? ⟨ca, 0, none⟩ = some (.func (.func 43) #[] #[.pointer (some ⟨xv, 0, none⟩)])) (hca : ca < w.heap.size)
    (hc : w.cell? ⟨cu, 0, none⟩ = some (.pointer (some ⟨u, 0, none⟩))) (hcu : cu < w.heap.size) (hu : RatN w u false 1 10)
    (hP : n / Nat.gcd n 10 * (1 / Nat.gcd 1 1) = P) (hQ : 1 / Nat.gcd 1 1 * (10 / Nat.gcd n 10) = Q) (hPl : P < 18446744073709551616) (hQl : Q < 18446744073709551616) (hQ0 : 0 < Q)
    (HG : Hid (∀ (z : Nat) (W : World), Below w.heap.size w W → RatN W z false P Q → Calls Tryz.prog 43 #[.pointer (some ⟨z, 0, none⟩), .pointer (some ⟨xv, 0, none⟩)] W fun e w' => e = .returned (.bool bb) ∧ Below W.heap.size W w')) :
    Calls Tryz.prog 80 #[.pointer (some ⟨b, 0, none⟩), .pointer (some ⟨ca, 0, none⟩), .pointer (some ⟨cu, 0, none⟩)] w fun e w' => e = .returned (.bool bb) ∧ Below w.heap.size w w' := by
  have HS := Lib.hid (sign_pos b 0 n w hn h0)
  have HE := Lib.hid (And.intro hP (And.intro hQ (And.intro hPl (And.intro hQl hQ0))))
  have HN := Lib.hid (And.intro hn hu)
  clear hn hu hP hQ hPl hQl hQ0
  go_enter Tryz.func80, Tryz.ntmps80
  go_wp2_with fail
  have hcur : Below w.heap.size w w.drew := (Below.refl _ _).drew
  have HSC := Lib.hid (fun (V : World) (hV : Below w.heap.size w V) => (show V.cell? ⟨ca, 0, none⟩ = some (.func (.func 43) #[] #[.pointer (some ⟨xv, 0, none⟩)]) ∧ V.cell? ⟨cu, 0, none⟩ = some (.pointer (some ⟨u, 0, none⟩)) from ⟨(hV.cell (p := ⟨ca, 0, none⟩) (by exact hca)).trans ha, (hV.cell (p := ⟨cu, 0, none⟩) (by exact hcu)).trans hc⟩))
  have H1 : Hid (RSlot ((w.drew.alloc (.cells #[.bool false, .slice none 0 0, .bool false, .slice none 0 0] 111)).alloc (.cells #[.bool false, .slice none 0 0, .bool false, .slice none 0 0] 111)) (w.heap.size + 1)) := Lib.hid (by have := RSlot.new (w.drew.alloc (.cells #[.bool false, .slice none 0 0, .bool false, .slice none 0 0] 111)) 111; simpa using this)
  have H2 : Hid (RSlot ((w.drew.alloc (.cells #[.bool false, .slice none 0 0, .bool false, .slice none 0 0] 111)).alloc (.cells #[.bool false, .slice none 0 0, .bool false, .slice none 0 0] 111)) w.heap.size) := Lib.hid ((RSlot.new w.drew 111).below ((Below.refl _ _).alloc (Nat.le_refl _) _) (Nat.le_refl _))
  have H3 : Hid (RSlot (w.drew.alloc (.cells #[.bool false, .slice none 0 0, .bool false, .slice none 0 0] 111)) w.heap.size) := Lib.hid (RSlot.new w.drew 111)
  go_region_held3 (fun w' => w'.cell? ⟨ca, 0, none⟩ = some (.func (.func 43) #[] #[.pointer (some ⟨xv, 0, none⟩)]) ∧ w'.cell? ⟨cu, 0, none⟩ = some (.pointer (some ⟨u, 0, none⟩))) (first | exact HSC.out _ (by first | exact hcur7 | exact hcur6 | exact hcur3 | exact hcur3.alloc hcur3.size _ | exact hcur | exact hcur.alloc hcur.size _ | exact (hcur.alloc hcur.size _).alloc (hcur.alloc hcur.size _).size _)) (first | (go_at_call 81; refine (sign_pos b 0 n w.drew HN.out.1 h0).mono ?_; rintro e w2 ⟨rfl, rfl⟩) | (go_at_call 66; refine (setint_kept _ b 0 n _ (by first | exact H3.out | exact H1.out | exact H2.out) (HN.out.1.below (by first | exact hcur.alloc hcur.size _ | exact (hcur.alloc hcur.size _).alloc (hcur.alloc hcur.size _).size _) (Nat.le_refl _)) (by have := HN.out.1.1; omega)).mono ?_; rintro e w3 ⟨rfl, r3, s3, b3, k3⟩; have hcur3 : Below w.heap.size w w3 := (by first | exact (hcur.alloc hcur.size (.cells #[.bool false, .slice none 0 0, .bool false, .slice none 0 0] 111)).trans (b3.mono (by omega)) | exact ((hcur.alloc hcur.size (.cells #[.bool false, .slice none 0 0, .bool false, .slice none 0 0] 111)).alloc (hcur.alloc hcur.size (.cells #[.bool false, .slice none 0 0, .bool false, .slice none 0 0] 111)).size (.cells #[.bool false, .slice none 0 0, .bool false, .slice none 0 0] 111)).trans (b3.mono (by omega))); (first | (have HRa : Hid (RatN w3 w.heap.size false n 1) := Lib.hid r3) | (have HRb : Hid (RatN w3 (w.heap.size + 1) false n 1) := Lib.hid r3)); have HK := Lib.hid k3; clear r3 s3 b3 k3) | (go_at_call 65; refine (ratmul_any _ _ u n 1 1 10 P Q _ (by first | exact H2.out.kept HK.out (by omega) | exact H1.out.kept HK.out (by omega) | exact RSlot.new w3 111) (by first | exact HRa.out | exact HRb.out | exact HRa.out.below ((Below.refl _ _).alloc (Nat.le_refl _) _) (Nat.le_refl _)) (by first | exact HN.out.2.below hcur3 (Nat.le_refl _) | exact HN.out.2.below (hcur3.alloc hcur3.size _) (Nat.le_refl _)) HE.out.1 HE.out.2.1 HE.out.2.2.1 HE.out.2.2.2.1 HE.out.2.2.2.2).mono ?_; rintro e w6 ⟨rfl, r6, s6, b6⟩; have hcur6 : Below w.heap.size w w6 := (by have z3 := hcur3.size; first | exact hcur3.trans (b6.mono (by omega)) | exact (hcur3.alloc hcur3.size (.cells #[.bool false, .slice none 0 0, .bool false, .slice none 0 0] 111)).trans (b6.mono (by omega))); have HG6 := Lib.hid (HG.out _ _ hcur6 r6); clear r6 s6 b6) | (go_at_call 43; refine HG6.out.mono ?_; rintro e w7 ⟨rfl, b7⟩; have hcur7 := back_of' hcur6 b7; clear b7))
  all_goals go_wp2_with fail
  all_goals go_ret
  all_goals exact ⟨rfl, hcur7⟩
end Go.Proofs.YthnmfcjodobkbaaGreatDoor.Nb

namespace Go.Proofs.YthnmfcjodobkbaaGreatDoor.Nb
open Go Go.RowKit

structure FewC (w W : World) (x xv cu u z3 : Nat) : Prop where
  b : Below w.heap.size w W
  rx : RatN W x false 3602879701896397 36028797018963968
  cx : W.cell? ⟨xv, 0, none⟩ = some (.float .f64 4591870180066957722) ∧ xv < w.heap.size
  ca : W.cell? ⟨w.heap.size, 0, none⟩ = some (.func (.func 43) #[] #[.pointer (some ⟨xv, 0, none⟩)]) ∧ w.heap.size < W.heap.size
  cc : W.cell? ⟨cu, 0, none⟩ = some (.pointer (some ⟨u, 0, none⟩)) ∧ cu < W.heap.size
  ru : RatN W u false 1 10
  rz : RatN W z3 false 18014398509481985 18014398509481984
theorem FewC.below {w W W' : World} {x xv cu u z3 : Nat} (h : FewC w W x xv cu u z3) (k : Below W.heap.size W W') : FewC w W' x xv cu u z3 :=
  ⟨back_of' h.b k, h.rx.below k (Nat.le_refl _), ⟨(k.cell (p := ⟨xv, 0, none⟩) (Nat.lt_of_lt_of_le h.cx.2 h.b.size)).trans h.cx.1, h.cx.2⟩, ⟨(k.cell (p := ⟨w.heap.size, 0, none⟩) h.ca.2).trans h.ca.1, Nat.lt_of_lt_of_le h.ca.2 k.size⟩, ⟨(k.cell (p := ⟨cu, 0, none⟩) h.cc.2).trans h.cc.1, Nat.lt_of_lt_of_le h.cc.2 k.size⟩, h.ru.below k (Nat.le_refl _), h.rz.below k (Nat.le_refl _)⟩

set_option maxRecDepth 8000 in
set_option maxHeartbeats 4000000 in
theorem fewest_ex (x xv : Nat) (w : World) (hx : RatN w x false 3602879701896397 36028797018963968) (hv : w.cell? ⟨xv, 0, none⟩ = some (.float .f64 4591870180066957722)) (hxv : xv < w.heap.size) :
    Calls Tryz.prog 41 #[.pointer (some ⟨x, 0, none⟩), .func (.func 43) #[] #[.pointer (some ⟨xv, 0, none⟩)]] w fun e w' => e = .returned (.tuple #[.string ⟨#[49]⟩, .int .i64 (-1)]) ∧ Below w.heap.size w w' := by
  have hmf : ∀ (fn : Fn) (first cap : Array Value) (w : World), (Instr.makeFunc fn first cap).run Tryz.prog w = .ok (.func fn first cap) w := fun _ _ _ _ => rfl
  have hA := (Below.refl w.heap.size w).alloc (Nat.le_refl _) (.cells #[.func (.func 43) #[] #[.pointer (some ⟨xv, 0, none⟩)]] 91)
  have hca : (w.alloc (.cells #[.func (.func 43) #[] #[.pointer (some ⟨xv, 0, none⟩)]] 91)).cell? ⟨w.heap.size, 0, none⟩ = some (.func (.func 43) #[] #[.pointer (some ⟨xv, 0, none⟩)]) := by simp [go_sem]
  have hcs : w.heap.size < (w.alloc (.cells #[.func (.func 43) #[] #[.pointer (some ⟨xv, 0, none⟩)]] 91)).heap.size := by simp
  have HD := Lib.hid (decade_ex x _ (hx.below hA (Nat.le_refl _)))
  have H0 := Lib.hid (And.intro hA (And.intro hca hcs))
  have HX := Lib.hid (And.intro hx hv)
  clear hA hca hcs hx hv
  go_enter Tryz.func41, Tryz.ntmps41
  go_wp2_with fail
  refine HD.out.mono ?_
  rintro e w1 ⟨rfl, b1⟩
  have H1 := Lib.hid (And.intro (H0.out.1.trans (b1.mono H0.out.1.size)) (And.intro ((b1.cell (p := ⟨w.heap.size, 0, none⟩) H0.out.2.2).trans H0.out.2.1) (Nat.lt_of_lt_of_le H0.out.2.2 b1.size)))
  clear b1 H0 HD
  go_wp2_with fail
  go_loopw [7] (fun v wr => v = .int .i64 1 ∧ w1 = wr) (fun _ _ => 0)
  case atStart => exact ⟨rfl, rfl⟩
  case round =>
    obtain ⟨rfl, rfl⟩ := hrel
    go_wp2_with fail
    refine (ten_neg 1 10 (-1) w1 (by omega) (by omega) (by omega) (by decide) (by omega)).mono ?_
    rintro e w2 ⟨u, rfl, hu0, r2, s2, c2⟩
    have hB := (back_of' H1.out.1 c2)
    have hb2 := (Below.refl w2.heap.size w2).alloc (Nat.le_refl _) (.cells #[.pointer (some ⟨u, 0, none⟩)] 74)
    have hb3 := hb2.alloc hb2.size (.cells #[.bool false, .slice none 0 0, .bool false, .slice none 0 0] 111)
    have hs3 : RSlot ((w2.alloc (.cells #[.pointer (some ⟨u, 0, none⟩)] 74)).alloc (.cells #[.bool false, .slice none 0 0, .bool false, .slice none 0 0] 111)) (w2.heap.size + 1) := by
      have := RSlot.new (w2.alloc (.cells #[.pointer (some ⟨u, 0, none⟩)] 74)) 111
      simpa using this
    have hc3 : ((w2.alloc (.cells #[.pointer (some ⟨u, 0, none⟩)] 74)).alloc (.cells #[.bool false, .slice none 0 0, .bool false, .slice none 0 0] 111)).cell? ⟨w2.heap.size, 0, none⟩ = some (.pointer (some ⟨u, 0, none⟩)) := by simp [go_sem]
    have HQ := Lib.hid (ratquo_any (w2.heap.size + 1) x u 3602879701896397 36028797018963968 1 10 18014398509481985 18014398509481984 _ hs3 (HX.out.1.below (back_of' hB hb3) (Nat.le_refl _)) (r2.below hb3 (Nat.le_refl _)) (by omega) (by decide) (by decide) (by omega) (by omega) (by omega))
    have HC0 := Lib.hid (And.intro hB (And.intro hb3 (And.intro hc3 (And.intro r2 (And.intro ((c2.cell (p := ⟨w.heap.size, 0, none⟩) H1.out.2.2).trans H1.out.2.1) (Nat.lt_of_lt_of_le H1.out.2.2 c2.size))))))
    clear r2 s2 c2 hb2 hb3 hs3 hc3 hB H1
    go_wp2_with fail
    refine HQ.out.mono ?_
    rintro e w3 ⟨rfl, r3, s3, b3⟩
    have HC : Hid (FewC w w3 x xv w2.heap.size u (w2.heap.size + 1)) := Lib.hid (by
      obtain ⟨g1, g2, g3, g4, g5, g6⟩ := HC0.out
      have k := g2.trans (b3.mono (Nat.le_succ _))
      have kk := back_of' g1 k
      exact ⟨kk, HX.out.1.below kk (Nat.le_refl _), ⟨(kk.cell (p := ⟨xv, 0, none⟩) hxv).trans HX.out.2, hxv⟩, ⟨(k.cell (p := ⟨w.heap.size, 0, none⟩) g6).trans g5, Nat.lt_of_lt_of_le g6 k.size⟩, ⟨(b3.cell (p := ⟨w2.heap.size, 0, none⟩) (Nat.lt_succ_self _)).trans g3, Nat.lt_of_lt_of_le (by simp; omega) b3.size⟩, g4.below k (Nat.le_refl _), r3⟩)
    clear r3 s3 b3 HC0 HQ HX
    go_wp2_with fail
    have hA4 := (Below.refl w3.heap.size w3).alloc (Nat.le_refl _) (.cells #[.bool false, .slice none 0 0] 109)
    have HN4 := Lib.hid (num_any (w2.heap.size + 1) _ _ _ (HC.out.below hA4).rz)
    have HA4 := Lib.hid (And.intro hA4 (ISlot.new w3 109))
    clear hA4
    refine HN4.out.mono ?_
    rintro e w4 ⟨b4, rfl, hb4, i4, s4, c4⟩
    have H4 := Lib.hid (And.intro (back_of' HA4.out.1 c4) (And.intro i4 (HA4.out.2.below c4 (Nat.le_refl _))))
    clear i4 s4 c4 HN4 HA4
    go_wp2_with fail
    refine (denom_any (w2.heap.size + 1) _ _ w4 (HC.out.below H4.out.1).rz).mono ?_
    rintro e w5 ⟨b5, rfl, hb5, i5, s5, c5⟩
    have H5 := Lib.hid (And.intro (back_of' H4.out.1 c5) (And.intro (H4.out.2.1.below c5 (Nat.le_refl _)) (And.intro (H4.out.2.2.below c5 (Nat.le_refl _)) i5)))
    clear i5 s5 c5 H4
    go_wp2_with fail
    refine (quo_any w3.heap.size 0 b4 0 18014398509481985 b5 0 18014398509481984 w5 H5.out.2.2.1 H5.out.2.1 H5.out.2.2.2 (by omega)).mono ?_
    rintro e w6 ⟨rfl, i6, s6, b6⟩
    rw [show 18014398509481985 / 18014398509481984 = 1 by decide] at i6
    have HC := Lib.hid (HC.out.below (H5.out.1.trans b6))
    have HL := Lib.hid i6
    have hl6 : w3.heap.size < w6.heap.size := i6.1
    clear i6 s6 b6 H5
    go_wp2_with fail
    have hA7 := (Below.refl w6.heap.size w6).alloc (Nat.le_refl _) (.cells #[.bool false, .slice none 0 0] 109)
    have HA7 := Lib.hid (And.intro hA7 (ISlot.new w6 109))
    clear hA7
    refine (newInt_any 1 _ (by omega)).mono ?_
    rintro e w7 ⟨b7, rfl, hb7, i7, s7, c7⟩
    have H7 := Lib.hid (And.intro (back_of' HA7.out.1 c7) (And.intro i7 (HA7.out.2.below c7 (Nat.le_refl _))))
    clear i7 s7 c7 HA7
    go_wp2_with fail
    refine (add_pos w6.heap.size 0 w3.heap.size 0 1 b7 0 1 w7 H7.out.2.2 (HL.out.below H7.out.1 (Nat.le_refl _)) H7.out.2.1 (by omega)).mono ?_
    rintro e w8 ⟨rfl, i8, s8, b8⟩
    have HC := Lib.hid (HC.out.below (H7.out.1.trans b8))
    have HL := Lib.hid (HL.out.below (H7.out.1.trans b8) (Nat.le_refl _))
    have HH : Hid (IntN w8 w6.heap.size 0 false 2) := Lib.hid i8
    clear i8 s8 b8 H7
    go_wp2_with fail
    refine (read_ex w3.heap.size 1 1 10 w.heap.size w2.heap.size u xv true w8 HL.out (by omega) HC.out.ca.1 HC.out.ca.2 HC.out.cc.1 HC.out.cc.2 HC.out.ru (by decide) (by decide) (by omega) (by omega) (by omega) (Lib.hid (fun z W hW hr => again_tenth z xv W hr (HC.out.below hW).cx.1 (Nat.lt_of_lt_of_le HC.out.cx.2 (HC.out.below hW).b.size)))).mono ?_
    rintro e w9 ⟨rfl, b9⟩
    have HC := Lib.hid (HC.out.below b9)
    have HL := Lib.hid (HL.out.below b9 (Nat.le_refl _))
    have HH := Lib.hid (HH.out.below b9 (Nat.le_refl _))
    clear b9
    go_wp2_with fail
    refine (read_ex w6.heap.size 2 1 5 w.heap.size w2.heap.size u xv false w9 HH.out (by omega) HC.out.ca.1 HC.out.ca.2 HC.out.cc.1 HC.out.cc.2 HC.out.ru (by decide) (by decide) (by omega) (by omega) (by omega) (Lib.hid (fun z W hW hr => again_fifth z xv W hr (HC.out.below hW).cx.1 (Nat.lt_of_lt_of_le HC.out.cx.2 (HC.out.below hW).b.size)))).mono ?_
    rintro e w10 ⟨rfl, b10⟩
    have HC := Lib.hid (HC.out.below b10)
    have HL := Lib.hid (HL.out.below b10 (Nat.le_refl _))
    have hl10 : w3.heap.size < w10.heap.size := HL.out.1
    clear b10 HH
    go_wp2_with fail
    have hA11 := ((Below.refl w10.heap.size w10).alloc (Nat.le_refl _) (.cells #[.bool false, .slice none 0 0, .bool false, .slice none 0 0] 111))
    have hA12 := hA11.alloc hA11.size (.cells #[.bool false, .slice none 0 0, .bool false, .slice none 0 0] 111)
    have hs56 : RSlot ((w10.alloc (.cells #[.bool false, .slice none 0 0, .bool false, .slice none 0 0] 111)).alloc (.cells #[.bool false, .slice none 0 0, .bool false, .slice none 0 0] 111)) (w10.heap.size + 1) := by
      have := RSlot.new (w10.alloc (.cells #[.bool false, .slice none 0 0, .bool false, .slice none 0 0] 111)) 111
      simpa using this
    have hs54 := (RSlot.new w10 111).below ((Below.refl _ _).alloc (Nat.le_refl _) (.cells #[.bool false, .slice none 0 0, .bool false, .slice none 0 0] 111)) (Nat.le_refl _)
    have HI := Lib.hid (setint_kept (w10.heap.size + 1) w3.heap.size 0 1 _ hs56 (HL.out.below hA12 (Nat.le_refl _)) (by omega))
    have HA := Lib.hid (And.intro hA12 hs54)
    clear hA11 hA12 hs56 hs54
    refine HI.out.mono ?_
    rintro e w11 ⟨rfl, r11, s11, b11, k11⟩
    have hb11 := HA.out.1.trans (b11.mono (Nat.le_succ _))
    have HCx := Lib.hid (HC.out.below hb11)
    have HBx := Lib.hid hb11
    have H11 := Lib.hid (And.intro r11 (HA.out.2.kept k11 (by omega)))
    clear r11 s11 b11 k11 hb11 HI HA
    go_wp2_with fail
    refine (ratsub_any w10.heap.size (w2.heap.size + 1) (w10.heap.size + 1) 18014398509481985 18014398509481984 1 1 1 18014398509481984 1 18014398509481985 18014398509481984 1 1 1 1 18014398509481984 w11 H11.out.2 HCx.out.rz H11.out.1 (by omega) (by decide) (by decide) (by decide) (by decide) (by decide) (by omega) (by decide) (by decide) (by decide) (by decide) (by decide) (by omega) (by omega) (by omega)).mono ?_
    rintro e w12 ⟨rfl, r12, s12, b12⟩
    have H12 := Lib.hid (And.intro r12 (And.intro (HBx.out.trans b12) (HL.out.below (HBx.out.trans b12) (Nat.le_refl _))))
    clear r12 s12 b12 HCx HBx H11
    go_wp2_with fail
    refine (newrat_any 1 2 w12 (by omega) (by omega) (by decide) (by omega)).mono ?_
    rintro e w13 ⟨b13, rfl, hb13, r13, s13, c13⟩
    have HCm := Lib.hid (ratcmp_any w10.heap.size b13 1 18014398509481984 1 2 2 18014398509481984 w13 (H12.out.1.below c13 (Nat.le_refl _)) r13 (by decide) (by decide) (by omega) (by omega))
    rw [show cmpN 2 18014398509481984 = -1 by decide] at HCm
    have H13 := Lib.hid (And.intro (H12.out.2.1.trans (c13.mono H12.out.2.1.size)) (H12.out.2.2.below c13 (Nat.le_refl _)))
    clear r13 s13 c13 H12
    go_wp2_with fail
    refine HCm.out.mono ?_
    rintro e w14 ⟨rfl, b14⟩
    have H14 := Lib.hid (And.intro (back_of' HC.out.b (H13.out.1.trans (b14.mono H13.out.1.size))) (H13.out.2.below b14 (Nat.le_refl _)))
    clear b14 H13 HCm HC HL
    go_wp2_with fail
    refine (string_one w3.heap.size 0 w14 H14.out.2).mono ?_
    rintro e w15 ⟨rfl, b15⟩
    have H15 := Lib.hid (back_of' H14.out.1 b15)
    clear b15 H14
    go_wp2_with fail
    go_ret2
    exact ⟨rfl, H15.out⟩
end Go.Proofs.YthnmfcjodobkbaaGreatDoor.Nb
