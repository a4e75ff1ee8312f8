/- HD13 HB10 HB11 HF0 in one text. -/
import Derived.Test.YtgccfdfbnhldbaaGreatDoorP32
import Derived.Test.YtgccfdfbnhldbaaGreatDoorP20
import Derived.Test.YtgccfdfbnhldbaaGreatDoorP31
import Derived.Test.YtgccfdfbnhldbaaGreatDoorP30
import Derived.Test.YtgccfdfbnhldbaaGreatDoorP29
import Derived.Test.YtgccfdfbnhldbaaGreatDoorP27
import Derived.Test.YtgccfdfbnhldbaaGreatDoorP13

namespace Go.Proofs.YtgccfdfbnhldbaaGreatDoor.Nb
open Go Go.RowKit Nx

theorem conv_nan {s k : FloatKind} {src dst : TypeId} {b : Nat} {sg : Bool} {fr : Nat} (hs : (Tryz.prog.underlying src).isSome = true) (hd : Tryz.prog.underlying dst = some (.float k)) (ne : s ≠ k) (h : s.decode b = .nan sg fr) (W : World) :
    (convert src dst (.float s b)).run Tryz.prog W = .ok (.float k ((Question.nanConv k b).cut (W.tape W.drawn (.nanConv k b)))) W.drew := by
  obtain ⟨u, hs'⟩ := Option.isSome_iff_exists.1 hs
  cases u <;> simp [convert, run_underlying hs', run_underlying hd, Conv.floatToFloat, ne, h, choose] <;> rfl
theorem cut64 (b t : Nat) : (Question.nanConv .f64 b).cut t < 18446744073709551616 ∧ nanN ((Question.nanConv .f64 b).cut t) = true := by
  unfold Question.cut nanN
  simp only
  rw [show (2 : Nat) ^ 63 = 9223372036854775808 by decide, show (2 : Nat) ^ 52 - 1 = 4503599627370495 by decide]
  rw [decide_eq_true_eq]
  have h1 : t % 2 = 0 ∨ t % 2 = 1 := by omega
  have h2 : t / 2 % 4503599627370495 < 4503599627370495 := Nat.mod_lt _ (by omega)
  generalize t / 2 % 4503599627370495 = r at *
  rcases h1 with h | h <;> rw [h] <;> omega
theorem cut32 (b t : Nat) : (Question.nanConv .f32 b).cut t < 4294967296 ∧ cn32 ((Question.nanConv .f32 b).cut t) = 2143289344 := by
  have h : (Question.nanConv .f32 b).cut t < 4294967296 ∧ nan32 ((Question.nanConv .f32 b).cut t) = true := by
    unfold Question.cut nan32
    simp only
    rw [show (2 : Nat) ^ 31 = 2147483648 by decide, show (2 : Nat) ^ 23 - 1 = 8388607 by decide]
    rw [decide_eq_true_eq]
    have h1 : t % 2 = 0 ∨ t % 2 = 1 := by omega
    have h2 : t / 2 % 8388607 < 8388607 := Nat.mod_lt _ (by omega)
    generalize t / 2 % 8388607 = r at *
    rcases h1 with h | h <;> rw [h] <;> omega
  refine ⟨h.1, ?_⟩
  unfold cn32
  rw [if_pos h.2]
theorem read_nan32 {b : Nat} (h : nan32 b = true) : ∃ sg fr, FloatKind.f32.decode b = .nan sg fr := by
  have e1 : Ieee.single.signWeight = 2147483648 := by decide
  have e2 : Ieee.single.binade = 8388608 := by decide
  have e3 : Ieee.single.infRung = 2139095040 := by decide
  unfold nan32 at h
  rw [decide_eq_true_eq] at h
  show ∃ sg fr, Ieee.single.read b = _
  unfold Ieee.Format.read
  simp only [e1, e2, e3]
  rw [if_neg (by omega), if_neg (by omega), if_neg (by omega)]
  exact ⟨_, _, rfl⟩
theorem spec_nan {f : Nat} (h : nanN f = true) : specL f = [110, 97, 110] := by unfold specL; rw [if_pos h]
/-- Short32's text, read -/
theorem short32_back (f : Nat) (w : World) (hf : f < 4294967296) (hT : Tab64 w) (hP : TabP w) : Calls Tryz.prog 12 #[.float .f32 f] w fun e w' => ∃ s : ByteArray, e = .returned (.string s) ∧ Below w.heap.size w w' ∧ ∀ W, Calls Tryz.prog 11 #[.string s] W fun e' W' => e' = .returned (.tuple #[.float .f32 (cn32 f), .int .i64 0]) ∧ Below W.heap.size W W' := by
  by_cases hn : nan32 f = true
  · have hc : cn32 f = 2143289344 := by unfold cn32; rw [if_pos hn]
    rw [hc]
    obtain ⟨sg, fr, hr⟩ := read_nan32 hn
    refine (Short32_spec f [110, 97, 110] w (fun W => (Question.nanConv .f64 f).cut (W.tape W.drawn (.nanConv .f64 f))) (fun W => ⟨(cut64 f _).1, spec_nan (cut64 f _).2⟩) (by simp) (fun W => W.drew) (fun W => conv_nan (by kernel_rfl) (by kernel_rfl) (by decide) hr W) (fun W => (Below.refl _ _).drew)).mono ?_
    rintro e w' ⟨rfl, hb⟩
    refine ⟨_, rfl, hb, fun W => ?_⟩
    have hs : specL 9221120237041090561 = [110, 97, 110] := by decide
    have hr2 : FloatKind.f64.decode (cnN 9221120237041090561) = .nan false 2251799813685249 := by decide +kernel
    exact parse32_spec 9221120237041090561 2143289344 _ W hs.symm (by rw [hs]; simp) (fun W => (Question.nanConv .f32 (cnN 9221120237041090561)).cut (W.tape W.drawn (.nanConv .f32 (cnN 9221120237041090561)))) (fun W => W.drew) (fun W => conv_nan (by kernel_rfl) (by kernel_rfl) (by decide) hr2 W) (fun W => (Below.refl _ _).drew) (fun W => cut32 _ _)
  · have hcn : cn32 f = f := by unfold cn32; rw [if_neg hn]
    rw [hcn]
    have hn' : ¬ 2139095040 < f % 2147483648 := by unfold nan32 at hn; simpa using hn
    have inf : ∀ (a F : Nat) (l : List UInt8), f = a → floatToFloatBits .f32 a .f64 = some F → floatToFloatBits .f64 (cnN F) .f32 = some a → F < 18446744073709551616 → specL F = l → l ≠ [] → cn32 a = a → a < 4294967296 → Calls Tryz.prog 12 #[.float .f32 f] w fun e w' => ∃ s : ByteArray, e = .returned (.string s) ∧ Below w.heap.size w w' ∧ ∀ W, Calls Tryz.prog 11 #[.string s] W fun e' W' => e' = .returned (.tuple #[.float .f32 f, .int .i64 0]) ∧ Below W.heap.size W W' := by
      rintro a F l rfl h1 h2 h3 h4 h5 h6 h7
      refine (Short32_spec f l w (fun _ => F) (fun W => ⟨h3, h4⟩) h5 (fun W => W) (fun W => conv_up W h1) (fun W => Below.refl _ _)).mono ?_
      rintro e w' ⟨rfl, hb⟩
      refine ⟨_, rfl, hb, fun W => ?_⟩
      exact parse32_spec F f _ W h4.symm (by rw [h4]; exact h5) (fun _ => f) (fun W => W) (fun W => conv_down W h2) (fun W => Below.refl _ _) (fun W => ⟨h7, h6⟩)
    by_cases h1 : f = 2139095040
    · exact inf 2139095040 9218868437227405312 [43, 105, 110, 102] h1 (by decide +kernel) (by decide +kernel) (by omega) (by decide) (by simp) (by decide) (by omega)
    · by_cases h2 : f = 4286578688
      · exact inf 4286578688 18442240474082181120 [45, 105, 110, 102] h2 (by decide +kernel) (by decide +kernel) (by omega) (by decide) (by simp) (by decide) (by omega)
      · have hfin : f % 2147483648 < 2139095040 := by omega
        have hsg : sgL (wideB f) = sgn (decide (2147483648 ≤ f)) := by rw [sgL_wide hfin]; unfold sgn; by_cases c : 2147483648 ≤ f <;> simp [c]
        by_cases h0 : f % 2147483648 = 0
        · refine (Short32_zero f w hf h0 hT).mono ?_
          rintro e w' ⟨rfl, hb⟩
          refine ⟨_, rfl, hb, fun W => ?_⟩
          have hok : (⟨decide (2147483648 ≤ f), [48], none, none⟩ : DTxt).Ok := ⟨fun x hx => by simp at hx; subst hx; decide, by simp, fun l hl => (by cases hl), fun b l hl => (by cases hl)⟩
          refine (parse32_any _ ⟨decide (2147483648 ≤ f), [48], none, none⟩ W ?_ hok ?_).mono ?_
          · rw [hsg]; unfold DTxt.list; simp [fracT, expT]
          · unfold sgL; split <;> simp [ByteArray.size]
          · rintro e' W' ⟨g, c, rfl, hs, hb'⟩
            refine ⟨?_, hb'⟩
            have hlow : (⟨decide (2147483648 ≤ f), [48], none, none⟩ : DTxt).low := .inl rfl
            rcases hs with ⟨-, -, h1 | ⟨Y, hY, hi⟩⟩ | ⟨rfl, Y, hY, -, hg⟩
            · exact absurd hlow h1.1
            · rcases hY with ⟨-, rfl⟩ | ⟨h1, -⟩
              · omega
              · exact absurd hlow h1
            · rcases hY with ⟨-, rfl⟩ | ⟨h1, -⟩
              · have : g = f := by
                  rw [hg]
                  by_cases c : 2147483648 ≤ f
                  · simp [c]; omega
                  · simp [c]; omega
                rw [this]
              · exact absurd hlow h1
        · refine (Short32_fin f (f % 2147483648) w hf rfl hfin (by omega) hT hP).mono ?_
          rintro e w' ⟨p, q, n, d, E, d0, ds, hs, rfl, hb⟩
          refine ⟨_, rfl, hb, fun W => ?_⟩
          obtain ⟨hok, hl, hh, hr⟩ := short_txt32 hs hfin (by omega) rfl (decide (2147483648 ≤ f))
          refine (parse32_any _ (shT (decide (2147483648 ≤ f)) d0 ds (E + (ds.length + 1 : Nat) - n)) W ?_ hok ?_).mono ?_
          · rw [hsg, shT_list]
          · obtain ⟨-, hd17, -⟩ := few_data32 hs
            have h1 := Sh.preT_len d0 ds
            have hE := few_exp32 hs.few hs.q0 hfin (by omega) hs.val
            have hn := hs.few.n0
            have h2 := Lib.itoa_length_le (E + (ds.length + 1 : Nat) - n) (by omega) (by omega)
            have h3 : (sgL (wideB f)).length ≤ 1 := by unfold sgL; split <;> simp
            rw [Sh.shortT_pre]
            obtain ⟨it, hit⟩ : ∃ it, Lib.itoa (E + (ds.length + 1 : Nat) - n) = it := ⟨_, rfl⟩
            rw [hit] at h2 ⊢
            show (sgL (wideB f) ++ (Sh.preT d0 ds ++ 101 :: it)).toArray.size ≤ 2000
            simp
            omega
          · rintro e' W' ⟨g, c, rfl, hsay, hb'⟩
            obtain ⟨rfl, hg⟩ := says_of32 hl hh hfin hr hsay
            refine ⟨?_, hb'⟩
            have : g = f := by
              rw [hg]
              unfold shT
              by_cases c : 2147483648 ≤ f
              · simp [c]; omega
              · simp [c]; omega
            rw [this]
end Go.Proofs.YtgccfdfbnhldbaaGreatDoor.Nb

namespace Go.Proofs.YtgccfdfbnhldbaaGreatDoor.Nb
open Go Go.RowKit

/-- new memory, or none -/
def NewO (w : World) (A : Option Addr) : Prop := ∀ a, A = some a → w.heap.size ≤ a.block
theorem NewO.nil (w : World) : NewO w none := fun a h => by cases h
theorem NewO.at {w : World} (o : Nat) : NewO w (some ⟨w.heap.size, o, none⟩) := fun a h => by injection h with h; subst h; exact Nat.le_refl _
theorem NewO.back {w w1 : World} {A : Option Addr} (h : NewO w1 A) (hs : w.heap.size ≤ w1.heap.size) : NewO w A := fun a ha => Nat.le_trans hs (h a ha)
def Num2N (w : World) (m n L L' : Nat) (e : Ending) (w' : World) : Prop := ∃ A k c A' k' c', e = .returned (.tuple #[.slice A k c, .slice A' k' c']) ∧ MagN w' (.slice A k c) m L ∧ MagN w' (.slice A' k' c') n L' ∧ Below w.heap.size w w' ∧ NewO w A'
theorem Num2N.more {w : World} {a b L L' M M' : Nat} (hL : L ≤ L') (hM : M ≤ M') : ∀ e w', Num2N w a b L M e w' → Num2N w a b L' M' e w' :=
  fun _ _ ⟨A, k, c, A', k', c', he, h1, h2, h3⟩ => ⟨A, k, c, A', k', c', he, h1.more hL, h2.more hM, h3⟩

set_option maxRecDepth 8000 in
set_option maxHeartbeats 2000000 in
theorem right_coreN (A : Option Addr) (M ca q s N n : Nat) (m : List Nat) (w : World) (hm : Mag w (.slice A M ca) m) (hl : M ≤ 536870912) (hs : s < 64) (hN : N = 64 * q + s) (hM : q + n = M) (hn : 0 < n) :
    Calls Tryz.prog 162 #[.slice A M ca, .int .u64 (N : Int)] w fun e w' => ∃ A' k' c' lost, e = .returned (.tuple #[.slice A' k' c', .bool lost]) ∧ MagN w' (.slice A' k' c') (val m / (18446744073709551616 ^ q * 2 ^ s)) n ∧ Below w.heap.size w w' ∧ NewO w A' := by
  have hla := hm.lenN
  have HA := Lib.hid hm
  have HL := Lib.hid (And.intro hla hM)
  have hmk := run_make_row' (P := Tryz.prog) 88 22 (.int .u64 0) 8 Tryz.underlying88 infoW rfl .i64 .i64 n (by omega) (by omega)
  have e1 : (N : Int) / 64 = (q : Int) := by omega
  have e2 : (N : Int) % 64 = (s : Int) := by omega
  have hN1 : (N : Int) ≤ 18446744073709551615 := by omega
  have hMn : (M : Int) - (q : Int) = (n : Int) := by omega
  have hqM : ¬ (M : Int) ≤ (q : Int) := by omega
  have hqM2 : (q : Int) ≤ (M : Int) := by omega
  have hqM3 : (q : Int) < (M : Int) := by omega
  obtain ⟨b1, o1, ea, hb1, hc1⟩ := hm.at (show q < M by omega)
  subst ea
  have hcM : (M : Int) ≤ (ca : Int) := by obtain ⟨_, _, e, h, -⟩ := hm; injection e with _ _ e; omega
  have HB1 := Lib.hid hb1
  obtain ⟨x0, hx0⟩ : ∃ x0, m.getD q 0 = x0 := ⟨_, rfl⟩
  rw [hx0] at hc1
  clear hm hla hN hM hx0 hb1
  go_enter Tryz.func162, Tryz.ntmps162
  go_wp2_with fail
  go_loopw [8, 39] (fun zv iv wr => ∃ (k : Nat) (z : Int), k ≤ q ∧ zv = .int .u64 z ∧ iv = .int .i64 (k : Int) ∧ w = wr) (fun _ iv _ => q - (intOf iv).toNat)
  case atStart => exact ⟨0, _, Nat.zero_le _, rfl, rfl, rfl⟩
  case round =>
    obtain ⟨k, z, hk, rfl, rfl, rfl⟩ := hrel
    by_cases hlt : k < q
    · obtain ⟨b2, o2, ea, hb2, hc2⟩ := HA.out.at (show k < M by have := HL.out; omega)
      injection ea with ea
      injection ea with ea eb _
      subst ea eb
      obtain ⟨x, hx⟩ : ∃ x, m.getD k 0 = x := ⟨_, rfl⟩
      rw [hx] at hc2
      have i0 : (0 : Int) ≤ (k : Int) := by omega
      have i1 : (k : Int) < (q : Int) := by omega
      clear hx hb2
      go_wp2_with fail
      go_roundw
      case rel => exact ⟨k + 1, _, by omega, rfl, by go_num, trivial⟩
      case measure => simp [intOf]; omega
    · obtain rfl : k = q := by omega
      clear hc1 hlt
      have hd0 : (0 : Int) ≤ (M : Int) - (k : Int) := by omega
      go_wp2_with fail
      clear hmk
      have H0 := Lib.hid (show RightW w w.heap.size n m k s 0 (w.alloc (.cells (madeCells #[.int .u64 0] n) 22)) from ⟨_, Blk.made w n, by simp, W64.rep _, right_start _ _ _ _, Clear.rep _ _, (Below.refl _ _).alloc (Nat.le_refl _) _⟩)
      go_loopw [54] (fun iv wr => ∃ i : Nat, i ≤ n ∧ iv = .int .i64 (i : Int) ∧ Hid (RightW w w.heap.size n m k s i wr)) (fun iv _ => n - (intOf iv).toNat)
      case atStart => exact ⟨0, Nat.zero_le _, rfl, H0⟩
      case round =>
        clear H0
        obtain ⟨i, hi, rfl, hp⟩ := hrel
        obtain ⟨os, hbk, hlen, hw, hst, hcl, hbel⟩ := hp.out
        by_cases hlt : i < n
        · have hfr : wr.frozen? ⟨w.heap.size, i, none⟩ = false := hbk.frozen _
          obtain ⟨o, ho⟩ : ∃ o, os.getD i 0 = o := ⟨_, rfl⟩
          have hco : wr.cell? ⟨w.heap.size, i, none⟩ = some (.int .u64 (o : Nat)) := by rw [← ho]; exact hbk.cell (by omega)
          obtain ⟨x, ex⟩ : ∃ x, m.getD (k + i) 0 = x := ⟨_, rfl⟩
          obtain ⟨y, ey⟩ : ∃ y, m.getD (k + i + 1) 0 = y := ⟨_, rfl⟩
          have HD1 := fun W (hW : Mag W _ m) => digit_any (some ⟨b1, o1, none⟩) M ca (k + i) m W hW (by omega)
          have HD2 := fun W (hW : Mag W _ m) => digit_any (some ⟨b1, o1, none⟩) M ca (k + i + 1) m W hW (by omega)
          have c1 : ((k + i : Nat) : Int) = (k : Int) + (i : Int) := by omega
          have c2 : ((k + i + 1 : Nat) : Int) = (k : Int) + (i : Int) + 1 := by omega
          rw [c1, ex] at HD1
          rw [c2, ey] at HD2
          have wx : x < 18446744073709551616 := by rw [← ex]; exact HA.out.w32.get _
          obtain ⟨r1, r2, r3, r4⟩ := right_word (y := y) hs wx
          obtain ⟨hv, ehv⟩ : ∃ hv, 2 ^ (64 - s) * (y % 2 ^ s) = hv := ⟨_, rfl⟩
          obtain ⟨d, ed⟩ : ∃ d, x / 2 ^ s + hv = d := ⟨_, rfl⟩
          have hwr : IntKind.u64.wrap ((y : Int) * 2 ^ (64 - s)) = (hv : Int) := by
            rw [show ((y : Int) * 2 ^ (64 - s)) = ((y * 2 ^ (64 - s) : Nat) : Int) by rw [Int.natCast_mul, Int.natCast_pow]; rfl]
            rw [IntKind.wrap_u64]; omega
          have hor : bits .or .u64 ((x : Int) / 2 ^ s) (hv : Int) = (d : Int) := by
            have h := or_high r1 r3
            rw [ehv] at h
            rw [← ed, ← h, Int.natCast_ediv, Int.natCast_pow]
            rfl
          have hdl : d < 18446744073709551616 := by omega
          have HS : Hid (RightSt m (os.set i d) k s (i + 1)) := Lib.hid (by
            have h := right_step hst hs wx ex ey (by have := HL.out; omega) (by omega) hcl
            rw [ehv, ed] at h
            exact h)
          have HO := Lib.hid (And.intro hbk (And.intro hlen (And.intro hw (And.intro hcl hbel))))
          have HDD := Lib.hid (And.intro HD1 HD2)
          have HMW := Lib.hid (HA.out.below hbel)
          have HDL := Lib.hid hdl
          have i0 : (0 : Int) ≤ (i : Int) := by omega
          have i1 : (i : Int) < (n : Int) := by omega
          clear hbk hlen hw hst hcl hbel ho ex ey wx r1 r2 r3 r4 ehv ed hdl HD1 HD2 c1 c2 hp
          go_wp2_with fail
          refine (HDD.out.1 _ HMW.out).mono ?_
          rintro e w9 ⟨rfl, rfl⟩
          go_wp2_with fail
          refine (HDD.out.2 _ HMW.out).mono ?_
          rintro e w9 ⟨rfl, rfl⟩
          go_wp2_with fail
          go_roundw
          case rel => exact ⟨i + 1, by omega, by go_num, Lib.hid ⟨_, blk_end HO.out.1 rfl, by rw [List.length_set]; exact HO.out.2.1, HO.out.2.2.1.set HDL.out, HS.out, HO.out.2.2.2.1.step, HO.out.2.2.2.2.setCell (p := ⟨w.heap.size, i, none⟩) (Nat.le_refl _) _⟩⟩
          case measure => simp [intOf]; omega
        · obtain rfl : i = n := by omega
          have HO := Lib.hid (And.intro hbk (And.intro hlen (And.intro hw (And.intro hst hbel))))
          clear hbk hlen hw hst hcl hbel
          go_wp2_with fail
          have hms := HO.out.1.mag HO.out.2.2.1 (by rw [HO.out.2.1]; omega)
          rw [HO.out.2.1] at hms
          refine (norm_any _ _ _ hms).mono ?_
          rintro e w2 ⟨A2, k2, c2, hA2, rfl, hm2, rfl⟩
          have HNW : Hid (NewO w A2) := Lib.hid (by injection hA2 with hA2; rw [← hA2]; exact NewO.at _)
          clear hA2
          rw [right_end HO.out.2.2.2.1 (by have := HL.out; omega) HA.out.w32, HO.out.2.1] at hm2
          have HF := Lib.hid hm2
          clear hm2 hms
          go_wp2_with fail
          go_ret2
          exact ⟨_, _, _, _, rfl, HF.out, HO.out.2.2.2.2, HNW.out⟩


set_option maxRecDepth 8000 in
/-- right: a magnitude over 2 to the N-th, downwards -/
theorem right_anyN (v : Value) (X N L : Nat) (w : World) (h : MagN w v X L) (hL : L ≤ 536870912) (hN : N ≤ 18446744073709551615) :
    Calls Tryz.prog 162 #[v, .int .u64 (N : Int)] w fun e w' => ∃ A' k' c' lost, e = .returned (.tuple #[.slice A' k' c', .bool lost]) ∧ MagN w' (.slice A' k' c') (X / 2 ^ N) L ∧ Below w.heap.size w w' ∧ NewO w A' := by
  obtain ⟨ws, h1, h2, rfl, h4⟩ := h
  have h1' := h1
  obtain ⟨A, c, rfl, -⟩ := h1
  have e : (2 : Nat) ^ N = 18446744073709551616 ^ (N / 64) * 2 ^ (N % 64) := by
    rw [show (18446744073709551616 : Nat) = 2 ^ 64 by decide, ← Nat.pow_mul, ← Nat.pow_add]
    congr 1
    omega
  rw [e]
  by_cases h0 : ws.length ≤ N / 64
  · have hz : val ws / (18446744073709551616 ^ (N / 64) * 2 ^ (N % 64)) = 0 := by
      refine Nat.div_eq_of_lt ?_
      have a1 := val_lt h1'.w32
      have a2 : 18446744073709551616 ^ ws.length ≤ 18446744073709551616 ^ (N / 64) := Nat.pow_le_pow_right (by omega) h0
      have a3 : 18446744073709551616 ^ (N / 64) * 1 ≤ 18446744073709551616 ^ (N / 64) * 2 ^ (N % 64) := Nat.mul_le_mul_left _ (Nat.pow_pos (by omega))
      omega
    have HR : Hid (MagN w (.slice none 0 0) (val ws / (18446744073709551616 ^ (N / 64) * 2 ^ (N % 64))) L) := Lib.hid (by rw [hz]; exact zero_in w _)
    obtain ⟨q, hq⟩ : ∃ q, N / 64 = q := ⟨_, rfl⟩
    have e1 : (N : Int) / 64 = (q : Int) := by omega
    have e2 : (ws.length : Int) ≤ (q : Int) := by omega
    have hN1 : (N : Int) ≤ 18446744073709551615 := by omega
    have hl0 : (ws.length : Int) ≤ 536870912 := by omega
    obtain ⟨M, hM⟩ : ∃ M, ws.length = M := ⟨_, rfl⟩
    rw [hM] at e2 hl0 ⊢
    clear h1' h2 h4 e hz h0 hq hM
    go_enter Tryz.func162, Tryz.ntmps162
    go_wp2_with fail
    go_ret2
    exact ⟨_, _, _, _, rfl, HR.out, Below.refl _ _, NewO.nil _⟩
  · exact (right_coreN A ws.length c (N / 64) (N % 64) N (ws.length - N / 64) ws w h1' (by omega) (by omega) (by omega) (by omega) (by omega)).mono fun e w' ⟨A', k', c', lost, a, b, d, g⟩ => ⟨A', k', c', lost, a, b.more (by omega), d, g⟩

set_option maxHeartbeats 400000 in
theorem word_anyN (n : Nat) (w : World) (hn : n < 18446744073709551616) : Calls Tryz.prog 100 #[.int .u64 (n : Int)] w fun e w' => ∃ A k c, e = .returned (.slice A k c) ∧ MagN w' (.slice A k c) n 1 ∧ Below w.heap.size w w' ∧ NewO w A := by
  have HM := Lib.hid (Mag.one w n hn 22)
  have HB := Lib.hid ((Below.refl w.heap.size w).alloc (Nat.le_refl _) (.cells #[.int .u64 (n : Int)] 22))
  go_enter Tryz.func100, Tryz.ntmps100
  go_wp2_with fail
  refine (norm_any _ [n] _ HM.out).mono ?_
  rintro e w1 ⟨A2, k, c, hA2, rfl, hm, rfl⟩
  have HNW : Hid (NewO w A2) := Lib.hid (by injection hA2 with hA2; rw [← hA2]; exact NewO.at _)
  clear hA2
  have HV : Hid (MagN _ _ n 1) := Lib.hid (by have h := hm; simp only [val, Nat.mul_zero, Nat.add_zero] at h; exact h)
  clear hm
  go_wp2_with fail
  go_ret
  exact ⟨_, _, _, rfl, HV.out, HB.out, HNW.out⟩

set_option maxRecDepth 8000 in
set_option maxHeartbeats 2000000 in
theorem quotient_oneN (u v : Value) (m d L : Nat) (w : World) (hu : MagN w u m L) (hv : MagN w v d 1) (hd : 0 < d) (hL : L ≤ 1073741824) (hL1 : 1 ≤ L) (hge : d ≤ m) :
    Calls Tryz.prog 106 #[u, v] w (Num2N w (m / d) (m % d) L 1) := by
  have HCM := Lib.hid (compare_any u v m d L w hu (hv.more hL1) (by omega))
  have HU := Lib.hid hu
  obtain ⟨b, off, c, rfl, hcell, hb, hd64⟩ := hv.cell hd
  obtain ⟨A, k, cu, rfl⟩ := hu.slice
  by_cases hlt : m < d
  · omega
  · have hcmp : ¬ cmpN m d < 0 := by unfold cmpN; rw [if_neg hlt]; split <;> omega
    obtain ⟨q, hq⟩ : ∃ q, cmpN m d = q := ⟨_, rfl⟩
    rw [hq] at HCM hcmp
    obtain ⟨ws, h1, h2, h3, h4⟩ := hu
    have hk := h1.lenN
    subst hk
    have HSH := Lib.hid (fun j => short_core A ws.length cu d ws (w.drewN j) (show Mag (w.drewN j) _ ws from h1) (by omega) hd hd64)
    rw [h3] at HSH
    have H4 := Lib.hid h4
    obtain ⟨kk, hkk⟩ : ∃ kk, ws.length = kk := ⟨_, rfl⟩
    rw [hkk] at HSH HCM H4 ⊢
    have hrd : m % d < 18446744073709551616 := Nat.lt_trans (Nat.mod_lt _ hd) hd64
    obtain ⟨mr, hmr⟩ : ∃ x, m % d = x := ⟨_, rfl⟩
    rw [hmr] at HSH hrd ⊢
    clear hv h1 h2 h3 h4 hq hkk hmr HU
    go_enter Tryz.func106, Tryz.ntmps106
    go_wp2_with fail
    refine HCM.out.mono ?_
    rintro e w1 ⟨rfl, j, rfl⟩
    go_wp2_with fail
    refine (HSH.out j).mono ?_
    rintro e w2 ⟨A2, k2, c2, rfl, hx, hbx⟩
    have HX := Lib.hid (And.intro hx (show Below w.heap.size w w2 from (below_dN (Below.refl _ _) j).trans hbx))
    have HWD := Lib.hid (word_anyN mr w2 hrd)
    clear hx hbx HSH
    go_wp2_with fail
    refine HWD.out.mono ?_
    rintro e w3 ⟨A3, k3, c3, rfl, hx, hbx, hnw⟩
    have HNW := Lib.hid (hnw.back HX.out.2.size)
    have HY := Lib.hid (And.intro hx (And.intro (HX.out.1.below hbx) (show Below w.heap.size w w3 from HX.out.2.trans (hbx.mono HX.out.2.size))))
    clear hx hbx hnw
    go_wp2_with fail
    go_ret2
    exact ⟨A2, k2, c2, A3, k3, c3, rfl, HY.out.2.1.more H4.out, HY.out.1, HY.out.2.2, HNW.out⟩

set_option maxRecDepth 8000 in
set_option maxHeartbeats 8000000 in
theorem quotient_longN (u v : Value) (X Y L : Nat) (w : World) (hu : MagN w u X L) (hv : MagN w v Y L) (hY : 18446744073709551616 ≤ Y) (hXY : Y ≤ X) (hL : L ≤ 268435456) :
    Calls Tryz.prog 106 #[u, v] w (Num2N w (X / Y) (X % Y) L L) := by
  have HCM := Lib.hid (compare_any u v X Y L w hu hv (by omega))
  have hcmp : ¬ cmpN X Y < 0 := by unfold cmpN; rw [if_neg (by omega)]; split <;> omega
  obtain ⟨cm, hcm⟩ : ∃ q, cmpN X Y = q := ⟨_, rfl⟩
  rw [hcm] at HCM hcmp
  clear hcm
  obtain ⟨xs, hx1, hx2, hx3, hx4⟩ := hu
  obtain ⟨ys, hy1, hy2, hy3, hy4⟩ := hv
  have hx1' := hx1
  have hy1' := hy1
  obtain ⟨A, ca, rfl, -⟩ := hx1
  obtain ⟨B, cb, rfl, -⟩ := hy1
  have hyn : 2 ≤ ys.length := by
    rcases Nat.lt_or_ge ys.length 2 with h | h
    · have a1 := val_lt hy1'.w32
      have a2 : 18446744073709551616 ^ ys.length ≤ 18446744073709551616 ^ 1 := Nat.pow_le_pow_right (by omega) (by omega)
      rw [Nat.pow_one] at a2
      omega
    · exact h
  have hxn : ys.length ≤ xs.length := by
    rcases Nat.lt_or_ge xs.length ys.length with h | h
    · have := norm_len_lt hx1'.w32 hy2 h
      omega
    · exact h
  obtain ⟨hup, hb0, hb64⟩ := up_by hy1'.w32 hy2 (by omega)
  have hXl : X < 18446744073709551616 ^ xs.length := by rw [← hx3]; exact val_lt hx1'.w32
  have hXg : 18446744073709551616 ^ (xs.length - 1) ≤ X := by rw [← hx3]; exact norm_ge hx2 (by omega)
  obtain ⟨a, ha⟩ : ∃ a, ys.getD (ys.length - 1) 0 = a := ⟨_, rfl⟩
  have hal : a < 18446744073709551616 := by rw [← ha]; exact hy1'.w32.get _
  obtain ⟨b, o, rfl, hb, hc⟩ := hy1'.at (j := ys.length - 1) (by omega)
  obtain ⟨n, hn⟩ : ∃ n, ys.length = n := ⟨_, rfl⟩
  obtain ⟨lx, hlx⟩ : ∃ n, xs.length = n := ⟨_, rfl⟩
  rw [hn] at HCM hyn hxn hup hb0 hb64 ha hc hy4 hy1'
  rw [hn]
  rw [hlx] at HCM hxn hXl hXg hx4 hx1'
  rw [hlx]
  rw [ha] at hup hb0 hb64 hc
  rw [hy3] at hup
  obtain ⟨up, hupe⟩ : ∃ up, 64 - Lib.bitLen a = up := ⟨_, rfl⟩
  rw [hupe] at hup
  have HLZ := Lib.hid (fun W => leading_any a W hal)
  rw [hupe] at HLZ
  have hup64 := hup.lt
  have HUP := Lib.hid hup
  have HLV := Lib.hid (fun j => left_any (.slice (some ⟨b, o, none⟩) n cb) Y up L (w.drewN j) ⟨ys, show Mag (w.drewN j) _ ys from hy1', hy2, hy3, by omega⟩ (by omega))
  have HX := Lib.hid (And.intro hx1' (And.intro hx2 (And.intro hx3 (And.intro hXl hXg))))
  have HN := Lib.hid (And.intro hx4 (And.intro hy4 hxn))
  have hn1 : ((n : Int) == 1) = false := by simp; omega
  have i0 : (0 : Int) ≤ (n : Int) - 1 := by omega
  have i1 : (n : Int) - 1 < (n : Int) := by omega
  have t1 : ((n : Int) - 1).toNat = n - 1 := by omega
  have hnl : (n : Int) ≤ 268435456 := by omega
  have hlxl : (lx : Int) ≤ 268435456 := by omega
  clear hx1' hx2 hx3 hx4 hy1' hy2 hy3 hy4 hn hlx ha hup hb0 hb64 hupe hal hXl hXg hb hxn
  go_enter Tryz.func106, Tryz.ntmps106
  go_wp2_with fail
  refine HCM.out.mono ?_
  rintro e w1 ⟨rfl, j, rfl⟩
  go_wp2_with fail
  refine (HLZ.out _).mono ?_
  rintro e w1 ⟨rfl, rfl⟩
  go_wp2_with fail
  refine (HLV.out j).mono ?_
  rintro e w2 ⟨vv, rfl, hv2, hbl2⟩
  obtain ⟨vs, hm2, hn2, hvv2, -⟩ := hv2
  have hlen2 := up_len HUP.out (by omega) hm2.w32 hn2 hvv2
  obtain ⟨cv, hvm⟩ : ∃ cv, ∃ A', vv = .slice A' n cv := by obtain ⟨A', c', h1, -⟩ := hm2; exact ⟨c', A', by rw [h1, hlen2]⟩
  obtain ⟨A', rfl⟩ := hvm
  obtain ⟨bv, ov, rfl, hbv, -⟩ := hm2.at (j := 0) (by omega)
  have HB2 := Lib.hid (show Below w.heap.size w w2 from (below_dN (Below.refl _ _) j).trans hbl2)
  have HV := Lib.hid (And.intro hm2 (And.intro hvv2 (And.intro (show 0 < vs.getD (n - 1) 0 by have := norm_top hn2 (by omega); rwa [hlen2] at this) (And.intro (show val vs < 18446744073709551616 ^ n by rw [hvv2]; exact HUP.out.hi) hbv))))
  have HR := Lib.hid (left_row A lx ca 0 up up xs w2 (HX.out.1.below HB2.out) (by omega) hup64 (by omega) (by have := HN.out.2.2; omega))
  simp only [Nat.zero_add, Nat.pow_zero, Nat.one_mul] at HR
  rw [HX.out.2.2.1] at HR
  clear hm2 hn2 hvv2 hlen2 hbv hbl2 HLV HLZ HCM
  go_wp2_with fail
  refine HR.out.mono ?_
  rintro e w3 ⟨g3, k3, os3, rfl, hg3, hb3, hl3, hw3, hk3, hn3, hv3, hbl3⟩
  obtain ⟨hlk, hr1, hr2, hr3⟩ := up_row hw3 (by omega) hv3 HX.out.2.2.2.2 (by have := HN.out.2.2; omega) hk3
  have HB3 := Lib.hid (onto HB2.out hbl3)
  have HO3 := Lib.hid (own_of_blk (B := w2.heap.size) (k := k3) hb3 hl3 (by omega) hk3 hg3)
  have HR3 := Lib.hid (And.intro hr1 (And.intro hr2 hr3))
  clear HR hb3 hl3 hw3 hn3 hv3 hr1 hr2 hr3
  have hlk1 : 1 ≤ k3 := by have := HN.out.2.2; omega
  obtain ⟨i0', hi0, hz0, hz1, hz2⟩ := info_parts infoW
  obtain ⟨m, hm⟩ : ∃ m, lx + 1 = n + m := ⟨lx + 1 - n, by have := HN.out.2.2; omega⟩
  have hmn : (lx : Int) + 1 - (n : Int) = (m : Int) := by omega
  have hmk := run_make_row' (P := Tryz.prog) 88 22 (.int .u64 0) 8 Tryz.underlying88 infoW rfl .i64 .i64 m (by omega) (by omega)
  have hml : (m : Int) ≤ 268435457 := by omega
  have HMM := Lib.hid hm
  clear hm
  have hbA := (Below.refl w3.heap.size w3).alloc (Nat.le_refl _) (.cells #[.int .u64 0, .int .u64 0] 22)
  have HOA := Lib.hid (And.intro (own_below HO3.out hbA) (And.intro (hbl3.trans (hbA.mono hbl3.size)) (noughts_new w3 22)))
  have hsz3 : w2.heap.size ≤ (w3.alloc (.cells #[.int .u64 0, .int .u64 0] 22)).heap.size := Nat.le_trans hbl3.size hbA.size
  have hk3b : k3 ≤ 268435457 := by omega
  clear hbA hbl3 HB3
  go_wp2_with (at_builtin; refine wpList_append_own _ rfl _ _ 88 rfl w2.heap.size 22 i0' _ 1 8 Tryz.underlying88 hi0 hz0 hz1 hz2 rfl (by omega) (.slice (some ⟨g3, 0, none⟩) k3 (lx + 1)) k3 _ rfl HOA.out.1 ⟨w3.heap.size, 0, none⟩ 2 2 [.int .u64 0, .int .u64 0] rfl rfl HOA.out.2.2 (by simp [Value.oneCell']) (by simp only [maxLen]; omega) (by omega) hsz3 ?_; intro v' w4 hr4 hg4 ha4; obtain ⟨gu, cu, rfl, hgu, hbu, hcu, hcm, -⟩ := blkp_of_own (show w4.ownsRow w2.heap.size 22 1 v' (k3 + 2) (vals (os3.take k3 ++ [0, 0])) from (by rw [← vals_append]; exact hr4)) (by omega); have H4 := Lib.hid (And.intro hgu (And.intro (hbu.take (lx + 1)) (HOA.out.2.1.grown hg4 hsz3 (own_base HOA.out.1)))); have hcu1 : (lx : Int) + 1 ≤ (cu : Int) := (by omega); have hcm1 : (cu : Int) ≤ 9223372036854775807 := (by simp only [maxLen] at hcm; omega); clear hr4 hg4 ha4 hgu hbu hcu hcm)
  have HH := Lib.hid (And.intro HMM.out (show 0 < m by have := HN.out.2.2; have := HMM.out; omega))
  have H0 : Hid (LongW w (w4.alloc (.cells (madeCells #[.int .u64 0] m) 22)) (X * 2 ^ up) (Y * 2 ^ up) (lx + 1) m n m gu w4.heap.size bv ov cv vs) := Lib.hid (by
    have hal := (Below.refl w4.heap.size w4).alloc (Nat.le_refl _) (.cells (madeCells #[.int .u64 0] m) 22)
    have hb2 : Below w2.heap.size w2 _ := H4.out.2.2.trans (hal.mono H4.out.2.2.size)
    refine ⟨_, _, long_start HR3.out.1 (up_start HUP.out HX.out.2.2.2.1 HMM.out) HR3.out.2.1 HR3.out.2.2, ?_, Blk.made w4 m, HV.out.1.below hb2, onto HB2.out hb2⟩
    obtain ⟨cur, c1, c2⟩ := H4.out.2.1
    exact ⟨cur, (hal.block gu H4.out.2.1.lt).trans c1, c2⟩)
  have HG := Lib.hid (And.intro (show w2.heap.size ≤ gu from H4.out.1) (And.intro (show w.heap.size ≤ gu from Nat.le_trans HB2.out.size H4.out.1) (And.intro (show gu < w4.heap.size from H4.out.2.1.lt) (show bv < w2.heap.size from HV.out.2.2.2.2))))
  have hgu := HG.out.2.2.1
  have HVV := Lib.hid (And.intro HV.out.2.1 (And.intro HV.out.2.2.1 HV.out.2.2.2.1))
  have HGQ : Hid (w.heap.size ≤ w4.heap.size) := Lib.hid (by have := HG.out; omega)
  have HYU : Hid (0 < Y * 2 ^ up) := Lib.hid (Nat.mul_pos (by omega) (Nat.pow_pos (by omega)))
  have HXY : Hid (X % Y < 18446744073709551616 ^ L ∧ X / Y < 18446744073709551616 ^ L) := Lib.hid (by
    have a1 : 18446744073709551616 ^ lx ≤ 18446744073709551616 ^ L := Nat.pow_le_pow_right (by omega) HN.out.1
    have a2 := HX.out.2.2.2.1
    have a3 : X % Y ≤ X := Nat.mod_le _ _
    have a4 : X / Y ≤ X := Nat.div_le_self _ _
    exact ⟨by omega, by omega⟩)
  clear H4 HOA HO3 HR3 HV HB2 hc HX hsz3 hlk hlk1 hk3b hg3
  go_wp2_with fail
  generalize w4.heap.size = gq at *
  go_loopw [13] (fun jv wr => ∃ (k : Nat) (z : Int), k ≤ m ∧ jv = .int .i64 z ∧ z + 1 = (k : Int) ∧ Hid (LongW w wr (X * 2 ^ up) (Y * 2 ^ up) (lx + 1) m n k gu gq bv ov cv vs)) (fun jv _ => (intOf jv + 1).toNat)
  case atStart => exact ⟨m, _, Nat.le_refl _, rfl, by omega, H0⟩
  case round =>
    clear H0 hmk
    obtain ⟨k, z, hk, rfl, hz, hh⟩ := hrel
    rcases k with _ | k
    · obtain rfl : z = -1 := by omega
      obtain ⟨os, qs, hst, hbu, hbq, hmv, hbl⟩ := hh.out
      have hms := hbu.mag hst.w (show os.length ≤ cu by rw [hst.lo]; omega) (by omega)
      rw [hst.lo] at hms
      have hmq := hbq.mag hst.wq (by rw [hst.lq]; omega)
      rw [hst.lq] at hmq
      have hend := long_end hst rfl
      have HE := Lib.hid (And.intro hend (And.intro hmq (And.intro hbl (And.intro hst.lo hst.lq))))
      have HM1 := Lib.hid (norm_any _ _ _ hms)
      have HUV : Hid (X % Y < 18446744073709551616 ^ L ∧ X / Y < 18446744073709551616 ^ L) := HXY
      clear hbu hbq hmv hbl hms hmq hend hst hh hz
      go_wp2_with fail
      refine HM1.out.mono ?_
      rintro e w2' ⟨A2, k2, c2, -, rfl, hm2, rfl⟩
      rw [HE.out.2.2.2.1] at hm2
      have HRT := Lib.hid (right_anyN _ _ up (lx + 1) _ hm2 (by omega) (by omega))
      rw [HE.out.1.2] at HRT
      clear hm2 HM1
      go_wp2_with fail
      refine HRT.out.mono ?_
      rintro e w5 ⟨A5, k5, c5, lost, rfl, hm5, hb5, hnw5⟩
      have HNW := Lib.hid (hnw5.back HE.out.2.2.1.size)
      have H5 := Lib.hid (And.intro (hm5.less HUV.out.1) (And.intro (HE.out.2.1.below hb5) (onto HE.out.2.2.1 hb5)))
      clear hm5 hb5 HRT hnw5
      have HM6 := Lib.hid (norm_any _ _ _ H5.out.2.1)
      rw [HE.out.2.2.2.2, HE.out.1.1] at HM6
      go_wp2_with fail
      refine HM6.out.mono ?_
      rintro e w6 ⟨A6, k6, c6, -, rfl, hm6, rfl⟩
      have H6 := Lib.hid (hm6.less HUV.out.2)
      clear hm6 HM6
      go_wp2_with fail
      go_ret2
      exact ⟨A6, k6, c6, A5, k5, c5, rfl, H6.out, H5.out.1, H5.out.2.2, HNW.out⟩
    · obtain rfl : z = (k : Int) := by omega
      obtain ⟨os, qs, hst, hkn, hbq, hbl⟩ := hh.out.kn HVV.out.1 hyn (by omega) (by have := HH.out; omega) HVV.out.2.1 (by rw [← HVV.out.1]; exact HVV.out.2.2) (by omega)
      have hne : bv ≠ gu := by have := HG.out; omega
      have hne2 : gq ≠ gu := by have := HG.out.2.2.1; omega
      have hne3 : bv ≠ gq := by have := HG.out; omega
      have HST := Lib.hid (step_any gu k n (cu - k) os vs bv ov cv wr hkn hne)
      rw [HVV.out.1, hst.lo] at HST
      obtain ⟨q, hq⟩ : ∃ q, val os / (18446744073709551616 ^ k * (Y * 2 ^ up)) = q := ⟨_, rfl⟩
      rw [hq] at HST
      have HS := Lib.hid (And.intro hst (And.intro hkn.mag (And.intro hbq (And.intro hbl (And.intro hq (And.intro hne (And.intro hne2 hne3)))))))
      clear hz hst hkn hbq hbl hq hne hne2 hne3 hh
      have k0 : (0 : Int) ≤ (k : Int) := by omega
      have k1 : (k : Int) < (m : Int) := by omega
      go_wp2_with fail
      rw [show k + n + 1 - k = n + 1 by omega]
      refine HST.out.mono ?_
      rintro e w9 ⟨rfl, os', hkw, ho⟩
      have hbq9 := HS.out.2.2.1.kept hkw.kept HS.out.2.2.2.2.2.2.1
      have hfr := hbq9.frozen k
      have hco := hbq9.cell (j := k) (by rw [HS.out.1.lq]; omega)
      have HNX := Lib.hid (LongW.next (z := (q : Int)) HS.out.1 HS.out.2.2.1 HS.out.2.1 HS.out.2.2.2.1 (by omega) HYU.out HS.out.2.2.2.2.1.symm hkw ho HG.out.2.1 HGQ.out HS.out.2.2.2.2.2.2.1 HS.out.2.2.2.2.2.1 HS.out.2.2.2.2.2.2.2 rfl).1
      obtain ⟨q9, hq9⟩ : ∃ q9, qs.getD k 0 = q9 := ⟨_, rfl⟩
      rw [hq9] at hco
      clear hkw ho hbq9 hq9 HST
      go_wp2_with fail
      go_roundw
      case rel => exact ⟨k, (k : Int) - 1, by omega, rfl, by omega, HNX⟩
      case measure => simp [intOf]


/-- quotient: the divisor above 0 and not above the dividend -/
theorem quotient_new (u v : Value) (X Y L : Nat) (w : World) (hu : MagN w u X L) (hv : MagN w v Y L) (hY : 0 < Y) (hXY : Y ≤ X) (hL : L ≤ 268435456) (hL1 : 1 ≤ L) :
    Calls Tryz.prog 106 #[u, v] w (Num2N w (X / Y) (X % Y) L L) := by
  by_cases h2 : Y < 18446744073709551616
  · exact (quotient_oneN u v X Y L w hu (hv.less (by rw [Nat.pow_one]; exact h2)) hY (by omega) hL1 hXY).mono (Num2N.more (Nat.le_refl _) hL1)
  · exact quotient_longN u v X Y L w hu hv (by omega) hXY hL
end Go.Proofs.YtgccfdfbnhldbaaGreatDoor.Nb

namespace Go.Proofs.YtgccfdfbnhldbaaGreatDoor.Nb
open Go Go.RowKit

set_option maxRecDepth 8000 in
set_option maxHeartbeats 4000000 in
theorem times_coreN (A B : Option Addr) (n m ca cb : Nat) (a b : List Nat) (w : World) (ha : Mag w (.slice A n ca) a) (hb : Mag w (.slice B m cb) b) (hl : n ≤ 536870912) (hm : m ≤ 536870912) :
    Calls Tryz.prog 103 #[.slice A n ca, .slice B m cb] w fun e w' => ∃ A k c, e = .returned (.slice A k c) ∧ MagN w' (.slice A k c) (val a * val b) (n + m) ∧ Below w.heap.size w w' ∧ NewO w A := by
  have hla := ha.lenN
  have hlb := hb.lenN
  have HA := Lib.hid ha
  have HB := Lib.hid hb
  have HL := Lib.hid (And.intro hla hlb)
  have hmk := run_make_row' (P := Tryz.prog) 88 22 (.int .u64 0) 8 Tryz.underlying88 infoW rfl .i64 .i64 (n + m) (by omega) (by omega)
  rw [show ((n + m : Nat) : Int) = (n : Int) + (m : Int) from by omega] at hmk
  clear ha hb hla hlb
  by_cases hz : n = 0 ∨ m = 0
  · have HZ : Hid (val a * val b = 0) := Lib.hid (by
      rcases hz with h | h
      · rw [List.length_eq_zero_iff.1 (HL.out.1.symm.trans h)]; simp [val]
      · rw [List.length_eq_zero_iff.1 (HL.out.2.symm.trans h)]; simp [val])
    have HR : Hid (MagN w (.slice none 0 0) (val a * val b) (n + m)) := Lib.hid (by rw [HZ.out]; exact ⟨[], Mag.nil w none 0 (by omega), .inl rfl, rfl, by simp⟩)
    rcases hz with h | h
    · subst h
      go_enter Tryz.func103, Tryz.ntmps103
      go_wp2_with fail
      go_ret
      exact ⟨_, _, _, rfl, HR.out, Below.refl _ _, NewO.nil _⟩
    · subst h
      by_cases h2 : n = 0
      · subst h2
        go_enter Tryz.func103, Tryz.ntmps103
        go_wp2_with fail
        go_ret
        exact ⟨_, _, _, rfl, HR.out, Below.refl _ _, NewO.nil _⟩
      · have h3 : ((n : Int) == 0) = false := by simp; omega
        go_enter Tryz.func103, Tryz.ntmps103
        go_wp2_with fail
        go_ret
        exact ⟨_, _, _, rfl, HR.out, Below.refl _ _, NewO.nil _⟩
  have hn0 : ((n : Int) == 0) = false := by simp; omega
  have hm0 : ((m : Int) == 0) = false := by simp; omega
  go_enter Tryz.func103, Tryz.ntmps103
  go_wp2_with fail
  clear hmk
  have H0 := Lib.hid (show TimesSt w w.heap.size (n + m) a b 0 0 0 m (w.alloc (.cells (madeCells #[.int .u64 0] (n + m)) 22)) from ⟨_, Blk.made w (n + m), by simp, W64.rep _, pro_start a b _, Clear.rep _ _, (Below.refl _ _).alloc (Nat.le_refl _) _⟩)
  go_loopw [27] (fun i wr => ∃ k : Nat, k ≤ n ∧ i = .int .i64 k ∧ Hid (TimesSt w w.heap.size (n + m) a b k 0 0 (k + m) wr)) (fun i _ => n - (intOf i).toNat)
  case atStart => exact ⟨0, Nat.zero_le _, rfl, by rw [Nat.zero_add]; exact H0⟩
  case round =>
    obtain ⟨i, hi, rfl, hp⟩ := hrel
    by_cases hlt : i < n
    · obtain ⟨os0, -, -, -, -, -, hbel0⟩ := hp.out
      obtain ⟨b1, o1, e1, hb1, hc1⟩ := HA.out.at hlt
      subst e1
      have hx := (hbel0.cell (p := ⟨b1, o1 + i, none⟩) hb1).trans hc1
      obtain ⟨x, ex⟩ : ∃ x, a.getD i 0 = x := ⟨_, rfl⟩
      have wx := HA.out.w32.get i
      rw [ex] at hx wx
      have EXA := Lib.hid ex
      have qi0 : (0 : Int) ≤ (i : Int) := by omega
      have qi1 : (i : Int) < (n : Int) := by omega
      clear hc1 ex hb1 hbel0
      obtain ⟨wo, rfl⟩ : ∃ wo : World, wo = wr := ⟨_, rfl⟩
      go_wp2_with fail
      go_loopw [8, 34] (fun cy k wr => ∃ kk cc : Nat, kk ≤ m ∧ k = .int .i64 kk ∧ cy = .int .u64 cc ∧ cc < 18446744073709551616 ∧ Hid (TimesSt w w.heap.size (n + m) a b i kk cc (i + m) wr)) (fun _ k _ => m - (intOf k).toNat)
      case atStart => exact ⟨0, 0, Nat.zero_le _, rfl, rfl, by omega, hp⟩
      case round =>
        obtain ⟨k, cc, hk, rfl, rfl, hcc, hq⟩ := hrel
        obtain ⟨os, hbk, hlen, hw, hst, hcl, hbel⟩ := hq.out
        have HO := Lib.hid (And.intro hbk (And.intro hlen (And.intro hw (And.intro hst (And.intro hcl hbel)))))
        by_cases hlt2 : k < m
        · have hfr : wr.frozen? ⟨w.heap.size, i + k, none⟩ = false := hbk.frozen (i + k)
          obtain ⟨o, ho⟩ : ∃ o, os.getD (i + k) 0 = o := ⟨_, rfl⟩
          have hco : wr.cell? ⟨w.heap.size, i + k, none⟩ = some (.int .u64 (o : Nat)) := by rw [← ho]; exact hbk.cell (by omega)
          have wo' := hw.get (i + k)
          rw [ho] at wo'
          obtain ⟨b2, o2, e2, hb2, hc2⟩ := HB.out.at hlt2
          subst e2
          have hy := (hbel.cell (p := ⟨b2, o2 + k, none⟩) hb2).trans hc2
          obtain ⟨y, ey⟩ : ∃ y, b.getD k 0 = y := ⟨_, rfl⟩
          have wy := HB.out.w32.get k
          rw [ey] at hy wy
          have EX := Lib.hid (And.intro EXA.out (And.intro ey ho))
          have HFO := Lib.hid (fun W => fold_any x y o cc W wx wy wo' hcc)
          obtain ⟨t, ht⟩ : ∃ t, x * y + o + cc = t := ⟨_, rfl⟩
          have htw := pro_word wx wy wo' hcc
          rw [ht] at HFO htw
          have HT := Lib.hid ht
          obtain ⟨thi, hthi⟩ : ∃ h, t / 18446744073709551616 = h := ⟨_, rfl⟩
          obtain ⟨tlo, htlo⟩ : ∃ h, t % 18446744073709551616 = h := ⟨_, rfl⟩
          rw [hthi, htlo] at HFO
          have HTT := Lib.hid (And.intro hthi (And.intro htlo htw))
          clear hbk hlen hw hst hcl hc2 ey ho hb2 hbel ht hthi htlo htw
          have q0 : (0 : Int) ≤ (i : Int) + (k : Int) := by omega
          have q1 : (i : Int) + (k : Int) < (n : Int) + (m : Int) := by omega
          have qk0 : (0 : Int) ≤ (k : Int) := by omega
          have qk1 : (k : Int) < (m : Int) := by omega
          have e1 : IntKind.i64.wrap ((i : Int) + (k : Int)) = (i : Int) + (k : Int) := IntWalk.i64_in _ ⟨by omega, by omega⟩
          have e2 : ((i : Int) + (k : Int)).toNat = i + k := by omega
          go_wp2_with fail
          refine (HFO.out _).mono ?_
          rintro e w9 ⟨rfl, rfl⟩
          go_wp2_with fail
          go_roundw
          case rel => exact ⟨k + 1, thi, by omega, by go_num, rfl, by have := HTT.out; omega, Lib.hid ⟨os.set (i + k) tlo, blk_end HO.out.1 (by omega), by rw [List.length_set]; exact HO.out.2.1, HO.out.2.2.1.set (by have := HTT.out; omega), by
            have h := pro_step (t := t) HO.out.2.2.2.1 (by have := HO.out.2.1; omega) (by rw [EX.out.1, EX.out.2.1, EX.out.2.2, HT.out])
            rw [HTT.out.1, HTT.out.2.1] at h
            exact h, HO.out.2.2.2.2.1.set (by omega), HO.out.2.2.2.2.2.setCell (p := ⟨w.heap.size, i + k, none⟩) (Nat.le_refl _) _⟩⟩
          case measure => simp [intOf]; omega
        · obtain rfl : k = m := by omega
          have hfr : wr.frozen? ⟨w.heap.size, i + k, none⟩ = false := hbk.frozen (i + k)
          obtain ⟨o, ho⟩ : ∃ o, os.getD (i + k) 0 = o := ⟨_, rfl⟩
          have hco : wr.cell? ⟨w.heap.size, i + k, none⟩ = some (.int .u64 (o : Nat)) := by rw [← ho]; exact hbk.cell (by omega)
          clear hbk hlen hw hst hcl hbel ho
          have e2 : ((i : Int) + (k : Int)).toNat = i + k := by omega
          go_wp2_with fail
          go_roundw
          case rel =>
            have hlb : k = b.length := HL.out.2
            refine ⟨i + 1, by omega, by go_num, Lib.hid ⟨os.set (i + k) cc, blk_end HO.out.1 (by omega), by rw [List.length_set]; exact HO.out.2.1, HO.out.2.2.1.set hcc, ?_, by rw [show i + 1 + k = i + k + 1 by omega]; exact HO.out.2.2.2.2.1.step, HO.out.2.2.2.2.2.setCell (p := ⟨w.heap.size, i + k, none⟩) (Nat.le_refl _) _⟩⟩
            have h1 := HO.out.2.2.2.1
            have h2 := HO.out.2.2.2.2.1
            have h3 := HO.out.2.1
            rw [hlb] at h1 h2 ⊢
            exact pro_next h1 h2 (by omega)
          case measure => simp [intOf]; omega
    · obtain rfl : i = n := by omega
      obtain ⟨os, hbk, hlen, hw, hst, hcl, hbel⟩ := hp.out
      have HO := Lib.hid (And.intro hbk (And.intro hlen (And.intro hw (And.intro hst hbel))))
      clear hbk hlen hw hst hcl hbel
      go_wp2_with fail
      have hms := HO.out.1.mag HO.out.2.2.1 (by rw [HO.out.2.1]; omega)
      rw [HO.out.2.1] at hms
      refine (norm_any _ _ _ hms).mono ?_
      rintro e w2 ⟨A2, k2, c2, hA2, rfl, hm2, rfl⟩
      have HNW : Hid (NewO w A2) := Lib.hid (by injection hA2 with hA2; rw [← hA2]; exact NewO.at _)
      clear hA2
      rw [pro_end HO.out.2.2.2.1 (by have := HL.out; omega), HO.out.2.1] at hm2
      have HF := Lib.hid hm2
      clear hm2 hms
      go_wp2_with fail
      go_ret
      exact ⟨_, _, _, rfl, HF.out, HO.out.2.2.2.2, HNW.out⟩

/-- times: of two magnitudes -/
theorem times_new (u v : Value) (m n L L' : Nat) (w : World) (hu : MagN w u m L) (hv : MagN w v n L') (hL : L ≤ 536870912) (hL' : L' ≤ 536870912) :
    Calls Tryz.prog 103 #[u, v] w fun e w' => ∃ A k c, e = .returned (.slice A k c) ∧ MagN w' (.slice A k c) (m * n) (L + L') ∧ Below w.heap.size w w' ∧ NewO w A := by
  obtain ⟨a, h1, h2, rfl, h4⟩ := hu
  obtain ⟨b, g1, g2, rfl, g4⟩ := hv
  have h1' := h1
  have g1' := g1
  obtain ⟨A, ca, rfl, -⟩ := h1
  obtain ⟨B, cb, rfl, -⟩ := g1
  exact (times_coreN A B a.length b.length ca cb a b w h1' g1' (by omega) (by omega)).mono fun e w' ⟨A, k, c, he, hx, hb⟩ => ⟨A, k, c, he, hx.more (by omega), hb⟩
end Go.Proofs.YtgccfdfbnhldbaaGreatDoor.Nb

namespace Go.Proofs.YtgccfdfbnhldbaaGreatDoor.Nb
open Go Go.RowKit Nx

theorem tenth_hits : Hits 1 (-1) 4591870180066957722 ∧ ¬ Hits 2 (-1) 4591870180066957722 := by
  have h1 : Rnd 53 1074 1 10 4591870180066957722 := rnd_near (by omega) (by omega) (by decide +kernel) (by decide +kernel)
  have h2 : Rnd 53 1074 2 10 4596373779694328218 := rnd_near (by omega) (by omega) (by decide +kernel) (by decide +kernel)
  constructor
  · exact h1
  · intro h
    have h3 : Rnd 53 1074 2 10 4591870180066957722 := h
    have := rnd_eq h2 h3 (by omega) (by omega) (by omega) rfl
    omega
theorem seven_hits : Hits 750 (-2) 4620130267728707584 := by
  have h1 : Rnd 53 1074 750 100 4620130267728707584 := (rnd_same (by omega) (Nat.two_pow_pos 1074) (by decide +kernel)).2 (rnd_self 4620130267728707584)
  exact h1
/-- the digits of a tenth -/
theorem tenth_says {p q n d : Nat} {E : Int} {d0 : UInt8} {ds : List UInt8} (h : ShortSays 4591870180066957722 p q E n d d0 ds) : shortT d0 ds (E + (ds.length + 1 : Nat) - n) = [49, 101, 45, 49] := by
  have hq := h.q0
  have hv := h.val
  obtain ⟨T, hT⟩ : ∃ T : Nat, 2 ^ 1074 = T := ⟨_, rfl⟩
  obtain ⟨M, hM⟩ : ∃ M : Nat, amt64 4591870180066957722 = M := ⟨_, rfl⟩
  have t1 : T ≤ 10 * M ∧ 10 * M < 2 * T := by rw [← hT, ← hM]; decide +kernel
  rw [hT, hM] at hv
  clear hT hM
  have hT0 : 0 < T := by omega
  have k1 : q ≤ p * 10 := by
    refine Nat.le_of_mul_le_mul_right (a := q) (b := p * 10) (c := T) ?_ hT0
    have e : p * 10 * T = 10 * M * q := by rw [Nat.mul_right_comm, hv]; ac_rfl
    rw [e, Nat.mul_comm q]
    exact Nat.mul_le_mul_right q t1.1
  have k2 : p * 10 < 2 * q := by
    refine Nat.lt_of_mul_lt_mul_right (a := T) ?_
    have e : p * 10 * T = 10 * M * q := by rw [Nat.mul_right_comm, hv]; ac_rfl
    have e2 : 2 * q * T = 2 * T * q := by ac_rfl
    rw [e, e2]
    exact Nat.mul_lt_mul_of_pos_right t1.2 hq
  have a1 : AtM p q (-1) := by
    unfold AtM
    rw [show (-1 : Int).toNat = 0 from rfl, show (- -1 : Int).toNat = 1 from rfl]
    omega
  have a0 : ¬ AtM p q 0 := by
    unfold AtM
    rw [show (0 : Int).toNat = 0 from rfl, show (-0 : Int).toNat = 0 from rfl]
    omega
  have hE : E = -1 := by
    rcases Int.lt_or_le E (-1) with c | c
    · exact absurd (a1.le (by omega)) h.few.dec.2
    · rcases Int.lt_or_le E 0 with c2 | c2
      · omega
      · exact absurd (h.few.dec.1.le c2) a0
  subst hE
  have hlow : lowK p q (-1) = 1 := by
    unfold lowK
    rw [show (-1 : Int).toNat = 0 from rfl, show (- -1 : Int).toNat = 1 from rfl, Nat.pow_one, Nat.pow_zero, Nat.mul_one]
    exact Nat.div_eq_of_lt_le (by omega) (by omega)
  have hn : n = 1 := by
    have hn0 := h.few.n0
    rcases Nat.lt_or_ge 1 n with c | c
    · have h1 := h.few.least 1 (by omega) c
      unfold NoneAt at h1
      rw [show (-1 : Int) - ((1 : Nat) : Int) + 1 = -1 by omega, hlow] at h1
      exact absurd tenth_hits.1 h1.1
    · omega
  subst hn
  have hd0 := h.few.d0
  have hit := h.few.hit
  rw [show (-1 : Int) - ((1 : Nat) : Int) + 1 = -1 by omega] at hd0 hit
  rw [hlow] at hd0
  have hd : d = 1 := by
    rcases hd0 with c | c
    · exact c
    · subst c
      exact absurd hit tenth_hits.2
  subst hd
  have hdig := h.dig
  rw [revDig_pos (by omega), show 1 / 10 = 0 by decide, revDig_zero] at hdig
  simp at hdig
  obtain ⟨rfl, rfl⟩ := hdig
  decide +kernel
theorem tenth_short (w : World) (hT : Tab64 w) (hP : TabP w) : Calls Tryz.prog 9 #[.float .f64 4591870180066957722] w fun e w' => e = .returned (.string ⟨#[49, 101, 45, 49]⟩) ∧ Below w.heap.size w w' := by
  refine (Short_fin 4591870180066957722 4591870180066957722 w (by omega) (by decide) (by omega) (by omega) hT hP).mono ?_
  rintro e w' ⟨p, q, n, d, E, d0, ds, hs, rfl, hb⟩
  rw [tenth_says hs]
  exact ⟨rfl, hb⟩
theorem ten_hex (w : World) (hT : Tab64 w) (hP : TabP w) : Calls Tryz.prog 7 #[.float .f64 4621819117588971520] w fun e w' => e = .returned (.string ⟨#[48, 120, 49, 46, 52, 112, 51]⟩) ∧ Below w.heap.size w w' := by
  have h := hex_any 4621819117588971520 w hT hP (by omega)
  rw [show hexL 4621819117588971520 = [48, 120, 49, 46, 52, 112, 51] by decide +kernel] at h
  exact h
theorem seven_parse (w : World) : Calls Tryz.prog 8 #[.string ⟨#[48, 48, 55, 46, 53, 48, 101, 48, 48]⟩] w fun e w' => e = .returned (.tuple #[.float .f64 4620130267728707584, .int .i64 0]) ∧ Below w.heap.size w w' := by
  have hok : (⟨false, [48, 48, 55], some [53, 48], some (false, [48, 48])⟩ : DTxt).Ok := by
    refine ⟨fun x hx => ?_, by simp, fun l hl => ?_, fun b l hl => ?_⟩
    · simp at hx
      rcases hx with rfl | rfl <;> decide
    · injection hl with hl
      subst hl
      refine ⟨fun x hx => ?_, by simp⟩
      simp at hx
      rcases hx with rfl | rfl <;> decide
    · injection hl with hl
      injection hl with h1 h2
      subst h2
      refine ⟨fun x hx => ?_, by simp⟩
      simp at hx
      subst hx
      decide
  refine (parse_any _ ⟨false, [48, 48, 55], some [53, 48], some (false, [48, 48])⟩ w rfl hok (by decide)).mono ?_
  rintro e w' ⟨f, c, rfl, hs, hb⟩
  have hexp : (⟨false, [48, 48, 55], some [53, 48], some (false, [48, 48])⟩ : DTxt).exp = -2 := by decide +kernel
  have hkey : (⟨false, [48, 48, 55], some [53, 48], some (false, [48, 48])⟩ : DTxt).key = [55, 53, 48] := by decide +kernel
  have hdn : decN (⟨false, [48, 48, 55], some [53, 48], some (false, [48, 48])⟩ : DTxt).digs = 750 := by decide +kernel
  have hl : ¬ (⟨false, [48, 48, 55], some [53, 48], some (false, [48, 48])⟩ : DTxt).low := by
    unfold DTxt.low
    rw [hkey, hexp]
    simp
  have hh : ¬ (⟨false, [48, 48, 55], some [53, 48], some (false, [48, 48])⟩ : DTxt).high := by
    unfold DTxt.high
    rw [hkey, hexp]
    simp
  obtain ⟨rfl, hf⟩ := says_of (X := 4620130267728707584) hl hh (by omega) (by rw [hdn, hexp]; exact seven_hits) hs
  rw [hf]
  exact ⟨rfl, hb⟩
theorem body_ex' : bodyL 12000345 = [49, 50, 46, 48, 48, 48, 51, 52, 53] := by
  unfold bodyL
  rw [Lib.decDigits_eq, show 12000345 / 1000000 = 12 by decide, Lib.nDigits_big (by omega), show 12 / 10 = 1 by decide, Lib.nDigits_small (by omega)]
  rfl
set_option maxRecDepth 8000 in
set_option maxHeartbeats 1000000 in
theorem awake_all (w : World) (hT : Tab64 w) (hP : TabP w) : Calls Tryz.prog 15 #[] w fun e w' => e = .returned (.bool true) ∧ Below w.heap.size w w' := by
  have HT := Lib.hid (And.intro hT hP)
  have HX := Lib.hid (seven_parse w)
  clear hT hP
  go_enter Tryz.func15, Tryz.ntmps15
  go_wp2_with fail
  refine HX.out.mono ?_
  rintro e w1 ⟨rfl, b1⟩
  have H1 := Lib.hid (And.intro b1 (And.intro (HT.out.1.below b1) (HT.out.2.below b1 HT.out.2.2)))
  clear b1 HX
  go_wp2_with fail
  have HTi := Lib.hid (time_pos 12000345 w1 (by omega) H1.out.2.2)
  rw [body_ex'] at HTi
  refine HTi.out.mono ?_
  rintro e w2 ⟨rfl, b2⟩
  have H2 := Lib.hid (And.intro (back_of' H1.out.1 b2) (And.intro (H1.out.2.1.below b2) (H1.out.2.2.below b2 H1.out.2.2.2)))
  clear b2 H1 HTi
  go_wp2_with fail
  refine (ten_hex w2 H2.out.2.1 H2.out.2.2).mono ?_
  rintro e w3 ⟨rfl, b3⟩
  have H3 := Lib.hid (And.intro (back_of' H2.out.1 b3) (And.intro (H2.out.2.1.below b3) (H2.out.2.2.below b3 H2.out.2.2.2)))
  clear b3 H2
  go_wp2_with fail
  refine (tenth_short w3 H3.out.2.1 H3.out.2.2).mono ?_
  rintro e w4 ⟨rfl, b4⟩
  have H4 := Lib.hid (back_of' H3.out.1 b4)
  clear b4 H3
  go_wp2_with fail
  go_ret
  exact ⟨rfl, H4.out⟩
end Go.Proofs.YtgccfdfbnhldbaaGreatDoor.Nb
