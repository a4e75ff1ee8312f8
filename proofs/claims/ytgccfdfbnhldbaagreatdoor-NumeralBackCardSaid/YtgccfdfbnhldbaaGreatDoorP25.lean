/- HA6 SH4 BT5 BT6 SH2 in one text. -/
import Derived.Test.YtgccfdfbnhldbaaGreatDoorP24
import Derived.StillTailTactics
import Derived.WalkMore
import Derived.Test.YtgccfdfbnhldbaaGreatDoorP23
import Derived.Test.YtgccfdfbnhldbaaGreatDoorP13
import Derived.Test.YtgccfdfbnhldbaaGreatDoorP20

namespace Go.Proofs.YtgccfdfbnhldbaaGreatDoor.Nb
open Go Go.RowKit Nx

/-- the point and the digits -/
def ptL (D : List UInt8) : List UInt8 := if D = [] then [] else 46 :: D
/-- what unhex has to know of the text -/
structure UhD (ng : Bool) (D ex : List UInt8) (v : Int) (s : ByteArray) : Prop where
  tx : s.data.toList = sgn ng ++ ([48, 120, 49] ++ (ptL D ++ 112 :: ex))
  z : s.size ≤ 2000
  d : ∀ b ∈ D, IsHx b
  l : D.length ≤ 13
  e : Lib.parseIntB 32 ex = .ok v
  v : -2000 ≤ v ∧ v ≤ 2000
theorem parseInt_any (s : ByteArray) (v : Int) (w : World) (hz : s.size ≤ 9223372036854775806) (h : Lib.parseIntB 32 s.data.toList = .ok v) :
    Calls Tryz.prog 71 #[.string s, .int .i64 10, .int .i64 32] w fun e w' => e = .returned (.tuple #[.int .i64 v, .nilIface]) ∧ Below w.heap.size w w' := by
  refine (Tryz.strconv_ParseInt_10_at32_ok s hz v h w).mono ?_
  rintro e w' ⟨rfl, rfl | ⟨t, rfl⟩⟩
  · exact ⟨rfl, Below.refl _ _⟩
  · exact ⟨rfl, Lib.bytesWorld_below _ _ _⟩
theorem idx_of {s : ByteArray} {k : Nat} {c : UInt8} {r : List UInt8} (h : s.data.toList.drop k = c :: r) : ∀ W, (Instr.index 9 (.string s) (.int .i64 (k : Int))).run Tryz.prog W = .ok (.int .u8 (c.toNat : Int)) W := by
  intro W
  have hk : k < s.size := by
    have h1 := congrArg List.length h
    rw [List.length_drop, size_list] at h1
    simp at h1
    omega
  have hg : s[k] = c := by
    have h1 : (s.data.toList.drop k)[0]? = some c := by rw [h]; rfl
    rw [List.getElem?_drop, Nat.add_zero] at h1
    have h2 : s.data.toList[k]? = some s[k] := by simp [ByteArray.getElem_eq_getElem_data]
    rw [h2] at h1
    injection h1
  rw [run_index_string W 9 _ .i64 k (by kernel_rfl), dif_pos ⟨by omega, by omega⟩]
  simp only [Int.toNat_natCast, hg]
theorem ix_all : ∀ n : Fin 256, ((48 ≤ n.val ∧ n.val ≤ 57) ∨ (97 ≤ n.val ∧ n.val ≤ 102)) → Lib.indexByte [48, 49, 50, 51, 52, 53, 54, 55, 56, 57, 97, 98, 99, 100, 101, 102] (UInt8.ofNat n.val) = ((if n.val < 58 then n.val - 48 else n.val - 87 : Nat) : Int) := by decide +kernel
theorem ix_hx {z : UInt8} (h : IsHx z) : Lib.indexByte (⟨#[48, 49, 50, 51, 52, 53, 54, 55, 56, 57, 97, 98, 99, 100, 101, 102]⟩ : ByteArray).data.toList (((z.toNat : Nat) : Int).toNat.toUInt8) = (hxv z : Int) := by
  have h1 := ix_all ⟨z.toNat, z.toNat_lt⟩ h
  have e : (((z.toNat : Nat) : Int).toNat.toUInt8) = UInt8.ofNat z.toNat := rfl
  rw [e]
  exact h1
/-- where the cursor stands -/
def curK (w : World) (b : Nat) : Nat := match w.cell? ⟨b, 1, none⟩ with | some v => (intOf v).toNat | none => 0
theorem curK_at {w : World} {b k : Nat} {s : ByteArray} (h : CurAt w b s k) : curK w b = k := by
  unfold curK
  rw [h.2.2.1]
  simp [intOf]
theorem curK_set {w : World} {b k n : Nat} {s : ByteArray} (h : CurAt w b s k) : curK (w.setCell ⟨b, 1, none⟩ (.int .i64 (n : Nat))) b = n := by
  unfold curK
  rw [show (w.setCell ⟨b, 1, none⟩ (.int .i64 ((n : Nat) : Int))).cell? ⟨b, 1, none⟩ = some (.int .i64 ((n : Nat) : Int)) by simp [go_sem, h.2.2.1]]
  simp [intOf]
theorem hexOr {m h : Nat} (hh : h < 16) (hm : m < 1125899906842624) : bits .or .u64 ((m : Int) * 16) (h : Int) = ((m * 16 + h : Nat) : Int) := by
  rw [show ((m : Int) * 16) = ((m * 16 : Nat) : Int) by omega, u64_or_nat _ h (by omega) (by omega)]
  rw [show m * 16 = m <<< 4 by rw [Nat.shiftLeft_eq], ← Nat.shiftLeft_add_eq_or_of_lt (by omega : h < 2 ^ 4), Nat.shiftLeft_eq]
theorem UnhR.next {w W : World} {g k : Nat} {s : ByteArray} {r r' : List UInt8} {c : UInt8} {neg : Bool} {v1 v2 : Value} (h : UnhR w W g s r neg v1 v2) (hk : CurAt W w.heap.size s k) (hd : s.data.toList.drop k = c :: r') (hl : k < s.size) :
    UnhR w (W.setCell ⟨w.heap.size, 1, none⟩ (.int .i64 ((k + 1 : Nat) : Int))) g s r' neg v1 v2 := by
  obtain ⟨h1, h2, h3, h4⟩ := hk
  refine h.move ((Kept.refl W w.heap.size).setCell _) ⟨k + 1, ⟨by simpa [World.setCell] using h1, by simp [go_sem, h2], by simp [go_sem, h3], by simp [go_sem, h4]⟩, by omega, ?_⟩ ((Below.refl _ _).setCell (p := ⟨w.heap.size, 1, none⟩) (Nat.le_refl _) _)
  rw [← List.drop_drop, hd]
  rfl
set_option maxRecDepth 8000 in
set_option maxHeartbeats 2000000 in
theorem unhex_fin (ng : Bool) (D ex : List UInt8) (v : Int) (s : ByteArray) (B : Nat) (w : World) (hT : Tab64 w) (h : UhD ng D ex v s)
    (hO : ∀ W, Tab64 W → Calls Tryz.prog 68 #[.agg #[.bool ng, .int .u64 (hexVal 1 D : Nat), .int .i64 (v - 4 * (D.length : Int))]] W fun e w' => e = .returned (.tuple #[.float .f64 B, .int .i64 0]) ∧ Below W.heap.size W w') :
    Calls Tryz.prog 24 #[.string s] w fun e w' => e = .returned (.tuple #[.float .f64 B, .bool true]) ∧ Below w.heap.size w w' := by
  have hcur := CurR.new w s 122
  rw [h.tx] at hcur
  have HC := Lib.hid hcur
  have HA := Lib.hid ((Below.refl w.heap.size w).alloc (Nat.le_refl _) (.cells #[.string s, .int .i64 0] 122))
  have HT := Lib.hid hT
  have HO := Lib.hid hO
  have HD := Lib.hid h
  have HZ : Hid (s.size ≤ 4611686018427387904) := Lib.hid (by have := h.z; omega)
  clear hcur hT hO h
  go_enter Tryz.func24, Tryz.ntmps24
  go_wp2_with fail
  refine (takeS _ s ng _ _ HC.out HZ.out (by simp)).mono ?_
  rintro e w1 ⟨rfl, c1, b1, k1⟩
  have HU := Lib.hid (UnhR.new ng 60 (Nat.lt_of_lt_of_le (by simp) b1.size) (HA.out.trans b1) c1)
  clear c1 b1 k1
  go_upto_region 3 with (fail)
  generalize w1.alloc (.cells #[.bool ng, .int .u64 0, .int .i64 0] 60) = W2 at *
  obtain ⟨g, hg⟩ : ∃ g, w1.heap.size = g := ⟨_, rfl⟩
  rw [hg] at HU ⊢
  clear hg
  go_wp2_with fail
  refine (takeT_no _ s [48, 120, 48, 112, 48] _ W2 HU.out.c (by intro hp; simp at hp)).mono ?_
  rintro e w3 ⟨rfl, n3, rfl⟩
  have HU3 := Lib.hid (HU.out.drew n3)
  clear HU
  generalize W2.drewN n3 = w3 at *
  go_wp2_with fail
  refine (takeT_yes _ s [48, 120, 49] _ w3 HU3.out.c HZ.out).mono ?_
  rintro e w4 ⟨rfl, c4, b4, k4⟩
  have HU4 := Lib.hid (HU3.out.move k4 c4 b4)
  clear c4 b4 k4 HU3
  obtain ⟨-, d0, d1, d2, q0, q1, q2⟩ := id HU4.out.d
  go_upto_region 9 with (fail)
  have HU5 := Lib.hid (HU4.out.set1 (.int .u64 1))
  clear d0 d1 d2 q0 q1 q2 HU4
  generalize w4.setCell ⟨g, 1, none⟩ (.int .u64 1) = w5 at *
  by_cases hE : D = []
  · subst hE
    obtain ⟨Ez, hEz⟩ : ∃ Ez : Int, v - 4 * (([] : List UInt8).length : Int) = Ez := ⟨_, rfl⟩
    rw [hEz] at HO
    have hwe : wrap64 (0 + v) = Ez := by have := HD.out.v; simp at hEz; unfold wrap64; omega
    have hwe : wrap64 v = Ez := by rw [Int.zero_add] at hwe; exact hwe
    have HO : Hid (∀ W, Tab64 W → Calls Tryz.prog 68 #[.agg #[.bool ng, .int .u64 1, .int .i64 Ez]] W fun e w' => e = .returned (.tuple #[.float .f64 B, .int .i64 0]) ∧ Below W.heap.size W w') := HO
    clear hEz
    go_wp2_with fail
    refine (takeT_no _ s [46] _ w5 HU5.out.c (by intro hp; simp [ptL] at hp)).mono ?_
    rintro e wc ⟨rfl, n6, hwc⟩
    have HU6 : Hid (UnhR w wc g s (112 :: ex) ng (.int .u64 1) (.int .i64 0)) := Lib.hid (by rw [hwc]; exact HU5.out.drew n6)
    clear HU5 hwc
    go_wp2_with fail
    refine (takeT_yes _ s [112] _ wc HU6.out.c HZ.out).mono ?_
    rintro e w7 ⟨rfl, c7, b7, k7⟩
    have HU7 := Lib.hid (HU6.out.move k7 c7 b7)
    obtain ⟨k, hca, hk, hdr⟩ := id c7
    have HX : Hid ((s.extract k s.size).data.toList = ex) := Lib.hid (by
      have h1 := extract_list s k (s.size - k)
      rw [show k + (s.size - k) = s.size by omega] at h1
      rw [h1, hdr, List.take_of_length_le]
      rw [← hdr, List.length_drop, size_list]
      exact Nat.le_refl _)
    have HPI := Lib.hid (fun W => parseInt_any (s.extract k s.size) v W (by have := HD.out.z; rw [ByteArray.size_extract]; omega) (by rw [HX.out]; exact HD.out.e))
    have HK := Lib.hid hca
    have hks : ((k : Int) ≤ (s.size : Int)) := by omega
    clear c7 b7 k7 HU6 hca hdr
    have hc : Below w7.heap.size w7 w7.drew := (Below.refl _ _).drew
    go_upto_region 20 with (fail)
    go_region_held3 (fun w' => w'.cell? ⟨w.heap.size, 0, none⟩ = some (.string s) ∧ w'.cell? ⟨w.heap.size, 1, none⟩ = some (.int .i64 (k : Nat)))
      (exact ⟨(HK.out.below hc (Nat.le_refl _)).2.1, (HK.out.below hc (Nat.le_refl _)).2.2.1⟩)
      ((go_at_call 71; refine (HPI.out _).mono ?_; rintro e w8 ⟨rfl, b8⟩; replace hc := back_of' hc b8; clear b8))
    have HU8 := Lib.hid (HU7.out.quiet hc)
    clear HU7 hc HK HX HPI hks
    obtain ⟨-, d0, d1, d2, q0, q1, q2⟩ := id HU8.out.d
    go_upto_region 24 with (fail)
    have HU9 := Lib.hid (HU8.out.set2 (.int .i64 Ez))
    clear HU8 d0 d1 d2 q0 q1 q2 hwe
    generalize w8.setCell ⟨g, 2, none⟩ (.int .i64 Ez) = w9 at *
    obtain ⟨-, d0, d1, d2, -⟩ := id HU9.out.d
    go_wp2_with fail
    refine (HO.out w9 (HT.out.below HU9.out.b)).mono ?_
    rintro e w10 ⟨rfl, b10⟩
    have HF := Lib.hid (back_of' HU9.out.b b10)
    clear b10
    go_wp2_with fail
    go_ret2
    exact ⟨rfl, HF.out⟩
  · obtain ⟨Ez, hEz⟩ : ∃ Ez : Int, v - 4 * (D.length : Int) = Ez := ⟨_, rfl⟩
    obtain ⟨Mz, hMz⟩ : ∃ Mz, hexVal 1 D = Mz := ⟨_, rfl⟩
    rw [hEz, hMz] at HO
    have HM := Lib.hid hMz
    have hwe : wrap64 (-(4 * (D.length : Int)) + v) = Ez := by have := HD.out.v; have := HD.out.l; unfold wrap64; omega
    clear hEz hMz
    have hpt : ptL D ++ 112 :: ex = [46] ++ (D ++ 112 :: ex) := by unfold ptL; rw [if_neg hE]; rfl
    have HU5' : Hid (UnhR w w5 g s ([46] ++ (D ++ 112 :: ex)) ng (.int .u64 1) (.int .i64 0)) := Lib.hid (by rw [← hpt]; exact HU5.out)
    clear HU5 hpt
    go_wp2_with fail
    refine (takeT_yes _ s [46] _ w5 HU5'.out.c HZ.out).mono ?_
    rintro e w6 ⟨rfl, c6, b6, k6⟩
    have HU6 := Lib.hid (HU5'.out.move k6 c6 b6)
    clear c6 b6 k6 HU5'
    go_wp2_with fail
    apply wp_scope_straight
    apply wp_seq
    apply wp_label
    go_wp2_with fail
    go_loopw [8] (fun _ wr => ∃ (A Z : List UInt8), D = A ++ Z ∧ Hid (UnhR w wr g s (Z ++ 112 :: ex) ng (.int .u64 (hexVal 1 A : Nat)) (.int .i64 (-(4 * (A.length : Int)))))) (fun _ wr => s.size - curK wr w.heap.size)
    case atStart => exact ⟨[], D, rfl, HU6⟩
    case round =>
      clear HU6
      obtain ⟨A, Z, hDA, hh⟩ := hrel
      go_wp2_with fail
      refine (endR _ s _ wr hh.out.c).mono ?_
      rintro e wd ⟨rfl, nn, hwd⟩
      rw [decide_eq_false (by simp : ¬ (Z ++ 112 :: ex = []))]
      have HU7 : Hid (UnhR w wd g s (Z ++ 112 :: ex) ng (.int .u64 (hexVal 1 A : Nat)) (.int .i64 (-(4 * (A.length : Int))))) := Lib.hid (by rw [hwd]; exact hh.out.drew nn)
      have HCK : Hid (curK wr w.heap.size = curK wd w.heap.size) := Lib.hid (by rw [hwd]; rfl)
      clear hh hwd
      obtain ⟨k, hca, hk, hdr⟩ := id HU7.out.c
      have HK := Lib.hid hca
      have hc : Below wd.heap.size wd wd.drew := (Below.refl _ _).drew
      have hkl : k < s.size := by
        have h1 := congrArg List.length hdr
        rw [List.length_drop, size_list] at h1
        simp at h1
        omega
      clear hca hk
      rcases Z with _ | ⟨z, Z⟩
      · have hidx := idx_of hdr
        obtain rfl : D = A := by rw [hDA, List.append_nil]
        clear hdr hDA
        have HIX := Lib.hid (fun W => Tryz.strings_IndexByte ⟨#[48, 49, 50, 51, 52, 53, 54, 55, 56, 57, 97, 98, 99, 100, 101, 102]⟩ (((112 : UInt8).toNat : Nat) : Int) W)
        rw [show Lib.indexByte (⟨#[48, 49, 50, 51, 52, 53, 54, 55, 56, 57, 97, 98, 99, 100, 101, 102]⟩ : ByteArray).data.toList (((112 : UInt8).toNat : Nat) : Int).toNat.toUInt8 = -1 by decide] at HIX
        go_upto_region 11 with (fail)
        go_region_held3 (fun w' => w'.cell? ⟨w.heap.size, 0, none⟩ = some (.string s) ∧ w'.cell? ⟨w.heap.size, 1, none⟩ = some (.int .i64 (k : Nat)))
          (exact ⟨(HK.out.below hc (Nat.le_refl _)).2.1, (HK.out.below hc (Nat.le_refl _)).2.2.1⟩)
          ((go_at_call 70; refine (HIX.out _).mono ?_; rintro e w8 ⟨rfl, hw8⟩; obtain rfl := hw8.symm))
        obtain ⟨wc, hwc⟩ : ∃ wc, wd.drew = wc := ⟨_, rfl⟩
        have HU6 : Hid (UnhR w wc g s (112 :: ex) ng (.int .u64 (Mz : Nat)) (.int .i64 (-(4 * (D.length : Int))))) := Lib.hid (by rw [← hwc, ← HM.out]; exact HU7.out.quiet hc)
        rw [hwc]
        clear hwc hc HU7 HK hidx HIX hkl HCK
        go_wp2_with fail
        simp only [Exit.noGoto_normal]
        go_wp2_with fail
        refine (takeT_yes _ s [112] _ wc HU6.out.c HZ.out).mono ?_
        rintro e w7 ⟨rfl, c7, b7, k7⟩
        have HU7 := Lib.hid (HU6.out.move k7 c7 b7)
        obtain ⟨k, hca, hk, hdr⟩ := id c7
        have HX : Hid ((s.extract k s.size).data.toList = ex) := Lib.hid (by
          have h1 := extract_list s k (s.size - k)
          rw [show k + (s.size - k) = s.size by omega] at h1
          rw [h1, hdr, List.take_of_length_le]
          rw [← hdr, List.length_drop, size_list]
          exact Nat.le_refl _)
        have HPI := Lib.hid (fun W => parseInt_any (s.extract k s.size) v W (by have := HD.out.z; rw [ByteArray.size_extract]; omega) (by rw [HX.out]; exact HD.out.e))
        have HK := Lib.hid hca
        have hks : ((k : Int) ≤ (s.size : Int)) := by omega
        clear c7 b7 k7 HU6 hca hdr
        have hc : Below w7.heap.size w7 w7.drew := (Below.refl _ _).drew
        go_upto_region 20 with (fail)
        go_region_held3 (fun w' => w'.cell? ⟨w.heap.size, 0, none⟩ = some (.string s) ∧ w'.cell? ⟨w.heap.size, 1, none⟩ = some (.int .i64 (k : Nat)))
          (exact ⟨(HK.out.below hc (Nat.le_refl _)).2.1, (HK.out.below hc (Nat.le_refl _)).2.2.1⟩)
          ((go_at_call 71; refine (HPI.out _).mono ?_; rintro e w8 ⟨rfl, b8⟩; replace hc := back_of' hc b8; clear b8))
        have HU8 := Lib.hid (HU7.out.quiet hc)
        clear HU7 hc HK HX HPI hks
        obtain ⟨-, d0, d1, d2, q0, q1, q2⟩ := id HU8.out.d
        go_upto_region 24 with (fail)
        have HU9 := Lib.hid (HU8.out.set2 (.int .i64 Ez))
        clear HU8 d0 d1 d2 q0 q1 q2 hwe
        generalize w8.setCell ⟨g, 2, none⟩ (.int .i64 Ez) = w9 at *
        obtain ⟨-, d0, d1, d2, -⟩ := id HU9.out.d
        go_wp2_with fail
        refine (HO.out w9 (HT.out.below HU9.out.b)).mono ?_
        rintro e w10 ⟨rfl, b10⟩
        have HF := Lib.hid (back_of' HU9.out.b b10)
        clear b10
        go_wp2_with fail
        go_ret2
        exact ⟨rfl, HF.out⟩
      · have hzx : IsHx z := HD.out.d z (by rw [hDA]; simp)
        have hA12 : A.length ≤ 12 := by have := HD.out.l; rw [hDA] at this; simp at this; omega
        have hmb : hexVal 1 A < 2 ^ (1 + 4 * A.length) := hexVal_lt A 1 1 (fun b hb => HD.out.d b (by rw [hDA]; simp [hb])) (by omega)
        have hmc : hexVal 1 A < 1125899906842624 := Nat.lt_of_lt_of_le hmb (Nat.le_trans (Nat.pow_le_pow_right (n := 2) (by omega) (show 1 + 4 * A.length ≤ 49 by omega)) (by decide))
        have hidx := idx_of hdr
        have hsn : hexVal 1 (A ++ [z]) = hexVal 1 A * 16 + hxv z := hexVal_snoc 1 A z
        have hz16 : hxv z < 16 := by unfold IsHx at hzx; unfold hxv; split <;> omega
        have HIX := Lib.hid (fun W => Tryz.strings_IndexByte ⟨#[48, 49, 50, 51, 52, 53, 54, 55, 56, 57, 97, 98, 99, 100, 101, 102]⟩ ((z.toNat : Nat) : Int) W)
        rw [ix_hx hzx] at HIX
        obtain ⟨m, hm⟩ : ∃ m, hexVal 1 A = m := ⟨_, rfl⟩
        obtain ⟨h, hh⟩ : ∃ h, hxv z = h := ⟨_, rfl⟩
        rw [hm, hh] at hsn
        rw [hm] at HU7 hmc
        rw [hh] at HIX hz16
        have HSN := Lib.hid hsn
        have hq0 : (m : Int) / 4503599627370496 = 0 := by omega
        have hh0 : ¬ ((h : Int) < 0) := by omega
        clear hmb hsn hm hh hzx
        go_upto_region 11 with (fail)
        go_region_held3 (fun w' => w'.cell? ⟨w.heap.size, 0, none⟩ = some (.string s) ∧ w'.cell? ⟨w.heap.size, 1, none⟩ = some (.int .i64 (k : Nat)))
          (exact ⟨(HK.out.below hc (Nat.le_refl _)).2.1, (HK.out.below hc (Nat.le_refl _)).2.2.1⟩)
          ((go_at_call 70; refine (HIX.out _).mono ?_; rintro e w8 ⟨rfl, hw8⟩; obtain rfl := hw8.symm))
        obtain ⟨wc, hwc⟩ : ∃ wc, wd.drew = wc := ⟨_, rfl⟩
        have HU8 : Hid (UnhR w wc g s (z :: (Z ++ 112 :: ex)) ng (.int .u64 (m : Nat)) (.int .i64 (-(4 * (A.length : Int))))) := Lib.hid (by rw [← hwc]; exact HU7.out.quiet hc)
        have HK8 : Hid (CurAt wc w.heap.size s k) := Lib.hid (by rw [← hwc]; exact HK.out.below hc (Nat.le_refl _))
        have HCK8 : Hid (curK wr w.heap.size = curK wc w.heap.size) := Lib.hid (by rw [HCK.out, ← hwc]; rfl)
        rw [hwc]
        clear hwc hc HU7 HK hidx HIX HCK
        obtain ⟨-, d0, d1, d2, q0, q1, q2⟩ := id HU8.out.d
        go_upto_region 16 with (fail)
        rw [hexOr hz16 hmc]
        obtain ⟨N, hN⟩ : ∃ N, m * 16 + h = N := ⟨_, rfl⟩
        rw [hN]
        have HN := Lib.hid hN
        have HU9 := Lib.hid (HU8.out.set1 (.int .u64 (N : Nat)))
        have HK9 := Lib.hid (HK8.out.kept ((Kept.refl wc g).setCell (o := 1) (.int .u64 (N : Nat))) (by have := HU8.out.g; omega))
        have HCK9 : Hid (curK wr w.heap.size = k) := Lib.hid (by rw [HCK8.out]; exact curK_at HK8.out)
        clear d0 d1 d2 q0 q1 q2 HU8 HK8 HCK8 hN hq0 hh0
        generalize wc.setCell ⟨g, 1, none⟩ (.int .u64 (N : Nat)) = w9 at *
        obtain ⟨-, d0, d1, d2, q0, q1, q2⟩ := id HU9.out.d
        go_upto_region 17 with (fail)
        obtain ⟨X4, hX4⟩ : ∃ X4 : Int, -(4 * (A.length : Int)) - 4 = X4 := ⟨_, rfl⟩
        rw [hX4]
        have HX4 : Hid (-(4 * ((A.length + 1 : Nat) : Int)) = X4) := Lib.hid (by omega)
        clear hX4
        have HU10 := Lib.hid (HU9.out.set2 (.int .i64 X4))
        have HK10 := Lib.hid (HK9.out.kept ((Kept.refl w9 g).setCell (o := 2) (.int .i64 X4)) (by have := HU9.out.g; omega))
        clear d0 d1 d2 q0 q1 q2 HU9 HK9
        generalize w9.setCell ⟨g, 2, none⟩ (.int .i64 X4) = w10 at *
        obtain ⟨-, k0, k1, k2⟩ := id HK10.out
        have hk1 : wrap64 ((k : Int) + 1) = ((k + 1 : Nat) : Int) := by have := HD.out.z; unfold wrap64; omega
        obtain ⟨K1, hK1⟩ : ∃ K1, k + 1 = K1 := ⟨_, rfl⟩
        rw [hK1] at hk1
        have HK1 := Lib.hid hK1
        clear hK1
        go_wp2_with fail
        go_roundw
        case rel =>
          refine ⟨A ++ [z], Z, by rw [hDA]; simp, Lib.hid ?_⟩
          have h1 := HU10.out.next (k := k) HK10.out (hdr.trans rfl) hkl
          rw [HSN.out, HN.out, List.length_append, List.length_singleton, HX4.out]
          rw [HK1.out] at h1
          exact h1
        case measure =>
          rw [curK_set HK10.out, HCK9.out]
          have := HK1.out
          omega
end Go.Proofs.YtgccfdfbnhldbaaGreatDoor.Nb

namespace Go.Proofs.YtgccfdfbnhldbaaGreatDoor.Nb
open Go Go.RowKit

set_option maxRecDepth 8000 in
set_option maxHeartbeats 2000000 in
/-- the closure read: a digit string's number, times the unit, is read again as the number -/
theorem read_any' (b n r s P Q ca cu u xv L L' : Nat) (R : Prop) (w : World) (hn : IntN w b 0 false n) (h0 : 0 < n) (ha : w.cell? ⟨ca, 0, none⟩ = some (.func (.func 39) #[] #[.pointer (some ⟨xv, 0, none⟩)])) (hca : ca < w.heap.size)
    (hc : w.cell? ⟨cu, 0, none⟩ = some (.pointer (some ⟨u, 0, none⟩))) (hcu : cu < w.heap.size) (hu : RatL w u false r s L)
    (hP : n / Nat.gcd n s * (r / Nat.gcd r 1) = P) (hQ : 1 / Nat.gcd r 1 * (s / Nat.gcd n s) = Q) (hPl : P < 18446744073709551616 ^ L') (hQl : Q < 18446744073709551616 ^ L') (hQ0 : 0 < Q) (hL : L ≤ 16777216 ∧ 1 ≤ L)
    (HG : Hid (∀ (z : Nat) (W : World), Below w.heap.size w W → RatL W z false P Q L' → Calls Tryz.prog 39 #[.pointer (some ⟨z, 0, none⟩), .pointer (some ⟨xv, 0, none⟩)] W fun e w' => ∃ r : Bool, e = .returned (.bool r) ∧ (r = true ↔ R) ∧ Below W.heap.size W w')) :
    Calls Tryz.prog 91 #[.pointer (some ⟨b, 0, none⟩), .pointer (some ⟨ca, 0, none⟩), .pointer (some ⟨cu, 0, none⟩)] w fun e w' => ∃ r : Bool, e = .returned (.bool r) ∧ (r = true ↔ R) ∧ Below w.heap.size w w' := by
  have HS := Lib.hid (sign_pos b 0 n w hn h0)
  have HE := Lib.hid (And.intro hP (And.intro hQ (And.intro hPl (And.intro hQl (And.intro hQ0 hL)))))
  have HN := Lib.hid (And.intro hn hu)
  clear hn hu hP hQ hPl hQl hQ0 hL
  go_enter Tryz.func91, Tryz.ntmps91
  go_wp2_with fail
  have hcur : Below w.heap.size w w.drew := (Below.refl _ _).drew
  have HSC := Lib.hid (fun (V : World) (hV : Below w.heap.size w V) => (show V.cell? ⟨ca, 0, none⟩ = some (.func (.func 39) #[] #[.pointer (some ⟨xv, 0, none⟩)]) ∧ V.cell? ⟨cu, 0, none⟩ = some (.pointer (some ⟨u, 0, none⟩)) from ⟨(hV.cell (p := ⟨ca, 0, none⟩) (by exact hca)).trans ha, (hV.cell (p := ⟨cu, 0, none⟩) (by exact hcu)).trans hc⟩))
  have H1 : Hid (RSlot ((w.drew.alloc (.cells #[.bool false, .slice none 0 0, .bool false, .slice none 0 0] 136)).alloc (.cells #[.bool false, .slice none 0 0, .bool false, .slice none 0 0] 136)) (w.heap.size + 1)) := Lib.hid (by have := RSlot.new (w.drew.alloc (.cells #[.bool false, .slice none 0 0, .bool false, .slice none 0 0] 136)) 136; simpa using this)
  have H2 : Hid (RSlot ((w.drew.alloc (.cells #[.bool false, .slice none 0 0, .bool false, .slice none 0 0] 136)).alloc (.cells #[.bool false, .slice none 0 0, .bool false, .slice none 0 0] 136)) w.heap.size) := Lib.hid ((RSlot.new w.drew 136).below ((Below.refl _ _).alloc (Nat.le_refl _) _) (Nat.le_refl _))
  have H3 : Hid (RSlot (w.drew.alloc (.cells #[.bool false, .slice none 0 0, .bool false, .slice none 0 0] 136)) w.heap.size) := Lib.hid (RSlot.new w.drew 136)
  go_region_held3 (fun w' => w'.cell? ⟨ca, 0, none⟩ = some (.func (.func 39) #[] #[.pointer (some ⟨xv, 0, none⟩)]) ∧ w'.cell? ⟨cu, 0, none⟩ = some (.pointer (some ⟨u, 0, none⟩))) (first | exact HSC.out _ (by first | exact hcur7 | exact hcur6 | exact hcur3 | exact hcur3.alloc hcur3.size _ | exact hcur | exact hcur.alloc hcur.size _ | exact (hcur.alloc hcur.size _).alloc (hcur.alloc hcur.size _).size _)) (first | (go_at_call 92; refine (sign_pos b 0 n w.drew HN.out.1 h0).mono ?_; rintro e w2 ⟨rfl, rfl⟩) | (go_at_call 82; refine (setintLK _ b 0 n L _ (by first | exact H3.out | exact H1.out | exact H2.out) ((HN.out.1.any HE.out.2.2.2.2.2.2).below (by first | exact hcur.alloc hcur.size _ | exact (hcur.alloc hcur.size _).alloc (hcur.alloc hcur.size _).size _) (Nat.le_refl _)) (by have := HE.out.2.2.2.2.2; omega) HE.out.2.2.2.2.2.2 (by have := HN.out.1.1; omega)).mono ?_; rintro e w3 ⟨⟨rfl, r3, s3, b3⟩, k3⟩; have hcur3 : Below w.heap.size w w3 := (by first | exact (hcur.alloc hcur.size (.cells #[.bool false, .slice none 0 0, .bool false, .slice none 0 0] 136)).trans (b3.mono (by omega)) | exact ((hcur.alloc hcur.size (.cells #[.bool false, .slice none 0 0, .bool false, .slice none 0 0] 136)).alloc (hcur.alloc hcur.size (.cells #[.bool false, .slice none 0 0, .bool false, .slice none 0 0] 136)).size (.cells #[.bool false, .slice none 0 0, .bool false, .slice none 0 0] 136)).trans (b3.mono (by omega))); (first | (have HRa : Hid (RatL w3 w.heap.size false n 1 L) := Lib.hid r3) | (have HRb : Hid (RatL w3 (w.heap.size + 1) false n 1 L) := Lib.hid r3)); have HK := Lib.hid k3; clear r3 s3 b3 k3) | (go_at_call 81; refine (ratmulL _ _ u n 1 r s P Q L L' _ (by first | exact H2.out.kept HK.out (by omega) | exact H1.out.kept HK.out (by omega) | exact RSlot.new w3 136) (by first | exact HRa.out | exact HRb.out | exact HRa.out.below ((Below.refl _ _).alloc (Nat.le_refl _) _) (Nat.le_refl _)) (by first | exact HN.out.2.below hcur3 (Nat.le_refl _) | exact HN.out.2.below (hcur3.alloc hcur3.size _) (Nat.le_refl _)) HE.out.1 HE.out.2.1 HE.out.2.2.1 HE.out.2.2.2.1 HE.out.2.2.2.2.1 HE.out.2.2.2.2.2.1 HE.out.2.2.2.2.2.2).mono ?_; rintro e w6 ⟨rfl, r6, s6, b6⟩; have hcur6 : Below w.heap.size w w6 := (by have z3 := hcur3.size; first | exact hcur3.trans (b6.mono (by omega)) | exact (hcur3.alloc hcur3.size (.cells #[.bool false, .slice none 0 0, .bool false, .slice none 0 0] 136)).trans (b6.mono (by omega))); have HG6 := Lib.hid (HG.out _ _ hcur6 r6); clear r6 s6 b6) | (go_at_call 39; refine HG6.out.mono ?_; rintro e w7 ⟨rr, rfl, hrr, b7⟩; have hcur7 := back_of' hcur6 b7; clear b7))
  all_goals go_wp2_with fail
  all_goals go_ret
  all_goals exact ⟨rr, rfl, hrr, hcur7⟩
end Go.Proofs.YtgccfdfbnhldbaaGreatDoor.Nb

namespace Go.Proofs.YtgccfdfbnhldbaaGreatDoor.Nb
open Go Go.RowKit

/-- an answer that is a whole number in new memory -/
def NewL (w : World) (neg : Bool) (n L : Nat) (e : Ending) (w' : World) : Prop :=
  ∃ b, e = .returned (.pointer (some ⟨b, 0, none⟩)) ∧ w.heap.size ≤ b ∧ IntL w' b 0 neg n L ∧ ISlot w' b 0 ∧ Below w.heap.size w w'
set_option maxRecDepth 8000 in
set_option maxHeartbeats 1000000 in
theorem set_anyL (z zo b o n L : Nat) (neg : Bool) (w : World) (h : ISlot w z zo) (hx : IntL w b o neg n L) (hn : neg = true → n ≠ 0) (hL : L ≤ 268435456) :
    Calls Tryz.prog 145 #[.pointer (some ⟨z, zo, none⟩), .pointer (some ⟨b, o, none⟩)] w (WroteL w z zo neg n L) := by
  obtain ⟨hb, h2, A, k, c, h3, h4⟩ := hx
  have H := Lib.hid h
  have HC := Lib.hid (fun j => clone_any _ n L (w.drewN j) (show MagN (w.drewN j) _ n L from h4) (by omega))
  clear h h4
  go_enter Tryz.func145, Tryz.ntmps145
  go_wp2_with fail
  go_region_with (first
    | (go_at_call 141; refine (HC.out _).mono ?_; rintro e w1 ⟨v, rfl, hm, hbw⟩; obtain ⟨A1, k1, c1, rfl⟩ := hm.slice; have hb2 : Below w.heap.size w w1 := (below_dN (Below.refl _ _) _).trans hbw; have y0 := (hb2.cell (p := ⟨b, o, none⟩) hb).trans h2; have HM := Lib.hid (made_numL z zo n L neg A1 k1 c1 w1 (H.out.below hb2 (Nat.le_refl _)) hm hn); have HB := Lib.hid (hb2.mono (Nat.le_of_lt H.out.1)); clear hm hbw hb2)
    | (go_at_call 99; refine HM.out.mono ?_; rintro e w2 ⟨rfl, h1, h2, h3⟩; have HF := Lib.hid (And.intro h1 (And.intro h2 (HB.out.trans h3))); clear h1 h2 h3))
  all_goals go_wp2_with fail
  all_goals (go_ret; exact ⟨rfl, HF.out.1, HF.out.2.1, HF.out.2.2⟩)
set_option maxRecDepth 8000 in
theorem num_anyL (x p q L : Nat) (w : World) (hx : RatL w x false p q L) (hL : L ≤ 268435456) :
    Calls Tryz.prog 88 #[.pointer (some ⟨x, 0, none⟩)] w (NewL w false p L) := by
  have hA := (Below.refl w.heap.size w).alloc (Nat.le_refl _) (.cells #[.bool false, .slice none 0 0] 90)
  have HS := Lib.hid (set_anyL w.heap.size 0 x 0 p L false _ (ISlot.new w 90) (hx.1.below hA (Nat.le_refl _)) (by simp) hL)
  have HA := Lib.hid hA
  clear hx hA hL
  go_enter Tryz.func88, Tryz.ntmps88
  go_wp2_with fail
  refine HS.out.mono ?_
  rintro e w1 ⟨rfl, h1, h2, h3⟩
  have HF := Lib.hid (And.intro h1 (And.intro h2 (HA.out.trans h3)))
  clear h1 h2 h3
  go_wp2_with fail
  go_ret
  exact ⟨_, rfl, Nat.le_refl _, HF.out⟩
set_option maxRecDepth 8000 in
theorem denom_anyL (x p q L : Nat) (w : World) (hx : RatL w x false p q L) (hL : L ≤ 268435456) :
    Calls Tryz.prog 89 #[.pointer (some ⟨x, 0, none⟩)] w (NewL w false q L) := by
  have hA := (Below.refl w.heap.size w).alloc (Nat.le_refl _) (.cells #[.bool false, .slice none 0 0] 90)
  obtain ⟨A1, k1, c1, A2, k2, c2, hb, e0, e1, e3, m1, m2, q0, hk2⟩ := (hx.below hA (Nat.le_refl _)).open
  have HU := Lib.hid (under_atL x A2 k2 c2 _ e3 hk2)
  have HC := Lib.hid (clone_any _ q L _ m2 (by omega))
  have HZ := Lib.hid (ISlot.new w 90)
  have HA := Lib.hid hA
  clear hx hA m1 m2 e0 e1 e3 hk2 hL
  go_enter Tryz.func89, Tryz.ntmps89
  go_wp2_with fail
  refine HU.out.mono ?_
  rintro e w1 ⟨rfl, rfl⟩
  go_wp2_with fail
  refine HC.out.mono ?_
  rintro e w1 ⟨v, rfl, hm, hb⟩
  obtain ⟨A, k, c, rfl⟩ := hm.slice
  have HM := Lib.hid (made_numL w.heap.size 0 q L false A k c w1 (HZ.out.below hb (Nat.le_refl _)) hm (by simp))
  have HB := Lib.hid (HA.out.trans (hb.mono HA.out.size))
  clear hm hb
  go_wp2_with fail
  refine HM.out.mono ?_
  rintro e w2 ⟨rfl, h1, h2, h3⟩
  have HF := Lib.hid (And.intro h1 (And.intro h2 (HB.out.trans h3)))
  clear h1 h2 h3
  go_wp2_with fail
  go_ret
  exact ⟨_, rfl, Nat.le_refl _, HF.out⟩
end Go.Proofs.YtgccfdfbnhldbaaGreatDoor.Nb

namespace Go.Proofs.YtgccfdfbnhldbaaGreatDoor.Nb
open Go Go.RowKit

set_option maxRecDepth 8000 in
set_option maxHeartbeats 1000000 in
theorem cmp_anyL (b o m b' o' n L : Nat) (w : World) (hx : IntL w b o false m L) (hy : IntL w b' o' false n L) (hL : L ≤ 268435456) :
    Calls Tryz.prog 149 #[.pointer (some ⟨b, o, none⟩), .pointer (some ⟨b', o', none⟩)] w fun e w' => e = .returned (.int .i64 (cmpN m n)) ∧ ∃ j, w' = w.drewN j := by
  obtain ⟨hb, h2, A, k, c, h3, h4⟩ := hx
  obtain ⟨hb', h2', A', k', c', h3', h4'⟩ := hy
  have HC := Lib.hid (fun j => compare_any _ _ m n L (w.drewN j) (show MagN (w.drewN j) _ m L from h4) (show MagN (w.drewN j) _ n L from h4') (by omega))
  obtain ⟨q, hq⟩ : ∃ q, cmpN m n = q := ⟨_, rfl⟩
  rw [hq] at HC ⊢
  clear h4 h4'
  go_enter Tryz.func149, Tryz.ntmps149
  go_wp2_with fail
  go_quiet (fail)
  go_wp2_with fail
  go_quiet ((go_at_call 158; exact quiet_more (HC.out _)))
  go_wp2_with fail
  go_ret
  exact ⟨rfl, _, by rw [World.drewN_drewN]⟩
set_option maxRecDepth 8000 in
theorem bitlen_anyL (b o n L : Nat) (neg : Bool) (w : World) (hx : IntL w b o neg n L) (hL : L ≤ 268435456) :
    Calls Tryz.prog 143 #[.pointer (some ⟨b, o, none⟩)] w fun e w' => e = .returned (.int .i64 (blen n)) ∧ w' = w := by
  obtain ⟨hb, h2, A, k, c, h3, h4⟩ := hx
  have HL := Lib.hid (length_any _ n L w h4 (by omega))
  obtain ⟨q, hq⟩ : ∃ q, blen n = q := ⟨_, rfl⟩
  rw [hq] at HL ⊢
  clear h4
  go_enter Tryz.func143, Tryz.ntmps143
  go_wp2_with fail
  refine HL.out.mono ?_
  rintro e w1 ⟨rfl, rfl⟩
  go_wp2_with fail
  go_ret
  exact ⟨rfl, rfl⟩
set_option maxRecDepth 8000 in
set_option maxHeartbeats 2000000 in
theorem ratcmp_anyL (x y p q r s T1 T2 L : Nat) (w : World) (hx : RatL w x false p q L) (hy : RatL w y false r s L) (hT1 : p * s = T1) (hT2 : r * q = T2) (hL : L ≤ 67108864) :
    Calls Tryz.prog 94 #[.pointer (some ⟨x, 0, none⟩), .pointer (some ⟨y, 0, none⟩)] w fun e w' => e = .returned (.int .i64 (cmpN T1 T2)) ∧ Below w.heap.size w w' := by
  obtain ⟨A1, k1, c1, A2, k2, c2, hb, e0, e1, e3, m1, m2, q0, hk2⟩ := hx.open
  obtain ⟨B1, l1, d1, B2, l2, d2, hb', f0, f1, f3, n1, n2, s0, hl2⟩ := hy.open
  have HX := Lib.hid (fun (W : World) (hW : Below w.heap.size w W) => (show W.cell? ⟨x, 0, none⟩ = some (.bool false) ∧ W.cell? ⟨x, 1, none⟩ = some (.slice A1 k1 c1) ∧ W.cell? ⟨y, 3, none⟩ = some (.slice B2 l2 d2) from ⟨(hW.cell (p := ⟨x, 0, none⟩) (by exact hb)).trans e0, (hW.cell (p := ⟨x, 1, none⟩) (by exact hb)).trans e1, (hW.cell (p := ⟨y, 3, none⟩) (by exact hb')).trans f3⟩))
  have HY := Lib.hid (fun (W : World) (hW : Below w.heap.size w W) => (show W.cell? ⟨y, 0, none⟩ = some (.bool false) ∧ W.cell? ⟨y, 1, none⟩ = some (.slice B1 l1 d1) ∧ W.cell? ⟨x, 3, none⟩ = some (.slice A2 k2 c2) from ⟨(hW.cell (p := ⟨y, 0, none⟩) (by exact hb')).trans f0, (hW.cell (p := ⟨y, 1, none⟩) (by exact hb')).trans f1, (hW.cell (p := ⟨x, 3, none⟩) (by exact hb)).trans e3⟩))
  have HT1 := Lib.hid (fun (W : World) (hW : Below w.heap.size w W) => times_mag _ _ p s L L W (m1.below hW) (n2.below hW) (by omega) (by omega))
  have HT2 := Lib.hid (fun (W : World) (hW : Below w.heap.size w W) => times_mag _ _ r q L L W (n1.below hW) (m2.below hW) (by omega) (by omega))
  have HN := Lib.hid (And.intro hT1 (And.intro hT2 (And.intro hL hL)))
  clear m1 m2 n1 n2 hx hy e0 e1 e3 f0 f1 f3 hT1 hT2 hL q0 s0
  have HKL := Lib.hid (And.intro hk2 hl2)
  clear hk2 hl2
  have hcur : Below w.heap.size w w.drew := (Below.refl _ _).drew
  go_enter Tryz.func94, Tryz.ntmps94
  go_wp2_with fail
  go_cut [5] (fun v wx => ∃ za : Nat, v = .pointer (some ⟨za, 0, none⟩) ∧ Hid (IntL wx za 0 false T1 (L + L) ∧ ISlot wx za 0 ∧ Below w.heap.size w wx ∧ w.heap.size ≤ za))
  case first =>
    go_region_held3 (fun w' => w'.cell? ⟨x, 0, none⟩ = some (.bool false) ∧ w'.cell? ⟨x, 1, none⟩ = some (.slice A1 k1 c1) ∧ w'.cell? ⟨y, 3, none⟩ = some (.slice B2 l2 d2)) (first | exact HX.out _ (by first | exact hcur5 | exact hcur4 | exact hcur4.alloc hcur4.size _ | exact hcur | exact hcur.alloc hcur.size _)) (first | (go_at_call 139; refine (under_atL y B2 l2 d2 _ (HX.out _ (by first | exact hcur | exact hcur.alloc hcur.size _)).2.2 HKL.out.2).mono ?_; rintro e w4 ⟨rfl, rfl⟩) | (go_at_call 103; refine (HT1.out _ (by first | exact hcur | exact hcur.alloc hcur.size _)).mono ?_; rintro e w4 ⟨v4, rfl, hm4, hb4⟩; obtain ⟨A4, k4, c4, rfl⟩ := hm4.slice; have hcur4 : Below w.heap.size w w4 := (by first | exact back_of' hcur hb4 | exact back_of' (hcur.alloc hcur.size (.cells #[.bool false, .slice none 0 0] 90)) hb4); (first | (have HA : Hid (Below w.drew.heap.size w.drew w4) := Lib.hid hb4) | (have HA : Hid (Below (w.drew.alloc (.cells #[.bool false, .slice none 0 0] 90)).heap.size (w.drew.alloc (.cells #[.bool false, .slice none 0 0] 90)) w4) := Lib.hid hb4)); rw [HN.out.1] at hm4; have HM4 := Lib.hid (hm4); clear hm4 hb4) | (go_at_call 99; refine (made_numL _ 0 T1 (L + L) false A4 k4 c4 _ (by first | exact (ISlot.new w.drew 90).below HA.out (Nat.le_refl _) | exact ISlot.new w4 90) (by first | exact HM4.out | exact HM4.out.below ((Below.refl _ _).alloc (Nat.le_refl _) _)) (by simp)).mono ?_; rintro e w5 ⟨rfl, i5, s5, b5⟩; have hcur5 : Below w.heap.size w w5 := (by first | exact hcur4.trans (b5.mono (Nat.le_refl _)) | exact (hcur4.alloc hcur4.size _).trans (b5.mono hcur4.size)); have HF := Lib.hid (And.intro i5 (And.intro s5 hcur5)); clear i5 s5 b5))
    all_goals go_wp2_with fail
    all_goals go_meet
    all_goals exact ⟨_, rfl, Lib.hid ⟨HF.out.1, HF.out.2.1, HF.out.2.2, by first | exact Nat.le_refl _ | exact hcur4.size⟩⟩
  case rest =>
    obtain ⟨za, rfl, hcut⟩ := hcut
    obtain ⟨w2, hw2⟩ : ∃ w2, wc = w2 := ⟨_, rfl⟩
    subst hw2
    have HZ := Lib.hid hcut.out
    have HB2 := Lib.hid hcut.out.2.2.1
    have hzs : za < wc.heap.size := hcut.out.1.1
    clear hcut hcur HX HT1
    go_wp2_with fail
    have HYW := Lib.hid (fun (W : World) (hW : Below wc.heap.size wc W) => HY.out W (back_of' HB2.out hW))
    have HTW := Lib.hid (fun (W : World) (hW : Below wc.heap.size wc W) => HT2.out W (back_of' HB2.out hW))
    have hcur : Below wc.heap.size wc wc.drew := (Below.refl _ _).drew
    go_cut [6] (fun v wx => ∃ za : Nat, v = .pointer (some ⟨za, 0, none⟩) ∧ Hid (IntL wx za 0 false T2 (L + L) ∧ ISlot wx za 0 ∧ Below wc.heap.size wc wx ∧ wc.heap.size ≤ za))
    case first =>
      go_region_held3 (fun w' => w'.cell? ⟨y, 0, none⟩ = some (.bool false) ∧ w'.cell? ⟨y, 1, none⟩ = some (.slice B1 l1 d1) ∧ w'.cell? ⟨x, 3, none⟩ = some (.slice A2 k2 c2)) (first | exact HYW.out _ (by first | exact hcur5 | exact hcur4 | exact hcur4.alloc hcur4.size _ | exact hcur | exact hcur.alloc hcur.size _)) (first | (go_at_call 139; refine (under_atL x A2 k2 c2 _ (HYW.out _ (by first | exact hcur | exact hcur.alloc hcur.size _)).2.2 HKL.out.1).mono ?_; rintro e w4 ⟨rfl, rfl⟩) | (go_at_call 103; refine (HTW.out _ (by first | exact hcur | exact hcur.alloc hcur.size _)).mono ?_; rintro e w4 ⟨v4, rfl, hm4, hb4⟩; obtain ⟨A4, k4, c4, rfl⟩ := hm4.slice; have hcur4 : Below wc.heap.size wc w4 := (by first | exact back_of' hcur hb4 | exact back_of' (hcur.alloc hcur.size (.cells #[.bool false, .slice none 0 0] 90)) hb4); (first | (have HA : Hid (Below wc.drew.heap.size wc.drew w4) := Lib.hid hb4) | (have HA : Hid (Below (wc.drew.alloc (.cells #[.bool false, .slice none 0 0] 90)).heap.size (wc.drew.alloc (.cells #[.bool false, .slice none 0 0] 90)) w4) := Lib.hid hb4)); rw [HN.out.2.1] at hm4; have HM4 := Lib.hid (hm4); clear hm4 hb4) | (go_at_call 99; refine (made_numL _ 0 T2 (L + L) false A4 k4 c4 _ (by first | exact (ISlot.new wc.drew 90).below HA.out (Nat.le_refl _) | exact ISlot.new w4 90) (by first | exact HM4.out | exact HM4.out.below ((Below.refl _ _).alloc (Nat.le_refl _) _)) (by simp)).mono ?_; rintro e w5 ⟨rfl, i5, s5, b5⟩; have hcur5 : Below wc.heap.size wc w5 := (by first | exact hcur4.trans (b5.mono (Nat.le_refl _)) | exact (hcur4.alloc hcur4.size _).trans (b5.mono hcur4.size)); have HF := Lib.hid (And.intro i5 (And.intro s5 hcur5)); clear i5 s5 b5))
      all_goals go_wp2_with fail
      all_goals go_meet
      all_goals exact ⟨_, rfl, Lib.hid ⟨HF.out.1, HF.out.2.1, HF.out.2.2, by first | exact Nat.le_refl _ | exact hcur4.size⟩⟩
    case rest =>
      obtain ⟨zb, rfl, hcut⟩ := hcut
      have I1 := Lib.hid (cmp_anyL za 0 T1 zb 0 T2 (L + L) wc (HZ.out.1.below hcut.out.2.2.1 (Nat.le_refl _)) hcut.out.1 (by have := HN.out.2.2.1; omega))
      have HBf := Lib.hid (back_of' HB2.out hcut.out.2.2.1)
      clear hcut hcur HYW HTW HZ HB2
      go_wp2_with fail
      refine I1.out.mono ?_
      rintro e w6 ⟨rfl, j, rfl⟩
      go_wp2_with fail
      go_ret
      exact ⟨rfl, below_dr HBf.out j⟩
end Go.Proofs.YtgccfdfbnhldbaaGreatDoor.Nb

namespace Go.Proofs.YtgccfdfbnhldbaaGreatDoor.Nb
open Go Go.RowKit

set_option maxRecDepth 8000 in
set_option maxHeartbeats 1000000 in
/-- a number from 0 on and one below 0, of no greater amount -/
theorem plus_negL (z zo b o m n L : Nat) (v : Value) (w : World) (hz : ISlot w z zo) (hx : IntL w b o false m L) (hv : MagN w v n L) (h : n ≤ m) (hL : L ≤ 268435456) :
    Calls Tryz.prog 146 #[.pointer (some ⟨z, zo, none⟩), .pointer (some ⟨b, o, none⟩), .bool true, v] w (WroteL w z zo false (m - n) L) := by
  obtain ⟨hb, h2, A, k, c, h3, h4⟩ := hx
  obtain ⟨A', k', c', rfl⟩ := hv.slice
  have HC := Lib.hid (compare_any _ _ m n L w h4 hv (by omega))
  have HL := Lib.hid (fun (W : World) (hW : Below w.heap.size w W) => less_any _ _ m n L W (h4.below hW) (hv.below hW) h (by omega))
  have HS := Lib.hid (fun (W : World) (hW : Below w.heap.size w W) => (show W.cell? ⟨b, o, none⟩ = some (.bool false) ∧ W.cell? ⟨b, o + 1, none⟩ = some (.slice A k c) from ⟨(hW.cell (p := ⟨b, o, none⟩) (by exact hb)).trans h2, (hW.cell (p := ⟨b, o + 1, none⟩) (by exact hb)).trans h3⟩))
  have HZ := Lib.hid hz
  obtain ⟨q, hq⟩ : ∃ q, cmpN m n = q := ⟨_, rfl⟩
  rw [hq] at HC
  have hq0 : (0 : Int) ≤ q := by rw [← hq]; unfold cmpN; split <;> first | omega | (split <;> omega)
  clear h4 hz hv hq
  go_enter Tryz.func146, Tryz.ntmps146
  go_wp2_with fail
  refine HC.out.mono ?_
  rintro e w1 ⟨rfl, j, rfl⟩
  go_wp2_with fail
  have hcur : Below w.heap.size w (w.drewN j).drew := (below_dr2 (Below.refl _ _) j).drew
  go_region_with (first | (go_at_call 194; refine (HL.out _ hcur).mono ?_; rintro e w3 ⟨x, rfl, hm, hb3⟩; obtain ⟨A1, k1, c1, rfl⟩ := hm.slice; have hcur2 := back_of hcur hb3; obtain ⟨y0, -⟩ := HS.out _ hcur2; have HM := Lib.hid (made_numL z zo _ L false A1 k1 c1 w3 (HZ.out.below hcur2 (Nat.le_refl _)) hm (by simp)); have HB := Lib.hid (hcur2.mono (Nat.le_of_lt HZ.out.1)); clear hm hb3 hcur2) | (go_at_call 99; refine HM.out.mono ?_; rintro e w4 h; have HF := Lib.hid (h.after HB.out); obtain ⟨rfl, -⟩ := h))
  all_goals go_wp2_with fail
  all_goals (go_ret; exact HF.out)
set_option maxRecDepth 8000 in
set_option maxHeartbeats 1000000 in
theorem ratneg_anyL (z x p q L : Nat) (w : World) (h : RSlot w z) (hx : RatL w x false p q L) (hne : x ≠ z) (hp : p ≠ 0) (hL : L ≤ 268435456) :
    Calls Tryz.prog 148 #[.pointer (some ⟨z, 0, none⟩), .pointer (some ⟨x, 0, none⟩)] w (WroteRL w z true p q L) := by
  obtain ⟨A1, k1, c1, A2, k2, c2, hb, e0, e1, e3, m1, m2, q0, hk2⟩ := hx.open
  have HS := Lib.hid (fun (W : World) (hW : Below w.heap.size w W) => (show W.cell? ⟨x, 0, none⟩ = some (.bool false) ∧ W.cell? ⟨x, 1, none⟩ = some (.slice A1 k1 c1) ∧ W.cell? ⟨x, 3, none⟩ = some (.slice A2 k2 c2) from ⟨(hW.cell (p := ⟨x, 0, none⟩) (by exact hb)).trans e0, (hW.cell (p := ⟨x, 1, none⟩) (by exact hb)).trans e1, (hW.cell (p := ⟨x, 3, none⟩) (by exact hb)).trans e3⟩))
  have HS2 := Lib.hid (fun (W : World) (hW : Below w.heap.size w W) (neg : Bool) (v v' : Value) => (show (put2 W z neg v v').cell? ⟨x, 0, none⟩ = some (.bool false) ∧ (put2 W z neg v v').cell? ⟨x, 1, none⟩ = some (.slice A1 k1 c1) ∧ (put2 W z neg v v').cell? ⟨x, 3, none⟩ = some (.slice A2 k2 c2) from ⟨(put2_cell _ _ _ hne).trans (HS.out W hW).1, (put2_cell _ _ _ hne).trans (HS.out W hW).2.1, (put2_cell _ _ _ hne).trans (HS.out W hW).2.2⟩))
  have HC1 := Lib.hid (fun (W : World) (hW : Below w.heap.size w W) => clone_any _ p L W (m1.below hW) (by omega))
  have HC2 := Lib.hid (fun (W : World) (hW : Below w.heap.size w W) => clone_any _ q L W (m2.below hW) (by omega))
  have H := Lib.hid h
  have hz : z ≤ w.heap.size := Nat.le_of_lt h.1.1
  clear h m1 m2 hx e0 e1 e3
  have hcur : Below w.heap.size w w.drew := (Below.refl _ _).drew
  go_enter Tryz.func148, Tryz.ntmps148
  go_wp2_with fail
  go_region_held3 (fun w' => w'.cell? ⟨x, 0, none⟩ = some (.bool false) ∧ w'.cell? ⟨x, 1, none⟩ = some (.slice A1 k1 c1) ∧ w'.cell? ⟨x, 3, none⟩ = some (.slice A2 k2 c2)) (first | exact hk6 | exact HS.out _ hcurB | exact HS.out _ hcurA | exact HS.out _ hcur) (first | (go_at_call 141; refine (HC2.out _ hcurA).mono ?_; rintro e w5 ⟨v5, rfl, hm5, hb5⟩; obtain ⟨A5, k5, c5, rfl⟩ := hm5.slice; have hcurB := back_of' hcurA hb5; have HM3 := Lib.hid (HM3.out.below hb5); have HM5 := Lib.hid hm5; clear hm5 hb5) | (go_at_call 141; refine (HC1.out _ hcur).mono ?_; rintro e w3 ⟨v3, rfl, hm3, hb3⟩; obtain ⟨A3, k3, c3, rfl⟩ := hm3.slice; have hcurA := back_of' hcur hb3; have HM3 := Lib.hid hm3; clear hm3 hb3) | (go_at_call 139; refine (under_atL x A2 k2 c2 _ (HS.out _ hcurA).2.2 hk2).mono ?_; rintro e w4 ⟨rfl, rfl⟩) | (go_at_call 140; refine (raw_putL z p L true A3 A5 k3 c3 k5 c5 _ (H.out.below hcurB (Nat.le_refl _)) HM3.out (fun _ => hp)).mono ?_; rintro e w6 ⟨rfl, hw6⟩; have hk6 : w6.cell? ⟨x, 0, none⟩ = some (.bool false) ∧ w6.cell? ⟨x, 1, none⟩ = some (.slice A1 k1 c1) ∧ w6.cell? ⟨x, 3, none⟩ = some (.slice A2 k2 c2) := (by rw [hw6]; exact HS2.out _ hcurB _ _ _); have HW6 := Lib.hid hw6; clear hw6))
  all_goals go_wp2_with fail
  all_goals go_ret
  have hh := put2_wroteL (neg := true) (H.out.below hcurB (Nat.le_refl _)) HM3.out HM5.out q0
  have hw := HW6.out
  subst hw
  exact ⟨rfl, hh.1, hh.2.1, (hcurB.mono hz).trans hh.2.2⟩
/-- what the head of Add leaves behind: the numbers' words -/
structure AddHeadL (w : World) (wx : World) (vd vg ve vf : Value) (s G E F L0 : Nat) : Prop where
  b : Below w.heap.size w wx
  d : MagN wx vd s L0
  g : MagN wx vg G L0
  e : MagN wx ve E L0
  f : MagN wx vf F L0
theorem AddHeadL.below {w w1 w2 : World} {vd vg ve vf : Value} {s G E F L0 : Nat} (h : AddHeadL w w1 vd vg ve vf s G E F L0) (hb : Below w1.heap.size w1 w2) : AddHeadL w w2 vd vg ve vf s G E F L0 :=
  ⟨back_of' h.b hb, h.d.below hb, h.g.below hb, h.e.below hb, h.f.below hb⟩

set_option maxRecDepth 8000 in
set_option maxHeartbeats 2000000 in
theorem ratadd_unL (z x y p q r s G E F T1 T2 D K L P Q L0 M : Nat) (w : World) (h : RSlot w z) (hx : RatL w x false p q L0) (hy : RatL w y true r s L0)
    (hG : Nat.gcd q s = G) (hE : q / G = E) (hF : s / G = F) (hT1 : p * F = T1) (hT2 : r * E = T2) (hle : T2 ≤ T1) (hD : T1 - T2 = D) (hK : Nat.gcd D G = K) (hL : s / K = L) (hP : D / K = P) (hQ : E * L = Q)
    (b1 : L0 + L0 = M) (b2 : M ≤ 16777216 ∧ 1 ≤ L0) (b0 : 0 < Q) :
    Calls Tryz.prog 147 #[.pointer (some ⟨z, 0, none⟩), .pointer (some ⟨x, 0, none⟩), .pointer (some ⟨y, 0, none⟩)] w (WroteRL w z false P Q (M + M)) := by
  obtain ⟨A1, k1, c1, A2, k2, c2, hb, e0, e1, e3, m1, m2, q0, hk2⟩ := hx.open
  obtain ⟨B1, l1, d1, B2, l2, d2, hb', f0, f1, f3, n1, n2, s0, hl2⟩ := hy.open
  have hG0 : 0 < G := hG ▸ Nat.gcd_pos_of_pos_left _ q0
  have hK0 : 0 < K := hK ▸ Nat.gcd_pos_of_pos_right _ hG0
  have HX := Lib.hid (fun (W : World) (hW : Below w.heap.size w W) => (show W.cell? ⟨x, 0, none⟩ = some (.bool false) ∧ W.cell? ⟨x, 1, none⟩ = some (.slice A1 k1 c1) ∧ W.cell? ⟨x, 3, none⟩ = some (.slice A2 k2 c2) from ⟨(hW.cell (p := ⟨x, 0, none⟩) (by exact hb)).trans e0, (hW.cell (p := ⟨x, 1, none⟩) (by exact hb)).trans e1, (hW.cell (p := ⟨x, 3, none⟩) (by exact hb)).trans e3⟩))
  have HY := Lib.hid (fun (W : World) (hW : Below w.heap.size w W) => (show W.cell? ⟨y, 0, none⟩ = some (.bool true) ∧ W.cell? ⟨y, 1, none⟩ = some (.slice B1 l1 d1) ∧ W.cell? ⟨y, 3, none⟩ = some (.slice B2 l2 d2) from ⟨(hW.cell (p := ⟨y, 0, none⟩) (by exact hb')).trans f0, (hW.cell (p := ⟨y, 1, none⟩) (by exact hb')).trans f1, (hW.cell (p := ⟨y, 3, none⟩) (by exact hb')).trans f3⟩))
  have HM := Lib.hid (fun (W : World) (hW : Below w.heap.size w W) => And.intro (m1.below hW) (And.intro (m2.below hW) (And.intro (n1.below hW) (n2.below hW))))
  have U1 := Lib.hid (under_atL x A2 k2 c2 w e3 hk2)
  have U2 := Lib.hid (under_atL y B2 l2 d2 w f3 hl2)
  have H := Lib.hid h
  have hz : z < w.heap.size := h.1.1
  have HN := Lib.hid (And.intro hG (And.intro hE (And.intro hF (And.intro hT1 (And.intro hT2 (And.intro hD (And.intro hK (And.intro hL (And.intro hP hQ)))))))))
  have HB := Lib.hid (And.intro hle (And.intro b1 (And.intro b2 (And.intro b0 (And.intro hG0 hK0)))))
  have HD := Lib.hid (divisor_any _ _ q s L0 w m2 n2 (by omega) (by omega))
  rw [hG] at HD
  clear hk2 hl2 h m1 m2 n1 n2 hx hy e0 e1 e3 f0 f1 f3 hG hE hF hT1 hT2 hle hD hK hL hP hQ b1 b2 b0 hG0 hK0 q0 s0
  go_enter Tryz.func147, Tryz.ntmps147
  go_wp2_with fail
  refine U1.out.mono ?_
  rintro e w1 ⟨rfl, hw⟩
  obtain rfl := hw.symm
  go_wp2_with fail
  refine U2.out.mono ?_
  rintro e w1 ⟨rfl, hw⟩
  obtain rfl := hw.symm
  go_wp2_with fail
  refine HD.out.mono ?_
  rintro e w1 ⟨vg, rfl, mg, b1⟩
  have C1 := Lib.hid (And.intro b1 mg)
  clear b1 mg
  go_wp2_with fail
  refine (over_any _ _ q G L0 w1 (HM.out _ C1.out.1).2.1 C1.out.2 HB.out.2.2.2.2.1 (by have := HB.out; omega) (by have := HB.out; omega)).mono ?_
  rintro e w2 ⟨ve, rfl, me, b2⟩
  rw [HN.out.2.1] at me
  have C2 := Lib.hid (And.intro (back_of' C1.out.1 b2) (And.intro (C1.out.2.below b2) me))
  clear b2 me
  go_wp2_with fail
  refine (over_any _ _ s G L0 w2 (HM.out _ C2.out.1).2.2.2 C2.out.2.1 HB.out.2.2.2.2.1 (by have := HB.out; omega) (by have := HB.out; omega)).mono ?_
  rintro e w3 ⟨vf, rfl, mf, b3⟩
  rw [HN.out.2.2.1] at mf
  have HH : Hid (AddHeadL w w3 (.slice B2 l2 d2) vg ve vf s G E F L0) := Lib.hid ⟨back_of' C2.out.1 b3, (HM.out _ (back_of' C2.out.1 b3)).2.2.2, C2.out.2.1.below b3, C2.out.2.2.below b3, mf⟩
  clear b3 mf C1 C2
  go_wp2_with fail
  have hcur : Below w3.heap.size w3 w3.drew := (Below.refl _ _).drew
  have HTm := Lib.hid (fun (W : World) (hW : Below w3.heap.size w3 W) => times_mag (.slice A1 k1 c1) vf p F L0 L0 W (HM.out _ (back_of' HH.out.b hW)).1 ((HH.out.below hW).f) (by have := HB.out; omega) (by have := HB.out; omega))
  have HXW := Lib.hid (fun (W : World) (hW : Below w3.heap.size w3 W) => (show W.cell? ⟨x, 0, none⟩ = some (.bool false) ∧ W.cell? ⟨x, 1, none⟩ = some (.slice A1 k1 c1) from ⟨(HX.out _ (back_of' HH.out.b hW)).1, (HX.out _ (back_of' HH.out.b hW)).2.1⟩))
  go_cut [12] (fun v wx => ∃ za : Nat, v = .pointer (some ⟨za, 0, none⟩) ∧ Hid (IntL wx za 0 false T1 M ∧ ISlot wx za 0 ∧ Below w3.heap.size w3 wx ∧ w3.heap.size ≤ za))
  case first =>
    go_region_held3 (fun w' => w'.cell? ⟨x, 0, none⟩ = some (.bool false) ∧ w'.cell? ⟨x, 1, none⟩ = some (.slice A1 k1 c1)) (first | exact HXW.out _ (by first | exact hcur5 | exact hcur4 | exact hcur4.alloc hcur4.size _ | exact hcur | exact hcur.alloc hcur.size _)) (first | (go_at_call 103; refine (HTm.out _ (by first | exact hcur | exact hcur.alloc hcur.size _)).mono ?_; rintro e w4 ⟨v4, rfl, hm4, hb4⟩; obtain ⟨A4, k4, c4, rfl⟩ := hm4.slice; have hcur4 : Below w3.heap.size w3 w4 := (by first | exact back_of' hcur hb4 | exact back_of' (hcur.alloc hcur.size (.cells #[.bool false, .slice none 0 0] 90)) hb4); (first | (have HA : Hid (Below w3.drew.heap.size w3.drew w4) := Lib.hid hb4) | (have HA : Hid (Below (w3.drew.alloc (.cells #[.bool false, .slice none 0 0] 90)).heap.size (w3.drew.alloc (.cells #[.bool false, .slice none 0 0] 90)) w4) := Lib.hid hb4)); rw [HN.out.2.2.2.1, HB.out.2.1] at hm4; have HM4 := Lib.hid hm4; clear hm4 hb4) | (go_at_call 99; refine (made_numL _ 0 T1 M false A4 k4 c4 _ (by first | exact (ISlot.new w3.drew 90).below HA.out (Nat.le_refl _) | exact ISlot.new w4 90) (by first | exact HM4.out | exact HM4.out.below ((Below.refl _ _).alloc (Nat.le_refl _) _)) (by simp)).mono ?_; rintro e w5 ⟨rfl, i5, s5, b5⟩; have hcur5 : Below w3.heap.size w3 w5 := (by first | exact hcur4.trans (b5.mono (Nat.le_refl _)) | exact (hcur4.alloc hcur4.size _).trans (b5.mono hcur4.size)); have HF := Lib.hid (And.intro i5 (And.intro s5 hcur5)); clear i5 s5 b5))
    all_goals go_wp2_with fail
    all_goals go_meet
    all_goals exact ⟨_, rfl, Lib.hid ⟨HF.out.1, HF.out.2.1, HF.out.2.2, by first | exact Nat.le_refl _ | exact hcur4.size⟩⟩
  case rest =>
    obtain ⟨za, rfl, hcut⟩ := hcut
    have HZ := Lib.hid (And.intro hcut.out.1 hcut.out.2.1)
    have HZ2 := Lib.hid (show za < wc.heap.size ∧ w3.heap.size ≤ za ∧ y < w3.heap.size ∧ w.heap.size ≤ w3.heap.size from ⟨hcut.out.1.1, hcut.out.2.2.2, Nat.lt_of_lt_of_le hb' HH.out.b.size, HH.out.b.size⟩)
    have HB3 := Lib.hid hcut.out.2.2.1
    have HC := Lib.hid (HH.out.below hcut.out.2.2.1)
    clear hcut HTm HXW hcur
    go_wp2_with fail
    have hcur : Below wc.heap.size wc wc.drew := (Below.refl _ _).drew
    have HTm := Lib.hid (fun (W : World) (hW : Below wc.heap.size wc W) => times_mag (.slice B1 l1 d1) ve r E L0 L0 W (HM.out _ (back_of' HC.out.b hW)).2.2.1 ((HC.out.below hW).e) (by have := HB.out; omega) (by have := HB.out; omega))
    have HYW := Lib.hid (fun (W : World) (hW : Below wc.heap.size wc W) => (show W.cell? ⟨y, 0, none⟩ = some (.bool true) ∧ W.cell? ⟨y, 1, none⟩ = some (.slice B1 l1 d1) from ⟨(HY.out _ (back_of' HC.out.b hW)).1, (HY.out _ (back_of' HC.out.b hW)).2.1⟩))
    have HYZ := Lib.hid (fun (W : World) (hW : Below w3.heap.size wc W) => (show W.cell? ⟨y, 0, none⟩ = some (.bool true) ∧ W.cell? ⟨y, 1, none⟩ = some (.slice B1 l1 d1) from (by
      have q := HC.out.b
      have hy1 : y < w3.heap.size := HZ2.out.2.2.1
      have k := HYW.out wc (Below.refl _ _)
      exact ⟨(hW.cell (p := ⟨y, 0, none⟩) (by exact hy1)).trans k.1, (hW.cell (p := ⟨y, 1, none⟩) (by exact hy1)).trans k.2⟩)))
    go_region_held3 (fun w' => w'.cell? ⟨y, 0, none⟩ = some (.bool true) ∧ w'.cell? ⟨y, 1, none⟩ = some (.slice B1 l1 d1)) (first | exact HYZ.out _ hcur5 | exact HYW.out _ hcur4 | exact HYW.out _ hcur) (first | (go_at_call 103; refine (HTm.out _ hcur).mono ?_; rintro e w4 ⟨v4, rfl, hm4, hb4⟩; have hcur4 := back_of' hcur hb4; rw [HN.out.2.2.2.2.1, HB.out.2.1] at hm4; have HM4 := Lib.hid hm4; clear hm4 hb4) | (go_at_call 146; refine (plus_negL za 0 za 0 T1 T2 M v4 w4 (HZ.out.2.below hcur4 (Nat.le_refl _)) (HZ.out.1.below hcur4 (Nat.le_refl _)) HM4.out HB.out.1 (by have := HB.out; omega)).mono ?_; rintro e w5 ⟨rfl, i5, s5, b5⟩; have hcur5 : Below w3.heap.size wc w5 := (hcur4.mono (by have := HZ2.out; omega)).trans (b5.mono HZ2.out.2.1); have HF := Lib.hid (And.intro i5 (And.intro s5 b5)); clear i5 s5 b5))
    rw [HN.out.2.2.2.2.2.1] at HF
    have HC5 := Lib.hid (HH.out.below (HB3.out.trans hcur5))
    obtain ⟨hb5, g0, A5, k5, c5, g1, g2⟩ := HF.out.1
    have g1' : w5.cell? ⟨za, 1, none⟩ = some (.slice A5 k5 c5) := g1
    have G2 := Lib.hid g2
    clear g1 g2 HF HC HH HB3 HTm HYW HYZ hcur hcur4 hcur5 HM4
    go_wp2_with fail
    refine (divisor_any _ _ D G M w5 G2.out (HC5.out.g.more (by have := HB.out; omega)) (by have := HB.out; omega) (by have := HB.out; omega)).mono ?_
    rintro e w6 ⟨vh, rfl, m6, b6⟩
    rw [HN.out.2.2.2.2.2.2.1] at m6
    have HC6 := Lib.hid (HC5.out.below b6)
    have MH := Lib.hid m6
    have MA := Lib.hid (G2.out.below b6)
    have z0 := (b6.cell (p := ⟨za, 0, none⟩) (by exact hb5)).trans g0
    have z1 := (b6.cell (p := ⟨za, 1, none⟩) (by exact hb5)).trans g1'
    have hb6 : za < w6.heap.size := Nat.lt_of_lt_of_le hb5 b6.size
    have hne : za ≠ z := by have := HZ2.out; omega
    clear g0 g1' m6 b6 HC5 G2
    have HZW := Lib.hid (fun (W : World) (hW : Below w6.heap.size w6 W) => (show W.cell? ⟨za, 0, none⟩ = some (.bool false) ∧ W.cell? ⟨za, 1, none⟩ = some (.slice A5 k5 c5) from ⟨(hW.cell (p := ⟨za, 0, none⟩) (by exact hb6)).trans z0, (hW.cell (p := ⟨za, 1, none⟩) (by exact hb6)).trans z1⟩))
    have HO1 := Lib.hid (fun (W : World) (hW : Below w6.heap.size w6 W) => over_any _ _ D K M W (MA.out.below hW) (MH.out.below hW) HB.out.2.2.2.2.2 (by have := HB.out; omega) (by have := HB.out; omega))
    have HO2 := Lib.hid (fun (W : World) (hW : Below w6.heap.size w6 W) => over_any _ _ s K M W ((HC6.out.below hW).d.more (by have := HB.out; omega)) (MH.out.below hW) HB.out.2.2.2.2.2 (by have := HB.out; omega) (by have := HB.out; omega))
    go_wp2_with fail
    have hcur : Below w6.heap.size w6 w6.drew := (Below.refl _ _).drew
    go_region_held3 (fun w' => w'.cell? ⟨za, 0, none⟩ = some (.bool false) ∧ w'.cell? ⟨za, 1, none⟩ = some (.slice A5 k5 c5)) (first | exact hk11 | exact HZW.out _ hcurD | exact HZW.out _ hcurC | exact HZW.out _ hcurB | exact HZW.out _ hcurA | exact HZW.out _ hcur) (first | (go_at_call 192; refine (HO2.out _ hcurB).mono ?_; rintro e w9 ⟨v9, rfl, hm9, hb9⟩; rw [HN.out.2.2.2.2.2.2.2.1] at hm9; have hcurC := back_of' hcurB hb9; have HM8 := Lib.hid (HM8.out.below hb9); have HM9 := Lib.hid hm9; clear hm9 hb9) | (go_at_call 192; refine (HO1.out _ hcur).mono ?_; rintro e w7 ⟨v7, rfl, hm7, hb7⟩; rw [HN.out.2.2.2.2.2.2.2.2.1] at hm7; have hcurA := back_of' hcur hb7; have HM7 := Lib.hid hm7; clear hm7 hb7) | (go_at_call 141; refine (clone_any _ P M _ HM7.out (by have := HB.out; omega)).mono ?_; rintro e w8 ⟨v8, rfl, hm8, hb8⟩; obtain ⟨A8, k8, c8, rfl⟩ := hm8.slice; have hcurB := back_of' hcurA hb8; have HM8 := Lib.hid hm8; clear hm8 hb8) | (go_at_call 103; refine (times_mag _ _ E L M M _ ((HC6.out.below hcurC).e.more (by have := HB.out; omega)) HM9.out (by have := HB.out; omega) (by have := HB.out; omega)).mono ?_; rintro e w10 ⟨v10, rfl, hm10, hb10⟩; obtain ⟨A10, k10, c10, rfl⟩ := hm10.slice; rw [HN.out.2.2.2.2.2.2.2.2.2] at hm10; have hcurD := back_of' hcurC hb10; have HM8 := Lib.hid (HM8.out.below hb10); have HM10 := Lib.hid hm10; have HM8 := Lib.hid (HM8.out.more (L' := M + M) (by omega)); clear hm10 hb10) | (go_at_call 140; refine (raw_putL z P (M + M) false A8 A10 k8 c8 k10 c10 _ (H.out.below (back_of' HC6.out.b hcurD) (Nat.le_refl _)) HM8.out (by simp)).mono ?_; rintro e w11 ⟨rfl, hw11⟩; have hk11 : w11.cell? ⟨za, 0, none⟩ = some (.bool false) ∧ w11.cell? ⟨za, 1, none⟩ = some (.slice A5 k5 c5) := (by rw [hw11]; exact ⟨(put2_cell _ _ _ hne).trans (HZW.out _ hcurD).1, (put2_cell _ _ _ hne).trans (HZW.out _ hcurD).2⟩); have HW11 := Lib.hid hw11; clear hw11))
    all_goals go_wp2_with fail
    all_goals go_ret
    have hbD := back_of' HC6.out.b hcurD
    have hh := put2_wroteL (neg := false) (H.out.below hbD (Nat.le_refl _)) HM8.out HM10.out HB.out.2.2.2.1
    have hw := HW11.out
    subst hw
    exact ⟨rfl, hh.1, hh.2.1, (hbD.mono (Nat.le_of_lt hz)).trans hh.2.2⟩
set_option maxRecDepth 8000 in
theorem ratsub_anyL (z x y p q r s G E F T1 T2 D K L P Q L0 M : Nat) (w : World) (h : RSlot w z) (hx : RatL w x false p q L0) (hy : RatL w y false r s L0) (hr : r ≠ 0)
    (hG : Nat.gcd q s = G) (hE : q / G = E) (hF : s / G = F) (hT1 : p * F = T1) (hT2 : r * E = T2) (hle : T2 ≤ T1) (hD : T1 - T2 = D) (hK : Nat.gcd D G = K) (hL : s / K = L) (hP : D / K = P) (hQ : E * L = Q)
    (b1 : L0 + L0 = M) (b2 : M ≤ 16777216 ∧ 1 ≤ L0) (b0 : 0 < Q) :
    Calls Tryz.prog 93 #[.pointer (some ⟨z, 0, none⟩), .pointer (some ⟨x, 0, none⟩), .pointer (some ⟨y, 0, none⟩)] w (WroteRL w z false P Q (M + M)) := by
  have hA := (Below.refl w.heap.size w).alloc (Nat.le_refl _) (.cells #[.bool false, .slice none 0 0, .bool false, .slice none 0 0] 136)
  have hyb : y < w.heap.size := hy.1.1
  have HN := Lib.hid (ratneg_anyL w.heap.size y r s L0 _ (RSlot.new w 136) (hy.below hA (Nat.le_refl _)) (by omega) hr (by omega))
  have HS := Lib.hid (fun (W : World) (hW : Below w.heap.size w W) (n : Nat) (hn : RatL W n true r s L0) => ratadd_unL z x n p q r s G E F T1 T2 D K L P Q L0 M W (h.below hW (Nat.le_refl _)) (hx.below hW (Nat.le_refl _)) hn hG hE hF hT1 hT2 hle hD hK hL hP hQ b1 b2 b0)
  have HA := Lib.hid hA
  have hz : z ≤ w.heap.size := Nat.le_of_lt h.1.1
  clear h hx hy hG hE hF hT1 hT2 hle hD hK hL hP hQ b1 b2 b0 hA hr
  go_enter Tryz.func93, Tryz.ntmps93
  go_wp2_with fail
  refine HN.out.mono ?_
  rintro e w1 ⟨rfl, n1, -, b1⟩
  have H1 := Lib.hid (And.intro n1 (HA.out.trans b1))
  clear n1 b1
  go_wp2_with fail
  refine (HS.out _ H1.out.2 _ H1.out.1).mono ?_
  rintro e w2 h
  have HF := Lib.hid (h.after (H1.out.2.mono hz))
  obtain ⟨rfl, -⟩ := h
  go_wp2_with fail
  go_ret
  exact HF.out
end Go.Proofs.YtgccfdfbnhldbaaGreatDoor.Nb
