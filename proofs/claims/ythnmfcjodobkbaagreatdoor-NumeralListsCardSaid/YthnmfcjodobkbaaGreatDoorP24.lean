/- E15 E17 E18 E19 in one text. -/
import Derived.Test.YthnmfcjodobkbaaGreatDoorP20
import Derived.Test.YthnmfcjodobkbaaGreatDoorP09
import Derived.Lib.ParseIntB
import Derived.Test.YthnmfcjodobkbaaGreatDoorP14

namespace Go.Proofs.YthnmfcjodobkbaaGreatDoor.Nb
open Go Go.RowKit

/-- a time's text without its sign -/
def bodyL (T : Nat) : List UInt8 := Lib.decDigits (T / 1000000) ++ (46 :: Nt.six (T % 1000000))
theorem nDig_le : ∀ (k n : Nat), n < 10 ^ k → 0 < k → Lib.nDigits n ≤ k := by
  intro k
  induction k with
  | zero => intro n _ h; omega
  | succ k ih =>
    intro n hn _
    by_cases c : n < 10
    · rw [Lib.nDigits_small c]; omega
    · rw [Lib.nDigits_big c]
      rcases Nat.eq_zero_or_pos k with q | q
      · subst q; simp at hn; omega
      · have := ih (n / 10) (by rw [Nat.pow_succ] at hn; omega) q
        omega
theorem dec_len (n : Nat) (h : n < 10 ^ 19) : (Lib.decDigits n).length ≤ 19 := by
  rw [Lib.decDigits_eq]
  simpa using nDig_le 19 n h (by omega)
theorem itoa_nat (n : Nat) : Lib.itoa (n : Int) = Lib.decDigits n := by
  unfold Lib.itoa
  rw [if_neg (by omega)]
  simp
theorem six_len (r : Nat) : (Nt.six r).length = 6 := by simp [Nt.six]
theorem cut_one (l : List UInt8) (S : ByteArray) (h : S = ⟨(49 :: l).toArray⟩) : S.extract 1 S.size = ⟨l.toArray⟩ := by
  subst h
  apply ByteArray.ext
  simp only [ByteArray.data_extract]
  have hs : (⟨(49 :: l).toArray⟩ : ByteArray).size = l.length + 1 := by show (49 :: l).toArray.size = _; simp
  rw [hs]
  simp
/-- the parts of a time, by letters -/
structure TimeP (T q r s : Nat) (QS S D : ByteArray) : Prop where
  hq : T / 1000000 = q
  hr : T % 1000000 = r
  hs : 1000000 + r = s
  hQS : (⟨(Lib.itoa (q : Int)).toArray⟩ : ByteArray) = QS
  hS : (⟨(Lib.itoa (s : Int)).toArray⟩ : ByteArray) = S
  hD : S.extract 1 S.size = D
  hl : (1 : Int) ≤ (S.size : Int)
  lq : QS.size ≤ 1000000
  ld : D.size ≤ 1000000
  lQ : QS.data.toList.length ≤ 19
  he : QS.data.toList ++ (46 :: D.data.toList) = bodyL T
theorem time_parts (T : Nat) (hT : T ≤ 1125899906842624) : ∃ q r s QS S D, TimeP T q r s QS S D := by
  have hr : T % 1000000 < 1000000 := Nat.mod_lt _ (by omega)
  have hS : (⟨(Lib.itoa ((1000000 + T % 1000000 : Nat) : Int)).toArray⟩ : ByteArray) = ⟨(49 :: Nt.six (T % 1000000)).toArray⟩ := by rw [itoa_nat, Nt.six_million hr]
  have hD := cut_one _ _ hS
  have hq : (Lib.decDigits (T / 1000000)).length ≤ 19 := dec_len _ (by omega)
  refine ⟨_, _, _, _, _, _, rfl, rfl, rfl, rfl, rfl, rfl, ?_, ?_, ?_, ?_, ?_⟩
  · rw [hS]; show (1 : Int) ≤ (((49 :: Nt.six (T % 1000000)).toArray.size : Nat) : Int); simp; omega
  · show (Lib.itoa _).toArray.size ≤ _; rw [itoa_nat]; simp; omega
  · rw [hD]; show (Nt.six _).toArray.size ≤ _; simp [six_len]
  · show (Lib.itoa _).toArray.toList.length ≤ _; rw [itoa_nat]; simpa using hq
  · rw [hD]; show (Lib.itoa _).toArray.toList ++ (46 :: (Nt.six _).toArray.toList) = _; rw [itoa_nat]; rfl

set_option maxRecDepth 8000 in
set_option maxHeartbeats 1000000 in
theorem time_pos (T : Nat) (w : World) (hT : T ≤ 1125899906842624) (hP : TabP w) :
    Calls Tryz.prog 5 #[.int .i64 (T : Int)] w fun e w' => e = .returned (.tuple #[.string ⟨(bodyL T).toArray⟩, .int .i64 0]) ∧ Below w.heap.size w w' := by
  have hA := (Below.refl w.heap.size w).alloc (Nat.le_refl _) (.cells #[.pointer none, .slice none 0 0] 44)
  have HB := Lib.hid (And.intro (Bld.new w) hA)
  have HP := Lib.hid hP
  have HP0 := Lib.hid (hP.below hA hP.2)
  obtain ⟨q, r, s, QS, S, D, hq⟩ := time_parts T hT
  have HQ := Lib.hid hq
  have h0 : ¬ (T : Int) < -1125899906842624 := by omega
  have h1 : ¬ (1125899906842624 : Int) < (T : Int) := by omega
  have h2 : ¬ (T : Int) < 0 := by omega
  have e1 : (T : Int) / 1000000 = (q : Int) := by have := hq.hq; omega
  have e2 : (T : Int) % 1000000 = (r : Int) := by have := hq.hr; omega
  have e3 : (1000000 : Int) + (r : Int) = (s : Int) := by have := hq.hr; have := hq.hs; omega
  have hqb : q ≤ 1125899906842624 := by have := hq.hq; omega
  have hsb : s ≤ 2000000 := by have := hq.hr; have := hq.hs; omega
  clear hA hP hq hT
  go_enter Tryz.func5, Tryz.ntmps5
  go_wp2_with fail
  refine (formatInt_any (q : Int) _ (by omega) (by omega) HP0.out).mono ?_
  rw [HQ.out.hQS]
  rintro e w2 ⟨rfl, b2⟩
  have H2 := Lib.hid (And.intro (HB.out.1.below b2) (HB.out.2.trans (b2.mono HB.out.2.size)))
  clear b2
  go_wp2_with fail
  refine (wstring w.heap.size w.heap.size [] QS w2 H2.out.1 (by decide) HQ.out.lq H2.out.2.size).mono ?_
  rintro e w3 ⟨rfl, d3, b3⟩
  have H3 := Lib.hid (And.intro d3 (H2.out.2.trans b3))
  clear d3 b3
  go_wp2_with fail
  refine (wbyte w.heap.size w.heap.size _ 46 w3 H3.out.1 (by have := HQ.out.lQ; simp at this ⊢; omega) H3.out.2.size 46 rfl).mono ?_
  rintro e w4 ⟨rfl, d4, b4⟩
  have H4 := Lib.hid (And.intro d4 (H3.out.2.trans b4))
  clear d4 b4
  go_wp2_with fail
  refine (formatInt_any (s : Int) w4 (by omega) (by omega) (HP.out.below H4.out.2 HP.out.2)).mono ?_
  rw [HQ.out.hS]
  rintro e w5 ⟨rfl, b5⟩
  have H5 := Lib.hid (And.intro (H4.out.1.below b5) (H4.out.2.trans (b5.mono H4.out.2.size)))
  clear b5
  have hl := HQ.out.hl
  have hD := HQ.out.hD
  go_wp2_with fail
  refine (wstring w.heap.size w.heap.size _ D w5 H5.out.1 (by have := HQ.out.lQ; simp at this ⊢; omega) HQ.out.ld H5.out.2.size).mono ?_
  rintro e w6 ⟨rfl, d6, b6⟩
  have H6 := Lib.hid (And.intro d6 (H5.out.2.trans b6))
  clear d6 b6 hD
  go_wp2_with fail
  refine (bstring w.heap.size w.heap.size _ w6 H6.out.1 H6.out.2.size).mono ?_
  rintro e w7 ⟨rfl, b7⟩
  have H7 := Lib.hid (H6.out.2.trans b7)
  clear b7
  go_wp2_with fail
  go_ret2
  exact ⟨(show Ending.returned (.tuple #[.string ⟨(QS.data.toList ++ 46 :: D.data.toList).toArray⟩, .int .i64 0]) = Ending.returned (.tuple #[.string ⟨(bodyL T).toArray⟩, .int .i64 0]) by rw [HQ.out.he]), H7.out⟩

set_option maxRecDepth 8000 in
set_option maxHeartbeats 1000000 in
theorem time_neg (T : Nat) (E : Int) (w : World) (hE : E = -(T : Int)) (hT0 : 0 < T) (hT : T ≤ 1125899906842624) (hP : TabP w) :
    Calls Tryz.prog 5 #[.int .i64 E] w fun e w' => e = .returned (.tuple #[.string ⟨(45 :: bodyL T).toArray⟩, .int .i64 0]) ∧ Below w.heap.size w w' := by
  have hA := (Below.refl w.heap.size w).alloc (Nat.le_refl _) (.cells #[.pointer none, .slice none 0 0] 44)
  have HB := Lib.hid (And.intro (Bld.new w) hA)
  have HP := Lib.hid hP
  obtain ⟨q, r, s, QS, S, D, hq⟩ := time_parts T hT
  have HQ := Lib.hid hq
  have h0 : ¬ E < -1125899906842624 := by omega
  have h1 : ¬ (1125899906842624 : Int) < E := by omega
  have h2 : E < 0 := by omega
  have e0 : -E = (T : Int) := by omega
  have e1 : (T : Int) / 1000000 = (q : Int) := by have := hq.hq; omega
  have e2 : (T : Int) % 1000000 = (r : Int) := by have := hq.hr; omega
  have e3 : (1000000 : Int) + (r : Int) = (s : Int) := by have := hq.hr; have := hq.hs; omega
  have hqb : q ≤ 1125899906842624 := by have := hq.hq; omega
  have hsb : s ≤ 2000000 := by have := hq.hr; have := hq.hs; omega
  clear hA hP hq hT hE hT0
  go_enter Tryz.func5, Tryz.ntmps5
  go_wp2_with fail
  refine (wbyte w.heap.size w.heap.size [] 45 _ HB.out.1 (by simp) HB.out.2.size 45 rfl).mono ?_
  rintro e w1 ⟨rfl, d1, b1⟩
  have HB1 := Lib.hid (And.intro d1 (HB.out.2.trans b1))
  have HP0 := Lib.hid (HP.out.below HB1.out.2 HP.out.2)
  clear d1 b1 HB
  go_wp2_with fail
  refine (formatInt_any (q : Int) w1 (by omega) (by omega) HP0.out).mono ?_
  rw [HQ.out.hQS]
  rintro e w2 ⟨rfl, b2⟩
  have H2 := Lib.hid (And.intro (HB1.out.1.below b2) (HB1.out.2.trans (b2.mono HB1.out.2.size)))
  clear b2
  go_wp2_with fail
  refine (wstring w.heap.size w.heap.size [45] QS w2 H2.out.1 (by decide) HQ.out.lq H2.out.2.size).mono ?_
  rintro e w3 ⟨rfl, d3, b3⟩
  have H3 := Lib.hid (And.intro d3 (H2.out.2.trans b3))
  clear d3 b3
  go_wp2_with fail
  refine (wbyte w.heap.size w.heap.size _ 46 w3 H3.out.1 (by have := HQ.out.lQ; simp at this ⊢; omega) H3.out.2.size 46 rfl).mono ?_
  rintro e w4 ⟨rfl, d4, b4⟩
  have H4 := Lib.hid (And.intro d4 (H3.out.2.trans b4))
  clear d4 b4
  go_wp2_with fail
  refine (formatInt_any (s : Int) w4 (by omega) (by omega) (HP.out.below H4.out.2 HP.out.2)).mono ?_
  rw [HQ.out.hS]
  rintro e w5 ⟨rfl, b5⟩
  have H5 := Lib.hid (And.intro (H4.out.1.below b5) (H4.out.2.trans (b5.mono H4.out.2.size)))
  clear b5
  have hl := HQ.out.hl
  have hD := HQ.out.hD
  go_wp2_with fail
  refine (wstring w.heap.size w.heap.size _ D w5 H5.out.1 (by have := HQ.out.lQ; simp at this ⊢; omega) HQ.out.ld H5.out.2.size).mono ?_
  rintro e w6 ⟨rfl, d6, b6⟩
  have H6 := Lib.hid (And.intro d6 (H5.out.2.trans b6))
  clear d6 b6 hD
  go_wp2_with fail
  refine (bstring w.heap.size w.heap.size _ w6 H6.out.1 H6.out.2.size).mono ?_
  rintro e w7 ⟨rfl, b7⟩
  have H7 := Lib.hid (H6.out.2.trans b7)
  clear b7
  go_wp2_with fail
  go_ret2
  exact ⟨(show Ending.returned (.tuple #[.string ⟨(45 :: (QS.data.toList ++ 46 :: D.data.toList)).toArray⟩, .int .i64 0]) = Ending.returned (.tuple #[.string ⟨(45 :: (bodyL T)).toArray⟩, .int .i64 0]) by rw [HQ.out.he]), H7.out⟩

set_option maxRecDepth 8000 in
theorem time_far (t : Int) (w : World) (h : t < -1125899906842624 ∨ 1125899906842624 < t) :
    Calls Tryz.prog 5 #[.int .i64 t] w fun e w' => e = .returned (.tuple #[.string ⟨#[]⟩, .int .i64 1]) ∧ w' = w := by
  by_cases c : t < -1125899906842624
  · clear h
    go_enter Tryz.func5, Tryz.ntmps5
    go_wp2_with fail
    go_ret2
    exact ⟨rfl, rfl⟩
  · have c2 : (1125899906842624 : Int) < t := by omega
    clear h
    go_enter Tryz.func5, Tryz.ntmps5
    go_wp2_with fail
    go_ret2
    exact ⟨rfl, rfl⟩
end Go.Proofs.YthnmfcjodobkbaaGreatDoor.Nb

namespace Go.Proofs.YthnmfcjodobkbaaGreatDoor.Nb
open Go Go.RowKit

theorem dec_length (r : Nat) : (Lib.decDigits r).length = Lib.nDigits r := by rw [Lib.decDigits_eq]; simp
/-- digits with noughts ahead, under way -/
def PadSt (r : Nat) (RS : ByteArray) : Prop := ∃ k, RS = ⟨(List.replicate k 48 ++ Lib.decDigits r).toArray⟩ ∧ k + (Lib.decDigits r).length ≤ 6
theorem pad_size {k r : Nat} : (⟨(List.replicate k 48 ++ Lib.decDigits r).toArray⟩ : ByteArray).size = k + (Lib.decDigits r).length := by
  show (List.replicate k (48 : UInt8) ++ Lib.decDigits r).toArray.size = _
  simp
theorem pad_step {r : Nat} {RS : ByteArray} (h : PadSt r RS) (hs : RS.size < 6) : PadSt r ((⟨#[48]⟩ : ByteArray) ++ RS) ∧ ((⟨#[48]⟩ : ByteArray) ++ RS).size = RS.size + 1 := by
  obtain ⟨k, rfl, hk⟩ := h
  rw [pad_size] at hs
  have e : ((⟨#[48]⟩ : ByteArray) ++ (⟨(List.replicate k 48 ++ Lib.decDigits r).toArray⟩ : ByteArray)) = ⟨(List.replicate (k + 1) 48 ++ Lib.decDigits r).toArray⟩ := by
    apply ByteArray.ext
    rw [ByteArray.data_append]
    simp [List.replicate_succ]
  refine ⟨⟨k + 1, e, by omega⟩, ?_⟩
  rw [e, pad_size, pad_size]
  omega
theorem pad_end {r : Nat} {RS : ByteArray} (hr : r < 1000000) (h : PadSt r RS) (hs : ¬ RS.size < 6) : RS = ⟨(Nt.six r).toArray⟩ := by
  obtain ⟨k, rfl, hk⟩ := h
  rw [pad_size] at hs
  obtain ⟨h1, h2⟩ := Nt.six_pad hr
  rw [dec_length] at hk hs
  rw [← h2, show k = 6 - Lib.nDigits r by omega]
theorem pad_start {r : Nat} (hr : r < 1000000) : PadSt r ⟨(Lib.itoa (r : Int)).toArray⟩ := by
  refine ⟨0, by rw [itoa_nat]; simp, ?_⟩
  rw [dec_length]
  have := (Nt.six_pad hr).1
  omega
theorem text_end {T q r : Nat} {QS RS : ByteArray} (hq : T / 1000000 = q) (hr : T % 1000000 = r) (hQ : QS = ⟨(Lib.itoa (q : Int)).toArray⟩) (hR : RS = ⟨(Nt.six r).toArray⟩) : (QS ++ (⟨#[46]⟩ : ByteArray)) ++ RS = ⟨(bodyL T).toArray⟩ := by
  subst hQ hR hq hr
  apply ByteArray.ext
  rw [ByteArray.data_append, ByteArray.data_append, itoa_nat]
  simp [bodyL]
theorem text_end' {T q r : Nat} {QS RS : ByteArray} (hq : T / 1000000 = q) (hr : T % 1000000 = r) (hQ : QS = ⟨(Lib.itoa (q : Int)).toArray⟩) (hR : RS = ⟨(Nt.six r).toArray⟩) : (((⟨#[45]⟩ : ByteArray) ++ QS) ++ (⟨#[46]⟩ : ByteArray)) ++ RS = ⟨(45 :: bodyL T).toArray⟩ := by
  subst hQ hR hq hr
  apply ByteArray.ext
  rw [ByteArray.data_append, ByteArray.data_append, ByteArray.data_append, itoa_nat]
  simp [bodyL]

set_option maxRecDepth 8000 in
set_option maxHeartbeats 1000000 in
theorem reftime_pos (T : Nat) (w : World) (hT : T ≤ 1125899906842624) (hP : TabP w) :
    Calls Tryz.prog 6 #[.int .i64 (T : Int)] w fun e w' => e = .returned (.tuple #[.string ⟨(bodyL T).toArray⟩, .int .i64 0]) ∧ Below w.heap.size w w' := by
  have HP := Lib.hid hP
  obtain ⟨q, hq⟩ : ∃ q, T / 1000000 = q := ⟨_, rfl⟩
  obtain ⟨r, hr⟩ : ∃ r, T % 1000000 = r := ⟨_, rfl⟩
  have hr1 : r < 1000000 := by omega
  have hqb : q ≤ 1125899906842624 := by omega
  have h0 : ¬ (T : Int) < -1125899906842624 := by omega
  have h1 : ¬ (1125899906842624 : Int) < (T : Int) := by omega
  have h2 : ¬ (T : Int) < 0 := by omega
  have e1 : (T : Int) / 1000000 = (q : Int) := by omega
  have e2 : (T : Int) % 1000000 = (r : Int) := by omega
  have HQ := Lib.hid (And.intro hq hr)
  clear hP hT hq hr
  go_enter Tryz.func6, Tryz.ntmps6
  go_wp2_with fail
  refine (itoa_any (r : Int) w (by omega) (by omega) HP.out).mono ?_
  rintro e w1 ⟨rfl, b1⟩
  have H1 := Lib.hid b1
  have HS := Lib.hid (pad_start hr1)
  clear b1
  generalize (⟨(Lib.itoa (r : Int)).toArray⟩ : ByteArray) = RS0 at *
  go_wp2_with fail
  go_loopw [5] (fun v wr => ∃ RS : ByteArray, v = .string RS ∧ w1 = wr ∧ Hid (PadSt r RS)) (fun v _ => match v with | .string s => 6 - s.size | _ => 0)
  case atStart => exact ⟨_, rfl, rfl, HS⟩
  case round =>
    obtain ⟨RS, rfl, rfl, hs⟩ := hrel
    by_cases hlt : RS.size < 6
    · have hlt' : (RS.size : Int) < 6 := by omega
      go_wp2_with fail
      go_roundw
      case rel => exact ⟨_, rfl, (by first | rfl | trivial), Lib.hid (pad_step hs.out hlt).1⟩
      case measure =>
        show 6 - ((⟨#[48]⟩ : ByteArray) ++ RS).size < 6 - RS.size
        rw [(pad_step hs.out hlt).2]
        omega
    · have hlt' : ¬ (RS.size : Int) < 6 := by omega
      go_wp2_with fail
      refine (itoa_any (q : Int) w1 (by omega) (by omega) (HP.out.below H1.out HP.out.2)).mono ?_
      rintro e w2 ⟨rfl, b2⟩
      have H2 := Lib.hid (back_of' H1.out b2)
      have hR := Lib.hid (pad_end hr1 hs.out hlt)
      clear b2
      obtain ⟨QS, hQS⟩ : ∃ QS, QS = (⟨(Lib.itoa (q : Int)).toArray⟩ : ByteArray) := ⟨_, rfl⟩
      rw [← hQS]
      have hQl : QS.size ≤ 19 := by rw [hQS]; show (Lib.itoa _).toArray.size ≤ _; rw [itoa_nat]; simpa using dec_len q (by omega)
      have hRl : RS.size ≤ 6 := by rw [hR.out]; show (Nt.six _).toArray.size ≤ _; simp [six_len]
      have HQS := Lib.hid hQS
      clear hQS
      go_wp2_with fail
      go_ret2
      exact ⟨congrArg (fun s => Ending.returned (.tuple #[.string s, .int .i64 0])) (text_end HQ.out.1 HQ.out.2 HQS.out hR.out), H2.out⟩

set_option maxRecDepth 8000 in
set_option maxHeartbeats 1000000 in
theorem reftime_neg (T : Nat) (E : Int) (w : World) (hE : E = -(T : Int)) (hT0 : 0 < T) (hT : T ≤ 1125899906842624) (hP : TabP w) :
    Calls Tryz.prog 6 #[.int .i64 E] w fun e w' => e = .returned (.tuple #[.string ⟨(45 :: bodyL T).toArray⟩, .int .i64 0]) ∧ Below w.heap.size w w' := by
  have HP := Lib.hid hP
  obtain ⟨q, hq⟩ : ∃ q, T / 1000000 = q := ⟨_, rfl⟩
  obtain ⟨r, hr⟩ : ∃ r, T % 1000000 = r := ⟨_, rfl⟩
  have hr1 : r < 1000000 := by omega
  have hqb : q ≤ 1125899906842624 := by omega
  have h0 : ¬ E < -1125899906842624 := by omega
  have h1 : ¬ (1125899906842624 : Int) < E := by omega
  have h2 : E < 0 := by omega
  have e0 : -E = (T : Int) := by omega
  have e1 : (T : Int) / 1000000 = (q : Int) := by omega
  have e2 : (T : Int) % 1000000 = (r : Int) := by omega
  have HQ := Lib.hid (And.intro hq hr)
  clear hP hT hq hr hE hT0
  go_enter Tryz.func6, Tryz.ntmps6
  go_wp2_with fail
  refine (itoa_any (r : Int) w (by omega) (by omega) HP.out).mono ?_
  rintro e w1 ⟨rfl, b1⟩
  have H1 := Lib.hid b1
  have HS := Lib.hid (pad_start hr1)
  clear b1
  generalize (⟨(Lib.itoa (r : Int)).toArray⟩ : ByteArray) = RS0 at *
  go_wp2_with fail
  go_loopw [5] (fun v wr => ∃ RS : ByteArray, v = .string RS ∧ w1 = wr ∧ Hid (PadSt r RS)) (fun v _ => match v with | .string s => 6 - s.size | _ => 0)
  case atStart => exact ⟨_, rfl, rfl, HS⟩
  case round =>
    obtain ⟨RS, rfl, rfl, hs⟩ := hrel
    by_cases hlt : RS.size < 6
    · have hlt' : (RS.size : Int) < 6 := by omega
      go_wp2_with fail
      go_roundw
      case rel => exact ⟨_, rfl, (by first | rfl | trivial), Lib.hid (pad_step hs.out hlt).1⟩
      case measure =>
        show 6 - ((⟨#[48]⟩ : ByteArray) ++ RS).size < 6 - RS.size
        rw [(pad_step hs.out hlt).2]
        omega
    · have hlt' : ¬ (RS.size : Int) < 6 := by omega
      go_wp2_with fail
      refine (itoa_any (q : Int) w1 (by omega) (by omega) (HP.out.below H1.out HP.out.2)).mono ?_
      rintro e w2 ⟨rfl, b2⟩
      have H2 := Lib.hid (back_of' H1.out b2)
      have hR := Lib.hid (pad_end hr1 hs.out hlt)
      clear b2
      obtain ⟨QS, hQS⟩ : ∃ QS, QS = (⟨(Lib.itoa (q : Int)).toArray⟩ : ByteArray) := ⟨_, rfl⟩
      rw [← hQS]
      have hQl : QS.size ≤ 19 := by rw [hQS]; show (Lib.itoa _).toArray.size ≤ _; rw [itoa_nat]; simpa using dec_len q (by omega)
      have hRl : RS.size ≤ 6 := by rw [hR.out]; show (Nt.six _).toArray.size ≤ _; simp [six_len]
      have HQS := Lib.hid hQS
      clear hQS
      go_wp2_with fail
      go_ret2
      exact ⟨congrArg (fun s => Ending.returned (.tuple #[.string s, .int .i64 0])) (text_end' HQ.out.1 HQ.out.2 HQS.out hR.out), H2.out⟩

set_option maxRecDepth 8000 in
theorem reftime_far (t : Int) (w : World) (h : t < -1125899906842624 ∨ 1125899906842624 < t) :
    Calls Tryz.prog 6 #[.int .i64 t] w fun e w' => e = .returned (.tuple #[.string ⟨#[]⟩, .int .i64 1]) ∧ w' = w := by
  by_cases c : (1125899906842624 : Int) < t
  · clear h
    go_enter Tryz.func6, Tryz.ntmps6
    go_wp2_with fail
    go_ret2
    exact ⟨rfl, rfl⟩
  · have c2 : t < -1125899906842624 := by omega
    clear h
    go_enter Tryz.func6, Tryz.ntmps6
    go_wp2_with fail
    go_ret2
    exact ⟨rfl, rfl⟩
end Go.Proofs.YthnmfcjodobkbaaGreatDoor.Nb

namespace Go.Proofs.YthnmfcjodobkbaaGreatDoor.Nb
open Go Go.RowKit

def Digs (l : List UInt8) : Prop := ∀ b ∈ l, 48 ≤ b.toNat ∧ b.toNat ≤ 57
theorem parse_dec (M : Nat) (hM : 1000000000000000000 ≤ M) : ∀ (l : List UInt8) (acc : Nat), Digs l → (acc + 1) * 10 ^ l.length ≤ 1000000000000000000 → Lib.parseUintM M acc l = .ok (l.foldl (fun n b => n * 10 + (b.toNat - 48)) acc)
  | [], acc, _, _ => rfl
  | c :: r, acc, hd, h => by
    have hc := hd c (by simp)
    have hr : Digs r := fun b hb => hd b (by simp [hb])
    have hp : 1 ≤ 10 ^ r.length := Nat.pos_of_ne_zero (by simp)
    simp only [List.length_cons, Nat.pow_succ] at h
    have h1 : (acc + 1) * 10 ≤ 1000000000000000000 := by
      have : (acc + 1) * 10 * 1 ≤ (acc + 1) * 10 * 10 ^ r.length := Nat.mul_le_mul_left _ hp
      have e : (acc + 1) * (10 ^ r.length * 10) = (acc + 1) * 10 * 10 ^ r.length := by rw [Nat.mul_assoc, Nat.mul_comm 10]
      omega
    have h2 : (acc * 10 + (c.toNat - 48) + 1) * 10 ^ r.length ≤ 1000000000000000000 := by
      have : (acc * 10 + (c.toNat - 48) + 1) * 10 ^ r.length ≤ (acc + 1) * 10 * 10 ^ r.length := Nat.mul_le_mul_right _ (by omega)
      have e : (acc + 1) * (10 ^ r.length * 10) = (acc + 1) * 10 * 10 ^ r.length := by rw [Nat.mul_assoc, Nat.mul_comm 10]
      omega
    rw [Lib.parseUintM, if_pos hc, if_neg (by omega), if_neg (by omega), parse_dec M hM r _ hr h2]
    rfl
theorem parse_num (l : List UInt8) (h0 : l ≠ []) (hd : Digs l) (hl : l.length ≤ 17) : Lib.parseIntB 64 l = .ok ((decN l : Nat) : Int) := by
  have hlt := decN_lt l hd
  have hb : (10 : Nat) ^ l.length ≤ 10 ^ 17 := Nat.pow_le_pow_right (by omega) hl
  have hp := parse_dec (2 ^ 64 - 1) (by omega) l 0 hd (by omega)
  match l, h0, hd, hp, hlt with
  | c :: r, _, hd, hp, hlt =>
    have hc := hd c (by simp)
    have n1 : ¬ (c.toNat = 43 ∨ c.toNat = 45) := by omega
    have n2 : ¬ c.toNat = 45 := by omega
    have hu : Lib.parseUintB 64 (c :: r) = .ok (decN (c :: r)) := by
      unfold Lib.parseUintB
      rw [if_neg (by simp)]
      exact hp
    have hlt2 : decN (c :: r) < 9223372036854775808 := by
      have : (10 : Nat) ^ 17 < 9223372036854775808 := by decide
      omega
    have e : (if c.toNat = 43 ∨ c.toNat = 45 then r else c :: r) = c :: r := if_neg n1
    unfold Lib.parseIntB
    simp only
    rw [e, hu]
    simp only
    rw [if_neg (by omega), if_neg (by omega), if_neg n2]
theorem fold_app (m : List UInt8) : ∀ a : Nat, m.foldl (fun n b => n * 10 + (b.toNat - 48)) a = a * 10 ^ m.length + decN m := by
  induction m with
  | nil => intro a; simp [decN]
  | cons c r ih =>
    intro a
    have h2 := ih (0 * 10 + (c.toNat - 48))
    simp only [Nat.zero_mul, Nat.zero_add] at h2
    have h3 : decN (c :: r) = (c.toNat - 48) * 10 ^ r.length + decN r := by
      show List.foldl _ (0 * 10 + (c.toNat - 48)) r = _
      rw [Nat.zero_mul, Nat.zero_add]
      exact h2
    rw [List.foldl_cons, ih, h3, List.length_cons, Nat.pow_succ, Nat.add_mul, Nat.mul_assoc, Nat.mul_comm 10, Nat.add_assoc]
theorem decN_app (l m : List UInt8) : decN (l ++ m) = decN l * 10 ^ m.length + decN m := by
  have := fold_app m (decN l)
  unfold decN at this ⊢
  rw [List.foldl_append]
  exact this
theorem dig_ofNat {n : Nat} (h : n < 10) : (UInt8.ofNat (48 + n)).toNat = 48 + n := by
  simp
  omega
theorem dec_digs (n : Nat) : Digs (Lib.decDigits n) := by
  intro b hb
  rw [Lib.decDigits_eq] at hb
  obtain ⟨t, -, rfl⟩ := List.mem_map.1 hb
  unfold Lib.dg
  rw [dig_ofNat (Nat.mod_lt _ (by omega))]
  omega
theorem six_digs (n : Nat) : Digs (Nt.six n) := by
  intro b hb
  unfold Nt.six at hb
  obtain ⟨t, -, rfl⟩ := List.mem_map.1 hb
  unfold Lib.dg
  rw [dig_ofNat (Nat.mod_lt _ (by omega))]
  omega
theorem decN_dec : ∀ n : Nat, decN (Lib.decDigits n) = n := by
  intro n
  induction n using Nat.strongRecOn with
  | _ n ih =>
    by_cases h : n < 10
    · rw [Lib.decDigits_one h]
      simp only [decN, List.foldl_cons, List.foldl_nil, dig_ofNat h]
      omega
    · rw [Lib.decDigits, dif_neg h, decN_snoc, ih (n / 10) (by omega), dig_ofNat (Nat.mod_lt _ (by omega))]
      omega
theorem decN_six {r : Nat} (h : r < 1000000) : decN (Nt.six r) = r := by
  have e : Nt.six r = [Lib.dg r 5, Lib.dg r 4, Lib.dg r 3, Lib.dg r 2, Lib.dg r 1, Lib.dg r 0] := rfl
  rw [e]
  simp only [decN, List.foldl_cons, List.foldl_nil, Lib.dg]
  rw [dig_ofNat (Nat.mod_lt _ (by omega)), dig_ofNat (Nat.mod_lt _ (by omega)), dig_ofNat (Nat.mod_lt _ (by omega)), dig_ofNat (Nat.mod_lt _ (by omega)), dig_ofNat (Nat.mod_lt _ (by omega)), dig_ofNat (Nat.mod_lt _ (by omega))]
  omega
/-- the digits of a time, its point left out -/
theorem parse_time {T : Nat} (hT : T ≤ 1125899906842624) : Lib.parseIntB 64 (Lib.decDigits (T / 1000000) ++ Nt.six (T % 1000000)) = .ok (T : Int) := by
  have hr : T % 1000000 < 1000000 := Nat.mod_lt _ (by omega)
  have hn : Lib.nDigits (T / 1000000) ≤ 10 := nDig_le 10 _ (by omega) (by omega)
  have hd : Digs (Lib.decDigits (T / 1000000) ++ Nt.six (T % 1000000)) := by
    intro b hb
    rcases List.mem_append.1 hb with h | h
    · exact dec_digs _ b h
    · exact six_digs _ b h
  rw [parse_num _ (by simp [Nt.six]) hd (by rw [List.length_append, six_len, Lib.decDigits_length]; omega), decN_app, decN_dec, decN_six hr, six_len]
  congr 2
  omega
/-- the middle piece of a text -/
theorem mid_get (A B C : List UInt8) (i : Nat) (h : i < B.length) : (A ++ (B ++ C)).getD (A.length + i) 0 = B.getD i 0 := by
  rw [List.getD_eq_getElem?_getD, List.getD_eq_getElem?_getD, List.getElem?_append_right (by omega), Nat.add_sub_cancel_left, List.getElem?_append_left h]
theorem mid_ext (A B C : List UInt8) (S : ByteArray) (h : S = ⟨(A ++ (B ++ C)).toArray⟩) : S.extract A.length (A.length + B.length) = ⟨B.toArray⟩ := by
  subst h
  apply ByteArray.ext
  simp only [ByteArray.data_extract]
  apply Array.ext'
  simp
theorem digs_get {l : List UInt8} (h : Digs l) {i : Nat} (hi : i < l.length) : 48 ≤ (l.getD i 0).toNat ∧ (l.getD i 0).toNat ≤ 57 := by
  rw [List.getD_eq_getElem?_getD, List.getElem?_eq_getElem hi]
  exact h _ (List.getElem_mem hi)
end Go.Proofs.YthnmfcjodobkbaaGreatDoor.Nb

namespace Go.Proofs.YthnmfcjodobkbaaGreatDoor.Nb
open Go Go.RowKit

/-- where the pieces of a time's text lie -/
structure TxtP (S NS : ByteArray) (a n T : Nat) : Prop where
  sz : S.size = a + n + 7
  small : a + n ≤ 12
  d1 : ∀ i, i < n → 48 ≤ (S.data.toList.getD (a + i) 0).toNat ∧ (S.data.toList.getD (a + i) 0).toNat ≤ 57
  s1 : (S.data.toList.getD (a + n) 0).toNat < 48
  e1 : ∃ Q R, S.extract a (a + n) = Q ∧ S.extract (a + n + 1) (a + n + 1 + 6) = R ∧ Q ++ R = NS ∧ Q.size ≤ 20 ∧ R.size ≤ 20
  y1 : S.extract (a + n) (a + n + 1) = ⟨#[46]⟩
  d2 : ∀ i, i < 6 → 48 ≤ (S.data.toList.getD (a + n + 1 + i) 0).toNat ∧ (S.data.toList.getD (a + n + 1 + i) 0).toNat ≤ 57
  p : Lib.parseIntB 64 NS.data.toList = .ok (T : Int)
  ns : NS.size ≤ 40
theorem txt_parts (A : List UInt8) (T : Nat) (S : ByteArray) (hA : A.length ≤ 1) (hT : T ≤ 1125899906842624) (hS : S = ⟨(A ++ bodyL T).toArray⟩) : ∃ NS, TxtP S NS A.length (Lib.decDigits (T / 1000000)).length T := by
  have hn : (Lib.decDigits (T / 1000000)).length ≤ 10 := by rw [Lib.decDigits_length]; exact nDig_le 10 _ (by omega) (by omega)
  have hl : S.data.toList = A ++ (Lib.decDigits (T / 1000000) ++ (46 :: Nt.six (T % 1000000))) := by rw [hS]; rfl
  have hs : S.size = (A ++ (Lib.decDigits (T / 1000000) ++ (46 :: Nt.six (T % 1000000)))).length := by
    rw [← hl]; show S.data.size = _; simp
  have hl2 : S.data.toList = (A ++ Lib.decDigits (T / 1000000)) ++ ([46] ++ Nt.six (T % 1000000)) := by rw [hl]; simp
  have hl3 : S.data.toList = (A ++ Lib.decDigits (T / 1000000) ++ [46]) ++ (Nt.six (T % 1000000) ++ []) := by rw [hl]; simp
  have q2 : S = ⟨((A ++ Lib.decDigits (T / 1000000)) ++ ([46] ++ Nt.six (T % 1000000))).toArray⟩ := by rw [hS]; simp [bodyL]
  have q3 : S = ⟨((A ++ Lib.decDigits (T / 1000000) ++ [46]) ++ (Nt.six (T % 1000000) ++ [])).toArray⟩ := by rw [hS]; simp [bodyL]
  have x1 := mid_ext A (Lib.decDigits (T / 1000000)) (46 :: Nt.six (T % 1000000)) S hS
  have x2 := mid_ext _ _ _ S q2
  have x3 := mid_ext _ _ _ S q3
  simp only [List.length_append, List.length_singleton, six_len] at x2 x3
  refine ⟨⟨(Lib.decDigits (T / 1000000)).toArray⟩ ++ ⟨(Nt.six (T % 1000000)).toArray⟩, ?_, by omega, ?_, ?_, ⟨_, _, x1, x3, rfl, ?_, ?_⟩, x2, ?_, ?_, ?_⟩
  · rw [hs]; simp [six_len]; omega
  · intro i hi
    rw [hl, mid_get _ _ _ _ hi]
    exact digs_get (dec_digs _) hi
  · have := mid_get (A ++ Lib.decDigits (T / 1000000)) [46] (Nt.six (T % 1000000)) 0 (by simp)
    rw [List.length_append, Nat.add_zero] at this
    rw [hl2, this]
    decide
  · show (Lib.decDigits _).toArray.size ≤ _; simp; omega
  · show (Nt.six _).toArray.size ≤ _; simp [six_len]
  · intro i hi
    have := mid_get (A ++ Lib.decDigits (T / 1000000) ++ [46]) (Nt.six (T % 1000000)) [] i (by rw [six_len]; exact hi)
    simp only [List.length_append, List.length_singleton] at this
    rw [hl3, this]
    exact digs_get (six_digs _) (by rw [six_len]; exact hi)
  · have e : ((⟨(Lib.decDigits (T / 1000000)).toArray⟩ : ByteArray) ++ (⟨(Nt.six (T % 1000000)).toArray⟩ : ByteArray)).data.toList = Lib.decDigits (T / 1000000) ++ Nt.six (T % 1000000) := by
      rw [ByteArray.data_append]; simp
    rw [e]
    exact parse_time hT
  · show ((⟨(Lib.decDigits (T / 1000000)).toArray⟩ : ByteArray) ++ (⟨(Nt.six (T % 1000000)).toArray⟩ : ByteArray)).data.size ≤ _
    rw [ByteArray.data_append]; simp [six_len]; omega
theorem no_minus (S NS : ByteArray) (n T : Nat) (h : TxtP S NS 0 n T) (hn : 0 < n) : ¬ (0 + (⟨#[45]⟩ : ByteArray).size ≤ S.size ∧ (S.extract 0 (0 + (⟨#[45]⟩ : ByteArray).size)).toList = (⟨#[45]⟩ : ByteArray).toList) := by
  rintro ⟨-, h2⟩
  rw [Lib.toList_data, Lib.toList_data] at h2
  have h3 := h.d1 0 hn
  have h4 : S.data.toList.take 1 = [45] := by
    have : (S.extract 0 1).data.toList = S.data.toList.take 1 := by rw [ByteArray.data_extract]; simp
    rw [← this]; exact h2
  match hq : S.data.toList with
  | [] => rw [hq] at h4; simp at h4
  | c :: r =>
    rw [hq] at h4 h3
    simp at h4
    subst h4
    simp at h3
theorem dec_pos (n : Nat) : 0 < (Lib.decDigits n).length := by rw [Lib.decDigits_length]; exact Lib.nDigits_pos n
theorem below_or {w w' : World} (h : w' = w ∨ ∃ t, w' = Lib.bytesWorld w 5 t) : Below w.heap.size w w' := by
  rcases h with h | ⟨t, h⟩
  · rw [h]; exact Below.refl _ _
  · rw [h]; exact below_bytes w 5 t

set_option maxRecDepth 8000 in
set_option maxHeartbeats 2000000 in
theorem parsetime_pos (T : Nat) (w : World) (hT : T ≤ 1125899906842624) (hP : TabP w) :
    Calls Tryz.prog 8 #[.string ⟨(bodyL T).toArray⟩] w fun e w' => e = .returned (.tuple #[.int .i64 (T : Int), .int .i64 0]) ∧ Below w.heap.size w w' := by
  have HP := Lib.hid hP
  obtain ⟨S, hS⟩ : ∃ S : ByteArray, S = ⟨(bodyL T).toArray⟩ := ⟨_, rfl⟩
  obtain ⟨NS, hX⟩ := txt_parts [] T S (by simp) hT (by rw [hS]; rfl)
  obtain ⟨n, hn⟩ : ∃ n, (Lib.decDigits (T / 1000000)).length = n := ⟨_, rfl⟩
  rw [hn] at hX
  have HX : Hid (TxtP S NS 0 n T) := Lib.hid hX
  have HNn := Lib.hid hn
  have HS := Lib.hid hS
  rw [← hS]
  obtain ⟨Q, R, g1, g2, g3, g4, g5⟩ := HX.out.e1
  have HE := Lib.hid (And.intro g1 (And.intro g2 g3))
  have hsz : (S.size : Int) ≤ 2000 := by have := HX.out.sz; have := HX.out.small; omega
  have hsz2 : S.size ≤ 2000 := by omega
  have HC := Lib.hid (show CurAt (w.alloc (.cells #[.string S, .int .i64 0] 59)) w.heap.size S 0 ∧ Below w.heap.size w (w.alloc (.cells #[.string S, .int .i64 0] 59)) from ⟨⟨by simp, by simp [go_sem], by simp [go_sem], by simp [go_sem]⟩, (Below.refl _ _).alloc (Nat.le_refl _) _⟩)
  clear hX hn hS g1 g2 g3 hP
  go_enter Tryz.func8, Tryz.ntmps8
  go_wp2_with fail
  refine (take_no w.heap.size 0 S ⟨#[45]⟩ _ HC.out.1 (Nat.zero_le _) (no_minus S NS n T HX.out (by rw [← HNn.out]; exact dec_pos _))).mono ?_
  rintro e w1 ⟨rfl, j1, hw⟩
  have H1 : Hid (CurAt w1 w.heap.size S 0 ∧ Below w.heap.size w w1) := Lib.hid (by rw [hw]; exact ⟨HC.out.1.below (below_dr (Below.refl _ _) j1) (Nat.le_refl _), below_dr HC.out.2 j1⟩)
  clear hw
  go_wp2_with fail
  refine (digits_any w.heap.size 0 n S w1 H1.out.1 (by have := HX.out.sz; omega) (by omega) HX.out.d1 (.inr (.inl HX.out.s1))).mono ?_
  rw [HE.out.1]
  rintro e w2 ⟨rfl, c2, b2, -⟩
  have H2 := Lib.hid (And.intro c2 (H1.out.2.trans b2))
  clear c2 b2
  go_wp2_with fail
  refine (take_yes w.heap.size (0 + n) S ⟨#[46]⟩ w2 H2.out.1 (by have := HX.out.sz; show 0 + n + 1 ≤ S.size; omega) (by omega) HX.out.y1).mono ?_
  rintro e w3 ⟨rfl, c3, b3, -⟩
  have H3 : Hid (CurAt w3 w.heap.size S (0 + n + 1) ∧ Below w.heap.size w w3) := Lib.hid ⟨c3, H2.out.2.trans b3⟩
  clear c3 b3
  go_wp2_with fail
  refine (digits_any w.heap.size (0 + n + 1) 6 S w3 H3.out.1 (by have := HX.out.sz; omega) (by omega) HX.out.d2 (.inl (by have := HX.out.sz; omega))).mono ?_
  rw [HE.out.2.1]
  rintro e w4 ⟨rfl, c4, b4, -⟩
  have H4 := Lib.hid (H3.out.2.trans b4)
  clear c4 b4
  go_wp2_with fail
  rw [HE.out.2.2]
  refine (Tryz.strconv_ParseInt_10_at64_ok NS (by have := HX.out.ns; omega) (T : Int) HX.out.p w4).mono ?_
  rintro e w6 ⟨rfl, b6⟩
  have H6 := Lib.hid (H4.out.trans ((below_or b6).mono H4.out.size))
  clear b6
  go_wp2_with fail
  refine (time_pos T w6 hT (HP.out.below H6.out HP.out.2)).mono ?_
  rw [← HS.out]
  rintro e w7 ⟨rfl, b7⟩
  have H7 := Lib.hid (back_of' H6.out b7)
  clear b7
  go_wp2_with fail
  go_ret2
  exact ⟨rfl, H7.out⟩

set_option maxRecDepth 8000 in
set_option maxHeartbeats 2000000 in
theorem parsetime_neg (T : Nat) (E : Int) (w : World) (hE : E = -(T : Int)) (hT0 : 0 < T) (hT : T ≤ 1125899906842624) (hP : TabP w) :
    Calls Tryz.prog 8 #[.string ⟨(45 :: bodyL T).toArray⟩] w fun e w' => e = .returned (.tuple #[.int .i64 E, .int .i64 0]) ∧ Below w.heap.size w w' := by
  have HP := Lib.hid hP
  obtain ⟨S, hS⟩ : ∃ S : ByteArray, S = ⟨(45 :: bodyL T).toArray⟩ := ⟨_, rfl⟩
  obtain ⟨NS, hX⟩ := txt_parts [45] T S (by simp) hT (by rw [hS]; rfl)
  obtain ⟨n, hn⟩ : ∃ n, (Lib.decDigits (T / 1000000)).length = n := ⟨_, rfl⟩
  rw [hn] at hX
  have HX : Hid (TxtP S NS 1 n T) := Lib.hid hX
  have HNn := Lib.hid hn
  have HS := Lib.hid hS
  rw [← hS]
  obtain ⟨Q, R, g1, g2, g3, g4, g5⟩ := HX.out.e1
  have HE := Lib.hid (And.intro g1 (And.intro g2 g3))
  have hsz : (S.size : Int) ≤ 2000 := by have := HX.out.sz; have := HX.out.small; omega
  have hsz2 : S.size ≤ 2000 := by omega
  have HC := Lib.hid (show CurAt (w.alloc (.cells #[.string S, .int .i64 0] 59)) w.heap.size S 0 ∧ Below w.heap.size w (w.alloc (.cells #[.string S, .int .i64 0] 59)) from ⟨⟨by simp, by simp [go_sem], by simp [go_sem], by simp [go_sem]⟩, (Below.refl _ _).alloc (Nat.le_refl _) _⟩)
  have hE2 : -(T : Int) = E := by omega
  have HEE := Lib.hid hE
  clear hE
  clear hX hn hS g1 g2 g3 hP
  go_enter Tryz.func8, Tryz.ntmps8
  go_wp2_with fail
  refine (take_yes w.heap.size 0 S ⟨#[45]⟩ _ HC.out.1 (by have := HX.out.sz; show 0 + 1 ≤ S.size; omega) (by omega) (by
    have h := mid_ext [] [45] (bodyL T) S HS.out
    exact h)).mono ?_
  rintro e w1 ⟨rfl, c1, b1, -⟩
  have H1 : Hid (CurAt w1 w.heap.size S 1 ∧ Below w.heap.size w w1) := Lib.hid ⟨c1, HC.out.2.trans b1⟩
  clear c1 b1
  go_wp2_with fail
  refine (digits_any w.heap.size 1 n S w1 H1.out.1 (by have := HX.out.sz; omega) (by omega) HX.out.d1 (.inr (.inl HX.out.s1))).mono ?_
  rw [HE.out.1]
  rintro e w2 ⟨rfl, c2, b2, -⟩
  have H2 := Lib.hid (And.intro c2 (H1.out.2.trans b2))
  clear c2 b2
  go_wp2_with fail
  refine (take_yes w.heap.size (1 + n) S ⟨#[46]⟩ w2 H2.out.1 (by have := HX.out.sz; show 1 + n + 1 ≤ S.size; omega) (by omega) HX.out.y1).mono ?_
  rintro e w3 ⟨rfl, c3, b3, -⟩
  have H3 : Hid (CurAt w3 w.heap.size S (1 + n + 1) ∧ Below w.heap.size w w3) := Lib.hid ⟨c3, H2.out.2.trans b3⟩
  clear c3 b3
  go_wp2_with fail
  refine (digits_any w.heap.size (1 + n + 1) 6 S w3 H3.out.1 (by have := HX.out.sz; omega) (by omega) HX.out.d2 (.inl (by have := HX.out.sz; omega))).mono ?_
  rw [HE.out.2.1]
  rintro e w4 ⟨rfl, c4, b4, -⟩
  have H4 := Lib.hid (H3.out.2.trans b4)
  clear c4 b4
  go_wp2_with fail
  rw [HE.out.2.2]
  refine (Tryz.strconv_ParseInt_10_at64_ok NS (by have := HX.out.ns; omega) (T : Int) HX.out.p w4).mono ?_
  rintro e w6 ⟨rfl, b6⟩
  have H6 := Lib.hid (H4.out.trans ((below_or b6).mono H4.out.size))
  clear b6
  go_wp2_with fail
  refine (time_neg T E w6 HEE.out hT0 hT (HP.out.below H6.out HP.out.2)).mono ?_
  rw [← HS.out]
  rintro e w7 ⟨rfl, b7⟩
  have H7 := Lib.hid (back_of' H6.out b7)
  clear b7
  go_wp2_with fail
  go_ret2
  exact ⟨rfl, H7.out⟩
end Go.Proofs.YthnmfcjodobkbaaGreatDoor.Nb
