/- X17 in one text. -/
import Derived.Test.YthnmfcjodobkbaaGreatDoorP34
import Derived.Test.YthnmfcjodobkbaaGreatDoorP25

namespace Go.Proofs.YthnmfcjodobkbaaGreatDoor
open Go Go.RowKit Nb Nx

theorem list_both (A : Option Addr) (n c : Nat) (bs : List Nat) (hbs : ∀ x ∈ bs, x < 18446744073709551616) :
    ∃ (S : ByteArray) (E : Int), (0 ≤ E ∧ E ≤ 3) ∧
      (∀ w, Tab64 w → TabP w → FlAt w A n bs → Calls Tryz.prog 10 #[.slice A n c] w fun e w' => e = .returned (.tuple #[.string S, .int .i64 E]) ∧ Below w.heap.size w w') ∧
      (∀ w, TabP w → FlAt w A n bs → Calls Tryz.prog 11 #[.slice A n c] w fun e w' => e = .returned (.tuple #[.string S, .int .i64 E]) ∧ Below w.heap.size w w') := by
  by_cases h : n ≤ 4096
  · exact ⟨_, 0, by omega, fun w hT hP hf => list_any A n c bs w hT hP hf hbs h, fun w hP hf => rlist_any A n c bs w hP hf hbs h⟩
  · exact ⟨_, 2, by omega, fun w _ _ _ => list_long A n c w (by omega), fun w _ _ => rlist_long A n c w (by omega)⟩
theorem mat_both (r q : Int) (A : Option Addr) (n c : Nat) (bs : List Nat) (hbs : ∀ x ∈ bs, x < 18446744073709551616) :
    ∃ (S : ByteArray) (E : Int), (0 ≤ E ∧ E ≤ 3) ∧
      (∀ w, Tab64 w → TabP w → FlAt w A n bs → Calls Tryz.prog 12 #[.agg #[.int .i64 r, .int .i64 q, .slice A n c]] w fun e w' => e = .returned (.tuple #[.string S, .int .i64 E]) ∧ Below w.heap.size w w') ∧
      (∀ w, TabP w → FlAt w A n bs → Calls Tryz.prog 13 #[.agg #[.int .i64 r, .int .i64 q, .slice A n c]] w fun e w' => e = .returned (.tuple #[.string S, .int .i64 E]) ∧ Below w.heap.size w w') := by
  rcases dim_or r q with h | h
  · exact ⟨_, 1, by omega, fun w _ _ _ => mat_range r q _ w h, fun w _ _ => rmat_range r q _ w h⟩
  · by_cases hn : r * q = (n : Int)
    · exact ⟨_, 0, by omega, fun w hT hP hf => mat_ok r q A n c bs w hT hP hf hbs h hn, fun w hP hf => rmat_ok r q A n c bs w hP hf hbs h hn⟩
    · exact ⟨_, 3, by omega, fun w _ _ _ => mat_shape r q A n c w h (by omega), fun w _ _ => rmat_shape r q A n c w h (by omega)⟩

set_option maxRecDepth 8000 in
theorem lists_far (A : Option Addr) (n c : Nat) (r q : Int) (w : World) (hT : Tab64 w) (hP : TabP w) (h : 5000 < n) :
    Calls Tryz.prog 4 #[.slice A n c, .int .i64 r, .int .i64 q] w fun e w' => e = .returned (.bool true) ∧ Below w.heap.size w w' := by
  have HA := Lib.hid (awake_any w hT hP)
  have hn1 : (5000 : Int) < (n : Int) := by omega
  clear hT hP h
  go_enter Tryz.func4, Tryz.ntmps4
  go_wp2_with fail
  refine HA.out.mono ?_
  rintro e w1 ⟨rfl, b1⟩
  have HB := Lib.hid b1
  clear b1
  go_wp2_with fail
  go_ret
  exact ⟨rfl, HB.out⟩

set_option maxRecDepth 8000 in
set_option maxHeartbeats 2000000 in
theorem lists_walk (A : Option Addr) (n c : Nat) (ts : List Int) (r q : Int) (w : World) (hT : Tab64 w) (hP : TabP w) (hn : ts.length = n) (hu : ∀ x ∈ ts, 0 ≤ x ∧ x < 18446744073709551616)
    (hc : ∀ i, i < n → ∃ b off, A = some ⟨b, off, none⟩ ∧ b < w.heap.size ∧ w.cell? ⟨b, off + i, none⟩ = some (.int .u64 (ts.getD i 0))) (h : n ≤ 5000) :
    Calls Tryz.prog 4 #[.slice A n c, .int .i64 r, .int .i64 q] w fun e w' => e = .returned (.bool true) ∧ Below w.heap.size w w' := by
  have HO := Lib.hid (of64_fl A n c ts w hn hc (by omega))
  have HT := Lib.hid (And.intro hT hP)
  have hbs : ∀ x ∈ ts.map Int.toNat, x < 18446744073709551616 := by
    intro x hx
    obtain ⟨y, hy, rfl⟩ := List.mem_map.1 hx
    have := hu y hy
    omega
  have hl : (ts.map Int.toNat).length = n := by rw [List.length_map, hn]
  obtain ⟨bs, hb⟩ : ∃ bs, ts.map Int.toNat = bs := ⟨_, rfl⟩
  rw [hb] at hbs hl HO
  have HX := Lib.hid (And.intro hbs hl)
  have hn1 : ¬ (5000 : Int) < (n : Int) := by omega
  clear hT hP hn hu hc h hb hbs hl
  go_enter Tryz.func4, Tryz.ntmps4
  go_wp2_with fail
  refine HO.out.mono ?_
  rintro e w1 ⟨⟨v, rfl, hr⟩, b1⟩
  obtain ⟨A1, c1, rfl, hfl, -⟩ := own_fl hr HX.out.2
  have H1 := Lib.hid (And.intro hfl b1)
  clear hr hfl b1 HO
  obtain ⟨S, E, hE, hL, hRL⟩ := list_both A1 n c1 bs HX.out.1
  obtain ⟨M, F, hF, hM, hRM⟩ := mat_both r q A1 n c1 bs HX.out.1
  have HL := Lib.hid (And.intro hL hRL)
  have HM := Lib.hid (And.intro hM hRM)
  have hwE : wrap64 E = E := by unfold wrap64; omega
  have hwF : wrap64 F = F := by unfold wrap64; omega
  have hwE2 : IntKind.i64.wrap E = E := by rw [IntKind.wrap_i64]; omega
  have hwF2 : IntKind.i64.wrap F = F := by rw [IntKind.wrap_i64]; omega
  clear hL hRL hM hRM hE hF
  go_wp2_with fail
  refine (HL.out.1 w1 (HT.out.1.below H1.out.2) (HT.out.2.below H1.out.2 HT.out.2.2) H1.out.1).mono ?_
  rintro e w2 ⟨rfl, b2⟩
  have H2 := Lib.hid (And.intro (H1.out.1.below b2) (back_of' H1.out.2 b2))
  clear b2
  go_wp2_with fail
  refine (HL.out.2 w2 (HT.out.2.below H2.out.2 HT.out.2.2) H2.out.1).mono ?_
  rintro e w3 ⟨rfl, b3⟩
  have H3 := Lib.hid (And.intro (H2.out.1.below b3) (back_of' H2.out.2 b3))
  clear b3
  go_wp2_with fail
  have hA := (Below.refl w3.heap.size w3).alloc (Nat.le_refl _) (.cells #[.int .i64 r, .int .i64 q, .slice A1 n c1] 37)
  have HX4 := Lib.hid (And.intro (H3.out.1.below hA) (H3.out.2.trans (hA.mono H3.out.2.size)))
  have HG4 : Hid (MatAt (w3.alloc (.cells #[.int .i64 r, .int .i64 q, .slice A1 n c1] 37)) w3.heap.size r q (.slice A1 n c1) ∧ w3.heap.size < (w3.alloc (.cells #[.int .i64 r, .int .i64 q, .slice A1 n c1] 37)).heap.size) := Lib.hid ⟨mat_new w3 r q _ _, by simp⟩
  clear hA
  generalize w3.alloc (.cells #[.int .i64 r, .int .i64 q, .slice A1 n c1] 37) = W4 at *
  refine (HM.out.1 W4 (HT.out.1.below HX4.out.2) (HT.out.2.below HX4.out.2 HT.out.2.2) HX4.out.1).mono ?_
  rintro e w4 ⟨rfl, b4⟩
  have H4 := Lib.hid (And.intro (HX4.out.1.below b4) (back_of' HX4.out.2 b4))
  obtain ⟨m0, m1, m2⟩ := HG4.out.1.below b4 HG4.out.2
  clear b4
  go_wp2_with fail
  refine (HM.out.2 w4 (HT.out.2.below H4.out.2 HT.out.2.2) H4.out.1).mono ?_
  rintro e w5 ⟨rfl, b5⟩
  have H5 := Lib.hid (back_of' H4.out.2 b5)
  clear b5 m0 m1 m2
  go_wp2_with fail
  refine (awake_any w5 (HT.out.1.below H5.out) (HT.out.2.below H5.out HT.out.2.2)).mono ?_
  rintro e w6 ⟨rfl, b6⟩
  have H6 := Lib.hid (back_of' H5.out b6)
  clear b6
  go_wp2_with fail
  go_ret
  exact ⟨rfl, H6.out⟩
end Go.Proofs.YthnmfcjodobkbaaGreatDoor
