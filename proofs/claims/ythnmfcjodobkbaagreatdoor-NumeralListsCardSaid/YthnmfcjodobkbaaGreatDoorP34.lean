/- X14 X15 X16 in one text. -/
import Derived.Test.YthnmfcjodobkbaaGreatDoorP33
import Derived.Test.YthnmfcjodobkbaaGreatDoorP20

namespace Go.Proofs.YthnmfcjodobkbaaGreatDoor
open Go Go.RowKit Nb Nx

/-- one number more behind a text -/
def putL (acc : List UInt8) (f : Nat) : List UInt8 := (if acc = [] then [] else acc ++ [32]) ++ hexL f
def listL (acc : List UInt8) (bs : List Nat) : List UInt8 := bs.foldl putL acc
theorem putL_ne (acc : List UInt8) (f : Nat) : putL acc f ≠ [] := by
  unfold putL
  have := hexL_ne f
  simp [this]
theorem putL_len (acc : List UInt8) (f : Nat) (hf : f < 18446744073709551616) : (putL acc f).length ≤ acc.length + 41 := by
  unfold putL
  have := hexL_len f hf
  split <;> simp <;> omega
theorem listL_take {acc : List UInt8} {bs : List Nat} {k : Nat} (hk : k < bs.length) : listL acc (bs.take (k + 1)) = putL (listL acc (bs.take k)) (bs.getD k 0) := by
  unfold listL
  rw [List.take_add_one, List.foldl_append, List.getD_eq_getElem?_getD, List.getElem?_eq_getElem hk]
  rfl
theorem listL_len : ∀ (bs : List Nat) (acc : List UInt8), (∀ x ∈ bs, x < 18446744073709551616) → (listL acc bs).length ≤ acc.length + 41 * bs.length := by
  intro bs
  induction bs with
  | nil => intro acc _; simp [listL]
  | cons f bs ih =>
    intro acc h
    have h1 := ih (putL acc f) (fun x hx => h x (List.mem_cons_of_mem _ hx))
    have h2 := putL_len acc f (h f List.mem_cons_self)
    have e : listL acc (f :: bs) = listL (putL acc f) bs := rfl
    rw [e, List.length_cons]
    omega
theorem getD_lt {bs : List Nat} (h : ∀ x ∈ bs, x < 18446744073709551616) (k : Nat) : bs.getD k 0 < 18446744073709551616 := by
  rw [List.getD_eq_getElem?_getD]
  rcases Nat.lt_or_ge k bs.length with c | c
  · rw [List.getElem?_eq_getElem c]
    exact h _ (List.getElem_mem c)
  · rw [List.getElem?_eq_none c]
    simp
theorem wbyte_w (B b : Nat) (l : List UInt8) (c : UInt8) (w : World) (h : Bld w B b l) (hl : l.length ≤ 100000000) (hB : B ≤ w.heap.size) (x : Int) (hx : x = (c.toNat : Int)) :
    Calls Tryz.prog 14 #[.pointer (some ⟨b, 0, none⟩), .int .u8 x] w fun e w' => e = .returned .nilIface ∧ Bld w' B b (l ++ [c]) ∧ Below B w w' := by
  subst hx
  refine (writeByte_any B b _ _ w h (by rw [Lib.byteCells_length]; omega) hB).mono ?_
  rintro e w' ⟨rfl, h1, h2⟩
  refine ⟨rfl, .inr ?_, h2⟩
  rw [← cells_app]
  exact h1
theorem wstring_w (B b : Nat) (l : List UInt8) (s : ByteArray) (w : World) (h : Bld w B b l) (hl : l.length ≤ 100000000) (hs : s.size ≤ 1000000) (hB : B ≤ w.heap.size) :
    Calls Tryz.prog 15 #[.pointer (some ⟨b, 0, none⟩), .string s] w fun e w' => e = .returned (.tuple #[.int .i64 s.size, .nilIface]) ∧ Bld w' B b (l ++ s.data.toList) ∧ Below B w w' := by
  refine (writeString_any B b _ s w h (by rw [Lib.byteCells_length]; omega) hB).mono ?_
  rintro e w' ⟨rfl, h1, h2⟩
  refine ⟨rfl, .inr ?_, h2⟩
  rw [← cells_app]
  exact h1
theorem len_w (B b : Nat) (l : List UInt8) (w : World) (h : Bld w B b l) :
    Calls Tryz.prog 49 #[.pointer (some ⟨b, 0, none⟩)] w fun e w' => e = .returned (.int .i64 (l.length : Int)) ∧ w' = w := by
  have := Tryz.Builder_Len B b _ w h
  rw [Lib.byteCells_length] at this
  exact this

set_option maxRecDepth 8000 in
set_option maxHeartbeats 2000000 in
theorem hexes_any (b : Nat) (A : Option Addr) (n c : Nat) (bs : List Nat) (acc : List UInt8) (W0 w : World) (hT : Tab64 W0) (hP : TabP W0) (hfl : FlAt W0 A n bs) (hbs : ∀ x ∈ bs, x < 18446744073709551616) (hn : n ≤ 5000) (ha : acc.length ≤ 1000) (hB : Bld w W0.heap.size b acc) (hb : Below W0.heap.size W0 w) :
    Calls Tryz.prog 26 #[.pointer (some ⟨b, 0, none⟩), .slice A n c] w fun e w' => e = .returned (.tuple #[]) ∧ Bld w' W0.heap.size b (listL acc bs) ∧ Below W0.heap.size W0 w' := by
  have HF := Lib.hid hfl
  have HT := Lib.hid hT
  have HP := Lib.hid hP
  have HX := Lib.hid hbs
  have HN := Lib.hid (And.intro hn ha)
  have H0 := Lib.hid (And.intro hB hb)
  have hn1 : (n : Int) ≤ 5000 := by omega
  clear hfl hT hP hbs hn ha hB hb
  go_enter Tryz.func26, Tryz.ntmps26
  go_wp2_with fail
  go_loopw [8] (fun iv wr => ∃ k : Nat, k ≤ n ∧ iv = .int .i64 (k : Int) ∧ Hid (Bld wr W0.heap.size b (listL acc (bs.take k)) ∧ Below W0.heap.size W0 wr)) (fun iv _ => n - (intOf iv).toNat)
  case atStart => exact ⟨0, by omega, rfl, H0⟩
  case round =>
    obtain ⟨k, hk, rfl, hh⟩ := hrel
    by_cases hlt : k < n
    · obtain ⟨g, off, rfl, hg, hcell⟩ := HF.out.at hlt
      obtain ⟨f, hf⟩ : ∃ f, bs.getD k 0 = f := ⟨_, rfl⟩
      rw [hf] at hcell
      have hcr := (hh.out.2.cell (p := ⟨g, off + k, none⟩) hg).trans hcell
      have hki : (k : Int) < (n : Int) := by omega
      have hfl : f < 18446744073709551616 := by rw [← hf]; exact getD_lt HX.out k
      have hnx : Hid (listL acc (bs.take (k + 1)) = putL (listL acc (bs.take k)) f ∧ (listL acc (bs.take k)).length ≤ 300000 ∧ (hexL f).length ≤ 40) := Lib.hid ⟨by rw [← hf]; exact listL_take (by rw [HF.out.1]; exact hlt), by
        have h1 := listL_len (bs.take k) acc (fun x hx => HX.out x (List.mem_of_mem_take hx))
        have h2 : (bs.take k).length ≤ 5000 := by rw [List.length_take]; omega
        have h3 := HN.out
        omega, hexL_len f hfl⟩
      obtain ⟨l, hl⟩ : ∃ l, listL acc (bs.take k) = l := ⟨_, rfl⟩
      rw [hl] at hh hnx
      clear hcell hf hl
      by_cases hl0 : l = []
      · subst hl0
        go_wp2_with fail
        refine (len_w _ b [] wr hh.out.1).mono ?_
        rintro e w1 ⟨rfl, hw1⟩
        obtain rfl := hw1.symm
        go_wp2_with fail
        refine (hex_any f wr (HT.out.below hh.out.2) (HP.out.below hh.out.2 HP.out.2) hfl).mono ?_
        rintro e w3 ⟨rfl, b3⟩
        have H3 := Lib.hid (And.intro (Bld.below hh.out.1 b3) (back_of' hh.out.2 b3))
        clear b3
        go_wp2_with fail
        refine (wstring_w W0.heap.size b _ _ w3 H3.out.1 (by have := hnx.out.2.1; simp; try omega) (by have := hnx.out.2.2; show (hexL f).toArray.size ≤ _; simp; omega) H3.out.2.size).mono ?_
        rintro e w4 ⟨rfl, d4, b4⟩
        have H4 := Lib.hid (And.intro d4 (H3.out.2.trans b4))
        clear d4 b4
        go_wp2_with fail
        go_roundw
        case rel =>
          refine ⟨k + 1, by omega, by go_num, Lib.hid ⟨?_, H4.out.2⟩⟩
          have h1 := H4.out.1
          rw [hnx.out.1]
          unfold putL
          rw [if_pos rfl]
          exact h1
        case measure => simp [intOf]; omega
      · have hlp : (0 : Int) < (l.length : Int) := by
          have := List.length_pos_iff.2 hl0
          omega
        have HB := Lib.hid hh.out.1
        go_wp2_with fail
        refine (len_w _ b l wr hh.out.1).mono ?_
        rintro e w1 ⟨rfl, hw1⟩
        obtain rfl := hw1.symm
        go_wp2_with fail
        refine (wbyte_w W0.heap.size b l 32 wr HB.out (by have := hnx.out.2.1; omega) hh.out.2.size 32 rfl).mono ?_
        rintro e w2 ⟨rfl, d2, b2⟩
        have H2 := Lib.hid (And.intro d2 (hh.out.2.trans b2))
        clear d2 b2
        go_wp2_with fail
        refine (hex_any f w2 (HT.out.below H2.out.2) (HP.out.below H2.out.2 HP.out.2) hfl).mono ?_
        rintro e w3 ⟨rfl, b3⟩
        have H3 := Lib.hid (And.intro (Bld.below H2.out.1 b3) (back_of' H2.out.2 b3))
        clear b3
        go_wp2_with fail
        refine (wstring_w W0.heap.size b _ _ w3 H3.out.1 (by have := hnx.out.2.1; simp; try omega) (by have := hnx.out.2.2; show (hexL f).toArray.size ≤ _; simp; omega) H3.out.2.size).mono ?_
        rintro e w4 ⟨rfl, d4, b4⟩
        have H4 := Lib.hid (And.intro d4 (H3.out.2.trans b4))
        clear d4 b4
        go_wp2_with fail
        go_roundw
        case rel =>
          refine ⟨k + 1, by omega, by go_num, Lib.hid ⟨?_, H4.out.2⟩⟩
          have h1 := H4.out.1
          rw [hnx.out.1]
          unfold putL
          rw [if_neg hl0]
          exact h1
        case measure => simp [intOf]; omega
    · have hkn : k = n := by omega
      subst hkn
      go_wp2_with fail
      go_end0
      have h1 := hh.out.1
      rw [List.take_of_length_le (by rw [HF.out.1]; exact Nat.le_refl _)] at h1
      exact ⟨rfl, h1, hh.out.2⟩

set_option maxRecDepth 8000 in
set_option maxHeartbeats 1000000 in
/-- a list's text -/
theorem list_any (A : Option Addr) (n c : Nat) (bs : List Nat) (w : World) (hT : Tab64 w) (hP : TabP w) (hfl : FlAt w A n bs) (hbs : ∀ x ∈ bs, x < 18446744073709551616) (hn : n ≤ 4096) :
    Calls Tryz.prog 10 #[.slice A n c] w fun e w' => e = .returned (.tuple #[.string ⟨(listL [] bs).toArray⟩, .int .i64 0]) ∧ Below w.heap.size w w' := by
  have hA := (Below.refl w.heap.size w).alloc (Nat.le_refl _) (.cells #[.pointer none, .slice none 0 0] 44)
  have HH := Lib.hid (hexes_any w.heap.size A n c bs [] w _ hT hP hfl hbs (by omega) (by simp) (Bld.new w) hA)
  have hn1 : ¬ (4096 : Int) < (n : Int) := by omega
  clear hA hT hP hfl hbs hn
  go_enter Tryz.func10, Tryz.ntmps10
  go_wp2_with fail
  refine HH.out.mono ?_
  rintro e w1 ⟨rfl, d1, b1⟩
  have H1 := Lib.hid (And.intro d1 b1)
  clear d1 b1
  go_wp2_with fail
  refine (bstring w.heap.size w.heap.size _ w1 H1.out.1 H1.out.2.size).mono ?_
  rintro e w2 ⟨rfl, b2⟩
  have H2 := Lib.hid (H1.out.2.trans b2)
  clear b2
  go_wp2_with fail
  go_ret2
  exact ⟨rfl, H2.out⟩
set_option maxRecDepth 8000 in
theorem list_long (A : Option Addr) (n c : Nat) (w : World) (hn : 4096 < n) :
    Calls Tryz.prog 10 #[.slice A n c] w fun e w' => e = .returned (.tuple #[.string ⟨#[]⟩, .int .i64 2]) ∧ Below w.heap.size w w' := by
  have hn1 : (4096 : Int) < (n : Int) := by omega
  go_enter Tryz.func10, Tryz.ntmps10
  go_wp2_with fail
  go_ret2
  exact ⟨rfl, Below.refl _ _⟩
end Go.Proofs.YthnmfcjodobkbaaGreatDoor

namespace Go.Proofs.YthnmfcjodobkbaaGreatDoor
open Go Go.RowKit Nb Nx

theorem listL_nil {acc : List UInt8} {bs : List Nat} {k : Nat} (hk : k < bs.length) : listL acc (bs.take (k + 1)) ≠ [] := by rw [listL_take hk]; exact putL_ne _ _
set_option maxRecDepth 8000 in
set_option maxHeartbeats 2000000 in
theorem rlist_any (A : Option Addr) (n c : Nat) (bs : List Nat) (w : World) (hP : TabP w) (hfl : FlAt w A n bs) (hbs : ∀ x ∈ bs, x < 18446744073709551616) (hn : n ≤ 4096) :
    Calls Tryz.prog 11 #[.slice A n c] w fun e w' => e = .returned (.tuple #[.string ⟨(listL [] bs).toArray⟩, .int .i64 0]) ∧ Below w.heap.size w w' := by
  have HF := Lib.hid hfl
  have HP := Lib.hid hP
  have HX := Lib.hid hbs
  have HN := Lib.hid hn
  have hn0 : ¬ (4096 : Int) < (n : Int) := by omega
  have hn1 : (n : Int) ≤ 5000 := by omega
  clear hfl hP hbs hn
  go_enter Tryz.func11, Tryz.ntmps11
  go_wp2_with fail
  clear hn0
  go_loopw [4, 12] (fun sv iv wr => ∃ (k : Nat) (SS : ByteArray), k ≤ n ∧ sv = .string SS ∧ iv = .int .i64 (k : Int) ∧ Hid (SS = ⟨(listL [] (bs.take k)).toArray⟩ ∧ Below w.heap.size w wr)) (fun _ iv _ => n - (intOf iv).toNat)
  case atStart => exact ⟨0, _, by omega, rfl, rfl, Lib.hid ⟨rfl, Below.refl _ _⟩⟩
  case round =>
    obtain ⟨k, SS, hk, rfl, rfl, hh⟩ := hrel
    by_cases hlt : k < n
    · obtain ⟨g, off, rfl, hg, hcell⟩ := HF.out.at hlt
      obtain ⟨f, hf⟩ : ∃ f, bs.getD k 0 = f := ⟨_, rfl⟩
      rw [hf] at hcell
      have hcr := (hh.out.2.cell (p := ⟨g, off + k, none⟩) hg).trans hcell
      have hki : (k : Int) < (n : Int) := by omega
      have hfl : f < 18446744073709551616 := by rw [← hf]; exact getD_lt HX.out k
      have hnx : Hid (listL [] (bs.take (k + 1)) = putL (listL [] (bs.take k)) f ∧ (listL [] (bs.take k)).length ≤ 300000 ∧ (hexL f).length ≤ 40) := Lib.hid ⟨by rw [← hf]; exact listL_take (by rw [HF.out.1]; exact hlt), by
        have h1 := listL_len (bs.take k) [] (fun x hx => HX.out x (List.mem_of_mem_take hx))
        have h2 : (bs.take k).length ≤ 5000 := by rw [List.length_take]; have := HN.out; omega
        simp only [List.length_nil] at h1
        omega, hexL_len f hfl⟩
      have hkl : k ≠ 0 → listL [] (bs.take k) ≠ [] := by
        intro h0
        obtain ⟨k', rfl⟩ : ∃ k', k = k' + 1 := ⟨k - 1, by omega⟩
        exact listL_nil (by rw [HF.out.1]; omega)
      have hkz : k = 0 → listL [] (bs.take k) = [] := by
        rintro rfl
        rfl
      obtain ⟨l, hl⟩ : ∃ l, listL [] (bs.take k) = l := ⟨_, rfl⟩
      rw [hl] at hh hnx hkl hkz
      have hSl : SS.size ≤ 300000 := by rw [hh.out.1]; have := hnx.out.2.1; show l.toArray.size ≤ _; simp; omega
      clear hcell hf hl
      by_cases hk0 : k = 0
      · obtain rfl := hkz hk0
        clear hkl hkz
        subst hk0
        rw [Nat.add_zero] at hcr
        have hkp : ¬ (0 : Int) < ((0 : Nat) : Int) := by omega
        go_wp2_with fail
        refine (rhex_any f wr (HP.out.below hh.out.2 HP.out.2) hfl).mono ?_
        rintro e w3 ⟨rfl, b3⟩
        have HB3 := Lib.hid (back_of' hh.out.2 b3)
        clear b3
        obtain ⟨HS, hHS⟩ : ∃ HS, HS = (⟨(hexL f).toArray⟩ : ByteArray) := ⟨_, rfl⟩
        rw [← hHS]
        have hHl : HS.size ≤ 40 := by rw [hHS]; have := hnx.out.2.2; show (hexL f).toArray.size ≤ _; simp; omega
        have HHS := Lib.hid hHS
        clear hHS
        go_wp2_with fail
        go_roundw
        case rel =>
          refine ⟨0 + 1, _, by omega, rfl, by go_num, Lib.hid ⟨?_, HB3.out⟩⟩
          rw [hnx.out.1, HHS.out]
          have h1 := hh.out.1
          unfold putL
          rw [if_pos rfl]
          rw [h1]
          exact str_app [] _
        case measure => simp [intOf]; omega
      · have hl0 := Lib.hid (hkl hk0)
        clear hkl hkz
        have hkp : (0 : Int) < (k : Int) := by omega
        go_wp2_with fail
        refine (rhex_any f wr (HP.out.below hh.out.2 HP.out.2) hfl).mono ?_
        rintro e w3 ⟨rfl, b3⟩
        have HB3 := Lib.hid (back_of' hh.out.2 b3)
        clear b3
        obtain ⟨HS, hHS⟩ : ∃ HS, HS = (⟨(hexL f).toArray⟩ : ByteArray) := ⟨_, rfl⟩
        rw [← hHS]
        have hHl : HS.size ≤ 40 := by rw [hHS]; have := hnx.out.2.2; show (hexL f).toArray.size ≤ _; simp; omega
        have HHS := Lib.hid hHS
        clear hHS
        go_wp2_with fail
        go_roundw
        case rel =>
          refine ⟨k + 1, _, by omega, rfl, by go_num, Lib.hid ⟨?_, HB3.out⟩⟩
          rw [hnx.out.1, HHS.out]
          have h1 := hh.out.1
          unfold putL
          rw [if_neg hl0.out]
          rw [h1]
          exact (congrArg (· ++ (⟨(hexL f).toArray⟩ : ByteArray)) (str_app l [32])).trans (str_app _ _)
        case measure => simp [intOf]; omega
    · have hkn : k = n := by omega
      subst hkn
      have h1 := hh.out.1
      rw [List.take_of_length_le (by rw [HF.out.1]; exact Nat.le_refl _)] at h1
      have H1 := Lib.hid h1
      clear h1
      go_wp2_with fail
      go_ret2
      exact ⟨congrArg (fun z : ByteArray => Ending.returned (.tuple #[.string z, .int .i64 0])) H1.out, hh.out.2⟩
set_option maxRecDepth 8000 in
theorem rlist_long (A : Option Addr) (n c : Nat) (w : World) (hn : 4096 < n) :
    Calls Tryz.prog 11 #[.slice A n c] w fun e w' => e = .returned (.tuple #[.string ⟨#[]⟩, .int .i64 2]) ∧ Below w.heap.size w w' := by
  have hn1 : (4096 : Int) < (n : Int) := by omega
  go_enter Tryz.func11, Tryz.ntmps11
  go_wp2_with fail
  go_ret2
  exact ⟨rfl, Below.refl _ _⟩
end Go.Proofs.YthnmfcjodobkbaaGreatDoor

namespace Go.Proofs.YthnmfcjodobkbaaGreatDoor
open Go Go.RowKit Nb Nx

/-- rows and columns ahead -/
def shapeL (r c : Int) : List UInt8 := Lib.itoa r ++ [32] ++ Lib.itoa c
theorem shape_ne (r c : Int) : shapeL r c ≠ [] := by unfold shapeL; simp
theorem shape_len {r c : Int} (h0 : 0 ≤ r) (h1 : r ≤ 12) (h2 : 0 ≤ c) (h3 : c ≤ 12) : (shapeL r c).length ≤ 41 := by
  unfold shapeL
  have a := itoa_len (E := r) (by omega) (by omega)
  have b := itoa_len (E := c) (by omega) (by omega)
  simp only [List.length_append, List.length_cons, List.length_nil]
  omega
/-- rows or columns that may not be -/
def BadDim (r c : Int) : Prop := r < 0 ∨ 12 < r ∨ c < 0 ∨ 12 < c
structure OkDim (r c : Int) : Prop where
  r0 : 0 ≤ r
  r1 : r ≤ 12
  c0 : 0 ≤ c
  c1 : c ≤ 12
theorem dim_or (r c : Int) : BadDim r c ∨ OkDim r c := by
  unfold BadDim
  by_cases h : r < 0 ∨ 12 < r ∨ c < 0 ∨ 12 < c
  · exact .inl h
  · exact .inr ⟨by omega, by omega, by omega, by omega⟩
theorem dim_mul {r c : Int} (h : OkDim r c) : wrap64 (r * c) = r * c ∧ 0 ≤ r * c ∧ r * c ≤ 144 := by
  obtain ⟨h0, h1, h2, h3⟩ := h
  have a : 0 ≤ r * c := Int.mul_nonneg h0 h2
  have b : r * c ≤ 12 * 12 := Int.mul_le_mul h1 h3 h2 (by omega)
  refine ⟨by unfold wrap64; omega, a, by omega⟩

/-- a matrix by value in a block of its own -/
def MatAt (w : World) (g : Nat) (r c : Int) (V : Value) : Prop := w.cell? ⟨g, 0, none⟩ = some (.int .i64 r) ∧ w.cell? ⟨g, 1, none⟩ = some (.int .i64 c) ∧ w.cell? ⟨g, 2, none⟩ = some V
theorem MatAt.below {w w' : World} {g B : Nat} {r c : Int} {V : Value} (h : MatAt w g r c V) (hb : Below B w w') (hg : g < B) : MatAt w' g r c V :=
  ⟨(hb.cell hg).trans h.1, (hb.cell hg).trans h.2.1, (hb.cell hg).trans h.2.2⟩
theorem mat_new (w : World) (r c : Int) (V : Value) (T : TypeId) : MatAt (w.alloc (.cells #[.int .i64 r, .int .i64 c, V] T)) w.heap.size r c V := by
  refine ⟨?_, ?_, ?_⟩ <;> simp [go_sem]
theorem itoa_named (r : Int) (h0 : 0 ≤ r) (h1 : r ≤ 12) : ∃ RS : ByteArray, RS = ⟨(Lib.itoa r).toArray⟩ ∧ RS.size ≤ 20 ∧ ∀ w, TabP w → Calls Tryz.prog 18 #[.int .i64 r] w fun e w' => e = .returned (.string RS) ∧ Below w.heap.size w w' := by
  refine ⟨_, rfl, ?_, fun w hP => itoa_any r w (by omega) (by omega) hP⟩
  have := itoa_len (E := r) (by omega) (by omega)
  show (Lib.itoa r).toArray.size ≤ _
  simpa using this

set_option maxRecDepth 8000 in
theorem mat_range (r c : Int) (V : Value) (w : World) (h : BadDim r c) :
    Calls Tryz.prog 12 #[.agg #[.int .i64 r, .int .i64 c, V]] w fun e w' => e = .returned (.tuple #[.string ⟨#[]⟩, .int .i64 1]) ∧ Below w.heap.size w w' := by
  have HA := (Below.refl w.heap.size w).alloc (Nat.le_refl _) (.cells #[.int .i64 r, .int .i64 c, V] 37)
  by_cases a : r < 0
  · clear h
    go_enter Tryz.func12, Tryz.ntmps12
    go_wp2_with fail
    go_ret2
    exact ⟨rfl, HA⟩
  · by_cases b : 12 < r
    · clear h
      go_enter Tryz.func12, Tryz.ntmps12
      go_wp2_with fail
      go_ret2
      exact ⟨rfl, HA⟩
    · by_cases d : c < 0
      · clear h
        go_enter Tryz.func12, Tryz.ntmps12
        go_wp2_with fail
        go_ret2
        exact ⟨rfl, HA⟩
      · have e : 12 < c := by unfold BadDim at h; omega
        clear h
        go_enter Tryz.func12, Tryz.ntmps12
        go_wp2_with fail
        go_ret2
        exact ⟨rfl, HA⟩
set_option maxRecDepth 8000 in
theorem rshape_range (r c : Int) (V : Value) (w : World) (h : BadDim r c) :
    Calls Tryz.prog 28 #[.agg #[.int .i64 r, .int .i64 c, V]] w fun e w' => e = .returned (.int .i64 1) ∧ Below w.heap.size w w' := by
  have HA := (Below.refl w.heap.size w).alloc (Nat.le_refl _) (.cells #[.int .i64 r, .int .i64 c, V] 37)
  by_cases a : r < 0
  · clear h
    go_enter Tryz.func28, Tryz.ntmps28
    go_wp2_with fail
    go_ret
    exact ⟨rfl, HA⟩
  · by_cases b : 12 < r
    · clear h
      go_enter Tryz.func28, Tryz.ntmps28
      go_wp2_with fail
      go_ret
      exact ⟨rfl, HA⟩
    · by_cases d : c < 0
      · clear h
        go_enter Tryz.func28, Tryz.ntmps28
        go_wp2_with fail
        go_ret
        exact ⟨rfl, HA⟩
      · have e : 12 < c := by unfold BadDim at h; omega
        clear h
        go_enter Tryz.func28, Tryz.ntmps28
        go_wp2_with fail
        go_ret
        exact ⟨rfl, HA⟩
set_option maxRecDepth 8000 in
theorem rmat_range (r c : Int) (V : Value) (w : World) (h : BadDim r c) :
    Calls Tryz.prog 13 #[.agg #[.int .i64 r, .int .i64 c, V]] w fun e w' => e = .returned (.tuple #[.string ⟨#[]⟩, .int .i64 1]) ∧ Below w.heap.size w w' := by
  have HA := (Below.refl w.heap.size w).alloc (Nat.le_refl _) (.cells #[.int .i64 r, .int .i64 c, V] 37)
  have HS := Lib.hid (fun W => rshape_range r c V W h)
  clear h
  go_enter Tryz.func13, Tryz.ntmps13
  go_wp2_with fail
  refine (HS.out _).mono ?_
  rintro e w1 ⟨rfl, b1⟩
  have HB := Lib.hid (back_of' HA b1)
  clear b1
  go_wp2_with fail
  go_ret2
  exact ⟨rfl, HB.out⟩

set_option maxRecDepth 8000 in
theorem mat_shape (r c : Int) (A : Option Addr) (n cc : Nat) (w : World) (h : OkDim r c) (hn : (n : Int) ≠ r * c) :
    Calls Tryz.prog 12 #[.agg #[.int .i64 r, .int .i64 c, .slice A n cc]] w fun e w' => e = .returned (.tuple #[.string ⟨#[]⟩, .int .i64 3]) ∧ Below w.heap.size w w' := by
  have HA := (Below.refl w.heap.size w).alloc (Nat.le_refl _) (.cells #[.int .i64 r, .int .i64 c, .slice A n cc] 37)
  have hm := (dim_mul h).1
  have h0 := h.r0
  have h1 : ¬ 12 < r := by have := h.r1; omega
  have h2 := h.c0
  have h3 : ¬ 12 < c := by have := h.c1; omega
  clear h
  obtain ⟨p, hp⟩ : ∃ p, r * c = p := ⟨_, rfl⟩
  rw [hp] at hm hn
  go_enter Tryz.func12, Tryz.ntmps12
  go_wp2_with fail
  go_ret2
  exact ⟨rfl, HA⟩
set_option maxRecDepth 8000 in
theorem rshape_shape (r c : Int) (A : Option Addr) (n cc : Nat) (w : World) (h : OkDim r c) (hn : (n : Int) ≠ r * c) :
    Calls Tryz.prog 28 #[.agg #[.int .i64 r, .int .i64 c, .slice A n cc]] w fun e w' => e = .returned (.int .i64 3) ∧ Below w.heap.size w w' := by
  have HA := (Below.refl w.heap.size w).alloc (Nat.le_refl _) (.cells #[.int .i64 r, .int .i64 c, .slice A n cc] 37)
  have hm := (dim_mul h).1
  have h0 := h.r0
  have h1 : ¬ 12 < r := by have := h.r1; omega
  have h2 := h.c0
  have h3 : ¬ 12 < c := by have := h.c1; omega
  clear h
  obtain ⟨p, hp⟩ : ∃ p, r * c = p := ⟨_, rfl⟩
  rw [hp] at hm hn
  go_enter Tryz.func28, Tryz.ntmps28
  go_wp2_with fail
  go_ret
  exact ⟨rfl, HA⟩
set_option maxRecDepth 8000 in
theorem rshape_ok (r c : Int) (A : Option Addr) (n cc : Nat) (w : World) (h : OkDim r c) (hn : r * c = (n : Int)) :
    Calls Tryz.prog 28 #[.agg #[.int .i64 r, .int .i64 c, .slice A n cc]] w fun e w' => e = .returned (.int .i64 0) ∧ Below w.heap.size w w' := by
  have HA := (Below.refl w.heap.size w).alloc (Nat.le_refl _) (.cells #[.int .i64 r, .int .i64 c, .slice A n cc] 37)
  have hm := (dim_mul h).1
  have h0 := h.r0
  have h1 : ¬ 12 < r := by have := h.r1; omega
  have h2 := h.c0
  have h3 : ¬ 12 < c := by have := h.c1; omega
  clear h
  rw [hn] at hm
  go_enter Tryz.func28, Tryz.ntmps28
  go_wp2_with fail
  go_ret
  exact ⟨rfl, HA⟩
set_option maxRecDepth 8000 in
theorem rmat_shape (r c : Int) (A : Option Addr) (n cc : Nat) (w : World) (h : OkDim r c) (hn : (n : Int) ≠ r * c) :
    Calls Tryz.prog 13 #[.agg #[.int .i64 r, .int .i64 c, .slice A n cc]] w fun e w' => e = .returned (.tuple #[.string ⟨#[]⟩, .int .i64 3]) ∧ Below w.heap.size w w' := by
  have HA := (Below.refl w.heap.size w).alloc (Nat.le_refl _) (.cells #[.int .i64 r, .int .i64 c, .slice A n cc] 37)
  have HS := Lib.hid (fun W => rshape_shape r c A n cc W h hn)
  clear h hn
  go_enter Tryz.func13, Tryz.ntmps13
  go_wp2_with fail
  refine (HS.out _).mono ?_
  rintro e w1 ⟨rfl, b1⟩
  have HB := Lib.hid (back_of' HA b1)
  clear b1
  go_wp2_with fail
  go_ret2
  exact ⟨rfl, HB.out⟩

set_option maxRecDepth 8000 in
set_option maxHeartbeats 2000000 in
theorem mat_ok (r c : Int) (A : Option Addr) (n cc : Nat) (bs : List Nat) (w : World) (hT : Tab64 w) (hP : TabP w) (hfl : FlAt w A n bs) (hbs : ∀ x ∈ bs, x < 18446744073709551616) (h : OkDim r c) (hn : r * c = (n : Int)) :
    Calls Tryz.prog 12 #[.agg #[.int .i64 r, .int .i64 c, .slice A n cc]] w fun e w' => e = .returned (.tuple #[.string ⟨(listL (shapeL r c) bs).toArray⟩, .int .i64 0]) ∧ Below w.heap.size w w' := by
  have hm : wrap64 (r * c) = (n : Int) := by rw [(dim_mul h).1, hn]
  have hn4 : n ≤ 144 := by have := (dim_mul h).2.2; omega
  have h0 := h.r0
  have h1 : ¬ 12 < r := by have := h.r1; omega
  have h2 := h.c0
  have h3 : ¬ 12 < c := by have := h.c1; omega
  have HD := Lib.hid h
  have HN := Lib.hid hn4
  have HBS := Lib.hid hbs
  have hA := (Below.refl w.heap.size w).alloc (Nat.le_refl _) (.cells #[.int .i64 r, .int .i64 c, .slice A n cc] 37)
  have HA := Lib.hid hA
  have HF := Lib.hid (hfl.below hA)
  have HT := Lib.hid (hT.below hA)
  have HP := Lib.hid (hP.below hA hP.2)
  have HM := Lib.hid (mat_new w r c (.slice A n cc) 37)
  have HB := Lib.hid (And.intro (Bld.new (w.alloc (.cells #[.int .i64 r, .int .i64 c, .slice A n cc] 37))) ((Below.refl (w.alloc (.cells #[.int .i64 r, .int .i64 c, .slice A n cc] 37)).heap.size (w.alloc (.cells #[.int .i64 r, .int .i64 c, .slice A n cc] 37))).alloc (Nat.le_refl _) (.cells #[.pointer none, .slice none 0 0] 44)))
  have hs : (w.alloc (.cells #[.int .i64 r, .int .i64 c, .slice A n cc] 37)).heap.size = w.heap.size + 1 := by simp
  obtain ⟨RS, hRS, hrl, hIr⟩ := itoa_named r h.r0 h.r1
  obtain ⟨CS, hCS, hcl, hIc⟩ := itoa_named c h.c0 h.c1
  have HI := Lib.hid (And.intro hIr hIc)
  have HJ : Hid (RS ++ (⟨#[32]⟩ : ByteArray) ++ CS = ⟨(shapeL r c).toArray⟩) := Lib.hid (by
    rw [hRS, hCS]
    exact (congrArg (· ++ (⟨(Lib.itoa c).toArray⟩ : ByteArray)) (str_app (Lib.itoa r) [32])).trans (str_app _ _))
  clear h hn4 hbs hfl hT hP hA hRS hCS hIr hIc hn
  go_enter Tryz.func12, Tryz.ntmps12
  go_wp2_with fail
  rw [← hs]
  generalize w.alloc (.cells #[.int .i64 r, .int .i64 c, .slice A n cc] 37) = W0 at *
  have hwg : w.heap.size < W0.heap.size := by omega
  clear hs
  generalize W0.alloc (.cells #[.pointer none, .slice none 0 0] 44) = w0 at *
  have hcur : Below w0.heap.size w0 w0.drew := (Below.refl _ _).drew
  have HM0 := Lib.hid (HM.out.below HB.out.2 hwg)
  have HP0 := Lib.hid (HP.out.below HB.out.2 HP.out.2)
  have hw0 := HB.out.2.size
  have hq1 : ¬ 9223372036854775807 < RS.size + 1 := by omega
  have hq2 : ¬ 9223372036854775807 < RS.size + 1 + CS.size := by omega
  go_region_held3 (fun w' => w'.cell? ⟨w.heap.size, 0, none⟩ = some (.int .i64 r) ∧ w'.cell? ⟨w.heap.size, 1, none⟩ = some (.int .i64 c)) (first | exact ⟨HM3.out.1, HM3.out.2.1⟩ | (have q := HM0.out.below hcur (by omega); exact ⟨q.1, q.2.1⟩)) (first | (go_at_call_of 18 r; refine (HI.out.1 _ (HP0.out.below hcur HP0.out.2)).mono ?_; rintro e w1 ⟨rfl, b1⟩; replace hcur := back_of' hcur b1; clear b1) | (go_at_call_of 18 c; refine (HI.out.2 _ (HP0.out.below hcur HP0.out.2)).mono ?_; rintro e w2 ⟨rfl, b2⟩; replace hcur := back_of' hcur b2; clear b2) | (go_at_call 15; rw [HJ.out]; refine (wstring_w W0.heap.size W0.heap.size [] _ _ (Bld.below HB.out.1 hcur) (by simp) (by have := shape_len HD.out.r0 HD.out.r1 HD.out.c0 HD.out.c1; show (shapeL r c).toArray.size ≤ _; simp; omega) (by have := hcur.size; omega)).mono ?_; rintro e w3 ⟨rfl, d3, b3⟩; have H3 : Hid (Bld w3 W0.heap.size W0.heap.size (shapeL r c) ∧ Below W0.heap.size W0 w3) := Lib.hid ⟨d3, (back_of' HB.out.2 hcur).trans b3⟩; have HM3 := Lib.hid (HM.out.below H3.out.2 hwg); have hm2 := HM3.out.2.2; clear d3 b3))
  go_wp2_with fail
  refine (hexes_any W0.heap.size A n cc bs (shapeL r c) W0 w3 HT.out HP.out HF.out HBS.out (by have := HN.out; omega) (by have := shape_len HD.out.r0 HD.out.r1 HD.out.c0 HD.out.c1; omega) H3.out.1 H3.out.2).mono ?_
  rintro e w4 ⟨rfl, d4, b4⟩
  have H4 := Lib.hid (And.intro d4 b4)
  clear d4 b4
  go_wp2_with fail
  refine (bstring W0.heap.size W0.heap.size _ w4 H4.out.1 H4.out.2.size).mono ?_
  rintro e w5 ⟨rfl, b5⟩
  have H5 := Lib.hid (H4.out.2.trans b5)
  clear b5
  go_wp2_with fail
  go_ret2
  exact ⟨rfl, back_of' HA.out H5.out⟩

set_option maxRecDepth 8000 in
set_option maxHeartbeats 2000000 in
theorem rmat_ok (r c : Int) (A : Option Addr) (n cc : Nat) (bs : List Nat) (w : World) (hP : TabP w) (hfl : FlAt w A n bs) (hbs : ∀ x ∈ bs, x < 18446744073709551616) (h : OkDim r c) (hn : r * c = (n : Int)) :
    Calls Tryz.prog 13 #[.agg #[.int .i64 r, .int .i64 c, .slice A n cc]] w fun e w' => e = .returned (.tuple #[.string ⟨(listL (shapeL r c) bs).toArray⟩, .int .i64 0]) ∧ Below w.heap.size w w' := by
  have HS := Lib.hid (fun W => rshape_ok r c A n cc W h hn)
  have hn4 : (n : Int) ≤ 144 := by have := (dim_mul h).2.2; omega
  have HD := Lib.hid h
  have HX := Lib.hid hbs
  have HF := Lib.hid hfl
  have HP := Lib.hid hP
  have HA := Lib.hid ((Below.refl w.heap.size w).alloc (Nat.le_refl _) (.cells #[.int .i64 r, .int .i64 c, .slice A n cc] 37))
  have HM := Lib.hid (mat_new w r c (.slice A n cc) 37)
  have hs : (w.alloc (.cells #[.int .i64 r, .int .i64 c, .slice A n cc] 37)).heap.size = w.heap.size + 1 := by simp
  obtain ⟨RS, hRS, hrl, hIr⟩ := itoa_named r h.r0 h.r1
  obtain ⟨CS, hCS, hcl, hIc⟩ := itoa_named c h.c0 h.c1
  have HI := Lib.hid (And.intro hIr hIc)
  obtain ⟨S0, hS0⟩ : ∃ S0 : ByteArray, RS ++ (⟨#[32]⟩ : ByteArray) ++ CS = S0 := ⟨_, rfl⟩
  have HJ : Hid (S0 = ⟨(listL (shapeL r c) (bs.take 0)).toArray⟩) := Lib.hid (by
    rw [← hS0, hRS, hCS]
    exact (congrArg (· ++ (⟨(Lib.itoa c).toArray⟩ : ByteArray)) (str_app (Lib.itoa r) [32])).trans (str_app _ _))
  clear h hbs hfl hP hn hRS hCS hIr hIc
  go_enter Tryz.func13, Tryz.ntmps13
  go_wp2_with fail
  refine (HS.out _).mono ?_
  rintro e w0 ⟨rfl, b0⟩
  have H0 := Lib.hid (back_of' HA.out b0)
  have HM0 := Lib.hid (HM.out.below b0 (by omega))
  have hwg : w.heap.size < w0.heap.size := by have := b0.size; omega
  clear b0 hs HM HA
  go_wp2_with fail
  have hcur : Below w0.heap.size w0 w0.drew := (Below.refl _ _).drew
  have HP0 := Lib.hid (HP.out.below H0.out HP.out.2)
  have hq1 : ¬ 9223372036854775807 < RS.size + 1 := by omega
  have hq2 : ¬ 9223372036854775807 < RS.size + 1 + CS.size := by omega
  go_region_held3 (fun w' => w'.cell? ⟨w.heap.size, 0, none⟩ = some (.int .i64 r) ∧ w'.cell? ⟨w.heap.size, 1, none⟩ = some (.int .i64 c)) (first | (have q := HM0.out.below hcur hwg; exact ⟨q.1, q.2.1⟩)) (first | (go_at_call_of 18 r; refine (HI.out.1 _ (HP0.out.below hcur HP0.out.2)).mono ?_; rintro e w1 ⟨rfl, b1⟩; replace hcur := back_of' hcur b1; clear b1) | (go_at_call_of 18 c; refine (HI.out.2 _ (HP0.out.below hcur HP0.out.2)).mono ?_; rintro e w2 ⟨rfl, b2⟩; replace hcur := back_of' hcur b2; clear b2))
  have H2 := Lib.hid (back_of' H0.out hcur)
  obtain ⟨-, -, hm2⟩ := HM0.out.below hcur hwg
  clear hcur hS0 hq1 hq2 hrl hcl HI H0
  go_wp2_with fail
  go_loopw [5, 24] (fun sv iv wr => ∃ (k : Nat) (SS : ByteArray), k ≤ n ∧ sv = .string SS ∧ iv = .int .i64 (k : Int) ∧ Hid (SS = ⟨(listL (shapeL r c) (bs.take k)).toArray⟩ ∧ Below w.heap.size w wr)) (fun _ iv _ => n - (intOf iv).toNat)
  case atStart => exact ⟨0, _, by omega, rfl, rfl, Lib.hid ⟨HJ.out, H2.out⟩⟩
  case round =>
    clear HJ
    obtain ⟨k, SS, hk, rfl, rfl, hh⟩ := hrel
    by_cases hlt : k < n
    · obtain ⟨g, off, rfl, hg, hcell⟩ := HF.out.at hlt
      obtain ⟨f, hf⟩ : ∃ f, bs.getD k 0 = f := ⟨_, rfl⟩
      rw [hf] at hcell
      have hcr := (hh.out.2.cell (p := ⟨g, off + k, none⟩) hg).trans hcell
      have hki : (k : Int) < (n : Int) := by omega
      have hfl : f < 18446744073709551616 := by rw [← hf]; exact getD_lt HX.out k
      have hnx : Hid (listL (shapeL r c) (bs.take (k + 1)) = putL (listL (shapeL r c) (bs.take k)) f ∧ (listL (shapeL r c) (bs.take k)).length ≤ 300000 ∧ (hexL f).length ≤ 40) := Lib.hid ⟨by rw [← hf]; exact listL_take (by rw [HF.out.1]; exact hlt), by
        have h1 := listL_len (bs.take k) (shapeL r c) (fun x hx => HX.out x (List.mem_of_mem_take hx))
        have h2 : (bs.take k).length ≤ 5000 := by rw [List.length_take]; omega
        have h3 := shape_len HD.out.r0 HD.out.r1 HD.out.c0 HD.out.c1
        omega, hexL_len f hfl⟩
      have hkl : listL (shapeL r c) (bs.take k) ≠ [] := by
        rcases k with _ | k
        · exact shape_ne r c
        · rw [listL_take (by rw [HF.out.1]; omega)]
          exact putL_ne _ _
      obtain ⟨l, hl⟩ : ∃ l, listL (shapeL r c) (bs.take k) = l := ⟨_, rfl⟩
      rw [hl] at hh hnx hkl
      have hSl : SS.size ≤ 300000 := by rw [hh.out.1]; have := hnx.out.2.1; show l.toArray.size ≤ _; simp; omega
      have hl0 := Lib.hid hkl
      clear hcell hf hl hkl
      go_wp2_with fail
      refine (rhex_any f wr (HP.out.below hh.out.2 HP.out.2) hfl).mono ?_
      rintro e w3 ⟨rfl, b3⟩
      have HB3 := Lib.hid (back_of' hh.out.2 b3)
      clear b3
      obtain ⟨HS, hHS⟩ : ∃ HS, HS = (⟨(hexL f).toArray⟩ : ByteArray) := ⟨_, rfl⟩
      rw [← hHS]
      have hHl : HS.size ≤ 40 := by rw [hHS]; have := hnx.out.2.2; show (hexL f).toArray.size ≤ _; simp; omega
      have HHS := Lib.hid hHS
      clear hHS
      go_wp2_with fail
      go_roundw
      case rel =>
        refine ⟨k + 1, _, by omega, rfl, by go_num, Lib.hid ⟨?_, HB3.out⟩⟩
        rw [hnx.out.1, HHS.out]
        have h1 := hh.out.1
        unfold putL
        rw [if_neg hl0.out]
        rw [h1]
        refine (congrArg ((⟨l.toArray⟩ : ByteArray) ++ ·) (str_app [32] (hexL f))).trans ((str_app _ _).trans ?_)
        simp
      case measure => simp [intOf]; omega
    · have hkn : k = n := by omega
      subst hkn
      have h1 := hh.out.1
      rw [List.take_of_length_le (by rw [HF.out.1]; exact Nat.le_refl _)] at h1
      have H1' := Lib.hid h1
      clear h1
      go_wp2_with fail
      go_ret2
      exact ⟨congrArg (fun z : ByteArray => Ending.returned (.tuple #[.string z, .int .i64 0])) H1'.out, hh.out.2⟩
end Go.Proofs.YthnmfcjodobkbaaGreatDoor
