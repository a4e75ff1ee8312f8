/- HE7 HE8 HE9 HD8 HD9 HD11 in one text. -/
import Derived.Test.YtgccfdfbnhldbaaGreatDoorP31
import Derived.Test.YtgccfdfbnhldbaaGreatDoorP30
import Derived.Test.YtgccfdfbnhldbaaGreatDoorP26
import Derived.Test.YtgccfdfbnhldbaaGreatDoorP18
import Derived.Test.YtgccfdfbnhldbaaGreatDoorP27
import Derived.Test.YtgccfdfbnhldbaaGreatDoorP29

namespace Go.Proofs.YtgccfdfbnhldbaaGreatDoor.Nb
open Go Go.RowKit Nx

theorem itoa_nosp : ∀ k : Fin 13, ∀ b ∈ Lib.itoa ((k.val : Nat) : Int), b ≠ 32 := by decide +kernel
theorem itoa_pos : ∀ k : Fin 13, 1 ≤ (Lib.itoa ((k.val : Nat) : Int)).length := by decide +kernel
theorem join_len : ∀ (l : List (List UInt8)) (p : List UInt8), l.length ≤ (joinS p l).length
  | [], _ => by simp
  | q :: l, p => by
    have ih := join_len l q
    unfold joinS
    simp
    omega
theorem shape_join (r q : Int) (bs : List Nat) : listL (shapeL r q) bs = joinS (Lib.itoa r) (Lib.itoa q :: bs.map hexL) := by
  rw [listL_join bs _ (shape_ne r q)]
  unfold shapeL
  rw [joinS_app]
  simp [joinS]
theorem cellsOf_at {P : List ByteArray} {N i : Nat} (h : i < P.length) : (Lib.cellsOf P N)[i]? = some (.string P[i]) := by
  unfold Lib.cellsOf
  rw [List.getElem?_toArray, List.getElem?_append_left (by simpa using h), List.getElem?_map, List.getElem?_eq_getElem h]
  rfl
theorem DecAt.set0 {w : World} {b : Nat} {v0 v1 v2 : Value} (h : DecAt w b v0 v1 v2) (v : Value) : DecAt (w.setCell ⟨b, 0, none⟩ v) b v v1 v2 := by
  obtain ⟨h1, h2, h3, h4, h5, h6, h7⟩ := h
  refine ⟨by simpa [World.setCell] using h1, ?_, ?_, ?_, ?_, ?_, ?_⟩ <;> simp [go_sem, h2, h3, h4, h5, h6, h7]
/-- the text's pieces -/
def pieceOf (r q : Nat) (bs : List Nat) (i : Nat) : ByteArray := ⟨((Lib.itoa (r : Int) :: Lib.itoa (q : Int) :: bs.map hexL).getD i []).toArray⟩
/-- a matrix under way -/
structure PMat (w W : World) (r q : Nat) (bs : List Nat) (x y : Value) : Prop where
  b : Below w.heap.size w W
  z : DecAt W w.heap.size (.int .i64 0) (.int .i64 0) (.slice none 0 0)
  m : DecAt W (w.heap.size + 2) x y (.slice none 0 0)
  p : W.cell? ⟨w.heap.size + 3, 0, none⟩ = some (.pointer (some ⟨w.heap.size + 2, 0, none⟩)) ∧ W.cell? ⟨w.heap.size + 3, 1, none⟩ = some (.pointer (some ⟨w.heap.size + 2, 1, none⟩)) ∧ w.heap.size + 3 < W.heap.size
  c : ∀ i, i < bs.length + 2 → W.cell? ⟨w.heap.size + 1, i, none⟩ = some (.string (pieceOf r q bs i))
theorem PMat.below {w W W' : World} {r q : Nat} {bs : List Nat} {a b : Value} (h : PMat w W r q bs a b) (k : Below W.heap.size W W') : PMat w W' r q bs a b :=
  ⟨back_of' h.b k, h.z.kept (c := W.heap.size) (Kept.of_below k) (Nat.ne_of_lt h.z.1), h.m.kept (c := W.heap.size) (Kept.of_below k) (Nat.ne_of_lt h.m.1),
   ⟨(k.cell (p := ⟨w.heap.size + 3, 0, none⟩) h.p.2.2).trans h.p.1, (k.cell (p := ⟨w.heap.size + 3, 1, none⟩) h.p.2.2).trans h.p.2.1, Nat.lt_of_lt_of_le h.p.2.2 k.size⟩,
   fun i hi => (k.cell (p := ⟨w.heap.size + 1, i, none⟩) (by have := h.m.1; show w.heap.size + 1 < W.heap.size; omega)).trans (h.c i hi)⟩
theorem PMat.set0 {w W : World} {r q : Nat} {bs : List Nat} {a b : Value} (h : PMat w W r q bs a b) (v : Value) : PMat w (W.setCell ⟨w.heap.size + 2, 0, none⟩ v) r q bs v b := by
  have k := (Kept.refl W (w.heap.size + 2)).setCell (o := 0) v
  exact ⟨h.b.setCell (p := ⟨w.heap.size + 2, 0, none⟩) (by show w.heap.size ≤ w.heap.size + 2; omega) v, h.z.kept k (by omega), h.m.set0 v,
   ⟨(k.cell (p := ⟨w.heap.size + 3, 0, none⟩) h.p.2.2 (by show w.heap.size + 3 ≠ w.heap.size + 2; omega)).trans h.p.1, (k.cell (p := ⟨w.heap.size + 3, 1, none⟩) h.p.2.2 (by show w.heap.size + 3 ≠ w.heap.size + 2; omega)).trans h.p.2.1, Nat.lt_of_lt_of_le h.p.2.2 k.size⟩,
   fun i hi => (k.cell (p := ⟨w.heap.size + 1, i, none⟩) (by have := h.m.1; show w.heap.size + 1 < W.heap.size; omega) (by show w.heap.size + 1 ≠ w.heap.size + 2; omega)).trans (h.c i hi)⟩
theorem PMat.set1 {w W : World} {r q : Nat} {bs : List Nat} {a b : Value} (h : PMat w W r q bs a b) (v : Value) : PMat w (W.setCell ⟨w.heap.size + 2, 1, none⟩ v) r q bs a v := by
  have k := (Kept.refl W (w.heap.size + 2)).setCell (o := 1) v
  exact ⟨h.b.setCell (p := ⟨w.heap.size + 2, 1, none⟩) (by show w.heap.size ≤ w.heap.size + 2; omega) v, h.z.kept k (by omega), h.m.set1 v,
   ⟨(k.cell (p := ⟨w.heap.size + 3, 0, none⟩) h.p.2.2 (by show w.heap.size + 3 ≠ w.heap.size + 2; omega)).trans h.p.1, (k.cell (p := ⟨w.heap.size + 3, 1, none⟩) h.p.2.2 (by show w.heap.size + 3 ≠ w.heap.size + 2; omega)).trans h.p.2.1, Nat.lt_of_lt_of_le h.p.2.2 k.size⟩,
   fun i hi => (k.cell (p := ⟨w.heap.size + 1, i, none⟩) (by have := h.m.1; show w.heap.size + 1 < W.heap.size; omega) (by show w.heap.size + 1 ≠ w.heap.size + 2; omega)).trans (h.c i hi)⟩

/-- the pieces of a matrix' text -/
theorem mat_pieces (r q : Nat) (bs : List Nat) (s : ByteArray) (hs : s.data.toList = listL (shapeL r q) bs) (hr : r ≤ 12) (hq : q ≤ 12) (hl : bs.length ≤ 144) (hb : ∀ x ∈ bs, x < 18446744073709551616) :
    ∃ P : List ByteArray, Lib.splitB ⟨#[32]⟩ 0 (min 148 (s.size + 1) - 1) s = P ∧ P.length = bs.length + 2 ∧ (3 ≤ min 148 (s.size + 1) ∧ bs.length + 2 ≤ min 148 (s.size + 1)) ∧ ∀ i, i < bs.length + 2 → P[i]? = some (pieceOf r q bs i) := by
  have hj := hs
  rw [shape_join] at hj
  have h1 : NoSp (Lib.itoa (r : Int)) := itoa_nosp ⟨r, by omega⟩
  have h2 : ∀ p ∈ Lib.itoa (q : Int) :: bs.map hexL, NoSp p := fun p hp => by
    rcases List.mem_cons.1 hp with rfl | hp
    · exact itoa_nosp ⟨q, by omega⟩
    · obtain ⟨x, hx, rfl⟩ := List.mem_map.1 hp
      exact hexL_sp x (hb x hx)
  have hlen := join_len (Lib.itoa (q : Int) :: bs.map hexL) (Lib.itoa (r : Int))
  rw [← hj, size_list] at hlen
  have hll : (Lib.itoa (q : Int) :: bs.map hexL).length = bs.length + 1 := by simp
  rw [hll] at hlen
  have h3 := Lib.splitB_data ⟨#[32]⟩ 0 (min 148 (s.size + 1) - 1) s
  have h4 : Lib.splitK [32] 0 (min 148 (s.size + 1) - 1) s.data.toList = Lib.itoa (r : Int) :: Lib.itoa (q : Int) :: bs.map hexL := by
    rw [hj]
    exact split_join _ _ _ h1 h2 (by rw [hll]; omega)
  obtain ⟨P, hP⟩ : ∃ P, Lib.splitB ⟨#[32]⟩ 0 (min 148 (s.size + 1) - 1) s = P := ⟨_, rfl⟩
  rw [hP] at h3
  have h5 : P.map (·.data.toList) = Lib.itoa (r : Int) :: Lib.itoa (q : Int) :: bs.map hexL := h3.trans h4
  have h6 : P.length = bs.length + 2 := by
    have := congrArg List.length h5
    simpa using this
  have h8 : 2 ≤ s.size := by
    have h9 := congrArg List.length hj
    rw [size_list] at h9
    have h10 := itoa_pos ⟨r, by omega⟩
    simp only at h10
    unfold joinS at h9
    rw [List.length_append, List.length_cons] at h9
    omega
  refine ⟨P, hP, h6, ⟨by omega, by omega⟩, fun i hi => ?_⟩
  have hi' : i < P.length := by omega
  have h7 : (P.map (·.data.toList))[i]? = (Lib.itoa (r : Int) :: Lib.itoa (q : Int) :: bs.map hexL)[i]? := by rw [h5]
  rw [List.getElem?_map, List.getElem?_eq_getElem hi'] at h7
  rw [List.getElem?_eq_getElem hi']
  congr 1
  refine bytes_eq ?_
  rw [List.getD_eq_getElem?_getD, ← h7]
  rfl
end Go.Proofs.YtgccfdfbnhldbaaGreatDoor.Nb

namespace Go.Proofs.YtgccfdfbnhldbaaGreatDoor.Nb
open Go Go.RowKit Nx

theorem ownsRow_kept {w w' : World} {B c : Nat} {e : TypeId} {sz n : Nat} {v : Value} {xs : List Value} (h : w.ownsRow B e sz v n xs) (k : Kept w w' c) (hc : c < B) : w'.ownsRow B e sz v n xs := by
  refine ⟨h.1, ?_⟩
  rcases h.2 with hn | ⟨g, cap, cur, hv, h1, h2, h3⟩
  · exact .inl hn
  · exact .inr ⟨g, cap, cur, hv, h1, (k.block g (Array.getElem?_eq_some_iff.1 h2).1 (by omega)).trans h2, h3⟩
theorem ownsRow_le {w : World} {B B' : Nat} {e : TypeId} {sz n : Nat} {v : Value} {xs : List Value} (h : w.ownsRow B e sz v n xs) (hB : B' ≤ B) : w.ownsRow B' e sz v n xs := by
  refine ⟨h.1, ?_⟩
  rcases h.2 with hn | ⟨g, cap, cur, hv, h1, h2, h3⟩
  · exact .inl hn
  · exact .inr ⟨g, cap, cur, hv, by omega, h2, h3⟩
set_option maxRecDepth 100000 in
set_option maxHeartbeats 2000000 in
theorem ParseMat_join (r q : Nat) (bs : List Nat) (s : ByteArray) (m : Int) (w : World) (hT : Tab64 w) (hP : TabP w) (hm : w.cell? ⟨1, 0, none⟩ = some (.int .i64 m)) (h1w : 1 < w.heap.size) (hs : s.data.toList = listL (shapeL r q) bs) (hsz : s.size < 4294967281) (hr : r ≤ 12) (hq : q ≤ 12) (hl : bs.length = r * q) (hb : ∀ x ∈ bs, x < 18446744073709551616) :
    Calls Tryz.prog 21 #[.string s] w fun e w' => (∃ v, e = .returned (.tuple #[.agg #[.int .i64 (r : Int), .int .i64 (q : Int), v], .int .i64 0, .int .i64 0]) ∧ w'.ownsRow (w.heap.size + 4) 25 1 v bs.length ((bs.map cnN).map fun b => .float .f64 b)) ∧ Below w.heap.size w w' := by
  have hrq : r * q ≤ 12 * 12 := Nat.mul_le_mul hr hq
  obtain ⟨P, hSP, hPl, hNn, hPc⟩ := mat_pieces r q bs s hs hr hq (by omega) hb
  obtain ⟨N, hN⟩ : ∃ N, min 148 (s.size + 1) = N := ⟨_, rfl⟩
  have hA := (Below.refl w.heap.size w).alloc (Nat.le_refl _) (.cells #[.int .i64 0, .int .i64 0, .slice none 0 0] 47)
  have hz := DecAt.new w (.int .i64 0) (.int .i64 0) (.slice none 0 0) 47
  obtain ⟨W0, hW0⟩ : ∃ W0, w.alloc (.cells #[.int .i64 0, .int .i64 0, .slice none 0 0] 47) = W0 := ⟨_, rfl⟩
  have hs0 : W0.heap.size = w.heap.size + 1 := by rw [← hW0]; simp
  rw [hW0] at hA hz
  have HS := Lib.hid (Tryz.strings_SplitN s ⟨#[32]⟩ 148 m W0 hsz ((hA.cell (p := ⟨1, 0, none⟩) h1w).trans hm) (by decide) (by decide) (by decide))
  rw [hN] at HS hSP hNn
  have HNn := Lib.hid hNn
  rw [hSP, hPl] at HS
  have HZ := Lib.hid (And.intro hA (And.intro hz hs0))
  have HPc := Lib.hid hPc
  have HPl := Lib.hid hPl
  have HL := Lib.hid (And.intro hl (And.intro hrq hb))
  have HT := Lib.hid (And.intro hT hP)
  have HRQ := Lib.hid (And.intro hr hq)
  clear hT hP hs hsz hm h1w hN hNn hSP hA hz hs0 hPc hPl hl hb hrq hr hq
  go_enter Tryz.func21, Tryz.ntmps21
  go_wp2_with fail
  refine HS.out.mono ?_
  rintro e w2 ⟨rfl, hw2⟩
  obtain ⟨T, hT2⟩ : ∃ T : TypeId, w2 = W0.alloc (.cells (Lib.cellsOf P N) T) := ⟨_, hw2⟩
  clear hw2
  have HW2 : Hid (Below W0.heap.size W0 w2 ∧ w2.heap.size = W0.heap.size + 1 ∧ ∀ i, i < bs.length + 2 → w2.cell? ⟨W0.heap.size, i, none⟩ = some (.string (pieceOf r q bs i))) := Lib.hid (by
    rw [hT2]
    refine ⟨(Below.refl _ _).alloc (Nat.le_refl _) _, by simp, fun i hi => ?_⟩
    have h1 := HPc.out i hi
    have hi' : i < P.length := by have := HPl.out; omega
    rw [List.getElem?_eq_getElem hi'] at h1
    have h2 := cellsOf_at (P := P) (N := N) hi'
    rw [Option.some.inj h1] at h2
    simp [go_sem, h2])
  clear hT2
  go_wp2_with fail
  have e0 := HZ.out.2.2
  have e2 : w2.heap.size = w.heap.size + 2 := by have := HW2.out.2.1; omega
  have e3 : w2.heap.size + 1 = w.heap.size + 3 := by omega
  rw [e3, e2, e0]
  obtain ⟨W3, hW3⟩ : ∃ W3, (w2.alloc (.cells #[.int .i64 0, .int .i64 0, .slice none 0 0] 47)).alloc (.cells #[.pointer (some ⟨w.heap.size + 2, 0, none⟩), .pointer (some ⟨w.heap.size + 2, 1, none⟩)] 114) = W3 := ⟨_, rfl⟩
  have H3 : Hid (PMat w W3 r q bs (.int .i64 0) (.int .i64 0) ∧ W3.heap.size = w.heap.size + 4) := Lib.hid (by
    have k1 : Below w2.heap.size w2 (w2.alloc (.cells #[.int .i64 0, .int .i64 0, .slice none 0 0] 47)) := (Below.refl _ _).alloc (Nat.le_refl _) _
    have k2 : Below (w2.alloc (.cells #[.int .i64 0, .int .i64 0, .slice none 0 0] 47)).heap.size (w2.alloc (.cells #[.int .i64 0, .int .i64 0, .slice none 0 0] 47)) W3 := by rw [← hW3]; exact (Below.refl _ _).alloc (Nat.le_refl _) _
    have k3 := back_of' k1 k2
    have k4 := back_of' HW2.out.1 k3
    have d := DecAt.new w2 (.int .i64 0) (.int .i64 0) (.slice none 0 0) 47
    rw [e2] at d
    have hsz : W3.heap.size = w.heap.size + 4 := by rw [← hW3]; simp; omega
    refine ⟨⟨back_of' HZ.out.1 k4, HZ.out.2.1.kept (c := W0.heap.size) (Kept.of_below k4) (by omega), d.kept (c := (w2.alloc (.cells #[.int .i64 0, .int .i64 0, .slice none 0 0] 47)).heap.size) (Kept.of_below k2) (by simp; omega), ⟨?_, ?_, by omega⟩, fun i hi => ?_⟩, hsz⟩
    · rw [← hW3, show w.heap.size + 3 = (w2.alloc (.cells #[.int .i64 0, .int .i64 0, .slice none 0 0] 47)).heap.size by simp; omega]
      simp [go_sem]
    · rw [← hW3, show w.heap.size + 3 = (w2.alloc (.cells #[.int .i64 0, .int .i64 0, .slice none 0 0] 47)).heap.size by simp; omega]
      simp [go_sem]
    · have h1 := HW2.out.2.2 i hi
      rw [e0] at h1
      exact (k3.cell (p := ⟨w.heap.size + 1, i, none⟩) (by show w.heap.size + 1 < w2.heap.size; omega)).trans h1)
  rw [hW3]
  clear hW3 e3 e2 e0 HW2 HZ HS hW0 HPc HPl
  go_loopw [21] (fun iv wr => (iv = .int .i64 0 ∧ Hid (PMat w wr r q bs (.int .i64 0) (.int .i64 0) ∧ w.heap.size + 4 ≤ wr.heap.size)) ∨ (iv = .int .i64 1 ∧ Hid (PMat w wr r q bs (.int .i64 (r : Int)) (.int .i64 0) ∧ w.heap.size + 4 ≤ wr.heap.size)) ∨ (iv = .int .i64 2 ∧ Hid (PMat w wr r q bs (.int .i64 (r : Int)) (.int .i64 (q : Int)) ∧ w.heap.size + 4 ≤ wr.heap.size))) (fun iv _ => (3 - intOf iv).toNat)
  case atStart => exact .inl ⟨rfl, Lib.hid ⟨H3.out.1, by have := H3.out.2; omega⟩⟩
  case round =>
    clear H3
    rcases hrel with ⟨rfl, hh⟩ | ⟨rfl, hh⟩ | ⟨rfl, hh⟩
    · obtain ⟨p0, p1, p2⟩ := hh.out.1.p
      have hc := hh.out.1.c 0 (by omega)
      obtain ⟨S, hS⟩ : ∃ S, pieceOf r q bs 0 = S := ⟨_, rfl⟩
      rw [hS] at hc
      have HSz := Lib.hid (size_any r S wr hS.symm HRQ.out.1 (HT.out.2.below hh.out.1.b HT.out.2.2))
      have hlt : (0 : Int) < ((bs.length + 2 : Nat) : Int) := by omega
      clear hS
      go_wp2_with fail
      refine HSz.out.mono ?_
      rintro e w4 ⟨rfl, b4⟩
      have H4 := Lib.hid (And.intro (hh.out.1.below b4) (Nat.le_trans hh.out.2 b4.size))
      obtain ⟨-, d0, d1, d2, q0, q1, q2⟩ := id H4.out.1.m
      clear b4 hh p0 p1 p2 hc HSz
      go_wp2_with fail
      go_roundw
      case rel => exact .inr (.inl ⟨rfl, Lib.hid ⟨H4.out.1.set0 _, by simpa [go_sem] using H4.out.2⟩⟩)
      case measure => simp [intOf]
    · obtain ⟨p0, p1, p2⟩ := hh.out.1.p
      have hc := hh.out.1.c 1 (by omega)
      obtain ⟨S, hS⟩ : ∃ S, pieceOf r q bs 1 = S := ⟨_, rfl⟩
      rw [hS] at hc
      have HSz := Lib.hid (size_any q S wr hS.symm HRQ.out.2 (HT.out.2.below hh.out.1.b HT.out.2.2))
      have hlt : (1 : Int) < ((bs.length + 2 : Nat) : Int) := by omega
      clear hS
      go_wp2_with fail
      refine HSz.out.mono ?_
      rintro e w4 ⟨rfl, b4⟩
      have H4 := Lib.hid (And.intro (hh.out.1.below b4) (Nat.le_trans hh.out.2 b4.size))
      obtain ⟨-, d0, d1, d2, q0, q1, q2⟩ := id H4.out.1.m
      clear b4 hh p0 p1 p2 hc HSz
      go_wp2_with fail
      go_roundw
      case rel => exact .inr (.inr ⟨rfl, Lib.hid ⟨H4.out.1.set1 _, by simpa [go_sem] using H4.out.2⟩⟩)
      case measure => simp [intOf]
    · obtain ⟨-, d0, d1, d2, q0, q1, q2⟩ := id hh.out.1.m
      obtain ⟨-, z0, z1, z2, y0, y1, y2⟩ := id hh.out.1.z
      have hmul : wrap64 ((r : Int) * (q : Int)) = (bs.length : Int) := by
        have h1 := HL.out.1
        have h2 := HL.out.2.1
        rw [← Int.natCast_mul, ← h1]
        unfold wrap64
        omega
      have HN := Lib.hid (numbers_any (some ⟨w.heap.size + 1, 2, none⟩) bs.length (N - 2) bs wr (HT.out.1.below hh.out.1.b) (HT.out.2.below hh.out.1.b HT.out.2.2) rfl HL.out.2.2 (fun i hi => ⟨w.heap.size + 1, 2, rfl, by have := hh.out.2; omega, by
        have h1 := hh.out.1.c (2 + i) (by omega)
        rw [h1]
        have hi' : i < bs.length := hi
        unfold pieceOf
        rw [Nat.add_comm 2 i]
        simp [List.getD_eq_getElem?_getD, List.getElem?_eq_getElem hi']⟩) (by have := HL.out.1; have := HL.out.2.1; omega))
      have hw2 : wrap64 ((bs.length : Int) + 2) = (bs.length : Int) + 2 := by have := HL.out.1; have := HL.out.2.1; unfold wrap64; omega
      have hcst : ((bs.length + 2 : Nat) : Int) = (bs.length : Int) + 2 := by omega
      have hN3 : ¬ N = 2 := by have := HNn.out; omega
      have hN4 : bs.length + 2 ≤ N := HNn.out.2
      go_wp2_with fail
      refine HN.out.mono ?_
      rintro e w5 ⟨⟨v, rfl, hv⟩, b5⟩
      obtain ⟨A5, c5, rfl, -, -⟩ := own_fl hv (by simp)
      have H5 := Lib.hid (And.intro (hh.out.1.below b5) (And.intro hv hh.out.2))
      clear d0 d1 d2 q0 q1 q2 z0 z1 z2 y0 y1 y2 hv b5 hh HN
      obtain ⟨-, d0, d1, d2, q0, q1, q2⟩ := id H5.out.1.m
      obtain ⟨-, z0, z1, z2, y0, y1, y2⟩ := id H5.out.1.z
      go_wp2_with fail
      refine bodyPost_ret (by simp [results, Tryz.results21, go_sem, z0, z1, z2]; try rfl) rfl ⟨⟨_, rfl, ?_⟩, ?_⟩
      · refine ownsRow_kept (c := w.heap.size) (ownsRow_kept (c := w.heap.size + 2) (ownsRow_le H5.out.2.1 H5.out.2.2) ((Kept.refl _ _).setCell _) (by omega)) ((((Kept.refl _ _).setCell _).setCell _).setCell _) (by omega)
      · exact (((H5.out.1.b.setCell (p := ⟨w.heap.size + 2, 2, none⟩) (by show w.heap.size ≤ w.heap.size + 2; omega) _).setCell (p := ⟨w.heap.size, 0, none⟩) (Nat.le_refl _) _).setCell (p := ⟨w.heap.size, 1, none⟩) (Nat.le_refl _) _).setCell (p := ⟨w.heap.size, 2, none⟩) (Nat.le_refl _) _
end Go.Proofs.YtgccfdfbnhldbaaGreatDoor.Nb

namespace Go.Proofs.YtgccfdfbnhldbaaGreatDoor.Nb
open Go Go.RowKit Nx

set_option maxRecDepth 8000 in
theorem ParseList_nil (w : World) : Calls Tryz.prog 18 #[.string ⟨#[]⟩] w fun e w' => e = .returned (.tuple #[.slice none 0 0, .int .i64 0, .int .i64 0]) ∧ w' = w := by
  go_enter Tryz.func18, Tryz.ntmps18
  go_wp2_with fail
  go_ret3
  exact ⟨rfl, rfl⟩
theorem ParseList_any (bs : List Nat) (s : ByteArray) (m : Int) (w : World) (hT : Tab64 w) (hP : TabP w) (hm : w.cell? ⟨1, 0, none⟩ = some (.int .i64 m)) (hs : s = ⟨(listL [] bs).toArray⟩) (hsz : s.size < 4294967281) (hl : bs.length ≤ 4096) (hb : ∀ x ∈ bs, x < 18446744073709551616) :
    Calls Tryz.prog 18 #[.string s] w fun e w' => (∃ A c, e = .returned (.tuple #[.slice A bs.length c, .int .i64 0, .int .i64 0]) ∧ FlAt w' A bs.length (bs.map cnN)) ∧ Below w.heap.size w w' := by
  cases bs with
  | nil =>
    subst hs
    refine (ParseList_nil w).mono ?_
    rintro e w' ⟨rfl, rfl⟩
    exact ⟨⟨none, 0, rfl, rfl, .inl ⟨rfl, rfl⟩⟩, Below.refl _ _⟩
  | cons f bs =>
    refine (ParseList_join f bs s m w hT hP hm (by rw [hs]) hsz (by rw [List.length_cons] at hl; omega) hb).mono ?_
    rintro e w' ⟨⟨v, rfl, hv⟩, hw⟩
    obtain ⟨A, c, rfl, hfl, -⟩ := own_fl hv (by simp)
    exact ⟨⟨A, c, rfl, hfl⟩, hw⟩
/-- a list's text is of modest length -/
theorem listL_len : ∀ (bs : List Nat) (acc : List UInt8), (∀ x ∈ bs, x < 18446744073709551616) → (listL acc bs).length ≤ acc.length + 41 * bs.length
  | [], acc, _ => by simp [listL]
  | f :: bs, acc, h => by
    have h1 := putL_len acc f (h f List.mem_cons_self)
    have h2 := listL_len bs (putL acc f) (fun x hx => h x (List.mem_cons_of_mem _ hx))
    have h3 : listL acc (f :: bs) = listL (putL acc f) bs := rfl
    rw [h3, List.length_cons]
    omega
end Go.Proofs.YtgccfdfbnhldbaaGreatDoor.Nb

namespace Go.Proofs.YtgccfdfbnhldbaaGreatDoor.Nb
open Go Go.RowKit

structure FewG32 (w W : World) (x xv x0 cu u z3 p q r s P Q L : Nat) : Prop where
  b : Below w.heap.size w W
  rx : RatL W x false p q L
  cx : W.cell? ⟨xv, 0, none⟩ = some (.float .f32 x0) ∧ xv < w.heap.size
  ca : W.cell? ⟨w.heap.size, 0, none⟩ = some (.func (.func 52) #[] #[.pointer (some ⟨xv, 0, none⟩)]) ∧ w.heap.size < W.heap.size
  cc : W.cell? ⟨cu, 0, none⟩ = some (.pointer (some ⟨u, 0, none⟩)) ∧ cu < W.heap.size
  ru : RatL W u false r s L
  rz : RatL W z3 false P Q (L + L)
theorem FewG32.below {w W W' : World} {x xv x0 cu u z3 p q r s P Q L : Nat} (h : FewG32 w W x xv x0 cu u z3 p q r s P Q L) (k : Below W.heap.size W W') : FewG32 w W' x xv x0 cu u z3 p q r s P Q L :=
  ⟨back_of' h.b k, h.rx.below k (Nat.le_refl _), ⟨(k.cell (p := ⟨xv, 0, none⟩) (Nat.lt_of_lt_of_le h.cx.2 h.b.size)).trans h.cx.1, h.cx.2⟩, ⟨(k.cell (p := ⟨w.heap.size, 0, none⟩) h.ca.2).trans h.ca.1, Nat.lt_of_lt_of_le h.ca.2 k.size⟩, ⟨(k.cell (p := ⟨cu, 0, none⟩) h.cc.2).trans h.cc.1, Nat.lt_of_lt_of_le h.cc.2 k.size⟩, h.ru.below k (Nat.le_refl _), h.rz.below k (Nat.le_refl _)⟩

def NoneAt32 (p q X : Nat) (E : Int) (n : Nat) : Prop := ¬ Hits32 (lowK p q (E - n + 1)) (E - n + 1) X ∧ ¬ Hits32 (lowK p q (E - n + 1) + 1) (E - n + 1) X
/-- a digit string's number by the unit, as the program has it -/
theorem hits_mul32 {d r s : Nat} {K : Int} {X : Nat} (hr : 10 ^ K.toNat = r) (hs : 10 ^ (-K).toNat = s) (hs0 : 0 < s) : Rnd 24 149 (d / Nat.gcd d s * (r / Nat.gcd r 1)) (1 / Nat.gcd r 1 * (s / Nat.gcd d s)) X ↔ Hits32 d K X := by
  unfold Hits32
  rw [hr, hs]
  have h := @mul_law d r s hs0
  exact rnd_same h.2.1 hs0 h.1
theorem len_wrap32 {d n : Nat} {E : Int} (hd : d < 18446744073709551616) (h1 : -400 ≤ E) (h2 : E ≤ 400) (hn : n ≤ 9) : wrap64 (wrap64 (E + ((revDig d).length : Int)) - (n : Int)) = E + ((revDig d).length : Int) - (n : Int) := by
  have := revDig_len hd
  unfold wrap64
  omega
/-- what fewest finds -/
structure FewSays32 (p q X : Nat) (E : Int) (n d : Nat) : Prop where
  dec : Dec p q E
  n0 : 1 ≤ n ∧ n ≤ 9
  d0 : d = lowK p q (E - n + 1) ∨ d = lowK p q (E - n + 1) + 1
  hit : Hits32 d (E - n + 1) X
  least : ∀ m, 1 ≤ m → m < n → NoneAt32 p q X E m

set_option maxRecDepth 8000 in
set_option maxHeartbeats 8000000 in
theorem fewest32_any (x xv x0 x1 p q L X : Nat) (w : World) (hx : RatL w x false p q L) (hv : w.cell? ⟨xv, 0, none⟩ = some (.float .f32 x0)) (hxv : xv < w.heap.size)
    (hcv : floatToFloatBits .f32 x0 .f64 = some x1)
    (HA : Hid (∀ W, Calls Tryz.prog 40 #[.float .f64 x1] W fun e w' => e = .returned (.float .f64 (wideN X)) ∧ w' = W)) (hX0 : 0 < X) (hX : X < 2139095040)
    (hp : 0 < p) (hlo : q ≤ p * 10 ^ 400) (hhi : p < q * 10 ^ 400) (hval : p * 2 ^ 149 = amt32 X * q) (hL : 2100 ≤ L) (hL2 : L ≤ 20000) :
    Calls Tryz.prog 37 #[.pointer (some ⟨x, 0, none⟩), .func (.func 52) #[] #[.pointer (some ⟨xv, 0, none⟩)]] w fun e w' => ∃ (E : Int) (n d : Nat), FewSays32 p q X E n d ∧ e = .returned (.tuple #[.string ⟨(revDig d).reverse.toArray⟩, .int .i64 (E + (revDig d).length - n)]) ∧ Below w.heap.size w w' := by
  have hmf : ∀ (fn : Fn) (first cap : Array Value) (w : World), (Instr.makeFunc fn first cap).run Tryz.prog w = .ok (.func fn first cap) w := fun _ _ _ _ => rfl
  have hA := (Below.refl w.heap.size w).alloc (Nat.le_refl _) (.cells #[.func (.func 52) #[] #[.pointer (some ⟨xv, 0, none⟩)]] 85)
  have hca : (w.alloc (.cells #[.func (.func 52) #[] #[.pointer (some ⟨xv, 0, none⟩)]] 85)).cell? ⟨w.heap.size, 0, none⟩ = some (.func (.func 52) #[] #[.pointer (some ⟨xv, 0, none⟩)]) := by simp [go_sem]
  have hcs : w.heap.size < (w.alloc (.cells #[.func (.func 52) #[] #[.pointer (some ⟨xv, 0, none⟩)]] 85)).heap.size := by simp
  have HD := Lib.hid (decade_any x p q L 400 _ (hx.below hA (Nat.le_refl _)) hp hlo hhi (by omega) hL (by omega))
  have hq : 0 < q := hx.2.2
  have H0 := Lib.hid (And.intro hA (And.intro hca hcs))
  have HX := Lib.hid (And.intro hx hv)
  have HV := Lib.hid (And.intro hval (And.intro hp (And.intro hq hX0)))
  clear hA hca hcs hx hv hlo hhi hval hp hq hX0
  go_enter Tryz.func37, Tryz.ntmps37
  go_wp2_with fail
  refine HD.out.mono ?_
  rintro e w1 ⟨E, rfl, hdec, hE1, hE2, b1⟩
  have H1 := Lib.hid (And.intro (H0.out.1.trans (b1.mono H0.out.1.size)) (And.intro ((b1.cell (p := ⟨w.heap.size, 0, none⟩) H0.out.2.2).trans H0.out.2.1) (Nat.lt_of_lt_of_le H0.out.2.2 b1.size)))
  have HE := Lib.hid hdec
  clear b1 H0 HD hdec
  go_wp2_with fail
  go_loopw [7] (fun v wr => ∃ n : Nat, v = .int .i64 n ∧ 1 ≤ n ∧ n ≤ 9 ∧ Hid ((∀ m, 1 ≤ m → m < n → NoneAt32 p q X E m) ∧ Below w.heap.size w wr ∧ wr.cell? ⟨w.heap.size, 0, none⟩ = some (.func (.func 52) #[] #[.pointer (some ⟨xv, 0, none⟩)]) ∧ w.heap.size < wr.heap.size)) (fun v _ => (10 - intOf v).toNat)
  case atStart => exact ⟨1, rfl, by omega, by omega, Lib.hid ⟨fun m _ _ => by omega, H1.out⟩⟩
  case round =>
    clear H1
    obtain ⟨n, rfl, n1, n17, H1⟩ := hrel
    obtain ⟨K, hK⟩ : ∃ K : Int, E - n + 1 = K := ⟨_, rfl⟩
    go_wp2_with fail
    refine (ten_pow K L wr (by omega) (by omega) (by omega) (by omega)).mono ?_
    rintro e w2 ⟨u, rfl, hu0, r2, s2, c2⟩
    obtain ⟨r, hr⟩ : ∃ r, 10 ^ K.toNat = r := ⟨_, rfl⟩
    obtain ⟨s, hs⟩ : ∃ s, 10 ^ (-K).toNat = s := ⟨_, rfl⟩
    have hr0 : 0 < r := hr ▸ Nat.pow_pos (by omega)
    have hs0 : 0 < s := hs ▸ Nat.pow_pos (by omega)
    rw [hr, hs] at r2
    obtain ⟨P, hP⟩ : ∃ P, p / Nat.gcd p r * (s / Nat.gcd s q) = P := ⟨_, rfl⟩
    obtain ⟨Q, hQ⟩ : ∃ Q, q / Nat.gcd s q * (r / Nat.gcd p r) = Q := ⟨_, rfl⟩
    have hlaw := quo_law HV.out.2.2.1 hr0 hP hQ
    have hB := (back_of' H1.out.2.1 c2)
    have hb2 := (Below.refl w2.heap.size w2).alloc (Nat.le_refl _) (.cells #[.pointer (some ⟨u, 0, none⟩)] 76)
    have hb3 := hb2.alloc hb2.size (.cells #[.bool false, .slice none 0 0, .bool false, .slice none 0 0] 136)
    have hs3 : RSlot ((w2.alloc (.cells #[.pointer (some ⟨u, 0, none⟩)] 76)).alloc (.cells #[.bool false, .slice none 0 0, .bool false, .slice none 0 0] 136)) (w2.heap.size + 1) := by
      have := RSlot.new (w2.alloc (.cells #[.pointer (some ⟨u, 0, none⟩)] 76)) 136
      simpa using this
    have hc3 : ((w2.alloc (.cells #[.pointer (some ⟨u, 0, none⟩)] 76)).alloc (.cells #[.bool false, .slice none 0 0, .bool false, .slice none 0 0] 136)).cell? ⟨w2.heap.size, 0, none⟩ = some (.pointer (some ⟨u, 0, none⟩)) := by simp [go_sem]
    have hxl := HX.out.1.lt
    have hrl := r2.lt
    have HQ := Lib.hid (ratquoL (w2.heap.size + 1) x u p q r s P Q L (L + L) _ hs3 (HX.out.1.below (back_of' hB hb3) (Nat.le_refl _)) (r2.below hb3 (Nat.le_refl _)) hr0 hP hQ (words_mul hlaw.2.2.1 hxl.1 hrl.2) (words_mul hlaw.2.2.2 hxl.2 hrl.1) hlaw.2.1 (by omega) (by omega))
    have HL := Lib.hid (And.intro hr (And.intro hs (And.intro hr0 (And.intro hs0 (And.intro hlaw.1 hlaw.2.1)))))
    have HC0 := Lib.hid (And.intro hB (And.intro hb3 (And.intro hc3 (And.intro r2 (And.intro ((c2.cell (p := ⟨w.heap.size, 0, none⟩) H1.out.2.2.2).trans H1.out.2.2.1) (Nat.lt_of_lt_of_le H1.out.2.2.2 c2.size))))))
    have HM := Lib.hid H1.out.1
    clear r2 s2 c2 hb2 hb3 hs3 hc3 hB H1 hr hs hr0 hs0 hlaw hP hQ hxl hrl
    go_wp2_with fail
    refine HQ.out.mono ?_
    rintro e w3 ⟨rfl, r3, s3, b3⟩
    have HC : Hid (FewG32 w w3 x xv x0 w2.heap.size u (w2.heap.size + 1) p q r s P Q L) := Lib.hid (by
      obtain ⟨g1, g2, g3, g4, g5, g6⟩ := HC0.out
      have k := g2.trans (b3.mono (Nat.le_succ _))
      have kk := back_of' g1 k
      exact ⟨kk, HX.out.1.below kk (Nat.le_refl _), ⟨(kk.cell (p := ⟨xv, 0, none⟩) hxv).trans HX.out.2, hxv⟩, ⟨(k.cell (p := ⟨w.heap.size, 0, none⟩) g6).trans g5, Nat.lt_of_lt_of_le g6 k.size⟩, ⟨(b3.cell (p := ⟨w2.heap.size, 0, none⟩) (Nat.lt_succ_self _)).trans g3, Nat.lt_of_lt_of_le (by simp; omega) b3.size⟩, g4.below k (Nat.le_refl _), r3⟩)
    clear r3 s3 b3 HC0 HQ
    go_wp2_with fail
    have hA4 := (Below.refl w3.heap.size w3).alloc (Nat.le_refl _) (.cells #[.bool false, .slice none 0 0] 90)
    have HN4 := Lib.hid (num_anyL (w2.heap.size + 1) _ _ _ _ (HC.out.below hA4).rz (by omega))
    have HA4 := Lib.hid (And.intro hA4 (ISlot.new w3 90))
    clear hA4
    refine HN4.out.mono ?_
    rintro e w4 ⟨b4, rfl, hb4, i4, s4, c4⟩
    have H4 := Lib.hid (And.intro (back_of' HA4.out.1 c4) (And.intro i4 (HA4.out.2.below c4 (Nat.le_refl _))))
    clear i4 s4 c4 HN4 HA4
    go_wp2_with fail
    refine (denom_anyL (w2.heap.size + 1) _ _ _ w4 (HC.out.below H4.out.1).rz (by omega)).mono ?_
    rintro e w5 ⟨b5, rfl, hb5, i5, s5, c5⟩
    have H5 := Lib.hid (And.intro (back_of' H4.out.1 c5) (And.intro (H4.out.2.1.below c5 (Nat.le_refl _)) (And.intro (H4.out.2.2.below c5 (Nat.le_refl _)) i5)))
    clear i5 s5 c5 H4
    go_wp2_with fail
    refine (quo_anyL w3.heap.size 0 b4 0 P b5 0 Q (L + L) w5 H5.out.2.2.1 H5.out.2.1 H5.out.2.2.2 HL.out.2.2.2.2.2 (by omega) (by omega)).mono ?_
    rintro e w6 ⟨rfl, i6, s6, b6⟩
    obtain ⟨low, hlow⟩ : ∃ low, P / Q = low := ⟨_, rfl⟩
    have hlw : low = lowK p q K := by rw [← hlow]; exact low_of HL.out.1 HL.out.2.1 HL.out.2.2.1 HV.out.2.2.1 HL.out.2.2.2.2.2 HL.out.2.2.2.2.1
    have hin := low_in HV.out.2.2.1 HE.out hK n1
    rw [← hlw] at hin
    have h17 : 10 ^ n ≤ 10 ^ 9 := Nat.pow_le_pow_right (by omega) n17
    have hlow1 : 1 ≤ low := Nat.le_trans (Nat.pow_pos (by omega)) hin.1
    have hlow2 : low < 100000000000000000 := Nat.lt_of_lt_of_le hin.2 (Nat.le_trans h17 (by decide))
    rw [hlow] at i6
    have HLW := Lib.hid hlw
    have HC := Lib.hid (HC.out.below (H5.out.1.trans b6))
    have HLo : Hid (IntN w6 w3.heap.size 0 false low) := Lib.hid (i6.less (L' := 1) (by omega))
    have hl6 : w3.heap.size < w6.heap.size := i6.1
    have hlq : low * Q ≤ P := by rw [← hlow]; exact Nat.div_mul_le_self _ _
    clear i6 s6 b6 H5 hin h17 hlw hlow
    go_wp2_with fail
    have hA7 := (Below.refl w6.heap.size w6).alloc (Nat.le_refl _) (.cells #[.bool false, .slice none 0 0] 90)
    have HA7 := Lib.hid (And.intro hA7 (ISlot.new w6 90))
    clear hA7
    refine (newInt_any 1 _ (by omega)).mono ?_
    rintro e w7 ⟨b7, rfl, hb7, i7, s7, c7⟩
    have H7 := Lib.hid (And.intro (back_of' HA7.out.1 c7) (And.intro i7 (HA7.out.2.below c7 (Nat.le_refl _))))
    clear i7 s7 c7 HA7
    go_wp2_with fail
    refine (add_pos w6.heap.size 0 w3.heap.size 0 low b7 0 1 w7 H7.out.2.2 (HLo.out.below H7.out.1 (Nat.le_refl _)) H7.out.2.1 (by omega)).mono ?_
    rintro e w8 ⟨rfl, i8, s8, b8⟩
    have HC := Lib.hid (HC.out.below (H7.out.1.trans b8))
    have HLo := Lib.hid (HLo.out.below (H7.out.1.trans b8) (Nat.le_refl _))
    have HH : Hid (IntN w8 w6.heap.size 0 false (low + 1)) := Lib.hid i8
    clear i8 s8 b8 H7
    go_wp2_with fail
    have HRd := Lib.hid (fun (d : Nat) (hd : d < 1000000000000000000) (W : World) (hW : Below w8.heap.size w8 W) (b : Nat) (hb : IntN W b 0 false d) (h0 : 0 < d) =>
      read32_any' b d r s _ _ w.heap.size w2.heap.size u xv L (L + L) (Hits32 d K X) W hb h0 (HC.out.below hW).ca.1 (HC.out.below hW).ca.2 (HC.out.below hW).cc.1 (HC.out.below hW).cc.2 (HC.out.below hW).ru rfl rfl
        (words_mul (mul_law HL.out.2.2.2.1).2.2.1 (Nat.lt_of_lt_of_le hd (words_big (by omega))) HC.out.ru.lt.1)
        (Nat.lt_of_le_of_lt (mul_law (n := d) (r := r) HL.out.2.2.2.1).2.2.2 (Nat.lt_of_lt_of_le HC.out.ru.lt.2 (Nat.pow_le_pow_right (by omega) (by omega))))
        (mul_law HL.out.2.2.2.1).2.1 (by omega)
        (Lib.hid (fun z W' hW' hz => (again32_any z xv x0 x1 X _ _ (L + L) W' hz (by omega) (by omega) ((HC.out.below hW).below hW').cx.1 (Nat.lt_of_lt_of_le HC.out.cx.2 ((HC.out.below hW).below hW').b.size) hcv HA (mul_law HL.out.2.2.2.1).2.1 hX).mono (fun e w' h => by
          obtain ⟨rb, h1, h2, h3⟩ := h
          exact ⟨rb, h1, h2.trans (hits_mul32 HL.out.1 HL.out.2.1 HL.out.2.2.2.1), h3⟩))))
    refine (HRd.out low (by omega) w8 (Below.refl _ _) w3.heap.size HLo.out (by omega)).mono ?_
    rintro e w9 ⟨ra, rfl, hra, b9⟩
    have hb9 := b9
    have HC9 := Lib.hid (HC.out.below b9)
    have HLo := Lib.hid (HLo.out.below b9 (Nat.le_refl _))
    have HH := Lib.hid (HH.out.below b9 (Nat.le_refl _))
    clear b9
    go_wp2_with fail
    refine (HRd.out (low + 1) (by omega) w9 hb9 w6.heap.size HH.out (by omega)).mono ?_
    rintro e w10 ⟨rb, rfl, hrb, b10⟩
    have HC := Lib.hid (HC9.out.below b10)
    have HLo := Lib.hid (HLo.out.below b10 (Nat.le_refl _))
    have HH := Lib.hid (HH.out.below b10 (Nat.le_refl _))
    have hl10 : w3.heap.size < w10.heap.size := HLo.out.1
    clear b10 hb9 HRd HC9
    have hnx : ra = false → rb = false → n < 9 ∧ NoneAt32 p q X E n := by
      intro h1 h2
      rw [h1] at hra
      rw [h2] at hrb
      have k1 : ¬ Hits32 low K X := fun h => by have := hra.2 h; simp at this
      have k2 : ¬ Hits32 (low + 1) K X := fun h => by have := hrb.2 h; simp at this
      refine ⟨?_, ?_⟩
      · rcases Nat.lt_or_ge n 9 with t | t
        · exact t
        · exfalso
          rcases hits_last32 (k := K) HV.out.2.2.1 HV.out.2.2.2 HV.out.1 HE.out.1 (by omega) HLW.out with t1 | t1
          · exact k1 t1
          · exact k2 t1
      · unfold NoneAt32
        rw [hK, ← HLW.out]
        exact ⟨k1, k2⟩
    have HNX := Lib.hid hnx
    have HRR := Lib.hid (And.intro hra hrb)
    clear hnx hra hrb
    have HLQ := Lib.hid hlq
    clear hlq
    cases ra
    · cases rb
      · have hfx := HNX.out rfl rfl
        have HFX := Lib.hid hfx
        clear hfx
        go_wp2_with fail
        obtain ⟨t1, t2⟩ := HFX.out
        refine ⟨⟨n + 1, by rfl, by omega, by omega, Lib.hid ⟨fun m m1 m2 => ?_, HC.out.b, HC.out.ca⟩⟩, by simp only [intOf]; omega⟩
        rcases Nat.lt_or_ge m n with t | t
        · exact HM.out m m1 t
        · obtain rfl : m = n := by omega
          exact t2
      · have hit : Hits32 (low + 1) K X := HRR.out.2.1 rfl
        have HIT := Lib.hid hit
        clear hit
        go_wp2_with fail
        have hA11 := ((Below.refl w10.heap.size w10).alloc (Nat.le_refl _) (.cells #[.bool false, .slice none 0 0, .bool false, .slice none 0 0] 136))
        have hA12 := hA11.alloc hA11.size (.cells #[.bool false, .slice none 0 0, .bool false, .slice none 0 0] 136)
        have hs56 : RSlot ((w10.alloc (.cells #[.bool false, .slice none 0 0, .bool false, .slice none 0 0] 136)).alloc (.cells #[.bool false, .slice none 0 0, .bool false, .slice none 0 0] 136)) (w10.heap.size + 1) := by
          have := RSlot.new (w10.alloc (.cells #[.bool false, .slice none 0 0, .bool false, .slice none 0 0] 136)) 136
          simpa using this
        have hs54 := (RSlot.new w10 136).below ((Below.refl _ _).alloc (Nat.le_refl _) (.cells #[.bool false, .slice none 0 0, .bool false, .slice none 0 0] 136)) (Nat.le_refl _)
        have HI := Lib.hid (setintLK (w10.heap.size + 1) w3.heap.size 0 low (L + L) _ hs56 ((HLo.out.any (by omega)).below hA12 (Nat.le_refl _)) (by omega) (by omega) (by omega))
        have HA11 := Lib.hid (And.intro hA12 hs54)
        clear hA11 hA12 hs56 hs54
        refine HI.out.mono ?_
        rintro e w11 ⟨⟨rfl, r11, s11, b11⟩, k11⟩
        have hb11 := HA11.out.1.trans (b11.mono (Nat.le_succ _))
        have HCx := Lib.hid (HC.out.below hb11)
        have HBx := Lib.hid hb11
        have H11 := Lib.hid (And.intro r11 (HA11.out.2.kept k11 (by omega)))
        clear r11 s11 b11 k11 hb11 HI HA11
        go_wp2_with fail
        refine (ratsub_anyL w10.heap.size (w2.heap.size + 1) (w10.heap.size + 1) P Q low 1 _ _ _ _ _ _ _ _ _ _ (L + L) (L + L + (L + L)) w11 H11.out.2 HCx.out.rz H11.out.1 (by omega) rfl rfl rfl rfl rfl (sub_le HLQ.out HL.out.2.2.2.2.2) rfl rfl rfl rfl rfl rfl (by omega) (sub_pos HL.out.2.2.2.2.2)).mono ?_
        rintro e w12 ⟨rfl, r12, s12, b12⟩
        have H12 := Lib.hid (And.intro r12 (HBx.out.trans b12))
        clear r12 s12 b12 HCx HBx H11
        go_wp2_with fail
        refine (newrat_any 1 2 w12 (by omega) (by omega) (by decide) (by omega)).mono ?_
        rintro e w13 ⟨b13, rfl, hb13, r13, s13, c13⟩
        have HCm := Lib.hid (ratcmp_anyL w10.heap.size b13 _ _ 1 2 _ _ _ w13 (H12.out.1.below c13 (Nat.le_refl _)) ⟨r13.1.any (by omega), r13.2.1.any (by omega), r13.2.2⟩ rfl rfl (by omega))
        have H13 := Lib.hid (H12.out.2.trans (c13.mono H12.out.2.size))
        clear r13 s13 c13 H12
        go_wp2_with fail
        refine HCm.out.mono ?_
        rintro e w14 ⟨rfl, b14⟩
        generalize cmpN _ _ = cc
        have hb14 := H13.out.trans (b14.mono H13.out.size)
        have H14 := Lib.hid (back_of' HC.out.b hb14)
        have HLo := Lib.hid (HLo.out.below hb14 (Nat.le_refl _))
        have HH := Lib.hid (HH.out.below hb14 (Nat.le_refl _))
        clear b14 H13 HCm HC hb14
        go_wp2_with fail
        refine (string_word w6.heap.size 0 (low + 1) _ w14 HH.out (by omega) rfl).mono ?_
        rintro e w15 ⟨rfl, b15⟩
        have H15 := Lib.hid (back_of' H14.out b15)
        clear b15 H14
        go_wp2_with fail
        go_ret2
        refine ⟨E, n, low + 1, ⟨HE.out, ⟨n1, n17⟩, .inr (by rw [hK, ← HLW.out]), by rw [hK]; exact HIT.out, HM.out⟩, ?_, H15.out⟩
        exact congrArg (fun z => Ending.returned (Value.tuple #[Value.string ⟨(revDig (low + 1)).reverse.toArray⟩, Value.int .i64 z])) (len_wrap32 (by omega) (by omega) (by omega) n17)
    · have hitl : Hits32 low K X := HRR.out.1.1 rfl
      have HITL := Lib.hid hitl
      clear hitl
      cases rb
      · have HIT := HITL
        go_wp2_with fail
        have hA11 := ((Below.refl w10.heap.size w10).alloc (Nat.le_refl _) (.cells #[.bool false, .slice none 0 0, .bool false, .slice none 0 0] 136))
        have hA12 := hA11.alloc hA11.size (.cells #[.bool false, .slice none 0 0, .bool false, .slice none 0 0] 136)
        have hs56 : RSlot ((w10.alloc (.cells #[.bool false, .slice none 0 0, .bool false, .slice none 0 0] 136)).alloc (.cells #[.bool false, .slice none 0 0, .bool false, .slice none 0 0] 136)) (w10.heap.size + 1) := by
          have := RSlot.new (w10.alloc (.cells #[.bool false, .slice none 0 0, .bool false, .slice none 0 0] 136)) 136
          simpa using this
        have hs54 := (RSlot.new w10 136).below ((Below.refl _ _).alloc (Nat.le_refl _) (.cells #[.bool false, .slice none 0 0, .bool false, .slice none 0 0] 136)) (Nat.le_refl _)
        have HI := Lib.hid (setintLK (w10.heap.size + 1) w3.heap.size 0 low (L + L) _ hs56 ((HLo.out.any (by omega)).below hA12 (Nat.le_refl _)) (by omega) (by omega) (by omega))
        have HA11 := Lib.hid (And.intro hA12 hs54)
        clear hA11 hA12 hs56 hs54
        refine HI.out.mono ?_
        rintro e w11 ⟨⟨rfl, r11, s11, b11⟩, k11⟩
        have hb11 := HA11.out.1.trans (b11.mono (Nat.le_succ _))
        have HCx := Lib.hid (HC.out.below hb11)
        have HBx := Lib.hid hb11
        have H11 := Lib.hid (And.intro r11 (HA11.out.2.kept k11 (by omega)))
        clear r11 s11 b11 k11 hb11 HI HA11
        go_wp2_with fail
        refine (ratsub_anyL w10.heap.size (w2.heap.size + 1) (w10.heap.size + 1) P Q low 1 _ _ _ _ _ _ _ _ _ _ (L + L) (L + L + (L + L)) w11 H11.out.2 HCx.out.rz H11.out.1 (by omega) rfl rfl rfl rfl rfl (sub_le HLQ.out HL.out.2.2.2.2.2) rfl rfl rfl rfl rfl rfl (by omega) (sub_pos HL.out.2.2.2.2.2)).mono ?_
        rintro e w12 ⟨rfl, r12, s12, b12⟩
        have H12 := Lib.hid (And.intro r12 (HBx.out.trans b12))
        clear r12 s12 b12 HCx HBx H11
        go_wp2_with fail
        refine (newrat_any 1 2 w12 (by omega) (by omega) (by decide) (by omega)).mono ?_
        rintro e w13 ⟨b13, rfl, hb13, r13, s13, c13⟩
        have HCm := Lib.hid (ratcmp_anyL w10.heap.size b13 _ _ 1 2 _ _ _ w13 (H12.out.1.below c13 (Nat.le_refl _)) ⟨r13.1.any (by omega), r13.2.1.any (by omega), r13.2.2⟩ rfl rfl (by omega))
        have H13 := Lib.hid (H12.out.2.trans (c13.mono H12.out.2.size))
        clear r13 s13 c13 H12
        go_wp2_with fail
        refine HCm.out.mono ?_
        rintro e w14 ⟨rfl, b14⟩
        generalize cmpN _ _ = cc
        have hb14 := H13.out.trans (b14.mono H13.out.size)
        have H14 := Lib.hid (back_of' HC.out.b hb14)
        have HLo := Lib.hid (HLo.out.below hb14 (Nat.le_refl _))
        have HH := Lib.hid (HH.out.below hb14 (Nat.le_refl _))
        clear b14 H13 HCm HC hb14
        go_wp2_with fail
        refine (string_word w3.heap.size 0 low _ w14 HLo.out (by omega) rfl).mono ?_
        rintro e w15 ⟨rfl, b15⟩
        have H15 := Lib.hid (back_of' H14.out b15)
        clear b15 H14
        go_wp2_with fail
        go_ret2
        refine ⟨E, n, low, ⟨HE.out, ⟨n1, n17⟩, .inl (by rw [hK, ← HLW.out]), by rw [hK]; exact HIT.out, HM.out⟩, ?_, H15.out⟩
        exact congrArg (fun z => Ending.returned (Value.tuple #[Value.string ⟨(revDig low).reverse.toArray⟩, Value.int .i64 z])) (len_wrap32 (by omega) (by omega) (by omega) n17)
      · have hit : Hits32 (low + 1) K X := HRR.out.2.1 rfl
        have HIT := Lib.hid hit
        clear hit
        go_wp2_with fail
        have hA11 := ((Below.refl w10.heap.size w10).alloc (Nat.le_refl _) (.cells #[.bool false, .slice none 0 0, .bool false, .slice none 0 0] 136))
        have hA12 := hA11.alloc hA11.size (.cells #[.bool false, .slice none 0 0, .bool false, .slice none 0 0] 136)
        have hs56 : RSlot ((w10.alloc (.cells #[.bool false, .slice none 0 0, .bool false, .slice none 0 0] 136)).alloc (.cells #[.bool false, .slice none 0 0, .bool false, .slice none 0 0] 136)) (w10.heap.size + 1) := by
          have := RSlot.new (w10.alloc (.cells #[.bool false, .slice none 0 0, .bool false, .slice none 0 0] 136)) 136
          simpa using this
        have hs54 := (RSlot.new w10 136).below ((Below.refl _ _).alloc (Nat.le_refl _) (.cells #[.bool false, .slice none 0 0, .bool false, .slice none 0 0] 136)) (Nat.le_refl _)
        have HI := Lib.hid (setintLK (w10.heap.size + 1) w3.heap.size 0 low (L + L) _ hs56 ((HLo.out.any (by omega)).below hA12 (Nat.le_refl _)) (by omega) (by omega) (by omega))
        have HA11 := Lib.hid (And.intro hA12 hs54)
        clear hA11 hA12 hs56 hs54
        refine HI.out.mono ?_
        rintro e w11 ⟨⟨rfl, r11, s11, b11⟩, k11⟩
        have hb11 := HA11.out.1.trans (b11.mono (Nat.le_succ _))
        have HCx := Lib.hid (HC.out.below hb11)
        have HBx := Lib.hid hb11
        have H11 := Lib.hid (And.intro r11 (HA11.out.2.kept k11 (by omega)))
        clear r11 s11 b11 k11 hb11 HI HA11
        go_wp2_with fail
        refine (ratsub_anyL w10.heap.size (w2.heap.size + 1) (w10.heap.size + 1) P Q low 1 _ _ _ _ _ _ _ _ _ _ (L + L) (L + L + (L + L)) w11 H11.out.2 HCx.out.rz H11.out.1 (by omega) rfl rfl rfl rfl rfl (sub_le HLQ.out HL.out.2.2.2.2.2) rfl rfl rfl rfl rfl rfl (by omega) (sub_pos HL.out.2.2.2.2.2)).mono ?_
        rintro e w12 ⟨rfl, r12, s12, b12⟩
        have H12 := Lib.hid (And.intro r12 (HBx.out.trans b12))
        clear r12 s12 b12 HCx HBx H11
        go_wp2_with fail
        refine (newrat_any 1 2 w12 (by omega) (by omega) (by decide) (by omega)).mono ?_
        rintro e w13 ⟨b13, rfl, hb13, r13, s13, c13⟩
        have HCm := Lib.hid (ratcmp_anyL w10.heap.size b13 _ _ 1 2 _ _ _ w13 (H12.out.1.below c13 (Nat.le_refl _)) ⟨r13.1.any (by omega), r13.2.1.any (by omega), r13.2.2⟩ rfl rfl (by omega))
        have H13 := Lib.hid (H12.out.2.trans (c13.mono H12.out.2.size))
        clear r13 s13 c13 H12
        go_wp2_with fail
        refine HCm.out.mono ?_
        rintro e w14 ⟨rfl, b14⟩
        generalize cmpN _ _ = cc
        have hb14 := H13.out.trans (b14.mono H13.out.size)
        have H14 := Lib.hid (back_of' HC.out.b hb14)
        have HLo := Lib.hid (HLo.out.below hb14 (Nat.le_refl _))
        have HH := Lib.hid (HH.out.below hb14 (Nat.le_refl _))
        clear b14 H13 HCm HC hb14
        go_wp2_with fail
        · refine (bit0_word w3.heap.size 0 low w14 HLo.out (by omega)).mono ?_
          rintro e w15 ⟨rfl, hw⟩
          obtain rfl := hw.symm
          rcases Nat.mod_two_eq_zero_or_one low with hb | hb
          · rw [hb]
            go_wp2_with fail
            refine (string_word w3.heap.size 0 low _ w14 HLo.out (by omega) rfl).mono ?_
            rintro e w15 ⟨rfl, b15⟩
            have H15 := Lib.hid (back_of' H14.out b15)
            clear b15 H14
            go_wp2_with fail
            go_ret2
            refine ⟨E, n, low, ⟨HE.out, ⟨n1, n17⟩, .inl (by rw [hK, ← HLW.out]), by rw [hK]; exact HITL.out, HM.out⟩, ?_, H15.out⟩
            exact congrArg (fun z => Ending.returned (Value.tuple #[Value.string ⟨(revDig low).reverse.toArray⟩, Value.int .i64 z])) (len_wrap32 (by omega) (by omega) (by omega) n17)
          · rw [hb]
            go_wp2_with fail
            refine (string_word w6.heap.size 0 (low + 1) _ w14 HH.out (by omega) rfl).mono ?_
            rintro e w15 ⟨rfl, b15⟩
            have H15 := Lib.hid (back_of' H14.out b15)
            clear b15 H14
            go_wp2_with fail
            go_ret2
            refine ⟨E, n, low + 1, ⟨HE.out, ⟨n1, n17⟩, .inr (by rw [hK, ← HLW.out]), by rw [hK]; exact HIT.out, HM.out⟩, ?_, H15.out⟩
            exact congrArg (fun z => Ending.returned (Value.tuple #[Value.string ⟨(revDig (low + 1)).reverse.toArray⟩, Value.int .i64 z])) (len_wrap32 (by omega) (by omega) (by omega) n17)
        · refine (string_word w6.heap.size 0 (low + 1) _ w14 HH.out (by omega) rfl).mono ?_
          rintro e w15 ⟨rfl, b15⟩
          have H15 := Lib.hid (back_of' H14.out b15)
          clear b15 H14
          go_wp2_with fail
          go_ret2
          refine ⟨E, n, low + 1, ⟨HE.out, ⟨n1, n17⟩, .inr (by rw [hK, ← HLW.out]), by rw [hK]; exact HIT.out, HM.out⟩, ?_, H15.out⟩
          exact congrArg (fun z => Ending.returned (Value.tuple #[Value.string ⟨(revDig (low + 1)).reverse.toArray⟩, Value.int .i64 z])) (len_wrap32 (by omega) (by omega) (by omega) n17)
        · refine (string_word w3.heap.size 0 low _ w14 HLo.out (by omega) rfl).mono ?_
          rintro e w15 ⟨rfl, b15⟩
          have H15 := Lib.hid (back_of' H14.out b15)
          clear b15 H14
          go_wp2_with fail
          go_ret2
          refine ⟨E, n, low, ⟨HE.out, ⟨n1, n17⟩, .inl (by rw [hK, ← HLW.out]), by rw [hK]; exact HITL.out, HM.out⟩, ?_, H15.out⟩
          exact congrArg (fun z => Ending.returned (Value.tuple #[Value.string ⟨(revDig low).reverse.toArray⟩, Value.int .i64 z])) (len_wrap32 (by omega) (by omega) (by omega) n17)
end Go.Proofs.YtgccfdfbnhldbaaGreatDoor.Nb

namespace Go.Proofs.YtgccfdfbnhldbaaGreatDoor.Nb
open Nx

set_option exponentiation.threshold 4000 in
theorem parts_val32 {X t p q r s : Nat} (hX : X < 2139095040) (h : FinN32 X t) (hr : 2 ^ (oddX32 X).toNat = r) (hs : 2 ^ (-oddX32 X).toNat = s) (hv : p * s = oddM32 X * r * q) : p * 2 ^ 149 = amt32 X * q := by
  have hb : bigM32 X = mag32 X := by
    unfold bigM32 mag32
    by_cases c : X < 8388608
    · rw [if_pos (by omega), if_pos c]; omega
    · rw [if_neg (by omega), if_neg c]; omega
  have hx : bigX32 X = -149 + (plc32 X : Int) := by
    unfold bigX32 plc32
    by_cases c : X < 8388608
    · rw [if_pos (by omega)]; omega
    · rw [if_neg (by omega)]; omega
  have h1 := h.m0
  have h2 := h.xt
  rw [hb] at h1
  rw [hx] at h2
  have hs0 : 0 < s := hs ▸ Nat.two_pow_pos _
  have e1 : amt32 X = oddM32 X * 2 ^ (t + plc32 X) := by unfold amt32; rw [h1, Nat.mul_assoc, ← Nat.pow_add]
  have e2 : r * 2 ^ 149 = s * 2 ^ (t + plc32 X) := by
    rw [← hr, ← hs, ← Nat.pow_add, ← Nat.pow_add]
    congr 1
    omega
  refine Nat.eq_of_mul_eq_mul_right hs0 ?_
  rw [Nat.mul_right_comm, hv, e1]
  have e3 : oddM32 X * r * q * 2 ^ 149 = oddM32 X * q * (r * 2 ^ 149) := by ac_rfl
  rw [e3, e2]
  ac_rfl

set_option exponentiation.threshold 4000 in
theorem val_in32 {X p q : Nat} (hX : X < 2139095040) (h0 : 0 < X) (hq : 0 < q) (hv : p * 2 ^ 149 = amt32 X * q) : 0 < p ∧ q ≤ p * 10 ^ 400 ∧ p < q * 10 ^ 400 := by
  have ha : 1 ≤ amt32 X := by
    have := @amt_lt_iff32 0 X
    omega
  have hb : amt32 X < 2 ^ 277 := by
    have h1 : mag32 X < 2 ^ 24 := by unfold mag32; split <;> omega
    have h2 : plc32 X ≤ 253 := by unfold plc32; omega
    have h3 : 2 ^ plc32 X ≤ 2 ^ 253 := Nat.pow_le_pow_right (by omega) h2
    unfold amt32
    have h4 := Nat.mul_lt_mul_of_lt_of_le h1 h3 (Nat.two_pow_pos _)
    rwa [← Nat.pow_add] at h4
  have c1 : (2 : Nat) ^ 149 ≤ 10 ^ 400 := by decide +kernel
  have c2 : (2 : Nat) ^ 277 ≤ 10 ^ 400 * 2 ^ 149 := by decide +kernel
  have g1 : q ≤ p * 2 ^ 149 := by rw [hv]; exact Nat.le_mul_of_pos_left _ ha
  have hp : 0 < p := by
    rcases Nat.eq_zero_or_pos p with z | z
    · rw [z, Nat.zero_mul] at g1; omega
    · exact z
  refine ⟨hp, Nat.le_trans g1 (Nat.mul_le_mul_left _ c1), ?_⟩
  refine Nat.lt_of_mul_lt_mul_right (a := 2 ^ 149) ?_
  rw [hv]
  refine Nat.lt_of_lt_of_le (Nat.mul_lt_mul_of_pos_right hb hq) ?_
  rw [Nat.mul_comm, Nat.mul_assoc]
  exact Nat.mul_le_mul_left _ c2

structure ShortSays32 (X : Nat) (p q : Nat) (E : Int) (n d : Nat) (d0 : UInt8) (ds : List UInt8) : Prop where
  q0 : 0 < q
  val : p * 2 ^ 149 = amt32 X * q
  few : FewSays32 p q X E n d
  dig : (revDig d).reverse = d0 :: ds

theorem few_digits32 {p q X n d : Nat} {E : Int} (hq : 0 < q) (h : FewSays32 p q X E n d) : 1 ≤ d ∧ d < 1000000000000000000 ∧ ∃ d0 ds, (revDig d).reverse = d0 :: ds ∧ (revDig d).length = ds.length + 1 ∧ ds.length ≤ 17 := by
  have h1 := low_in (n := n) hq h.dec rfl h.n0.1
  have h2 : 10 ^ n ≤ 10 ^ 17 := Nat.pow_le_pow_right (by omega) (Nat.le_trans h.n0.2 (by omega))
  have h3 : 0 < 10 ^ (n - 1) := Nat.pow_pos (by omega)
  have h4 := h.d0
  have e1 : 1 ≤ d := by omega
  have e2 : d < 10 ^ 18 := by omega
  have hl := revDig_len_le 18 d e2
  refine ⟨e1, by omega, ?_⟩
  cases hr : (revDig d).reverse with
  | nil =>
    rw [List.reverse_eq_nil_iff, revDig_pos (by omega)] at hr
    exact absurd hr (by simp)
  | cons a l =>
    have := congrArg List.length hr
    simp at this
    exact ⟨a, l, rfl, by omega, by omega⟩

set_option exponentiation.threshold 2000 in
theorem few_exp32 {p q X n d : Nat} {E : Int} (h : FewSays32 p q X E n d) (hq : 0 < q) (hX : X < 2139095040) (h0 : 0 < X) (hv : p * 2 ^ 149 = amt32 X * q) : -400 ≤ E ∧ E < 400 := by
  obtain ⟨-, a1, a2⟩ := val_in32 hX h0 hq hv
  have hA0 : AtM p q (-400) := by
    unfold AtM
    rw [show (-400 : Int).toNat = 0 from rfl, show (- -400 : Int).toNat = 400 from rfl, Nat.pow_zero, Nat.one_mul]
    exact a1
  have hA1 : ¬ AtM p q 400 := by
    unfold AtM
    rw [show (400 : Int).toNat = 400 from rfl, show (-400 : Int).toNat = 0 from rfl, Nat.pow_zero, Nat.mul_one, Nat.mul_comm]
    omega
  constructor
  · rcases Int.lt_or_le E (-400) with t | t
    · exact absurd (hA0.le (by omega)) h.dec.2
    · exact t
  · rcases Int.lt_or_le E 400 with t | t
    · exact t
    · exact absurd (h.dec.1.le t) hA1

theorem few_last32 {p q X n d : Nat} {E : Int} (h : FewSays32 p q X E n d) (hn : 2 ≤ n) : d % 10 ≠ 0 := by
  intro hz
  obtain ⟨d', rfl⟩ : ∃ d', d = 10 * d' := ⟨d / 10, by omega⟩
  have h1 := hits_next32 h.hit
  have h2 := low_next p q (E - n + 1)
  have h3 := h.least (n - 1) (by omega) (by omega)
  unfold NoneAt32 at h3
  rw [show E - ((n - 1 : Nat) : Int) + 1 = E - n + 1 + 1 by omega] at h3
  rcases h.d0 with e | e
  · rw [show lowK p q (E - n + 1 + 1) = d' by omega] at h3
    exact h3.1 h1
  · rw [show lowK p q (E - n + 1 + 1) + 1 = d' by omega] at h3
    exact h3.2 h1

theorem few_len32 {p q X n d : Nat} {E : Int} (hq : 0 < q) (h : FewSays32 p q X E n d) (hn : 2 ≤ n) : 10 ^ (n - 1) ≤ d ∧ d < 10 ^ n := by
  have h1 := low_in (n := n) hq h.dec rfl h.n0.1
  have h2 := few_last32 h hn
  have h3 := h.d0
  refine ⟨by omega, ?_⟩
  rcases Nat.lt_or_ge d (10 ^ n) with t | t
  · exact t
  · exfalso
    have e : d = 10 ^ n := by omega
    obtain ⟨j, rfl⟩ : ∃ j, n = j + 1 := ⟨n - 1, by omega⟩
    rw [Nat.pow_succ] at e
    omega
end Go.Proofs.YtgccfdfbnhldbaaGreatDoor.Nb

namespace Go.Proofs.YtgccfdfbnhldbaaGreatDoor.Nb
open Go Nx

def DTxt.Amt32 (t : DTxt) (X : Nat) : Prop :=
  (t.low ∧ X = 0) ∨ (¬ t.low ∧ ¬ t.high ∧ ∃ p q, 0 < q ∧ p * 10 ^ (-t.exp).toNat = decN t.digs * 10 ^ t.exp.toNat * q ∧ Rnd 24 149 p q X)

def DTxt.Says32 (t : DTxt) (f : Nat) (c : Int) : Prop :=
  (c = 5 ∧ f = 0 ∧ (t.high ∨ ∃ X, t.Amt32 X ∧ 2139095040 ≤ X)) ∨ (c = 0 ∧ ∃ X, t.Amt32 X ∧ X < 2139095040 ∧ f = X + (if t.neg = true then 2147483648 else 0))

theorem few_data32 {p q X n d : Nat} {E : Int} {d0 : UInt8} {ds : List UInt8} (h : ShortSays32 X p q E n d d0 ds) : IsDig (d0 :: ds) ∧ ds.length ≤ 17 ∧ d < 10 ^ 18 := by
  obtain ⟨h1, h2, d0', ds', e, hl, hl17⟩ := few_digits32 h.q0 h.few
  have h3 := revDig_dig 18 d (by omega)
  rw [h.dig] at e h3
  injection e with e1 e2
  subst e1 e2
  exact ⟨h3.1, hl17, by omega⟩

theorem shortD_len32 {X p q n d : Nat} {E : Int} {d0 : UInt8} {ds : List UInt8} (h : ShortSays32 X p q E n d d0 ds) : (shortD d0 ds).length = n := by
  have hf := h.few
  obtain ⟨h1, h2, d0', ds', e, hl, hl17⟩ := few_digits32 h.q0 hf
  rw [h.dig] at e
  injection e with e1 e2
  subst e1 e2
  have hrev : revDig d = ds.reverse ++ [d0] := by
    have := congrArg List.reverse h.dig
    rw [List.reverse_reverse, List.reverse_cons] at this
    exact this
  have hpos : revDig d = UInt8.ofNat (48 + d % 10) :: revDig (d / 10) := revDig_pos (by omega)
  unfold shortD
  rw [List.length_cons]
  rcases Nat.lt_or_ge n 2 with c | c
  · have n1 : n = 1 := by have := hf.n0; omega
    subst n1
    have hlo := low_in (n := 1) h.q0 hf.dec rfl (by omega)
    have hd0 := hf.d0
    rw [show (10 : Nat) ^ 1 = 10 by decide] at hlo
    have hd10 : d ≤ 10 := by omega
    rcases Nat.lt_or_ge d 10 with c2 | c2
    · rw [hpos, show d / 10 = 0 by omega, revDig_zero] at hrev
      have hz : ds = [] := by
        cases ds with
        | nil => rfl
        | cons a l => have := congrArg List.length hrev; simp at this
      subst hz
      rfl
    · obtain rfl : d = 10 := by omega
      rw [hpos, show 10 / 10 = 1 by decide, revDig_pos (by omega), show 1 / 10 = 0 by decide, revDig_zero] at hrev
      have hz : ds = [48] := by
        cases ds with
        | nil => have := congrArg List.length hrev; simp at this
        | cons a l =>
          cases l with
          | nil =>
            simp at hrev
            rw [hrev.1]
          | cons b m => have := congrArg List.length hrev; simp at this
      subst hz
      rfl
  · have hlast := few_last32 hf c
    have hlen := few_len32 h.q0 hf c
    have hle : (revDig d).length ≤ n := revDig_len_le n d hlen.2
    have hge := revDig_ge hlen.1 (by omega)
    have hds : ds ≠ [] := by
      intro hz
      subst hz
      have := congrArg List.length hrev
      simp at this
      omega
    have htr : Lib.trimRightB ds 48 = ds := by
      unfold Lib.trimRightB
      cases hr : ds.reverse with
      | nil => exact absurd (List.reverse_eq_nil_iff.1 hr) hds
      | cons a l =>
        rw [hr, hpos] at hrev
        injection hrev with e1 e2
        have ha : ¬ (a == 48) = true := by
          rw [← e1]
          intro e
          have e3 : UInt8.ofNat (48 + d % 10) = 48 := by simpa using e
          have e4 : (UInt8.ofNat (48 + d % 10)).toNat = 48 + d % 10 := dig_ofNat (Nat.mod_lt _ (by omega))
          rw [e3] at e4
          have e5 : (48 : UInt8).toNat = 48 := rfl
          omega
        rw [List.dropWhile_cons, if_neg ha, ← hr, List.reverse_reverse]
    rw [htr]
    omega

theorem hits_down32 {d X : Nat} : ∀ (z : Nat) {K : Int}, Hits32 (d * 10 ^ z) K X → Hits32 d (K + z) X
  | 0, K, h => by simpa using h
  | z + 1, K, h => by
    have h1 : Hits32 (10 * (d * 10 ^ z)) K X := by rwa [Nat.pow_succ, ← Nat.mul_assoc, Nat.mul_comm] at h
    have h2 := hits_down32 z (hits_next32 h1)
    rwa [show K + 1 + (z : Int) = K + ((z + 1 : Nat) : Int) by omega] at h2

theorem says_of32 {t : DTxt} {X f : Nat} {c : Int} (hl : ¬ t.low) (hh : ¬ t.high) (hX : X < 2139095040) (hr : Hits32 (decN t.digs) t.exp X) (hs : t.Says32 f c) : c = 0 ∧ f = X + (if t.neg = true then 2147483648 else 0) := by
  have hu : ∀ Y, t.Amt32 Y → Y = X := by
    intro Y hY
    rcases hY with ⟨h, -⟩ | ⟨-, -, P, Q, hQ, he, h⟩
    · exact absurd h hl
    · unfold Hits32 at hr
      exact rnd_eq h hr (by omega) hQ (Nat.pow_pos (by omega)) he
  rcases hs with ⟨-, -, h | ⟨Y, hY, hi⟩⟩ | ⟨rfl, Y, hY, -, hf⟩
  · exact absurd h hh
  · rw [hu Y hY] at hi; omega
  · rw [hu Y hY] at hf
    exact ⟨rfl, hf⟩


theorem short_txt32 {X p q n d : Nat} {E e : Int} {d0 : UInt8} {ds : List UInt8} (h : ShortSays32 X p q E n d d0 ds) (hX : X < 2139095040) (h0 : 0 < X) (he : E + (ds.length + 1 : Nat) - n = e) (neg : Bool) :
    (shT neg d0 ds e).Ok ∧ ¬ (shT neg d0 ds e).low ∧ ¬ (shT neg d0 ds e).high ∧ Hits32 (decN (shT neg d0 ds e).digs) (shT neg d0 ds e).exp X := by
  obtain ⟨hdig, hd17, hd18⟩ := few_data32 h
  have hE := few_exp32 h.few h.q0 hX h0 h.val
  have hn := h.few.n0
  have hlen := shortD_len32 h
  have hsl : (Lib.trimRightB ds 48).length + 1 = n := by unfold shortD at hlen; rw [List.length_cons] at hlen; exact hlen
  have htl := Sh.trim_le ds
  have hok : (shT neg d0 ds e).Ok := by
    refine ⟨fun x hx => ?_, by unfold shT; simp, fun l hl => ?_, fun b l hl => exT_ok b l hl⟩
    · unfold shT at hx
      simp at hx
      subst hx
      exact hdig _ List.mem_cons_self
    · unfold shT at hl
      simp only at hl
      split at hl
      · cases hl
      · rename_i hne
        injection hl with hl
        subst hl
        exact ⟨fun x hx => hdig x (List.mem_cons_of_mem _ (Sh.trim_mem hx)), hne⟩
  have hd0 : d0 ≠ 48 := by
    have h1 := revDig_last 18 d hd18
    rw [h.dig] at h1
    simpa using h1
  have hkey : (shT neg d0 ds e).key = shortD d0 ds := by
    unfold DTxt.key
    rw [shT_digs]
    unfold shortD Lib.trimLeftB
    rw [List.dropWhile_cons, if_neg (by simpa using hd0)]
  have hexp : (shT neg d0 ds e).exp = -((Lib.trimRightB ds 48).length : Int) + e := by
    unfold DTxt.exp
    rw [shT_frac]
    unfold shT
    simp only
    rw [exT_exp (by omega) (by omega)]
  -- as many digits as were asked, or one more
  have hdl : ds.length + 1 ≤ n + 1 := by
    have h1 := low_in (n := n) h.q0 h.few.dec rfl hn.1
    have h2 := h.few.d0
    have h3 : d ≤ 10 ^ n := by omega
    have h4 := revDig_len_le (n + 1) d (by rw [Nat.pow_succ]; have : 0 < 10 ^ n := Nat.pow_pos (by omega); omega)
    have h5 := congrArg List.length h.dig
    rw [List.length_reverse, List.length_cons] at h5
    omega
  refine ⟨hok, ?_, ?_, ?_⟩
  · unfold DTxt.low
    rw [hkey, hlen, hexp]
    omega
  · unfold DTxt.high
    rw [hkey, hlen, hexp]
    omega
  · obtain ⟨z, hz⟩ := trimR_rep ds
    have hzl : ds.length = (Lib.trimRightB ds 48).length + z := by
      have := congrArg List.length hz
      rwa [List.length_append, List.length_replicate] at this
    have hdv : d = decN (shortD d0 ds) * 10 ^ z := by
      have h1 := (revDig_dig 18 d hd18).2
      rw [h.dig, hz, ← List.cons_append, decN_zeros] at h1
      exact h1.symm
    rw [shT_digs, hexp]
    have h2 := h.few.hit
    rw [hdv] at h2
    have h3 := hits_down32 z h2
    rwa [show E - (n : Int) + 1 + (z : Int) = -((Lib.trimRightB ds 48).length : Int) + e by omega] at h3
end Go.Proofs.YtgccfdfbnhldbaaGreatDoor.Nb
