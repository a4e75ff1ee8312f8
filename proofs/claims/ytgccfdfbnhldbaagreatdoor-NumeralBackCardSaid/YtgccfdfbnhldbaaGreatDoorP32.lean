/- HE7 HE8 HE9 HD9 HD11 HD10 HD12 in one text. -/
import Derived.Test.YtgccfdfbnhldbaaGreatDoorP31
import Derived.Test.YtgccfdfbnhldbaaGreatDoorP30
import Derived.Test.YtgccfdfbnhldbaaGreatDoorP26
import Derived.Test.YtgccfdfbnhldbaaGreatDoorP18
import Derived.Test.YtgccfdfbnhldbaaGreatDoorP27
import Derived.Test.YtgccfdfbnhldbaaGreatDoorP29

namespace Go.Proofs.YtgccfdfbnhldbaaGreatDoor.Nb
open Go Go.RowKit Nx

theorem itoa_nosp : ∀ k : Fin 13, ∀ b ∈ Lib.itoa ((k.val : Nat) : Int), b ≠ 32 := by decide +kernel
theorem itoa_pos : ∀ k : Fin 13, 1 ≤ (Lib.itoa ((k.val : Nat) : Int)).length := by decide +kernel
theorem join_len : ∀ (l : List (List UInt8)) (p : List UInt8), l.length ≤ (joinS p l).length
  | [], _ => by simp
  | q :: l, p => by
    have ih := join_len l q
    unfold joinS
    simp
    omega
theorem shape_join (r q : Int) (bs : List Nat) : listL (shapeL r q) bs = joinS (Lib.itoa r) (Lib.itoa q :: bs.map hexL) := by
  rw [listL_join bs _ (shape_ne r q)]
  unfold shapeL
  rw [joinS_app]
  simp [joinS]
theorem cellsOf_at {P : List ByteArray} {N i : Nat} (h : i < P.length) : (Lib.cellsOf P N)[i]? = some (.string P[i]) := by
  unfold Lib.cellsOf
  rw [List.getElem?_toArray, List.getElem?_append_left (by simpa using h), List.getElem?_map, List.getElem?_eq_getElem h]
  rfl
theorem DecAt.set0 {w : World} {b : Nat} {v0 v1 v2 : Value} (h : DecAt w b v0 v1 v2) (v : Value) : DecAt (w.setCell ⟨b, 0, none⟩ v) b v v1 v2 := by
  obtain ⟨h1, h2, h3, h4, h5, h6, h7⟩ := h
  refine ⟨by simpa [World.setCell] using h1, ?_, ?_, ?_, ?_, ?_, ?_⟩ <;> simp [go_sem, h2, h3, h4, h5, h6, h7]
/-- the text's pieces -/
def pieceOf (r q : Nat) (bs : List Nat) (i : Nat) : ByteArray := ⟨((Lib.itoa (r : Int) :: Lib.itoa (q : Int) :: bs.map hexL).getD i []).toArray⟩
/-- a matrix under way -/
structure PMat (w W : World) (r q : Nat) (bs : List Nat) (x y : Value) : Prop where
  b : Below w.heap.size w W
  z : DecAt W w.heap.size (.int .i64 0) (.int .i64 0) (.slice none 0 0)
  m : DecAt W (w.heap.size + 2) x y (.slice none 0 0)
  p : W.cell? ⟨w.heap.size + 3, 0, none⟩ = some (.pointer (some ⟨w.heap.size + 2, 0, none⟩)) ∧ W.cell? ⟨w.heap.size + 3, 1, none⟩ = some (.pointer (some ⟨w.heap.size + 2, 1, none⟩)) ∧ w.heap.size + 3 < W.heap.size
  c : ∀ i, i < bs.length + 2 → W.cell? ⟨w.heap.size + 1, i, none⟩ = some (.string (pieceOf r q bs i))
theorem PMat.below {w W W' : World} {r q : Nat} {bs : List Nat} {a b : Value} (h : PMat w W r q bs a b) (k : Below W.heap.size W W') : PMat w W' r q bs a b :=
  ⟨back_of' h.b k, h.z.kept (c := W.heap.size) (Kept.of_below k) (Nat.ne_of_lt h.z.1), h.m.kept (c := W.heap.size) (Kept.of_below k) (Nat.ne_of_lt h.m.1),
   ⟨(k.cell (p := ⟨w.heap.size + 3, 0, none⟩) h.p.2.2).trans h.p.1, (k.cell (p := ⟨w.heap.size + 3, 1, none⟩) h.p.2.2).trans h.p.2.1, Nat.lt_of_lt_of_le h.p.2.2 k.size⟩,
   fun i hi => (k.cell (p := ⟨w.heap.size + 1, i, none⟩) (by have := h.m.1; show w.heap.size + 1 < W.heap.size; omega)).trans (h.c i hi)⟩
theorem PMat.set0 {w W : World} {r q : Nat} {bs : List Nat} {a b : Value} (h : PMat w W r q bs a b) (v : Value) : PMat w (W.setCell ⟨w.heap.size + 2, 0, none⟩ v) r q bs v b := by
  have k := (Kept.refl W (w.heap.size + 2)).setCell (o := 0) v
  exact ⟨h.b.setCell (p := ⟨w.heap.size + 2, 0, none⟩) (by show w.heap.size ≤ w.heap.size + 2; omega) v, h.z.kept k (by omega), h.m.set0 v,
   ⟨(k.cell (p := ⟨w.heap.size + 3, 0, none⟩) h.p.2.2 (by show w.heap.size + 3 ≠ w.heap.size + 2; omega)).trans h.p.1, (k.cell (p := ⟨w.heap.size + 3, 1, none⟩) h.p.2.2 (by show w.heap.size + 3 ≠ w.heap.size + 2; omega)).trans h.p.2.1, Nat.lt_of_lt_of_le h.p.2.2 k.size⟩,
   fun i hi => (k.cell (p := ⟨w.heap.size + 1, i, none⟩) (by have := h.m.1; show w.heap.size + 1 < W.heap.size; omega) (by show w.heap.size + 1 ≠ w.heap.size + 2; omega)).trans (h.c i hi)⟩
theorem PMat.set1 {w W : World} {r q : Nat} {bs : List Nat} {a b : Value} (h : PMat w W r q bs a b) (v : Value) : PMat w (W.setCell ⟨w.heap.size + 2, 1, none⟩ v) r q bs a v := by
  have k := (Kept.refl W (w.heap.size + 2)).setCell (o := 1) v
  exact ⟨h.b.setCell (p := ⟨w.heap.size + 2, 1, none⟩) (by show w.heap.size ≤ w.heap.size + 2; omega) v, h.z.kept k (by omega), h.m.set1 v,
   ⟨(k.cell (p := ⟨w.heap.size + 3, 0, none⟩) h.p.2.2 (by show w.heap.size + 3 ≠ w.heap.size + 2; omega)).trans h.p.1, (k.cell (p := ⟨w.heap.size + 3, 1, none⟩) h.p.2.2 (by show w.heap.size + 3 ≠ w.heap.size + 2; omega)).trans h.p.2.1, Nat.lt_of_lt_of_le h.p.2.2 k.size⟩,
   fun i hi => (k.cell (p := ⟨w.heap.size + 1, i, none⟩) (by have := h.m.1; show w.heap.size + 1 < W.heap.size; omega) (by show w.heap.size + 1 ≠ w.heap.size + 2; omega)).trans (h.c i hi)⟩

/-- the pieces of a matrix' text -/
theorem mat_pieces (r q : Nat) (bs : List Nat) (s : ByteArray) (hs : s.data.toList = listL (shapeL r q) bs) (hr : r ≤ 12) (hq : q ≤ 12) (hl : bs.length ≤ 144) (hb : ∀ x ∈ bs, x < 18446744073709551616) :
    ∃ P : List ByteArray, Lib.splitB ⟨#[32]⟩ 0 (min 148 (s.size + 1) - 1) s = P ∧ P.length = bs.length + 2 ∧ (3 ≤ min 148 (s.size + 1) ∧ bs.length + 2 ≤ min 148 (s.size + 1)) ∧ ∀ i, i < bs.length + 2 → P[i]? = some (pieceOf r q bs i) := by
  have hj := hs
  rw [shape_join] at hj
  have h1 : NoSp (Lib.itoa (r : Int)) := itoa_nosp ⟨r, by omega⟩
  have h2 : ∀ p ∈ Lib.itoa (q : Int) :: bs.map hexL, NoSp p := fun p hp => by
    rcases List.mem_cons.1 hp with rfl | hp
    · exact itoa_nosp ⟨q, by omega⟩
    · obtain ⟨x, hx, rfl⟩ := List.mem_map.1 hp
      exact hexL_sp x (hb x hx)
  have hlen := join_len (Lib.itoa (q : Int) :: bs.map hexL) (Lib.itoa (r : Int))
  rw [← hj, size_list] at hlen
  have hll : (Lib.itoa (q : Int) :: bs.map hexL).length = bs.length + 1 := by simp
  rw [hll] at hlen
  have h3 := Lib.splitB_data ⟨#[32]⟩ 0 (min 148 (s.size + 1) - 1) s
  have h4 : Lib.splitK [32] 0 (min 148 (s.size + 1) - 1) s.data.toList = Lib.itoa (r : Int) :: Lib.itoa (q : Int) :: bs.map hexL := by
    rw [hj]
    exact split_join _ _ _ h1 h2 (by rw [hll]; omega)
  obtain ⟨P, hP⟩ : ∃ P, Lib.splitB ⟨#[32]⟩ 0 (min 148 (s.size + 1) - 1) s = P := ⟨_, rfl⟩
  rw [hP] at h3
  have h5 : P.map (·.data.toList) = Lib.itoa (r : Int) :: Lib.itoa (q : Int) :: bs.map hexL := h3.trans h4
  have h6 : P.length = bs.length + 2 := by
    have := congrArg List.length h5
    simpa using this
  have h8 : 2 ≤ s.size := by
    have h9 := congrArg List.length hj
    rw [size_list] at h9
    have h10 := itoa_pos ⟨r, by omega⟩
    simp only at h10
    unfold joinS at h9
    rw [List.length_append, List.length_cons] at h9
    omega
  refine ⟨P, hP, h6, ⟨by omega, by omega⟩, fun i hi => ?_⟩
  have hi' : i < P.length := by omega
  have h7 : (P.map (·.data.toList))[i]? = (Lib.itoa (r : Int) :: Lib.itoa (q : Int) :: bs.map hexL)[i]? := by rw [h5]
  rw [List.getElem?_map, List.getElem?_eq_getElem hi'] at h7
  rw [List.getElem?_eq_getElem hi']
  congr 1
  refine bytes_eq ?_
  rw [List.getD_eq_getElem?_getD, ← h7]
  rfl
end Go.Proofs.YtgccfdfbnhldbaaGreatDoor.Nb

namespace Go.Proofs.YtgccfdfbnhldbaaGreatDoor.Nb
open Go Go.RowKit Nx

theorem ownsRow_kept {w w' : World} {B c : Nat} {e : TypeId} {sz n : Nat} {v : Value} {xs : List Value} (h : w.ownsRow B e sz v n xs) (k : Kept w w' c) (hc : c < B) : w'.ownsRow B e sz v n xs := by
  refine ⟨h.1, ?_⟩
  rcases h.2 with hn | ⟨g, cap, cur, hv, h1, h2, h3⟩
  · exact .inl hn
  · exact .inr ⟨g, cap, cur, hv, h1, (k.block g (Array.getElem?_eq_some_iff.1 h2).1 (by omega)).trans h2, h3⟩
theorem ownsRow_le {w : World} {B B' : Nat} {e : TypeId} {sz n : Nat} {v : Value} {xs : List Value} (h : w.ownsRow B e sz v n xs) (hB : B' ≤ B) : w.ownsRow B' e sz v n xs := by
  refine ⟨h.1, ?_⟩
  rcases h.2 with hn | ⟨g, cap, cur, hv, h1, h2, h3⟩
  · exact .inl hn
  · exact .inr ⟨g, cap, cur, hv, by omega, h2, h3⟩
set_option maxRecDepth 100000 in
set_option maxHeartbeats 2000000 in
theorem ParseMat_join (r q : Nat) (bs : List Nat) (s : ByteArray) (m : Int) (w : World) (hT : Tab64 w) (hP : TabP w) (hm : w.cell? ⟨1, 0, none⟩ = some (.int .i64 m)) (h1w : 1 < w.heap.size) (hs : s.data.toList = listL (shapeL r q) bs) (hsz : s.size < 4294967281) (hr : r ≤ 12) (hq : q ≤ 12) (hl : bs.length = r * q) (hb : ∀ x ∈ bs, x < 18446744073709551616) :
    Calls Tryz.prog 21 #[.string s] w fun e w' => (∃ v, e = .returned (.tuple #[.agg #[.int .i64 (r : Int), .int .i64 (q : Int), v], .int .i64 0, .int .i64 0]) ∧ w'.ownsRow (w.heap.size + 4) 25 1 v bs.length ((bs.map cnN).map fun b => .float .f64 b)) ∧ Below w.heap.size w w' := by
  have hrq : r * q ≤ 12 * 12 := Nat.mul_le_mul hr hq
  obtain ⟨P, hSP, hPl, hNn, hPc⟩ := mat_pieces r q bs s hs hr hq (by omega) hb
  obtain ⟨N, hN⟩ : ∃ N, min 148 (s.size + 1) = N := ⟨_, rfl⟩
  have hA := (Below.refl w.heap.size w).alloc (Nat.le_refl _) (.cells #[.int .i64 0, .int .i64 0, .slice none 0 0] 47)
  have hz := DecAt.new w (.int .i64 0) (.int .i64 0) (.slice none 0 0) 47
  obtain ⟨W0, hW0⟩ : ∃ W0, w.alloc (.cells #[.int .i64 0, .int .i64 0, .slice none 0 0] 47) = W0 := ⟨_, rfl⟩
  have hs0 : W0.heap.size = w.heap.size + 1 := by rw [← hW0]; simp
  rw [hW0] at hA hz
  have HS := Lib.hid (Tryz.strings_SplitN s ⟨#[32]⟩ 148 m W0 hsz ((hA.cell (p := ⟨1, 0, none⟩) h1w).trans hm) (by decide) (by decide) (by decide))
  rw [hN] at HS hSP hNn
  have HNn := Lib.hid hNn
  rw [hSP, hPl] at HS
  have HZ := Lib.hid (And.intro hA (And.intro hz hs0))
  have HPc := Lib.hid hPc
  have HPl := Lib.hid hPl
  have HL := Lib.hid (And.intro hl (And.intro hrq hb))
  have HT := Lib.hid (And.intro hT hP)
  have HRQ := Lib.hid (And.intro hr hq)
  clear hT hP hs hsz hm h1w hN hNn hSP hA hz hs0 hPc hPl hl hb hrq hr hq
  go_enter Tryz.func21, Tryz.ntmps21
  go_wp2_with fail
  refine HS.out.mono ?_
  rintro e w2 ⟨rfl, hw2⟩
  obtain ⟨T, hT2⟩ : ∃ T : TypeId, w2 = W0.alloc (.cells (Lib.cellsOf P N) T) := ⟨_, hw2⟩
  clear hw2
  have HW2 : Hid (Below W0.heap.size W0 w2 ∧ w2.heap.size = W0.heap.size + 1 ∧ ∀ i, i < bs.length + 2 → w2.cell? ⟨W0.heap.size, i, none⟩ = some (.string (pieceOf r q bs i))) := Lib.hid (by
    rw [hT2]
    refine ⟨(Below.refl _ _).alloc (Nat.le_refl _) _, by simp, fun i hi => ?_⟩
    have h1 := HPc.out i hi
    have hi' : i < P.length := by have := HPl.out; omega
    rw [List.getElem?_eq_getElem hi'] at h1
    have h2 := cellsOf_at (P := P) (N := N) hi'
    rw [Option.some.inj h1] at h2
    simp [go_sem, h2])
  clear hT2
  go_wp2_with fail
  have e0 := HZ.out.2.2
  have e2 : w2.heap.size = w.heap.size + 2 := by have := HW2.out.2.1; omega
  have e3 : w2.heap.size + 1 = w.heap.size + 3 := by omega
  rw [e3, e2, e0]
  obtain ⟨W3, hW3⟩ : ∃ W3, (w2.alloc (.cells #[.int .i64 0, .int .i64 0, .slice none 0 0] 47)).alloc (.cells #[.pointer (some ⟨w.heap.size + 2, 0, none⟩), .pointer (some ⟨w.heap.size + 2, 1, none⟩)] 114) = W3 := ⟨_, rfl⟩
  have H3 : Hid (PMat w W3 r q bs (.int .i64 0) (.int .i64 0) ∧ W3.heap.size = w.heap.size + 4) := Lib.hid (by
    have k1 : Below w2.heap.size w2 (w2.alloc (.cells #[.int .i64 0, .int .i64 0, .slice none 0 0] 47)) := (Below.refl _ _).alloc (Nat.le_refl _) _
    have k2 : Below (w2.alloc (.cells #[.int .i64 0, .int .i64 0, .slice none 0 0] 47)).heap.size (w2.alloc (.cells #[.int .i64 0, .int .i64 0, .slice none 0 0] 47)) W3 := by rw [← hW3]; exact (Below.refl _ _).alloc (Nat.le_refl _) _
    have k3 := back_of' k1 k2
    have k4 := back_of' HW2.out.1 k3
    have d := DecAt.new w2 (.int .i64 0) (.int .i64 0) (.slice none 0 0) 47
    rw [e2] at d
    have hsz : W3.heap.size = w.heap.size + 4 := by rw [← hW3]; simp; omega
    refine ⟨⟨back_of' HZ.out.1 k4, HZ.out.2.1.kept (c := W0.heap.size) (Kept.of_below k4) (by omega), d.kept (c := (w2.alloc (.cells #[.int .i64 0, .int .i64 0, .slice none 0 0] 47)).heap.size) (Kept.of_below k2) (by simp; omega), ⟨?_, ?_, by omega⟩, fun i hi => ?_⟩, hsz⟩
    · rw [← hW3, show w.heap.size + 3 = (w2.alloc (.cells #[.int .i64 0, .int .i64 0, .slice none 0 0] 47)).heap.size by simp; omega]
      simp [go_sem]
    · rw [← hW3, show w.heap.size + 3 = (w2.alloc (.cells #[.int .i64 0, .int .i64 0, .slice none 0 0] 47)).heap.size by simp; omega]
      simp [go_sem]
    · have h1 := HW2.out.2.2 i hi
      rw [e0] at h1
      exact (k3.cell (p := ⟨w.heap.size + 1, i, none⟩) (by show w.heap.size + 1 < w2.heap.size; omega)).trans h1)
  rw [hW3]
  clear hW3 e3 e2 e0 HW2 HZ HS hW0 HPc HPl
  go_loopw [21] (fun iv wr => (iv = .int .i64 0 ∧ Hid (PMat w wr r q bs (.int .i64 0) (.int .i64 0) ∧ w.heap.size + 4 ≤ wr.heap.size)) ∨ (iv = .int .i64 1 ∧ Hid (PMat w wr r q bs (.int .i64 (r : Int)) (.int .i64 0) ∧ w.heap.size + 4 ≤ wr.heap.size)) ∨ (iv = .int .i64 2 ∧ Hid (PMat w wr r q bs (.int .i64 (r : Int)) (.int .i64 (q : Int)) ∧ w.heap.size + 4 ≤ wr.heap.size))) (fun iv _ => (3 - intOf iv).toNat)
  case atStart => exact .inl ⟨rfl, Lib.hid ⟨H3.out.1, by have := H3.out.2; omega⟩⟩
  case round =>
    clear H3
    rcases hrel with ⟨rfl, hh⟩ | ⟨rfl, hh⟩ | ⟨rfl, hh⟩
    · obtain ⟨p0, p1, p2⟩ := hh.out.1.p
      have hc := hh.out.1.c 0 (by omega)
      obtain ⟨S, hS⟩ : ∃ S, pieceOf r q bs 0 = S := ⟨_, rfl⟩
      rw [hS] at hc
      have HSz := Lib.hid (size_any r S wr hS.symm HRQ.out.1 (HT.out.2.below hh.out.1.b HT.out.2.2))
      have hlt : (0 : Int) < ((bs.length + 2 : Nat) : Int) := by omega
      clear hS
      go_wp2_with fail
      refine HSz.out.mono ?_
      rintro e w4 ⟨rfl, b4⟩
      have H4 := Lib.hid (And.intro (hh.out.1.below b4) (Nat.le_trans hh.out.2 b4.size))
      obtain ⟨-, d0, d1, d2, q0, q1, q2⟩ := id H4.out.1.m
      clear b4 hh p0 p1 p2 hc HSz
      go_wp2_with fail
      go_roundw
      case rel => exact .inr (.inl ⟨rfl, Lib.hid ⟨H4.out.1.set0 _, by simpa [go_sem] using H4.out.2⟩⟩)
      case measure => simp [intOf]
    · obtain ⟨p0, p1, p2⟩ := hh.out.1.p
      have hc := hh.out.1.c 1 (by omega)
      obtain ⟨S, hS⟩ : ∃ S, pieceOf r q bs 1 = S := ⟨_, rfl⟩
      rw [hS] at hc
      have HSz := Lib.hid (size_any q S wr hS.symm HRQ.out.2 (HT.out.2.below hh.out.1.b HT.out.2.2))
      have hlt : (1 : Int) < ((bs.length + 2 : Nat) : Int) := by omega
      clear hS
      go_wp2_with fail
      refine HSz.out.mono ?_
      rintro e w4 ⟨rfl, b4⟩
      have H4 := Lib.hid (And.intro (hh.out.1.below b4) (Nat.le_trans hh.out.2 b4.size))
      obtain ⟨-, d0, d1, d2, q0, q1, q2⟩ := id H4.out.1.m
      clear b4 hh p0 p1 p2 hc HSz
      go_wp2_with fail
      go_roundw
      case rel => exact .inr (.inr ⟨rfl, Lib.hid ⟨H4.out.1.set1 _, by simpa [go_sem] using H4.out.2⟩⟩)
      case measure => simp [intOf]
    · obtain ⟨-, d0, d1, d2, q0, q1, q2⟩ := id hh.out.1.m
      obtain ⟨-, z0, z1, z2, y0, y1, y2⟩ := id hh.out.1.z
      have hmul : wrap64 ((r : Int) * (q : Int)) = (bs.length : Int) := by
        have h1 := HL.out.1
        have h2 := HL.out.2.1
        rw [← Int.natCast_mul, ← h1]
        unfold wrap64
        omega
      have HN := Lib.hid (numbers_any (some ⟨w.heap.size + 1, 2, none⟩) bs.length (N - 2) bs wr (HT.out.1.below hh.out.1.b) (HT.out.2.below hh.out.1.b HT.out.2.2) rfl HL.out.2.2 (fun i hi => ⟨w.heap.size + 1, 2, rfl, by have := hh.out.2; omega, by
        have h1 := hh.out.1.c (2 + i) (by omega)
        rw [h1]
        have hi' : i < bs.length := hi
        unfold pieceOf
        rw [Nat.add_comm 2 i]
        simp [List.getD_eq_getElem?_getD, List.getElem?_eq_getElem hi']⟩) (by have := HL.out.1; have := HL.out.2.1; omega))
      have hw2 : wrap64 ((bs.length : Int) + 2) = (bs.length : Int) + 2 := by have := HL.out.1; have := HL.out.2.1; unfold wrap64; omega
      have hcst : ((bs.length + 2 : Nat) : Int) = (bs.length : Int) + 2 := by omega
      have hN3 : ¬ N = 2 := by have := HNn.out; omega
      have hN4 : bs.length + 2 ≤ N := HNn.out.2
      go_wp2_with fail
      refine HN.out.mono ?_
      rintro e w5 ⟨⟨v, rfl, hv⟩, b5⟩
      obtain ⟨A5, c5, rfl, -, -⟩ := own_fl hv (by simp)
      have H5 := Lib.hid (And.intro (hh.out.1.below b5) (And.intro hv hh.out.2))
      clear d0 d1 d2 q0 q1 q2 z0 z1 z2 y0 y1 y2 hv b5 hh HN
      obtain ⟨-, d0, d1, d2, q0, q1, q2⟩ := id H5.out.1.m
      obtain ⟨-, z0, z1, z2, y0, y1, y2⟩ := id H5.out.1.z
      go_wp2_with fail
      refine bodyPost_ret (by simp [results, Tryz.results21, go_sem, z0, z1, z2]; try rfl) rfl ⟨⟨_, rfl, ?_⟩, ?_⟩
      · refine ownsRow_kept (c := w.heap.size) (ownsRow_kept (c := w.heap.size + 2) (ownsRow_le H5.out.2.1 H5.out.2.2) ((Kept.refl _ _).setCell _) (by omega)) ((((Kept.refl _ _).setCell _).setCell _).setCell _) (by omega)
      · exact (((H5.out.1.b.setCell (p := ⟨w.heap.size + 2, 2, none⟩) (by show w.heap.size ≤ w.heap.size + 2; omega) _).setCell (p := ⟨w.heap.size, 0, none⟩) (Nat.le_refl _) _).setCell (p := ⟨w.heap.size, 1, none⟩) (Nat.le_refl _) _).setCell (p := ⟨w.heap.size, 2, none⟩) (Nat.le_refl _) _
end Go.Proofs.YtgccfdfbnhldbaaGreatDoor.Nb

namespace Go.Proofs.YtgccfdfbnhldbaaGreatDoor.Nb
open Go Go.RowKit Nx

set_option maxRecDepth 8000 in
theorem ParseList_nil (w : World) : Calls Tryz.prog 18 #[.string ⟨#[]⟩] w fun e w' => e = .returned (.tuple #[.slice none 0 0, .int .i64 0, .int .i64 0]) ∧ w' = w := by
  go_enter Tryz.func18, Tryz.ntmps18
  go_wp2_with fail
  go_ret3
  exact ⟨rfl, rfl⟩
theorem ParseList_any (bs : List Nat) (s : ByteArray) (m : Int) (w : World) (hT : Tab64 w) (hP : TabP w) (hm : w.cell? ⟨1, 0, none⟩ = some (.int .i64 m)) (hs : s = ⟨(listL [] bs).toArray⟩) (hsz : s.size < 4294967281) (hl : bs.length ≤ 4096) (hb : ∀ x ∈ bs, x < 18446744073709551616) :
    Calls Tryz.prog 18 #[.string s] w fun e w' => (∃ A c, e = .returned (.tuple #[.slice A bs.length c, .int .i64 0, .int .i64 0]) ∧ FlAt w' A bs.length (bs.map cnN)) ∧ Below w.heap.size w w' := by
  cases bs with
  | nil =>
    subst hs
    refine (ParseList_nil w).mono ?_
    rintro e w' ⟨rfl, rfl⟩
    exact ⟨⟨none, 0, rfl, rfl, .inl ⟨rfl, rfl⟩⟩, Below.refl _ _⟩
  | cons f bs =>
    refine (ParseList_join f bs s m w hT hP hm (by rw [hs]) hsz (by rw [List.length_cons] at hl; omega) hb).mono ?_
    rintro e w' ⟨⟨v, rfl, hv⟩, hw⟩
    obtain ⟨A, c, rfl, hfl, -⟩ := own_fl hv (by simp)
    exact ⟨⟨A, c, rfl, hfl⟩, hw⟩
/-- a list's text is of modest length -/
theorem listL_len : ∀ (bs : List Nat) (acc : List UInt8), (∀ x ∈ bs, x < 18446744073709551616) → (listL acc bs).length ≤ acc.length + 41 * bs.length
  | [], acc, _ => by simp [listL]
  | f :: bs, acc, h => by
    have h1 := putL_len acc f (h f List.mem_cons_self)
    have h2 := listL_len bs (putL acc f) (fun x hx => h x (List.mem_cons_of_mem _ hx))
    have h3 : listL acc (f :: bs) = listL (putL acc f) bs := rfl
    rw [h3, List.length_cons]
    omega
end Go.Proofs.YtgccfdfbnhldbaaGreatDoor.Nb

namespace Go.Proofs.YtgccfdfbnhldbaaGreatDoor.Nb
open Nx

theorem parts_val32 {X t p q r s : Nat} (hX : X < 2139095040) (h : FinN32 X t) (hr : 2 ^ (oddX32 X).toNat = r) (hs : 2 ^ (-oddX32 X).toNat = s) (hv : p * s = oddM32 X * r * q) : p * 2 ^ 149 = amt32 X * q := by
  obtain ⟨T, hT⟩ : ∃ T : Nat, T = 149 := ⟨_, rfl⟩
  rw [← hT]
  have hb : bigM32 X = mag32 X := by
    unfold bigM32 mag32
    by_cases c : X < 8388608
    · rw [if_pos (by omega), if_pos c]; omega
    · rw [if_neg (by omega), if_neg c]; omega
  have hx : bigX32 X = -149 + (plc32 X : Int) := by
    unfold bigX32 plc32
    by_cases c : X < 8388608
    · rw [if_pos (by omega)]; omega
    · rw [if_neg (by omega)]; omega
  have h1 := h.m0
  have h2 := h.xt
  rw [hb] at h1
  rw [hx] at h2
  have hs0 : 0 < s := hs ▸ Nat.two_pow_pos _
  have e1 : amt32 X = oddM32 X * 2 ^ (t + plc32 X) := by unfold amt32; rw [h1, Nat.mul_assoc, ← Nat.pow_add]
  have e2 : r * 2 ^ T = s * 2 ^ (t + plc32 X) := by
    rw [← hr, ← hs, ← Nat.pow_add, ← Nat.pow_add]
    congr 1
    omega
  refine Nat.eq_of_mul_eq_mul_right hs0 ?_
  rw [Nat.mul_right_comm, hv, e1]
  have e3 : oddM32 X * r * q * 2 ^ T = oddM32 X * q * (r * 2 ^ T) := by ac_rfl
  rw [e3, e2]
  ac_rfl

theorem val_in32 {X p q : Nat} (hX : X < 2139095040) (h0 : 0 < X) (hq : 0 < q) (hv : p * 2 ^ 149 = amt32 X * q) : 0 < p ∧ q ≤ p * 10 ^ 400 ∧ p < q * 10 ^ 400 := by
  have ha : 1 ≤ amt32 X := by
    have := @amt_lt_iff32 0 X
    omega
  obtain ⟨D, hD⟩ : ∃ D : Nat, D = 2 ^ 149 := ⟨_, rfl⟩
  rw [← hD] at hv
  obtain ⟨B, hB⟩ : ∃ B : Nat, B = 253 := ⟨_, rfl⟩
  have hb : amt32 X < 2 ^ (24 + B) := by
    have h1 : mag32 X < 2 ^ 24 := by unfold mag32; split <;> omega
    have h2 : plc32 X ≤ B := by unfold plc32; omega
    have h3 : 2 ^ plc32 X ≤ 2 ^ B := Nat.pow_le_pow_right (by omega) h2
    unfold amt32
    have h4 := Nat.mul_lt_mul_of_lt_of_le h1 h3 (Nat.two_pow_pos _)
    rwa [← Nat.pow_add] at h4
  have c1 : D ≤ 10 ^ 400 := by rw [hD]; decide +kernel
  have c2 : (2 : Nat) ^ (24 + B) ≤ 10 ^ 400 * D := by rw [hB, hD]; decide +kernel
  have g1 : q ≤ p * D := by rw [hv]; exact Nat.le_mul_of_pos_left _ ha
  have hp : 0 < p := by
    rcases Nat.eq_zero_or_pos p with z | z
    · rw [z, Nat.zero_mul] at g1; omega
    · exact z
  refine ⟨hp, Nat.le_trans g1 (Nat.mul_le_mul_left _ c1), ?_⟩
  refine Nat.lt_of_mul_lt_mul_right (a := D) ?_
  rw [hv]
  refine Nat.lt_of_lt_of_le (Nat.mul_lt_mul_of_pos_right hb hq) ?_
  rw [Nat.mul_comm, Nat.mul_assoc]
  exact Nat.mul_le_mul_left _ c2

structure ShortSays32 (X : Nat) (p q : Nat) (E : Int) (n d : Nat) (d0 : UInt8) (ds : List UInt8) : Prop where
  q0 : 0 < q
  val : p * 2 ^ 149 = amt32 X * q
  few : FewSays32 p q X E n d
  dig : (revDig d).reverse = d0 :: ds

theorem few_digits32 {p q X n d : Nat} {E : Int} (hq : 0 < q) (h : FewSays32 p q X E n d) : 1 ≤ d ∧ d < 1000000000000000000 ∧ ∃ d0 ds, (revDig d).reverse = d0 :: ds ∧ (revDig d).length = ds.length + 1 ∧ ds.length ≤ 17 := by
  have h1 := low_in (n := n) hq h.dec rfl h.n0.1
  have h2 : 10 ^ n ≤ 10 ^ 17 := Nat.pow_le_pow_right (by omega) (Nat.le_trans h.n0.2 (by omega))
  have h3 : 0 < 10 ^ (n - 1) := Nat.pow_pos (by omega)
  have h4 := h.d0
  have e1 : 1 ≤ d := by omega
  have e2 : d < 10 ^ 18 := by omega
  have hl := revDig_len_le 18 d e2
  refine ⟨e1, by omega, ?_⟩
  cases hr : (revDig d).reverse with
  | nil =>
    rw [List.reverse_eq_nil_iff, revDig_pos (by omega)] at hr
    exact absurd hr (by simp)
  | cons a l =>
    have := congrArg List.length hr
    simp at this
    exact ⟨a, l, rfl, by omega, by omega⟩

theorem few_exp32 {p q X n d : Nat} {E : Int} (h : FewSays32 p q X E n d) (hq : 0 < q) (hX : X < 2139095040) (h0 : 0 < X) (hv : p * 2 ^ 149 = amt32 X * q) : -400 ≤ E ∧ E < 400 := by
  obtain ⟨-, a1, a2⟩ := val_in32 hX h0 hq hv
  have hA0 : AtM p q (-400) := by
    unfold AtM
    rw [show (-400 : Int).toNat = 0 from rfl, show (- -400 : Int).toNat = 400 from rfl, Nat.pow_zero, Nat.one_mul]
    exact a1
  have hA1 : ¬ AtM p q 400 := atm_top (n := 400) rfl rfl a2
  constructor
  · rcases Int.lt_or_le E (-400) with t | t
    · exact absurd (hA0.le (by omega)) h.dec.2
    · exact t
  · rcases Int.lt_or_le E 400 with t | t
    · exact t
    · exact absurd (h.dec.1.le t) hA1

theorem few_last32 {p q X n d : Nat} {E : Int} (h : FewSays32 p q X E n d) (hn : 2 ≤ n) : d % 10 ≠ 0 := by
  intro hz
  obtain ⟨d', rfl⟩ : ∃ d', d = 10 * d' := ⟨d / 10, by omega⟩
  have h1 := hits_next32 h.hit
  have h2 := low_next p q (E - n + 1)
  have h3 := h.least (n - 1) (by omega) (by omega)
  unfold NoneAt32 at h3
  rw [show E - ((n - 1 : Nat) : Int) + 1 = E - n + 1 + 1 by omega] at h3
  rcases h.d0 with e | e
  · rw [show lowK p q (E - n + 1 + 1) = d' by omega] at h3
    exact h3.1 h1
  · rw [show lowK p q (E - n + 1 + 1) + 1 = d' by omega] at h3
    exact h3.2 h1

theorem few_len32 {p q X n d : Nat} {E : Int} (hq : 0 < q) (h : FewSays32 p q X E n d) (hn : 2 ≤ n) : 10 ^ (n - 1) ≤ d ∧ d < 10 ^ n := by
  have h1 := low_in (n := n) hq h.dec rfl h.n0.1
  have h2 := few_last32 h hn
  have h3 := h.d0
  refine ⟨by omega, ?_⟩
  rcases Nat.lt_or_ge d (10 ^ n) with t | t
  · exact t
  · exfalso
    have e : d = 10 ^ n := by omega
    obtain ⟨j, rfl⟩ : ∃ j, n = j + 1 := ⟨n - 1, by omega⟩
    rw [Nat.pow_succ] at e
    omega
end Go.Proofs.YtgccfdfbnhldbaaGreatDoor.Nb

namespace Go.Proofs.YtgccfdfbnhldbaaGreatDoor.Nb
open Go Nx

def DTxt.Amt32 (t : DTxt) (X : Nat) : Prop :=
  (t.low ∧ X = 0) ∨ (¬ t.low ∧ ¬ t.high ∧ ∃ p q, 0 < q ∧ p * 10 ^ (-t.exp).toNat = decN t.digs * 10 ^ t.exp.toNat * q ∧ Rnd 24 149 p q X)

def DTxt.Says32 (t : DTxt) (f : Nat) (c : Int) : Prop :=
  (c = 5 ∧ f = 0 ∧ (t.high ∨ ∃ X, t.Amt32 X ∧ 2139095040 ≤ X)) ∨ (c = 0 ∧ ∃ X, t.Amt32 X ∧ X < 2139095040 ∧ f = X + (if t.neg = true then 2147483648 else 0))

theorem few_data32 {p q X n d : Nat} {E : Int} {d0 : UInt8} {ds : List UInt8} (h : ShortSays32 X p q E n d d0 ds) : IsDig (d0 :: ds) ∧ ds.length ≤ 17 ∧ d < 10 ^ 18 := by
  obtain ⟨h1, h2, d0', ds', e, hl, hl17⟩ := few_digits32 h.q0 h.few
  have h3 := revDig_dig 18 d (by omega)
  rw [h.dig] at e h3
  injection e with e1 e2
  subst e1 e2
  exact ⟨h3.1, hl17, by omega⟩

theorem shortD_len32 {X p q n d : Nat} {E : Int} {d0 : UInt8} {ds : List UInt8} (h : ShortSays32 X p q E n d d0 ds) : (shortD d0 ds).length = n := by
  have hf := h.few
  obtain ⟨h1, h2, d0', ds', e, hl, hl17⟩ := few_digits32 h.q0 hf
  rw [h.dig] at e
  injection e with e1 e2
  subst e1 e2
  have hrev : revDig d = ds.reverse ++ [d0] := by
    have := congrArg List.reverse h.dig
    rw [List.reverse_reverse, List.reverse_cons] at this
    exact this
  have hpos : revDig d = UInt8.ofNat (48 + d % 10) :: revDig (d / 10) := revDig_pos (by omega)
  unfold shortD
  rw [List.length_cons]
  rcases Nat.lt_or_ge n 2 with c | c
  · have n1 : n = 1 := by have := hf.n0; omega
    subst n1
    have hlo := low_in (n := 1) h.q0 hf.dec rfl (by omega)
    have hd0 := hf.d0
    rw [show (10 : Nat) ^ 1 = 10 by decide] at hlo
    have hd10 : d ≤ 10 := by omega
    rcases Nat.lt_or_ge d 10 with c2 | c2
    · rw [hpos, show d / 10 = 0 by omega, revDig_zero] at hrev
      have hz : ds = [] := by
        cases ds with
        | nil => rfl
        | cons a l => have := congrArg List.length hrev; simp at this
      subst hz
      rfl
    · obtain rfl : d = 10 := by omega
      rw [hpos, show 10 / 10 = 1 by decide, revDig_pos (by omega), show 1 / 10 = 0 by decide, revDig_zero] at hrev
      have hz : ds = [48] := by
        cases ds with
        | nil => have := congrArg List.length hrev; simp at this
        | cons a l =>
          cases l with
          | nil =>
            simp at hrev
            rw [hrev.1]
          | cons b m => have := congrArg List.length hrev; simp at this
      subst hz
      rfl
  · have hlast := few_last32 hf c
    have hlen := few_len32 h.q0 hf c
    have hle : (revDig d).length ≤ n := revDig_len_le n d hlen.2
    have hge := revDig_ge hlen.1 (by omega)
    have hds : ds ≠ [] := by
      intro hz
      subst hz
      have := congrArg List.length hrev
      simp at this
      omega
    have htr : Lib.trimRightB ds 48 = ds := by
      unfold Lib.trimRightB
      cases hr : ds.reverse with
      | nil => exact absurd (List.reverse_eq_nil_iff.1 hr) hds
      | cons a l =>
        rw [hr, hpos] at hrev
        injection hrev with e1 e2
        have ha : ¬ (a == 48) = true := by
          rw [← e1]
          intro e
          have e3 : UInt8.ofNat (48 + d % 10) = 48 := by simpa using e
          have e4 : (UInt8.ofNat (48 + d % 10)).toNat = 48 + d % 10 := dig_ofNat (Nat.mod_lt _ (by omega))
          rw [e3] at e4
          have e5 : (48 : UInt8).toNat = 48 := rfl
          omega
        rw [List.dropWhile_cons, if_neg ha, ← hr, List.reverse_reverse]
    rw [htr]
    omega

theorem hits_down32 {d X : Nat} : ∀ (z : Nat) {K : Int}, Hits32 (d * 10 ^ z) K X → Hits32 d (K + z) X
  | 0, K, h => by simpa using h
  | z + 1, K, h => by
    have h1 : Hits32 (10 * (d * 10 ^ z)) K X := by rwa [Nat.pow_succ, ← Nat.mul_assoc, Nat.mul_comm] at h
    have h2 := hits_down32 z (hits_next32 h1)
    rwa [show K + 1 + (z : Int) = K + ((z + 1 : Nat) : Int) by omega] at h2

theorem says_of32 {t : DTxt} {X f : Nat} {c : Int} (hl : ¬ t.low) (hh : ¬ t.high) (hX : X < 2139095040) (hr : Hits32 (decN t.digs) t.exp X) (hs : t.Says32 f c) : c = 0 ∧ f = X + (if t.neg = true then 2147483648 else 0) := by
  have hu : ∀ Y, t.Amt32 Y → Y = X := by
    intro Y hY
    rcases hY with ⟨h, -⟩ | ⟨-, -, P, Q, hQ, he, h⟩
    · exact absurd h hl
    · unfold Hits32 at hr
      exact rnd_eq h hr (by omega) hQ (Nat.pow_pos (by omega)) he
  rcases hs with ⟨-, -, h | ⟨Y, hY, hi⟩⟩ | ⟨rfl, Y, hY, -, hf⟩
  · exact absurd h hh
  · rw [hu Y hY] at hi; omega
  · rw [hu Y hY] at hf
    exact ⟨rfl, hf⟩


theorem short_txt32 {X p q n d : Nat} {E e : Int} {d0 : UInt8} {ds : List UInt8} (h : ShortSays32 X p q E n d d0 ds) (hX : X < 2139095040) (h0 : 0 < X) (he : E + (ds.length + 1 : Nat) - n = e) (neg : Bool) :
    (shT neg d0 ds e).Ok ∧ ¬ (shT neg d0 ds e).low ∧ ¬ (shT neg d0 ds e).high ∧ Hits32 (decN (shT neg d0 ds e).digs) (shT neg d0 ds e).exp X := by
  obtain ⟨hdig, hd17, hd18⟩ := few_data32 h
  have hE := few_exp32 h.few h.q0 hX h0 h.val
  have hn := h.few.n0
  have hlen := shortD_len32 h
  have hsl : (Lib.trimRightB ds 48).length + 1 = n := by unfold shortD at hlen; rw [List.length_cons] at hlen; exact hlen
  have htl := Sh.trim_le ds
  have hok : (shT neg d0 ds e).Ok := by
    refine ⟨fun x hx => ?_, by unfold shT; simp, fun l hl => ?_, fun b l hl => exT_ok b l hl⟩
    · unfold shT at hx
      simp at hx
      subst hx
      exact hdig _ List.mem_cons_self
    · unfold shT at hl
      simp only at hl
      split at hl
      · cases hl
      · rename_i hne
        injection hl with hl
        subst hl
        exact ⟨fun x hx => hdig x (List.mem_cons_of_mem _ (Sh.trim_mem hx)), hne⟩
  have hd0 : d0 ≠ 48 := by
    have h1 := revDig_last 18 d hd18
    rw [h.dig] at h1
    simpa using h1
  have hkey : (shT neg d0 ds e).key = shortD d0 ds := by
    unfold DTxt.key
    rw [shT_digs]
    unfold shortD Lib.trimLeftB
    rw [List.dropWhile_cons, if_neg (by simpa using hd0)]
  have hexp : (shT neg d0 ds e).exp = -((Lib.trimRightB ds 48).length : Int) + e := by
    unfold DTxt.exp
    rw [shT_frac]
    unfold shT
    simp only
    rw [exT_exp (by omega) (by omega)]
  -- as many digits as were asked, or one more
  have hdl : ds.length + 1 ≤ n + 1 := by
    have h1 := low_in (n := n) h.q0 h.few.dec rfl hn.1
    have h2 := h.few.d0
    have h3 : d ≤ 10 ^ n := by omega
    have h4 := revDig_len_le (n + 1) d (by rw [Nat.pow_succ]; have : 0 < 10 ^ n := Nat.pow_pos (by omega); omega)
    have h5 := congrArg List.length h.dig
    rw [List.length_reverse, List.length_cons] at h5
    omega
  refine ⟨hok, ?_, ?_, ?_⟩
  · unfold DTxt.low
    rw [hkey, hlen, hexp]
    omega
  · unfold DTxt.high
    rw [hkey, hlen, hexp]
    omega
  · obtain ⟨z, hz⟩ := trimR_rep ds
    have hzl : ds.length = (Lib.trimRightB ds 48).length + z := by
      have := congrArg List.length hz
      rwa [List.length_append, List.length_replicate] at this
    have hdv : d = decN (shortD d0 ds) * 10 ^ z := by
      have h1 := (revDig_dig 18 d hd18).2
      rw [h.dig, hz, ← List.cons_append, decN_zeros] at h1
      exact h1.symm
    rw [shT_digs, hexp]
    have h2 := h.few.hit
    rw [hdv] at h2
    have h3 := hits_down32 z h2
    rwa [show E - (n : Int) + 1 + (z : Int) = -((Lib.trimRightB ds 48).length : Int) + e by omega] at h3
end Go.Proofs.YtgccfdfbnhldbaaGreatDoor.Nb

namespace Go.Proofs.YtgccfdfbnhldbaaGreatDoor.Nb
open Go Go.RowKit Nx

theorem wideB_mod {f : Nat} (_ : f < 4294967296) (h : f % 2147483648 < 2139095040) : wideB f < 18446744073709551616 ∧ wideB f % 9223372036854775808 = wideN (f % 2147483648) := by
  have := wide_lt h
  unfold wideB
  split <;> omega
theorem spec_wide {f : Nat} (hf : f < 4294967296) (h : f % 2147483648 < 2139095040) : specL (wideB f) = [] := by
  have h1 := wideB_mod hf h
  have := wide_lt h
  exact (spec_fin h1.1).2 (by omega)
theorem sgL_wide {f : Nat} (h : f % 2147483648 < 2139095040) : sgL (wideB f) = if 2147483648 ≤ f then [45] else [] := by
  have := wide_lt h
  unfold sgL wideB
  by_cases c : 2147483648 ≤ f
  · rw [if_pos c, if_pos c, if_pos (by omega)]
  · rw [if_neg c, if_neg c, if_neg (by omega)]
set_option maxRecDepth 8000 in
set_option maxHeartbeats 1000000 in
theorem Short32_fin (f X : Nat) (w : World) (hf : f < 4294967296) (hfX : f % 2147483648 = X) (hX : X < 2139095040) (h0 : 0 < X) (hT : Tab64 w) (hP : TabP w) : Calls Tryz.prog 12 #[.float .f32 f] w fun e w' => ∃ (p q n d : Nat) (E : Int) (d0 : UInt8) (ds : List UInt8), ShortSays32 X p q E n d d0 ds ∧ e = .returned (.string ⟨(sgL (wideB f) ++ shortT d0 ds (E + (ds.length + 1 : Nat) - n)).toArray⟩) ∧ Below w.heap.size w w' := by
  obtain ⟨t, ht⟩ := finN32 (f := f) hf (by omega) (by omega)
  obtain ⟨tX, htX⟩ := finN32 (f := X) (by omega) (by omega) (by omega)
  have hoM : oddM32 f = oddM32 X := by unfold oddM32 bigM32; rw [show f / 8388608 % 256 = X / 8388608 % 256 by omega, show f % 8388608 = X % 8388608 by omega]
  have hoX : oddX32 f = oddX32 X := by unfold oddX32 bigX32 bigM32; rw [show f / 8388608 % 256 = X / 8388608 % 256 by omega, show f % 8388608 = X % 8388608 by omega]
  have hF := wideB_mod (f := f) hf (by omega)
  have hcvB := wide_fin hf (by omega)
  have hcv : Hid (floatToFloatBits .f32 f .f64 = some (wideB f)) := Lib.hid hcvB
  have hc0 : ∀ W, (convert 27 25 (.float .f32 f)).run Tryz.prog W = .ok (.float .f64 (wideB f)) W := fun W => conv_up W hcv.out
  clear hcvB
  have hsp : specL (wideB f) = [] := spec_wide hf (by omega)
  obtain ⟨sg, hsg⟩ : ∃ sg, sgL (wideB f) = sg := ⟨_, rfl⟩
  have hsgl : sg.length ≤ 1 := by rw [← hsg]; unfold sgL; split <;> simp
  obtain ⟨ng, hneg⟩ : ∃ ng, decide (2147483648 ≤ f) = ng := ⟨_, rfl⟩
  have HS := Lib.hid (fun W => special_any (wideB f) W hF.1)
  rw [hsp, show decide (([] : List UInt8) ≠ []) = false by simp] at HS
  have HBg := Lib.hid (fun W => begun_any (wideB f) W hF.1)
  rw [hsg] at HBg ⊢
  have HPt := Lib.hid (fun W (hW : Tab64 W) => Parts32_any f t W hW ht)
  rw [hneg, hoM, hoX] at HPt
  obtain ⟨m, hm⟩ : ∃ m, oddM32 X = m := ⟨_, rfl⟩
  obtain ⟨Z, hZ⟩ : ∃ Z, oddX32 X = Z := ⟨_, rfl⟩
  have hmu : m < 18446744073709551616 := by have := htX.up; omega
  have hm0 : m ≠ 0 := by have := htX.od; omega
  have hZu : -10000 ≤ Z ∧ Z ≤ 10000 := by have := htX.x0; have := htX.x1; omega
  rw [hm, hZ] at HPt
  have hab := fun W => Sh.abs_any (wideB f) W hF.1
  rw [hF.2, hfX] at hab
  have HAb : Hid (∀ W, Calls Tryz.prog 40 #[.float .f64 (wideB f)] W fun e w' => e = .returned (.float .f64 (wideN X)) ∧ w' = W) := Lib.hid hab
  clear hab
  have HTT := Lib.hid htX
  have hmf : ∀ (fn : Fn) (first cap : Array Value) (w : World), (Instr.makeFunc fn first cap).run Tryz.prog w = .ok (.func fn first cap) w := fun _ _ _ _ => rfl
  have hA := (Below.refl w.heap.size w).alloc (Nat.le_refl _) (.cells #[.float .f32 f] 27)
  have hc : (w.alloc (.cells #[.float .f32 f] 27)).cell? ⟨w.heap.size, 0, none⟩ = some (.float .f32 f) := by simp [go_sem]
  obtain ⟨W, hW⟩ : ∃ W, w.alloc (.cells #[.float .f32 f] 27) = W := ⟨_, rfl⟩
  have hws : w.heap.size < W.heap.size := by rw [← hW]; simp
  rw [hW] at hA hc
  have HA := Lib.hid hA
  have HT := Lib.hid (And.intro hT hP)
  clear hA hT hP hsp hsg hneg ht htX hoM hoX hfX hf hF
  go_enter Tryz.func12, Tryz.ntmps12
  go_wp2_with fail
  refine (HS.out W).mono ?_
  rintro e w1 ⟨rfl, hw⟩
  obtain rfl := hw.symm
  go_wp2_with fail
  refine (HBg.out W).mono ?_
  rintro e w1 ⟨rfl, d1, b1⟩
  have c1 := (b1.cell (p := ⟨w.heap.size, 0, none⟩) (by exact hws)).trans hc
  have H1 := Lib.hid (And.intro d1 b1)
  clear d1 b1 hc
  go_wp2_with fail
  refine (HPt.out w1 (HT.out.1.below (back_of' HA.out H1.out.2))).mono ?_
  rintro e w2 ⟨rfl, b2⟩
  have hk := b2.trans (((Below.refl w2.heap.size w2).alloc (Nat.le_refl _) (.cells #[.bool ng, .int .u64 (m : Int), .int .i64 Z] 60)).mono b2.size)
  have c2 := (hk.cell (p := ⟨w.heap.size, 0, none⟩) (by exact Nat.lt_of_lt_of_le hws H1.out.2.size)).trans c1
  have H2 := Lib.hid (And.intro (H1.out.1.below hk) (back_of' H1.out.2 hk))
  clear b2 hk c1 H1
  have HAm := Lib.hid (fun V => amount_any ng m Z _ _ 10100 V hmu hZu rfl rfl (by omega) (by omega))
  go_wp2_with fail
  refine (HAm.out _).mono ?_
  rintro e w3 ⟨z, p, q, rfl, r3, hv3, b3⟩
  have c3 := (b3.cell (p := ⟨w.heap.size, 0, none⟩) (by exact Nat.lt_of_lt_of_le hws H2.out.2.size)).trans c2
  have H3 := Lib.hid (And.intro (H2.out.1.below b3) (And.intro (back_of' H2.out.2 b3) r3))
  have hq0 : 0 < q := r3.2.2
  have hval : p * 2 ^ 149 = amt32 X * q := parts_val32 hX HTT.out (by rw [hZ]) (by rw [hZ]) (by rw [hm]; exact hv3)
  have hin := val_in32 hX h0 hq0 hval
  have HFe := Lib.hid (fewest32_any z w.heap.size f (wideB f) p q 10100 X w3 H3.out.2.2 c3 (Nat.lt_of_lt_of_le hws H3.out.2.1.size) hcv.out HAb h0 hX hin.1 hin.2.1 hin.2.2 hval (by omega) (by omega))
  have HV := Lib.hid (And.intro hq0 hval)
  clear c3 c2 r3 hv3 b3 H2 HAm hval hin
  go_wp2_with fail
  refine HFe.out.mono ?_
  rintro e w4 ⟨E, n, d, hf, rfl, b4⟩
  obtain ⟨hd1, hd2, d0, ds, hdig, hdl, hd17⟩ := few_digits32 HV.out.1 hf
  have HF := Lib.hid (show ShortSays32 X p q E n d d0 ds from ⟨HV.out.1, HV.out.2, hf, hdig⟩)
  have H4 := Lib.hid (And.intro (H3.out.1.below b4) (back_of' H3.out.2.1 b4))
  have hE := few_exp32 hf HV.out.1 hX h0 HV.out.2
  have hn := hf.n0
  rw [hdig, hdl]
  clear b4 H3 HFe hf
  go_wp2_with fail
  refine (short_any W.heap.size W.heap.size sg d0 ds _ w4 H4.out.1 (by omega) (by omega) (by omega) H4.out.2.size (HT.out.2.below (back_of' HA.out H4.out.2) HT.out.2.2) (Nat.lt_trans HT.out.2.2 hws)).mono ?_
  rintro e w5 ⟨rfl, b5⟩
  have HB := Lib.hid (back_of' HA.out (H4.out.2.trans b5))
  clear b5
  go_wp2_with fail
  go_ret
  exact ⟨p, q, n, d, E, d0, ds, HF.out, rfl, HB.out⟩

theorem Short32_zero (f : Nat) (w : World) (hf : f < 4294967296) (h0 : f % 2147483648 = 0) (hT : Tab64 w) : Calls Tryz.prog 12 #[.float .f32 f] w fun e w' => e = .returned (.string ⟨(sgL (wideB f) ++ [48]).toArray⟩) ∧ Below w.heap.size w w' := by
  have hF := wideB_mod (f := f) hf (by omega)
  have hcvB := wide_fin hf (by omega)
  have hcv : Hid (floatToFloatBits .f32 f .f64 = some (wideB f)) := Lib.hid hcvB
  have hc0 : ∀ W, (convert 27 25 (.float .f32 f)).run Tryz.prog W = .ok (.float .f64 (wideB f)) W := fun W => conv_up W hcv.out
  clear hcvB
  have hsp : specL (wideB f) = [] := spec_wide hf (by omega)
  obtain ⟨sg, hsg⟩ : ∃ sg, sgL (wideB f) = sg := ⟨_, rfl⟩
  have hsgl : sg.length ≤ 1 := by rw [← hsg]; unfold sgL; split <;> simp
  have HS := Lib.hid (fun W => special_any (wideB f) W hF.1)
  rw [hsp, show decide (([] : List UInt8) ≠ []) = false by simp] at HS
  have HBg := Lib.hid (fun W => begun_any (wideB f) W hF.1)
  rw [hsg] at HBg ⊢
  have HPt := Lib.hid (fun W (hW : Tab64 W) => Parts32_zero f W hW hf h0)
  have HT := Lib.hid hT
  have hA := (Below.refl w.heap.size w).alloc (Nat.le_refl _) (.cells #[.float .f32 f] 27)
  have hc : (w.alloc (.cells #[.float .f32 f] 27)).cell? ⟨w.heap.size, 0, none⟩ = some (.float .f32 f) := by simp [go_sem]
  obtain ⟨W, hW⟩ : ∃ W, w.alloc (.cells #[.float .f32 f] 27) = W := ⟨_, rfl⟩
  have hws : w.heap.size < W.heap.size := by rw [← hW]; simp
  rw [hW] at hA hc
  have HA := Lib.hid hA
  clear hA hT hsp hsg h0 hf hF
  go_enter Tryz.func12, Tryz.ntmps12
  go_wp2_with fail
  refine (HS.out W).mono ?_
  rintro e w1 ⟨rfl, hw⟩
  obtain rfl := hw.symm
  go_wp2_with fail
  refine (HBg.out W).mono ?_
  rintro e w1 ⟨rfl, d1, b1⟩
  have c1 := (b1.cell (p := ⟨w.heap.size, 0, none⟩) (by exact hws)).trans hc
  have H1 := Lib.hid (And.intro d1 b1)
  clear d1 b1 hc
  go_wp2_with fail
  refine (HPt.out w1 (HT.out.below (back_of' HA.out H1.out.2))).mono ?_
  rintro e w2 ⟨rfl, b2⟩
  generalize decide (2147483648 ≤ f) = ng at *
  have hk := b2.trans (((Below.refl w2.heap.size w2).alloc (Nat.le_refl _) (.cells #[.bool ng, .int .u64 0, .int .i64 0] 60)).mono b2.size)
  have H2 := Lib.hid (And.intro (H1.out.1.below hk) (back_of' H1.out.2 hk))
  clear b2 hk c1 H1 HPt
  go_wp2_with fail
  refine (wbyte W.heap.size W.heap.size sg 48 _ H2.out.1 (by omega) H2.out.2.size 48 rfl).mono ?_
  rintro e w3 ⟨rfl, d3, b3⟩
  have hsz := H2.out.2.size
  have H3 := Lib.hid (And.intro d3 (H2.out.2.trans b3))
  clear d3 b3 H2 hsz
  go_wp2_with fail
  refine (bstring W.heap.size W.heap.size _ w3 H3.out.1 H3.out.2.size).mono ?_
  rintro e w4 ⟨rfl, b4⟩
  have HB := Lib.hid (back_of' HA.out (H3.out.2.trans b4))
  clear b4
  go_wp2_with fail
  go_ret
  exact ⟨rfl, HB.out⟩

set_option maxRecDepth 8000 in
/-- Short32 of what is not finite -/
theorem Short32_spec (f : Nat) (l : List UInt8) (w : World) (F : World → Nat) (hF : ∀ W, F W < 18446744073709551616 ∧ specL (F W) = l) (h : l ≠ []) (D : World → World) (hcv : ∀ W, (convert 27 25 (.float .f32 f)).run Tryz.prog W = .ok (.float .f64 (F W)) (D W)) (hD : ∀ W, Below W.heap.size W (D W)) : Calls Tryz.prog 12 #[.float .f32 f] w fun e w' => e = .returned (.string ⟨l.toArray⟩) ∧ Below w.heap.size w w' := by
  have HS : Hid (∀ V W, Calls Tryz.prog 25 #[.float .f64 (F V)] W fun e w' => e = .returned (.tuple #[.string ⟨l.toArray⟩, .bool true]) ∧ w' = W) := Lib.hid (fun V W => by
    have := special_any (F V) W (hF V).1
    rw [(hF V).2, decide_eq_true h] at this
    exact this)
  obtain ⟨S, hS⟩ : ∃ S : ByteArray, (⟨l.toArray⟩ : ByteArray) = S := ⟨_, rfl⟩
  rw [hS] at HS ⊢
  have hA := Lib.hid (((Below.refl w.heap.size w).alloc (Nat.le_refl _) (.cells #[.float .f32 f] 27)))
  have HD := Lib.hid hD
  have hc : (w.alloc (.cells #[.float .f32 f] 27)).cell? ⟨w.heap.size, 0, none⟩ = some (.float .f32 f) := by simp [go_sem]
  clear h hS hF hD
  go_enter Tryz.func12, Tryz.ntmps12
  go_wp2_with fail
  refine (HS.out _ _).mono ?_
  rintro e w1 ⟨rfl, hw⟩
  obtain rfl := hw.symm
  go_wp2_with fail
  go_ret
  exact ⟨rfl, back_of' hA.out (HD.out _)⟩
end Go.Proofs.YtgccfdfbnhldbaaGreatDoor.Nb

namespace Go.Proofs.YtgccfdfbnhldbaaGreatDoor.Nb
open Go Go.RowKit Nx

theorem neg_flip32 {f : Nat} (hf : f < 4294967296) : Op.negFloat .f32 f = (f + 2147483648) % 4294967296 := by
  show f ^^^ 2 ^ (8 + 23) = _
  apply Nat.eq_of_testBit_eq
  intro i
  have e : (f + 2147483648) % 4294967296 = (f / 2147483648 + 1) % 2 * 2 ^ 31 + f % 2 ^ 31 := by
    rw [show (2 : Nat) ^ 31 = 2147483648 by decide]
    omega
  rw [e, Nat.testBit_xor, Nat.testBit_two_pow]
  have hl : f % 2 ^ 31 < 2 ^ 31 := Nat.mod_lt _ (Nat.pow_pos (by omega))
  rw [Nat.mul_comm, Nat.testBit_two_pow_mul_add _ hl]
  by_cases h : i < 31
  · rw [if_pos h, Nat.testBit_mod_two_pow]
    have : ¬ 8 + 23 = i := by omega
    simp [h, this]
  · rw [if_neg h]
    by_cases h2 : i = 31
    · subst h2
      have h3 : f < 2 ^ 32 := hf
      simp only [Nat.testBit_eq_decide_div_mod_eq, show 8 + 23 = 31 by omega, Nat.sub_self, Nat.pow_zero, Nat.div_one, show (2 : Nat) ^ 31 = 2147483648 by decide, decide_true, Bool.xor_true]
      have : f / 2147483648 % 2 = 0 ∨ f / 2147483648 % 2 = 1 := by omega
      rcases this with q | q
      · have : (f / 2147483648 + 1) % 2 % 2 = 1 := by omega
        rw [q, this]; rfl
      · have : (f / 2147483648 + 1) % 2 % 2 = 0 := by omega
        rw [q, this]; rfl
    · have h3 : f.testBit i = false := Nat.testBit_lt_two_pow (Nat.lt_of_lt_of_le hf (by rw [show (4294967296 : Nat) = 2 ^ 32 by decide]; exact Nat.pow_le_pow_right (by omega) (by omega)))
      have h4 : ((f / 2147483648 + 1) % 2).testBit (i - 31) = false := by
        apply Nat.testBit_lt_two_pow
        have := Nat.one_lt_two_pow (n := i - 31) (by omega)
        omega
      have h5 : ¬ 8 + 23 = i := by omega
      rw [h3, h4]
      simp [h5]


theorem fin_inf32 {X : Nat} : (finS X = 2139095040 ↔ 2139095040 ≤ X) ∧ finS X ≤ 2139095040 := by
  unfold finS
  split <;> constructor <;> first | constructor <;> omega | omega
theorem wide_inf {X : Nat} : (wideF X = 9218868437227405312 ↔ 2139095040 ≤ X) ∧ wideF X ≤ 9218868437227405312 := by
  unfold wideF
  split
  · rename_i h
    have := wide_lt h
    constructor
    · constructor <;> omega
    · omega
  · constructor
    · constructor <;> omega
    · omega
theorem conv_down {a b : Nat} (W : World) (h : floatToFloatBits .f64 a .f32 = some b) : (convert 25 27 (.float .f64 a)).run Tryz.prog W = .ok (.float .f32 b) W :=
  run_convert_float_float W 25 27 .f64 .f32 a b (by kernel_rfl) (by kernel_rfl) h
set_option maxRecDepth 8000 in
theorem mcanon32_any (f : Nat) (w : World) (hf : f < 4294967296) : Calls Tryz.prog 49 #[.float .f32 f] w fun e w' => e = .returned (.float .f32 (cn32 f)) ∧ Below w.heap.size w w' := by
  have hb := run_bits32 f
  obtain ⟨c, hc⟩ : ∃ c, cn32 f = c := ⟨_, rfl⟩
  have HC := Lib.hid (fun W => canon_sgl f W hf)
  rw [canon_eq32 hf, hc] at HC
  have hr := run_frombits32 (c : Int)
  have HF := Lib.hid (fun W => of_sgl W)
  rw [hc]
  clear hc
  go_enter Tryz.func49, Tryz.ntmps49
  go_wp2_with fail
  refine (HF.out _).mono ?_
  rintro e w1 ⟨rfl, b1⟩
  have H1 := Lib.hid b1
  clear b1
  go_wp2_with fail
  refine (HC.out _).mono ?_
  rintro e w2 ⟨rfl, b2⟩
  have H2 := Lib.hid (back_of' H1.out b2)
  clear b2 H1
  go_wp2_with fail
  go_ret
  exact ⟨rfl, H2.out⟩
set_option maxRecDepth 8000 in
/-- Parse32 of a special text -/
theorem parse32_spec (f r : Nat) (s : ByteArray) (w : World) (hs : s.data.toList = specL f) (h : specL f ≠ []) (c : World → Nat) (D : World → World) (hcv : ∀ W, (convert 25 27 (.float .f64 (cnN f))).run Tryz.prog W = .ok (.float .f32 (c W)) (D W)) (hD : ∀ W, Below W.heap.size W (D W)) (hc : ∀ W, c W < 4294967296 ∧ cn32 (c W) = r) : Calls Tryz.prog 11 #[.string s] w fun e w' => e = .returned (.tuple #[.float .f32 r, .int .i64 0]) ∧ Below w.heap.size w w' := by
  have hz : (s.size : Int) ≤ 2000 := by
    have h1 : s.size = (specL f).length := by rw [← size_list, hs]
    have h2 : (specL f).length ≤ 4 := by unfold specL; (repeat' split) <;> simp
    omega
  have HU := Lib.hid (unspecial_spec f s w hs h)
  have HC := Lib.hid (fun W W' => mcanon32_any (c W) W' (hc W).1)
  have HR := Lib.hid (fun W => (hc W).2)
  have HD := Lib.hid hD
  obtain ⟨k, hk⟩ : ∃ k, cnN f = k := ⟨_, rfl⟩
  rw [hk] at HU hcv
  clear hs h hk hc hD
  go_enter Tryz.func11, Tryz.ntmps11
  go_wp2_with fail
  refine HU.out.mono ?_
  rintro e w1 ⟨rfl, b1⟩
  have H1 := Lib.hid b1
  clear b1
  go_wp2_with fail
  refine (HC.out w1 _).mono ?_
  rintro e w2 ⟨rfl, b2⟩
  have H2 := Lib.hid (back_of' (back_of' H1.out (HD.out w1)) b2)
  have hr := HR.out w1
  rw [hr]
  clear b2
  go_wp2_with fail
  go_ret2
  exact ⟨rfl, H2.out⟩

set_option maxRecDepth 8000 in
set_option maxHeartbeats 2000000 in
theorem parse32_any (s : ByteArray) (t : DTxt) (w : World) (hs : s.data.toList = t.list) (hok : t.Ok) (hl : s.size ≤ 2000) :
    Calls Tryz.prog 11 #[.string s] w fun e w' => ∃ (f : Nat) (c : Int), e = .returned (.tuple #[.float .f32 f, .int .i64 c]) ∧ t.Says32 f c ∧ Below w.heap.size w w' := by
  obtain ⟨u1, u2, u3⟩ := text_plain hs hok
  have HS := Lib.hid (fun W => unspecial_no s W u1 u2 u3)
  have HU := Lib.hid (fun W => undecimal_any s t W hs hok (by omega))
  have hxr := expZ_range t.ex hok.g3
  have hlen : t.digs.length ≤ 2000 := by
    have h1 : s.size = t.list.length := by rw [← size_list, hs]
    have h2 : t.digs.length ≤ t.list.length := by
      unfold DTxt.digs DTxt.list fracT
      cases t.d2 <;> simp <;> omega
    omega
  have hd2 : (t.d2.getD []).length ≤ t.digs.length := by unfold DTxt.digs; simp
  have hE : -1002000 ≤ t.exp ∧ t.exp ≤ 1000000 := by unfold DTxt.exp; omega
  have hkey := trim_len t.digs
  obtain ⟨Z, hZ⟩ : ∃ Z : ByteArray, (⟨(Lib.trimLeftB t.digs 48).toArray⟩ : ByteArray) = Z := ⟨_, rfl⟩
  have hZl : Z.data.toList = t.key := by rw [← hZ]; rfl
  have hZs : Z.size = t.key.length := by rw [← size_list, hZl]
  have hZd : ∀ b ∈ Z.data.toList, 48 ≤ b.toNat ∧ b.toNat ≤ 57 := by
    have hd : IsDig t.digs := hok.g1.append (by
      cases h2 : t.d2 with
      | none => simp [IsDig]
      | some l => exact (hok.g2 l h2).1)
    rw [hZl]; exact hd.trim
  have hZD : decN Z.data.toList = decN t.digs := by rw [hZl]; exact decN_trim _
  rw [hZ] at HU
  have hk2 : Z.size ≤ 2000 := by rw [hZs]; unfold DTxt.key; omega
  have HV : Hid (∀ W, Calls Tryz.prog 34 #[.agg #[.bool t.neg, .string Z, .int .i64 t.exp]] W fun e W' => ((t.high ∧ e = .returned (.tuple #[.pointer none, .bool false])) ∨ (¬ t.high ∧ ∃ z, e = .returned (.tuple #[.pointer (some ⟨z, 0, none⟩), .bool true]) ∧ Calls Tryz.prog 50 #[.pointer (some ⟨z, 0, none⟩)] W' fun e' W2 => ∃ (X : Nat) (ex : Bool), e' = .returned (.tuple #[.float .f32 (finS X), .bool ex]) ∧ t.Amt32 X ∧ Below W'.heap.size W' W2)) ∧ Below W.heap.size W W') := Lib.hid (fun W => by
    by_cases hlo : t.low
    · refine (value_none t.neg Z t.exp W (by omega) (by omega) (by rw [hZs]; exact hlo)).mono ?_
      rintro e W' ⟨z, rfl, hr, hb⟩
      refine ⟨.inr ⟨fun h => h.1 hlo, z, rfl, (float32_nil z W' hr).mono ?_⟩, hb⟩
      rintro e' W2 ⟨rfl, hb2⟩
      exact ⟨0, true, rfl, .inl ⟨hlo, rfl⟩, hb2⟩
    · have h0 : 0 < Z.size := by
        rw [hZs]
        rcases Nat.eq_zero_or_pos t.key.length with q | q
        · exact absurd (.inl q) hlo
        · exact q
      by_cases hhi : 400 < t.exp + (t.key.length : Int) - 1
      · refine (value_over t.neg Z t.exp W h0 (by omega) (by omega) (by rw [hZs]; exact hhi)).mono ?_
        rintro e W' ⟨rfl, hb⟩
        exact ⟨.inl ⟨⟨hlo, hhi⟩, rfl⟩, hb⟩
      · have hnh : ¬ t.high := fun h => hhi h.2
        have h1 : -400 ≤ t.exp + (t.key.length : Int) - 1 := by
          by_cases h : t.exp + (t.key.length : Int) - 1 < -400
          · exact absurd (.inr h) hlo
          · omega
        refine (value_mid t.neg Z t.exp _ _ 10000 W hZd h0 (by omega) (by rw [hZs]; exact h1) (by rw [hZs]; omega) rfl rfl (by omega) (by omega)).mono ?_
        rintro e W' ⟨z, p, q, rfl, hr, he, hb⟩
        have hq0 : 0 < q := hr.2.2
        refine ⟨.inr ⟨hnh, z, rfl, (float32_any z p q 10000 W' hr (by omega) (by omega)).mono ?_⟩, hb⟩
        rintro e' W2 ⟨X, ex, rfl, hX, hb2⟩
        rw [hZD] at he
        exact ⟨X, ex, rfl, .inr ⟨hlo, hnh, p, q, hq0, he, hX⟩, hb2⟩)
  have hs2 : (s.size : Int) ≤ 2000 := by omega
  obtain ⟨E, hEe⟩ : ∃ E, t.exp = E := ⟨_, rfl⟩
  obtain ⟨neg, hneg⟩ : ∃ n, t.neg = n := ⟨_, rfl⟩
  have HN := Lib.hid hneg
  rw [hEe, hneg] at HU HV
  clear hxr hlen hd2 hE hkey hZ hZl hZs hZd hZD hk2 hEe hneg u1 u2 u3 hs hok
  go_enter Tryz.func11, Tryz.ntmps11
  go_wp2_with fail
  refine (HS.out w).mono ?_
  rintro e w1 ⟨rfl, hw⟩
  obtain rfl := hw.symm
  go_wp2_with fail
  refine (HU.out w).mono ?_
  rintro e w1 ⟨rfl, b1⟩
  have hb1 := b1.alloc b1.size (.cells #[.bool neg, .string Z, .int .i64 E] 73)
  have c1 : (w1.alloc (.cells #[.bool neg, .string Z, .int .i64 E] 73)).cell? ⟨w1.heap.size, 0, none⟩ = some (.bool neg) := by simp [go_sem]
  have hl1 : w1.heap.size < (w1.alloc (.cells #[.bool neg, .string Z, .int .i64 E] 73)).heap.size := by simp
  have HB1 := Lib.hid (And.intro hb1 (And.intro c1 hl1))
  clear b1 hb1 c1 hl1
  go_wp2_with fail
  refine (HV.out _).mono ?_
  rintro e w2 ⟨hh, b2⟩
  have HB2 := Lib.hid (And.intro (back_of' HB1.out.1 b2) (And.intro ((b2.cell (p := ⟨w1.heap.size, 0, none⟩) HB1.out.2.2).trans HB1.out.2.1) (Nat.lt_of_lt_of_le HB1.out.2.2 b2.size)))
  clear b2
  rcases hh with ⟨hhi, rfl⟩ | ⟨hnh, z, rfl, hc⟩
  · have HF : Hid (t.Says32 0 5) := Lib.hid (.inl ⟨rfl, rfl, .inl hhi⟩)
    clear hhi
    go_wp2_with fail
    go_ret2
    exact ⟨0, 5, rfl, HF.out, HB2.out.1⟩
  · have HC := Lib.hid hc
    clear hc hnh
    go_wp2_with fail
    refine HC.out.mono ?_
    rintro e w3 ⟨X, ex, rfl, ha, b3⟩
    have HB3 := Lib.hid (back_of' HB2.out.1 b3)
    have c3 := (b3.cell (p := ⟨w1.heap.size, 0, none⟩) HB2.out.2.2).trans HB2.out.2.1
    have HA := Lib.hid ha
    obtain ⟨F, hF⟩ : ∃ F, finS X = F := ⟨_, rfl⟩
    have hF1 := fin_inf32 (X := X)
    rw [hF] at hF1 ⊢
    obtain ⟨G, hG⟩ : ∃ G, wideF X = G := ⟨_, rfl⟩
    have hG1 := wide_inf (X := X)
    rw [hG] at hG1
    have hcv : ∀ W, (convert 27 25 (.float .f32 F)).run Tryz.prog W = .ok (.float .f64 G) W := fun W => by
      rw [← hF, ← hG]
      exact conv_up W (wide_fins X)
    have HI := Lib.hid (fun W => inf_any G W hG1.2)
    clear b3 ha
    by_cases hov : 2139095040 ≤ X
    · have hd : decide (G = 9218868437227405312) = true := by simpa using hG1.1.2 hov
      rw [hd] at HI
      have HF : Hid (t.Says32 0 5) := Lib.hid (.inl ⟨rfl, rfl, .inr ⟨X, HA.out, hov⟩⟩)
      clear hov hd hF hF1 hG hG1
      go_wp2_with fail
      refine (HI.out _).mono ?_
      rintro e w4 ⟨rfl, hw⟩
      obtain rfl := hw.symm
      go_wp2_with fail
      go_ret2
      exact ⟨0, 5, rfl, HF.out, HB3.out⟩
    · have hd : decide (G = 9218868437227405312) = false := by
        apply decide_eq_false
        intro h
        exact hov (hG1.1.1 h)
      rw [hd] at HI
      have hFX : F = X := by rw [← hF]; unfold finS; rw [if_pos (by omega)]
      cases neg
      · have HF : Hid (t.Says32 F 0) := Lib.hid (.inr ⟨rfl, X, HA.out, by omega, by rw [HN.out, hFX]; rfl⟩)
        clear hov hd hF hF1 hFX hG hG1
        go_wp2_with fail
        refine (HI.out _).mono ?_
        rintro e w4 ⟨rfl, hw⟩
        obtain rfl := hw.symm
        go_wp2_with fail
        go_ret2
        exact ⟨F, 0, rfl, HF.out, HB3.out⟩
      · obtain ⟨F2, hF2⟩ : ∃ F2, F + 2147483648 = F2 := ⟨_, rfl⟩
        have hneg : ∀ W, (Op.unary .neg (.float .f32 F)).run Tryz.prog W = .ok (.float .f32 F2) W := fun W => by
          have h := neg_flip32 (f := F) (by omega)
          rw [Nat.mod_eq_of_lt (by omega), hF2] at h
          rw [← h]
          rfl
        have HF : Hid (t.Says32 F2 0) := Lib.hid (.inr ⟨rfl, X, HA.out, by omega, by rw [HN.out, ← hF2, hFX]; rfl⟩)
        clear hov hd hF hF1 hFX hF2 hG hG1
        go_wp2_with fail
        refine (HI.out _).mono ?_
        rintro e w4 ⟨rfl, hw⟩
        obtain rfl := hw.symm
        go_wp2_with fail
        go_ret2
        exact ⟨F2, 0, rfl, HF.out, HB3.out⟩
end Go.Proofs.YtgccfdfbnhldbaaGreatDoor.Nb
