/- E2 in one text. -/
import Derived.Test.YthnmfcjodobkbaaGreatDoorP04
import Derived.Test.YthnmfcjodobkbaaGreatDoorP05
import Derived.Laws.RangeString

namespace Go.Proofs.YthnmfcjodobkbaaGreatDoor.Nb
open Go Go.RowKit

/-- a place k in the text s lies in block b -/
def CurAt (w : World) (b : Nat) (s : ByteArray) (k : Nat) : Prop :=
  b < w.heap.size ∧ w.cell? ⟨b, 0, none⟩ = some (.string s) ∧ w.cell? ⟨b, 1, none⟩ = some (.int .i64 (k : Nat)) ∧ w.frozen? ⟨b, 1, none⟩ = false
theorem CurAt.below {w w' : World} {b k B : Nat} {s : ByteArray} (h : CurAt w b s k) (hb : Below B w w') (hB : w.heap.size ≤ B) : CurAt w' b s k := by
  obtain ⟨h1, h2, h3, h4⟩ := h
  have q : b < B := by omega
  exact ⟨Nat.lt_of_lt_of_le h1 hb.size, (hb.cell (p := ⟨b, 0, none⟩) q).trans h2, (hb.cell (p := ⟨b, 1, none⟩) q).trans h3, (hb.frozen (p := ⟨b, 1, none⟩) q).trans h4⟩
theorem CurAt.set {w : World} {b k : Nat} {s : ByteArray} (h : CurAt w b s k) (k' : Nat) : CurAt (w.setCell ⟨b, 1, none⟩ (.int .i64 (k' : Nat))) b s k' := by
  obtain ⟨h1, h2, h3, h4⟩ := h
  refine ⟨by simpa [World.setCell] using h1, ?_, ?_, ?_⟩
  · simp [go_sem, h2]
  · simp [go_sem, h3]
  · simp [go_sem, h4]

/-- every block but one stands as it stood -/
structure Kept (w w' : World) (b : Nat) : Prop where
  size : w.heap.size ≤ w'.heap.size
  block : ∀ k, k < w.heap.size → k ≠ b → w'.heap[k]? = w.heap[k]?
theorem Kept.refl (w : World) (b : Nat) : Kept w w b := ⟨Nat.le_refl _, fun _ _ _ => rfl⟩
theorem Kept.trans {u v w : World} {b : Nat} (h : Kept u v b) (k : Kept v w b) : Kept u w b :=
  ⟨Nat.le_trans h.size k.size, fun i hi hn => (k.block i (Nat.lt_of_lt_of_le hi h.size) hn).trans (h.block i hi hn)⟩
theorem Kept.of_below {w w' : World} {b : Nat} (h : Below w.heap.size w w') : Kept w w' b := ⟨h.size, fun k hk _ => h.block k hk⟩
theorem Kept.setCell {w w' : World} {b o : Nat} (h : Kept w w' b) (v : Value) : Kept w (w'.setCell ⟨b, o, none⟩ v) b :=
  ⟨by simpa [World.setCell] using h.size, fun k hk hn => (Below.heap_setCell w' ⟨b, o, none⟩ v k hn).trans (h.block k hk hn)⟩
theorem Kept.drewN {w w' : World} {b : Nat} (h : Kept w w' b) (n : Nat) : Kept w (w'.drewN n) b := ⟨h.size, h.block⟩
theorem Kept.cell {w w' : World} {b : Nat} (h : Kept w w' b) {p : Addr} (hp : p.block < w.heap.size) (hn : p.block ≠ b) : w'.cell? p = w.cell? p := World.cell?_of_block (w := w) (h.block p.block hp hn)
theorem Kept.frozen {w w' : World} {b : Nat} (h : Kept w w' b) {p : Addr} (hp : p.block < w.heap.size) (hn : p.block ≠ b) : w'.frozen? p = w.frozen? p := World.frozen?_of_block (w := w) (h.block p.block hp hn)

set_option maxRecDepth 8000 in
theorem end_any (b k : Nat) (s : ByteArray) (w : World) (h : CurAt w b s k) (d : Bool) (hd : d = decide (k = s.size)) :
    Calls Tryz.prog 63 #[.pointer (some ⟨b, 0, none⟩)] w fun e w' => e = .returned (.bool d) ∧ ∃ n, w' = w.drewN n := by
  obtain ⟨h1, h2, h3, h4⟩ := h
  have hk' : ((k : Int) == (s.size : Int)) = d := by
    rw [hd]
    by_cases c : k = s.size
    · simp [c]
    · simp [c]; omega
  clear hd
  go_enter Tryz.func63, Tryz.ntmps63
  go_wp2_with fail
  go_quiet (fail)
  go_wp2_with fail
  go_ret
  exact ⟨rfl, _, rfl⟩

set_option maxRecDepth 8000 in
theorem prefix_any (s p : ByteArray) (w : World) (d : Bool) (hd : d = (decide (p.size ≤ s.size) && (s.extract 0 p.size).toList == p.toList)) :
    Calls Tryz.prog 46 #[.string s, .string p] w fun e w' => e = .returned (.bool d) ∧ w' = w := by
  have H : Hid (Calls Tryz.prog 90 #[.string s, .string p] w fun e w' => e = .returned (.bool d) ∧ w' = w) := Lib.hid (by
    by_cases c : p.size ≤ s.size
    · have hc : (p.size : Int) ≤ (s.size : Int) := by omega
      have hd' : ((s.extract 0 p.size).toList == p.toList) = d := by rw [hd]; simp [c]
      clear hd
      go_enter Tryz.func90, Tryz.ntmps90
      go_wp2_with fail
      go_ret
      exact ⟨rfl, rfl⟩
    · have hc : ¬ (p.size : Int) ≤ (s.size : Int) := by omega
      have hd' : d = false := by rw [hd]; simp [c]
      subst hd'
      clear hd
      go_enter Tryz.func90, Tryz.ntmps90
      go_wp2_with fail
      go_ret
      exact ⟨rfl, rfl⟩)
  clear hd
  go_enter Tryz.func46, Tryz.ntmps46
  go_wp2_with fail
  refine H.out.mono ?_
  rintro e w1 ⟨rfl, rfl⟩
  go_wp2_with fail
  go_ret
  exact ⟨rfl, rfl⟩

theorem ext_ext (s : ByteArray) (k n : Nat) (h : k + n ≤ s.size) : (s.extract k s.size).extract 0 n = s.extract k (k + n) := by
  apply ByteArray.ext
  simp only [ByteArray.data_extract, Array.extract_extract]
  congr 1
  have : s.data.size = s.size := rfl
  omega
theorem ext_size (s : ByteArray) (k : Nat) (h : k ≤ s.size) : (s.extract k s.size).size = s.size - k := by
  rw [ByteArray.size_extract]; omega

theorem quiet_one {P : Program} {f : FuncId} {args : Array Value} {w : World} {a : Nat} {v : Value}
    (h : Calls P f args (w.drewN a) fun e w' => e = .returned v ∧ ∃ m, w' = (w.drewN a).drewN m) :
    Calls P f args (w.drewN a) fun e w'' => e = .returned v ∧ ∃ m, w'' = w.drewN m :=
  h.mono fun _ _ ⟨h1, m, h2⟩ => ⟨h1, a + m, by rw [h2, World.drewN_drewN]⟩
theorem below_de {B : Nat} {a w : World} (h : Below B a w) (n : Nat) : Below B a (w.drewN n) := ⟨h.os, h.tape, h.output, h.size, h.block⟩
theorem prefix_quiet (s p : ByteArray) (w : World) (d : Bool) (hd : d = (decide (p.size ≤ s.size) && (s.extract 0 p.size).toList == p.toList)) :
    Calls Tryz.prog 46 #[.string s, .string p] w fun e w' => e = .returned (.bool d) ∧ ∃ m, w' = w.drewN m :=
  (prefix_any s p w d hd).mono fun _ _ h => ⟨h.1, 0, h.2⟩

set_option maxRecDepth 8000 in
theorem take_yes (b k : Nat) (s p : ByteArray) (w : World) (h : CurAt w b s k) (hk : k + p.size ≤ s.size) (hs : s.size ≤ 4611686018427387904) (hp : s.extract k (k + p.size) = p) :
    Calls Tryz.prog 22 #[.pointer (some ⟨b, 0, none⟩), .string p] w fun e w' => e = .returned (.bool true) ∧ CurAt w' b s (k + p.size) ∧ Below b w w' ∧ Kept w w' b := by
  have HP := Lib.hid (fun j => prefix_quiet (s.extract k s.size) p (w.drewN j) true (by
    rw [ext_ext s k p.size hk, hp, ext_size s k (by omega)]
    simp; omega))
  have HC := Lib.hid h
  obtain ⟨h1, h2, h3, h4⟩ := h
  have hks : (k : Int) ≤ (s.size : Int) := by omega
  have hwr : IntKind.i64.wrap ((k : Int) + (p.size : Int)) = ((k + p.size : Nat) : Int) := by rw [IntKind.wrap_i64]; omega
  clear hp
  go_enter Tryz.func22, Tryz.ntmps22
  go_wp2_with fail
  go_quiet ((go_at_call 46; exact quiet_one (HP.out _)))
  go_wp2_with fail
  go_ret
  exact ⟨rfl, CurAt.set (show CurAt (w.drewN _) b s k from HC.out) (k + p.size), (below_de (Below.refl _ _) _).setCell (p := ⟨b, 1, none⟩) (Nat.le_refl _) _, ((Kept.refl w b).drewN _).setCell _⟩

set_option maxRecDepth 8000 in
theorem take_no (b k : Nat) (s p : ByteArray) (w : World) (h : CurAt w b s k) (hk : k ≤ s.size) (hp : ¬ (k + p.size ≤ s.size ∧ (s.extract k (k + p.size)).toList = p.toList)) :
    Calls Tryz.prog 22 #[.pointer (some ⟨b, 0, none⟩), .string p] w fun e w' => e = .returned (.bool false) ∧ ∃ n, w' = w.drewN n := by
  have HP := Lib.hid (fun j => prefix_quiet (s.extract k s.size) p (w.drewN j) false (by
    by_cases c : k + p.size ≤ s.size
    · rw [ext_ext s k p.size c]
      have c2 : ¬ (s.extract k (k + p.size)).toList = p.toList := fun e => hp ⟨c, e⟩
      simp [c2]
    · rw [ext_size s k hk]
      simp; omega))
  have HC := Lib.hid h
  obtain ⟨h1, h2, h3, h4⟩ := h
  have hks : (k : Int) ≤ (s.size : Int) := by omega
  clear hp
  go_enter Tryz.func22, Tryz.ntmps22
  go_wp2_with fail
  go_quiet ((go_at_call 46; exact quiet_one (HP.out _)))
  go_wp2_with fail
  go_ret
  exact ⟨rfl, _, rfl⟩

theorem sub_get (s : ByteArray) (k i : Nat) (h : i < (s.extract k s.size).size) : ((s.extract k s.size)[i]'h) = s.data.toList.getD (k + i) 0 := by
  have hs : k + i < s.size := by rw [ByteArray.size_extract] at h; omega
  have hs' : k + i < s.data.size := hs
  rw [ByteArray.getElem_eq_getElem_data]
  simp only [ByteArray.data_extract, Array.getElem_extract, List.getD_eq_getElem?_getD, Array.getElem?_toList]
  rw [Array.getElem?_eq_getElem hs']
  rfl

def DigSt (w : World) (b : Nat) (s : ByteArray) (k n i : Nat) (w' : World) : Prop :=
  i ≤ n ∧ CurAt w' b s (k + i) ∧ (Below b w w' ∧ Kept w w' b) ∧ w'.heap.size = w.heap.size

set_option maxRecDepth 8000 in
set_option maxHeartbeats 1000000 in
theorem digits_any (b k n : Nat) (s : ByteArray) (w : World) (h : CurAt w b s k) (hk : k + n ≤ s.size) (hs : s.size ≤ 4611686018427387904)
    (hd : ∀ i, i < n → 48 ≤ (s.data.toList.getD (k + i) 0).toNat ∧ (s.data.toList.getD (k + i) 0).toNat ≤ 57)
    (he : k + n = s.size ∨ (s.data.toList.getD (k + n) 0).toNat < 48 ∨ (57 < (s.data.toList.getD (k + n) 0).toNat ∧ (s.data.toList.getD (k + n) 0).toNat < 128)) :
    Calls Tryz.prog 23 #[.pointer (some ⟨b, 0, none⟩)] w fun e w' => e = .returned (.string (s.extract k (k + n))) ∧ CurAt w' b s (k + n) ∧ Below b w w' ∧ Kept w w' b := by
  have H0 := Lib.hid (show DigSt w b s k n 0 w from ⟨Nat.zero_le _, h, ⟨Below.refl _ _, Kept.refl _ _⟩, rfl⟩)
  have HD := Lib.hid (And.intro hd he)
  have HK := Lib.hid (And.intro hk hs)
  obtain ⟨h1, h2, h3, h4⟩ := h
  have hks : (k : Int) ≤ (s.size : Int) := by omega
  obtain ⟨t, ht⟩ : ∃ t, s.extract k s.size = t := ⟨_, rfl⟩
  have HT := Lib.hid ht
  have hts := ext_size s k (by omega)
  rw [ht] at hts
  clear hd he hk hs
  go_enter Tryz.func23, Tryz.ntmps23
  go_wp2_with fail
  go_loopw [5] (fun r wr => ∃ (i : Nat) (w1 : World), w1.iter t i = wr ∧ Hid (DigSt w b s k n i w1)) (fun _ wr => t.size - wr.iterPos w.heap.size)
  case atStart => exact ⟨0, w, rfl, H0⟩
  case round =>
    obtain ⟨i, w1, rfl, hp⟩ := hrel
    obtain ⟨m, hm⟩ : ∃ m, k + i = m := ⟨_, rfl⟩
    have hsz := hp.out.2.2.2
    have d1 := hp.out.2.1.2.1
    have d2 : w1.cell? ⟨b, 1, none⟩ = some (.int .i64 (m : Nat)) := by rw [← hm]; exact hp.out.2.1.2.2.1
    have d3 := hp.out.2.1.2.2.2
    have d0 : b < w1.heap.size := hp.out.2.1.1
    by_cases hi : i < t.size
    · have hg : (t[i]'hi) = s.data.toList.getD (k + i) 0 := by
        have := HT.out; subst this; exact sub_get s k i hi
      obtain ⟨c, hc⟩ : ∃ c, (t[i]'hi) = c := ⟨_, rfl⟩
      have hlt : c.toNat < 128 := by
        rw [← hc, hg]
        rcases Nat.lt_or_ge i n with q | q
        · have := HD.out.1 i q; omega
        · have := hp.out.1
          have e : i = n := by omega
          rcases HD.out.2 with q2 | q2 | q2
          · omega
          · rw [e]; omega
          · rw [e]; omega
      have hnx : ∀ ty, (Instr.next (.pointer (some ⟨w.heap.size, 0, none⟩)) true ty).run Tryz.prog (w1.iter t i) = .ok (.tuple #[.bool true, .int .i64 i, .int .i32 c.toNat]) (w1.iter t (i + 1)) := by
        intro ty
        have := run_next_ascii (P := Tryz.prog) w1 t i ty hi (by rw [hc]; exact hlt)
        rw [hsz, hc] at this
        exact this
      rcases Nat.lt_or_ge i n with q | q
      · have hdg := HD.out.1 i q
        rw [← hg, hc] at hdg
        have g1 : ¬ (c.toNat : Int) < 48 := by omega
        have g2 : ¬ (57 : Int) < (c.toNat : Int) := by omega
        obtain ⟨m1, hm1⟩ : ∃ m1, k + (i + 1) = m1 := ⟨_, rfl⟩
        have hwr : wrap64 ((m : Int) + 1) = (m1 : Int) := by have h0 := HK.out; unfold wrap64; omega
        have HM := Lib.hid (And.intro hm hm1)
        have e1 : (w1.iter t (i + 1)).cell? ⟨b, 1, none⟩ = some (.int .i64 (m : Int)) := by rw [World.iter, World.cell?_alloc_past _ _ _ (by exact d0)]; exact d2
        have e2 : (w1.iter t (i + 1)).frozen? ⟨b, 1, none⟩ = false := by rw [World.iter, World.frozen?_alloc_past _ _ _ (by exact d0)]; exact d3
        have HC := Lib.hid (And.intro hc (And.intro hg hdg))
        have HE := Lib.hid (show ((w1.iter t (i + 1)).setCell ⟨b, 1, none⟩ (.int .i64 (m1 : Int))).iterPos w.heap.size = i + 1 ∧ (w1.iter t i).iterPos w.heap.size = i from by
          constructor
          · rw [World.iter, World.setCell_alloc_past _ _ _ _ d0, ← hsz]
            have := World.iterPos_iter (w1.setCell ⟨b, 1, none⟩ (.int .i64 (m1 : Int))) t (i + 1)
            have e5 : (w1.setCell ⟨b, 1, none⟩ (.int .i64 (m1 : Int))).heap.size = w1.heap.size := by simp [World.setCell]
            rw [e5] at this
            exact this
          · rw [← hsz]; simp)
        clear hc hg hdg hlt d1 d2 d3 hm hm1
        go_wp2_with fail
        go_roundw
        case rel => exact ⟨i + 1, w1.setCell ⟨b, 1, none⟩ (.int .i64 (m1 : Int)), (World.setCell_alloc_past _ _ _ _ d0).symm, Lib.hid ⟨q, by rw [← HM.out.2]; exact hp.out.2.1.set _, ⟨hp.out.2.2.1.1.setCell (p := ⟨b, 1, none⟩) (Nat.le_refl _) _, hp.out.2.2.1.2.setCell _⟩, by simpa [World.setCell] using hsz⟩⟩
        case measure => rw [HE.out.1, HE.out.2]; omega
      · have hin : i = n := by have := hp.out.1; omega
        subst hin
        have hstop : c.toNat < 48 ∨ 57 < c.toNat := by
          rw [← hc, hg]
          rcases HD.out.2 with q2 | q2 | q2
          · omega
          · exact .inl q2
          · exact .inr q2.1
        have hki : (k : Int) ≤ (m : Int) := by omega
        have hki2 : (m : Int) ≤ (s.size : Int) := by have := HK.out; omega
        have HM := Lib.hid hm
        have e0 : (w1.iter t (i + 1)).cell? ⟨b, 0, none⟩ = some (.string s) := by rw [World.iter, World.cell?_alloc_past _ _ _ (by exact d0)]; exact d1
        have e1 : (w1.iter t (i + 1)).cell? ⟨b, 1, none⟩ = some (.int .i64 (m : Int)) := by rw [World.iter, World.cell?_alloc_past _ _ _ (by exact d0)]; exact d2
        have HF := Lib.hid (show CurAt (w1.iter t (i + 1)) b s (k + i) ∧ Below b w (w1.iter t (i + 1)) ∧ Kept w (w1.iter t (i + 1)) b from ⟨hp.out.2.1.below ((Below.refl _ _).alloc (Nat.le_refl _) _) (Nat.le_refl _), hp.out.2.2.1.1.alloc (by omega) _, hp.out.2.2.1.2.trans (Kept.of_below ((Below.refl _ _).alloc (Nat.le_refl _) _))⟩)
        clear hc hg hlt d1 d2 d3 hp hm
        rcases hstop with g1 | g1
        · have g1' : (c.toNat : Int) < 48 := by omega
          go_wp2_with fail
          go_quiet (fail)
          go_wp2_with fail
          go_ret
          exact ⟨(show Ending.returned (.string (s.extract k m)) = Ending.returned (.string (s.extract k (k + i))) by rw [HM.out]), HF.out.1, below_de HF.out.2.1 _, HF.out.2.2.drewN _⟩
        · have g1' : ¬ (c.toNat : Int) < 48 := by omega
          have g2' : (57 : Int) < (c.toNat : Int) := by omega
          go_wp2_with fail
          go_quiet (fail)
          go_wp2_with fail
          go_ret
          exact ⟨(show Ending.returned (.string (s.extract k m)) = Ending.returned (.string (s.extract k (k + i))) by rw [HM.out]), HF.out.1, below_de HF.out.2.1 _, HF.out.2.2.drewN _⟩
    · have hin : i = n := by have := hp.out.1; have := HK.out; omega
      subst hin
      have hnx : ∀ ty, (Instr.next (.pointer (some ⟨w.heap.size, 0, none⟩)) true ty).run Tryz.prog (w1.iter t i) = .ok (.tuple #[.bool false]) (w1.iter t i) := by
        intro ty
        have := run_next_end (P := Tryz.prog) w1 t i ty hi
        rw [hsz] at this
        exact this
      have hki : (k : Int) ≤ (m : Int) := by omega
      have hki2 : (m : Int) ≤ (s.size : Int) := by have := HK.out; omega
      have HM := Lib.hid hm
      have e0 : (w1.iter t i).cell? ⟨b, 0, none⟩ = some (.string s) := by rw [World.iter, World.cell?_alloc_past _ _ _ (by exact d0)]; exact d1
      have e1 : (w1.iter t i).cell? ⟨b, 1, none⟩ = some (.int .i64 (m : Int)) := by rw [World.iter, World.cell?_alloc_past _ _ _ (by exact d0)]; exact d2
      have HF := Lib.hid (show CurAt (w1.iter t i) b s (k + i) ∧ Below b w (w1.iter t i) ∧ Kept w (w1.iter t i) b from ⟨hp.out.2.1.below ((Below.refl _ _).alloc (Nat.le_refl _) _) (Nat.le_refl _), hp.out.2.2.1.1.alloc (by omega) _, hp.out.2.2.1.2.trans (Kept.of_below ((Below.refl _ _).alloc (Nat.le_refl _) _))⟩)
      clear d1 d2 d3 hp hm
      go_wp2_with fail
      go_quiet (fail)
      go_wp2_with fail
      go_ret
      exact ⟨(show Ending.returned (.string (s.extract k m)) = Ending.returned (.string (s.extract k (k + i))) by rw [HM.out]), HF.out.1, below_de HF.out.2.1 _, HF.out.2.2.drewN _⟩
end Go.Proofs.YthnmfcjodobkbaaGreatDoor.Nb
