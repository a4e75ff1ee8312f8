/- RE2 RE3 in one text. -/
import Derived.Test.YtbidlkmagbjllaaGreatDoorP28
import Derived.Test.YtbidlkmagbjllaaGreatDoorP38
import Derived.Lib.OthersKept
import Derived.Test.YtbidlkmagbjllaaGreatDoorP22

namespace Go.Proofs.YtbidlkmagbjllaaGreatDoor.Bg
open Go Go.RowKit

/-- the answer's block and the decimal's stand side by side -/
structure RdW (w wx : World) (neg : Bool) (p : Value) (x : Int) : Prop where
  d : Nb.DecAt wx (w.heap.size + 1) (.bool neg) p (.int .i64 x)
  r : Nb.DecAt wx w.heap.size (.bool false) (.pointer none) (.int .i64 0)
  b : Below w.heap.size w wx
/-- a text's parts up to place j -/
structure RdT (s : ByteArray) (neg : Bool) (d1 : List UInt8) (d2 : Option (List UInt8)) (j : Nat) : Prop where
  e : s.data.toList = Nb.sgn neg ++ (d1 ++ (Nb.fracT d2 ++ s.data.toList.drop j))
  g1 : Nb.IsDig d1
  n1 : d1 ≠ []
  g2 : ∀ l, d2 = some l → Nb.IsDig l ∧ l ≠ []
  j : j ≤ s.size
/-- what Read answers -/
def ReadP (w : World) (s : ByteArray) (e : Ending) (w' : World) : Prop :=
  ∃ (neg : Bool) (pa : Option Addr) (x : Int) (ok : Bool), e = .returned (.tuple #[.agg #[.bool neg, .pointer pa, .int .i64 x], .bool ok]) ∧ Below w.heap.size w w' ∧
    (ok = true → ∃ t : Nb.DTxt, t.Ok ∧ s.data.toList = t.list ∧ neg = t.neg ∧ x = t.expR ∧ ∃ p : Addr, pa = some p ∧ w.heap.size ≤ p.block ∧ IntAt w' p (Nb.decN t.digs : Int) (s.size + 1))
/-- a text's part between two places -/
theorem part_dig {s : ByteArray} {i j : Nat} (h : DigEnd s i j) (hj : j ≤ s.size) : Nb.IsDig ((s.data.toList.drop i).take (j - i)) := by
  intro x hx
  obtain ⟨k, hk, rfl⟩ := List.mem_iff_getElem.1 hx
  have hl : k < j - i := by
    have := hk
    rw [List.length_take] at this
    omega
  have := h.1 (i + k) (by omega) (by omega)
  rw [List.getElem_take, List.getElem_drop]
  rwa [List.getD_eq_getElem?_getD, List.getElem?_eq_getElem (by simp; omega)] at this
theorem part_ne {s : ByteArray} {i j : Nat} (h : i < j) (hj : j ≤ s.size) : (s.data.toList.drop i).take (j - i) ≠ [] := by
  intro e
  have := congrArg List.length e
  rw [List.length_take, List.length_drop, Nb.size_list] at this
  simp at this
  omega
theorem part_cut {s : ByteArray} {i j : Nat} (h : i ≤ j) : s.data.toList.drop i = (s.data.toList.drop i).take (j - i) ++ s.data.toList.drop j := by
  have := (List.take_append_drop (j - i) (s.data.toList.drop i)).symm
  rwa [List.drop_drop, show i + (j - i) = j by omega] at this
theorem drop_cons {s : ByteArray} {j : Nat} (h : j < s.size) : s.data.toList.drop j = s[j] :: s.data.toList.drop (j + 1) := by
  rw [List.drop_eq_getElem_cons (by simpa using h)]
  rfl
theorem RdW.set0 {w wx : World} {neg : Bool} {p : Value} {x : Int} (h : RdW w wx neg p x) (b : Bool) : RdW w (wx.setCell ⟨w.heap.size + 1, 0, none⟩ (.bool b)) b p x := by
  obtain ⟨⟨h1, h2, h3, h4, h5, h6, h7⟩, hr, hb⟩ := h
  refine ⟨⟨by simpa [World.setCell] using h1, ?_, ?_, ?_, ?_, ?_, ?_⟩, hr.kept ((Nb.Kept.refl wx (w.heap.size + 1)).setCell _) (by omega), hb.setCell (p := ⟨w.heap.size + 1, 0, none⟩) (by show w.heap.size ≤ w.heap.size + 1; omega) _⟩ <;> simp [go_sem, h2, h3, h4, h5, h6, h7]
theorem RdW.set1 {w wx : World} {neg : Bool} {p : Value} {x : Int} (h : RdW w wx neg p x) (q : Value) : RdW w (wx.setCell ⟨w.heap.size + 1, 1, none⟩ q) neg q x :=
  ⟨h.d.set1 q, h.r.kept ((Nb.Kept.refl wx (w.heap.size + 1)).setCell _) (by omega), h.b.setCell (p := ⟨w.heap.size + 1, 1, none⟩) (by show w.heap.size ≤ w.heap.size + 1; omega) _⟩
theorem RdW.set2 {w wx : World} {neg : Bool} {p : Value} {x : Int} (h : RdW w wx neg p x) (y : Int) : RdW w (wx.setCell ⟨w.heap.size + 1, 2, none⟩ (.int .i64 y)) neg p y :=
  ⟨h.d.set2 _, h.r.kept ((Nb.Kept.refl wx (w.heap.size + 1)).setCell _) (by omega), h.b.setCell (p := ⟨w.heap.size + 1, 2, none⟩) (by show w.heap.size ≤ w.heap.size + 1; omega) _⟩
theorem RdW.quiet {w wx wy : World} {neg : Bool} {p : Value} {x : Int} (h : RdW w wx neg p x) (k : Below wx.heap.size wx wy) : RdW w wy neg p x :=
  ⟨h.d.kept (Nb.Kept.of_below k) (c := wx.heap.size) (Nat.ne_of_lt h.d.1), h.r.kept (Nb.Kept.of_below k) (c := wx.heap.size) (Nat.ne_of_lt h.r.1), h.b.trans (k.mono h.b.size)⟩
theorem Mag.setOther {w : World} {v : Value} {ws : List Nat} (h : Mag w v ws) {p : Addr} {old new : Value} (hold : w.cell? p = some old) (hk : ∀ n, old ≠ .int .u32 n) : Mag (w.setCell p new) v ws := by
  obtain ⟨A, c, rfl, h2, h3, h4, h5⟩ := h
  refine ⟨A, c, rfl, h2, h3, h4, fun hl => ?_⟩
  obtain ⟨b, off, rfl, hb, hc⟩ := h5 hl
  refine ⟨b, off, rfl, by simpa [World.setCell] using hb, fun j hj => ?_⟩
  rw [World.cell?_setCell_other _ _ _ _ (by
    intro e
    rw [e, hc j hj] at hold
    injection hold with hold
    exact hk _ hold.symm)]
  exact hc j hj
/-- a number behind a store into a cell that is none of its own -/
theorem IntAt.setOther {w : World} {p q : Addr} {x : Int} {L : Nat} (h : IntAt w p x L) {old new : Value} (hne : p.block ≠ q.block) (hold : w.cell? q = some old) (hk : ∀ n, old ≠ .int .u32 n) : IntAt (w.setCell q new) p x L := by
  obtain ⟨b, off, neg, v, n, rfl, h2, h3, h4, ⟨ws, h5, h6⟩, h7⟩ := h
  refine ⟨b, off, neg, v, n, rfl, by simpa [World.setCell] using h2, ?_, ?_, ⟨ws, h5.setOther hold hk, h6⟩, h7⟩
  · rw [World.cell?_setCell_other _ _ _ _ (by intro e; exact hne (by rw [e]))]; exact h3
  · rw [World.cell?_setCell_other _ _ _ _ (by intro e; exact hne (by rw [e]))]; exact h4
/-- what Read writes into its answer's block -/
theorem IntAt.answer {w : World} {p : Addr} {x : Int} {L b : Nat} {b0 c0 : Bool} {p1 q1 : Option Addr} {i2 j2 : Int} (h : IntAt w p x L) (hne : p.block ≠ b) (h0 : w.cell? ⟨b, 0, none⟩ = some (.bool b0)) (h1 : w.cell? ⟨b, 1, none⟩ = some (.pointer p1)) (h2 : w.cell? ⟨b, 2, none⟩ = some (.int .i64 i2)) :
    IntAt (((w.setCell ⟨b, 0, none⟩ (.bool c0)).setCell ⟨b, 1, none⟩ (.pointer q1)).setCell ⟨b, 2, none⟩ (.int .i64 j2)) p x L :=
  ((h.setOther (q := ⟨b, 0, none⟩) hne h0 (by simp)).setOther (q := ⟨b, 1, none⟩) (old := .pointer p1) hne (by simp [go_sem, h1]) (by simp)).setOther (q := ⟨b, 2, none⟩) (old := .int .i64 i2) hne (by simp [go_sem, h2]) (by simp)
theorem u8_of {b : UInt8} {n : Nat} (h : (b.toNat : Int) = n) (hn : n < 256) : b = UInt8.ofNat n := by
  apply UInt8.toNat_inj.1
  simp
  omega

set_option maxRecDepth 8000 in
set_option maxHeartbeats 8000000 in
theorem read_any (s : ByteArray) (w : World) (hs : s.size ≤ 2000) : Calls Tryz.prog 5 #[.string s] w (ReadP w s) := by
  have hsi : (s.size : Int) ≤ 2000 := by omega
  go_enter Tryz.func5, Tryz.ntmps5
  go_upto_region 3 with (fail)
  have H0 : Hid (RdW w ((w.alloc (.cells #[.bool false, .pointer none, .int .i64 0] 25)).alloc (.cells #[.bool false, .pointer none, .int .i64 0] 25)) false (.pointer none) 0) := Lib.hid (by
    have h1 := (Below.refl w.heap.size w).alloc (Nat.le_refl _) (.cells #[.bool false, .pointer none, .int .i64 0] 25)
    have h2 := Nb.DecAt.new (w.alloc (.cells #[.bool false, .pointer none, .int .i64 0] 25)) (.bool false) (.pointer none) (.int .i64 0) 25
    have h3 := Nb.DecAt.new w (.bool false) (.pointer none) (.int .i64 0) 25
    exact ⟨by simpa using h2, h3.kept (c := w.heap.size + 1) (Nb.Kept.of_below ((Below.refl _ _).alloc (Nat.le_refl _) _)) (by omega), h1.alloc h1.size _⟩)
  generalize (w.alloc (.cells #[.bool false, .pointer none, .int .i64 0] 25)).alloc (.cells #[.bool false, .pointer none, .int .i64 0] 25) = W0 at *
  obtain ⟨neg, hneg⟩ : ∃ neg : Bool, neg = decide (s.data.toList.head? = some 45) := ⟨_, rfl⟩
  have HNEG := Lib.hid hneg
  clear hneg
  go_cut [22] from 15 to 21 (fun v wx => v = .bool neg ∧ W0 = wx)
  case first =>
    by_cases h0 : 0 < s.size
    · have hd := drop_cons h0
      rw [List.drop_zero] at hd
      have h0i : (0 : Int) < (s.size : Int) := by omega
      by_cases h45 : (s[0].toNat : Int) = 45
      · have hn : neg = true := by rw [HNEG.out, hd, u8_of (n := 45) h45 (by omega)]; rfl
        have HN := Lib.hid hn
        clear hd hn
        go_wp2_with fail
        go_meet
        exact ⟨by rw [HN.out], rfl⟩
      · have hn : neg = false := by
          rw [HNEG.out, hd]
          simp only [List.head?_cons]
          exact decide_eq_false fun e => h45 (by injection e with e; rw [e]; rfl)
        have HN := Lib.hid hn
        clear hd hn
        go_wp2_with fail
        go_meet
        exact ⟨by rw [HN.out, show ((s[0].toNat : Int) == 45) = false from by simpa using h45], rfl⟩
    · have h0i : ¬ (0 : Int) < (s.size : Int) := by omega
      have hn : neg = false := by
        have : s.data.toList = [] := List.eq_nil_of_length_eq_zero (by rw [Nb.size_list]; omega)
        rw [HNEG.out, this]; rfl
      have HN := Lib.hid hn
      clear hn
      go_wp2_with fail
      go_meet
      exact ⟨by rw [HN.out], rfl⟩
  case rest =>
    obtain ⟨rfl, rfl⟩ := hcut
    obtain ⟨i, hi⟩ : ∃ i : Nat, (neg = true ∧ i = 1) ∨ (neg = false ∧ i = 0) := by cases neg <;> simp
    have HI := Lib.hid hi
    clear hi
    go_upto_if 22 with (fail)
    go_cut [5] from 23 to 23 (fun v wx => v = .int .i64 (i : Int) ∧ Hid (RdW w wx neg (.pointer none) 0))
    case first =>
      obtain ⟨-, d0, d1, d2, f0, f1, f2⟩ := id H0.out.d
      rcases hn : neg with _ | _
      · subst hn
        have hi0 : i = 0 := by have := HI.out; simp at this; exact this
        subst hi0
        go_wp2_with fail
        go_meet
        exact ⟨rfl, H0⟩
      · subst hn
        have hi0 : i = 1 := by have := HI.out; simp at this; exact this
        subst hi0
        go_wp2_with fail
        go_meet
        exact ⟨rfl, Lib.hid (H0.out.set0 true)⟩
    case rest =>
      obtain ⟨rfl, HU⟩ := hcut
      clear H0
      have HTA : Hid (s.data.toList = Nb.sgn neg ++ s.data.toList.drop i ∧ i ≤ s.size) := Lib.hid (by
        rcases HI.out with ⟨rfl, rfl⟩ | ⟨rfl, rfl⟩
        · have h := HNEG.out
          rcases hl : s.data.toList with _ | ⟨a, r⟩
          · rw [hl] at h; simp at h
          · rw [hl] at h
            simp at h
            subst h
            have h2 := Nb.size_list s
            rw [hl] at h2
            simp at h2
            exact ⟨rfl, by omega⟩
        · exact ⟨rfl, Nat.zero_le _⟩)
      have hile := HTA.out.2
      have HDG := Lib.hid (fun W => rdigits_any s i W hile (by omega))
      go_wp2_with fail
      refine (HDG.out _).mono ?_
      rintro e w1 ⟨j, rfl, hij, hjs, hde, rfl⟩
      by_cases hji : j = i
      · subst hji
        obtain ⟨-, d0, d1, d2, f0, f1, f2⟩ := id HU.out.d
        obtain ⟨-, r0, r1, r2, q0, q1, q2⟩ := id HU.out.r
        clear hde
        go_wp2_with fail
        exact bodyPost_ret (by simp [results, Tryz.results5, go_sem, r0, r1, r2]) rfl ⟨neg, none, 0, false, rfl, ((HU.out.b.setCell (p := ⟨w.heap.size, 0, none⟩) (Nat.le_refl _) _).setCell (p := ⟨w.heap.size, 1, none⟩) (Nat.le_refl _) _).setCell (p := ⟨w.heap.size, 2, none⟩) (Nat.le_refl _) _, fun h => by simp at h⟩
      · have hjb : ((j : Int) == (i : Int)) = false := by simp; omega
        obtain ⟨l1, hl1⟩ : ∃ l1, (s.data.toList.drop i).take (j - i) = l1 := ⟨_, rfl⟩
        have HT1 : Hid (RdT s neg l1 none j) := Lib.hid (by
          rw [← hl1]
          refine ⟨?_, part_dig hde hjs, part_ne (by omega) hjs, fun l h => by simp at h, hjs⟩
          simp only [Nb.fracT, List.nil_append]
          rw [← part_cut hij]
          exact HTA.out.1)
        have HND := Lib.hid hde.2
        have hx1 : (s.extract i j).data.toList = l1 := by
          have := Nb.extract_list s i (j - i)
          rw [show i + (j - i) = j by omega, hl1] at this
          exact this
        obtain ⟨D1, hD1⟩ : ∃ D, s.extract i j = D := ⟨_, rfl⟩
        rw [hD1] at hx1
        have HX1 := Lib.hid hx1
        clear hde hl1 hx1 HDG
        go_upto_region 10 with (fail)
        have hD1s : D1.size ≤ 2000 := by rw [← hD1, ByteArray.size_extract]; omega
        clear hD1
        obtain ⟨dot, hdot⟩ : ∃ dot : Bool, dot = decide ((s.data.toList.drop j).head? = some 46) := ⟨_, rfl⟩
        have HDOT := Lib.hid hdot
        clear hdot
        go_cut [44] from 35 to 43 (fun v wx => v = .bool dot ∧ wc = wx)
        case first =>
          by_cases h0 : j < s.size
          · have hd := drop_cons h0
            have h0i : (j : Int) < (s.size : Int) := by omega
            by_cases h46 : (s[j].toNat : Int) = 46
            · have hn : dot = true := by rw [HDOT.out, hd, u8_of (n := 46) h46 (by omega)]; rfl
              have HN := Lib.hid hn
              clear hd hn
              go_wp2_with fail
              go_meet
              exact ⟨by rw [HN.out], rfl⟩
            · have hn : dot = false := by
                rw [HDOT.out, hd]
                simp only [List.head?_cons]
                exact decide_eq_false fun e => h46 (by injection e with e; rw [e]; rfl)
              have HN := Lib.hid hn
              clear hd hn
              go_wp2_with fail
              go_meet
              exact ⟨by rw [HN.out, show ((s[j].toNat : Int) == 46) = false from by simpa using h46], rfl⟩
          · have h0i : ¬ (j : Int) < (s.size : Int) := by omega
            have hn : dot = false := by
              rw [HDOT.out, List.drop_of_length_le (by rw [Nb.size_list]; omega)]; rfl
            have HN := Lib.hid hn
            clear hn
            go_wp2_with fail
            go_meet
            exact ⟨by rw [HN.out], rfl⟩
        case rest =>
          obtain ⟨rfl, rfl⟩ := hcut
          go_upto_if 44 with (fail)
          go_cut [6, 7, 8] from 45 to 67 (fun v6 v7 _ wx => ∃ (k : Nat) (d2 : Option (List UInt8)) (D : ByteArray), v6 = .int .i64 (k : Int) ∧ v7 = .string D ∧ k ≤ s.size ∧ Hid (RdT s neg l1 d2 k ∧ D.data.toList = l1 ++ d2.getD [] ∧ RdW w wx neg (.pointer none) (-((d2.getD []).length : Int))))
          case first =>
            rcases hn : dot with _ | _
            · subst hn
              go_wp2_with fail
              go_meet
              exact ⟨j, none, D1, rfl, rfl, hjs, Lib.hid ⟨HT1.out, by rw [HX1.out]; simp, HU.out⟩⟩
            · subst hn
              have hjl : j < s.size := by
                refine Nat.not_le.1 fun hle => ?_
                have := HDOT.out
                rw [List.drop_of_length_le (by rw [Nb.size_list]; omega)] at this
                simp at this
              have HE46 : Hid (s.data.toList.drop j = 46 :: s.data.toList.drop (j + 1)) := Lib.hid (by
                have h := HDOT.out
                rw [drop_cons hjl] at h ⊢
                simp at h
                rw [h])
              have hj1 : ((j + 1 : Nat) : Int) = (j : Int) + 1 := by omega
              have HDG2 := Lib.hid (fun W => rdigits_any s (j + 1) W hjl (by omega))
              rw [hj1] at HDG2
              clear hj1
              go_wp2_with fail
              refine (HDG2.out _).mono ?_
              rintro e w1 ⟨k, rfl, hjk, hks, hde, rfl⟩
              by_cases hkj : k = j + 1
              · subst hkj
                obtain ⟨-, d0, d1, d2, f0, f1, f2⟩ := id HU.out.d
                obtain ⟨-, r0, r1, r2, q0, q1, q2⟩ := id HU.out.r
                have hbe : (((j + 1 : Nat) : Int) == (j : Int) + 1) = true := by simp
                clear hde HDG2
                go_wp2_with fail
                exact bodyPost_ret (by simp [results, Tryz.results5, go_sem, r0, r1, r2]) rfl ⟨neg, none, 0, false, rfl, ((HU.out.b.setCell (p := ⟨w.heap.size, 0, none⟩) (Nat.le_refl _) _).setCell (p := ⟨w.heap.size, 1, none⟩) (Nat.le_refl _) _).setCell (p := ⟨w.heap.size, 2, none⟩) (Nat.le_refl _) _, fun h => by simp at h⟩
              · have hbe : ((k : Int) == (j : Int) + 1) = false := by simp; omega
                obtain ⟨l2, hl2⟩ : ∃ l2, (s.data.toList.drop (j + 1)).take (k - (j + 1)) = l2 := ⟨_, rfl⟩
                have hx2 : (s.extract (j + 1) k).data.toList = l2 := by
                  have := Nb.extract_list s (j + 1) (k - (j + 1))
                  rw [show j + 1 + (k - (j + 1)) = k by omega, hl2] at this
                  exact this
                have hlen : (l2.length : Int) = (k : Int) - (j : Int) - 1 := by
                  rw [← hl2, List.length_take, List.length_drop, Nb.size_list]; omega
                have HT2 : Hid (RdT s neg l1 (some l2) k) := Lib.hid (by
                  obtain ⟨a1, a2, a3, a4, a5⟩ := HT1.out
                  refine ⟨?_, a2, a3, fun l h => ?_, hks⟩
                  · have h9 := a1
                    rw [HE46.out, part_cut hjk, hl2] at h9
                    simpa [Nb.fracT] using h9
                  · injection h with h
                    rw [← h, ← hl2]
                    exact ⟨part_dig hde hks, part_ne (by omega) hks⟩)
                obtain ⟨D2, hD2⟩ : ∃ D, s.extract (j + 1) k = D := ⟨_, rfl⟩
                rw [hD2] at hx2
                have HX2 := Lib.hid (And.intro hx2 hlen)
                have hD2s : D2.size ≤ 2000 := by rw [← hD2, ByteArray.size_extract]; omega
                have c1 : ((j : Int) + 1).toNat = j + 1 := by omega
                have c2 : (0 : Int) ≤ (j : Int) + 1 := by omega
                have c3 : (j : Int) + 1 ≤ (k : Int) := by omega
                obtain ⟨-, d0, d1, d2, f0, f1, f2⟩ := id HU.out.d
                clear hde HDG2 hl2 hx2 hlen
                go_wp2_with fail
                go_meet
                exact ⟨k, some l2, D1 ++ D2, rfl, rfl, hks, Lib.hid ⟨HT2.out, by simp [HX1.out, HX2.out.1], by
                  have h9 := HU.out.set2 (-((k : Int) - (j : Int) - 1))
                  simp only [Option.getD_some, HX2.out.2]
                  exact h9⟩⟩
          case rest =>
            obtain ⟨k, d2, D, rfl, rfl, hks, HR⟩ := hcut
            have HDD : Hid (0 < D.size ∧ D.size ≤ s.size ∧ (∀ b ∈ D.data.toList, 48 ≤ b.toNat ∧ b.toNat ≤ 57)) := Lib.hid (by
              obtain ⟨⟨a1, a2, a3, a4, a5⟩, b1, -⟩ := HR.out
              have h1 := Nb.size_list D
              have h2 := Nb.size_list s
              rw [b1] at h1
              rw [a1] at h2
              have h3 : 0 < l1.length := List.length_pos_iff.2 a3
              have h4 : (d2.getD []).length ≤ (Nb.fracT d2).length := by cases d2 <;> simp [Nb.fracT]
              simp only [List.length_append] at h1 h2
              refine ⟨by omega, by omega, fun b hb => ?_⟩
              rw [b1] at hb
              rcases List.mem_append.1 hb with q | q
              · exact a2 b q
              · cases d2 with
                | none => simp at q
                | some l => exact (a4 l rfl).1 b q)
            have HSS := Lib.hid (SetString_any ⟨wc.heap.size, 0, none⟩ D (wc.alloc (.cells #[.bool false, .slice none 0 0] 41)) (Slot.new wc false none 0 0 41) HDD.out.1 (by have := HDD.out.2.1; omega) HDD.out.2.2)
            go_wp2_with fail
            refine HSS.out.mono ?_
            rintro e w5 ⟨rfl, hw5, hi5⟩
            have HB5 : Hid (Below wc.heap.size wc w5) := Lib.hid (((Below.refl _ _).alloc (Nat.le_refl _) _).trans (hw5.below (by exact Nat.le_refl _) (by simp)))
            obtain ⟨x, hx⟩ : ∃ x : Int, -((d2.getD []).length : Int) = x := ⟨_, rfl⟩
            have HU5 : Hid (RdW w w5 neg (.pointer none) x) := Lib.hid (by rw [← hx]; exact HR.out.2.2.quiet HB5.out)
            have HI5 := Lib.hid (hi5.more (show D.size + 1 ≤ s.size + 1 by have := HDD.out.2.1; omega))
            have HX := Lib.hid hx
            have hz4 : w.heap.size + 1 < wc.heap.size := HR.out.2.2.d.1
            obtain ⟨-, d0, d1, d2', f0, f1, f2⟩ := id HU5.out.d
            clear hw5 hi5 hx HSS
            go_upto_region 18 with (fail)
            obtain ⟨z, hz⟩ : ∃ z : Addr, (⟨wc.heap.size, 0, none⟩ : Addr) = z := ⟨_, rfl⟩
            have hzb : w.heap.size + 1 < z.block := by rw [← hz]; exact hz4
            rw [hz] at HI5
            rw [hz]
            have HU6 := Lib.hid (HU5.out.set1 (.pointer (some z)))
            have HI6 := Lib.hid (HI5.out.setOther (q := ⟨w.heap.size + 1, 1, none⟩) (new := .pointer (some z)) (by show z.block ≠ w.heap.size + 1; omega) d1 (by simp))
            clear d0 d1 d2' f0 f1 f2 HU5 HI5 HB5 hz hz4
            generalize w5.setCell ⟨w.heap.size + 1, 1, none⟩ (.pointer (some z)) = W6 at *
            by_cases hkl : k = s.size
            · subst hkl
              obtain ⟨-, d0, d1, d2', f0, f1, f2⟩ := id HU6.out.d
              obtain ⟨-, r0, r1, r2, q0, q1, q2⟩ := id HU6.out.r
              go_wp2_with fail
              exact bodyPost_ret (by simp [results, Tryz.results5, go_sem, r0, r1, r2]) rfl ⟨neg, some z, x, true, rfl, ((HU6.out.b.setCell (p := ⟨w.heap.size, 0, none⟩) (Nat.le_refl _) _).setCell (p := ⟨w.heap.size, 1, none⟩) (Nat.le_refl _) _).setCell (p := ⟨w.heap.size, 2, none⟩) (Nat.le_refl _) _, fun _ => by
                obtain ⟨⟨a1, a2, a3, a4, a5⟩, b1, -⟩ := HR.out
                refine ⟨⟨neg, l1, d2, none⟩, ⟨a2, a3, a4, fun b l h => by simp at h⟩, ?_, rfl, ?_, z, rfl, by omega, ?_⟩
                · rw [List.drop_of_length_le (by rw [Nb.size_list]; exact Nat.le_refl _)] at a1
                  simpa [Nb.DTxt.list, Nb.expT] using a1
                · rw [← HX.out]; simp [Nb.DTxt.expR, Nb.expRZ]
                · have h9 := HI6.out.answer (b := w.heap.size) (c0 := neg) (q1 := some z) (j2 := x) (by omega) r0 r1 r2
                  rw [show Nb.DTxt.digs ⟨neg, l1, d2, none⟩ = D.data.toList from b1.symm]
                  exact h9⟩
            · have hks' : k < s.size := by omega
              have hkb : ((k : Int) == (s.size : Int)) = false := by simp; omega
              have hki : (k : Int) < (s.size : Int) := by omega
              by_cases h101 : (s[k].toNat : Int) = 101
              · have HE1 : Hid (s.data.toList.drop k = 101 :: s.data.toList.drop (k + 1)) := Lib.hid (by rw [drop_cons hks', u8_of (n := 101) h101 (by omega)]; rfl)
                have hne : ((s[k].toNat : Int) != 101) = false := by simp; omega
                go_upto_region 22 with (fail)
                obtain ⟨k1, hk1⟩ : ∃ k1, k + 1 = k1 := ⟨_, rfl⟩
                have hk1i : (k : Int) + 1 = (k1 : Int) := by omega
                have hk1l : k1 ≤ s.size := by omega
                rw [hk1] at HE1
                obtain ⟨neg3, hneg3⟩ : ∃ neg3 : Bool, neg3 = decide ((s.data.toList.drop k1).head? = some 45) := ⟨_, rfl⟩
                have HNEG3 := Lib.hid hneg3
                clear hneg3 hk1
                go_upto_region 23 with (fail)
                clear hk1i hne hki hkb h101
                go_cut [9] from 83 to 96 (fun v wx => v = .bool neg3 ∧ W6 = wx)
                case first =>
                  by_cases h0 : k1 < s.size
                  · have hd := drop_cons h0
                    have h0i : (k1 : Int) < (s.size : Int) := by omega
                    by_cases h45 : (s[k1].toNat : Int) = 45
                    · have hn : neg3 = true := by rw [HNEG3.out, hd, u8_of (n := 45) h45 (by omega)]; rfl
                      have HN := Lib.hid hn
                      clear hd hn
                      go_wp2_with fail
                      go_meet
                      exact ⟨by rw [HN.out], rfl⟩
                    · have hn : neg3 = false := by
                        rw [HNEG3.out, hd]
                        simp only [List.head?_cons]
                        exact decide_eq_false fun e => h45 (by injection e with e; rw [e]; rfl)
                      have HN := Lib.hid hn
                      clear hd hn
                      go_wp2_with fail
                      go_meet
                      exact ⟨by rw [HN.out, show ((s[k1].toNat : Int) == 45) = false from by simpa using h45], rfl⟩
                  · have h0i : ¬ (k1 : Int) < (s.size : Int) := by omega
                    have hn : neg3 = false := by
                      rw [HNEG3.out, List.drop_of_length_le (by rw [Nb.size_list]; omega)]; rfl
                    have HN := Lib.hid hn
                    clear hn
                    go_wp2_with fail
                    go_meet
                    exact ⟨by rw [HN.out], rfl⟩
                case rest =>
                  obtain ⟨rfl, rfl⟩ := hcut
                  obtain ⟨m, hm⟩ : ∃ m : Nat, (neg3 = true ∧ m = k1 + 1) ∨ (neg3 = false ∧ m = k1) := by cases neg3 <;> simp
                  have HM := Lib.hid hm
                  clear hm
                  go_upto_if 97 with (fail)
                  go_cut [6] from 98 to 99 (fun v wx => v = .int .i64 (m : Int) ∧ W6 = wx)
                  case first =>
                    rcases hn : neg3 with _ | _
                    · subst hn
                      have hi0 : m = k1 := by have := HM.out; simp at this; exact this
                      subst hi0
                      go_wp2_with fail
                      go_meet
                      exact ⟨rfl, rfl⟩
                    · subst hn
                      have hi0 : m = k1 + 1 := by have := HM.out; simp at this; exact this
                      subst hi0
                      go_wp2_with fail
                      go_meet
                      exact ⟨int_eq (by omega), rfl⟩
                  case rest =>
                    obtain ⟨rfl, rfl⟩ := hcut
                    have HTM : Hid (s.data.toList.drop k1 = Nb.sgn neg3 ++ s.data.toList.drop m ∧ m ≤ s.size) := Lib.hid (by
                      rcases HM.out with ⟨rfl, rfl⟩ | ⟨rfl, rfl⟩
                      · have h := HNEG3.out
                        have hlt : k1 < s.size := by
                          refine Nat.not_le.1 fun hle => ?_
                          rw [List.drop_of_length_le (by rw [Nb.size_list]; exact hle)] at h
                          simp at h
                        rw [drop_cons hlt] at h ⊢
                        simp at h
                        rw [h]
                        exact ⟨rfl, by omega⟩
                      · exact ⟨rfl, hk1l⟩)
                    have hmle := HTM.out.2
                    have HDG3 := Lib.hid (fun W => rdigits_any s m W hmle (by omega))
                    go_wp2_with fail
                    refine (HDG3.out _).mono ?_
                    rintro e w1 ⟨n, rfl, hmn, hns, hde, rfl⟩
                    by_cases hnm : n = m
                    · subst hnm
                      obtain ⟨-, d0, d1, d2', f0, f1, f2⟩ := id HU6.out.d
                      obtain ⟨-, r0, r1, r2, q0, q1, q2⟩ := id HU6.out.r
                      clear hde HDG3
                      go_wp2_with fail
                      exact bodyPost_ret (by simp [results, Tryz.results5, go_sem, r0, r1, r2]) rfl ⟨neg, some z, x, false, rfl, ((HU6.out.b.setCell (p := ⟨w.heap.size, 0, none⟩) (Nat.le_refl _) _).setCell (p := ⟨w.heap.size, 1, none⟩) (Nat.le_refl _) _).setCell (p := ⟨w.heap.size, 2, none⟩) (Nat.le_refl _) _, fun h => by simp at h⟩
                    · have hbe : ((n : Int) == (m : Int)) = false := by simp; omega
                      by_cases hnl : n = s.size
                      · subst hnl
                        obtain ⟨l3, hl3⟩ : ∃ l3, s.data.toList.drop m = l3 := ⟨_, rfl⟩
                        have hx3 : (s.extract m s.size).data.toList = l3 := by
                          have := Nb.extract_list s m (s.size - m)
                          rw [show m + (s.size - m) = s.size by omega, hl3, List.take_of_length_le (by rw [← hl3, List.length_drop, Nb.size_list]; exact Nat.le_refl _)] at this
                          exact this
                        have h3d : Nb.IsDig l3 ∧ l3 ≠ [] := by
                          have a1 := part_dig hde (Nat.le_refl _)
                          have a2 := part_ne (s := s) (i := m) (j := s.size) (by omega) (Nat.le_refl _)
                          rw [hl3, List.take_of_length_le (by rw [← hl3, List.length_drop, Nb.size_list]; exact Nat.le_refl _)] at a1 a2
                          exact ⟨a1, a2⟩
                        obtain ⟨S3, hS3⟩ : ∃ S, s.extract m s.size = S := ⟨_, rfl⟩
                        rw [hS3] at hx3
                        have HX3 := Lib.hid (And.intro hx3 h3d)
                        have HL3 := Lib.hid hl3
                        clear hde HDG3 hl3 hx3 h3d
                        go_wp2_with fail
                        clear hS3
                        go_loopw [11, 13] (fun v _ wx => ∃ (pos : Nat) (ee : Nat), pos ≤ S3.size ∧ v = .int .i64 (ee : Int) ∧ ee ≤ 20000 ∧ Hid (ee = min (Nb.decN (S3.data.toList.take pos)) 20000) ∧ wx = W6.iter S3 pos) (fun _ _ wx => S3.size - wx.iterPos W6.heap.size)
                        case atStart => exact ⟨0, 0, Nat.zero_le _, rfl, by omega, Lib.hid (by simp [Nb.decN]), rfl⟩
                        case round =>
                          obtain ⟨pos, ee, hpos, rfl, hee, HEE, rfl⟩ := hrel
                          by_cases hp : pos < S3.size
                          · have hdig : 48 ≤ S3[pos].toNat ∧ S3[pos].toNat ≤ 57 := HX3.out.2.1 S3[pos] (by rw [← HX3.out.1]; simp [ByteArray.getElem_eq_getElem_data])
                            have hnx : ∀ ty, (Instr.next (.pointer (some ⟨W6.heap.size, 0, none⟩)) true ty).run Tryz.prog (W6.iter S3 pos) = _ := fun ty => run_next_ascii W6 S3 pos ty hp (by omega)
                            have HNX : Hid (min (10 * ee + (S3[pos].toNat - 48)) 20000 = min (Nb.decN (S3.data.toList.take (pos + 1))) 20000) := Lib.hid (by
                              rw [Nb.take_snoc S3 pos hp, Nb.decN_snoc]
                              have := HEE.out
                              omega)
                            obtain ⟨dg, hdg⟩ : ∃ dg, S3[pos].toNat = dg := ⟨_, rfl⟩
                            rw [hdg] at hnx HNX hdig
                            have hd0 : (48 : Int) ≤ (dg : Int) := by omega
                            have hd1 : (dg : Int) ≤ 57 := by omega
                            clear hdg
                            go_wp2_with fail
                            go_roundw
                            case rel => exact ⟨pos + 1, min (10 * ee + (dg - 48)) 20000, by omega, int_eq (by omega), by omega, HNX, rfl⟩
                            case measure => simp; omega
                          · obtain rfl : pos = S3.size := by omega
                            have hnx : ∀ ty, (Instr.next (.pointer (some ⟨W6.heap.size, 0, none⟩)) true ty).run Tryz.prog (W6.iter S3 S3.size) = _ := fun ty => run_next_end W6 S3 S3.size ty hp
                            have hxb : -2000 ≤ x ∧ x ≤ 0 := by
                              have h1 := HX.out
                              have h2 := HR.out.1.e
                              have h3 := congrArg List.length h2
                              rw [Nb.size_list] at h3
                              have h4 : (d2.getD []).length ≤ (Nb.fracT d2).length := by cases d2 <;> simp [Nb.fracT]
                              simp only [List.length_append] at h3
                              omega
                            have HE3 : Hid (ee = min (Nb.decN l3) 20000) := Lib.hid (by
                              have h1 := HEE.out
                              rw [List.take_of_length_le (by simp), HX3.out.1] at h1
                              exact h1)
                            have HB7 : Hid (Below W6.heap.size W6 (W6.iter S3 S3.size)) := Lib.hid ((Below.refl _ _).alloc (Nat.le_refl _) _)
                            have HU7 := Lib.hid (HU6.out.quiet HB7.out)
                            have HI7 := Lib.hid (HI6.out.below HB7.out)
                            have HEN : Hid (s.data.toList = Nb.DTxt.list ⟨neg, l1, d2, some (neg3, l3)⟩) := Lib.hid (by
                              have h1 := HR.out.1.e
                              rw [HE1.out, HTM.out.1, HL3.out] at h1
                              simpa [Nb.DTxt.list, Nb.expT] using h1)
                            obtain ⟨y, hy⟩ : ∃ y : Int, x + (if neg3 = true then -(ee : Int) else (ee : Int)) = y := ⟨_, rfl⟩
                            have HY := Lib.hid hy
                            have hfin : ∀ W8, RdW w W8 neg (.pointer (some z)) y → IntAt W8 z (Nb.decN D.data.toList : Int) (s.size + 1) → Below w.heap.size w (((W8.setCell ⟨w.heap.size, 0, none⟩ (.bool neg)).setCell ⟨w.heap.size, 1, none⟩ (.pointer (some z))).setCell ⟨w.heap.size, 2, none⟩ (.int .i64 y)) ∧ (true = true → ∃ t : Nb.DTxt, t.Ok ∧ s.data.toList = t.list ∧ neg = t.neg ∧ y = t.expR ∧ ∃ p : Addr, some z = some p ∧ w.heap.size ≤ p.block ∧ IntAt (((W8.setCell ⟨w.heap.size, 0, none⟩ (.bool neg)).setCell ⟨w.heap.size, 1, none⟩ (.pointer (some z))).setCell ⟨w.heap.size, 2, none⟩ (.int .i64 y)) p (Nb.decN t.digs : Int) (s.size + 1)) := fun W8 HU8 HI8 => by
                              obtain ⟨-, r0, r1, r2, -⟩ := HU8.r
                              refine ⟨((HU8.b.setCell (p := ⟨w.heap.size, 0, none⟩) (Nat.le_refl _) _).setCell (p := ⟨w.heap.size, 1, none⟩) (Nat.le_refl _) _).setCell (p := ⟨w.heap.size, 2, none⟩) (Nat.le_refl _) _, fun _ => ?_⟩
                              obtain ⟨⟨a1, a2, a3, a4, a5⟩, b1, -⟩ := HR.out
                              refine ⟨⟨neg, l1, d2, some (neg3, l3)⟩, ⟨a2, a3, a4, fun b l h => ?_⟩, HEN.out, rfl, ?_, z, rfl, by omega, ?_⟩
                              · injection h with h
                                injection h with h1 h2
                                rw [← h2]
                                exact HX3.out.2
                              · rw [← HY.out, ← HX.out, HE3.out]
                                simp [Nb.DTxt.expR, Nb.expRZ]
                              · have h9 := HI8.answer (b := w.heap.size) (c0 := neg) (q1 := some z) (j2 := y) (by omega) r0 r1 r2
                                rw [show Nb.DTxt.digs ⟨neg, l1, d2, some (neg3, l3)⟩ = D.data.toList from b1.symm]
                                exact h9
                            have HFIN := Lib.hid hfin
                            clear hfin HEE HB7 hy hp
                            obtain ⟨-, d0, d1, d2', f0, f1, f2⟩ := id HU7.out.d
                            have hx0 : -2000 ≤ x := hxb.1
                            have hx1 : x ≤ 0 := hxb.2
                            have hei : (ee : Int) ≤ 20000 := by omega
                            clear hxb
                            rcases hn3 : neg3 with _ | _
                            · subst hn3
                              have hyi : x + (ee : Int) = y := by have := HY.out; simpa using this
                              go_upto_region 37 with (fail)
                              generalize W6.iter S3 S3.size = W7 at *
                              have HU8 := Lib.hid (HU7.out.set2 y)
                              have HI8 := Lib.hid (HI7.out.setOther (q := ⟨w.heap.size + 1, 2, none⟩) (new := .int .i64 y) (by show z.block ≠ w.heap.size + 1; omega) d2' (by simp))
                              clear d0 d1 d2' f0 f1 f2
                              generalize W7.setCell ⟨w.heap.size + 1, 2, none⟩ (.int .i64 y) = W8 at *
                              obtain ⟨-, d0, d1, d2', f0, f1, f2⟩ := id HU8.out.d
                              obtain ⟨-, r0, r1, r2, q0, q1, q2⟩ := id HU8.out.r
                              go_wp2_with fail
                              exact bodyPost_ret (by simp [results, Tryz.results5, go_sem, r0, r1, r2]) rfl ⟨neg, some z, y, true, rfl, (HFIN.out _ HU8.out HI8.out).1, fun _ => (HFIN.out _ HU8.out HI8.out).2 trivial⟩
                            · subst hn3
                              have hyi : x + -(ee : Int) = y := by have := HY.out; simpa using this
                              go_upto_region 37 with (fail)
                              generalize W6.iter S3 S3.size = W7 at *
                              have HU8 := Lib.hid (HU7.out.set2 y)
                              have HI8 := Lib.hid (HI7.out.setOther (q := ⟨w.heap.size + 1, 2, none⟩) (new := .int .i64 y) (by show z.block ≠ w.heap.size + 1; omega) d2' (by simp))
                              clear d0 d1 d2' f0 f1 f2
                              generalize W7.setCell ⟨w.heap.size + 1, 2, none⟩ (.int .i64 y) = W8 at *
                              obtain ⟨-, d0, d1, d2', f0, f1, f2⟩ := id HU8.out.d
                              obtain ⟨-, r0, r1, r2, q0, q1, q2⟩ := id HU8.out.r
                              go_wp2_with fail
                              exact bodyPost_ret (by simp [results, Tryz.results5, go_sem, r0, r1, r2]) rfl ⟨neg, some z, y, true, rfl, (HFIN.out _ HU8.out HI8.out).1, fun _ => (HFIN.out _ HU8.out HI8.out).2 trivial⟩
                      · have hbe2 : ((n : Int) != (s.size : Int)) = true := by simp; omega
                        obtain ⟨-, d0, d1, d2', f0, f1, f2⟩ := id HU6.out.d
                        obtain ⟨-, r0, r1, r2, q0, q1, q2⟩ := id HU6.out.r
                        clear hde HDG3
                        go_wp2_with fail
                        exact bodyPost_ret (by simp [results, Tryz.results5, go_sem, r0, r1, r2]) rfl ⟨neg, some z, x, false, rfl, ((HU6.out.b.setCell (p := ⟨w.heap.size, 0, none⟩) (Nat.le_refl _) _).setCell (p := ⟨w.heap.size, 1, none⟩) (Nat.le_refl _) _).setCell (p := ⟨w.heap.size, 2, none⟩) (Nat.le_refl _) _, fun h => by simp at h⟩
              · have hne : ((s[k].toNat : Int) != 101) = true := by simp; omega
                obtain ⟨-, d0, d1, d2', f0, f1, f2⟩ := id HU6.out.d
                obtain ⟨-, r0, r1, r2, q0, q1, q2⟩ := id HU6.out.r
                go_wp2_with fail
                exact bodyPost_ret (by simp [results, Tryz.results5, go_sem, r0, r1, r2]) rfl ⟨neg, some z, x, false, rfl, ((HU6.out.b.setCell (p := ⟨w.heap.size, 0, none⟩) (Nat.le_refl _) _).setCell (p := ⟨w.heap.size, 1, none⟩) (Nat.le_refl _) _).setCell (p := ⟨w.heap.size, 2, none⟩) (Nat.le_refl _) _, fun h => by simp at h⟩
end Go.Proofs.YtbidlkmagbjllaaGreatDoor.Bg

namespace Go.Proofs.YtbidlkmagbjllaaGreatDoor.Bg
open Go Go.RowKit

def signI (x : Int) : Int := if x = 0 then 0 else if x < 0 then -1 else 1
/-- Sign: of a whole number -/
theorem Sign_any (p : Addr) (x : Int) (L : Nat) (w : World) (hp : IntAt w p x L) :
    Calls Tryz.prog 55 #[.pointer (some p)] w fun e w' => e = .returned (.int .i64 (signI x)) ∧ w = w' := by
  obtain ⟨b, o, s, A, k, c, m, rfl, hb, h3, h4, h5, h6, h7⟩ := hp.open
  obtain ⟨l1, l2, -⟩ := h5.len
  obtain ⟨S, hS⟩ : ∃ S, signI x = S := ⟨_, rfl⟩
  have HS := Lib.hid hS
  rw [hS]
  clear hS h5 hp
  by_cases hk : k = 0
  · have hx : signI x = 0 := by
      have : x = 0 := by rw [h6, l1 hk]; simp
      rw [this]; rfl
    rw [HS.out] at hx
    subst hx
    subst hk
    clear h6 h7 l1 l2
    go_enter Tryz.func55, Tryz.ntmps55
    go_wp2_with fail
    go_ret
    exact ⟨rfl, rfl⟩
  · have hm := l2 hk
    cases s
    · have hx : signI x = 1 := by
        simp at h6
        unfold signI
        rw [if_neg (by omega), if_neg (by omega)]
      rw [HS.out] at hx
      subst hx
      clear h6 h7 l1 l2
      go_enter Tryz.func55, Tryz.ntmps55
      go_wp2_with fail
      go_ret
      exact ⟨rfl, rfl⟩
    · have hx : signI x = -1 := by
        simp at h6
        unfold signI
        rw [if_neg (by omega), if_pos (by omega)]
      rw [HS.out] at hx
      subst hx
      clear h6 h7 l1 l2
      go_enter Tryz.func55, Tryz.ntmps55
      go_wp2_with fail
      go_ret
      exact ⟨rfl, rfl⟩

theorem IntAt.zero (w : World) (t : TypeId) : IntAt (w.alloc (.cells #[.bool false, .slice none 0 0] t)) ⟨w.heap.size, 0, none⟩ 0 1 :=
  ⟨w.heap.size, 0, false, .slice none 0 0, 0, rfl, by simp, by simp [go_sem], by simp [go_sem], MagN.zero0 _ _, by simp, by simp⟩
/-- an exact number that a call answers: its whole number, its power of 2 -/
def ExG (w : World) (x e : Int) (L : Nat) (en : Ending) (w' : World) : Prop := ∃ z : Addr, en = .returned (.agg #[.pointer (some z), .int .i64 e]) ∧ IntAt w' z x L ∧ Below w.heap.size w w'

set_option maxRecDepth 8000 in
theorem ezero_any (w : World) : Calls Tryz.prog 56 #[] w (ExG w 0 0 1) := by
  have H0 : Hid (∀ v, IntAt ((w.alloc (.cells #[v, .int .i64 0] 55)).alloc (.cells #[.bool false, .slice none 0 0] 41)) ⟨w.heap.size + 1, 0, none⟩ 0 1 ∧ Below w.heap.size w ((w.alloc (.cells #[v, .int .i64 0] 55)).alloc (.cells #[.bool false, .slice none 0 0] 41))) := Lib.hid (fun v => by
    have h := IntAt.zero (w.alloc (.cells #[v, .int .i64 0] 55)) 41
    have h1 := (Below.refl w.heap.size w).alloc (Nat.le_refl _) (.cells #[v, .int .i64 0] 55)
    exact ⟨by simpa using h, h1.alloc h1.size _⟩)
  go_enter Tryz.func56, Tryz.ntmps56
  go_wp2_with fail
  exact bodyPost_ret (by simp [results, Tryz.results56, go_sem]) rfl ⟨_, rfl, (H0.out _).1, (H0.out _).2⟩

/-- the cells of a boxed exact number -/
def BoxE (w : World) (b : Nat) (p : Addr) (e : Int) : Prop := w.cell? ⟨b, 0, none⟩ = some (.pointer (some p)) ∧ w.cell? ⟨b, 1, none⟩ = some (.int .i64 e)

theorem IntAt.answer2 {w : World} {p : Addr} {x : Int} {L b : Nat} {p1 : Option Addr} {q1 : Value} {i2 : Int} {j2 : Value} (h : IntAt w p x L) (hne : p.block ≠ b) (h0 : w.cell? ⟨b, 0, none⟩ = some (.pointer p1)) (h1 : w.cell? ⟨b, 1, none⟩ = some (.int .i64 i2)) :
    IntAt ((w.setCell ⟨b, 0, none⟩ q1).setCell ⟨b, 1, none⟩ j2) p x L :=
  (h.setOther (q := ⟨b, 0, none⟩) hne h0 (by simp)).setOther (q := ⟨b, 1, none⟩) (old := .int .i64 i2) hne (by rw [World.cell?_setCell_other _ _ _ _ (by intro e; injection e with _ e; omega)]; exact h1) (by simp)
theorem box_store {W : World} {b : Nat} {x0 x1 v0 v1 : Value} (h : W.cell? ⟨b, 0, none⟩ = some x0 ∧ W.cell? ⟨b, 1, none⟩ = some x1) :
    ((W.setCell ⟨b + 1, 0, none⟩ v0).setCell ⟨b + 1, 1, none⟩ v1).cell? ⟨b, 0, none⟩ = some x0 ∧ ((W.setCell ⟨b + 1, 0, none⟩ v0).setCell ⟨b + 1, 1, none⟩ v1).cell? ⟨b, 1, none⟩ = some x1 := by
  refine ⟨?_, ?_⟩
  · rw [World.cell?_setCell_other _ _ _ _ (by intro e; injection e with e; omega), World.cell?_setCell_other _ _ _ _ (by intro e; injection e with e; omega)]; exact h.1
  · rw [World.cell?_setCell_other _ _ _ _ (by intro e; injection e with e; omega), World.cell?_setCell_other _ _ _ _ (by intro e; injection e with e; omega)]; exact h.2

set_option maxRecDepth 8000 in
set_option maxHeartbeats 1000000 in
theorem eneg_any (p : Addr) (x e : Int) (L : Nat) (w : World) (hp : IntAt w p x L) (hL : L ≤ 1099511627776) :
    Calls Tryz.prog 66 #[.agg #[.pointer (some p), .int .i64 e]] w (ExG w (-x) e L) := by
  obtain ⟨W1, hW1⟩ : ∃ W1, (w.alloc (.cells #[.pointer (some p), .int .i64 e] 55)).alloc (.cells #[.pointer none, .int .i64 0] 55) = W1 := ⟨_, rfl⟩
  have h1 := (Below.refl w.heap.size w).alloc (Nat.le_refl _) (.cells #[.pointer (some p), .int .i64 e] 55)
  have hB1 : Below w.heap.size w W1 := by rw [← hW1]; exact h1.alloc h1.size _
  have hs1 : W1.heap.size = w.heap.size + 2 := by rw [← hW1]; simp
  have c0 : W1.cell? ⟨w.heap.size, 0, none⟩ = some (.pointer (some p)) := by rw [← hW1]; simp [go_sem]
  have c1 : W1.cell? ⟨w.heap.size, 1, none⟩ = some (.int .i64 e) := by rw [← hW1]; simp [go_sem]
  have r0 : W1.cell? ⟨w.heap.size + 1, 0, none⟩ = some (.pointer none) := by rw [← hW1]; simp [go_sem]
  have r1 : W1.cell? ⟨w.heap.size + 1, 1, none⟩ = some (.int .i64 0) := by rw [← hW1]; simp [go_sem]
  have q0 : W1.frozen? ⟨w.heap.size + 1, 0, none⟩ = false := by rw [← hW1]; simp [go_sem]
  have q1 : W1.frozen? ⟨w.heap.size + 1, 1, none⟩ = false := by rw [← hW1]; simp [go_sem]
  have HP := Lib.hid (hp.below hB1)
  have HB1 := Lib.hid hB1
  clear h1 hB1 hp
  go_enter Tryz.func66, Tryz.ntmps66
  go_upto_region 1 with (fail)
  clear hW1
  have HS1 := Lib.hid hs1
  have hcl : ∀ W, Below W1.heap.size W1 W → W.cell? ⟨w.heap.size, 0, none⟩ = some (.pointer (some p)) ∧ W.cell? ⟨w.heap.size, 1, none⟩ = some (.int .i64 e) := fun W hW =>
    ⟨(hW.cell (p := ⟨w.heap.size, 0, none⟩) (by show w.heap.size < W1.heap.size; omega)).trans c0, (hW.cell (p := ⟨w.heap.size, 1, none⟩) (by show w.heap.size < W1.heap.size; omega)).trans c1⟩
  have HC := Lib.hid hcl
  have hrl : ∀ W, Below W1.heap.size W1 W → (W.cell? ⟨w.heap.size + 1, 0, none⟩ = some (.pointer none) ∧ W.cell? ⟨w.heap.size + 1, 1, none⟩ = some (.int .i64 0)) ∧ W.frozen? ⟨w.heap.size + 1, 0, none⟩ = false ∧ W.frozen? ⟨w.heap.size + 1, 1, none⟩ = false := fun W hW =>
    ⟨⟨(hW.cell (p := ⟨w.heap.size + 1, 0, none⟩) (by show w.heap.size + 1 < W1.heap.size; omega)).trans r0, (hW.cell (p := ⟨w.heap.size + 1, 1, none⟩) (by show w.heap.size + 1 < W1.heap.size; omega)).trans r1⟩, (hW.frozen (p := ⟨w.heap.size + 1, 0, none⟩) (by show w.heap.size + 1 < W1.heap.size; omega)).trans q0, (hW.frozen (p := ⟨w.heap.size + 1, 1, none⟩) (by show w.heap.size + 1 < W1.heap.size; omega)).trans q1⟩
  have HR := Lib.hid hrl
  have hcur : Below W1.heap.size W1 W1.drew := (Below.refl _ _).drew
  have HN := Lib.hid (Neg_any ⟨W1.heap.size, 0, none⟩ p x L (W1.alloc (.cells #[.bool false, .slice none 0 0] 41)).drew (Slot.new W1 false none 0 0 41) (HP.out.below ((Below.refl _ _).alloc (Nat.le_refl _) _).drew) hL)
  clear hcl hrl c0 c1 r0 r1 q0 q1 hs1
  go_region_held3 (fun w' => w'.cell? ⟨w.heap.size, 0, none⟩ = some (.pointer (some p)) ∧ w'.cell? ⟨w.heap.size, 1, none⟩ = some (.int .i64 e))
    (first | exact box_store (HC.out _ hb2) | exact HC.out _ (by first | exact hcur | exact hb2 | exact ((Below.refl _ _).alloc (Nat.le_refl _) _).drew | exact hcur.alloc hcur.size _))
    (first | (go_at_call 64; refine HN.out.mono ?_; rintro en w2 hg; have HG := Lib.hid hg; have hb2 : Below W1.heap.size W1 w2 := ((Below.refl _ _).alloc (Nat.le_refl _) _).drew.trans (hg.2.1.below (by exact Nat.le_refl _) (by simp)); obtain ⟨rfl, -⟩ := id hg; obtain ⟨⟨r0, r1⟩, q0, q1⟩ := HR.out _ hb2))
  go_wp2_with fail
  exact bodyPost_ret (by simp [results, Tryz.results66, go_sem, r0, r1]) rfl ⟨_, rfl, HG.out.2.2.answer2 (by show W1.heap.size ≠ w.heap.size + 1; have := HS1.out; omega) r0 r1, (((HB1.out.trans (hb2.mono HB1.out.size))).setCell (p := ⟨w.heap.size + 1, 0, none⟩) (by show w.heap.size ≤ w.heap.size + 1; omega) _).setCell (p := ⟨w.heap.size + 1, 1, none⟩) (by show w.heap.size ≤ w.heap.size + 1; omega) _⟩

set_option maxRecDepth 8000 in
set_option maxHeartbeats 1000000 in
/-- Low: by a power of 2 that is not above its own -/
theorem elow_any (p : Addr) (x xe e : Int) (L N : Nat) (w : World) (hp : IntAt w p x L) (hN : xe - e = (N : Int)) (hL : N / 32 + L ≤ 536870912) (hN2 : N ≤ 1099511627776) :
    Calls Tryz.prog 117 #[.agg #[.pointer (some p), .int .i64 xe], .int .i64 e] w (ExG w (x * ((2 ^ N : Nat) : Int)) e (N / 32 + L + 1)) := by
  by_cases h0 : N = 0
  · subst h0
    obtain rfl : xe = e := by omega
    have H0 : Hid (∀ o1 o2, IntAt ((w.alloc o1).alloc o2) p x L ∧ Below w.heap.size w ((w.alloc o1).alloc o2)) := Lib.hid (fun o1 o2 => by
      have h1 := ((Below.refl w.heap.size w).alloc (Nat.le_refl _) o1)
      have h2 := h1.alloc h1.size o2
      exact ⟨hp.below h2, h2⟩)
    clear hN hp
    go_enter Tryz.func117, Tryz.ntmps117
    go_wp2_with fail
    exact bodyPost_ret (by simp [results, Tryz.results117, go_sem]) rfl ⟨p, rfl, by have h := (H0.out (.cells #[.pointer (some p), .int .i64 xe] 55) (.cells #[.pointer (some p), .int .i64 xe] 55)).1.more (show L ≤ 0 / 32 + L + 1 by omega); simpa using h, (H0.out _ _).2⟩
  · obtain ⟨W1, hW1⟩ : ∃ W1, (w.alloc (.cells #[.pointer (some p), .int .i64 xe] 55)).alloc (.cells #[.pointer none, .int .i64 0] 55) = W1 := ⟨_, rfl⟩
    have h1 := (Below.refl w.heap.size w).alloc (Nat.le_refl _) (.cells #[.pointer (some p), .int .i64 xe] 55)
    have hB1 : Below w.heap.size w W1 := by rw [← hW1]; exact h1.alloc h1.size _
    have hs1 : W1.heap.size = w.heap.size + 2 := by rw [← hW1]; simp
    have c0 : W1.cell? ⟨w.heap.size, 0, none⟩ = some (.pointer (some p)) := by rw [← hW1]; simp [go_sem]
    have c1 : W1.cell? ⟨w.heap.size, 1, none⟩ = some (.int .i64 xe) := by rw [← hW1]; simp [go_sem]
    have r0 : W1.cell? ⟨w.heap.size + 1, 0, none⟩ = some (.pointer none) := by rw [← hW1]; simp [go_sem]
    have r1 : W1.cell? ⟨w.heap.size + 1, 1, none⟩ = some (.int .i64 0) := by rw [← hW1]; simp [go_sem]
    have q0 : W1.frozen? ⟨w.heap.size + 1, 0, none⟩ = false := by rw [← hW1]; simp [go_sem]
    have q1 : W1.frozen? ⟨w.heap.size + 1, 1, none⟩ = false := by rw [← hW1]; simp [go_sem]
    have hrl : ∀ W, Below W1.heap.size W1 W → (W.cell? ⟨w.heap.size + 1, 0, none⟩ = some (.pointer none) ∧ W.cell? ⟨w.heap.size + 1, 1, none⟩ = some (.int .i64 0)) ∧ W.frozen? ⟨w.heap.size + 1, 0, none⟩ = false ∧ W.frozen? ⟨w.heap.size + 1, 1, none⟩ = false := fun W hW =>
      ⟨⟨(hW.cell (p := ⟨w.heap.size + 1, 0, none⟩) (by show w.heap.size + 1 < W1.heap.size; omega)).trans r0, (hW.cell (p := ⟨w.heap.size + 1, 1, none⟩) (by show w.heap.size + 1 < W1.heap.size; omega)).trans r1⟩, (hW.frozen (p := ⟨w.heap.size + 1, 0, none⟩) (by show w.heap.size + 1 < W1.heap.size; omega)).trans q0, (hW.frozen (p := ⟨w.heap.size + 1, 1, none⟩) (by show w.heap.size + 1 < W1.heap.size; omega)).trans q1⟩
    have HR := Lib.hid hrl
    have HS1 := Lib.hid hs1
    have HB1 := Lib.hid hB1
    have hal : Below W1.heap.size W1 (W1.alloc (.cells #[.bool false, .slice none 0 0] 41)) := (Below.refl _ _).alloc (Nat.le_refl _) _
    have HA := Lib.hid hal
    have HLS := Lib.hid (Lsh_any ⟨W1.heap.size, 0, none⟩ p x N L (W1.alloc (.cells #[.bool false, .slice none 0 0] 41)) (Slot.new W1 false none 0 0 41) ((hp.below hB1).below hal) hL (by omega))
    obtain ⟨P, hP⟩ : ∃ P, 2 ^ N = P := ⟨_, rfl⟩
    rw [hP] at HLS ⊢
    have hle : ¬ xe ≤ e := by omega
    have hNi : (N : Int) ≤ 1099511627776 := by omega
    have ca0 := (hal.cell (p := ⟨w.heap.size, 0, none⟩) (by show w.heap.size < W1.heap.size; omega)).trans c0
    have ca1 := (hal.cell (p := ⟨w.heap.size, 1, none⟩) (by show w.heap.size < W1.heap.size; omega)).trans c1
    clear h1 hB1 hp hal hP r0 r1 q0 q1 hrl hs1
    go_enter Tryz.func117, Tryz.ntmps117
    go_wp2_with fail
    refine HLS.out.mono ?_
    rintro en w2 hg
    have HG := Lib.hid hg
    have HB2 : Hid (Below W1.heap.size W1 w2) := Lib.hid (HA.out.trans (hg.2.1.below (by exact Nat.le_refl _) (by simp)))
    obtain ⟨rfl, -⟩ := id hg
    obtain ⟨⟨r0, r1⟩, q0, q1⟩ := HR.out _ HB2.out
    clear hg hW1 c0 c1 ca0 ca1
    go_wp2_with fail
    exact bodyPost_ret (by simp [results, Tryz.results117, go_sem, r0, r1]) rfl ⟨_, rfl, HG.out.2.2.answer2 (by show W1.heap.size ≠ w.heap.size + 1; have := HS1.out; omega) r0 r1, (((HB1.out.trans (HB2.out.mono HB1.out.size))).setCell (p := ⟨w.heap.size + 1, 0, none⟩) (by show w.heap.size ≤ w.heap.size + 1; omega) _).setCell (p := ⟨w.heap.size + 1, 1, none⟩) (by show w.heap.size ≤ w.heap.size + 1; omega) _⟩
end Go.Proofs.YtbidlkmagbjllaaGreatDoor.Bg
