/- J16 J17 J18 in one text. -/
import Derived.Test.YtebacmmfjadalaaGreatP10
import Derived.Test.YtebacmmfjadalaaGreatP06
import Derived.Test.YtebacmmfjadalaaGreatP01

namespace Go.Proofs.YtebacmmfjadalaaGreat
open Go Go.RowKit

theorem ready_any (x : Nat) (m : Bool) (w : World) (h : w.cell? ⟨x, 11, none⟩ = some (.bool m)) : Calls Tryz.prog 29 #[.pointer (some ⟨x, 0, none⟩)] w fun e w' => e = .returned (.bool m) ∧ w = w' := by
  cases m
  · go_enter Tryz.func29, Tryz.ntmps29
    go_wp2_with fail
    go_ret
    exact ⟨rfl, rfl⟩
  · go_enter Tryz.func29, Tryz.ntmps29
    go_wp2_with fail
    go_ret
    exact ⟨rfl, rfl⟩
theorem ready_none (w : World) : Calls Tryz.prog 29 #[.pointer none] w fun e w' => e = .returned (.bool false) ∧ w = w' := by
  go_enter Tryz.func29, Tryz.ntmps29
  go_wp2_with fail
  go_ret
  exact ⟨rfl, rfl⟩

theorem finite_nil (w : World) : Calls Tryz.prog 56 #[.slice none 0 0] w fun e w' => e = .returned (.bool true) ∧ w = w' := by
  go_enter Tryz.func56, Tryz.ntmps56
  go_wp2_with fail
  go_loopw [8] (fun i wr => i = .int .i64 0 ∧ w = wr) (fun _ _ => 0)
  case atStart => exact ⟨rfl, rfl⟩
  case round =>
    obtain ⟨rfl, rfl⟩ := hrel
    go_wp2_with fail
    go_ret
    exact ⟨rfl, rfl⟩

set_option maxHeartbeats 1000000 in
theorem pcheck_nil (se sq st : Int) (w : World) (s0 : 0 ≤ se) (s1 : se < 64) : Calls Tryz.prog 30 #[.agg #[.int .i64 se, .int .u32 sq, .int .u32 st, .slice none 0 0]] w fun e w' => e = .returned (.int .i64 0) ∧ Below w.heap.size w w' := by
  go_enter Tryz.func30, Tryz.ntmps30
  go_wp2_with fail
  refine (finite_nil _).mono ?_
  rintro e w1 ⟨rfl, rfl⟩
  go_wp2_with fail
  go_ret
  exact ⟨rfl, (Below.refl _ _).alloc (Nat.le_refl _) _⟩

set_option maxHeartbeats 1000000 in
theorem copied_nil (at_ se sq st : Int) (w : World) : Calls Tryz.prog 36 #[.agg #[.int .i64 at_, .int .i64 se, .int .u32 sq, .int .u32 st, .slice none 0 0]] w fun e w' => e = .returned (.agg #[.int .i64 at_, .int .i64 se, .int .u32 sq, .int .u32 st, .slice none 0 0]) ∧ Below w.heap.size w w' := by
  go_enter Tryz.func36, Tryz.ntmps36
  go_wp2_with fail
  refine (Tryz.slices_Clone_nil 0 0 _).mono ?_
  rintro e w1 ⟨rfl, rfl⟩
  go_wp2_with fail
  exact bodyPost_ret (by simp only [results, Tryz.results36]; simp [go_sem]; try rfl) rfl ⟨rfl, ((Below.refl w.heap.size w).alloc (Nat.le_refl _) _).alloc (by simp) _⟩

set_option maxHeartbeats 1000000 in
theorem horizon_some (x : Nat) (j : Jn) (w : World) (hj : JnAt w x j) (hs : j.some = true) : Calls Tryz.prog 23 #[.pointer (some ⟨x, 0, none⟩)] w fun e w' => e = .returned (.tuple #[.int .i64 j.hor, .bool true]) ∧ Below w.heap.size w w' := by
  obtain ⟨S, win, V, sm, top, hor, ct, cd, co, cl, cs⟩ := j
  obtain ⟨-, -, -, g3, -, g5, -, g11⟩ := hj
  simp only at g3 g5 hs ⊢
  subst hs
  go_enter Tryz.func23, Tryz.ntmps23
  go_wp2_with fail
  refine (ready_any x true w g11).mono ?_
  rintro e w1 ⟨rfl, rfl⟩
  go_wp2_with fail
  go_ret2
  exact ⟨rfl, Below.refl _ _⟩
end Go.Proofs.YtebacmmfjadalaaGreat

namespace Go.Proofs.YtebacmmfjadalaaGreat
open Go Go.RowKit

set_option maxRecDepth 8000 in
set_option maxHeartbeats 4000000 in
theorem head_same (a1 a2 a3 a4 b1 b2 b3 b4 : Int) (A B : Option Addr) (n m c d : Nat) (w : World) (hn : n = 0) (h : orL [cmpO a1 b1, cmpO a2 b2, cmpO a3 b3, cmpO a4 b4, cmpO n m] = 0) :
    Calls Tryz.prog 81 #[.agg #[.int .i64 a1, .int .i64 a2, .int .u32 a3, .int .u32 a4, .slice A n c], .agg #[.int .i64 b1, .int .i64 b2, .int .u32 b3, .int .u32 b4, .slice B m d]] w fun e w' =>
      e = .returned (.int .i64 (orL [cmpO a1 b1, cmpO a2 b2, cmpO a3 b3, cmpO a4 b4, cmpO n m])) ∧ Below w.heap.size w w' := by
  obtain ⟨H, hH⟩ : ∃ H, orL [cmpO a1 b1, cmpO a2 b2, cmpO a3 b3, cmpO a4 b4, cmpO n m] = H := ⟨_, rfl⟩
  rw [hH] at h ⊢
  subst h
  have HH := Lib.hid hH
  have HN0 := Lib.hid hn
  clear hH hn
  go_enter Tryz.func81, Tryz.ntmps81
  go_wp2_with fail
  have HC0 := Lib.hid (show Cells5 ((w.alloc (.cells #[.int .i64 a1, .int .i64 a2, .int .u32 a3, .int .u32 a4, .slice A n c] 63)).alloc (.cells #[.int .i64 b1, .int .i64 b2, .int .u32 b3, .int .u32 b4, .slice B m d] 63)) w.heap.size a1 a2 a3 a4 b1 b2 b3 b4 A B n m c d from by unfold Cells5; simp [go_sem])
  have HB := Lib.hid (show Below w.heap.size w ((w.alloc (.cells #[.int .i64 a1, .int .i64 a2, .int .u32 a3, .int .u32 a4, .slice A n c] 63)).alloc (.cells #[.int .i64 b1, .int .i64 b2, .int .u32 b3, .int .u32 b4, .slice B m d] 63)) from (((Below.refl _ _).alloc (Nat.le_refl _) _).alloc (by simp) _))
  have hw0 : w.heap.size + 1 < ((w.alloc (.cells #[.int .i64 a1, .int .i64 a2, .int .u32 a3, .int .u32 a4, .slice A n c] 63)).alloc (.cells #[.int .i64 b1, .int .i64 b2, .int .u32 b3, .int .u32 b4, .slice B m d] 63)).heap.size := by simp
  generalize (w.alloc (.cells #[.int .i64 a1, .int .i64 a2, .int .u32 a3, .int .u32 a4, .slice A n c] 63)).alloc (.cells #[.int .i64 b1, .int .i64 b2, .int .u32 b3, .int .u32 b4, .slice B m d] 63) = W0 at *
  have HC := Lib.hid (HC0.out.below (Below.refl _ _).drew hw0)
  unfold Cells5 at HC
  go_region_held3 (fun w' => w'.cell? ⟨w.heap.size, 0, none⟩ = some (.int .i64 a1) ∧ w'.cell? ⟨w.heap.size + 1, 0, none⟩ = some (.int .i64 b1) ∧ w'.cell? ⟨w.heap.size, 1, none⟩ = some (.int .i64 a2) ∧ w'.cell? ⟨w.heap.size + 1, 1, none⟩ = some (.int .i64 b2) ∧ w'.cell? ⟨w.heap.size, 2, none⟩ = some (.int .u32 a3) ∧ w'.cell? ⟨w.heap.size + 1, 2, none⟩ = some (.int .u32 b3) ∧
      w'.cell? ⟨w.heap.size, 3, none⟩ = some (.int .u32 a4) ∧ w'.cell? ⟨w.heap.size + 1, 3, none⟩ = some (.int .u32 b4) ∧ w'.cell? ⟨w.heap.size, 4, none⟩ = some (.slice A n c) ∧ w'.cell? ⟨w.heap.size + 1, 4, none⟩ = some (.slice B m d))
    (first | exact HC.out | exact Cells5.below HC0.out hb5 hw0 | exact Cells5.below HC0.out ((Below.refl _ _).alloc (Nat.le_refl _) _).drew hw0)
    (first | (go_at_call 99; refine (cmp64_any _ _ _).mono ?_; rintro e w1 ⟨rfl, rfl⟩) | (go_at_call 100; refine (cmpI_any _ _ _).mono ?_; rintro e w1 ⟨rfl, rfl⟩) | (go_at_call 101; refine (cmpU_any _ _ _).mono ?_; rintro e w1 ⟨rfl, rfl⟩) | (go_at_call 98; refine (or_any _ _ 5 _ _ rfl (or_cells _ _ _ _ _ _ _) (by omega)).mono ?_; rintro e w5 ⟨rfl, hb⟩; have hb5 := ((Below.refl W0.heap.size W0).alloc (Nat.le_refl _) _).drew.trans (hb.mono (by simp)); rw [HH.out]))
  have c8 := (Cells5.below HC0.out hb5 hw0).2.2.2.2.2.2.2.2.1
  obtain rfl := HN0.out
  have HE := Lib.hid (HB.out.trans (hb5.mono (by have := HB.out.size; exact this)))
  clear HC HC0 hb5 HB
  go_wp2_with fail
  go_loopw [5, 6] (fun r i wr => r = .int .i64 0 ∧ i = .int .i64 0 ∧ w5 = wr) (fun _ _ _ => 0)
  case atStart => exact ⟨rfl, rfl, rfl⟩
  case round =>
    obtain ⟨rfl, rfl, rfl⟩ := hrel
    go_wp2_with fail
    go_ret
    exact ⟨rfl, HE.out⟩

theorem order_nil (a b : El) (w : World) (h : a.n = 0) : Calls Tryz.prog 81 #[a.val, b.val] w fun e w' => e = .returned (.int .i64 (headC a b)) ∧ Below w.heap.size w w' := by
  by_cases c : headC a b = 0
  · rw [c]
    have h1 := head_same a.at_ a.se a.sq a.st b.at_ b.se b.sq b.st a.v b.v a.n b.n a.c b.c w h c
    rw [show orL [cmpO a.at_ b.at_, cmpO a.se b.se, cmpO a.sq b.sq, cmpO a.st b.st, cmpO a.n b.n] = 0 from c] at h1
    exact h1
  · exact head_any a b w c
end Go.Proofs.YtebacmmfjadalaaGreat

namespace Go.Proofs.YtebacmmfjadalaaGreat
open Go Go.RowKit

/-- the world behind take -/
def tkW (w : World) (b off : Nat) (s : Sn) (q : Int) : World :=
  if s.some = true ∧ q ≤ s.most then (w.setCell ⟨b, off + 6, none⟩ (.int .u64 (tk s q).taken)).drew
  else ((((w.setCell ⟨b, off + 6, none⟩ (.int .u64 (if s.some = false ∨ 64 ≤ (q - s.most) % 4294967296 then 0 else IntKind.u64.wrap (s.taken * 2 ^ (q - s.most).toNat)))).setCell ⟨b, off + 6, none⟩ (.int .u64 (tk s q).taken)).setCell ⟨b, off + 5, none⟩ (.int .u32 q)).setCell ⟨b, off + 4, none⟩ (.bool true)).drew

set_option maxRecDepth 8000 in
set_option maxHeartbeats 2000000 in
theorem take_sets (b off : Nat) (s : Sn) (q : Int) (w : World) (hs : SnAt w b off s) (hz : ∀ i, w.frozen? ⟨b, i, none⟩ = false) (q0 : 0 ≤ q) (q1 : q < 4294967296) (m0 : 0 ≤ s.most) (m1 : s.most < 4294967296) (hn : s.some = true → q ≤ s.most → s.most - q < 64) :
    Calls Tryz.prog 34 #[.pointer (some ⟨b, off, none⟩), .int .u32 q] w fun e w' => e = .returned (.tuple #[]) ∧ w' = tkW w b off s q := by
  have HA := Lib.hid (age_any b off s q w hs)
  obtain ⟨o, n, d, last, sm, most, taken⟩ := s
  obtain ⟨-, -, -, -, h4, h5, h6⟩ := hs
  simp only at h4 h5 h6 m0 m1 hn ⊢
  cases sm
  · have HT := Lib.hid (show ((((w.setCell ⟨b, off + 6, none⟩ (.int .u64 0)).setCell ⟨b, off + 6, none⟩ (.int .u64 (bits .or .u64 0 1))).setCell ⟨b, off + 5, none⟩ (.int .u32 q)).setCell ⟨b, off + 4, none⟩ (.bool true)).drew = tkW w b off ⟨o, n, d, last, false, most, taken⟩ q by simp [tkW, tk])
    clear hn
    go_enter Tryz.func34, Tryz.ntmps34
    go_wp2_with fail
    refine HA.out.mono ?_
    rintro e w1 ⟨rfl, rfl⟩
    go_wp2_with fail
    go_end0
    exact ⟨rfl, HT.out⟩
  · by_cases c : q ≤ most
    · have hc := hn rfl c
      have HT := Lib.hid (show (w.setCell ⟨b, off + 6, none⟩ (.int .u64 (bits .or .u64 taken (IntKind.u64.wrap (2 ^ (most - q).toNat))))).drew = tkW w b off ⟨o, n, d, last, true, most, taken⟩ q by simp [tkW, tk, c])
      have hm : (most - q) % 4294967296 = most - q := by omega
      rw [hm] at HA
      have c1 : most - q < 64 := hc
      have c2 : 0 ≤ most - q := by omega
      clear hn hm
      go_enter Tryz.func34, Tryz.ntmps34
      go_wp2_with fail
      refine HA.out.mono ?_
      rintro e w1 ⟨rfl, rfl⟩
      go_wp2_with fail
      refine bodyPost_ret (results_none rfl _ _ _) rfl ?_
      exact ⟨rfl, HT.out⟩
    · have c3 : decide (q ≤ most) = false := by simpa using c
      have hu : (q - most) % 4294967296 = q - most := by omega
      rw [show (true && decide (q ≤ most)) = false by rw [c3]; rfl] at HA
      by_cases c2 : 64 ≤ q - most
      · have HT := Lib.hid (show ((((w.setCell ⟨b, off + 6, none⟩ (.int .u64 0)).setCell ⟨b, off + 6, none⟩ (.int .u64 (bits .or .u64 0 1))).setCell ⟨b, off + 5, none⟩ (.int .u32 q)).setCell ⟨b, off + 4, none⟩ (.bool true)).drew = tkW w b off ⟨o, n, d, last, true, most, taken⟩ q by simp [tkW, tk, c, hu, c2])
        clear hn hu c3
        go_enter Tryz.func34, Tryz.ntmps34
        go_wp2_with fail
        refine HA.out.mono ?_
        rintro e w1 ⟨rfl, rfl⟩
        go_wp2_with fail
        go_end0
        exact ⟨rfl, HT.out⟩
      · have HT := Lib.hid (show ((((w.setCell ⟨b, off + 6, none⟩ (.int .u64 (IntKind.u64.wrap (taken * 2 ^ (q - most).toNat)))).setCell ⟨b, off + 6, none⟩ (.int .u64 (bits .or .u64 (IntKind.u64.wrap (taken * 2 ^ (q - most).toNat)) 1))).setCell ⟨b, off + 5, none⟩ (.int .u32 q)).setCell ⟨b, off + 4, none⟩ (.bool true)).drew = tkW w b off ⟨o, n, d, last, true, most, taken⟩ q by simp [tkW, tk, c, hu, c2])
        clear hn hu c3
        go_enter Tryz.func34, Tryz.ntmps34
        go_wp2_with fail
        refine HA.out.mono ?_
        rintro e w1 ⟨rfl, rfl⟩
        go_wp2_with fail
        go_end0
        exact ⟨rfl, HT.out⟩

theorem flat7_row : ∀ (xs : List Sn) (i j : Nat) (s s' : Sn) (u : Value), xs[i]? = some s → s'.row = s.row.set j u → j < 7 → flat7 (xs.set i s') = (flat7 xs).set (i * 7 + j) u
  | [], i, j, s, s', u, h, _, _ => by simp at h
  | x :: l, 0, j, s, s', u, h, hr, hj => by
    simp at h
    subst h
    rw [List.set_cons_zero, flat7, flat7, hr, Nat.zero_mul, Nat.zero_add, List.set_append_left _ _ (by simpa [Sn.row] using hj)]
  | x :: l, i + 1, j, s, s', u, h, hr, hj => by
    simp at h
    rw [List.set_cons_succ, flat7, flat7, flat7_row l i j s s' u h hr hj, List.set_append_right _ _ (by simp [Sn.row]; omega), show (i + 1) * 7 + j - x.row.length = i * 7 + j by simp [Sn.row]; omega]
theorem SRow.st {B : Nat} {w : World} {g n cap : Nat} {xs : List Sn} (h : SRow B w (.slice (some ⟨g, 0, none⟩) n cap) xs) {i j : Nat} {s s' : Sn} {u : Value} (hi : xs[i]? = some s) (hr : s'.row = s.row.set j u) (hj : j < 7) : SRow B (w.setCell ⟨g, i * 7 + j, none⟩ u) (.slice (some ⟨g, 0, none⟩) n cap) (xs.set i s') := by
  have hn : n = xs.length := by
    obtain ⟨A, c, e⟩ := h.slice
    injection e
  subst hn
  unfold SRow
  rw [List.length_set, flat7_row xs i j s s' u hi hr hj]
  exact (World.ownsRow.stored h (i * 7 + j) u).1
theorem SRow.take {B : Nat} {w : World} {g n cap : Nat} {xs : List Sn} (h : SRow B w (.slice (some ⟨g, 0, none⟩) n cap) xs) {i : Nat} {s : Sn} (hi : xs[i]? = some s) (q : Int) : SRow B (tkW w g (i * 7) s q) (.slice (some ⟨g, 0, none⟩) n cap) (xs.set i (tk s q)) := by
  have hil := (List.getElem?_eq_some_iff.1 hi).1
  have hset : ∀ s', (xs.set i s')[i]? = some s' := fun s' => by rw [List.getElem?_set_self hil]
  unfold tkW
  split
  · rename_i c
    exact (h.st (j := 6) hi (s' := tk s q) (by simp [tk, c, Sn.row]) (by omega))
  · rename_i c
    have h1 := h.st (j := 6) hi (s' := { s with taken := if s.some = false ∨ 64 ≤ (q - s.most) % 4294967296 then 0 else IntKind.u64.wrap (s.taken * 2 ^ (q - s.most).toNat) }) (u := .int .u64 (if s.some = false ∨ 64 ≤ (q - s.most) % 4294967296 then 0 else IntKind.u64.wrap (s.taken * 2 ^ (q - s.most).toNat))) rfl (by omega)
    have h2 := h1.st (j := 6) (hset _) (s' := { s with taken := (tk s q).taken }) (u := .int .u64 (tk s q).taken) rfl (by omega)
    rw [List.set_set] at h2
    have h3 := h2.st (j := 5) (hset _) (s' := { s with taken := (tk s q).taken, most := q }) (u := .int .u32 q) rfl (by omega)
    rw [List.set_set] at h3
    have h4 := h3.st (j := 4) (hset _) (s' := { s with taken := (tk s q).taken, most := q, some := true }) (u := .bool true) rfl (by omega)
    rw [List.set_set] at h4
    have e : tk s q = { s with taken := (tk s q).taken, most := q, some := true } := by
      unfold tk
      rw [if_neg c]
    rw [e]
    exact h4
end Go.Proofs.YtebacmmfjadalaaGreat
