/- take, as the stores that it makes; a row of sensors behind such stores. -/
import Derived.Test.YtebacmmfjadalaaJ17
namespace Go.Proofs.Ytebacmmfjadalaa
open Go Go.RowKit

/-- the world behind take -/
def tkW (w : World) (b off : Nat) (s : Sn) (q : Int) : World :=
  if s.some = true ∧ q ≤ s.most then (w.setCell ⟨b, off + 6, none⟩ (.int .u64 (tk s q).taken)).drew
  else ((((w.setCell ⟨b, off + 6, none⟩ (.int .u64 (if s.some = false ∨ 64 ≤ (q - s.most) % 4294967296 then 0 else IntKind.u64.wrap (s.taken * 2 ^ (q - s.most).toNat)))).setCell ⟨b, off + 6, none⟩ (.int .u64 (tk s q).taken)).setCell ⟨b, off + 5, none⟩ (.int .u32 q)).setCell ⟨b, off + 4, none⟩ (.bool true)).drew

set_option maxRecDepth 8000 in
set_option maxHeartbeats 2000000 in
theorem take_sets (b off : Nat) (s : Sn) (q : Int) (w : World) (hs : SnAt w b off s) (hz : ∀ i, w.frozen? ⟨b, i, none⟩ = false) (q0 : 0 ≤ q) (q1 : q < 4294967296) (m0 : 0 ≤ s.most) (m1 : s.most < 4294967296) (hn : s.some = true → q ≤ s.most → s.most - q < 64) :
    Calls Try.prog 40 #[.pointer (some ⟨b, off, none⟩), .int .u32 q] w fun e w' => e = .returned (.tuple #[]) ∧ w' = tkW w b off s q := by
  have HA := Lib.hid (age_any b off s q w hs)
  obtain ⟨o, n, d, last, sm, most, taken⟩ := s
  obtain ⟨-, -, -, -, h4, h5, h6⟩ := hs
  simp only at h4 h5 h6 m0 m1 hn ⊢
  cases sm
  · have HT := Lib.hid (show ((((w.setCell ⟨b, off + 6, none⟩ (.int .u64 0)).setCell ⟨b, off + 6, none⟩ (.int .u64 (bits .or .u64 0 1))).setCell ⟨b, off + 5, none⟩ (.int .u32 q)).setCell ⟨b, off + 4, none⟩ (.bool true)).drew = tkW w b off ⟨o, n, d, last, false, most, taken⟩ q by simp [tkW, tk])
    clear hn
    go_enter Try.func40, Try.ntmps40
    go_wp2_with fail
    refine HA.out.mono ?_
    rintro e w1 ⟨rfl, rfl⟩
    go_wp2_with fail
    go_end0
    exact ⟨rfl, HT.out⟩
  · by_cases c : q ≤ most
    · have hc := hn rfl c
      have HT := Lib.hid (show (w.setCell ⟨b, off + 6, none⟩ (.int .u64 (bits .or .u64 taken (IntKind.u64.wrap (2 ^ (most - q).toNat))))).drew = tkW w b off ⟨o, n, d, last, true, most, taken⟩ q by simp [tkW, tk, c])
      have hm : (most - q) % 4294967296 = most - q := by omega
      rw [hm] at HA
      have c1 : most - q < 64 := hc
      have c2 : 0 ≤ most - q := by omega
      clear hn hm
      go_enter Try.func40, Try.ntmps40
      go_wp2_with fail
      refine HA.out.mono ?_
      rintro e w1 ⟨rfl, rfl⟩
      go_wp2_with fail
      refine bodyPost_ret (results_none rfl _ _ _) rfl ?_
      exact ⟨rfl, HT.out⟩
    · have c3 : decide (q ≤ most) = false := by simpa using c
      have hu : (q - most) % 4294967296 = q - most := by omega
      rw [show (true && decide (q ≤ most)) = false by rw [c3]; rfl] at HA
      by_cases c2 : 64 ≤ q - most
      · have HT := Lib.hid (show ((((w.setCell ⟨b, off + 6, none⟩ (.int .u64 0)).setCell ⟨b, off + 6, none⟩ (.int .u64 (bits .or .u64 0 1))).setCell ⟨b, off + 5, none⟩ (.int .u32 q)).setCell ⟨b, off + 4, none⟩ (.bool true)).drew = tkW w b off ⟨o, n, d, last, true, most, taken⟩ q by simp [tkW, tk, c, hu, c2])
        clear hn hu c3
        go_enter Try.func40, Try.ntmps40
        go_wp2_with fail
        refine HA.out.mono ?_
        rintro e w1 ⟨rfl, rfl⟩
        go_wp2_with fail
        go_end0
        exact ⟨rfl, HT.out⟩
      · have HT := Lib.hid (show ((((w.setCell ⟨b, off + 6, none⟩ (.int .u64 (IntKind.u64.wrap (taken * 2 ^ (q - most).toNat)))).setCell ⟨b, off + 6, none⟩ (.int .u64 (bits .or .u64 (IntKind.u64.wrap (taken * 2 ^ (q - most).toNat)) 1))).setCell ⟨b, off + 5, none⟩ (.int .u32 q)).setCell ⟨b, off + 4, none⟩ (.bool true)).drew = tkW w b off ⟨o, n, d, last, true, most, taken⟩ q by simp [tkW, tk, c, hu, c2])
        clear hn hu c3
        go_enter Try.func40, Try.ntmps40
        go_wp2_with fail
        refine HA.out.mono ?_
        rintro e w1 ⟨rfl, rfl⟩
        go_wp2_with fail
        go_end0
        exact ⟨rfl, HT.out⟩

theorem flat7_row : ∀ (xs : List Sn) (i j : Nat) (s s' : Sn) (u : Value), xs[i]? = some s → s'.row = s.row.set j u → j < 7 → flat7 (xs.set i s') = (flat7 xs).set (i * 7 + j) u
  | [], i, j, s, s', u, h, _, _ => by simp at h
  | x :: l, 0, j, s, s', u, h, hr, hj => by
    simp at h
    subst h
    rw [List.set_cons_zero, flat7, flat7, hr, Nat.zero_mul, Nat.zero_add, List.set_append_left _ _ (by simpa [Sn.row] using hj)]
  | x :: l, i + 1, j, s, s', u, h, hr, hj => by
    simp at h
    rw [List.set_cons_succ, flat7, flat7, flat7_row l i j s s' u h hr hj, List.set_append_right _ _ (by simp [Sn.row]; omega), show (i + 1) * 7 + j - x.row.length = i * 7 + j by simp [Sn.row]; omega]
theorem SRow.st {B : Nat} {w : World} {g n cap : Nat} {xs : List Sn} (h : SRow B w (.slice (some ⟨g, 0, none⟩) n cap) xs) {i j : Nat} {s s' : Sn} {u : Value} (hi : xs[i]? = some s) (hr : s'.row = s.row.set j u) (hj : j < 7) : SRow B (w.setCell ⟨g, i * 7 + j, none⟩ u) (.slice (some ⟨g, 0, none⟩) n cap) (xs.set i s') := by
  have hn : n = xs.length := by
    obtain ⟨A, c, e⟩ := h.slice
    injection e
  subst hn
  unfold SRow
  rw [List.length_set, flat7_row xs i j s s' u hi hr hj]
  exact (World.ownsRow.stored h (i * 7 + j) u).1
theorem SRow.take {B : Nat} {w : World} {g n cap : Nat} {xs : List Sn} (h : SRow B w (.slice (some ⟨g, 0, none⟩) n cap) xs) {i : Nat} {s : Sn} (hi : xs[i]? = some s) (q : Int) : SRow B (tkW w g (i * 7) s q) (.slice (some ⟨g, 0, none⟩) n cap) (xs.set i (tk s q)) := by
  have hil := (List.getElem?_eq_some_iff.1 hi).1
  have hset : ∀ s', (xs.set i s')[i]? = some s' := fun s' => by rw [List.getElem?_set_self hil]
  unfold tkW
  split
  · rename_i c
    exact (h.st (j := 6) hi (s' := tk s q) (by simp [tk, c, Sn.row]) (by omega))
  · rename_i c
    have h1 := h.st (j := 6) hi (s' := { s with taken := if s.some = false ∨ 64 ≤ (q - s.most) % 4294967296 then 0 else IntKind.u64.wrap (s.taken * 2 ^ (q - s.most).toNat) }) (u := .int .u64 (if s.some = false ∨ 64 ≤ (q - s.most) % 4294967296 then 0 else IntKind.u64.wrap (s.taken * 2 ^ (q - s.most).toNat))) rfl (by omega)
    have h2 := h1.st (j := 6) (hset _) (s' := { s with taken := (tk s q).taken }) (u := .int .u64 (tk s q).taken) rfl (by omega)
    rw [List.set_set] at h2
    have h3 := h2.st (j := 5) (hset _) (s' := { s with taken := (tk s q).taken, most := q }) (u := .int .u32 q) rfl (by omega)
    rw [List.set_set] at h3
    have h4 := h3.st (j := 4) (hset _) (s' := { s with taken := (tk s q).taken, most := q, some := true }) (u := .bool true) rfl (by omega)
    rw [List.set_set] at h4
    have e : tk s q = { s with taken := (tk s q).taken, most := q, some := true } := by
      unfold tk
      rw [if_neg c]
    rw [e]
    exact h4
end Go.Proofs.Ytebacmmfjadalaa
