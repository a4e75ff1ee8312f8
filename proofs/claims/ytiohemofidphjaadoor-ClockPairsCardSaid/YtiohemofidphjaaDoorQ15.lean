/- over by a divisor of one word. Conditions: lengths of at most 2 to the 29th words. -/
import Derived.Test.YtiohemofidphjaaDoorQ11
import Derived.Test.YtiohemofidphjaaDoorQ9
namespace Go.Proofs.YtiohemofidphjaaDoor.Bg
open Go Go.RowKit

theorem MagN.one {w : World} {v : Value} {d : Nat} (h : MagN w v d 1) (hd : 0 < d) : ∃ b off c, v = .slice (some ⟨b, off, none⟩) 1 c ∧ w.cell? ⟨b, off, none⟩ = some (.int .u32 (d : Nat)) ∧ b < w.heap.size ∧ d < 4294967296 := by
  obtain ⟨ws, ⟨A, c, rfl, h1, h2, h3, h4⟩, -, h5, h6⟩ := h
  rcases ws with _ | ⟨x, _ | ⟨y, r⟩⟩
  · simp [val] at h5; omega
  · have hx : x = d := by rw [← h5]; simp [val]
    subst hx
    obtain ⟨b, off, rfl, hb, hc⟩ := h4 (by simp)
    refine ⟨b, off, c, rfl, ?_, hb, ?_⟩
    · exact hc 0 (by simp)
    · exact h3.get 0
  · simp at h6

theorem MagN.zero (w : World) (A : Option Addr) (c L : Nat) (hc : c ≤ 9223372036854775807) : MagN w (.slice A 0 c) 0 L :=
  ⟨[], Mag.nil w A c hc, Or.inl rfl, rfl, Nat.zero_le _⟩

set_option maxRecDepth 8000 in
theorem over_lt (u v : Value) (m d L : Nat) (w : World) (hu : MagN w u m L) (hv : MagN w v d 1) (hL : L ≤ 536870912) (hlt : m < d) (hL1 : 1 ≤ L) :
    Calls Tryd.prog 56 #[u, v] w fun e w' => ∃ q r, e = .returned (.tuple #[q, r]) ∧ MagN w' q (m / d) L ∧ MagN w' r (m % d) 1 ∧ Below w.heap.size w w' := by
  have hc := compare_any u v m d L w hu (hv.more hL1) (by omega)
  have hcv : cmpN m d = -1 := by unfold cmpN; split <;> (try split) <;> omega
  simp only [hcv] at hc
  obtain ⟨-, -, -, -, -, -, hd'⟩ := hv.one (by omega)
  have hm := hu.less (L' := 1) (by omega)
  have hdm : m / d = 0 := Nat.div_eq_of_lt hlt
  have hmm : m % d = m := Nat.mod_eq_of_lt hlt
  rw [hdm, hmm]
  obtain ⟨ws, g1, g2⟩ := hm
  have G1 := Lib.hid g1
  have G2 := Lib.hid g2
  have HC := Lib.hid hc
  clear hu hv hc g1 g2 hdm hmm hcv
  go_enter Tryd.func56, Tryd.ntmps56
  go_wp2_with fail
  refine HC.out.mono ?_
  rintro e w1 ⟨rfl, j, rfl⟩
  go_wp2_with (at_builtin; refine wpList_append_words (w.drewN j) rfl _ _ rfl u ws rfl rfl G1.out (by have := G2.out.2.2; omega) ?_; intro v1 w1 hm1 hb1)
  have HB := Lib.hid (And.intro hm1 ((below_dN (Below.refl w.heap.size w) j).trans hb1))
  clear hm1 hb1
  go_ret2
  exact ⟨_, _, rfl, MagN.zero _ _ _ _ (by omega), ⟨ws, HB.out.1, G2.out⟩, HB.out.2⟩

theorem Mag.single (w : World) (x : Nat) (hx : x < 4294967296) (t : TypeId) : Mag (w.alloc (.cells #[.int .u32 (x : Nat)] t)) (.slice (some ⟨w.heap.size, 0, none⟩) 1 1) [x] := by
  refine ⟨_, 1, rfl, by simp, by omega, ?_, fun _ => ⟨w.heap.size, 0, rfl, by simp, fun j hj => ?_⟩⟩
  · intro y hy
    simp only [List.mem_singleton] at hy
    omega
  · have h0 : j = 0 := by simp at hj; omega
    subst h0
    simp [go_sem]

set_option maxRecDepth 8000 in
theorem over_ge (u v : Value) (m d L : Nat) (w : World) (hu : MagN w u m L) (hv : MagN w v d 1) (hL : L ≤ 536870912) (hd : 0 < d) (hge : d ≤ m) (hL1 : 1 ≤ L) :
    Calls Tryd.prog 56 #[u, v] w fun e w' => ∃ q r, e = .returned (.tuple #[q, r]) ∧ MagN w' q (m / d) L ∧ MagN w' r (m % d) 1 ∧ Below w.heap.size w w' := by
  have hc := compare_any u v m d L w hu (hv.more hL1) (by omega)
  generalize hcv : cmpN m d = cv at hc
  have k0 : 0 ≤ cv := by rw [← hcv]; unfold cmpN; split <;> (try split) <;> omega
  have k1 : cv ≤ 1 := by rw [← hcv]; unfold cmpN; split <;> (try split) <;> omega
  clear hcv
  obtain ⟨b, off, c, rfl, hcell, hb, hd'⟩ := hv.one hd
  obtain ⟨ws, g1, g2, rfl, g4⟩ := hu
  obtain ⟨A, ca, rfl, -⟩ := id g1
  obtain ⟨r, hr⟩ : ∃ r, val ws % d = r := ⟨_, rfl⟩
  have hrd : r < d := by rw [← hr]; exact Nat.mod_lt _ hd
  have hs := fun (W : World) (h : Mag W (.slice A ws.length ca) ws) => short_core A ws.length ca d ws W h (by omega) hd hd'
  rw [hr] at hs ⊢
  have HS := Lib.hid hs
  have G1 := Lib.hid g1
  have G4 := Lib.hid g4
  have HC := Lib.hid hc
  clear hv hc g1 g2 g4 hr hs hge
  go_enter Tryd.func56, Tryd.ntmps56
  go_wp2_with fail
  refine HC.out.mono ?_
  rintro e w1 ⟨rfl, j, rfl⟩
  go_wp2_with fail
  refine (HS.out _ (G1.out.drewN j)).mono ?_
  rintro e w2 ⟨q, rfl, hq, hb2⟩
  have HB := Lib.hid (And.intro hq ((below_dN (Below.refl w.heap.size w) j).trans hb2))
  clear hq hb2
  go_wp2_with fail
  refine (cut_any _ _ _ (Mag.single w2 r (by omega) 73)).mono ?_
  rintro e w3 ⟨A3, k3, c3, -, rfl, hm3, rfl⟩
  have HF := Lib.hid (show MagN _ _ r 1 from (show val [r] = r from by simp [val]) ▸ hm3)
  clear hm3
  go_wp2_with fail
  go_ret2
  exact ⟨_, _, rfl, (HB.out.1.more G4.out).below ((Below.refl _ _).alloc (Nat.le_refl _) _), HF.out, HB.out.2.trans ((Below.refl _ _).alloc HB.out.2.size _)⟩

theorem over_one (u v : Value) (m d L : Nat) (w : World) (hu : MagN w u m L) (hv : MagN w v d 1) (hL : L ≤ 536870912) (hd : 0 < d) (hL1 : 1 ≤ L) :
    Calls Tryd.prog 56 #[u, v] w fun e w' => ∃ q r, e = .returned (.tuple #[q, r]) ∧ MagN w' q (m / d) L ∧ MagN w' r (m % d) 1 ∧ Below w.heap.size w w' := by
  rcases Nat.lt_or_ge m d with c | c
  · exact over_lt u v m d L w hu hv hL c hL1
  · exact over_ge u v m d L w hu hv hL hd c hL1
end Go.Proofs.YtiohemofidphjaaDoor.Bg
