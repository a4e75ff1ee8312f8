/- Y3 in one text. -/
import Derived.Test.YtgccfdfbnhldbaaGreatDoorProg
import Derived.Test.YtgccfdfbnhldbaaGreatDoorP02
import Derived.Outline
import Derived.WalkLawsBesides
import Derived.WalkSpells
import Derived.Handy
import Derived.Lib.Hide
import Derived.Deep.QuietTactic
import Derived.BigQuiet
import Derived.BigRegion
import Derived.Deep.DeepCutAuto
import Derived.Laws.BitsAllLaws

namespace Go.Proofs.YtgccfdfbnhldbaaGreatDoor.Nb
open Go Go.RowKit

theorem int_eq {k : IntKind} {a b : Int} (h : a = b) : Value.int k a = Value.int k b := by rw [h]

def CutTo (w : World) (A : Option Addr) (c : Nat) (ws : List Nat) (e : Ending) (w' : World) : Prop :=
  ∃ k : Nat, k ≤ ws.length ∧ e = .returned (.slice A k c) ∧ val (ws.take k) = val ws ∧ Norm (ws.take k) ∧ w = w'

theorem cut_more {ws : List Nat} {k : Nat} (h0 : ¬ k = 0) (hk : k ≤ ws.length) (hz : ws.getD (k - 1) 0 = 0) (hv : val (ws.take k) = val ws) : val (ws.take (k - 1)) = val ws := by
  obtain ⟨m, rfl⟩ : ∃ m, k = m + 1 := ⟨k - 1, by omega⟩
  rw [Nat.add_sub_cancel] at hz ⊢
  rw [← hv, cut_step (by omega) hz]
theorem cut_norm {ws : List Nat} {k : Nat} (h0 : ¬ k = 0) (hk : k ≤ ws.length) (hz : ws.getD (k - 1) 0 ≠ 0) : Norm (ws.take k) := by
  obtain ⟨m, rfl⟩ : ∃ m, k = m + 1 := ⟨k - 1, by omega⟩
  exact norm_take (by omega) hz

set_option maxHeartbeats 400000 in
theorem norm_core (A : Option Addr) (c : Nat) (ws : List Nat) (w : World) (h : Mag w (.slice A ws.length c) ws) : Calls Tryz.prog 155 #[.slice A ws.length c] w (CutTo w A c ws) := by
  obtain ⟨A', c', h1, hc0, hc1, h4, h5⟩ := h
  injection h1 with h1 _ h6
  subst h1 h6
  obtain ⟨n, hn⟩ : ∃ n, ws.length = n := ⟨_, rfl⟩
  rw [hn] at hc0 h5 ⊢
  have HN := Lib.hid hn
  have H5 := Lib.hid h5
  clear h5 hn
  go_enter Tryz.func155, Tryz.ntmps155
  go_wp2_with fail
  go_loop [3] (fun v => ∃ k : Nat, k ≤ n ∧ v = .int .i64 (k : Int) ∧ Hid (val (ws.take k) = val ws)) (fun v => (intOf v).toNat)
  case atStart => exact ⟨n, Nat.le_refl _, rfl, Lib.hid (show val (ws.take n) = val ws by rw [List.take_of_length_le (by have := HN.out; omega)])⟩
  case round =>
    obtain ⟨k, hk, rfl, hv⟩ := hrel
    by_cases h0 : k = 0
    · subst h0
      go_wp2_with fail
      go_ret
      exact ⟨0, Nat.zero_le _, rfl, hv.out, .inl (by simp), rfl⟩
    · obtain ⟨b, off, rfl, hb, hcell⟩ := H5.out (by omega)
      have hc := hcell (k - 1) (by omega)
      obtain ⟨x, hx⟩ : ∃ x, ws.getD (k - 1) 0 = x := ⟨_, rfl⟩
      rw [hx] at hc
      clear hcell
      have hk1 : (0 : Int) < (k : Int) := by omega
      have hix : ((k : Int) - 1).toNat = k - 1 := by omega
      by_cases hz : x = 0
      · subst hz
        go_wp2_with fail
        go_round
        case rel => exact ⟨k - 1, by omega, by go_num, Lib.hid (cut_more h0 (by have := HN.out; omega) hx hv.out)⟩
        case measure => simp [intOf]; omega
      · have hz' : ((x : Int) == 0) = false := by simpa using hz
        go_wp2_with fail
        go_ret
        exact ⟨k, by have := HN.out; omega, rfl, hv.out, cut_norm h0 (by have := HN.out; omega) (by rw [hx]; exact hz), rfl⟩

/-- norm: the same number, no nought at its end; the same array -/
theorem norm_any (v : Value) (ws : List Nat) (w : World) (h : Mag w v ws) : Calls Tryz.prog 155 #[v] w fun e w' => ∃ A k c, v = .slice A ws.length c ∧ e = .returned (.slice A k c) ∧ MagN w (.slice A k c) (val ws) ws.length ∧ w = w' := by
  have h' := h
  obtain ⟨A, c, rfl, -⟩ := h
  refine (norm_core A c ws w h').mono fun e w' ⟨k, hk, he, hv, hn, hw⟩ => ⟨A, k, c, rfl, he, ⟨ws.take k, h'.take hk, hn, hv, by rw [List.length_take]; omega⟩, hw⟩
theorem MagN.len {w : World} {A : Option Addr} {k c n L : Nat} (h : MagN w (.slice A k c) n L) : (k = 0 → n = 0) ∧ (k ≠ 0 → n ≠ 0) ∧ k ≤ L := by
  obtain ⟨ws, ⟨A', c', h1, -⟩, hn, hv, hl⟩ := h
  injection h1 with _ h2 _
  subst h2
  refine ⟨fun h0 => ?_, fun h0 => ?_, hl⟩
  · rw [← hv, List.length_eq_zero_iff.1 h0]; rfl
  · have := norm_pos hn (by omega)
    omega

/-- an answer in new memory: that number -/
def Num (w : World) (n L : Nat) (e : Ending) (w' : World) : Prop := ∃ v, e = .returned v ∧ MagN w' v n L ∧ Below w.heap.size w w'
theorem Mag.one (w : World) (x : Nat) (hx : x < 18446744073709551616) (t : TypeId) : Mag (w.alloc (.cells #[.int .u64 (x : Nat)] t)) (.slice (some ⟨w.heap.size, 0, none⟩) 1 1) [x] := by
  refine ⟨some ⟨w.heap.size, 0, none⟩, 1, rfl, by simp, by omega, W64.one hx, fun _ => ⟨w.heap.size, 0, rfl, by simp, fun j hj => ?_⟩⟩
  have h0 : j = 0 := by simp at hj; omega
  subst h0
  simp [go_sem]
set_option maxHeartbeats 400000 in
theorem word_any (n : Nat) (w : World) (hn : n < 18446744073709551616) : Calls Tryz.prog 100 #[.int .u64 (n : Int)] w (Num w n 1) := by
  have HM := Lib.hid (Mag.one w n hn 22)
  have HB := Lib.hid ((Below.refl w.heap.size w).alloc (Nat.le_refl _) (.cells #[.int .u64 (n : Int)] 22))
  go_enter Tryz.func100, Tryz.ntmps100
  go_wp2_with fail
  refine (norm_any _ [n] _ HM.out).mono ?_
  rintro e w1 ⟨A', k, c, -, rfl, hm, rfl⟩
  have HV : Hid (MagN _ _ n 1) := Lib.hid (by have h := hm; simp only [val, Nat.mul_zero, Nat.add_zero] at h; exact h)
  clear hm
  go_wp2_with fail
  go_ret
  exact ⟨_, rfl, HV.out, HB.out⟩
set_option maxHeartbeats 400000 in
theorem digit_any (A : Option Addr) (n c i : Nat) (ws : List Nat) (w : World) (h : Mag w (.slice A n c) ws) (hi : i ≤ 4611686018427387904) : Calls Tryz.prog 151 #[.slice A n c, .int .i64 (i : Int)] w fun e w' => e = .returned (.int .u64 (ws.getD i 0 : Nat)) ∧ w = w' := by
  obtain ⟨A', c', h1, hc0, hc1, h4, h5⟩ := h
  injection h1 with h1 h2 h6
  subst h1 h2 h6
  obtain ⟨n, hn⟩ : ∃ n, ws.length = n := ⟨_, rfl⟩
  rw [hn] at hc0 h5 ⊢
  have HN := Lib.hid hn
  by_cases hlt : i < n
  · obtain ⟨b, off, rfl, hb, hcell⟩ := h5 (by omega)
    have hc := hcell i hlt
    obtain ⟨x, hx⟩ : ∃ x, ws.getD i 0 = x := ⟨_, rfl⟩
    rw [hx] at hc ⊢
    have hi1 : (i : Int) < (n : Int) := by omega
    have hi0 : (0 : Int) ≤ (i : Int) := by omega
    clear hcell h5 hn h4
    go_enter Tryz.func151, Tryz.ntmps151
    go_wp2_with fail
    go_ret
    exact ⟨rfl, rfl⟩
  · have hz : ws.getD i 0 = 0 := by rw [List.getD_eq_getElem?_getD, List.getElem?_eq_none (by omega)]; rfl
    rw [hz]
    have hi1 : ¬ (i : Int) < (n : Int) := by omega
    clear h5 hn h4 hz
    go_enter Tryz.func151, Tryz.ntmps151
    go_wp2_with fail
    go_ret
    exact ⟨rfl, rfl⟩
theorem low_any (A : Option Addr) (n c : Nat) (ws : List Nat) (w : World) (h : Mag w (.slice A n c) ws) : Calls Tryz.prog 105 #[.slice A n c] w fun e w' => e = .returned (.int .u64 (ws.getD 0 0 : Nat)) ∧ w = w' := by
  have HD := Lib.hid (digit_any A n c 0 ws w h (by omega))
  clear h
  go_enter Tryz.func105, Tryz.ntmps105
  go_wp2_with fail
  refine HD.out.mono ?_
  rintro e w1 ⟨rfl, rfl⟩
  go_wp2_with fail
  go_ret
  exact ⟨rfl, rfl⟩
end Go.Proofs.YtgccfdfbnhldbaaGreatDoor.Nb
