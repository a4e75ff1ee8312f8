/- Y3 Q3 in one text. -/
import Derived.Test.YtbidlkmagbjllaaGreatDoorProg
import Derived.Test.YtbidlkmagbjllaaGreatDoorP02
import Derived.Outline
import Derived.WalkLawsBesides
import Derived.WalkSpells
import Derived.Handy
import Derived.Lib.Hide
import Derived.Deep.QuietTactic
import Derived.BigQuiet
import Derived.BigRegion
import Derived.Deep.DeepCutAuto
import Derived.Laws.BitsAllLaws

namespace Go.Proofs.YtbidlkmagbjllaaGreatDoor.Nb
open Go Go.RowKit

theorem int_eq {k : IntKind} {a b : Int} (h : a = b) : Value.int k a = Value.int k b := by rw [h]

def CutTo (w : World) (A : Option Addr) (c : Nat) (ws : List Nat) (e : Ending) (w' : World) : Prop :=
  ∃ k : Nat, k ≤ ws.length ∧ e = .returned (.slice A k c) ∧ val (ws.take k) = val ws ∧ Norm (ws.take k) ∧ w = w'

theorem cut_more {ws : List Nat} {k : Nat} (h0 : ¬ k = 0) (hk : k ≤ ws.length) (hz : ws.getD (k - 1) 0 = 0) (hv : val (ws.take k) = val ws) : val (ws.take (k - 1)) = val ws := by
  obtain ⟨m, rfl⟩ : ∃ m, k = m + 1 := ⟨k - 1, by omega⟩
  rw [Nat.add_sub_cancel] at hz ⊢
  rw [← hv, cut_step (by omega) hz]
theorem cut_norm {ws : List Nat} {k : Nat} (h0 : ¬ k = 0) (hk : k ≤ ws.length) (hz : ws.getD (k - 1) 0 ≠ 0) : Norm (ws.take k) := by
  obtain ⟨m, rfl⟩ : ∃ m, k = m + 1 := ⟨k - 1, by omega⟩
  exact norm_take (by omega) hz

set_option maxHeartbeats 400000 in
theorem norm_core (A : Option Addr) (c : Nat) (ws : List Nat) (w : World) (h : Mag w (.slice A ws.length c) ws) : Calls Tryz.prog 159 #[.slice A ws.length c] w (CutTo w A c ws) := by
  obtain ⟨A', c', h1, hc0, hc1, h4, h5⟩ := h
  injection h1 with h1 _ h6
  subst h1 h6
  obtain ⟨n, hn⟩ : ∃ n, ws.length = n := ⟨_, rfl⟩
  rw [hn] at hc0 h5 ⊢
  have HN := Lib.hid hn
  have H5 := Lib.hid h5
  clear h5 hn
  go_enter Tryz.func159, Tryz.ntmps159
  go_wp2_with fail
  go_loop [3] (fun v => ∃ k : Nat, k ≤ n ∧ v = .int .i64 (k : Int) ∧ Hid (val (ws.take k) = val ws)) (fun v => (intOf v).toNat)
  case atStart => exact ⟨n, Nat.le_refl _, rfl, Lib.hid (show val (ws.take n) = val ws by rw [List.take_of_length_le (by have := HN.out; omega)])⟩
  case round =>
    obtain ⟨k, hk, rfl, hv⟩ := hrel
    by_cases h0 : k = 0
    · subst h0
      go_wp2_with fail
      go_ret
      exact ⟨0, Nat.zero_le _, rfl, hv.out, .inl (by simp), rfl⟩
    · obtain ⟨b, off, rfl, hb, hcell⟩ := H5.out (by omega)
      have hc := hcell (k - 1) (by omega)
      obtain ⟨x, hx⟩ : ∃ x, ws.getD (k - 1) 0 = x := ⟨_, rfl⟩
      rw [hx] at hc
      clear hcell
      have hk1 : (0 : Int) < (k : Int) := by omega
      have hix : ((k : Int) - 1).toNat = k - 1 := by omega
      by_cases hz : x = 0
      · subst hz
        go_wp2_with fail
        go_round
        case rel => exact ⟨k - 1, by omega, by go_num, Lib.hid (cut_more h0 (by have := HN.out; omega) hx hv.out)⟩
        case measure => simp [intOf]; omega
      · have hz' : ((x : Int) == 0) = false := by simpa using hz
        go_wp2_with fail
        go_ret
        exact ⟨k, by have := HN.out; omega, rfl, hv.out, cut_norm h0 (by have := HN.out; omega) (by rw [hx]; exact hz), rfl⟩

/-- norm: the same number, no nought at its end; the same array -/
theorem norm_any (v : Value) (ws : List Nat) (w : World) (h : Mag w v ws) : Calls Tryz.prog 159 #[v] w fun e w' => ∃ A k c, v = .slice A ws.length c ∧ e = .returned (.slice A k c) ∧ MagN w (.slice A k c) (val ws) ws.length ∧ w = w' := by
  have h' := h
  obtain ⟨A, c, rfl, -⟩ := h
  refine (norm_core A c ws w h').mono fun e w' ⟨k, hk, he, hv, hn, hw⟩ => ⟨A, k, c, rfl, he, ⟨ws.take k, h'.take hk, hn, hv, by rw [List.length_take]; omega⟩, hw⟩
theorem MagN.len {w : World} {A : Option Addr} {k c n L : Nat} (h : MagN w (.slice A k c) n L) : (k = 0 → n = 0) ∧ (k ≠ 0 → n ≠ 0) ∧ k ≤ L := by
  obtain ⟨ws, ⟨A', c', h1, -⟩, hn, hv, hl⟩ := h
  injection h1 with _ h2 _
  subst h2
  refine ⟨fun h0 => ?_, fun h0 => ?_, hl⟩
  · rw [← hv, List.length_eq_zero_iff.1 h0]; rfl
  · have := norm_pos hn (by omega)
    omega

/-- an answer in new memory: that number -/
def Num (w : World) (n L : Nat) (e : Ending) (w' : World) : Prop := ∃ v, e = .returned v ∧ MagN w' v n L ∧ Below w.heap.size w w'
theorem Mag.one (w : World) (x : Nat) (hx : x < 18446744073709551616) (t : TypeId) : Mag (w.alloc (.cells #[.int .u64 (x : Nat)] t)) (.slice (some ⟨w.heap.size, 0, none⟩) 1 1) [x] := by
  refine ⟨some ⟨w.heap.size, 0, none⟩, 1, rfl, by simp, by omega, W64.one hx, fun _ => ⟨w.heap.size, 0, rfl, by simp, fun j hj => ?_⟩⟩
  have h0 : j = 0 := by simp at hj; omega
  subst h0
  simp [go_sem]
set_option maxHeartbeats 400000 in
theorem word_any (n : Nat) (w : World) (hn : n < 18446744073709551616) : Calls Tryz.prog 139 #[.int .u64 (n : Int)] w (Num w n 1) := by
  have HM := Lib.hid (Mag.one w n hn 74)
  have HB := Lib.hid ((Below.refl w.heap.size w).alloc (Nat.le_refl _) (.cells #[.int .u64 (n : Int)] 74))
  go_enter Tryz.func139, Tryz.ntmps139
  go_wp2_with fail
  refine (norm_any _ [n] _ HM.out).mono ?_
  rintro e w1 ⟨A', k, c, -, rfl, hm, rfl⟩
  have HV : Hid (MagN _ _ n 1) := Lib.hid (by have h := hm; simp only [val, Nat.mul_zero, Nat.add_zero] at h; exact h)
  clear hm
  go_wp2_with fail
  go_ret
  exact ⟨_, rfl, HV.out, HB.out⟩
set_option maxHeartbeats 400000 in
theorem digit_any (A : Option Addr) (n c i : Nat) (ws : List Nat) (w : World) (h : Mag w (.slice A n c) ws) (hi : i ≤ 4611686018427387904) : Calls Tryz.prog 137 #[.slice A n c, .int .i64 (i : Int)] w fun e w' => e = .returned (.int .u64 (ws.getD i 0 : Nat)) ∧ w = w' := by
  obtain ⟨A', c', h1, hc0, hc1, h4, h5⟩ := h
  injection h1 with h1 h2 h6
  subst h1 h2 h6
  obtain ⟨n, hn⟩ : ∃ n, ws.length = n := ⟨_, rfl⟩
  rw [hn] at hc0 h5 ⊢
  have HN := Lib.hid hn
  by_cases hlt : i < n
  · obtain ⟨b, off, rfl, hb, hcell⟩ := h5 (by omega)
    have hc := hcell i hlt
    obtain ⟨x, hx⟩ : ∃ x, ws.getD i 0 = x := ⟨_, rfl⟩
    rw [hx] at hc ⊢
    have hi1 : (i : Int) < (n : Int) := by omega
    have hi0 : (0 : Int) ≤ (i : Int) := by omega
    clear hcell h5 hn h4
    go_enter Tryz.func137, Tryz.ntmps137
    go_wp2_with fail
    go_ret
    exact ⟨rfl, rfl⟩
  · have hz : ws.getD i 0 = 0 := by rw [List.getD_eq_getElem?_getD, List.getElem?_eq_none (by omega)]; rfl
    rw [hz]
    have hi1 : ¬ (i : Int) < (n : Int) := by omega
    clear h5 hn h4 hz
    go_enter Tryz.func137, Tryz.ntmps137
    go_wp2_with fail
    go_ret
    exact ⟨rfl, rfl⟩
theorem low_any (A : Option Addr) (n c : Nat) (ws : List Nat) (w : World) (h : Mag w (.slice A n c) ws) : Calls Tryz.prog 110 #[.slice A n c] w fun e w' => e = .returned (.int .u64 (ws.getD 0 0 : Nat)) ∧ w = w' := by
  have HD := Lib.hid (digit_any A n c 0 ws w h (by omega))
  clear h
  go_enter Tryz.func110, Tryz.ntmps110
  go_wp2_with fail
  refine HD.out.mono ?_
  rintro e w1 ⟨rfl, rfl⟩
  go_wp2_with fail
  go_ret
  exact ⟨rfl, rfl⟩
end Go.Proofs.YtbidlkmagbjllaaGreatDoor.Nb

namespace Go.Proofs.YtbidlkmagbjllaaGreatDoor.Bg
open Go Go.RowKit

theorem int_eq {k : IntKind} {a b : Int} (h : a = b) : Value.int k a = Value.int k b := by rw [h]

def CutTo (w : World) (A : Option Addr) (c : Nat) (ws : List Nat) (e : Ending) (w' : World) : Prop :=
  ∃ k : Nat, k ≤ ws.length ∧ e = .returned (.slice A k c) ∧ val (ws.take k) = val ws ∧ Norm (ws.take k) ∧ w = w'

theorem cut_more {ws : List Nat} {k : Nat} (h0 : ¬ k = 0) (hk : k ≤ ws.length) (hz : ws.getD (k - 1) 0 = 0) (hv : val (ws.take k) = val ws) : val (ws.take (k - 1)) = val ws := by
  obtain ⟨m, rfl⟩ : ∃ m, k = m + 1 := ⟨k - 1, by omega⟩
  rw [Nat.add_sub_cancel] at hz ⊢
  rw [← hv, cut_step (by omega) hz]
theorem cut_norm {ws : List Nat} {k : Nat} (h0 : ¬ k = 0) (hk : k ≤ ws.length) (hz : ws.getD (k - 1) 0 ≠ 0) : Norm (ws.take k) := by
  obtain ⟨m, rfl⟩ : ∃ m, k = m + 1 := ⟨k - 1, by omega⟩
  exact norm_take (by omega) hz

set_option maxHeartbeats 400000 in
theorem cut_core (A : Option Addr) (c : Nat) (ws : List Nat) (w : World) (h : Mag w (.slice A ws.length c) ws) : Calls Tryz.prog 38 #[.slice A ws.length c] w (CutTo w A c ws) := by
  obtain ⟨A', c', h1, hc0, hc1, h4, h5⟩ := h
  injection h1 with h1 _ h6
  subst h1 h6
  obtain ⟨n, hn⟩ : ∃ n, ws.length = n := ⟨_, rfl⟩
  rw [hn] at hc0 h5 ⊢
  have HN := Lib.hid hn
  have H5 := Lib.hid h5
  clear h5 hn
  go_enter Tryz.func38, Tryz.ntmps38
  go_wp2_with fail
  go_loop [0] (fun v => ∃ k : Nat, k ≤ n ∧ v = .slice A k c ∧ Hid (val (ws.take k) = val ws)) (fun v => match v with | .slice _ k _ => k | _ => 0)
  case atStart => exact ⟨n, Nat.le_refl _, rfl, show val (ws.take n) = val ws by rw [List.take_of_length_le (by have := HN.out; omega)]⟩
  case round =>
    obtain ⟨k, hk, rfl, hv⟩ := hrel
    by_cases h0 : k = 0
    · subst h0
      go_wp2_with fail
      go_ret
      exact ⟨0, Nat.zero_le _, rfl, hv.out, .inl (by simp), rfl⟩
    · obtain ⟨b, off, rfl, hb, hcell⟩ := H5.out (by omega)
      have hc := hcell (k - 1) (by omega)
      obtain ⟨x, hx⟩ : ∃ x, ws.getD (k - 1) 0 = x := ⟨_, rfl⟩
      rw [hx] at hc
      clear hcell
      have hk1 : (0 : Int) < (k : Int) := by omega
      have hix : ((k : Int) - 1).toNat = k - 1 := by omega
      by_cases hz : x = 0
      · subst hz
        go_wp2_with fail
        go_round
        case rel => exact ⟨k - 1, by omega, rfl, cut_more h0 (by have := HN.out; omega) hx hv.out⟩
        case measure => simp; omega
      · have hz' : ((x : Int) == 0) = false := by simpa using hz
        go_wp2_with fail
        go_ret
        exact ⟨k, by have := HN.out; omega, rfl, hv.out, cut_norm h0 (by have := HN.out; omega) (by rw [hx]; exact hz), rfl⟩

/-- cut: the same number, no nought at its end; the same array -/
theorem cut_any (v : Value) (ws : List Nat) (w : World) (h : Mag w v ws) : Calls Tryz.prog 38 #[v] w fun e w' => ∃ A k c, v = .slice A ws.length c ∧ e = .returned (.slice A k c) ∧ MagN w (.slice A k c) (val ws) ws.length ∧ w = w' := by
  have h' := h
  obtain ⟨A, c, rfl, -⟩ := h
  refine (cut_core A c ws w h').mono fun e w' ⟨k, hk, he, hv, hn, hw⟩ => ⟨A, k, c, rfl, he, ⟨ws.take k, h'.take hk, hn, hv, by rw [List.length_take]; omega⟩, hw⟩

/-- what put leaves: the number is there -/
def Put (w : World) (b off : Nat) (neg : Bool) (n L : Nat) (e : Ending) (w' : World) : Prop :=
  e = .returned (.pointer (some ⟨b, off, none⟩)) ∧ Wrote w w' ⟨b, off, none⟩ ∧ IntAt w' ⟨b, off, none⟩ (if neg then -(n : Int) else n) L

theorem MagN.len {w : World} {A : Option Addr} {k c n L : Nat} (h : MagN w (.slice A k c) n L) : (k = 0 → n = 0) ∧ (k ≠ 0 → n ≠ 0) ∧ k ≤ L := by
  obtain ⟨ws, ⟨A', c', e, -⟩, h2, h3, h4⟩ := h
  injection e with _ e _
  subst e
  refine ⟨fun h0 => ?_, fun h0 => ?_, h4⟩
  · rw [← h3, List.eq_nil_of_length_eq_zero h0]; rfl
  · have := norm_pos h2 (by omega); omega
theorem put_end {w : World} {b off : Nat} {neg neg' : Bool} {A : Option Addr} {k c n L : Nat} (hs : Slot w ⟨b, off, none⟩) (hm : MagN w (.slice A k c) n L)
    (hn : neg' = (neg && decide (0 < k))) : Put w b off neg n L (.returned (.pointer (some ⟨b, off, none⟩))) ((w.setCell ⟨b, off + 1, none⟩ (.slice A k c)).setCell ⟨b, off, none⟩ (.bool neg')) := by
  have hw : Wrote w ((w.setCell ⟨b, off + 1, none⟩ (.slice A k c)).setCell ⟨b, off, none⟩ (.bool neg')) ⟨b, off, none⟩ := ⟨b, off, w, neg', A, k, c, rfl, Below.refl _ _, rfl⟩
  have hm' := hw.magN hs hm
  obtain ⟨l1, l2, -⟩ := hm.len
  obtain ⟨b', off', n0, A', n', c', e, g2, g3, g4, g5, g6⟩ := hs
  injection e with e1 e2
  subst e1 e2
  refine ⟨rfl, hw, b, off, neg', _, n, rfl, by have := hw.size; omega, by simp [go_sem, g3], by simp [go_sem, g4], hm', ?_, ?_⟩
  · subst hn
    rcases Nat.eq_zero_or_pos k with hk | hk
    · rw [l1 hk]; simp
    · cases neg <;> simp [hk]
  · subst hn
    intro h
    have hk : 0 < k := of_decide_eq_true (Bool.and_eq_true _ _ ▸ h).2
    exact l2 (by omega)

set_option maxHeartbeats 400000 in
theorem put_core (b off : Nat) (neg : Bool) (v : Value) (ws : List Nat) (w : World) (hs : Slot w ⟨b, off, none⟩) (h : Mag w v ws) :
    Calls Tryz.prog 39 #[.pointer (some ⟨b, off, none⟩), .bool neg, v] w (Put w b off neg (val ws) ws.length) := by
  have hs' := Lib.hid hs
  obtain ⟨b', off', neg', A', n', c', e, g2, g3, g4, g5, g6⟩ := hs
  injection e with e1 e2
  subst e1 e2
  go_enter Tryz.func39, Tryz.ntmps39
  go_wp2_with fail
  refine (cut_any v ws w h).mono ?_
  rintro e w1 ⟨A, k, c, rfl, rfl, hm, rfl⟩
  have HM := Lib.hid hm
  clear hm h
  cases neg
  · go_wp2_with fail
    go_ret
    exact put_end hs'.out HM.out rfl
  · by_cases hk : k = 0
    · subst hk
      go_wp2_with fail
      go_ret
      exact put_end hs'.out HM.out rfl
    · have hk' : 0 < k := by omega
      go_wp2_with fail
      go_ret
      exact put_end hs'.out HM.out (by simp [hk'])

theorem Mag.two (w : World) (x y : Nat) (hx : x < 4294967296) (hy : y < 4294967296) (t : TypeId) :
    Mag (w.alloc (.cells #[.int .u32 x, .int .u32 y] t)) (.slice (some ⟨w.heap.size, 0, none⟩) 2 2) [x, y] := by
  refine ⟨_, 2, rfl, Nat.le_refl _, by omega, ?_, fun _ => ⟨_, _, rfl, by simp, fun j hj => ?_⟩⟩
  · intro z hz; simp at hz; omega
  · match j, hj with
    | 0, _ => simp [go_sem]
    | 1, _ => simp [go_sem]

set_option maxHeartbeats 400000 in
theorem words_any (n : Int) (w : World) (h0 : 0 ≤ n) (h1 : n ≤ 18446744073709551615) :
    Calls Tryz.prog 166 #[.int .u64 n] w fun e w' => ∃ v, e = .returned v ∧ MagN w' v n.toNat 2 ∧ Below w.heap.size w w' := by
  obtain ⟨x, hx⟩ : ∃ x : Nat, n % 4294967296 = (x : Int) := ⟨(n % 4294967296).toNat, by omega⟩
  obtain ⟨y, hy⟩ : ∃ y : Nat, n / 4294967296 = (y : Int) := ⟨(n / 4294967296).toNat, by omega⟩
  have hyb : (y : Int) ≤ 4294967295 := by omega
  have HN := Lib.hid (show val [x, y] = n.toNat from by simp [val]; omega)
  have HM := Lib.hid (Mag.two w x y (by omega) (by omega) 88)
  have hwx : IntKind.u32.wrap n = x := by rw [IntKind.wrap_u32]; omega
  clear hx
  go_enter Tryz.func166, Tryz.ntmps166
  go_wp2_with fail
  refine (cut_any _ _ _ HM.out).mono ?_
  rintro e w1 ⟨A, k, c, -, rfl, hm, rfl⟩
  rw [HN.out] at hm
  have HM' := Lib.hid hm
  clear hm
  go_wp2_with fail
  go_ret
  exact ⟨_, rfl, HM'.out, (Below.refl _ _).alloc (Nat.le_refl _) _⟩

/-- an operation that writes its answer into the number at z -/
def Gives (w : World) (z : Addr) (r : Int) (L : Nat) (e : Ending) (w' : World) : Prop := e = .returned (.pointer (some z)) ∧ Wrote w w' z ∧ IntAt w' z r L

theorem put_any (z : Addr) (neg : Bool) (v : Value) (n L : Nat) (w : World) (hs : Slot w z) (h : MagN w v n L) :
    Calls Tryz.prog 39 #[.pointer (some z), .bool neg, v] w (Gives w z (if neg then -(n : Int) else n) L) := by
  obtain ⟨ws, h1, h2, rfl, h4⟩ := h
  have hs' := hs
  obtain ⟨b, off, -, -, -, -, rfl, -⟩ := hs
  exact (put_core b off neg v ws w hs' h1).mono fun e w' ⟨a, b, c⟩ => ⟨a, b, c.more h4⟩
/-- the same of words at whose end noughts may stand -/
theorem put_mag (z : Addr) (neg : Bool) (v : Value) (ws : List Nat) (w : World) (hs : Slot w z) (h : Mag w v ws) :
    Calls Tryz.prog 39 #[.pointer (some z), .bool neg, v] w (Gives w z (if neg then -(val ws : Int) else val ws) ws.length) := by
  have hs' := hs
  obtain ⟨b, off, -, -, -, -, rfl, -⟩ := hs
  exact (put_core b off neg v ws w hs' h).mono fun e w' ⟨a, b, c⟩ => ⟨a, b, c⟩

theorem put_neg (z : Addr) (v : Value) (n L : Nat) (r : Int) (w : World) (hs : Slot w z) (h : MagN w v n L) (hr : r = -(n : Int)) :
    Calls Tryz.prog 39 #[.pointer (some z), .bool true, v] w (Gives w z r L) := by
  rw [hr]; exact put_any z true v n L w hs h
theorem put_pos (z : Addr) (v : Value) (n L : Nat) (r : Int) (w : World) (hs : Slot w z) (h : MagN w v n L) (hr : r = (n : Int)) :
    Calls Tryz.prog 39 #[.pointer (some z), .bool false, v] w (Gives w z r L) := by
  rw [hr]; exact put_any z false v n L w hs h

theorem Wrote.of_below {w w1 w' : World} {z : Addr} (hb : Below w.heap.size w w1) (h : Wrote w1 w' z) : Wrote w w' z := by
  obtain ⟨b, off, w2, neg, A, n, c, rfl, h1, rfl⟩ := h
  exact ⟨b, off, w2, neg, A, n, c, rfl, hb.trans (h1.mono hb.size), rfl⟩
theorem Gives.of_below {w w1 w' : World} {z : Addr} {r : Int} {L : Nat} {e : Ending} (hb : Below w.heap.size w w1) (h : Gives w1 z r L e w') : Gives w z r L e w' := ⟨h.1, h.2.1.of_below hb, h.2.2⟩

set_option maxHeartbeats 400000 in
theorem setInt64_any (z : Addr) (n : Int) (w : World) (hs : Slot w z) (h0 : -9223372036854775808 ≤ n) (h1 : n ≤ 9223372036854775807) :
    Calls Tryz.prog 112 #[.pointer (some z), .int .i64 n] w (Gives w z n 2) := by
  have hs' := Lib.hid hs
  clear hs
  by_cases c : n < 0
  · have hw1 : IntKind.u64.wrap (-IntKind.u64.wrap n) = (n.natAbs : Int) := by simp only [IntKind.wrap_u64]; omega
    have hw2 : (n.natAbs : Int) ≤ 18446744073709551615 := by omega
    go_enter Tryz.func112, Tryz.ntmps112
    go_wp2_with fail
    refine (words_any _ _ (by omega) hw2).mono ?_
    rintro e w1 ⟨v, rfl, hm, hb⟩
    have HM := Lib.hid hm
    clear hm
    go_wp2_with fail
    refine (put_neg z v _ 2 n _ (hs'.out.below hb) HM.out (by omega)).mono ?_
    rintro e w2 hg
    have HG := Lib.hid (hg.of_below hb)
    obtain ⟨rfl, -, -⟩ := hg
    clear hb
    go_wp2_with fail
    go_ret
    exact HG.out
  · have hw1 : n ≤ 18446744073709551615 := by omega
    have c0 : 0 ≤ n := by omega
    go_enter Tryz.func112, Tryz.ntmps112
    go_wp2_with fail
    refine (words_any _ _ c0 hw1).mono ?_
    rintro e w1 ⟨v, rfl, hm, hb⟩
    have HM := Lib.hid hm
    clear hm
    go_wp2_with fail
    refine (put_pos z v _ 2 n _ (hs'.out.below hb) HM.out (by omega)).mono ?_
    rintro e w2 hg
    have HG := Lib.hid (hg.of_below hb)
    obtain ⟨rfl, -, -⟩ := hg
    clear hb
    go_wp2_with fail
    go_ret
    exact HG.out

theorem Slot.new (w : World) (neg : Bool) (A : Option Addr) (n c : Nat) (t : TypeId) : Slot (w.alloc (.cells #[.bool neg, .slice A n c] t)) ⟨w.heap.size, 0, none⟩ :=
  ⟨w.heap.size, 0, neg, A, n, c, rfl, by simp, by simp [go_sem], by simp [go_sem], by simp [go_sem], by simp [go_sem]⟩

/-- a new number: it lies in new memory, and can be written -/
def Fresh (w : World) (r : Int) (L : Nat) (e : Ending) (w' : World) : Prop :=
  ∃ z : Addr, e = .returned (.pointer (some z)) ∧ w.heap.size ≤ z.block ∧ Slot w' z ∧ IntAt w' z r L ∧ Below w.heap.size w w'

set_option maxHeartbeats 400000 in
theorem newInt_any (n : Int) (w : World) (h0 : -9223372036854775808 ≤ n) (h1 : n ≤ 9223372036854775807) :
    Calls Tryz.prog 58 #[.int .i64 n] w (Fresh w n 2) := by
  have hs := Slot.new w false none 0 0 41
  have HS := Lib.hid hs
  clear hs
  go_enter Tryz.func58, Tryz.ntmps58
  go_wp2_with fail
  refine (setInt64_any _ n _ HS.out h0 h1).mono ?_
  rintro e w1 hg
  have HG := Lib.hid hg
  obtain ⟨rfl, -, -⟩ := hg
  go_wp2_with fail
  go_ret
  have hg := HG.out
  exact ⟨_, rfl, Nat.le_refl _, hg.2.1.slot HS.out HS.out, hg.2.2, ((Below.refl _ _).alloc (Nat.le_refl _) _).trans (hg.2.1.below (by exact Nat.le_refl _) (by simp))⟩
end Go.Proofs.YtbidlkmagbjllaaGreatDoor.Bg
