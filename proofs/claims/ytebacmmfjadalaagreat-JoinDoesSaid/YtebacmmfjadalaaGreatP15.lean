/- N2 G5 in one text. -/
import Derived.Test.YtebacmmfjadalaaGreatP02
import Derived.Test.YtebacmmfjadalaaGreatP14
import Derived.Test.YtebacmmfjadalaaGreatP07
import Derived.Test.YtebacmmfjadalaaGreatP13

namespace Go.Proofs.YtebacmmfjadalaaGreat
open Go Go.RowKit

def lexL : List Int → List Int → Int
  | [], [] => 0
  | [], _ :: _ => -1
  | _ :: _, [] => 1
  | a :: l, b :: m => if a < b then -1 else if b < a then 1 else lexL l m
theorem lexL_neg : ∀ l m : List Int, lexL m l = - lexL l m
  | [], [] => rfl
  | [], _ :: _ => rfl
  | _ :: _, [] => rfl
  | a :: l, b :: m => by
    rw [lexL, lexL]
    by_cases h1 : a < b
    · rw [if_pos h1, if_neg (by omega), if_pos h1]
      rfl
    · by_cases h2 : b < a
      · simp [h1, h2]
      · rw [if_neg h1, if_neg h2, if_neg h2, if_neg h1]
        exact lexL_neg l m
theorem lexL_eq : ∀ l m : List Int, lexL l m = 0 → l = m
  | [], [], _ => rfl
  | [], _ :: _, h => by simp [lexL] at h
  | _ :: _, [], h => by simp [lexL] at h
  | a :: l, b :: m, h => by
    rw [lexL] at h
    by_cases h1 : a < b
    · rw [if_pos h1] at h; omega
    · by_cases h2 : b < a
      · rw [if_neg h1, if_pos h2] at h; omega
      · rw [if_neg h1, if_neg h2] at h
        rw [lexL_eq l m h, show a = b by omega]
theorem lexL_self (l : List Int) : lexL l l = 0 := by
  have := lexL_neg l l
  omega
theorem lexL_ntr : ∀ a b c : List Int, lexL a c < 0 → lexL a b < 0 ∨ lexL b c < 0
  | a, [], c, h => by
    cases c with
    | nil => exact .inl h
    | cons z c => exact .inr (by simp [lexL])
  | [], y :: b, c, _ => .inl (by simp [lexL])
  | x :: a, y :: b, [], h => by simp [lexL] at h
  | x :: a, y :: b, z :: c, h => by
    rw [lexL] at h
    rw [lexL, lexL]
    by_cases h1 : x < y
    · rw [if_pos h1]; exact .inl (by omega)
    · by_cases h2 : y < z
      · rw [if_pos h2]; exact .inr (by omega)
      · by_cases h3 : z < x
        · rw [if_neg (by omega), if_pos h3] at h; omega
        · rw [if_neg (by omega), if_neg h3] at h
          rw [if_neg h1, if_neg (by omega), if_neg h2, if_neg (by omega)]
          exact lexL_ntr a b c h
theorem lexL_swo {α : Type} (f : α → List Int) : Swo (fun a b : α => lexL (f a) (f b)) :=
  ⟨fun a b h => by have := lexL_neg (f a) (f b); omega, fun a b c h => lexL_ntr _ _ _ h⟩
theorem lexL_at : ∀ (l m : List Int) (k : Nat) (x y : Int), l.take k = m.take k → l[k]? = some x → m[k]? = some y → cmpO x y ≠ 0 → lexL l m = cmpO x y
  | a :: l, b :: m, 0, x, y, _, h1, h2, h3 => by
    simp at h1 h2
    subst h1 h2
    unfold cmpO at h3 ⊢
    rw [lexL]
    split
    · rfl
    · split
      · rfl
      · rename_i c1 c2; simp [c1, c2] at h3
  | a :: l, b :: m, k + 1, x, y, h, h1, h2, h3 => by
    simp at h h1 h2
    obtain ⟨rfl, h⟩ := h
    rw [lexL, if_neg (by omega), if_neg (by omega)]
    exact lexL_at l m k x y h h1 h2 h3
  | [], _, _, _, _, _, h1, _, _ => by simp at h1
  | _ :: _, [], _, _, _, _, _, h2, _ => by simp at h2

/-- all that a timed reading is told apart by -/
def El.key (e : El) : List Int := e.at_ :: e.se :: e.sq :: e.st :: (e.n : Int) :: e.bs.map keyN
def cmpK (a b : El) : Int := lexL a.key b.key
theorem cmpK_swo : Swo cmpK := lexL_swo El.key
theorem cmpK_at {a b : El} (h : Le cmpK a b) : a.at_ ≤ b.at_ := by
  rcases Int.lt_or_le b.at_ a.at_ with h' | h'
  · exact absurd (by unfold cmpK El.key; rw [lexL, if_pos h']; omega) h
  · exact h'
theorem cmpO_zero {a b : Int} (h : cmpO a b = 0) : a = b := by
  unfold cmpO at h
  split at h
  · omega
  · split at h <;> omega
theorem cmpO_self (a : Int) : cmpO a a = 0 := by unfold cmpO; simp
theorem headK {a b : El} (h : headC a b ≠ 0) : cmpK a b = headC a b := by
  unfold headC orL at h ⊢
  unfold cmpK El.key
  by_cases c1 : cmpO a.at_ b.at_ = 0
  · rw [if_pos c1] at h ⊢
    rw [lexL, if_neg (by have := cmpO_zero c1; omega), if_neg (by have := cmpO_zero c1; omega)]
    unfold orL at h ⊢
    by_cases c2 : cmpO a.se b.se = 0
    · rw [if_pos c2] at h ⊢
      rw [lexL, if_neg (by have := cmpO_zero c2; omega), if_neg (by have := cmpO_zero c2; omega)]
      unfold orL at h ⊢
      by_cases c3 : cmpO a.sq b.sq = 0
      · rw [if_pos c3] at h ⊢
        rw [lexL, if_neg (by have := cmpO_zero c3; omega), if_neg (by have := cmpO_zero c3; omega)]
        unfold orL at h ⊢
        by_cases c4 : cmpO a.st b.st = 0
        · rw [if_pos c4] at h ⊢
          rw [lexL, if_neg (by have := cmpO_zero c4; omega), if_neg (by have := cmpO_zero c4; omega)]
          unfold orL at h ⊢
          by_cases c5 : cmpO a.n b.n = 0
          · rw [if_pos c5] at h; simp [orL] at h
          · rw [if_neg c5]
            exact lexL_at _ _ 0 _ _ rfl rfl rfl c5
        · rw [if_neg c4]
          exact lexL_at _ _ 0 _ _ rfl rfl rfl c4
      · rw [if_neg c3]
        exact lexL_at _ _ 0 _ _ rfl rfl rfl c3
    · rw [if_neg c2]
      exact lexL_at _ _ 0 _ _ rfl rfl rfl c2
  · rw [if_neg c1]
    exact lexL_at _ _ 0 _ _ rfl rfl rfl c1
theorem headK_zero {a b : El} (h : headC a b = 0) : cmpK a b = lexL (a.bs.map keyN) (b.bs.map keyN) ∧ a.n = b.n := by
  unfold headC orL at h
  unfold cmpK El.key
  split at h
  · rename_i c1
    unfold orL at h
    split at h
    · rename_i c2
      unfold orL at h
      split at h
      · rename_i c3
        unfold orL at h
        split at h
        · rename_i c4
          unfold orL at h
          split at h
          · rename_i c5
            have e1 := cmpO_zero c1
            have e2 := cmpO_zero c2
            have e3 := cmpO_zero c3
            have e4 := cmpO_zero c4
            have e5 := cmpO_zero c5
            rw [lexL, if_neg (by omega), if_neg (by omega), lexL, if_neg (by omega), if_neg (by omega), lexL, if_neg (by omega), if_neg (by omega), lexL, if_neg (by omega), if_neg (by omega), lexL, if_neg (by omega), if_neg (by omega)]
            exact ⟨rfl, by omega⟩
          · rename_i c5; exact absurd h c5
        · rename_i c4; exact absurd h c4
      · rename_i c3; exact absurd h c3
    · rename_i c2; exact absurd h c2
  · rename_i c1; exact absurd h c1
theorem key_step {a b : List Nat} {k : Nat} (h : (a.take k).map keyN = (b.take k).map keyN) (ha : k < a.length) (hb : k < b.length) (e : cmpO (keyN (a.getD k 0)) (keyN (b.getD k 0)) = 0) : (a.take (k + 1)).map keyN = (b.take (k + 1)).map keyN := by
  have e := cmpO_zero e
  rw [List.getD_eq_getElem?_getD, List.getElem?_eq_getElem ha, List.getD_eq_getElem?_getD, List.getElem?_eq_getElem hb] at e
  simp only [Option.getD_some] at e
  rw [List.take_add_one, List.take_add_one, List.getElem?_eq_getElem ha, List.getElem?_eq_getElem hb, List.map_append, List.map_append, h]
  simp [e]
theorem key_no {a b : List Nat} {k : Nat} (h : (a.take k).map keyN = (b.take k).map keyN) (ha : k < a.length) (hb : k < b.length) (e : cmpO (keyN (a.getD k 0)) (keyN (b.getD k 0)) ≠ 0) : lexL (a.map keyN) (b.map keyN) = cmpO (keyN (a.getD k 0)) (keyN (b.getD k 0)) := by
  refine lexL_at _ _ k _ _ (by rw [← List.map_take, ← List.map_take]; exact h) ?_ ?_ e
  · rw [List.getElem?_map, List.getD_eq_getElem?_getD, List.getElem?_eq_getElem ha]; rfl
  · rw [List.getElem?_map, List.getD_eq_getElem?_getD, List.getElem?_eq_getElem hb]; rfl
theorem key_all {a b : List Nat} {n : Nat} (h : (a.take n).map keyN = (b.take n).map keyN) (ha : a.length = n) (hb : b.length = n) : lexL (a.map keyN) (b.map keyN) = 0 := by
  rw [List.take_of_length_le (by omega), List.take_of_length_le (by omega)] at h
  rw [h]
  exact lexL_self _
end Go.Proofs.YtebacmmfjadalaaGreat

namespace Go.Proofs.YtebacmmfjadalaaGreat
open Go Go.RowKit

/-- clocks lie behind a slice -/
def ClAt (w : World) (v : Value) (cs : List (Int × Int × Int)) : Prop := ∃ A c, v = .slice A cs.length c ∧ (cs = [] ∨ ∃ b off, A = some ⟨b, off, none⟩ ∧ b < w.heap.size ∧ ∀ i, i < cs.length → w.cell? ⟨b, off + i * 3, none⟩ = some (.int .i64 (cs.getD i (0, 0, 0)).1) ∧ w.cell? ⟨b, off + i * 3 + 1, none⟩ = some (.int .i64 (cs.getD i (0, 0, 0)).2.1) ∧ w.cell? ⟨b, off + i * 3 + 2, none⟩ = some (.int .i64 (cs.getD i (0, 0, 0)).2.2))
def ClRow (w : World) (A : Option Addr) (cs : List (Int × Int × Int)) : Prop := cs = [] ∨ ∃ b off, A = some ⟨b, off, none⟩ ∧ b < w.heap.size ∧ ∀ i, i < cs.length → w.cell? ⟨b, off + i * 3, none⟩ = some (.int .i64 (cs.getD i (0, 0, 0)).1) ∧ w.cell? ⟨b, off + i * 3 + 1, none⟩ = some (.int .i64 (cs.getD i (0, 0, 0)).2.1) ∧ w.cell? ⟨b, off + i * 3 + 2, none⟩ = some (.int .i64 (cs.getD i (0, 0, 0)).2.2)
theorem ClRow.at {w : World} {A : Option Addr} {cs : List (Int × Int × Int)} (h : ClRow w A cs) (i : Nat) (hi : i < cs.length) : ∃ b off, A = some ⟨b, off, none⟩ ∧ b < w.heap.size ∧ w.cell? ⟨b, off + i * 3, none⟩ = some (.int .i64 (cs.getD i (0, 0, 0)).1) ∧ w.cell? ⟨b, off + i * 3 + 1, none⟩ = some (.int .i64 (cs.getD i (0, 0, 0)).2.1) ∧ w.cell? ⟨b, off + i * 3 + 2, none⟩ = some (.int .i64 (cs.getD i (0, 0, 0)).2.2) := by
  rcases h with h | ⟨b, off, h1, h2, h3⟩
  · subst h; simp at hi
  · exact ⟨b, off, h1, h2, h3 i hi⟩
def okC (c : Int × Int × Int) : Bool := Ck.okc c.1 c.2.1 c.2.2
/-- the error of a new joiner -/
def newE (cs : List (Int × Int × Int)) (win : Int) : Int := if 64 < cs.length ∨ win < 0 ∨ 1125899906842624 < win then 1 else if cs.all okC = true then 0 else 130
def NewP (w : World) (cs : List (Int × Int × Int)) (win : Int) (e : Ending) (w' : World) : Prop :=
  (newE cs win = 0 ∧ e = .returned (.tuple #[.pointer (some ⟨w.heap.size, 0, none⟩), .int .i64 0]) ∧ ∃ sv, SRow (w.heap.size + 1) w' sv (cs.map sn0) ∧ JnAt w' w.heap.size ⟨sv, win, .slice none 0 0, false, 0, 0, 0, 0, 0, 0, 0⟩ ∧ (∀ i, w'.frozen? ⟨w.heap.size, i, none⟩ = false) ∧ w.heap.size < w'.heap.size ∧ Below w.heap.size w w') ∨
  (newE cs win ≠ 0 ∧ e = .returned (.tuple #[.pointer none, .int .i64 (newE cs win)]) ∧ Below w.heap.size w w')
theorem ok_take {cs : List (Int × Int × Int)} {k : Nat} {co cn cd : Int} (h : (cs.take k).all okC = true) (hk : k < cs.length) (h1 : (cs.getD k (0, 0, 0)).1 = co) (h2 : (cs.getD k (0, 0, 0)).2.1 = cn) (h3 : (cs.getD k (0, 0, 0)).2.2 = cd) (ho : Ck.okc co cn cd = true) : (cs.take (k + 1)).all okC = true := by
  rw [List.take_add_one, List.getElem?_eq_getElem hk, List.all_append, h]
  rw [List.getD_eq_getElem?_getD, List.getElem?_eq_getElem hk] at h1 h2 h3
  simp only [Option.getD_some] at h1 h2 h3
  simp [okC, h1, h2, h3, ho]

set_option maxRecDepth 8000 in
set_option maxHeartbeats 4000000 in
theorem new_long (A : Option Addr) (cc n : Nat) (cs : List (Int × Int × Int)) (win : Int) (w : World) (hn : cs.length = n) (hl : 64 < n ∨ win < 0 ∨ 1125899906842624 < win) :
    Calls Tryz.prog 6 #[.slice A n cc, .int .i64 win] w (NewP w cs win) := by
  have hE : newE cs win = 1 := by unfold newE; rw [if_pos (by rw [hn]; exact hl)]
  have hP : NewP w cs win (.returned (.tuple #[.pointer none, .int .i64 1])) w := .inr ⟨by rw [hE]; decide, by rw [hE], Below.refl _ _⟩
  have HP := Lib.hid hP
  clear hP hE hn
  by_cases c1 : 64 < n
  · have c1' : (64 : Int) < (n : Int) := by omega
    go_enter Tryz.func6, Tryz.ntmps6
    go_wp2_with fail
    go_ret2
    exact HP.out
  · have c1' : ¬ (64 : Int) < (n : Int) := by omega
    by_cases c2 : win < 0
    · go_enter Tryz.func6, Tryz.ntmps6
      go_wp2_with fail
      go_ret2
      exact HP.out
    · have c3 : 1125899906842624 < win := by omega
      go_enter Tryz.func6, Tryz.ntmps6
      go_wp2_with fail
      go_ret2
      exact HP.out

set_option maxRecDepth 8000 in
set_option maxHeartbeats 8000000 in
theorem new_gen (A : Option Addr) (cc n : Nat) (cs : List (Int × Int × Int)) (win : Int) (w : World) (hn : cs.length = n) (hc : ClRow w A cs) (hn2 : n ≤ 64) (w0 : 0 ≤ win) (w1 : win ≤ 1125899906842624) :
    Calls Tryz.prog 6 #[.slice A n cc, .int .i64 win] w (NewP w cs win) := by
  have HCL := Lib.hid hc
  have HN := Lib.hid hn
  clear hc hn
  go_enter Tryz.func6, Tryz.ntmps6
  go_wp2_with fail
  have H0 := Lib.hid (show SRow (w.heap.size + 1) (w.alloc (.cells #[.slice none 0 0, .int .i64 win, .slice none 0 0, .bool false, .int .i64 0, .int .i64 0, .int .i64 0, .int .i64 0, .int .i64 0, .int .i64 0, .int .i64 0, .bool true] 77)) (.slice none 0 0) (([] : List (Int × Int × Int)).map sn0) ∧ (w.alloc (.cells #[.slice none 0 0, .int .i64 win, .slice none 0 0, .bool false, .int .i64 0, .int .i64 0, .int .i64 0, .int .i64 0, .int .i64 0, .int .i64 0, .int .i64 0, .bool true] 77)).cell? ⟨w.heap.size, 0, none⟩ = some (.slice none 0 0) ∧ Fr (w.alloc (.cells #[.slice none 0 0, .int .i64 win, .slice none 0 0, .bool false, .int .i64 0, .int .i64 0, .int .i64 0, .int .i64 0, .int .i64 0, .int .i64 0, .int .i64 0, .bool true] 77)) (w.alloc (.cells #[.slice none 0 0, .int .i64 win, .slice none 0 0, .bool false, .int .i64 0, .int .i64 0, .int .i64 0, .int .i64 0, .int .i64 0, .int .i64 0, .int .i64 0, .bool true] 77)) none ⟨w.heap.size, 0, none⟩ from ⟨World.ownsRow_nil _ _ _ _, by simp [go_sem], Fr.refl _ _ _⟩)
  have HJ0 := Lib.hid (show JnAt (w.alloc (.cells #[.slice none 0 0, .int .i64 win, .slice none 0 0, .bool false, .int .i64 0, .int .i64 0, .int .i64 0, .int .i64 0, .int .i64 0, .int .i64 0, .int .i64 0, .bool true] 77)) w.heap.size ⟨.slice none 0 0, win, .slice none 0 0, false, 0, 0, 0, 0, 0, 0, 0⟩ ∧ (∀ i, (w.alloc (.cells #[.slice none 0 0, .int .i64 win, .slice none 0 0, .bool false, .int .i64 0, .int .i64 0, .int .i64 0, .int .i64 0, .int .i64 0, .int .i64 0, .int .i64 0, .bool true] 77)).frozen? ⟨w.heap.size, i, none⟩ = false) ∧ Below w.heap.size w (w.alloc (.cells #[.slice none 0 0, .int .i64 win, .slice none 0 0, .bool false, .int .i64 0, .int .i64 0, .int .i64 0, .int .i64 0, .int .i64 0, .int .i64 0, .int .i64 0, .bool true] 77)) ∧ (w.alloc (.cells #[.slice none 0 0, .int .i64 win, .slice none 0 0, .bool false, .int .i64 0, .int .i64 0, .int .i64 0, .int .i64 0, .int .i64 0, .int .i64 0, .int .i64 0, .bool true] 77)).heap.size = w.heap.size + 1 from ⟨by unfold JnAt; simp [go_sem], fun i => by simp [go_sem], (Below.refl _ _).alloc (Nat.le_refl _) _, by simp⟩)
  generalize (w.alloc (.cells #[.slice none 0 0, .int .i64 win, .slice none 0 0, .bool false, .int .i64 0, .int .i64 0, .int .i64 0, .int .i64 0, .int .i64 0, .int .i64 0, .int .i64 0, .bool true] 77)) = W0 at *
  go_loopw [26] (fun iv wr => ∃ (k : Nat) (sv : Value), k ≤ n ∧ iv = .int .i64 (k : Int) ∧ Hid ((cs.take k).all okC = true ∧ SRow (w.heap.size + 1) wr sv ((cs.take k).map sn0) ∧ wr.cell? ⟨w.heap.size, 0, none⟩ = some sv ∧ Fr W0 wr none ⟨w.heap.size, 0, none⟩)) (fun iv _ => n - (intOf iv).toNat)
  case atStart => exact ⟨0, .slice none 0 0, by omega, rfl, Lib.hid ⟨rfl, H0.out⟩⟩
  case round =>
    obtain ⟨k, sv, hk, rfl, hh⟩ := hrel
    by_cases hlt : k < n
    · obtain ⟨cb, coff, rfl, hcb, hrow0⟩ := HCL.out.at k (by have := HN.out; omega)
      obtain ⟨co, hco⟩ : ∃ y, (cs.getD k (0, 0, 0)).1 = y := ⟨_, rfl⟩
      obtain ⟨cn, hcn⟩ : ∃ y, (cs.getD k (0, 0, 0)).2.1 = y := ⟨_, rfl⟩
      obtain ⟨cd, hcd⟩ : ∃ y, (cs.getD k (0, 0, 0)).2.2 = y := ⟨_, rfl⟩
      have hrow := hrow0
      clear hrow0
      rw [hco, hcn, hcd] at hrow
      have hrd : ∀ i, wr.cell? ⟨cb, i, none⟩ = w.cell? ⟨cb, i, none⟩ := fun i =>
        (World.cell?_of_block (hh.out.2.2.2.block cb (by rw [HJ0.out.2.2.2]; omega) (by show cb ≠ w.heap.size; omega) (by simp))).trans (HJ0.out.2.2.1.cell (p := ⟨cb, i, none⟩) hcb)
      have r0 := (hrd _).trans hrow.1
      have r1 := (hrd _).trans hrow.2.1
      have r2 := (hrd _).trans hrow.2.2
      have HX := Lib.hid (And.intro hco (And.intro hcn hcd))
      have hki : (k : Int) < (n : Int) := by omega
      clear hrow hrd hco hcn hcd
      obtain ⟨A, c, rfl⟩ := hh.out.2.1.slice
      have hwr : w.heap.size + 1 ≤ wr.heap.size := by have := hh.out.2.2.2.size; rw [HJ0.out.2.2.2] at this; exact this
      have hlen : ((cs.take k).map sn0).length = k := by rw [List.length_map, List.length_take, Nat.min_eq_left (by have := HN.out; omega)]
      have hhc := hh.out.2.2.1
      rw [hlen] at hhc hh
      go_wp2_with fail
      have HCK := Lib.hid (fun W => check_any co cn cd W)
      unfold clk at HCK
      by_cases hkf : Ck.okc co cn cd = false
      · have hk0 : ¬ Ck.okc co cn cd = true := by rw [hkf]; simp
        rw [if_neg hk0] at HCK
        clear hkf
        refine (HCK.out _).mono ?_
        rintro e1 w2 ⟨rfl, hb2⟩
        have HBD := Lib.hid (show Below w.heap.size w w2 from (HJ0.out.2.2.1.trans ⟨hh.out.2.2.2.os, hh.out.2.2.2.tape, hh.out.2.2.2.output, hh.out.2.2.2.size, fun q hq => hh.out.2.2.2.block q (by rw [HJ0.out.2.2.2]; omega) (by show q ≠ w.heap.size; omega) (by simp)⟩).trans ((((Below.refl wr.heap.size wr).alloc (Nat.le_refl _) _).trans (hb2.mono (by simp))).mono (by omega)))
        clear hb2
        go_wp2_with fail
        go_ret2
        refine .inr ⟨?_, ?_, HBD.out⟩
        · unfold newE
          rw [if_neg (by have := HN.out; omega), if_neg]
          · omega
          · intro hall
            have := List.all_eq_true.1 hall (cs.getD k (0, 0, 0)) (by rw [List.getD_eq_getElem?_getD, List.getElem?_eq_getElem (by have := HN.out; omega)]; exact List.getElem_mem _)
            unfold okC at this
            rw [HX.out.1, HX.out.2.1, HX.out.2.2] at this
            exact hk0 this
        · unfold newE
          rw [if_neg (by have := HN.out; omega), if_neg]
          · rfl
          · intro hall
            have := List.all_eq_true.1 hall (cs.getD k (0, 0, 0)) (by rw [List.getD_eq_getElem?_getD, List.getElem?_eq_getElem (by have := HN.out; omega)]; exact List.getElem_mem _)
            unfold okC at this
            rw [HX.out.1, HX.out.2.1, HX.out.2.2] at this
            exact hk0 this
      have hk0 : Ck.okc co cn cd = true := by simpa using hkf
      rw [if_pos hk0] at HCK
      clear hkf
      have HK0 := Lib.hid hk0
      clear hk0
      refine (HCK.out _).mono ?_
      rintro e1 w2 ⟨rfl, hb2⟩
      obtain ⟨hcell, hfrz⟩ := bcell hb2
      have hbb : Below wr.heap.size wr w2 := ((Below.refl wr.heap.size wr).alloc (Nat.le_refl _) _).trans (hb2.mono (by simp))
      have hx0 := (hbb.cell (p := ⟨w.heap.size, 0, none⟩) (by show w.heap.size < _; omega)).trans hhc
      have hf0 := (hbb.frozen (p := ⟨w.heap.size, 0, none⟩) (by show w.heap.size < _; omega)).trans ((hh.out.2.2.2.frozen ⟨w.heap.size, 0, none⟩ rfl).trans (HJ0.out.2.1 0))
      have q0 : w2.cell? ⟨wr.heap.size, 0, none⟩ = some (.int .i64 co) := (hcell _ _ (by simp)).trans (by simp [go_sem])
      have q1 : w2.cell? ⟨wr.heap.size, 1, none⟩ = some (.int .i64 cn) := (hcell _ _ (by simp)).trans (by simp [go_sem])
      have q2 : w2.cell? ⟨wr.heap.size, 2, none⟩ = some (.int .i64 cd) := (hcell _ _ (by simp)).trans (by simp [go_sem])
      have HBB := Lib.hid hbb
      have HBX := Lib.hid (((Below.refl w2.heap.size w2).alloc (Nat.le_refl _) (.cells #[.int .i64 co, .int .i64 cn, .int .i64 cd, .int .i64 0, .bool false, .int .u32 0, .int .u64 0] 81)).drew)
      have HSR := Lib.hid ((hh.out.2.1.below hbb).below HBX.out)
      have hx2 : w.heap.size < w2.heap.size := Nat.lt_of_lt_of_le (by omega : w.heap.size < wr.heap.size) hbb.size
      clear hcell hfrz hbb hb2 hhc r0 r1 r2
      go_wp2_with fail
      have hxo : (Value.slice A k c).ownBlock ≠ some w.heap.size := HSR.out.own (by omega)
      have hl1 : ((cs.take k).map sn0 ++ [(⟨co, cn, cd, 0, false, 0, 0⟩ : Sn)]).length = k + 1 := by rw [List.length_append, hlen]; rfl
      go_region_law ((refine step_append_sn rfl (.tmp 39) (.tmp 42) 74 rfl Tryz.underlying74 (.slice A k c) ((cs.take k).map sn0) ⟨co, cn, cd, 0, false, 0, 0⟩ (by simp [Act.eval]) HSR.out (Nat.le_trans (by omega : w.heap.size + 1 ≤ w2.heap.size) HBX.out.size) (by omega) ⟨w2.heap.size, 0, none⟩ 1 (by simp [Act.eval]) (sn_new w2 _ _ _ _ _ _ _ _) ?_); intro v' w3 hr1 hg1 ha1; obtain ⟨A1, c1, hv1⟩ := hr1.slice; rw [hl1] at hv1; subst hv1; have y1 := (grownO_cell hg1 (p := ⟨w.heap.size, 0, none⟩) (Nat.lt_of_lt_of_le hx2 HBX.out.size) hxo).trans ((HBX.out.cell (p := ⟨w.heap.size, 0, none⟩) (by exact hx2)).trans hx0); have y2 := (grownO_frozen hg1 (p := ⟨w.heap.size, 0, none⟩) (Nat.lt_of_lt_of_le hx2 HBX.out.size) hxo).trans ((HBX.out.frozen (p := ⟨w.heap.size, 0, none⟩) (by exact hx2)).trans hf0); have HR1 := Lib.hid hr1; have HG1 := Lib.hid hg1; clear hr1 hg1 ha1)
      all_goals go_wp2_with fail
      all_goals go_roundw
      all_goals first
        | (refine ⟨k + 1, .slice A1 (k + 1) c1, by omega, by go_num, Lib.hid ⟨?_, ?_, by simp [go_sem, y1], ?_⟩⟩
           · exact ok_take hh.out.1 (by have := HN.out; omega) HX.out.1 HX.out.2.1 HX.out.2.2 HK0.out
           · rw [show (cs.take (k + 1)).map sn0 = (cs.take k).map sn0 ++ [(⟨co, cn, cd, 0, false, 0, 0⟩ : Sn)] from take_sn (by have := HN.out; omega) HX.out.1 HX.out.2.1 HX.out.2.2]
             exact HR1.out.set (by show w.heap.size < _; omega) _
           · exact ((((hh.out.2.2.2.trans (Fr.of_below HBB.out _ (by show w.heap.size < _; omega))).trans (Fr.of_below HBX.out _ (by exact hx2))).grownN HG1.out (fun g' e => Nat.not_lt.1 (fun hl => HSR.out.own (by rw [HJ0.out.2.2.2] at hl; exact hl) e)) (by rw [HJ0.out.2.2.2]; show w.heap.size < _; omega)).set _))
        | (simp [intOf]; omega)
    · have hkn : k = n := by omega
      subst hkn
      have HFIN := Lib.hid (new_fin hh.out.2.1 hh.out.2.2.1 hh.out.2.2.2 HJ0.out.1 HJ0.out.2.1 HJ0.out.2.2.1 HJ0.out.2.2.2 HN.out)
      go_wp2_with fail
      go_ret2
      refine .inl ⟨?_, rfl, sv, HFIN.out⟩
      unfold newE
      have hall := hh.out.1
      rw [List.take_of_length_le (by have := HN.out; omega)] at hall
      rw [if_neg (by have := HN.out; omega), if_pos hall]
end Go.Proofs.YtebacmmfjadalaaGreat
