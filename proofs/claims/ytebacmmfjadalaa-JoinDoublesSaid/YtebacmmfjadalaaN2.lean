/- Plain laws of the order of timed readings: lists of whole numbers, the first unlike ones decide. -/
import Derived.Test.YtebacmmfjadalaaH1
import Derived.Test.YtebacmmfjadalaaN1
import Derived.Test.YtebacmmfjadalaaJ3
namespace Go.Proofs.Ytebacmmfjadalaa
open Go Go.RowKit

def lexL : List Int → List Int → Int
  | [], [] => 0
  | [], _ :: _ => -1
  | _ :: _, [] => 1
  | a :: l, b :: m => if a < b then -1 else if b < a then 1 else lexL l m
theorem lexL_neg : ∀ l m : List Int, lexL m l = - lexL l m
  | [], [] => rfl
  | [], _ :: _ => rfl
  | _ :: _, [] => rfl
  | a :: l, b :: m => by
    rw [lexL, lexL]
    by_cases h1 : a < b
    · rw [if_pos h1, if_neg (by omega), if_pos h1]
      rfl
    · by_cases h2 : b < a
      · simp [h1, h2]
      · rw [if_neg h1, if_neg h2, if_neg h2, if_neg h1]
        exact lexL_neg l m
theorem lexL_eq : ∀ l m : List Int, lexL l m = 0 → l = m
  | [], [], _ => rfl
  | [], _ :: _, h => by simp [lexL] at h
  | _ :: _, [], h => by simp [lexL] at h
  | a :: l, b :: m, h => by
    rw [lexL] at h
    by_cases h1 : a < b
    · rw [if_pos h1] at h; omega
    · by_cases h2 : b < a
      · rw [if_neg h1, if_pos h2] at h; omega
      · rw [if_neg h1, if_neg h2] at h
        rw [lexL_eq l m h, show a = b by omega]
theorem lexL_self (l : List Int) : lexL l l = 0 := by
  have := lexL_neg l l
  omega
theorem lexL_ntr : ∀ a b c : List Int, lexL a c < 0 → lexL a b < 0 ∨ lexL b c < 0
  | a, [], c, h => by
    cases c with
    | nil => exact .inl h
    | cons z c => exact .inr (by simp [lexL])
  | [], y :: b, c, _ => .inl (by simp [lexL])
  | x :: a, y :: b, [], h => by simp [lexL] at h
  | x :: a, y :: b, z :: c, h => by
    rw [lexL] at h
    rw [lexL, lexL]
    by_cases h1 : x < y
    · rw [if_pos h1]; exact .inl (by omega)
    · by_cases h2 : y < z
      · rw [if_pos h2]; exact .inr (by omega)
      · by_cases h3 : z < x
        · rw [if_neg (by omega), if_pos h3] at h; omega
        · rw [if_neg (by omega), if_neg h3] at h
          rw [if_neg h1, if_neg (by omega), if_neg h2, if_neg (by omega)]
          exact lexL_ntr a b c h
theorem lexL_swo {α : Type} (f : α → List Int) : Swo (fun a b : α => lexL (f a) (f b)) :=
  ⟨fun a b h => by have := lexL_neg (f a) (f b); omega, fun a b c h => lexL_ntr _ _ _ h⟩
theorem lexL_at : ∀ (l m : List Int) (k : Nat) (x y : Int), l.take k = m.take k → l[k]? = some x → m[k]? = some y → cmpO x y ≠ 0 → lexL l m = cmpO x y
  | a :: l, b :: m, 0, x, y, _, h1, h2, h3 => by
    simp at h1 h2
    subst h1 h2
    unfold cmpO at h3 ⊢
    rw [lexL]
    split
    · rfl
    · split
      · rfl
      · rename_i c1 c2; simp [c1, c2] at h3
  | a :: l, b :: m, k + 1, x, y, h, h1, h2, h3 => by
    simp at h h1 h2
    obtain ⟨rfl, h⟩ := h
    rw [lexL, if_neg (by omega), if_neg (by omega)]
    exact lexL_at l m k x y h h1 h2 h3
  | [], _, _, _, _, _, h1, _, _ => by simp at h1
  | _ :: _, [], _, _, _, _, _, h2, _ => by simp at h2

/-- all that a timed reading is told apart by -/
def El.key (e : El) : List Int := e.at_ :: e.se :: e.sq :: e.st :: (e.n : Int) :: e.bs.map keyN
def cmpK (a b : El) : Int := lexL a.key b.key
theorem cmpK_swo : Swo cmpK := lexL_swo El.key
theorem cmpK_at {a b : El} (h : Le cmpK a b) : a.at_ ≤ b.at_ := by
  rcases Int.lt_or_le b.at_ a.at_ with h' | h'
  · exact absurd (by unfold cmpK El.key; rw [lexL, if_pos h']; omega) h
  · exact h'
theorem cmpO_zero {a b : Int} (h : cmpO a b = 0) : a = b := by
  unfold cmpO at h
  split at h
  · omega
  · split at h <;> omega
theorem cmpO_self (a : Int) : cmpO a a = 0 := by unfold cmpO; simp
theorem headK {a b : El} (h : headC a b ≠ 0) : cmpK a b = headC a b := by
  unfold headC orL at h ⊢
  unfold cmpK El.key
  by_cases c1 : cmpO a.at_ b.at_ = 0
  · rw [if_pos c1] at h ⊢
    rw [lexL, if_neg (by have := cmpO_zero c1; omega), if_neg (by have := cmpO_zero c1; omega)]
    unfold orL at h ⊢
    by_cases c2 : cmpO a.se b.se = 0
    · rw [if_pos c2] at h ⊢
      rw [lexL, if_neg (by have := cmpO_zero c2; omega), if_neg (by have := cmpO_zero c2; omega)]
      unfold orL at h ⊢
      by_cases c3 : cmpO a.sq b.sq = 0
      · rw [if_pos c3] at h ⊢
        rw [lexL, if_neg (by have := cmpO_zero c3; omega), if_neg (by have := cmpO_zero c3; omega)]
        unfold orL at h ⊢
        by_cases c4 : cmpO a.st b.st = 0
        · rw [if_pos c4] at h ⊢
          rw [lexL, if_neg (by have := cmpO_zero c4; omega), if_neg (by have := cmpO_zero c4; omega)]
          unfold orL at h ⊢
          by_cases c5 : cmpO a.n b.n = 0
          · rw [if_pos c5] at h; simp [orL] at h
          · rw [if_neg c5]
            exact lexL_at _ _ 0 _ _ rfl rfl rfl c5
        · rw [if_neg c4]
          exact lexL_at _ _ 0 _ _ rfl rfl rfl c4
      · rw [if_neg c3]
        exact lexL_at _ _ 0 _ _ rfl rfl rfl c3
    · rw [if_neg c2]
      exact lexL_at _ _ 0 _ _ rfl rfl rfl c2
  · rw [if_neg c1]
    exact lexL_at _ _ 0 _ _ rfl rfl rfl c1
theorem headK_zero {a b : El} (h : headC a b = 0) : cmpK a b = lexL (a.bs.map keyN) (b.bs.map keyN) ∧ a.n = b.n := by
  unfold headC orL at h
  unfold cmpK El.key
  split at h
  · rename_i c1
    unfold orL at h
    split at h
    · rename_i c2
      unfold orL at h
      split at h
      · rename_i c3
        unfold orL at h
        split at h
        · rename_i c4
          unfold orL at h
          split at h
          · rename_i c5
            have e1 := cmpO_zero c1
            have e2 := cmpO_zero c2
            have e3 := cmpO_zero c3
            have e4 := cmpO_zero c4
            have e5 := cmpO_zero c5
            rw [lexL, if_neg (by omega), if_neg (by omega), lexL, if_neg (by omega), if_neg (by omega), lexL, if_neg (by omega), if_neg (by omega), lexL, if_neg (by omega), if_neg (by omega), lexL, if_neg (by omega), if_neg (by omega)]
            exact ⟨rfl, by omega⟩
          · rename_i c5; exact absurd h c5
        · rename_i c4; exact absurd h c4
      · rename_i c3; exact absurd h c3
    · rename_i c2; exact absurd h c2
  · rename_i c1; exact absurd h c1
theorem key_step {a b : List Nat} {k : Nat} (h : (a.take k).map keyN = (b.take k).map keyN) (ha : k < a.length) (hb : k < b.length) (e : cmpO (keyN (a.getD k 0)) (keyN (b.getD k 0)) = 0) : (a.take (k + 1)).map keyN = (b.take (k + 1)).map keyN := by
  have e := cmpO_zero e
  rw [List.getD_eq_getElem?_getD, List.getElem?_eq_getElem ha, List.getD_eq_getElem?_getD, List.getElem?_eq_getElem hb] at e
  simp only [Option.getD_some] at e
  rw [List.take_add_one, List.take_add_one, List.getElem?_eq_getElem ha, List.getElem?_eq_getElem hb, List.map_append, List.map_append, h]
  simp [e]
theorem key_no {a b : List Nat} {k : Nat} (h : (a.take k).map keyN = (b.take k).map keyN) (ha : k < a.length) (hb : k < b.length) (e : cmpO (keyN (a.getD k 0)) (keyN (b.getD k 0)) ≠ 0) : lexL (a.map keyN) (b.map keyN) = cmpO (keyN (a.getD k 0)) (keyN (b.getD k 0)) := by
  refine lexL_at _ _ k _ _ (by rw [← List.map_take, ← List.map_take]; exact h) ?_ ?_ e
  · rw [List.getElem?_map, List.getD_eq_getElem?_getD, List.getElem?_eq_getElem ha]; rfl
  · rw [List.getElem?_map, List.getD_eq_getElem?_getD, List.getElem?_eq_getElem hb]; rfl
theorem key_all {a b : List Nat} {n : Nat} (h : (a.take n).map keyN = (b.take n).map keyN) (ha : a.length = n) (hb : b.length = n) : lexL (a.map keyN) (b.map keyN) = 0 := by
  rw [List.take_of_length_le (by omega), List.take_of_length_le (by omega)] at h
  rw [h]
  exact lexL_self _
end Go.Proofs.Ytebacmmfjadalaa
