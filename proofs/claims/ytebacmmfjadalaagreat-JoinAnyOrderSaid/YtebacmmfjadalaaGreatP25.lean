/- H2 in one text. -/
import Derived.Test.YtebacmmfjadalaaGreatP05

namespace Go.Proofs.YtebacmmfjadalaaGreat
variable {α : Type}

/-- in order from a to b -/
def Srt (C : α → α → Int) (xs : List α) (a b : Nat) : Prop := ∀ i k, a ≤ i → i < k → k < b → LeO C xs[i]? xs[k]?
/-- the places from a to b have been shuffled -/
structure Shuf (xs ys : List α) (a b : Nat) : Prop where
  perm : ys.Perm xs
  out : ∀ i, ¬ (a ≤ i ∧ i < b) → ys[i]? = xs[i]?
  mem : ∀ i, a ≤ i → i < b → ∃ k, a ≤ k ∧ k < b ∧ ys[i]? = xs[k]?
theorem Shuf.len {xs ys : List α} {a b : Nat} (h : Shuf xs ys a b) : ys.length = xs.length := h.perm.length_eq
theorem Shuf.refl (xs : List α) (a b : Nat) : Shuf xs xs a b := ⟨List.Perm.refl _, fun _ _ => rfl, fun i h1 h2 => ⟨i, h1, h2, rfl⟩⟩
theorem Shuf.trans {xs ys zs : List α} {a b : Nat} (h : Shuf xs ys a b) (k : Shuf ys zs a b) : Shuf xs zs a b :=
  ⟨k.perm.trans h.perm, fun i hi => (k.out i hi).trans (h.out i hi), fun i h1 h2 => by
    obtain ⟨j, j1, j2, j3⟩ := k.mem i h1 h2
    obtain ⟨l, l1, l2, l3⟩ := h.mem j j1 j2
    exact ⟨l, l1, l2, j3.trans l3⟩⟩
theorem Shuf.mono {xs ys : List α} {a b a' b' : Nat} (h : Shuf xs ys a b) (ha : a' ≤ a) (hb : b ≤ b') : Shuf xs ys a' b' :=
  ⟨h.perm, fun i hi => h.out i (fun q => hi ⟨by omega, by omega⟩), fun i h1 h2 => by
    by_cases q : a ≤ i ∧ i < b
    · obtain ⟨k, k1, k2, k3⟩ := h.mem i q.1 q.2
      exact ⟨k, by omega, by omega, k3⟩
    · exact ⟨i, h1, h2, h.out i q⟩⟩
theorem Shuf.sw {xs : List α} {a b i k : Nat} (hi : a ≤ i) (hi2 : i < b) (hk : a ≤ k) (hk2 : k < b) (hl : b ≤ xs.length) : Shuf xs (sw xs i k) a b :=
  ⟨hsw_perm _ _ _, fun m hm => by rw [hsw_get (by omega) (by omega), if_neg (by rintro rfl; exact hm ⟨hi, hi2⟩), if_neg (by rintro rfl; exact hm ⟨hk, hk2⟩)], fun m h1 h2 => by
    rw [hsw_get (by omega) (by omega)]
    by_cases e1 : m = i
    · rw [if_pos e1]; exact ⟨k, hk, hk2, rfl⟩
    · rw [if_neg e1]
      by_cases e2 : m = k
      · rw [if_pos e2]; exact ⟨i, hi, hi2, rfl⟩
      · rw [if_neg e2]; exact ⟨m, h1, h2, rfl⟩⟩
/-- what lies elsewhere stays in order -/
theorem Srt.shuf {C : α → α → Int} {xs ys : List α} {a b c d : Nat} (h : Srt C xs c d) (k : Shuf xs ys a b) (hd : d ≤ a ∨ b ≤ c) : Srt C ys c d := by
  intro i j h1 h2 h3
  rw [k.out i (by omega), k.out j (by omega)]
  exact h i j h1 h2 h3
theorem Srt.sub {C : α → α → Int} {xs : List α} {a b c d : Nat} (h : Srt C xs a b) (h1 : a ≤ c) (h2 : d ≤ b) : Srt C xs c d := fun i k e1 e2 e3 => h i k (by omega) e2 (by omega)
theorem Srt.one (C : α → α → Int) (xs : List α) {a b : Nat} (h : b ≤ a + 1) : Srt C xs a b := fun i k h1 h2 h3 => by omega

/-- all in order from a to m, but for the one at j, which stands ahead of all behind it -/
def InsSt (C : α → α → Int) (xs : List α) (a m j : Nat) : Prop := ∀ i k, a ≤ i → i < k → k < m → k ≠ j → LeO C xs[i]? xs[k]?
theorem ins_start {C : α → α → Int} {xs : List α} {a j : Nat} (h : Srt C xs a j) : InsSt C xs a (j + 1) j := fun i k h1 h2 h3 h4 => h i k h1 h2 (by omega)
theorem ins_step {C : α → α → Int} (hs : Swo C) {xs : List α} {a m q : Nat} (h : InsSt C xs a m (q + 1)) (ha : a ≤ q) (hm : q + 1 < m) (hl : m ≤ xs.length) (hlt : ltAt C xs (q + 1) q = true) : InsSt C (sw xs (q + 1) q) a m q := by
  intro i k h1 h2 h3 h4
  rw [hsw_get (by omega) (by omega), hsw_get (by omega) (by omega)]
  have hle := hlt_true hs hlt
  by_cases e1 : k = q + 1
  · rw [if_pos e1]
    by_cases e2 : i = q
    · rw [if_neg (by omega), if_pos e2]
      exact hle
    · rw [if_neg (by omega), if_neg e2]
      exact h i q h1 (by omega) (by omega) (by omega)
  · rw [if_neg e1, if_neg h4]
    by_cases e2 : i = q + 1
    · rw [if_pos e2]
      exact h q k ha (by omega) h3 e1
    · rw [if_neg e2]
      by_cases e3 : i = q
      · rw [if_pos e3]
        exact h (q + 1) k (by omega) (by omega) h3 e1
      · rw [if_neg e3]
        exact h i k h1 h2 h3 e1
theorem ins_stop {C : α → α → Int} (hs : Swo C) {xs : List α} {a m j : Nat} (h : InsSt C xs a m j) (hl : m ≤ xs.length) (hj : a ≤ j) (hst : j = a ∨ ltAt C xs j (j - 1) = false) : Srt C xs a m := by
  intro i k h1 h2 h3
  by_cases e : k = j
  · subst e
    rcases hst with hst | hst
    · omega
    · have hle := hlt_iff hst
      by_cases e2 : i = k - 1
      · subst e2; exact hle
      · have e3 : xs[k - 1]? = some (xs[k - 1]'(by omega)) := List.getElem?_eq_getElem (by omega)
        exact hs.transO e3 (h i (k - 1) h1 (by omega) (by omega) (by omega)) hle
  · exact h i k h1 h2 h3 e

/-- k places from a on and from b on have changed places -/
def swf (xs : List α) (a b k t : Nat) : Option α := if a ≤ t ∧ t < a + k then xs[t - a + b]? else if b ≤ t ∧ t < b + k then xs[t - b + a]? else xs[t]?
theorem swf1 {xs : List α} {a b k t u : Nat} (h1 : a ≤ t) (h2 : t < a + k) (h3 : u = t - a + b) : swf xs a b k t = xs[u]? := by unfold swf; rw [if_pos ⟨h1, h2⟩, h3]
theorem swf2 {xs : List α} {a b k t u : Nat} (h1 : b ≤ t) (h2 : t < b + k) (h0 : ¬ (a ≤ t ∧ t < a + k)) (h3 : u = t - b + a) : swf xs a b k t = xs[u]? := by unfold swf; rw [if_neg h0, if_pos ⟨h1, h2⟩, h3]
theorem swf3 {xs : List α} {a b k t u : Nat} (h1 : ¬ (a ≤ t ∧ t < a + k)) (h2 : ¬ (b ≤ t ∧ t < b + k)) (h3 : u = t) : swf xs a b k t = xs[u]? := by unfold swf; rw [if_neg h1, if_neg h2, h3]
def SwR (xs ys : List α) (a b k : Nat) : Prop := ys.Perm xs ∧ ∀ t, ys[t]? = swf xs a b k t
theorem swr_start (xs : List α) (a b : Nat) : SwR xs xs a b 0 := ⟨List.Perm.refl _, fun t => (swf3 (by omega) (by omega) rfl).symm⟩
theorem swr_step {xs ys : List α} {a b k : Nat} (h : SwR xs ys a b k) (hab : a + k < b) (hl : b + k < xs.length) : SwR xs (sw ys (a + k) (b + k)) a b (k + 1) := by
  have hly : ys.length = xs.length := h.1.length_eq
  refine ⟨(hsw_perm _ _ _).trans h.1, fun t => ?_⟩
  rw [hsw_get (by omega) (by omega)]
  by_cases e1 : t = a + k
  · subst e1
    rw [if_pos rfl, h.2, swf3 (u := b + k) (by omega) (by omega) rfl, swf1 (u := b + k) (by omega) (by omega) (by omega)]
  · rw [if_neg e1]
    by_cases e2 : t = b + k
    · subst e2
      rw [if_pos rfl, h.2, swf3 (u := a + k) (by omega) (by omega) rfl, swf2 (u := a + k) (by omega) (by omega) (by omega) (by omega)]
    · rw [if_neg e2, h.2]
      by_cases e3 : a ≤ t ∧ t < a + k
      · rw [swf1 e3.1 e3.2 rfl, swf1 (u := t - a + b) (by omega) (by omega) rfl]
      · by_cases e4 : b ≤ t ∧ t < b + k
        · rw [swf2 e4.1 e4.2 e3 rfl, swf2 (u := t - b + a) (by omega) (by omega) (by omega) rfl]
        · rw [swf3 e3 e4 rfl, swf3 (by omega) (by omega) rfl]

/-- the parts from a to m and from m to b changed about -/
def rotf (xs : List α) (a m b t : Nat) : Option α := if a ≤ t ∧ t < a + (b - m) then xs[t + (m - a)]? else if a + (b - m) ≤ t ∧ t < b then xs[t - (b - m)]? else xs[t]?
theorem rotf1 {xs : List α} {a m b t u : Nat} (h1 : a ≤ t) (h2 : t < a + (b - m)) (h3 : u = t + (m - a)) : rotf xs a m b t = xs[u]? := by unfold rotf; rw [if_pos ⟨h1, h2⟩, h3]
theorem rotf2 {xs : List α} {a m b t u : Nat} (h1 : a + (b - m) ≤ t) (h2 : t < b) (h3 : u = t - (b - m)) : rotf xs a m b t = xs[u]? := by unfold rotf; rw [if_neg (by omega), if_pos ⟨h1, h2⟩, h3]
theorem rotf3 {xs : List α} {a m b t u : Nat} (h1 : ¬ (a ≤ t ∧ t < a + (b - m))) (h2 : ¬ (a + (b - m) ≤ t ∧ t < b)) (h3 : u = t) : rotf xs a m b t = xs[u]? := by unfold rotf; rw [if_neg h1, if_neg h2, h3]
def Rot (xs ys : List α) (a m b : Nat) : Prop := ys.Perm xs ∧ ∀ t, ys[t]? = rotf xs a m b t
theorem rot_left {xs ys zs : List α} {m i j : Nat} (hi : i ≤ m) (hj : 0 < j) (hij : j < i) (h : SwR xs ys (m - i) m j) (k : Rot ys zs (m - (i - j)) m (m + j)) : Rot xs zs (m - i) m (m + j) := by
  refine ⟨k.1.trans h.1, fun t => ?_⟩
  rw [k.2]
  by_cases c1 : m - i ≤ t ∧ t < m - i + j
  · rw [rotf3 (u := t) (by omega) (by omega) rfl, h.2, swf1 (u := t + i) (by omega) (by omega) (by omega), rotf1 (u := t + i) (by omega) (by omega) (by omega)]
  · by_cases c2 : m - (i - j) ≤ t ∧ t < m - (i - j) + j
    · rw [rotf1 (u := t + (i - j)) (by omega) (by omega) (by omega), h.2, swf2 (u := t - j) (by omega) (by omega) (by omega) (by omega), rotf2 (u := t - j) (by omega) (by omega) (by omega)]
    · by_cases c3 : m - (i - j) + j ≤ t ∧ t < m + j
      · rw [rotf2 (u := t - j) (by omega) (by omega) (by omega), h.2, swf3 (u := t - j) (by omega) (by omega) rfl, rotf2 (u := t - j) (by omega) (by omega) (by omega)]
      · rw [rotf3 (u := t) (by omega) (by omega) rfl, h.2, swf3 (u := t) (by omega) (by omega) rfl, rotf3 (u := t) (by omega) (by omega) rfl]
theorem rot_right {xs ys zs : List α} {m i j : Nat} (hi : i ≤ m) (h0 : 0 < i) (hij : i < j) (h : SwR xs ys (m - i) (m + j - i) i) (k : Rot ys zs (m - i) m (m + (j - i))) : Rot xs zs (m - i) m (m + j) := by
  refine ⟨k.1.trans h.1, fun t => ?_⟩
  rw [k.2]
  by_cases c1 : m - i ≤ t ∧ t < m - i + (j - i)
  · rw [rotf1 (u := t + i) (by omega) (by omega) (by omega), h.2, swf3 (u := t + i) (by omega) (by omega) rfl, rotf1 (u := t + i) (by omega) (by omega) (by omega)]
  · by_cases c2 : m - i + (j - i) ≤ t ∧ t < m + (j - i)
    · rw [rotf2 (u := t - (j - i)) (by omega) (by omega) (by omega), h.2, swf1 (u := t + i) (by omega) (by omega) (by omega)]
      by_cases c4 : t < m - i + j
      · rw [rotf1 (u := t + i) (by omega) (by omega) (by omega)]
      · omega
    · by_cases c3 : m + (j - i) ≤ t ∧ t < m + j
      · rw [rotf3 (u := t) (by omega) (by omega) rfl, h.2, swf2 (u := t - j) (by omega) (by omega) (by omega) (by omega), rotf2 (u := t - j) (by omega) (by omega) (by omega)]
      · rw [rotf3 (u := t) (by omega) (by omega) rfl, h.2, swf3 (u := t) (by omega) (by omega) rfl, rotf3 (u := t) (by omega) (by omega) rfl]
theorem rot_same {xs ys : List α} {m i : Nat} (hi : i ≤ m) (h : SwR xs ys (m - i) m i) : Rot xs ys (m - i) m (m + i) := by
  refine ⟨h.1, fun t => ?_⟩
  rw [h.2]
  by_cases c1 : m - i ≤ t ∧ t < m - i + i
  · rw [swf1 (u := t + i) (by omega) (by omega) (by omega), rotf1 (u := t + i) (by omega) (by omega) (by omega)]
  · by_cases c2 : m ≤ t ∧ t < m + i
    · rw [swf2 (u := t - i) (by omega) (by omega) (by omega) (by omega), rotf2 (u := t - i) (by omega) (by omega) (by omega)]
    · rw [swf3 (u := t) (by omega) (by omega) rfl, rotf3 (u := t) (by omega) (by omega) rfl]
theorem Rot.shuf {xs ys : List α} {a m b : Nat} (h : Rot xs ys a m b) (h1 : a ≤ m) (h2 : m ≤ b) : Shuf xs ys a b :=
  ⟨h.1, fun i hi => by rw [h.2, rotf3 (u := i) (by omega) (by omega) rfl], fun i i1 i2 => by
    rw [h.2]
    by_cases c : i < a + (b - m)
    · exact ⟨i + (m - a), by omega, by omega, rotf1 i1 c rfl⟩
    · exact ⟨i - (b - m), by omega, by omega, rotf2 (by omega) (by omega) rfl⟩⟩

/-- two parts in order, the second behind the first -/
theorem srt_join {C : α → α → Int} {xs : List α} {a m b : Nat} (h1 : Srt C xs a m) (h2 : Srt C xs m b) (h3 : ∀ i k, a ≤ i → i < m → m ≤ k → k < b → LeO C xs[i]? xs[k]?) : Srt C xs a b := by
  intro i k i1 i2 i3
  by_cases c1 : k < m
  · exact h1 i k i1 i2 c1
  · by_cases c2 : i < m
    · exact h3 i k i1 c2 (by omega) i3
    · exact h2 i k (by omega) i2 i3
/-- shuffled within two parts of which all of one stand ahead of all of the other -/
theorem ahead_shuf {C : α → α → Int} {xs ys : List α} {a m b : Nat} (h : ∀ i k, a ≤ i → i < m → m ≤ k → k < b → LeO C xs[i]? xs[k]?) (s : Shuf xs ys a m ∨ Shuf xs ys m b) : ∀ i k, a ≤ i → i < m → m ≤ k → k < b → LeO C ys[i]? ys[k]? := by
  intro i k h1 h2 h3 h4
  rcases s with s | s
  · rw [s.out k (by omega)]
    obtain ⟨j, j1, j2, j3⟩ := s.mem i h1 h2
    rw [j3]
    exact h j k j1 j2 h3 h4
  · rw [s.out i (by omega)]
    obtain ⟨j, j1, j2, j3⟩ := s.mem k h3 h4
    rw [j3]
    exact h i j h1 h2 j1 j2

/-- where the merge parts: all that the search finds at st -/
structure Part (C : α → α → Int) (xs : List α) (a m b mid st : Nat) : Prop where
  lo : a ≤ st
  hi : st ≤ m
  el : m ≤ mid + m - st
  eh : mid + m - st ≤ b
  fore : ∀ i k, a ≤ i → i < st → mid + m - st ≤ k → k < b → LeO C xs[i]? xs[k]?
  back : ∀ i k, st ≤ i → i < m → m ≤ k → k < mid + m - st → LeO C xs[k]? xs[i]?
theorem part_rot {C : α → α → Int} {xs ys : List α} {a m b mid st : Nat} (h1 : Srt C xs a m) (h2 : Srt C xs m b) (p : Part C xs a m b mid st) (hm : a ≤ mid) (r : Rot xs ys st m (mid + m - st)) :
    (∀ i k, a ≤ i → i < mid → mid ≤ k → k < b → LeO C ys[i]? ys[k]?) ∧ Srt C ys a st ∧ Srt C ys st mid ∧ Srt C ys mid (mid + m - st) ∧ Srt C ys (mid + m - st) b := by
  obtain ⟨p1, p2, p3, p4, p5, p6⟩ := p
  have q : st ≤ mid := by omega
  have g1 : ∀ t, t < st → ys[t]? = xs[t]? := fun t ht => by rw [r.2, rotf3 (u := t) (by omega) (by omega) rfl]
  have g2 : ∀ t, st ≤ t → t < mid → ys[t]? = xs[t + (m - st)]? := fun t h1 h2 => by rw [r.2, rotf1 (u := t + (m - st)) (by omega) (by omega) rfl]
  have g3 : ∀ t, mid ≤ t → t < mid + m - st → ys[t]? = xs[t - (mid - st)]? := fun t h1 h2 => by rw [r.2, rotf2 (u := t - (mid - st)) (by omega) (by omega) (by omega)]
  have g4 : ∀ t, mid + m - st ≤ t → ys[t]? = xs[t]? := fun t ht => by rw [r.2, rotf3 (u := t) (by omega) (by omega) rfl]
  refine ⟨fun i k i1 i2 i3 i4 => ?_, fun i k i1 i2 i3 => ?_, fun i k i1 i2 i3 => ?_, fun i k i1 i2 i3 => ?_, fun i k i1 i2 i3 => ?_⟩
  · by_cases c1 : i < st
    · rw [g1 i c1]
      by_cases c2 : k < mid + m - st
      · rw [g3 k i3 c2]
        exact h1 _ _ i1 (by omega) (by omega)
      · rw [g4 k (by omega)]
        exact p5 i k i1 c1 (by omega) i4
    · rw [g2 i (by omega) i2]
      by_cases c2 : k < mid + m - st
      · rw [g3 k i3 c2]
        exact p6 _ _ (by omega) (by omega) (by omega) (by omega)
      · rw [g4 k (by omega)]
        exact h2 _ _ (by omega) (by omega) (by omega)
  · rw [g1 i (by omega), g1 k (by omega)]
    exact h1 i k i1 i2 (by omega)
  · rw [g2 i i1 (by omega), g2 k (by omega) i3]
    exact h2 _ _ (by omega) (by omega) (by omega)
  · rw [g3 i i1 (by omega), g3 k (by omega) i3]
    exact h1 _ _ (by omega) (by omega) (by omega)
  · rw [g4 i i1, g4 k (by omega)]
    exact h2 _ _ (by omega) (by omega) (by omega)

/-- the search for the place: all below st stand at or ahead of their partners, those from r on do not -/
structure Bs (C : α → α → Int) (xs : List α) (p s0 r0 s r : Nat) : Prop where
  l : s0 ≤ s
  h : s ≤ r
  u : r ≤ r0
  yes : s0 < s → ltAt C xs (p - (s - 1)) (s - 1) = false
  no : r < r0 → ltAt C xs (p - r) r = true
theorem bs_part {C : α → α → Int} (hs : Swo C) {xs : List α} {a m b mid s0 r0 st : Nat} (h1 : Srt C xs a m) (h2 : Srt C xs m b) (hl : b ≤ xs.length) (ham : a < m) (hmb : m < b) (hmid : mid = (a + b) / 2)
    (h0 : (mid < m ∧ s0 = mid + m - b ∧ r0 = mid) ∨ (m ≤ mid ∧ s0 = a ∧ r0 = m)) (p : Bs C xs (mid + m - 1) s0 r0 st st) : Part C xs a m b mid st := by
  obtain ⟨p1, -, p3, p4, p5⟩ := p
  have hb : a ≤ st ∧ st ≤ m ∧ m ≤ mid + m - st ∧ mid + m - st ≤ b := by omega
  refine ⟨hb.1, hb.2.1, hb.2.2.1, hb.2.2.2, fun i k i1 i2 i3 i4 => ?_, fun i k i1 i2 i3 i4 => ?_⟩
  · by_cases c : s0 < st
    · have hle := hlt_iff (p4 c)
      have e : mid + m - 1 - (st - 1) = mid + m - st := by omega
      rw [e] at hle
      have y1 : xs[st - 1]? = some (xs[st - 1]'(by omega)) := List.getElem?_eq_getElem (by omega)
      have y2 : xs[mid + m - st]? = some (xs[mid + m - st]'(by omega)) := List.getElem?_eq_getElem (by omega)
      have z1 : LeO C xs[i]? xs[st - 1]? := by
        by_cases e1 : i = st - 1
        · subst e1
          intro x y hx hy
          rw [hx] at hy
          injection hy with hy
          subst hy
          exact hs.refl x
        · exact h1 _ _ i1 (by omega) (by omega)
      have z2 : LeO C xs[mid + m - st]? xs[k]? := by
        by_cases e1 : k = mid + m - st
        · subst e1
          intro x y hx hy
          rw [hx] at hy
          injection hy with hy
          subst hy
          exact hs.refl x
        · exact h2 _ _ (by omega) (by omega) (by omega)
      exact hs.transO y1 z1 (hs.transO y2 hle z2)
    · omega
  · by_cases c : st < r0
    · have hle := hlt_true hs (p5 c)
      have y1 : xs[st]? = some (xs[st]'(by omega)) := List.getElem?_eq_getElem (by omega)
      have y2 : xs[mid + m - 1 - st]? = some (xs[mid + m - 1 - st]'(by omega)) := List.getElem?_eq_getElem (by omega)
      have z1 : LeO C xs[k]? xs[mid + m - 1 - st]? := by
        by_cases e1 : k = mid + m - 1 - st
        · subst e1
          intro x y hx hy
          rw [hx] at hy
          injection hy with hy
          subst hy
          exact hs.refl x
        · exact h2 _ _ i3 (by omega) (by omega)
      have z2 : LeO C xs[st]? xs[i]? := by
        by_cases e1 : i = st
        · subst e1
          intro x y hx hy
          rw [hx] at hy
          injection hy with hy
          subst hy
          exact hs.refl x
        · exact h1 _ _ (by omega) (by omega) (by omega)
      exact hs.transO y2 z1 (hs.transO y1 hle z2)
    · omega

theorem leO_self {C : α → α → Int} (hs : Swo C) (x : Option α) : LeO C x x := by
  intro a b ha hb
  rw [ha] at hb
  injection hb with hb
  subst hb
  exact hs.refl a
/-- the search for the place of the one at a among those from m to b -/
structure B1 (C : α → α → Int) (xs : List α) (a m b i j : Nat) : Prop where
  l : m ≤ i
  h : i ≤ j
  u : j ≤ b
  yes : m < i → ltAt C xs (i - 1) a = true
  no : j < b → ltAt C xs j a = false
theorem base1 {C : α → α → Int} (hs : Swo C) {xs ys : List α} {a b i : Nat} (h2 : Srt C xs (a + 1) b) (hl : b ≤ xs.length) (p : B1 C xs a (a + 1) b i i) (r : Rot xs ys a (a + 1) i) : Srt C ys a b := by
  obtain ⟨p1, -, p3, p4, p5⟩ := p
  have g1 : ∀ t, a ≤ t → t < i - 1 → ys[t]? = xs[t + 1]? := fun t e1 e2 => by rw [r.2, rotf1 (u := t + 1) (by omega) (by omega) (by omega)]
  have g2 : ys[i - 1]? = xs[a]? := by rw [r.2, rotf2 (u := a) (by omega) (by omega) (by omega)]
  have g3 : ∀ t, i ≤ t → ys[t]? = xs[t]? := fun t e1 => by rw [r.2, rotf3 (u := t) (by omega) (by omega) rfl]
  have hle : ∀ t, a + 1 ≤ t → t < i → LeO C xs[t]? xs[a]? := fun t e1 e2 => by
    have h := hlt_true hs (p4 (by omega))
    by_cases c : t = i - 1
    · rw [c]; exact h
    · have y : xs[i - 1]? = some (xs[i - 1]'(by omega)) := List.getElem?_eq_getElem (by omega)
      exact hs.transO y (h2 _ _ e1 (by omega) (by omega)) h
  have hge : ∀ t, i ≤ t → t < b → LeO C xs[a]? xs[t]? := fun t e1 e2 => by
    have h := hlt_iff (p5 (by omega))
    by_cases c : t = i
    · rw [c]; exact h
    · have y : xs[i]? = some (xs[i]'(by omega)) := List.getElem?_eq_getElem (by omega)
      exact hs.transO y h (h2 _ _ (by omega) (by omega) e2)
  intro s t e1 e2 e3
  by_cases c1 : s < i - 1
  · rw [g1 s e1 c1]
    by_cases c2 : t < i - 1
    · rw [g1 t (by omega) c2]
      exact h2 _ _ (by omega) (by omega) (by omega)
    · by_cases c3 : t = i - 1
      · rw [c3, g2]
        exact hle _ (by omega) (by omega)
      · rw [g3 t (by omega)]
        exact h2 _ _ (by omega) (by omega) e3
  · by_cases c2 : s = i - 1
    · rw [c2, g2, g3 t (by omega)]
      exact hge _ (by omega) e3
    · rw [g3 s (by omega), g3 t (by omega)]
      exact h2 _ _ (by omega) (by omega) e3
theorem bub1_start (xs : List α) (a : Nat) : Rot xs xs a (a + 1) (a + 1) := ⟨List.Perm.refl _, fun t => by
  by_cases c : t = a
  · rw [rotf2 (u := t) (by omega) (by omega) (by omega)]
  · rw [rotf3 (u := t) (by omega) (by omega) rfl]⟩
theorem bub1_step {xs ys : List α} {a k : Nat} (h : Rot xs ys a (a + 1) (k + 1)) (ha : a ≤ k) (hl : k + 1 < xs.length) : Rot xs (sw ys k (k + 1)) a (a + 1) (k + 2) := by
  have hly := h.1.length_eq
  refine ⟨(hsw_perm _ _ _).trans h.1, fun t => ?_⟩
  rw [hsw_get (by omega) (by omega)]
  by_cases e1 : t = k
  · subst e1
    rw [if_pos rfl, h.2, rotf3 (u := t + 1) (by omega) (by omega) rfl, rotf1 (u := t + 1) (by omega) (by omega) (by omega)]
  · rw [if_neg e1]
    by_cases e2 : t = k + 1
    · subst e2
      rw [if_pos rfl, h.2, rotf2 (u := a) (by omega) (by omega) (by omega), rotf2 (u := a) (by omega) (by omega) (by omega)]
    · rw [if_neg e2, h.2]
      by_cases e3 : a ≤ t ∧ t < k
      · rw [rotf1 (u := t + 1) (by omega) (by omega) (by omega), rotf1 (u := t + 1) (by omega) (by omega) (by omega)]
      · rw [rotf3 (u := t) (by omega) (by omega) rfl, rotf3 (u := t) (by omega) (by omega) rfl]
/-- the search for the place of the one at m among those from a to m -/
structure B2 (C : α → α → Int) (xs : List α) (a m i j : Nat) : Prop where
  l : a ≤ i
  h : i ≤ j
  u : j ≤ m
  yes : a < i → ltAt C xs m (i - 1) = false
  no : j < m → ltAt C xs m j = true
theorem base2 {C : α → α → Int} (hs : Swo C) {xs ys : List α} {a m i : Nat} (h1 : Srt C xs a m) (hl : m < xs.length) (p : B2 C xs a m i i) (r : Rot xs ys i m (m + 1)) : Srt C ys a (m + 1) := by
  obtain ⟨p1, -, p3, p4, p5⟩ := p
  have g1 : ∀ t, t < i → ys[t]? = xs[t]? := fun t e1 => by rw [r.2, rotf3 (u := t) (by omega) (by omega) rfl]
  have g2 : ys[i]? = xs[m]? := by rw [r.2, rotf1 (u := m) (by omega) (by omega) (by omega)]
  have g3 : ∀ t, i < t → t ≤ m → ys[t]? = xs[t - 1]? := fun t e1 e2 => by rw [r.2, rotf2 (u := t - 1) (by omega) (by omega) (by omega)]
  have hle : ∀ t, a ≤ t → t < i → LeO C xs[t]? xs[m]? := fun t e1 e2 => by
    have h := hlt_iff (p4 (by omega))
    by_cases c : t = i - 1
    · rw [c]; exact h
    · have y : xs[i - 1]? = some (xs[i - 1]'(by omega)) := List.getElem?_eq_getElem (by omega)
      exact hs.transO y (h1 _ _ e1 (by omega) (by omega)) h
  have hge : ∀ t, i ≤ t → t < m → LeO C xs[m]? xs[t]? := fun t e1 e2 => by
    have h := hlt_true hs (p5 (by omega))
    by_cases c : t = i
    · rw [c]; exact h
    · have y : xs[i]? = some (xs[i]'(by omega)) := List.getElem?_eq_getElem (by omega)
      exact hs.transO y h (h1 _ _ (by omega) (by omega) e2)
  intro s t e1 e2 e3
  by_cases c1 : s < i
  · rw [g1 s c1]
    by_cases c2 : t < i
    · rw [g1 t c2]
      exact h1 _ _ e1 e2 (by omega)
    · by_cases c3 : t = i
      · rw [c3, g2]
        exact hle _ e1 c1
      · rw [g3 t (by omega) (by omega)]
        exact h1 _ _ e1 (by omega) (by omega)
  · by_cases c2 : s = i
    · rw [c2, g2, g3 t (by omega) (by omega)]
      exact hge _ (by omega) (by omega)
    · rw [g3 s (by omega) (by omega), g3 t (by omega) (by omega)]
      exact h1 _ _ (by omega) (by omega) (by omega)
theorem bub2_start (xs : List α) (m : Nat) : Rot xs xs m m (m + 1) := ⟨List.Perm.refl _, fun t => by
  by_cases c : t = m
  · rw [rotf1 (u := t) (by omega) (by omega) (by omega)]
  · rw [rotf3 (u := t) (by omega) (by omega) rfl]⟩
theorem bub2_step {xs ys : List α} {m k : Nat} (h : Rot xs ys (k + 1) m (m + 1)) (ha : k + 1 ≤ m) (hl : m < xs.length) : Rot xs (sw ys (k + 1) k) k m (m + 1) := by
  have hly := h.1.length_eq
  refine ⟨(hsw_perm _ _ _).trans h.1, fun t => ?_⟩
  rw [hsw_get (by omega) (by omega)]
  by_cases e1 : t = k + 1
  · subst e1
    rw [if_pos rfl, h.2, rotf3 (u := k) (by omega) (by omega) rfl, rotf2 (u := k) (by omega) (by omega) (by omega)]
  · rw [if_neg e1]
    by_cases e2 : t = k
    · subst e2
      rw [if_pos rfl, h.2, rotf1 (u := m) (by omega) (by omega) (by omega), rotf1 (u := m) (by omega) (by omega) (by omega)]
    · rw [if_neg e2, h.2]
      by_cases e3 : k + 1 < t ∧ t ≤ m
      · rw [rotf2 (u := t - 1) (by omega) (by omega) (by omega), rotf2 (u := t - 1) (by omega) (by omega) (by omega)]
      · rw [rotf3 (u := t) (by omega) (by omega) rfl, rotf3 (u := t) (by omega) (by omega) rfl]

/-- all blocks of k places are in order -/
def Blk (C : α → α → Int) (xs : List α) (n k : Nat) : Prop := ∀ c, Srt C xs (c * k) (min (c * k + k) n)
/-- the blocks of k that have been merged by twos so far, up to a -/
def Mrg (C : α → α → Int) (xs : List α) (n k d : Nat) : Prop := (∀ c, c < d → Srt C xs (c * (2 * k)) (min (c * (2 * k) + 2 * k) n)) ∧ ∀ c, 2 * d ≤ c → Srt C xs (c * k) (min (c * k + k) n)
theorem mrg_start {C : α → α → Int} {xs : List α} {n k : Nat} (h : Blk C xs n k) : Mrg C xs n k 0 := ⟨fun c hc => by omega, fun c _ => h c⟩
theorem mrg_step {C : α → α → Int} {xs ys : List α} {n k d : Nat} (h : Mrg C xs n k d) (s : Shuf xs ys (d * (2 * k)) (d * (2 * k) + 2 * k)) (q : Srt C ys (d * (2 * k)) (d * (2 * k) + 2 * k)) : Mrg C ys n k (d + 1) := by
  refine ⟨fun c hc => ?_, fun c hc => ?_⟩
  · by_cases e : c = d
    · subst e
      exact q.sub (Nat.le_refl _) (Nat.min_le_left _ _)
    · have hlt : c * (2 * k) + 2 * k ≤ d * (2 * k) := by
        have : (c + 1) * (2 * k) ≤ d * (2 * k) := Nat.mul_le_mul_right _ (by omega)
        rw [Nat.add_mul, Nat.one_mul] at this
        exact this
      exact (h.1 c (by omega)).shuf s (.inl (by omega))
  · have hge : d * (2 * k) + 2 * k ≤ c * k := by
      have : (2 * d + 2) * k ≤ c * k := Nat.mul_le_mul_right _ (by omega)
      rw [Nat.add_mul] at this
      have e : 2 * d * k = d * (2 * k) := by rw [Nat.mul_comm 2 d, Nat.mul_assoc]
      omega
    exact (h.2 c (by omega)).shuf s (.inr hge)
theorem mrg_end {C : α → α → Int} {xs : List α} {n k d : Nat} (h : Mrg C xs n k d) (hn : n ≤ d * (2 * k)) : Blk C xs n (2 * k) := by
  intro c
  by_cases e : c < d
  · exact h.1 c e
  · have : d * (2 * k) ≤ c * (2 * k) := Nat.mul_le_mul_right _ (by omega)
    exact Srt.one C xs (by omega)
theorem mrg_last {C : α → α → Int} {xs : List α} {n k d : Nat} (h : Mrg C xs n k d) (hn : n ≤ d * (2 * k) + 2 * k) (q : Srt C xs (d * (2 * k)) n) : Blk C xs n (2 * k) := by
  intro c
  by_cases e : c < d
  · exact h.1 c e
  · by_cases e2 : c = d
    · subst e2
      exact q.sub (Nat.le_refl _) (Nat.min_le_right _ _)
    · have : (d + 1) * (2 * k) ≤ c * (2 * k) := Nat.mul_le_mul_right _ (by omega)
      rw [Nat.add_mul, Nat.one_mul] at this
      exact Srt.one C xs (by omega)
end Go.Proofs.YtebacmmfjadalaaGreat
