/- J5 H1 in one text. -/
import Derived.Test.YtebacmmfjadalaaGreatP04

namespace Go.Proofs.YtebacmmfjadalaaGreat
open Go Go.RowKit

theorem wrapnil {P : Program} (ts : Array TypeId) (t : TypeId) (a : Addr) (s m : String) (w : World) : Sem.run P (Builtin.ssaWrapNilChk_ ts t #[.pointer (some a), strVal s, strVal m]) w = .ok (.pointer (some a)) w := rfl
theorem method_val {name : String} {F : FuncId} {fuel : Nat} (hm : ((Tryz.prog.info? 101).bind fun i => (i.methods.find? (·.name == name)).map fun m => (m.path, m.func)) = some (#[], some (F, false)))
    (pa : Addr) (v : Option Addr) (n c : Nat) (w : World) (hp : w.cell? pa = some (.slice v n c)) : Sem.run Tryz.prog (method (fuel + 1) 101 (.pointer (some pa)) name) w = .ok (F, .slice v n c) w := by
  cases hi : Tryz.prog.info? 101 with
  | none => rw [hi] at hm; simp at hm
  | some i =>
    rw [hi] at hm
    simp only [Option.bind_some] at hm
    cases hf : i.methods.find? (·.name == name) with
    | none => rw [hf] at hm; simp at hm
    | some m =>
      rw [hf] at hm
      simp at hm
      obtain ⟨h1, h2⟩ := hm
      have hu : Sem.run Tryz.prog (underlying 101) w = .ok (.pointer 75) w := run_underlying Tryz.underlying101 w
      simp [method, typeInfo, hi, hf, h1, h2, follow, receiverAt, Place.get, go_sem, wrapnil, loadVar, hp, hu]
theorem method_ptr {name : String} {F : FuncId} {fuel : Nat} (hm : ((Tryz.prog.info? 101).bind fun i => (i.methods.find? (·.name == name)).map fun m => (m.path, m.func)) = some (#[], some (F, true)))
    (pa : Addr) (w : World) : Sem.run Tryz.prog (method (fuel + 1) 101 (.pointer (some pa)) name) w = .ok (F, .pointer (some pa)) w := by
  cases hi : Tryz.prog.info? 101 with
  | none => rw [hi] at hm; simp at hm
  | some i =>
    rw [hi] at hm
    simp only [Option.bind_some] at hm
    cases hf : i.methods.find? (·.name == name) with
    | none => rw [hf] at hm; simp at hm
    | some m =>
      rw [hf] at hm
      simp at hm
      obtain ⟨h1, h2⟩ := hm
      have hu : Sem.run Tryz.prog (underlying 101) w = .ok (.pointer 75) w := run_underlying Tryz.underlying101 w
      simp [method, typeInfo, hi, hf, h1, h2, follow, receiverAt, Place.get, go_sem, hu]
theorem m_less : ((Tryz.prog.info? 101).bind fun i => (i.methods.find? (·.name == "Less")).map fun m => (m.path, m.func)) = some (#[], some (145, false)) := by kernel_rfl
theorem m_swap : ((Tryz.prog.info? 101).bind fun i => (i.methods.find? (·.name == "Swap")).map fun m => (m.path, m.func)) = some (#[], some (146, false)) := by kernel_rfl
theorem m_len : ((Tryz.prog.info? 101).bind fun i => (i.methods.find? (·.name == "Len")).map fun m => (m.path, m.func)) = some (#[], some (144, false)) := by kernel_rfl
theorem m_least : ((Tryz.prog.info? 101).bind fun i => (i.methods.find? (·.name == "binnacle/join.least")).map fun m => (m.path, m.func)) = some (#[], some (147, false)) := by kernel_rfl
theorem m_push : ((Tryz.prog.info? 101).bind fun i => (i.methods.find? (·.name == "Push")).map fun m => (m.path, m.func)) = some (#[], some (151, true)) := by kernel_rfl
theorem m_pop : ((Tryz.prog.info? 101).bind fun i => (i.methods.find? (·.name == "Pop")).map fun m => (m.path, m.func)) = some (#[], some (150, true)) := by kernel_rfl
end Go.Proofs.YtebacmmfjadalaaGreat

namespace Go.Proofs.YtebacmmfjadalaaGreat

variable {α : Type}
/-- two change places -/
def sw (xs : List α) (i k : Nat) : List α := match xs[i]?, xs[k]? with
  | some a, some b => (xs.set i b).set k a
  | _, _ => xs
def ltAt (C : α → α → Int) (xs : List α) (i k : Nat) : Bool := match xs[i]?, xs[k]? with
  | some a, some b => decide (C a b < 0)
  | _, _ => false
/-- what up leaves of a row -/
def upL (C : α → α → Int) : Nat → List α → Nat → List α
  | 0, xs, _ => xs
  | f + 1, xs, j => if (j - 1) / 2 = j ∨ ltAt C xs j ((j - 1) / 2) = false then xs else upL C f (sw xs ((j - 1) / 2) j) ((j - 1) / 2)
/-- the child that down looks at -/
def kid (C : α → α → Int) (xs : List α) (i m : Nat) : Nat := if 2 * i + 2 < m ∧ ltAt C xs (2 * i + 2) (2 * i + 1) = true then 2 * i + 2 else 2 * i + 1
/-- what down leaves of a row -/
def downL (C : α → α → Int) : Nat → List α → Nat → Nat → List α
  | 0, xs, _, _ => xs
  | f + 1, xs, i, m => if m ≤ 2 * i + 1 ∨ ltAt C xs (kid C xs i m) i = false then xs else downL C f (sw xs i (kid C xs i m)) (kid C xs i m) m
/-- what Pop leaves of a row of n + 1 -/
def popL (C : α → α → Int) (xs : List α) (n : Nat) : List α := (downL C (n + 1) (sw xs 0 n) 0 n).take n

structure Swo (C : α → α → Int) : Prop where
  asym : ∀ a b, C a b < 0 → ¬ C b a < 0
  ntr : ∀ a b c, C a c < 0 → C a b < 0 ∨ C b c < 0

/-- a stands at or ahead of b -/
def Le (C : α → α → Int) (a b : α) : Prop := ¬ C b a < 0
theorem Swo.refl {C : α → α → Int} (h : Swo C) (a : α) : Le C a a := fun q => h.asym a a q q
theorem Swo.total {C : α → α → Int} (h : Swo C) {a b : α} (q : ¬ Le C a b) : Le C b a := h.asym b a (Classical.not_not.1 q)
theorem Swo.of_lt {C : α → α → Int} (h : Swo C) {a b : α} (q : C a b < 0) : Le C a b := h.asym a b q
theorem Swo.trans {C : α → α → Int} (h : Swo C) {a b c : α} (p : Le C a b) (q : Le C b c) : Le C a c := fun r => (h.ntr c b a r).elim q p

/-- of two places, where there are such -/
def LeO (C : α → α → Int) (x y : Option α) : Prop := ∀ a b, x = some a → y = some b → Le C a b
theorem Swo.transO {C : α → α → Int} (h : Swo C) {x y z : Option α} {b : α} (hy : y = some b) (p : LeO C x y) (q : LeO C y z) : LeO C x z :=
  fun a c ha hc => h.trans (p a b ha hy) (q b c hy hc)

theorem hsw_get {xs : List α} {i k : Nat} (hi : i < xs.length) (hk : k < xs.length) (m : Nat) : (sw xs i k)[m]? = if m = i then xs[k]? else if m = k then xs[i]? else xs[m]? := by
  unfold sw
  rw [List.getElem?_eq_getElem hi, List.getElem?_eq_getElem hk]
  simp only [List.getElem?_set, List.length_set]
  by_cases h1 : m = i
  · subst h1
    by_cases h2 : k = m
    · subst h2
      simp [hi]
    · simp [hi, h2]
  · by_cases h2 : m = k
    · subst h2
      simp [h1, hk]
    · simp [h1, h2, Ne.symm h1, Ne.symm h2]
theorem hsw_len (xs : List α) (i k : Nat) : (sw xs i k).length = xs.length := by
  unfold sw
  split <;> simp
theorem hsw_perm (xs : List α) (i k : Nat) : (sw xs i k).Perm xs := by
  unfold sw
  split
  · rename_i a b ha hb
    obtain ⟨hi, rfl⟩ := List.getElem?_eq_some_iff.1 ha
    obtain ⟨hk, rfl⟩ := List.getElem?_eq_some_iff.1 hb
    exact List.set_set_perm hi hk
  · exact List.Perm.refl _
theorem hlt_iff {C : α → α → Int} {xs : List α} {i k : Nat} : ltAt C xs i k = false → LeO C xs[k]? xs[i]? := by
  intro h a b ha hb
  unfold ltAt at h
  rw [ha, hb] at h
  simpa [Le] using h
theorem hlt_true {C : α → α → Int} {xs : List α} {i k : Nat} (hs : Swo C) : ltAt C xs i k = true → LeO C xs[i]? xs[k]? := by
  intro h a b ha hb
  unfold ltAt at h
  rw [ha, hb] at h
  exact hs.of_lt (by simpa using h)

/-- the first m of a list are a heap -/
def Heap (C : α → α → Int) (xs : List α) (m : Nat) : Prop := ∀ i, 0 < i → i < m → LeO C xs[(i - 1) / 2]? xs[i]?

theorem upL_perm (C : α → α → Int) : ∀ (f : Nat) (xs : List α) (j : Nat), (upL C f xs j).Perm xs
  | 0, _, _ => List.Perm.refl _
  | f + 1, xs, j => by
    rw [upL]
    split
    · exact List.Perm.refl _
    · exact (upL_perm C f _ _).trans (hsw_perm _ _ _)
theorem downL_perm (C : α → α → Int) : ∀ (f : Nat) (xs : List α) (i m : Nat), (downL C f xs i m).Perm xs
  | 0, _, _, _ => List.Perm.refl _
  | f + 1, xs, i, m => by
    rw [downL]
    split
    · exact List.Perm.refl _
    · exact (downL_perm C f _ _ _).trans (hsw_perm _ _ _)

theorem up_heap {C : α → α → Int} (hs : Swo C) : ∀ (f : Nat) (xs : List α) (j : Nat), j < f → j < xs.length → (∀ i, 0 < i → i < xs.length → i ≠ j → LeO C xs[(i - 1) / 2]? xs[i]?) →
    (∀ i, 0 < i → i < xs.length → (i - 1) / 2 = j → 0 < j → LeO C xs[(j - 1) / 2]? xs[i]?) → Heap C (upL C f xs j) xs.length
  | 0, _, j, h, _, _, _ => by omega
  | f + 1, xs, j, h, hj, h1, h2 => by
    rw [upL]
    split
    · rename_i hc
      intro i i0 i1
      by_cases e : i = j
      · subst e
        rcases hc with hc | hc
        · omega
        · exact hlt_iff hc
      · exact h1 i i0 i1 e
    · rename_i hc
      have hne : ¬ (j - 1) / 2 = j := fun e => hc (.inl e)
      have hlt : ltAt C xs j ((j - 1) / 2) = true := by
        cases hl : ltAt C xs j ((j - 1) / 2) with
        | true => rfl
        | false => exact absurd (.inr hl) hc
      have hle := hlt_true hs hlt
      obtain ⟨p, hp⟩ : ∃ p, (j - 1) / 2 = p := ⟨_, rfl⟩
      rw [hp] at hle hne hlt ⊢
      have hpj : p < j := by omega
      have hpl : p < xs.length := by omega
      have ep : xs[p]? = some xs[p] := List.getElem?_eq_getElem hpl
      have ej : xs[j]? = some xs[j] := List.getElem?_eq_getElem hj
      have hr := up_heap hs f (sw xs p j) p (by omega) (by rw [hsw_len]; exact hpl) (fun i i0 i1 e => by
        rw [hsw_len] at i1
        rw [hsw_get hpl hj, hsw_get hpl hj, if_neg e]
        by_cases e1 : i = j
        · subst e1
          rw [if_pos hp, if_pos rfl]
          exact hle
        · rw [if_neg e1]
          by_cases e2 : (i - 1) / 2 = p
          · rw [if_pos e2]
            exact hs.transO ep hle (by rw [← e2]; exact h1 i i0 i1 e1)
          · rw [if_neg e2]
            by_cases e3 : (i - 1) / 2 = j
            · rw [if_pos e3]
              have := h2 i i0 i1 e3 (by omega)
              rw [hp] at this
              exact this
            · rw [if_neg e3]
              exact h1 i i0 i1 e1) (fun i i0 i1 e p0 => by
        rw [hsw_len] at i1
        have hq : (p - 1) / 2 ≠ p := by omega
        have hq2 : (p - 1) / 2 ≠ j := by omega
        rw [hsw_get hpl hj, hsw_get hpl hj, if_neg hq, if_neg hq2]
        have hgp := h1 p p0 hpl (by omega)
        by_cases e1 : i = j
        · subst e1
          rw [if_neg (by omega), if_pos rfl]
          exact hgp
        · rw [if_neg (by omega), if_neg e1]
          exact hs.transO ep hgp (by rw [← e]; exact h1 i i0 i1 e1))
      rw [hsw_len] at hr
      exact hr

theorem hkid_lt {C : α → α → Int} {xs : List α} {i m : Nat} (h : ¬ m ≤ 2 * i + 1) : i < kid C xs i m ∧ kid C xs i m < m ∧ (kid C xs i m - 1) / 2 = i := by
  unfold kid
  split
  · rename_i h1
    omega
  · omega
theorem hkid_le {C : α → α → Int} (hs : Swo C) {xs : List α} {i m k : Nat} (k0 : 0 < k) (hk : k < m) (e : (k - 1) / 2 = i) : LeO C xs[kid C xs i m]? xs[k]? := by
  have hk2 : k = 2 * i + 1 ∨ k = 2 * i + 2 := by omega
  unfold kid
  split
  · rename_i h1
    rcases hk2 with rfl | rfl
    · exact hlt_true hs h1.2
    · intro a b ha hb
      rw [ha] at hb
      injection hb with hb
      subst hb
      exact hs.refl a
  · rename_i h1
    rcases hk2 with rfl | rfl
    · intro a b ha hb
      rw [ha] at hb
      injection hb with hb
      subst hb
      exact hs.refl a
    · have : ltAt C xs (2 * i + 2) (2 * i + 1) = false := by
        cases hl : ltAt C xs (2 * i + 2) (2 * i + 1) with
        | false => rfl
        | true => exact absurd ⟨hk, hl⟩ h1
      exact hlt_iff this

theorem down_heap {C : α → α → Int} (hs : Swo C) : ∀ (f : Nat) (xs : List α) (i m : Nat), m ≤ xs.length → m < f + i → (∀ k, 0 < k → k < m → (k - 1) / 2 ≠ i → LeO C xs[(k - 1) / 2]? xs[k]?) →
    (∀ k, 0 < k → k < m → (k - 1) / 2 = i → 0 < i → LeO C xs[(i - 1) / 2]? xs[k]?) → Heap C (downL C f xs i m) m
  | 0, xs, i, m, h, hf, h1, h2 => fun k k0 k1 => h1 k k0 k1 (by omega)
  | f + 1, xs, i, m, h, hf, h1, h2 => by
    rw [downL]
    split
    · rename_i hc
      intro k k0 k1
      by_cases e : (k - 1) / 2 = i
      · rcases hc with hc | hc
        · omega
        · have hm : ¬ m ≤ 2 * i + 1 := by omega
          have hk := hkid_lt (C := C) (xs := xs) hm
          have ek : xs[kid C xs i m]? = some (xs[kid C xs i m]'(by omega)) := List.getElem?_eq_getElem (by omega)
          rw [e]
          exact hs.transO ek (hlt_iff hc) (hkid_le hs k0 k1 e)
      · exact h1 k k0 k1 e
    · rename_i hc
      have hm : ¬ m ≤ 2 * i + 1 := fun e => hc (.inl e)
      have hlt : ltAt C xs (kid C xs i m) i = true := by
        cases hl : ltAt C xs (kid C xs i m) i with
        | true => rfl
        | false => exact absurd (.inr hl) hc
      have hle := hlt_true hs hlt
      have hk := hkid_lt (C := C) (xs := xs) hm
      have hkl := fun k k0 hk e => hkid_le hs (xs := xs) (i := i) (m := m) (k := k) k0 hk e
      obtain ⟨j, hj⟩ : ∃ j, kid C xs i m = j := ⟨_, rfl⟩
      rw [hj] at hle hlt hk hkl ⊢
      have hjl : j < xs.length := by omega
      have hil : i < xs.length := by omega
      have ei : xs[i]? = some xs[i] := List.getElem?_eq_getElem hil
      have ej : xs[j]? = some xs[j] := List.getElem?_eq_getElem hjl
      refine down_heap hs f (sw xs i j) j m (by rw [hsw_len]; exact h) (by omega) (fun k k0 k1 e => ?_) (fun k k0 k1 e j0 => ?_)
      · rw [hsw_get hil hjl, hsw_get hil hjl]
        by_cases e1 : (k - 1) / 2 = i
        · rw [if_pos e1]
          rw [if_neg (by omega)]
          by_cases e2 : k = j
          · rw [if_pos e2]
            exact hle
          · rw [if_neg e2]
            exact hkl k k0 k1 e1
        · rw [if_neg e1, if_neg e]
          by_cases e2 : k = i
          · rw [if_pos e2]
            have := h2 j (by omega) (by omega) hk.2.2 (by omega)
            rw [e2]
            exact this
          · rw [if_neg e2]
            rw [if_neg (by omega)]
            exact h1 k k0 k1 e1
      · rw [hsw_get hil hjl, hsw_get hil hjl]
        rw [if_pos hk.2.2]
        rw [if_neg (by omega), if_neg (by omega)]
        have := h1 k k0 k1 (by omega)
        rw [e] at this
        exact this

theorem Heap.root {C : α → α → Int} (hs : Swo C) {xs : List α} (h : Heap C xs xs.length) {a : α} (ha : xs[0]? = some a) : ∀ (i : Nat) (b : α), xs[i]? = some b → Le C a b := by
  intro i
  induction i using Nat.strongRecOn with
  | ind i ih =>
    intro b hb
    by_cases e : i = 0
    · subst e
      rw [ha] at hb
      injection hb with hb
      subst hb
      exact hs.refl a
    · have hi : i < xs.length := (List.getElem?_eq_some_iff.1 hb).1
      have hp : (i - 1) / 2 < xs.length := by omega
      have ep : xs[(i - 1) / 2]? = some xs[(i - 1) / 2] := List.getElem?_eq_getElem hp
      exact hs.trans (ih _ (by omega) _ ep) (h i (by omega) hi _ _ ep hb)
theorem Heap.first {C : α → α → Int} (hs : Swo C) {xs : List α} (h : Heap C xs xs.length) {a : α} (ha : xs[0]? = some a) : ∀ b ∈ xs, Le C a b := by
  intro b hb
  obtain ⟨i, hi⟩ := List.mem_iff_getElem?.1 hb
  exact h.root hs ha i b hi

theorem hdownL_at (C : α → α → Int) : ∀ (f : Nat) (xs : List α) (i m k : Nat), m ≤ k → m ≤ xs.length → (downL C f xs i m)[k]? = xs[k]?
  | 0, _, _, _, _, _, _ => rfl
  | f + 1, xs, i, m, k, h, hl => by
    rw [downL]
    split
    · rfl
    · rename_i hn
      have hk := hkid_lt (C := C) (xs := xs) (i := i) (m := m) (fun h => hn (.inl h))
      rw [hdownL_at C f _ _ m k h (by rw [hsw_len]; exact hl), hsw_get (by omega) (by omega), if_neg (by omega), if_neg (by omega)]

theorem pop_perm {C : α → α → Int} {xs : List α} {n : Nat} {a : α} (hn : xs.length = n + 1) (ha : xs[0]? = some a) : (a :: popL C xs n).Perm xs := by
  have h1 : (downL C (n + 1) (sw xs 0 n) 0 n).Perm xs := (downL_perm _ _ _ _ _).trans (hsw_perm _ _ _)
  have hl : (downL C (n + 1) (sw xs 0 n) 0 n).length = n + 1 := h1.length_eq.trans hn
  have hlast : (downL C (n + 1) (sw xs 0 n) 0 n)[n]? = some a := by
    rw [hdownL_at C _ _ _ _ _ (Nat.le_refl _) (by rw [hsw_len]; omega), hsw_get (by omega) (by omega)]
    by_cases e : n = 0
    · subst e
      rw [if_pos rfl]
      exact ha
    · rw [if_neg e, if_pos rfl]
      exact ha
  have h2 : downL C (n + 1) (sw xs 0 n) 0 n = popL C xs n ++ [a] := by
    unfold popL
    rw [← List.take_append_drop n (downL C (n + 1) (sw xs 0 n) 0 n)]
    congr 1
    · rw [List.take_append_drop]
    · obtain ⟨h3, h4⟩ := List.getElem?_eq_some_iff.1 hlast
      rw [List.drop_eq_getElem_cons h3, h4, List.drop_eq_nil_of_le (by omega)]
  rw [h2] at h1
  exact List.Perm.trans (List.perm_append_comm (l₁ := [a])) h1
theorem pop_heap {C : α → α → Int} (hs : Swo C) {xs : List α} {n : Nat} (hn : xs.length = n + 1) (h : Heap C xs xs.length) : Heap C (popL C xs n) n := by
  have hd := down_heap hs (n + 1) (sw xs 0 n) 0 n (by rw [hsw_len]; omega) (by omega) (fun k k0 k1 e => by
    rw [hsw_get (by omega) (by omega), hsw_get (by omega) (by omega), if_neg e, if_neg (by omega), if_neg (by omega), if_neg (by omega)]
    exact h k k0 (by omega)) (fun k k0 k1 e i0 => by omega)
  intro i i0 i1
  have := hd i i0 i1
  unfold popL
  rw [List.getElem?_take_of_lt (by omega), List.getElem?_take_of_lt i1]
  exact this
theorem push_heap {C : α → α → Int} (hs : Swo C) {xs : List α} {n : Nat} {e : α} (hn : xs.length = n) (h : Heap C xs n) : Heap C (upL C (n + 1) (xs ++ [e]) n) (n + 1) := by
  have hl : (xs ++ [e]).length = n + 1 := by simp [hn]
  have := up_heap hs (n + 1) (xs ++ [e]) n (by omega) (by omega) (fun i i0 i1 e1 => by
    rw [List.getElem?_append_left (by omega), List.getElem?_append_left (by omega)]
    exact h i i0 (by omega)) (fun i i0 i1 e1 _ => by omega)
  rwa [hl] at this

/-- what is due, and what is left -/
def dueG (at_ : α → Int) (C : α → α → Int) : Nat → List α → Int → List α → List α × List α
  | 0, xs, _, out => (out, xs)
  | f + 1, xs, bef, out => match xs[0]? with
    | none => (out, xs)
    | some a => if at_ a < bef then dueG at_ C f (popL C xs (xs.length - 1)) bef (out ++ [a]) else (out, xs)
theorem popL_length {C : α → α → Int} {xs : List α} {n : Nat} (h : xs.length = n + 1) : (popL C xs n).length = n := by
  unfold popL
  rw [List.length_take, (downL_perm _ _ _ _ _).length_eq, hsw_len, h]
  omega
theorem due_law {at_ : α → Int} {C : α → α → Int} (hs : Swo C) (hat : ∀ a b, Le C a b → at_ a ≤ at_ b) (bef : Int) : ∀ (f : Nat) (xs out : List α), xs.length < f → Heap C xs xs.length →
    ∃ mid, (dueG at_ C f xs bef out).1 = out ++ mid ∧ (mid ++ (dueG at_ C f xs bef out).2).Perm xs ∧ mid.Pairwise (Le C) ∧ (∀ a ∈ mid, at_ a < bef) ∧ (∀ b ∈ (dueG at_ C f xs bef out).2, bef ≤ at_ b) ∧
      Heap C (dueG at_ C f xs bef out).2 (dueG at_ C f xs bef out).2.length
  | 0, xs, out, h, _ => by omega
  | f + 1, xs, out, h, hh => by
    rw [dueG]
    cases hx : xs[0]? with
    | none =>
      have : xs = [] := by
        cases xs with
        | nil => rfl
        | cons a l => simp at hx
      subst this
      exact ⟨[], by simp, by simp, List.Pairwise.nil, by simp, by simp, hh⟩
    | some a =>
      simp only
      have hn : xs.length = (xs.length - 1) + 1 := by
        have := (List.getElem?_eq_some_iff.1 hx).1
        omega
      split
      · rename_i hlt
        have hp := pop_perm (C := C) hn hx
        have hfst := hh.first hs hx
        obtain ⟨mid, h1, h2, h3, h4, h5, h6⟩ := due_law hs hat bef f (popL C xs (xs.length - 1)) (out ++ [a]) (by rw [popL_length hn]; omega) (by rw [popL_length hn]; exact pop_heap hs hn hh)
        refine ⟨a :: mid, by rw [h1]; simp, ?_, ?_, ?_, h5, h6⟩
        · exact ((List.Perm.cons a h2).trans hp)
        · refine List.Pairwise.cons (fun b hb => hfst b ?_) h3
          exact hp.mem_iff.1 (List.mem_cons_of_mem _ (h2.mem_iff.1 (List.mem_append_left _ hb)))
        · intro b hb
          rcases List.mem_cons.1 hb with rfl | hb
          · exact hlt
          · exact h4 b hb
      · rename_i hlt
        refine ⟨[], by simp, by simp, List.Pairwise.nil, by simp, ?_, hh⟩
        intro b hb
        have := hat a b (hh.first hs hx b hb)
        omega
end Go.Proofs.YtebacmmfjadalaaGreat
