/- T2 in one text. -/
import Derived.Test.YtebacmmfjadalaaGreatP18

namespace Go.Proofs.YtebacmmfjadalaaGreat
open Go Go.RowKit

theorem dueL_is (C : El → El → Int) : ∀ (f : Nat) (xs : List El) (bef : Int) (out : List El), dueL C f xs bef out = dueG El.at_ C f xs bef out
  | 0, _, _, _ => rfl
  | f + 1, xs, bef, out => by
    rw [dueL, dueG]
    cases xs[0]? with
    | none => rfl
    | some a =>
      simp only
      split
      · exact dueL_is C f _ _ _
      · rfl
/-- what is due, and what is left, of a heap -/
theorem due_is {xs : List El} (h : Heap cmpK xs xs.length) (bef : Int) {f : Nat} (hf : xs.length < f) : ∃ mid rest, dueL cmpK f xs bef [] = (mid, rest) ∧ (mid ++ rest).Perm xs ∧ mid.Pairwise (Le cmpK) ∧ (∀ a ∈ mid, a.at_ < bef) ∧ (∀ b ∈ rest, bef ≤ b.at_) ∧ Heap cmpK rest rest.length := by
  obtain ⟨mid, h1, h2, h3, h4, h5, h6⟩ := due_law (at_ := El.at_) cmpK_swo (fun a b hab => cmpK_at hab) bef f xs [] hf h
  refine ⟨mid, (dueL cmpK f xs bef []).2, ?_, ?_, h3, h4, ?_, ?_⟩
  · rw [List.nil_append] at h1
    rw [← dueL_is] at h1
    rw [← h1]
  · rw [dueL_is]; exact h2
  · rw [dueL_is]; exact h5
  · rw [dueL_is]; exact h6

/-- a joiner's numbers may be -/
structure JNum (j : Jn) : Prop where
  c0 : 0 ≤ j.ct
  k0 : 0 ≤ j.cs
  d0 : 0 ≤ j.cd
  o0 : 0 ≤ j.co
  l0 : 0 ≤ j.cl
  t0 : -1125899906842624 ≤ j.top
  t1 : j.top ≤ 1125899906842624
  w0 : 0 ≤ j.win
  w1 : j.win ≤ 1125899906842624
/-- what is so of a joiner, all that it told, and all that waits -/
structure JP (j : Jn) (sns : List Sn) (xs told : List El) : Prop where
  ok : ∀ s ∈ sns, SnOk s
  heap : Heap cmpK xs xs.length
  know : ∀ e ∈ told ++ xs, ∃ (i : Nat) (s : Sn), e.se = (i : Int) ∧ sns[i]? = some s ∧ Knows s e.sq
  dist : (told ++ xs).Pairwise (fun a b => ¬ (a.se = b.se ∧ a.sq = b.sq))
  srt : told.Pairwise (fun a b => a.at_ ≤ b.at_)
  low : ∀ e ∈ told, e.at_ < j.hor
  high : ∀ e ∈ xs, j.hor ≤ e.at_
  top : ∀ e ∈ xs, e.at_ ≤ j.top
  none : j.some = false → xs = [] ∧ told = []
  num : JNum j
  cnt : j.ct = told.length + xs.length
  cs : j.cs = told.length
  srtk : told.Pairwise (Le cmpK)
theorem le_at {a b : El} (h : a.at_ < b.at_) : Le cmpK a b := fun q => by
  unfold cmpK El.key at q
  rw [lexL, if_neg (by omega), if_pos h] at q
  omega

theorem riseT_bd {j : Jn} {t : Int} (hn : JNum j) (h0 : -1125899906842624 ≤ t) (h1 : t ≤ 1125899906842624) : -1125899906842624 ≤ riseT j t ∧ riseT j t ≤ 1125899906842624 := by
  unfold riseT
  have := hn.t0; have := hn.t1
  split <;> omega
theorem riseH_ge {j : Jn} {t : Int} (hs : j.some = true) : j.hor ≤ riseH j t := by
  unfold riseH
  split
  · rename_i h
    rw [hs] at h
    rcases h with h | h
    · cases h
    · omega
  · omega
theorem riseT_ge {j : Jn} {t : Int} : t ≤ riseT j t ∧ (j.some = true → j.top ≤ riseT j t) := by
  unfold riseT
  split
  · rename_i h
    refine ⟨Int.le_refl _, fun hs => ?_⟩
    rw [hs] at h
    rcases h with h | h
    · cases h
    · omega
  · rename_i h
    exact ⟨by omega, fun _ => Int.le_refl _⟩

theorem pair_perm {xs ys zs : List El} {R : El → El → Prop} (hsym : ∀ {x y}, R x y → R y x) (hp : ys.Perm zs) (h : (xs ++ zs).Pairwise R) : (xs ++ ys).Pairwise R :=
  List.Pairwise.perm h (List.Perm.append_left xs hp.symm) hsym
theorem dist_sym {a b : El} (h : ¬ (a.se = b.se ∧ a.sq = b.sq)) : ¬ (b.se = a.se ∧ b.sq = a.sq) := fun ⟨h1, h2⟩ => h ⟨h1.symm, h2.symm⟩

/-- behind a reading that was taken -/
theorem JP.take {j : Jn} {sns : List Sn} {xs told : List El} {e0 : El} {se : Nat} {s : Sn} {sq cnt t : Int} {v' : Value} {dn : Nat} {ks : List Int} (h : JP j sns xs told) (hs : sns[se]? = some s) (hk : e0.key = t :: (se : Int) :: sq :: ks) (q0 : 0 ≤ sq) (q1 : sq ≤ 4294967295)
    (hdn : (s.most - sq) % 4294967296 = (dn : Int)) (hno : below' s sq = false ∨ (dn < 64 ∧ s.most - sq = (dn : Int) ∧ bitAt s dn = false)) (hlate : j.some = false ∨ j.hor ≤ t) (t0 : -1125899906842624 ≤ t) (t1 : t ≤ 1125899906842624) :
    JP { riseJ j t with ct := j.ct + 1, wait := v', cs := j.cs + (tkT j xs t e0).1.length } (sns.set se (tkL s sq cnt)) (tkT j xs t e0).2 (told ++ (tkT j xs t e0).1) := by
  have hk' := hk
  unfold El.key at hk'
  simp only [List.cons.injEq] at hk'
  obtain ⟨ka, kse, ksq, -⟩ := hk'
  have hok := h.ok s (List.mem_of_getElem? hs)
  have hn : s.some = true → sq ≤ s.most → s.most - sq < 64 := fun a1 a2 => by
    rcases hno with hb | ⟨b1, b2, -⟩
    · unfold below' at hb
      rw [a1, decide_eq_true a2] at hb
      cases hb
    · omega
  have hsel : se < sns.length := (List.getElem?_eq_some_iff.1 hs).1
  have hheap : Heap cmpK (upL cmpK (xs.length + 1) (xs ++ [e0]) xs.length) (upL cmpK (xs.length + 1) (xs ++ [e0]) xs.length).length := by
    have := push_heap cmpK_swo (e := e0) rfl h.heap
    rw [(upL_perm _ _ _ _).length_eq, List.length_append]
    exact this
  obtain ⟨mid, rest, d1, d2, d3, d4, d5, d6⟩ := due_is hheap (riseH j t) (f := xs.length + 2) (by rw [(upL_perm _ _ _ _).length_eq, List.length_append]; simp)
  have hT : tkT j xs t e0 = (mid, rest) := d1
  rw [hT]
  simp only
  have hperm : (mid ++ rest).Perm (xs ++ [e0]) := d2.trans (upL_perm _ _ _ _)
  have hall : ∀ e, e ∈ mid ∨ e ∈ rest → e ∈ xs ∨ e = e0 := fun e he => by
    have := hperm.mem_iff.1 (List.mem_append.2 he)
    rcases List.mem_append.1 this with q | q
    · exact .inl q
    · exact .inr (List.mem_singleton.1 q)
  have hgetE : ∀ {i : Nat} {s2 : Sn}, sns[i]? = some s2 → ∃ s3, (sns.set se (tkL s sq cnt))[i]? = some s3 ∧ ∀ p, Knows s2 p → Knows s3 p := by
    intro i s2 hi
    by_cases e : i = se
    · subst e
      rw [hs] at hi
      injection hi with hi
      subst hi
      exact ⟨_, List.getElem?_set_self hsel, fun p hp => tk_keeps hok q0 q1 hn hp⟩
    · exact ⟨s2, by rw [List.getElem?_set_ne (fun q => e q.symm)]; exact hi, fun p hp => hp⟩
  have hnew : ∀ e ∈ told ++ xs, ¬ (e.se = e0.se ∧ e.sq = e0.sq) := by
    rintro e he ⟨r1, r2⟩
    obtain ⟨i, s2, i1, i2, i3⟩ := h.know e he
    rw [kse, i1] at r1
    have : i = se := by omega
    subst this
    rw [hs] at i2
    injection i2 with i2
    subst i2
    rw [r2, ksq] at i3
    exact new_unknown hno i3
  refine ⟨?_, d6, ?_, ?_, ?_, ?_, d5, ?_, ?_, ?_, ?_, ?_, ?_⟩
  · intro s2 hs2
    rcases List.mem_or_eq_of_mem_set hs2 with q | q
    · exact h.ok s2 q
    · subst q
      have := tk_ok hok q0 q1 hn
      exact ⟨this.m0, this.m1, this.t0, this.t1⟩
  · intro e he
    rw [List.append_assoc] at he
    rcases List.mem_append.1 he with q | q
    · obtain ⟨i, s2, i1, i2, i3⟩ := h.know e (List.mem_append_left _ q)
      obtain ⟨s3, j1, j2⟩ := hgetE i2
      exact ⟨i, s3, i1, j1, j2 _ i3⟩
    · rcases List.mem_append.1 (hperm.mem_iff.1 q) with q | q
      · obtain ⟨i, s2, i1, i2, i3⟩ := h.know e (List.mem_append_right _ q)
        obtain ⟨s3, j1, j2⟩ := hgetE i2
        exact ⟨i, s3, i1, j1, j2 _ i3⟩
      · rw [List.mem_singleton.1 q]
        refine ⟨se, _, kse, List.getElem?_set_self hsel, ?_⟩
        rw [ksq]
        exact tk_self hok q0 q1 hn
  · rw [List.append_assoc]
    refine pair_perm dist_sym hperm ?_
    rw [← List.append_assoc]
    refine List.pairwise_append.2 ⟨h.dist, List.pairwise_singleton _ _, fun a ha b hb => ?_⟩
    rw [List.mem_singleton.1 hb]
    exact hnew a ha
  · refine List.pairwise_append.2 ⟨h.srt, d3.imp (fun hab => cmpK_at hab), fun a ha b hb => ?_⟩
    have h1 := h.low a ha
    rcases hall b (.inl hb) with q | q
    · have := h.high b q
      omega
    · rcases hlate with hl | hl
      · rw [(h.none hl).2] at ha; simp at ha
      · rw [q, ka]; omega
  · intro e he
    show e.at_ < riseH j t
    rcases List.mem_append.1 he with q | q
    · have h1 := h.low e q
      cases hsm : j.some with
      | false => rw [(h.none hsm).2] at q; simp at q
      | true => have := riseH_ge (t := t) hsm; omega
    · exact d4 e q
  · intro e he
    show e.at_ ≤ riseT j t
    rcases hall e (.inr he) with q | q
    · cases hsm : j.some with
      | false => rw [(h.none hsm).1] at q; simp at q
      | true => have := h.top e q; have := (riseT_ge (t := t)).2 hsm; omega
    · rw [q, ka]; exact riseT_ge.1
  · intro q; cases q
  · have hb := riseT_bd h.num t0 t1
    have := h.num
    refine ⟨?_, ?_, this.d0, this.o0, this.l0, hb.1, hb.2, this.w0, this.w1⟩
    · show 0 ≤ j.ct + 1
      have := this.c0
      omega
    · show 0 ≤ j.cs + (mid.length : Int)
      have := this.k0
      omega
  · show j.ct + 1 = _
    have h1 := hperm.length_eq
    have h2 := h.cnt
    simp only [List.length_append, List.length_singleton] at h1 ⊢
    omega
  · show j.cs + (mid.length : Int) = _
    have h2 := h.cs
    simp only [List.length_append]
    omega
  · refine List.pairwise_append.2 ⟨h.srtk, d3, fun a ha b hb => le_at ?_⟩
    have h1 := h.low a ha
    rcases hall b (.inl hb) with q | q
    · have := h.high b q
      omega
    · rcases hlate with hl | hl
      · rw [(h.none hl).2] at ha; simp at ha
      · rw [q, ka]; omega

/-- behind a flush -/
theorem JP.flush {j : Jn} {sns : List Sn} {xs told : List El} {v' : Value} (h : JP j sns xs told) (hs : j.some = true) (hh : j.hor ≤ j.top + 1) :
    ∃ mid, dueL cmpK (xs.length + 1) xs (j.top + 1) [] = (mid, []) ∧ mid.Perm xs ∧ mid.Pairwise (Le cmpK) ∧ JP { j with hor := j.top + 1, wait := v', cs := j.cs + mid.length } sns [] (told ++ mid) := by
  obtain ⟨mid, rest, d1, d2, d3, d4, d5, d6⟩ := due_is h.heap (j.top + 1) (f := xs.length + 1) (by omega)
  have hrest : rest = [] := by
    cases rest with
    | nil => rfl
    | cons a l =>
      have h1 := d5 a List.mem_cons_self
      have h2 := h.top a (d2.mem_iff.1 (List.mem_append_right _ List.mem_cons_self))
      omega
  subst hrest
  rw [List.append_nil] at d2
  refine ⟨mid, d1, d2, d3, h.ok, fun i i0 i1 => by simp at i1, ?_, ?_, ?_, ?_, by simp, by simp, (fun q => by rw [hs] at q; cases q), ?_, ?_, ?_, ?_⟩
  · intro e he
    rw [List.append_nil] at he
    refine h.know e ?_
    rcases List.mem_append.1 he with q | q
    · exact List.mem_append_left _ q
    · exact List.mem_append_right _ (d2.mem_iff.1 q)
  · rw [List.append_nil]
    exact pair_perm dist_sym d2 h.dist
  · refine List.pairwise_append.2 ⟨h.srt, d3.imp (fun hab => cmpK_at hab), fun a ha b hb => ?_⟩
    have h1 := h.low a ha
    have h2 := h.high b (d2.mem_iff.1 hb)
    omega
  · intro e he
    show e.at_ < j.top + 1
    rcases List.mem_append.1 he with q | q
    · have h1 := h.low e q
      omega
    · exact d4 e q
  · have := h.num
    refine ⟨this.c0, ?_, this.d0, this.o0, this.l0, this.t0, this.t1, this.w0, this.w1⟩
    show 0 ≤ j.cs + (mid.length : Int)
    have := this.k0
    omega
  · show j.ct = _
    have h1 := d2.length_eq
    have h2 := h.cnt
    simp only [List.length_append, List.length_nil] at h1 ⊢
    omega
  · show j.cs + (mid.length : Int) = _
    have h2 := h.cs
    simp only [List.length_append]
    omega
  · refine List.pairwise_append.2 ⟨h.srtk, d3, fun a ha b hb => le_at ?_⟩
    have h1 := h.low a ha
    have h2 := h.high b (d2.mem_iff.1 hb)
    omega
end Go.Proofs.YtebacmmfjadalaaGreat
