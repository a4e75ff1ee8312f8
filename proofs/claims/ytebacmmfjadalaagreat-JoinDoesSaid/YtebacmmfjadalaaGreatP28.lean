/- V3 in one text. -/
import Derived.Test.YtebacmmfjadalaaGreatP27
import Derived.Test.YtebacmmfjadalaaGreatP24

namespace Go.Proofs.YtebacmmfjadalaaGreat
open Go Go.RowKit

/-- what both know of a sensor -/
structure RS (s : Sn) (t : OS) : Prop where
  last : t.last = s.last
  any : t.any = s.some
  top : s.some = true → t.top = s.most
  bd : 0 ≤ t.top ∧ t.top ≤ 4294967295
  emp : s.some = false → t.ts = []
  has : ∀ q, 0 ≤ q → q ≤ 4294967295 → hasO t.any t.top t.ts q = known s q
theorem RS.old {s : Sn} {t : OS} (h : RS s t) {q : Int} : oldO t.any t.top q = tooOld s q := by
  unfold oldO tooOld below'
  rw [h.any]
  cases hs : s.some with
  | false => rfl
  | true =>
    rw [h.top hs, Bool.eq_iff_iff]
    simp only [Bool.and_eq_true, decide_eq_true_eq, Bool.true_and]
    omega
theorem hasO_iff {any : Bool} {top : Int} {ts : List Int} {q : Int} : hasO any top ts q = true ↔ any = true ∧ ¬ q + 64 ≤ top ∧ q ∈ ts := by
  unfold hasO
  simp only [Bool.and_eq_true, Bool.not_eq_true', decide_eq_false_iff_not, decide_eq_true_eq, and_assoc]
theorem tkL_known' (s : Sn) (q c p : Int) : known (tkL s q c) p = known (tk s q) p := rfl
def topO (t : OS) (q : Int) : Int := if t.any = false ∨ t.top < q then q else t.top
theorem rs_take {s : Sn} {t : OS} {q cnt : Int} {v' : Value} (h : RS s t) (hok : SnOk s) (q0 : 0 ≤ q) (q1 : q ≤ 4294967295) (hn : s.some = true → q ≤ s.most → s.most - q < 64) :
    RS (tkL s q cnt) ⟨max t.last cnt, topO t q, true, v', t.ts ++ [q]⟩ := by
  have hmost : (tk s q).most = topO t q ∧ (tk s q).some = true := by
    unfold tk topO
    rw [h.any]
    by_cases c : s.some = true ∧ q ≤ s.most
    · rw [if_pos c, if_neg (by
        have := h.top c.1
        rintro (e | e)
        · rw [c.1] at e; cases e
        · omega)]
      exact ⟨(h.top c.1).symm, c.1⟩
    · rw [if_neg c]
      refine ⟨?_, rfl⟩
      show q = _
      split
      · rfl
      · rename_i e
        have hs : s.some = true := by
          cases hs : s.some with
          | true => rfl
          | false => exact absurd (.inl hs) e
        have h1 := h.top hs
        have h2 : ¬ t.top < q := fun e' => e (.inr e')
        exact absurd ⟨hs, by omega⟩ c
  have htop : s.some = true → s.most ≤ topO t q := fun hs => by
    unfold topO
    rw [h.any, hs, h.top hs]
    split
    · rename_i e; rcases e with e | e; cases e; omega
    · omega
  have hq : q ≤ topO t q := by
    unfold topO
    split
    · omega
    · rename_i e
      have : ¬ t.top < q := fun e' => e (.inr e')
      omega
  refine ⟨?_, ?_, fun _ => ?_, ?_, fun e => ?_, fun p p0 p1 => ?_⟩
  · show max t.last cnt = max s.last cnt
    rw [h.last]
  · exact hmost.2.symm
  · exact hmost.1.symm
  · show 0 ≤ topO t q ∧ topO t q ≤ 4294967295
    unfold topO
    have := h.bd
    split <;> omega
  · have h2 : (tk s q).some = false := e
    rw [hmost.2] at h2
    cases h2
  · rw [tkL_known', Bool.eq_iff_iff, hasO_iff, tk_known hok q0 q1 hn, hmost.1]
    simp only [List.mem_append, List.mem_singleton]
    constructor
    · rintro ⟨-, h1, h2⟩
      refine ⟨?_, by omega⟩
      rcases h2 with h2 | h2
      · right
        cases hs : s.some with
        | false => rw [h.emp hs] at h2; simp at h2
        | true =>
          rw [← h.has p p0 p1, hasO_iff]
          refine ⟨by rw [h.any, hs], ?_, h2⟩
          have := htop hs
          have := h.top hs
          omega
      · exact .inl h2
    · rintro ⟨h1, h2⟩
      refine ⟨trivial, by omega, ?_⟩
      rcases h1 with h1 | h1
      · exact .inr h1
      · rw [← h.has p p0 p1, hasO_iff] at h1
        exact .inl h1.2.2

/-- the program's joiner and the reference's -/
structure RO (cs : List (Int × Int × Int)) (j : Jn) (sns : List Sn) (xs : List El) (o : OJ) (oss : List OS) (ys : List El) : Prop where
  any : o.any = j.some
  top : j.some = true → o.top = j.top
  bound : j.some = true → o.bound = j.hor
  win : o.win = j.win
  ct : o.ct = j.ct
  cd : o.cd = j.cd
  co : o.co = j.co
  cl : o.cl2 = j.cl
  ks : o.cs = j.cs
  len : sns.length = cs.length
  olen : oss.length = cs.length
  clk : ∀ (i : Nat) (s : Sn), sns[i]? = some s → (s.o, s.n, s.d) = cs.getD i (0, 0, 0)
  sn : ∀ (i : Nat) (s : Sn) (t : OS), sns[i]? = some s → oss[i]? = some t → RS s t
  keys : (ys.map El.key).Perm (xs.map El.key)
  srt : ys.Pairwise (Le cmpK)
  few : ∀ t ∈ oss, (t.ts.length : Int) ≤ o.ct
theorem RO.at {cs : List (Int × Int × Int)} {j : Jn} {sns : List Sn} {xs ys : List El} {o : OJ} {oss : List OS} (h : RO cs j sns xs o oss ys) {i : Nat} {s : Sn} (hs : sns[i]? = some s) : ∃ t, oss[i]? = some t ∧ RS s t := by
  have hl : i < oss.length := by have := (List.getElem?_eq_some_iff.1 hs).1; have := h.len; have := h.olen; omega
  exact ⟨oss[i], List.getElem?_eq_getElem hl, h.sn i s _ hs (List.getElem?_eq_getElem hl)⟩
/-- the reference's joiner whose reading is only counted -/
def cntO (o : OJ) (k : Int) : OJ := if k = 2 then { o with cd := o.cd + 1 } else if k = 3 then { o with co := o.co + 1 } else { o with cl2 := o.cl2 + 1 }
theorem RO.counted {cs : List (Int × Int × Int)} {j : Jn} {sns : List Sn} {xs ys : List El} {o : OJ} {oss : List OS} (h : RO cs j sns xs o oss ys) (k : Int) : RO cs (cntJ j k) sns xs (cntO o k) oss ys := by
  unfold cntJ cntO
  split
  · exact ⟨h.any, h.top, h.bound, h.win, h.ct, by show o.cd + 1 = j.cd + 1; rw [h.cd], h.co, h.cl, h.ks, h.len, h.olen, h.clk, h.sn, h.keys, h.srt, h.few⟩
  · split
    · exact ⟨h.any, h.top, h.bound, h.win, h.ct, h.cd, by show o.co + 1 = j.co + 1; rw [h.co], h.cl, h.ks, h.len, h.olen, h.clk, h.sn, h.keys, h.srt, h.few⟩
    · exact ⟨h.any, h.top, h.bound, h.win, h.ct, h.cd, h.co, by show o.cl2 + 1 = j.cl + 1; rw [h.cl], h.ks, h.len, h.olen, h.clk, h.sn, h.keys, h.srt, h.few⟩

/-- those due, of a list in its order -/
theorem due_split {S mid rest : List El} {b : Int} {k : Nat} (hs : S.Pairwise (Le cmpK)) (hm : mid.Pairwise (Le cmpK)) (hp : (S.map El.key).Perm ((mid ++ rest).map El.key)) (m1 : ∀ a ∈ mid, a.at_ < b) (r1 : ∀ a ∈ rest, b ≤ a.at_) (k1 : ∀ a ∈ S.take k, a.at_ < b) (k2 : ∀ a ∈ S.drop k, b ≤ a.at_) :
    (S.take k).map El.key = mid.map El.key ∧ ((S.drop k).map El.key).Perm (rest.map El.key) := by
  have hyes : ∀ (l : List El), (∀ a ∈ l, a.at_ < b) → (l.map El.key).filter (fun x => decide (x.headD 0 < b)) = l.map El.key := fun l hl => by
    refine List.filter_eq_self.2 (fun x hx => ?_)
    obtain ⟨a, ha, rfl⟩ := List.mem_map.1 hx
    have := hl a ha
    simpa [El.key] using this
  have hno : ∀ (l : List El), (∀ a ∈ l, b ≤ a.at_) → (l.map El.key).filter (fun x => decide (x.headD 0 < b)) = [] := fun l hl => by
    refine List.filter_eq_nil_iff.2 (fun x hx => ?_)
    obtain ⟨a, ha, rfl⟩ := List.mem_map.1 hx
    have := hl a ha
    simpa [El.key] using this
  have hyes' : ∀ (l : List El), (∀ a ∈ l, a.at_ < b) → (l.map El.key).filter (fun x => !decide (x.headD 0 < b)) = [] := fun l hl => by
    refine List.filter_eq_nil_iff.2 (fun x hx => ?_)
    obtain ⟨a, ha, rfl⟩ := List.mem_map.1 hx
    have := hl a ha
    simpa [El.key] using this
  have hno' : ∀ (l : List El), (∀ a ∈ l, b ≤ a.at_) → (l.map El.key).filter (fun x => !decide (x.headD 0 < b)) = l.map El.key := fun l hl => by
    refine List.filter_eq_self.2 (fun x hx => ?_)
    obtain ⟨a, ha, rfl⟩ := List.mem_map.1 hx
    have := hl a ha
    simpa [El.key] using this
  have hS : S.map El.key = (S.take k).map El.key ++ (S.drop k).map El.key := by rw [← List.map_append, List.take_append_drop]
  have h1 := hp.filter (fun x => decide (x.headD 0 < b))
  have h2 := hp.filter (fun x => !decide (x.headD 0 < b))
  rw [hS, List.map_append, List.filter_append, List.filter_append, hyes _ k1, hno _ k2, hyes _ m1, hno _ r1, List.append_nil, List.append_nil] at h1
  rw [hS, List.map_append, List.filter_append, List.filter_append, hyes' _ k1, hno' _ k2, hyes' _ m1, hno' _ r1, List.nil_append, List.nil_append] at h2
  exact ⟨keys_unique (hs.sublist (List.take_sublist k S)) hm h1, h2⟩
/-- behind a reading that was taken -/
theorem ro_take {cs : List (Int × Int × Int)} {j : Jn} {sns : List Sn} {xs ys told : List El} {o : OJ} {oss : List OS} {se : Nat} {s : Sn} {u : OS} {q cnt t : Int} {e0 f0 : El} {v' w' tv' : Value} {S : List El} {k : Nat} (h : RO cs j sns xs o oss ys) (hjp : JP j sns xs told) (hs : sns[se]? = some s) (hu : oss[se]? = some u)
    (q0 : 0 ≤ q) (q1 : q ≤ 4294967295) (hn : s.some = true → q ≤ s.most → s.most - q < 64) (hk : f0.key = e0.key) (hS : S = sinkL cmpK (ys.length + 1) (ys ++ [f0]) ys.length) (hkl : k ≤ S.length) (k1 : ∀ a ∈ S.take k, a.at_ < riseH j t) (k2 : ∀ a ∈ S.drop k, riseH j t ≤ a.at_) :
    (S.take k).map El.key = (tkT j xs t e0).1.map El.key ∧ RO cs { riseJ j t with ct := j.ct + 1, wait := v', cs := j.cs + (tkT j xs t e0).1.length } (sns.set se (tkL s q cnt)) (tkT j xs t e0).2
      { o with any := true, top := riseT j t, bound := riseH j t, ct := o.ct + 1, wait := w', cs := o.cs + k } (oss.set se ⟨max u.last cnt, topO u q, true, tv', u.ts ++ [q]⟩) (S.drop k) := by
  have hheap : Heap cmpK (upL cmpK (xs.length + 1) (xs ++ [e0]) xs.length) (upL cmpK (xs.length + 1) (xs ++ [e0]) xs.length).length := by
    have := push_heap cmpK_swo (e := e0) rfl hjp.heap
    rw [(upL_perm _ _ _ _).length_eq, List.length_append]
    exact this
  obtain ⟨mid, rest, d1, d2, d3, d4, d5, d6⟩ := due_is hheap (riseH j t) (f := xs.length + 2) (by rw [(upL_perm _ _ _ _).length_eq, List.length_append]; simp)
  have hT : tkT j xs t e0 = (mid, rest) := d1
  rw [hT]
  simp only
  have hpS : (S.map El.key).Perm ((mid ++ rest).map El.key) := by
    rw [hS]
    refine ((sink_perm cmpK _ _ _).map El.key).trans ?_
    refine List.Perm.trans ?_ ((d2.trans (upL_perm _ _ _ _)).map El.key).symm
    rw [List.map_append, List.map_append, List.map_cons, List.map_cons, hk]
    exact h.keys.append_right _
  have hsS : S.Pairwise (Le cmpK) := by rw [hS]; exact sink_srt rfl h.srt
  obtain ⟨g1, g2⟩ := due_split hsS d3 hpS d4 d5 k1 k2
  have hlen : mid.length = k := by
    have := congrArg List.length g1
    simp only [List.length_map, List.length_take] at this
    omega
  refine ⟨g1, ⟨rfl, fun _ => rfl, fun _ => rfl, h.win, by show o.ct + 1 = j.ct + 1; rw [h.ct], h.cd, h.co, h.cl, by show o.cs + (k : Int) = j.cs + (mid.length : Int); rw [h.ks, hlen], by rw [List.length_set]; exact h.len, by rw [List.length_set]; exact h.olen, fun i s3 h3 => ?_, fun i s3 t3 h3 h4 => ?_, g2, hsS.sublist (List.drop_sublist k S), fun t ht => ?_⟩⟩
  · by_cases hi : i = se
    · subst hi
      rw [List.getElem?_set_self (List.getElem?_eq_some_iff.1 hs).1] at h3
      injection h3 with h3
      have hkp : (tkL s q cnt).o = s.o ∧ (tkL s q cnt).n = s.n ∧ (tkL s q cnt).d = s.d := by
        unfold tkL tk
        split <;> exact ⟨rfl, rfl, rfl⟩
      rw [← h3, hkp.1, hkp.2.1, hkp.2.2]
      exact h.clk i s hs
    · rw [List.getElem?_set_ne (fun e => hi e.symm)] at h3
      exact h.clk i s3 h3
  · by_cases hi : i = se
    · subst hi
      rw [List.getElem?_set_self (List.getElem?_eq_some_iff.1 hs).1] at h3
      rw [List.getElem?_set_self (List.getElem?_eq_some_iff.1 hu).1] at h4
      injection h3 with h3
      injection h4 with h4
      subst h3 h4
      exact rs_take (h.sn i s u hs hu) (hjp.ok s (List.mem_of_getElem? hs)) q0 q1 hn
    · rw [List.getElem?_set_ne (fun e => hi e.symm)] at h3 h4
      exact h.sn i s3 t3 h3 h4
  · show (t.ts.length : Int) ≤ o.ct + 1
    rcases List.mem_or_eq_of_mem_set ht with e | e
    · have := h.few t e
      omega
    · have := h.few u (List.mem_of_getElem? hu)
      rw [e]
      simp only [List.length_append, List.length_singleton]
      omega
/-- behind a flush -/
theorem ro_flush {cs : List (Int × Int × Int)} {j : Jn} {sns : List Sn} {xs ys mid : List El} {o : OJ} {oss : List OS} {v' w' : Value} (h : RO cs j sns xs o oss ys) (hh : j.some = true → j.hor ≤ j.top + 1) (hs : j.some = true) (hm : mid.Perm xs) (hms : mid.Pairwise (Le cmpK)) :
    ys.map El.key = mid.map El.key ∧ RO cs { j with hor := j.top + 1, wait := v', cs := j.cs + mid.length } sns [] { o with bound := max o.bound (o.top + 1), wait := w', cs := o.cs + ys.length } oss [] := by
  have hl : ys.length = mid.length := by
    have h1 := h.keys.length_eq
    have h2 := hm.length_eq
    simp only [List.length_map] at h1
    omega
  refine ⟨keys_unique h.srt hms (h.keys.trans (hm.map _).symm), h.any, h.top, fun _ => ?_, h.win, h.ct, h.cd, h.co, h.cl, by show o.cs + (ys.length : Int) = j.cs + (mid.length : Int); rw [h.ks, hl], h.len, h.olen, h.clk, h.sn, List.Perm.refl _, List.Pairwise.nil, h.few⟩
  show max o.bound (o.top + 1) = j.top + 1
  rw [h.bound hs, h.top hs]
  have := hh hs
  omega
end Go.Proofs.YtebacmmfjadalaaGreat
