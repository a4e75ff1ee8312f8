/- T11 in one text. -/
import Derived.Test.YtebacmmfjadalaaGreatP31
import Derived.Test.YtebacmmfjadalaaGreatP32
import Derived.Test.YtebacmmfjadalaaGreatP24

namespace Go.Proofs.YtebacmmfjadalaaGreat
open Go Go.RowKit

theorem unw_small {l s : Int} (l0 : 0 ≤ l) (l1 : l < 2147483648) (s0 : 0 ≤ s) (s1 : s < 2147483648) : Ck.unwV l s = s ∧ Ck.unwE l s = 0 := by
  have hu : Ck.unw l s = s := by unfold Ck.unw; split <;> omega
  have hk : Ck.unwOk l s = true := by
    rw [Ck.unwOk_iff, hu]
    unfold Ck.inT
    exact ⟨decide_eq_true (by omega), decide_eq_true (by omega)⟩
  unfold Ck.unwV Ck.unwE
  rw [if_pos hk, if_pos hk]
  exact ⟨hu, rfl⟩
/-- the clock of a reading -/
def clkOf (cs : List (Int × Int × Int)) (r : In) : Int × Int × Int := cs.getD r.se.toNat (0, 0, 0)
/-- the key of a reading by its clock -/
def rkey (cs : List (Int × Int × Int)) (r : In) : List Int := Ck.timeV (clkOf cs r).1 (clkOf cs r).2.1 (clkOf cs r).2.2 r.st :: r.se :: r.sq :: r.st :: (r.n : Int) :: (r.us.map Int.toNat).map keyN
/-- a reading that may be, of a sensor that is, with a small stamp and a time -/
structure Good (cs : List (Int × Int × Int)) (r : In) : Prop where
  chk : chkE r.se r.n (r.us.map Int.toNat) = 0
  lt : r.se < cs.length
  st1 : r.st < 2147483648
  time : Ck.timeE (clkOf cs r).1 (clkOf cs r).2.1 (clkOf cs r).2.2 r.st = 0
/-- what is known of the sensors by the readings that were handed in -/
structure SI (cs : List (Int × Int × Int)) (sns : List Sn) (done : List In) : Prop where
  len : sns.length = cs.length
  clk : ∀ (i : Nat) (s : Sn), sns[i]? = some s → (s.o, s.n, s.d) = cs.getD i (0, 0, 0)
  l0 : ∀ s ∈ sns, 0 ≤ s.last ∧ s.last < 2147483648
  kn : ∀ (i : Nat) (s : Sn) (p : Int), sns[i]? = some s → known s p = true → ∃ r ∈ done, r.se = (i : Int) ∧ r.sq = p
theorem SI.start (cs : List (Int × Int × Int)) : SI cs (cs.map sn0) [] := by
  refine ⟨List.length_map _, fun i s h => ?_, fun s h => ?_, fun i s p h hk => ?_⟩
  · rw [List.getElem?_map] at h
    rw [List.getD_eq_getElem?_getD]
    cases hc : cs[i]? with
    | none => rw [hc] at h; cases h
    | some c => rw [hc] at h; simp only [Option.map_some, Option.some.injEq] at h; rw [← h]; rfl
  · obtain ⟨c, -, rfl⟩ := List.mem_map.1 h
    simp [sn0]
  · rw [List.getElem?_map] at h
    cases hc : cs[i]? with
    | none => rw [hc] at h; cases h
    | some c =>
      rw [hc] at h
      simp only [Option.map_some, Option.some.injEq] at h
      rw [← h] at hk
      simp [known, below', sn0] at hk
theorem tkT_perm {j : Jn} {sns : List Sn} {xs told : List El} (h : JP j sns xs told) (t : Int) (e0 : El) : ((tkT j xs t e0).1 ++ (tkT j xs t e0).2).Perm (xs ++ [e0]) := by
  have hheap : Heap cmpK (upL cmpK (xs.length + 1) (xs ++ [e0]) xs.length) (upL cmpK (xs.length + 1) (xs ++ [e0]) xs.length).length := by
    have := push_heap cmpK_swo (e := e0) rfl h.heap
    rw [(upL_perm _ _ _ _).length_eq, List.length_append]
    exact this
  obtain ⟨mid, rest, d1, d2, -⟩ := due_is hheap (riseH j t) (f := xs.length + 2) (by rw [(upL_perm _ _ _ _).length_eq, List.length_append]; simp)
  have hT : tkT j xs t e0 = (mid, rest) := d1
  rw [hT]
  exact d2.trans (upL_perm _ _ _ _)
theorem tkL_known (s : Sn) (q c p : Int) : known (tkL s q c) p = known (tk s q) p := rfl
/-- such a reading has no error, is not doubled -/
theorem push_good {cs : List (Int × Int × Int)} {j j' : Jn} {sns sns' : List Sn} {xs xs' told mid : List El} {done : List In} {r : In} {kind er : Int} (hsi : SI cs sns done) (hg : Good cs r) (hw : (0 ≤ r.sq ∧ r.sq ≤ 4294967295) ∧ 0 ≤ r.st ∧ r.st ≤ 4294967295) (hd : ∀ d ∈ done, ¬ (d.se = r.se ∧ d.sq = r.sq)) (hjp : JP j sns xs told)
    (h : PushHow j sns xs r.se r.sq r.st r.n (r.us.map Int.toNat) kind er j' sns' xs' mid) : er = 0 ∧ kind ≠ 2 ∧ SI cs sns' (done ++ [r]) ∧ (kind = 1 → ((mid ++ xs').map El.key).Perm (xs.map El.key ++ [rkey cs r])) := by
  obtain ⟨se0, se1, -⟩ := chkE_zero hg.chk
  have hlt : r.se.toNat < sns.length := by have := hsi.len; have := hg.lt; omega
  obtain ⟨s, hs⟩ : ∃ s, sns[r.se.toNat]? = some s := ⟨_, List.getElem?_eq_getElem hlt⟩
  have hl := hsi.l0 s (List.mem_of_getElem? hs)
  obtain ⟨u1, u2⟩ := unw_small hl.1 hl.2 hw.2.1 hg.st1
  have hc := hsi.clk _ s hs
  have hc1 : s.o = (clkOf cs r).1 ∧ s.n = (clkOf cs r).2.1 ∧ s.d = (clkOf cs r).2.2 := by
    unfold clkOf
    rw [← hc]
    exact ⟨rfl, rfl, rfl⟩
  have hE : pushE sns r.se r.st r.n (r.us.map Int.toNat) = 0 := by
    unfold pushE
    rw [if_neg (by rw [hg.chk]; simp), hs]
    simp only
    rw [if_neg (by rw [u2]; simp), u1, hc1.1, hc1.2.1, hc1.2.2]
    exact hg.time
  have hkn : known s r.sq = false := by
    cases hk : known s r.sq with
    | false => rfl
    | true =>
      obtain ⟨d, d1, d2, d3⟩ := hsi.kn _ s _ hs hk
      exact absurd ⟨by omega, d3⟩ (hd d d1)
  have hmore : SI cs sns (done ++ [r]) := ⟨hsi.len, hsi.clk, hsi.l0, fun i s p h1 h2 => by
    obtain ⟨d, d1, d2⟩ := hsi.kn i s p h1 h2
    exact ⟨d, List.mem_append_left _ d1, d2⟩⟩
  cases h with
  | bad hq => exact absurd hE hq
  | cnt s2 hs2 _ hk hk1 e2 e3 e4 e5 e6 =>
    rw [hs] at hs2
    injection hs2 with hs2
    subst hs2
    refine ⟨e2, ?_, by rw [e4]; exact hmore, fun q => absurd q hk1⟩
    rw [hk]
    unfold pushK
    rw [hkn, if_neg (by simp)]
    split
    · decide
    · split <;> decide
  | took s2 e0 v' dn hs2 hse _ hk e1 e2 hkey hdn hno hlate e3 e4 e5 e6 =>
    rw [hs] at hs2
    injection hs2 with hs2
    subst hs2
    refine ⟨e2, by rw [e1]; decide, ?_, fun _ => ?_⟩
    · have hok := hjp.ok s (List.mem_of_getElem? hs)
      have hn : s.some = true → r.sq ≤ s.most → s.most - r.sq < 64 := fun a1 a2 => by
        rcases hno with hb | ⟨b1, b2, -⟩
        · unfold below' at hb
          rw [a1, decide_eq_true a2] at hb
          cases hb
        · omega
      have hkp : (tkL s r.sq (Ck.unwV s.last r.st)).o = s.o ∧ (tkL s r.sq (Ck.unwV s.last r.st)).n = s.n ∧ (tkL s r.sq (Ck.unwV s.last r.st)).d = s.d := by
        unfold tkL tk
        split <;> exact ⟨rfl, rfl, rfl⟩
      rw [e4]
      refine ⟨by rw [List.length_set]; exact hsi.len, fun i s3 h3 => ?_, fun s3 h3 => ?_, fun i s3 p h3 h4 => ?_⟩
      · by_cases hi : i = r.se.toNat
        · subst hi
          rw [List.getElem?_set_self hlt] at h3
          injection h3 with h3
          rw [← h3, hkp.1, hkp.2.1, hkp.2.2]
          exact hc
        · rw [List.getElem?_set_ne (fun q => hi q.symm)] at h3
          exact hsi.clk i s3 h3
      · rcases List.mem_or_eq_of_mem_set h3 with q | q
        · exact hsi.l0 s3 q
        · rw [q]
          show 0 ≤ max s.last (Ck.unwV s.last r.st) ∧ max s.last (Ck.unwV s.last r.st) < 2147483648
          rw [u1]
          have := hg.st1
          omega
      · by_cases hi : i = r.se.toNat
        · subst hi
          rw [List.getElem?_set_self hlt] at h3
          injection h3 with h3
          rw [← h3, tkL_known, tk_known hok hw.1.1 hw.1.2 hn] at h4
          rcases h4.1 with q | q
          · exact ⟨r, List.mem_append_right _ (List.mem_singleton.2 rfl), by omega, q.symm⟩
          · obtain ⟨d, d1, d2⟩ := hsi.kn _ s _ hs q
            exact ⟨d, List.mem_append_left _ d1, d2⟩
        · rw [List.getElem?_set_ne (fun q => hi q.symm)] at h3
          obtain ⟨d, d1, d2⟩ := hsi.kn i s3 p h3 h4
          exact ⟨d, List.mem_append_left _ d1, d2⟩
    · have hp := (tkT_perm hjp (Ck.timeV s.o s.n s.d (Ck.unwV s.last r.st)) e0).map El.key
      rw [e5, e6]
      refine hp.trans ?_
      rw [List.map_append, List.map_cons, List.map_nil, hkey, u1, hc1.1, hc1.2.1, hc1.2.2]
      exact List.Perm.refl _
end Go.Proofs.YtebacmmfjadalaaGreat
