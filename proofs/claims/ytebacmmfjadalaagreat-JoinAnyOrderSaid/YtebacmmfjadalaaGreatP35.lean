/- I6 T10 T11 in one text. -/
import Derived.Test.YtebacmmfjadalaaGreatP31
import Derived.Test.YtebacmmfjadalaaGreatP34
import Derived.Deep.RegionLaw
import Derived.Laws.IdiomCopy
import Derived.Test.YtebacmmfjadalaaGreatP33
import Derived.Test.YtebacmmfjadalaaGreatP30

namespace Go.Proofs.YtebacmmfjadalaaGreat
open Go Go.RowKit Go.WideShapes

theorem size_setC (b : Nat) : ∀ (vs : List Value) (o : Nat) (w : World), (w.setCells b o vs).heap.size = w.heap.size
  | [], _, _ => rfl
  | v :: r, o, w => by rw [World.setCells, size_setC b r]; simp [World.setCell]
theorem Ft.cells (g : Nat) : ∀ (vs : List Value) (o : Nat) (W : World), Ft W (W.setCells g o vs) (fun b => b = g)
  | [], _, W => Ft.of_below (Below.refl _ W) _
  | v :: r, o, W => by
    rw [World.setCells]
    have h1 : Ft W (W.setCell ⟨g, o, none⟩ v) (fun b => b = g) := (Ft.of_below (Below.refl _ W) (fun b => b = g)).set (p := ⟨g, o, none⟩) rfl v
    exact h1.trans (Ft.cells g r (o + 1) _)
structure Lf (W : World) (g cap : Nat) (xs : List In) : Prop where
  lt : g < W.heap.size
  le : xs.length ≤ cap
  cm : cap ≤ 9223372036854775807
  cells : ∀ j u, (flat4 xs)[j]? = some u → W.cell? ⟨g, j, none⟩ = some u
  fz : ∀ j, W.frozen? ⟨g, j, none⟩ = false
theorem Lf.keep {W W' : World} {g cap : Nat} {xs : List In} (h : Lf W g cap xs) (e : W'.heap[g]? = W.heap[g]?) (hs : W.heap.size ≤ W'.heap.size) : Lf W' g cap xs :=
  ⟨Nat.lt_of_lt_of_le h.lt hs, h.le, h.cm, fun j u hu => (World.cell?_of_block e).trans (h.cells j u hu), fun j => (World.frozen?_of_block e).trans (h.fz j)⟩
theorem Row4.lf {B : Nat} {w : World} {A : Option Addr} {n c : Nat} {xs : List In} (h : Row4 B w (.slice A n c) xs) (hx : 0 < xs.length) : ∃ g, A = some ⟨g, 0, none⟩ ∧ B ≤ g ∧ Lf w g c xs := by
  have h0 := h
  rcases h.2 with ⟨h1, h2⟩ | ⟨g, cap, cur, h1, h2, h3, h4, h5, -⟩
  · omega
  · injection h1 with e1 e2 e3
    subst e1 e2 e3
    refine ⟨g, rfl, h2, (Array.getElem?_eq_some_iff.1 h3).1, h4, h5, fun j u hu => ?_, fun j => World.ownsRow.frozenAt h0 j⟩
    have hj : j < xs.length * 4 := by
      have := (List.getElem?_eq_some_iff.1 hu).1
      rwa [flat4_len] at this
    exact (World.ownsRow.cellAt h0 j hj).trans hu
theorem flat4_take : ∀ (xs : List In) (i : Nat), flat4 (xs.take i) = (flat4 xs).take (i * 4)
  | [], i => by simp [flat4]
  | e :: l, 0 => by simp [flat4]
  | e :: l, i + 1 => by
    have := flat4_take l i
    rw [List.take_succ_cons, flat4, flat4, this, show (i + 1) * 4 = e.row4.length + i * 4 by simp [In.row4]; omega, List.take_length_add_append]
theorem Lf.del {W : World} {g cap : Nat} {xs : List In} (h : Lf W g cap xs) {i : Nat} (hi : i < xs.length) : Lf (W.setCells g (0 + i * 4) (flat4 (xs.drop (i + 1)))) g cap (xs.eraseIdx i) := by
  have hl : (flat4 (xs.drop (i + 1))).length = (xs.length - (i + 1)) * 4 := by rw [flat4_len, List.length_drop]
  have hsome : ∀ j, j < xs.length * 4 → (W.cell? ⟨g, j, none⟩).isSome = true := fun j hj => by
    have hj' : j < (flat4 xs).length := by rw [flat4_len]; exact hj
    rw [h.cells j _ (List.getElem?_eq_getElem hj')]
    rfl
  refine ⟨by rw [size_setC]; exact h.lt, ?_, h.cm, fun j u hu => ?_, fun j => (World.frozen?_setCells _ _ _ _ _).trans (h.fz j)⟩
  · rw [List.length_eraseIdx_of_lt hi]; have := h.le; omega
  · rw [List.eraseIdx_eq_take_drop_succ, flat4_app, flat4_take] at hu
    have hlt : ((flat4 xs).take (i * 4)).length = i * 4 := by rw [List.length_take, flat4_len]; omega
    rcases Nat.lt_or_ge j (i * 4) with hj | hj
    · rw [List.getElem?_append_left (by omega), List.getElem?_take_of_lt hj] at hu
      rw [World.cell?_setCells_out _ _ _ _ _ (fun _ _ => .inl (by show j < _; omega))]
      exact h.cells j u hu
    · rw [List.getElem?_append_right (by omega), hlt] at hu
      obtain ⟨hk, hu'⟩ := List.getElem?_eq_some_iff.1 hu
      have := World.cell?_setCells_in g (flat4 (xs.drop (i + 1))) (0 + i * 4) W (fun m hm => hsome _ (by omega)) (j - i * 4) hk
      rw [show 0 + i * 4 + (j - i * 4) = j by omega] at this
      rw [this, ← hu']
theorem Lf.rd {W : World} {g cap : Nat} {xs : List In} (h : Lf W g cap xs) {i : Nat} {e : In} (he : xs[i]? = some e) : ∀ j, j < 4 → W.cell? ⟨g, i * 4 + j, none⟩ = e.row4[j]? := fun j hj => by
  have h1 := flat4_get xs i e he j hj
  have hjl : j < e.row4.length := by simpa [In.row4] using hj
  rw [List.getElem?_eq_getElem hjl] at h1 ⊢
  exact h.cells _ _ h1
/-- what the deletion's append is handed -/
structure DelArgs (W : World) (g cap : Nat) (xs : List In) (i : Nat) (A : Addr) : Prop where
  len : (flat4 (xs.drop (i + 1))).length = (xs.length - (i + 1)) * 4
  cells : ∀ j u, (flat4 (xs.drop (i + 1)))[j]? = some u → W.cell? (A.add j) = some u
  one : ∀ u ∈ flat4 (xs.drop (i + 1)), u.oneCell' = true
  room : i + (xs.length - (i + 1)) ≤ cap
  spare : ∀ j, j < (flat4 (xs.drop (i + 1))).length → (W.cell? ⟨g, 0 + i * 4 + j, none⟩).isSome = true ∧ W.frozen? ⟨g, 0 + i * 4 + j, none⟩ = false
theorem Lf.args {W : World} {g cap : Nat} {xs : List In} (h : Lf W g cap xs) {i : Nat} (hi : i < xs.length) : ∃ A : Addr, (if cap = i + 1 then some (⟨g, 0, none⟩ : Addr) else some ⟨g, (i + 1) * 4, none⟩) = some A ∧ DelArgs W g cap xs i A := by
  have hl : (flat4 (xs.drop (i + 1))).length = (xs.length - (i + 1)) * 4 := by rw [flat4_len, List.length_drop]
  have hsp : ∀ j, j < (flat4 (xs.drop (i + 1))).length → (W.cell? ⟨g, 0 + i * 4 + j, none⟩).isSome = true ∧ W.frozen? ⟨g, 0 + i * 4 + j, none⟩ = false := fun j hj => by
    rw [hl] at hj
    have hj' : 0 + i * 4 + j < (flat4 xs).length := by rw [flat4_len]; omega
    exact ⟨by rw [h.cells _ _ (List.getElem?_eq_getElem hj')]; rfl, h.fz _⟩
  have hroom : i + (xs.length - (i + 1)) ≤ cap := by have := h.le; omega
  by_cases hc : cap = i + 1
  · refine ⟨⟨g, 0, none⟩, by simp [hc], hl, fun j u hu => ?_, flat4_one _, hroom, hsp⟩
    have h0 : (flat4 (xs.drop (i + 1))).length = 0 := by rw [hl]; have := h.le; omega
    rw [List.length_eq_zero_iff.1 h0] at hu
    simp at hu
  · refine ⟨⟨g, (i + 1) * 4, none⟩, by simp [hc], hl, fun j u hu => ?_, flat4_one _, hroom, hsp⟩
    rw [add_plain]
    refine h.cells _ u ?_
    have he : flat4 xs = flat4 (xs.take (i + 1)) ++ flat4 (xs.drop (i + 1)) := by rw [← flat4_app, List.take_append_drop]
    have hlt : (flat4 (xs.take (i + 1))).length = (i + 1) * 4 := by rw [flat4_len, List.length_take]; omega
    rw [he, List.getElem?_append_right (by omega), hlt, show (i + 1) * 4 + j - (i + 1) * 4 = j by omega]
    exact hu
/-- the joiner and what it told stay as they are -/
theorem TR.other {w W W' : World} {x B : Nat} {j : Jn} {sns : List Sn} {xs told : List El} {k : Nat} {tv : Value} {g : Nat} (h : TR w W x B j sns xs told k tv) (hF : Ft W W' (fun b => b = g)) (hg : Out x j xs g) (ht : tv.ownBlock ≠ some g) (hwg : w.heap.size ≤ g) : TR w W' x B j sns xs told k tv :=
  ⟨h.jr.ft hF (fun b hb => by rw [hb]; exact hg), h.row.keep (fun b hb hl => hF.block b hl (fun e => ht (by rw [← e]; exact hb))), h.apart, h.bel.trans (hF.below h.bel.size (fun b hb => by rw [hb]; exact hwg)), h.wx⟩
end Go.Proofs.YtebacmmfjadalaaGreat

namespace Go.Proofs.YtebacmmfjadalaaGreat
open Go Go.RowKit

theorem known_iff {s : Sn} {p : Int} (h : SnOk s) : known s p = true ↔ s.some = true ∧ p ≤ s.most ∧ s.most - p < 64 ∧ s.taken.toNat.testBit (s.most - p).toNat = true := by
  unfold known below' bitAt
  rw [bit_nat h.t0 h.t1]
  simp only [Bool.and_eq_true, decide_eq_true_eq]
  constructor
  · rintro ⟨⟨⟨h1, h2⟩, h3⟩, h4⟩
    exact ⟨h1, h2, by omega, h4⟩
  · rintro ⟨h1, h2, h3, h4⟩
    exact ⟨⟨⟨h1, h2⟩, by omega⟩, h4⟩
/-- what is known behind a number that was noted: that number, and what was known and is not too far below -/
theorem tk_known {s : Sn} {q p : Int} (h : SnOk s) (q0 : 0 ≤ q) (q1 : q ≤ 4294967295) (hn : s.some = true → q ≤ s.most → s.most - q < 64) :
    known (tk s q) p = true ↔ (p = q ∨ known s p = true) ∧ (tk s q).most - p < 64 := by
  have hk := tk_ok h q0 q1 hn
  rw [known_iff hk, known_iff h]
  unfold tk at hk ⊢
  split
  · rename_i hc
    have hd : (s.most - q).toNat < 64 := by have := hn hc.1 hc.2; omega
    simp only
    rw [pow_wrap hd, or_nat h.t0 h.t1 (pow_bd hd).1 (pow_bd hd).2, Int.toNat_natCast, Int.toNat_natCast, Nat.testBit_or, Nat.testBit_two_pow]
    constructor
    · rintro ⟨h1, h2, h3, h4⟩
      refine ⟨?_, h3⟩
      simp only [Bool.or_eq_true, decide_eq_true_eq] at h4
      rcases h4 with h4 | h4
      · exact .inr ⟨h1, h2, h3, h4⟩
      · left; omega
    · rintro ⟨h1 | h1, h3⟩
      · subst h1
        refine ⟨hc.1, hc.2, h3, by simp⟩
      · obtain ⟨g1, g2, g3, g4⟩ := h1
        exact ⟨g1, g2, g3, by rw [g4]; rfl⟩
  · rename_i hc
    simp only
    have hone : ∀ (k : Nat), k ≠ 0 → (1 : Nat).testBit k = false := fun k hk => by
      cases hb : (1 : Nat).testBit k with
      | false => rfl
      | true => exact absurd (Nat.testBit_one_eq_true_iff_self_eq_zero.1 hb) hk
    split
    · rename_i hz
      have e0 : bits .or .u64 0 1 = ((1 : Nat) : Int) := by decide
      rw [e0, Int.toNat_natCast]
      constructor
      · rintro ⟨h1, h2, h3, h4⟩
        refine ⟨.inl ?_, h3⟩
        rcases Nat.eq_zero_or_pos (q - p).toNat with h5 | h5
        · omega
        · rw [hone _ (by omega)] at h4; cases h4
      · rintro ⟨h1 | h1, h3⟩
        · subst h1
          refine ⟨trivial, Int.le_refl _, h3, ?_⟩
          rw [Int.sub_self]
          rfl
        · obtain ⟨g1, g2, g3, g4⟩ := h1
          exfalso
          have hqm : s.most < q := by
            rcases Int.lt_or_le s.most q with h | h
            · exact h
            · exact absurd ⟨g1, h⟩ hc
          rcases hz with hz | hz
          · rw [hz] at g1; cases g1
          · have := h.m0
            omega
    · rename_i hz
      have hz1 : s.some = true := by
        cases hs : s.some with
        | true => rfl
        | false => exact absurd (.inl hs) hz
      have hqm : s.most < q := by
        rcases Int.lt_or_le s.most q with h | h
        · exact h
        · exact absurd ⟨hz1, h⟩ hc
      have hup : q - s.most < 64 := by
        have h1 : ¬ 64 ≤ (q - s.most) % 4294967296 := fun h => hz (.inr h)
        have := h.m0
        omega
      rw [shl_nat h.t0, or_nat (by omega) (by omega) (by omega) (by omega), Int.toNat_natCast, Int.toNat_natCast, Nat.testBit_or, show (1 : Int).toNat = 1 from rfl, Nat.testBit_mod_two_pow, Nat.testBit_mul_two_pow]
      constructor
      · rintro ⟨h1, h2, h3, h4⟩
        refine ⟨?_, h3⟩
        rcases Nat.eq_zero_or_pos (q - p).toNat with h5 | h5
        · left; omega
        · rw [hone _ (by omega)] at h4
          simp only [Bool.or_false, Bool.and_eq_true, decide_eq_true_eq] at h4
          obtain ⟨h6, h7, h8⟩ := h4
          right
          refine ⟨hz1, by omega, by omega, ?_⟩
          rw [show (s.most - p).toNat = (q - p).toNat - (q - s.most).toNat by omega]
          exact h8
      · rintro ⟨h1 | h1, h3⟩
        · subst h1
          refine ⟨trivial, Int.le_refl _, h3, ?_⟩
          rw [Int.sub_self]
          simp
        · obtain ⟨g1, g2, g3, g4⟩ := h1
          refine ⟨trivial, by omega, h3, ?_⟩
          rw [show (s.most - p).toNat = (q - p).toNat - (q - s.most).toNat by omega] at g4
          rw [g4, decide_eq_true (show (q - p).toNat < 64 by omega), decide_eq_true (show (q - s.most).toNat ≤ (q - p).toNat by omega)]
          rfl
end Go.Proofs.YtebacmmfjadalaaGreat

namespace Go.Proofs.YtebacmmfjadalaaGreat
open Go Go.RowKit

theorem unw_small {l s : Int} (l0 : 0 ≤ l) (l1 : l < 2147483648) (s0 : 0 ≤ s) (s1 : s < 2147483648) : Ck.unwV l s = s ∧ Ck.unwE l s = 0 := by
  have hu : Ck.unw l s = s := by unfold Ck.unw; split <;> omega
  have hk : Ck.unwOk l s = true := by
    rw [Ck.unwOk_iff, hu]
    unfold Ck.inT
    exact ⟨decide_eq_true (by omega), decide_eq_true (by omega)⟩
  unfold Ck.unwV Ck.unwE
  rw [if_pos hk, if_pos hk]
  exact ⟨hu, rfl⟩
/-- the clock of a reading -/
def clkOf (cs : List (Int × Int × Int)) (r : In) : Int × Int × Int := cs.getD r.se.toNat (0, 0, 0)
/-- the key of a reading by its clock -/
def rkey (cs : List (Int × Int × Int)) (r : In) : List Int := Ck.timeV (clkOf cs r).1 (clkOf cs r).2.1 (clkOf cs r).2.2 r.st :: r.se :: r.sq :: r.st :: (r.n : Int) :: (r.us.map Int.toNat).map keyN
/-- a reading that may be, of a sensor that is, with a small stamp and a time -/
structure Good (cs : List (Int × Int × Int)) (r : In) : Prop where
  chk : chkE r.se r.n (r.us.map Int.toNat) = 0
  lt : r.se < cs.length
  st1 : r.st < 2147483648
  time : Ck.timeE (clkOf cs r).1 (clkOf cs r).2.1 (clkOf cs r).2.2 r.st = 0
/-- what is known of the sensors by the readings that were handed in -/
structure SI (cs : List (Int × Int × Int)) (sns : List Sn) (done : List In) : Prop where
  len : sns.length = cs.length
  clk : ∀ (i : Nat) (s : Sn), sns[i]? = some s → (s.o, s.n, s.d) = cs.getD i (0, 0, 0)
  l0 : ∀ s ∈ sns, 0 ≤ s.last ∧ s.last < 2147483648
  kn : ∀ (i : Nat) (s : Sn) (p : Int), sns[i]? = some s → known s p = true → ∃ r ∈ done, r.se = (i : Int) ∧ r.sq = p
theorem SI.start (cs : List (Int × Int × Int)) : SI cs (cs.map sn0) [] := by
  refine ⟨List.length_map _, fun i s h => ?_, fun s h => ?_, fun i s p h hk => ?_⟩
  · rw [List.getElem?_map] at h
    rw [List.getD_eq_getElem?_getD]
    cases hc : cs[i]? with
    | none => rw [hc] at h; cases h
    | some c => rw [hc] at h; simp only [Option.map_some, Option.some.injEq] at h; rw [← h]; rfl
  · obtain ⟨c, -, rfl⟩ := List.mem_map.1 h
    simp [sn0]
  · rw [List.getElem?_map] at h
    cases hc : cs[i]? with
    | none => rw [hc] at h; cases h
    | some c =>
      rw [hc] at h
      simp only [Option.map_some, Option.some.injEq] at h
      rw [← h] at hk
      simp [known, below', sn0] at hk
theorem tkT_perm {j : Jn} {sns : List Sn} {xs told : List El} (h : JP j sns xs told) (t : Int) (e0 : El) : ((tkT j xs t e0).1 ++ (tkT j xs t e0).2).Perm (xs ++ [e0]) := by
  have hheap : Heap cmpK (upL cmpK (xs.length + 1) (xs ++ [e0]) xs.length) (upL cmpK (xs.length + 1) (xs ++ [e0]) xs.length).length := by
    have := push_heap cmpK_swo (e := e0) rfl h.heap
    rw [(upL_perm _ _ _ _).length_eq, List.length_append]
    exact this
  obtain ⟨mid, rest, d1, d2, -⟩ := due_is hheap (riseH j t) (f := xs.length + 2) (by rw [(upL_perm _ _ _ _).length_eq, List.length_append]; simp)
  have hT : tkT j xs t e0 = (mid, rest) := d1
  rw [hT]
  exact d2.trans (upL_perm _ _ _ _)
theorem tkL_known (s : Sn) (q c p : Int) : known (tkL s q c) p = known (tk s q) p := rfl
/-- such a reading has no error, is not doubled -/
theorem push_good {cs : List (Int × Int × Int)} {j j' : Jn} {sns sns' : List Sn} {xs xs' told mid : List El} {done : List In} {r : In} {kind er : Int} (hsi : SI cs sns done) (hg : Good cs r) (hw : (0 ≤ r.sq ∧ r.sq ≤ 4294967295) ∧ 0 ≤ r.st ∧ r.st ≤ 4294967295) (hd : ∀ d ∈ done, ¬ (d.se = r.se ∧ d.sq = r.sq)) (hjp : JP j sns xs told)
    (h : PushHow j sns xs r.se r.sq r.st r.n (r.us.map Int.toNat) kind er j' sns' xs' mid) : er = 0 ∧ kind ≠ 2 ∧ SI cs sns' (done ++ [r]) ∧ (kind = 1 → ((mid ++ xs').map El.key).Perm (xs.map El.key ++ [rkey cs r])) := by
  obtain ⟨se0, se1, -⟩ := chkE_zero hg.chk
  have hlt : r.se.toNat < sns.length := by have := hsi.len; have := hg.lt; omega
  obtain ⟨s, hs⟩ : ∃ s, sns[r.se.toNat]? = some s := ⟨_, List.getElem?_eq_getElem hlt⟩
  have hl := hsi.l0 s (List.mem_of_getElem? hs)
  obtain ⟨u1, u2⟩ := unw_small hl.1 hl.2 hw.2.1 hg.st1
  have hc := hsi.clk _ s hs
  have hc1 : s.o = (clkOf cs r).1 ∧ s.n = (clkOf cs r).2.1 ∧ s.d = (clkOf cs r).2.2 := by
    unfold clkOf
    rw [← hc]
    exact ⟨rfl, rfl, rfl⟩
  have hE : pushE sns r.se r.st r.n (r.us.map Int.toNat) = 0 := by
    unfold pushE
    rw [if_neg (by rw [hg.chk]; simp), hs]
    simp only
    rw [if_neg (by rw [u2]; simp), u1, hc1.1, hc1.2.1, hc1.2.2]
    exact hg.time
  have hkn : known s r.sq = false := by
    cases hk : known s r.sq with
    | false => rfl
    | true =>
      obtain ⟨d, d1, d2, d3⟩ := hsi.kn _ s _ hs hk
      exact absurd ⟨by omega, d3⟩ (hd d d1)
  have hmore : SI cs sns (done ++ [r]) := ⟨hsi.len, hsi.clk, hsi.l0, fun i s p h1 h2 => by
    obtain ⟨d, d1, d2⟩ := hsi.kn i s p h1 h2
    exact ⟨d, List.mem_append_left _ d1, d2⟩⟩
  cases h with
  | bad hq => exact absurd hE hq
  | cnt s2 hs2 _ hk hk1 e2 e3 e4 e5 e6 =>
    rw [hs] at hs2
    injection hs2 with hs2
    subst hs2
    refine ⟨e2, ?_, by rw [e4]; exact hmore, fun q => absurd q hk1⟩
    rw [hk]
    unfold pushK
    rw [hkn, if_neg (by simp)]
    split
    · decide
    · split <;> decide
  | took s2 e0 v' dn hs2 hse _ hk e1 e2 hkey hdn hno hlate e3 e4 e5 e6 =>
    rw [hs] at hs2
    injection hs2 with hs2
    subst hs2
    refine ⟨e2, by rw [e1]; decide, ?_, fun _ => ?_⟩
    · have hok := hjp.ok s (List.mem_of_getElem? hs)
      have hn : s.some = true → r.sq ≤ s.most → s.most - r.sq < 64 := fun a1 a2 => by
        rcases hno with hb | ⟨b1, b2, -⟩
        · unfold below' at hb
          rw [a1, decide_eq_true a2] at hb
          cases hb
        · omega
      have hkp : (tkL s r.sq (Ck.unwV s.last r.st)).o = s.o ∧ (tkL s r.sq (Ck.unwV s.last r.st)).n = s.n ∧ (tkL s r.sq (Ck.unwV s.last r.st)).d = s.d := by
        unfold tkL tk
        split <;> exact ⟨rfl, rfl, rfl⟩
      rw [e4]
      refine ⟨by rw [List.length_set]; exact hsi.len, fun i s3 h3 => ?_, fun s3 h3 => ?_, fun i s3 p h3 h4 => ?_⟩
      · by_cases hi : i = r.se.toNat
        · subst hi
          rw [List.getElem?_set_self hlt] at h3
          injection h3 with h3
          rw [← h3, hkp.1, hkp.2.1, hkp.2.2]
          exact hc
        · rw [List.getElem?_set_ne (fun q => hi q.symm)] at h3
          exact hsi.clk i s3 h3
      · rcases List.mem_or_eq_of_mem_set h3 with q | q
        · exact hsi.l0 s3 q
        · rw [q]
          show 0 ≤ max s.last (Ck.unwV s.last r.st) ∧ max s.last (Ck.unwV s.last r.st) < 2147483648
          rw [u1]
          have := hg.st1
          omega
      · by_cases hi : i = r.se.toNat
        · subst hi
          rw [List.getElem?_set_self hlt] at h3
          injection h3 with h3
          rw [← h3, tkL_known, tk_known hok hw.1.1 hw.1.2 hn] at h4
          rcases h4.1 with q | q
          · exact ⟨r, List.mem_append_right _ (List.mem_singleton.2 rfl), by omega, q.symm⟩
          · obtain ⟨d, d1, d2⟩ := hsi.kn _ s _ hs q
            exact ⟨d, List.mem_append_left _ d1, d2⟩
        · rw [List.getElem?_set_ne (fun q => hi q.symm)] at h3
          obtain ⟨d, d1, d2⟩ := hsi.kn i s3 p h3 h4
          exact ⟨d, List.mem_append_left _ d1, d2⟩
    · have hp := (tkT_perm hjp (Ck.timeV s.o s.n s.d (Ck.unwV s.last r.st)) e0).map El.key
      rw [e5, e6]
      refine hp.trans ?_
      rw [List.map_append, List.map_cons, List.map_nil, hkey, u1, hc1.1, hc1.2.1, hc1.2.2]
      exact List.Perm.refl _
end Go.Proofs.YtebacmmfjadalaaGreat
