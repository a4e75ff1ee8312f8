/- I2 in one text. -/
import Derived.Test.YtebacmmfjadalaaGreatP46
import Derived.Test.YtebacmmfjadalaaGreatP24
import Derived.SizedLaws
import Derived.Deep.Slices
import Derived.Deep.Fields
import Derived.ChangeSame

namespace Go.Proofs.YtebacmmfjadalaaGreat
open Go Go.RowKit Go.ChangeShapes Go.WideShapes Go.Deep

theorem cell_lt {w : World} {a : Addr} {v : Value} (h : w.cell? a = some v) : a.block < w.heap.size := by
  rcases Nat.lt_or_ge a.block w.heap.size with h' | h'
  · exact h'
  · rw [World.cell?, Array.getElem?_eq_none h'] at h
    simp at h
theorem bytesU8 : Tryz.prog.bytesOf 79 = 8 := by kernel_rfl
theorem weights_all {H : Type} {P : Program} {e : TypeId} : ∀ {ds : List (DataW H)} {d : DataW H}, d ∈ ds → ∀ n ∈ d.weights P e, n ∈ DataW.weightsAll P e ds
  | a :: l, d, h, n, hn => by
    simp only [DataW.weightsAll, List.mem_append]
    rcases List.mem_cons.1 h with rfl | h
    · exact .inl hn
    · exact .inr (weights_all h n hn)

section
variable {H : Type} {enc : TypeId × Value → H}
/-- what a reading of bits is -/
def RdIs (W : World) (cs : List Value) (se sq st : Int) (v : Option Addr) (n c : Nat) (us : List Int) : Prop :=
  cs = [.int .i64 se, .int .u32 sq, .int .u32 st, .slice v n c] ∧ us.length = n ∧ (∀ i, i < n → ∃ b off, v = some ⟨b, off, none⟩ ∧ b < W.heap.size ∧ W.cell? ⟨b, off + i, none⟩ = some (.int .u64 (us.getD i 0))) ∧ Lt64 (us.map Int.toNat) ∧ n * 8 ≤ 140737488355328 ∧
  ((0 ≤ sq ∧ sq ≤ 4294967295) ∧ 0 ≤ st ∧ st ≤ 4294967295) ∧ -9223372036854775808 ≤ se ∧ se ≤ 9223372036854775807
set_option maxRecDepth 100000 in
theorem open_reading {W : World} {fuel : Nat} {cs : List Value} {x : DataW H × List MemPlace} (h : DataW.trod enc Tryz.prog W 0 (fun _ => true) true fuel 35 cs = some x)
    (hw : ∀ m ∈ x.1.weights Tryz.prog 35, m ≤ reachBytes) : ∃ se sq st v n c us, RdIs W cs se sq st v n c us := by
  obtain ⟨xs, n', -, hy, hlen, hyl, hfld⟩ := DataW.trod_struct Tryz.underlying35 h
  have hl4 : cs.length = 4 := hlen.trans (by kernel_rfl)
  match cs, hl4 with
  | [c0, c1, c2, c3], _ =>
    have hx4 : xs.length = 4 := hyl
    have g0 := hfld 0 _ rfl
    have g1 := hfld 1 _ rfl
    have g2 := hfld 2 _ rfl
    have g3 := hfld 3 _ rfl
    obtain ⟨se, e0, -, w0⟩ := DataW.trod_int Tryz.underlying3 (show DataW.trod enc Tryz.prog W 0 (fun _ => true) true _ 3 [c0] = some _ from g0.trans (List.getElem?_eq_getElem (show 0 < xs.length by omega)))
    obtain ⟨sq, e1, -, w1⟩ := DataW.trod_int Tryz.underlying32 (show DataW.trod enc Tryz.prog W 0 (fun _ => true) true _ 32 [c1] = some _ from g1.trans (List.getElem?_eq_getElem (show 1 < xs.length by omega)))
    obtain ⟨st, e2, -, w2⟩ := DataW.trod_int Tryz.underlying32 (show DataW.trod enc Tryz.prog W 0 (fun _ => true) true _ 32 [c2] = some _ from g2.trans (List.getElem?_eq_getElem (show 2 < xs.length by omega)))
    have b0 := bounds_i64 w0
    have b1 := bounds_u32 w1
    have b2 := bounds_u32 w2
    simp only [List.cons.injEq, and_true] at e0 e1 e2
    subst e0 e1 e2
    have h3 : DataW.trod enc Tryz.prog W 0 (fun _ => true) true n' 33 [c3] = some (xs[3]'(by omega)) := g3.trans (List.getElem?_eq_getElem (show 3 < xs.length by omega))
    rcases open_ints Tryz.underlying33 Tryz.underlying79 (by kernel_rfl) h3 with ⟨hcs, -⟩ | ⟨a, len', cap', zs, hcs, -, hl', hm, hz, hd, hcell', hwf⟩
    · simp only [List.cons.injEq, and_true] at hcs
      subst hcs
      exact ⟨se, sq, st, none, 0, 0, [], rfl, rfl, fun i hi => by omega, fun i => by simp, by omega, ⟨b1, b2⟩, b0⟩
    · simp only [List.cons.injEq, and_true] at hcs
      subst hcs
      have hz' : zs.length = cap' := by simpa using hz
      have hln : (zs.take len').length = len' := by simp; omega
      refine ⟨se, sq, st, some a, len', cap', zs.take len', rfl, hln, fun i hi => ?_, fun i => ?_, ?_, ⟨b1, b2⟩, b0⟩
      · obtain ⟨b, off, rfl, hcl⟩ := ints_at hcell' (by omega)
        refine ⟨b, off, rfl, cell_lt (a := ⟨b, off + 0, none⟩) (hcl 0 (by omega)), ?_⟩
        rw [hcl i (by omega)]
        simp [List.getD_eq_getElem?_getD, hi]
      · rw [List.getD_eq_getElem?_getD, List.getElem?_map]
        cases hg : (zs.take len')[i]? with
        | none => simp
        | some z =>
          have hmem : z ∈ zs := List.mem_of_mem_take (List.mem_of_getElem? hg)
          have := bounds_u64 (hwf z hmem)
          simp
          omega
      · have hmem : ((lits .u64 (zs.take len') : List (DataW H)).length + (lits .u64 (zs.drop len') : List (DataW H)).length) * 8 ∈ x.1.weights Tryz.prog 35 := by
          rw [hy]
          simp only [DataW.weights, Tryz.underlying35]
          refine DataW.weights_mem_each (j := 3) (t := 33) (d := (xs[3]'(by omega)).1) rfl (by rw [List.getElem?_map, List.getElem?_eq_getElem (show 3 < xs.length by omega)]; rfl) _ ?_
          rw [hd]
          simp [DataW.weights, Tryz.underlying33, bytesU8]
        have h1 := hw _ hmem
        have := reachBytes_lt
        simp only [lits, List.length_map, List.length_take, List.length_drop] at h1
        omega
end
end Go.Proofs.YtebacmmfjadalaaGreat
