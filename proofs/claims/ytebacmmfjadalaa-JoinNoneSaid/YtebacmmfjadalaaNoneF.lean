/- JoinNone: for every reading the law answers true. No condition. -/
import Derived.Test.YtebacmmfjadalaaClk
import Derived.Test.YtebacmmfjadalaaJ25
import Derived.SizedLaws
import Derived.Lib.SmallJoins
namespace Go.Proofs.Ytebacmmfjadalaa
open Go.ChangeShapes Go.WideShapes Go.ChangeAt Go.RowKit Go.Joins

theorem bytesU : Try.prog.bytesOf 81 = 8 := by kernel_rfl

theorem lies_lt {w : World} {a : Addr} {v : Value} (h : w.cell? a = some v) : a.block < w.heap.size := by
  rcases Nat.lt_or_ge a.block w.heap.size with h' | h'
  · exact h'
  · rw [World.cell?, Array.getElem?_eq_none h'] at h
    simp at h

set_option maxRecDepth 100000 in
theorem none_all {W : World} {H : Type} {enc : TypeId × Value → H} {v : Value} {d : DataW H} {p : List MemPlace} {r : Reach} {b0 : Nat}
    (hsz : (DataW.weightsEach Try.prog [44] [d]).all (· ≤ reachBytes) = true)
    (hv : Value.okWide Try.prog W r b0 44 v) (h : DataW.Trod enc Try.prog W 0 (fun _ => true) true 44 v d p) :
    Calls Try.prog 6 #[v] W fun e w' => e = .returned (.bool true) ∧ Below W.heap.size W w' := by
  obtain ⟨c0, c1, c2, c3, y0, y1, y2, y3, m, rfl, rfl, -, h0, h1, h2, h3⟩ := open_agg4 Try.underlying44 (by kernel_rfl) (by kernel_rfl) hv h
  obtain ⟨se, e0, -, -⟩ := DataW.trod_int Try.underlying3 h0
  obtain ⟨sq, e1, -, -⟩ := DataW.trod_int Try.underlying27 h1
  obtain ⟨st, e2, -, -⟩ := DataW.trod_int Try.underlying27 h2
  simp at e0 e1 e2
  subst e0 e1 e2
  rcases open_ints Try.underlying42 Try.underlying81 (by kernel_rfl) h3 with ⟨hcs, -⟩ | ⟨a, len', cap', zs, hcs, -, hl', hm, hz, hd, hcell', hwf⟩
  · simp only [List.cons.injEq, and_true] at hcs
    subst hcs
    exact none_walk se sq st none 0 0 [] W rfl (fun i hi => by omega) (by omega)
  · simp only [List.cons.injEq, and_true] at hcs
    subst hcs
    have hz' : zs.length = cap' := by simpa using hz
    have hlen : (zs.take len').length = len' := by
      simp; omega
    refine none_walk se sq st (some a) len' cap' (zs.take len') W hlen (fun i hi => ?_) ?_
    · obtain ⟨b, off, rfl, hcl⟩ := ints_at hcell' (by omega)
      refine ⟨b, off, rfl, lies_lt (a := ⟨b, off + 0, none⟩) (hcl 0 (by omega)), ?_⟩
      rw [hcl i (by omega)]
      simp [List.getD_eq_getElem?_getD, hi]
    · have hmem := List.all_eq_true.1 hsz _ (DataW.weights_mem_each (j := 0) rfl rfl (((zs.take len').map fun _ => 0).length * 8 + ((zs.drop len').map fun _ => 0).length * 8) (by
        rw [hd]
        simp [DataW.weights, Try.underlying44, DataW.weightsEach, Try.underlying42, bytesU]
        refine .inr (.inr (.inr (.inl ?_)))
        simp [lits, Nat.add_mul]))
      have := reachBytes_lt
      simp at hmem
      omega

set_option linter.unusedVariables false
set_option maxRecDepth 100000 in
theorem none_lifted (os : Os) (started : os.Started) (H : Type) (enc : TypeId × Value → H) :
    ReturnsInHanded {} Try.checked os 6 .any (Rows.joinNoneSpec.pre6 enc Try.prog Try.f6 Rows.joinNoneRow.domain false) (Rows.joinNoneSpec.post enc Try.prog Try.f6 false true false false) := by
  refine returnsInHanded_of_change_sized (C := Try.checked) own started (by kernel_rfl) Try.func6
    (ChangeSpec.witness6 (enc := enc) (C := Try.checked) false ⟨#[], #[.agg #[.int .i64 0, .int .u32 0, .int .u32 0, .slice none 0 0]], []⟩ 8 (by kernel_rfl) (by kernel_rfl) (by kernel_rfl) (by kernel_rfl)) ?_
  intro W base args ds gs before hval0 hW _ hsz0 _
  have hval : ∀ (j : Nat) t v, Try.f6.params[j]? = some t → args[j]? = some v → Value.okWide Try.prog W .any base t v := hval0
  have hW' := hW
  obtain ⟨p, q, hA0, hV, rfl, hfz, hnd⟩ := hW
  have hA : DataW.TrodAll enc Try.prog W 0 (fun _ => true) true Try.f6.params.toList args.toList ds p := hA0
  rw [Try.params6] at hA hval hsz0
  obtain ⟨v0, d0, hargs, rfl, h0⟩ := trodAll_one hA
  obtain rfl := hargs
  obtain ⟨rfl, rfl⟩ := trodVars_none hV
  refine (none_all (d := d0) hsz0 (hval 0 44 v0 rfl rfl) h0).mono fun e W' ⟨he, hb⟩ => ⟨_, he, ?_⟩
  exact Ck.law_post laid (readable_of (by kernel_rfl)) rfl Try.underlying4 rfl rfl hW' hb

theorem none_holds : Rows.JoinNoneSaid :=
  OpenClaim.holds_of_wide 6 Try.f6 rfl rfl rfl rfl rfl rfl rfl ⟨rfl, rfl, rfl, rfl, rfl⟩ rfl rfl rfl rfl rfl (by kernel_rfl) Try.func6 (by kernel_rfl)
    (of_decide_eq_true (by kernel_rfl)) (by unfold Func.isWrapper; first | (rw [if_pos (by decide +kernel)]; kernel_rfl) | (rw [if_neg (by decide +kernel)]; exact ⟨rfl, rfl⟩))
    (fun os started H enc _ => none_lifted os started H enc)
#print axioms none_holds
end Go.Proofs.Ytebacmmfjadalaa
