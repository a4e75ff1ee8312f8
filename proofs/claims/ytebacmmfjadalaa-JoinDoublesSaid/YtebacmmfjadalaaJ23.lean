/- Numbers of bits as floats: Of64 hands back some slice. -/
import Derived.Test.YtebacmmfjadalaaJ22
import Derived.WalkLawsBesides
import Derived.Laws.Externs
namespace Go.Proofs.Ytebacmmfjadalaa
open Go Go.RowKit Go.WideShapes

theorem infoF : (Try.prog.info? 74).map (fun i => (i.zero, i.size, i.bytes)) = some (some (.float .f64 0), 1, 8) := by kernel_rfl
theorem run_frombits (n : Int) (w : World) : Sem.run Try.prog (callFunc 59 #[.int .u64 n]) w = .ok (.value (.float .f64 n.toNat)) w :=
  (run_callFunc_extern (e := Extern.MathFloatBits.float64frombits) Try.func59 (by kernel_rfl) (by kernel_rfl) (by kernel_rfl) (by kernel_rfl) _ _).trans rfl
theorem float_new (w : World) (f : Nat) (T : TypeId) : ∀ j u, [(Value.float .f64 f)][j]? = some u → (w.alloc (.cells #[.float .f64 f] T)).cell? ((⟨w.heap.size, 0, none⟩ : Addr).add j) = some u := by
  intro j u h
  have hj : j = 0 := by
    have := (List.getElem?_eq_some_iff.1 h).1
    simp at this
    omega
  subst hj
  simp at h
  subst h
  rw [Go.WideShapes.add_plain, Nat.zero_add]
  simp [go_sem]

theorem ownsRow_below {w w' : World} {B : Nat} {e : TypeId} {sz n : Nat} {v : Value} {xs : List Value} (h : w.ownsRow B e sz v n xs) (hb : Below w.heap.size w w') : w'.ownsRow B e sz v n xs := by
  refine ⟨h.1, ?_⟩
  rcases h.2 with hn | ⟨g, cap, cur, hv, h1, h2, h3⟩
  · exact .inl hn
  · exact .inr ⟨g, cap, cur, hv, h1, (hb.block g (Array.getElem?_eq_some_iff.1 h2).1).trans h2, h3⟩
theorem ownsRow_base {w : World} {B : Nat} {e : TypeId} {sz n : Nat} {v : Value} {xs : List Value} (h : w.ownsRow B e sz v n xs) : ∀ k, v.ownBlock = some k → B ≤ k := by
  intro k hk
  rcases h.2 with ⟨hn, -⟩ | ⟨g, cap, cur, hv, h1, -⟩
  · rw [hn] at hk; simp [Value.ownBlock] at hk
  · rw [hv] at hk
    simp only [Value.ownBlock] at hk
    injection hk with hk
    omega

set_option maxRecDepth 8000 in
set_option maxHeartbeats 2000000 in
theorem of64_any (A : Option Addr) (n c : Nat) (ts : List Int) (w : World) (hn : ts.length = n) (hc : ∀ i, i < n → ∃ b off, A = some ⟨b, off, none⟩ ∧ b < w.heap.size ∧ w.cell? ⟨b, off + i, none⟩ = some (.int .u64 (ts.getD i 0))) (hl : n * 8 ≤ 140737488355328) :
    Calls Try.prog 44 #[.slice A n c] w fun e w' => (∃ B m k, e = .returned (.slice B m k)) ∧ Below w.heap.size w w' := by
  have HC := Lib.hid hc
  have HN := Lib.hid hn
  clear hc hn
  go_enter Try.func44, Try.ntmps44
  go_wp2_with fail
  go_loopw [3, 8] (fun ov iv wr => ∃ (k : Nat) (fs : List Value), k ≤ n ∧ iv = .int .i64 (k : Int) ∧ Hid (wr.ownsRow w.heap.size 74 1 ov k fs ∧ Below w.heap.size w wr)) (fun _ iv _ => n - (intOf iv).toNat)
  case atStart => exact ⟨0, [], by omega, rfl, Lib.hid ⟨World.ownsRow_nil _ _ _ _, Below.refl _ _⟩⟩
  case round =>
    obtain ⟨k, fs, hk, rfl, hh⟩ := hrel
    by_cases hlt : k < n
    · obtain ⟨b, off, rfl, hb, hcell⟩ := HC.out k hlt
      obtain ⟨y, hy⟩ : ∃ y, ts.getD k 0 = y := ⟨_, rfl⟩
      rw [hy] at hcell
      have hcr := (hh.out.2.cell (p := ⟨b, off + k, none⟩) hb).trans hcell
      have hki : (k : Int) < (n : Int) := by omega
      clear hcell hy
      have hfb := run_frombits y
      obtain ⟨i0, hi0, hz0, hz1, hz2⟩ := info_parts infoF
      have HBX := Lib.hid ((Below.refl wr.heap.size wr).alloc (Nat.le_refl _) (.cells #[.float .f64 y.toNat] 74))
      have HRX := Lib.hid (ownsRow_below hh.out.1 HBX.out)
      have hwr := hh.out.2.size
      go_wp2_with (at_builtin; refine wpList_append_own _ rfl _ _ 28 rfl w.heap.size 74 i0 _ 1 8 Try.underlying28 hi0 hz0 hz1 hz2 rfl (by omega) u3 k fs rfl HRX.out ⟨wr.heap.size, 0, none⟩ 1 1 [.float .f64 y.toNat] rfl rfl (float_new _ _ _) (by simp [Value.oneCell']) (by simp only [maxLen]; omega) (by omega) (Nat.le_trans hwr HBX.out.size) ?_; intro v' w3 hr3 hg3 ha3; have HR3 := Lib.hid (And.intro hr3 hg3); clear hr3 hg3 ha3)
      go_roundw
      case rel => exact ⟨k + 1, fs ++ [.float .f64 y.toNat], by omega, by go_num, Lib.hid ⟨HR3.out.1, (hh.out.2.trans (HBX.out.mono hwr)).grown HR3.out.2 (Nat.le_trans hwr HBX.out.size) (ownsRow_base hh.out.1)⟩⟩
      case measure => simp [intOf]; omega
    · have hkn : k = n := by omega
      subst hkn
      have hsl : ∃ A' c', u3 = .slice A' k c' := by
        rcases hh.out.1.2 with ⟨h1, h2⟩ | ⟨g, cap, cur, h1, -⟩
        · exact ⟨none, 0, by rw [h1, h2]⟩
        · exact ⟨_, _, h1⟩
      obtain ⟨A', c', rfl⟩ := hsl
      go_wp2_with fail
      go_ret
      exact ⟨⟨_, _, _, rfl⟩, hh.out.2⟩
end Go.Proofs.Ytebacmmfjadalaa
