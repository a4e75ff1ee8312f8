/- The first example of the chapter answers true. -/
import Derived.Test.YtebacmmfjadalaaJ20
namespace Go.Proofs.Ytebacmmfjadalaa
open Go Go.RowKit

def e1 : El := ⟨100, 0, 1, 100, none, 0, 0, []⟩
def e2 : El := ⟨95, 0, 2, 95, none, 0, 0, []⟩
def e3 : El := ⟨111, 0, 3, 111, none, 0, 0, []⟩
theorem due1 : dueL headC 2 (upL headC 1 ([] ++ [(⟨100, 0, 1, 100, none, 0, 0, []⟩ : El)]) 0) 90 [] = ([], [e1]) := by rfl
theorem due2 : dueL headC 3 (upL headC 2 ([e1] ++ [(⟨95, 0, 2, 95, none, 0, 0, []⟩ : El)]) 1) 90 [] = ([], [e2, e1]) := by rfl
theorem due3 : dueL headC 4 (upL headC 3 ([e2, e1] ++ [(⟨111, 0, 3, 111, none, 0, 0, []⟩ : El)]) 2) 101 [] = ([e2, e1], [e3]) := by rfl
theorem unw1 : Ck.unwV 0 100 = 100 ∧ Ck.unwE 0 100 = 0 ∧ Ck.timeV 0 1 1 100 = 100 ∧ Ck.timeE 0 1 1 100 = 0 := by decide
theorem unw2 : Ck.unwV 100 95 = 95 ∧ Ck.unwE 100 95 = 0 ∧ Ck.timeV 0 1 1 95 = 95 ∧ Ck.timeE 0 1 1 95 = 0 := by decide
theorem unw3 : Ck.unwV 100 111 = 111 ∧ Ck.unwE 100 111 = 0 ∧ Ck.timeV 0 1 1 111 = 111 ∧ Ck.timeE 0 1 1 111 = 0 := by decide
def sA : Sn := ⟨0, 1, 1, 0, false, 0, 0⟩
def sB : Sn := tkL sA 1 100
def sC : Sn := tkL sB 2 95
theorem sB_eq : sB.some = true ∧ sB.most = 1 ∧ sB.last = 100 ∧ sB.o = 0 ∧ sB.n = 1 ∧ sB.d = 1 := by decide
theorem sC_eq : sC.some = true ∧ sC.most = 2 ∧ sC.last = 100 ∧ sC.o = 0 ∧ sC.n = 1 ∧ sC.d = 1 := by decide

set_option maxRecDepth 100000 in
set_option maxHeartbeats 8000000 in
theorem awake_join (w : World) : Calls Try.prog 7 #[] w fun e w' => e = .returned (.bool true) ∧ Below w.heap.size w w' := by
  have hb0 := (Below.refl w.heap.size w).alloc (Nat.le_refl _) (.cells #[.int .i64 0, .int .i64 1, .int .i64 1] 66)
  have hnew := new_any w.heap.size 0 1 1 [(0, 1, 1)] 10 (w.alloc (.cells #[.int .i64 0, .int .i64 1, .int .i64 1] 66)) rfl (by simp) (fun i hi => by have h0 : i = 0 := (by omega); subst h0; simp [go_sem]) (fun i hi => by have h0 : i = 0 := (by omega); subst h0; decide) (by omega) (by omega) (by omega)
  have HB0 := Lib.hid hb0
  have HN := Lib.hid hnew
  have hs0 : (w.alloc (.cells #[.int .i64 0, .int .i64 1, .int .i64 1] 66)).heap.size = w.heap.size + 1 := by simp
  have HS0 := Lib.hid hs0
  clear hb0 hnew hs0
  go_enter Try.func7, Try.ntmps7
  go_wp2_with fail
  refine HN.out.mono ?_
  rintro e w1 ⟨rfl, sv, hsr, hjn, hfz, hlt, hbel⟩
  generalize w.alloc (.cells #[.int .i64 0, .int .i64 1, .int .i64 1] 66) = W0 at *
  obtain ⟨sb, scap, rfl, hsb1, hsb2, -, -⟩ := hsr.at (i := 0) (s := sA) rfl
  obtain ⟨x, hx⟩ : ∃ x, W0.heap.size = x := ⟨_, rfl⟩
  rw [hx] at hsr hjn hfz hlt hbel hsb1
  have HI0 := Lib.hid (show Inv W0 w1 x w1.heap.size ⟨.slice (some ⟨sb, 0, none⟩) 1 scap, 10, .slice none 0 0, false, 0, 0, 0, 0, 0, 0, 0⟩ [sA] [] from ⟨hjn, hsr, World.ownsRow_nil _ _ _ _, hfz, Nat.le_refl _, hlt, hbel⟩)
  have HX := Lib.hid hx
  have HP1 := Lib.hid (push_first x w1.heap.size sb scap 1 _ [sA] [] 0 0 1 100 100 100 sA W0 w1 HI0.out rfl rfl hsb2 rfl (by omega) rfl (by omega) (by simp) unw1.1 unw1.2.1 unw1.2.2.1 unw1.2.2.2 (by omega) (by omega) (by omega) (by omega) (by decide) (by decide) (by decide) rfl (by simp only; omega) (by simp only; omega) (by simp only; omega) (by simp only; omega) (by simp only; omega) (by simp only; omega) (by simp only; omega) (by simp only; omega))
  clear hsr hjn hfz hlt hbel hx HN
  rw [HX.out]
  go_wp2_with fail
  refine HP1.out.mono ?_
  rintro e w2 ⟨ov, D, v2, rfl, ho, hi⟩
  have ho' : Row D w2 ov [] := ho
  have hi' : Inv W0 w2 x w1.heap.size ⟨.slice (some ⟨sb, 0, none⟩) 1 scap, 10, v2, true, 100, 90, 1, 0, 0, 0, 0⟩ [sB] [e1] := hi
  obtain ⟨A1, c1, rfl⟩ := ho'.slice
  have HI1 := Lib.hid hi'
  have HP2 := Lib.hid (fun W (hI : Inv W0 W x w1.heap.size ⟨.slice (some ⟨sb, 0, none⟩) 1 scap, 10, v2, true, 100, 90, 1, 0, 0, 0, 0⟩ [sB] [e1]) => push_more x w1.heap.size sb scap 1 _ [sB] [e1] 1 0 2 95 95 95 sB W0 W hI rfl rfl hsb2 rfl (by omega) rfl (by omega) (by simp [e1]) unw2.1 unw2.2.1 unw2.2.2.1 unw2.2.2.2 (by omega) (by omega) (by omega) (by omega) (by decide) (by decide) (by decide) rfl (by simp only; omega) (by simp only; omega) (by simp only; omega) (by simp only; omega) (by simp only; omega) (by simp only; omega) (by simp only; omega) (by simp only; omega) (by simp only; omega))
  clear ho ho' hi hi' HP1 HI0
  go_wp2_with fail
  refine (horizon_some x _ w2 HI1.out.jn rfl).mono ?_
  rintro e w3 ⟨rfl, hb3⟩
  have HI2 := Lib.hid (HI1.out.below hb3)
  clear hb3 HI1
  go_wp2_with fail
  refine (HP2.out w3 HI2.out).mono ?_
  rintro e w4 ⟨ov, D2, v4, rfl, ho, hi⟩
  have ho' : Row D2 w4 ov [] := ho
  have hi' : Inv W0 w4 x w1.heap.size ⟨.slice (some ⟨sb, 0, none⟩) 1 scap, 10, v4, true, 100, 90, 2, 0, 0, 0, 0⟩ [sC] [e2, e1] := hi
  obtain ⟨A2, c2, rfl⟩ := ho'.slice
  have HP3 := Lib.hid (push_more x w1.heap.size sb scap 1 _ [sC] [e2, e1] 2 0 3 111 111 111 sC W0 w4 hi' rfl rfl hsb2 rfl (by omega) rfl (by omega) (by simp [e1, e2]) unw3.1 unw3.2.1 unw3.2.2.1 unw3.2.2.2 (by omega) (by omega) (by omega) (by omega) (by decide) (by decide) (by decide) rfl (by simp only; omega) (by simp only; omega) (by simp only; omega) (by simp only; omega) (by simp only; omega) (by simp only; omega) (by simp only; omega) (by simp only; omega) (by simp only; omega))
  clear ho ho' hi hi' HP2 HI2
  go_wp2_with fail
  refine HP3.out.mono ?_
  rintro e w5 ⟨ov, D3, v5, rfl, ho, hi⟩
  have ho' : Row D3 w5 ov [e2, e1] := ho
  have hi' : Inv W0 w5 x w1.heap.size ⟨.slice (some ⟨sb, 0, none⟩) 1 scap, 10, v5, true, 111, 101, 3, 0, 0, 0, 2⟩ [tkL sC 3 111] [e3] := hi
  obtain ⟨g, cap, rfl, -, hpl⟩ := ho'.pl (by simp)
  have k0 := (hpl.cells (i := 0) (e := e2) rfl).1
  have k1 := (hpl.cells (i := 1) (e := e1) rfl).1
  simp only [Nat.zero_mul, e1, e2] at k0 k1
  have HE := Lib.hid (HB0.out.trans (hi'.bel.mono (by have := HS0.out; have := HX.out; omega)))
  clear ho ho' hi hi' HP3 hpl
  go_wp2_with fail
  go_ret
  exact ⟨rfl, HE.out⟩
end Go.Proofs.Ytebacmmfjadalaa
