/- V4 in one text. -/
import Derived.Test.YtebacmmfjadalaaGreatP28
import Derived.Test.YtebacmmfjadalaaGreatP42
import Derived.Test.YtebacmmfjadalaaGreatP15
import Derived.Laws.MakeOwn
import Derived.Deep.OwnRows

namespace Go.Proofs.YtebacmmfjadalaaGreat
open Go Go.RowKit Go.WideShapes

theorem infoO : (Tryz.prog.info? 50).map (fun i => (i.zero, i.size, i.bytes)) = some (some (.agg #[.int .i64 0, .int .u32 0, .bool false, .slice none 0 0]), 4, 40) := by kernel_rfl
/-- a sensor of which nothing is known -/
def os0 : OS := ⟨0, 0, false, .slice none 0 0, []⟩
def zeros4 : Array Value := #[.int .i64 0, .int .u32 0, .bool false, .slice none 0 0]
theorem run_make_os (n : Nat) (h : n ≤ 64) (w : World) : (Instr.makeSlice 40 (.int .i64 (n : Int)) (.int .i64 (n : Int))).run Tryz.prog w = .ok (.slice (some ⟨w.heap.size, 0, none⟩) n n) (w.alloc (.cells (madeCells zeros4 (n * 4)) 50)) := by
  obtain ⟨i, hi, hzz⟩ := Option.map_eq_some_iff.1 infoO
  simp only [Prod.mk.injEq] at hzz
  obtain ⟨hz, hs, hb⟩ := hzz
  have hr := run_make (P := Tryz.prog) w 40 50 i _ Tryz.underlying40 hi hz .i64 .i64 n n (by omega) (Int.le_refl _) (by rw [hb]; omega) (by omega)
  simp only [Int.toNat_natCast, hs] at hr
  exact hr
theorem made_row (n : Nat) (w : World) (t : TypeId) : (w.alloc (.cells (madeCells zeros4 (n * 4)) t)).rowIs w.heap.size t (madeCells zeros4 (n * 4)).size (fun i => zeros4[i % 4]!) :=
  World.rowIs_alloc w _ t _ (fun i hi => by
    rw [size_madeCells] at hi
    have hz : zeros4.size = 4 := rfl
    simp [madeCells, hi, hz])
theorem made_at (n : Nat) (w : World) (t : TypeId) {i j : Nat} (hi : i < n) (hj : j < 4) : (w.alloc (.cells (madeCells zeros4 (n * 4)) t)).cell? ⟨w.heap.size, i * 4 + j, none⟩ = os0.row[j]? := by
  rw [(made_row n w t).cell (i := i * 4 + j) (by rw [size_madeCells]; omega), show (i * 4 + j) % 4 = j by omega]
  rcases (by omega : j = 0 ∨ j = 1 ∨ j = 2 ∨ j = 3) with rfl | rfl | rfl | rfl <;> rfl

def oj0 (A : Option Addr) (cc n : Nat) (win : Int) (sb : Nat) : OJ := ⟨.slice A n cc, win, .slice (some ⟨sb, 0, none⟩) n n, .slice none 0 0, 0, false, 0, 0, 0, 0, 0, 0⟩
theorem ojinit (A : Option Addr) (cc n : Nat) (win : Int) (wr w : World) (tS tJ : TypeId) (hb : Below w.heap.size w wr) : ∃ W, W = ((wr.alloc (.cells (madeCells zeros4 (n * 4)) tS)).alloc (.cells #[.slice A n cc, .int .i64 win, .slice (some ⟨wr.heap.size, 0, none⟩) n n, .slice none 0 0, .int .i64 0, .bool false, .int .i64 0, .int .i64 0, .int .i64 0, .int .i64 0, .int .i64 0, .int .i64 0] tJ)) ∧
    OI W (wr.heap.size + 1) wr.heap.size W.heap.size (oj0 A cc n win wr.heap.size) (List.replicate n os0) [] ∧ Below w.heap.size w W ∧ w.heap.size ≤ wr.heap.size := by
  refine ⟨_, rfl, ⟨fun i hi => ?_, ⟨some ⟨wr.heap.size, 0, none⟩, n, by rw [List.length_replicate]; rfl, .inr rfl⟩, fun i s hs j hj => ?_, World.ownsRow_nil _ _ _ _, fun s hs => ?_, fun i k s t g hs ht h1 h2 => ?_, fun s hs g h1 => ?_, fun e he => by simp at he, fun i => ?_, fun i => ?_, Nat.le_refl _, by simp, by simp; omega, by omega⟩, ?_, hb.size⟩
  · have hsz : (wr.alloc (.cells (madeCells zeros4 (n * 4)) tS)).heap.size = wr.heap.size + 1 := by simp
    rw [← hsz]
    rcases (by omega : i = 0 ∨ i = 1 ∨ i = 2 ∨ i = 3 ∨ i = 4 ∨ i = 5 ∨ i = 6 ∨ i = 7 ∨ i = 8 ∨ i = 9 ∨ i = 10 ∨ i = 11) with rfl | rfl | rfl | rfl | rfl | rfl | rfl | rfl | rfl | rfl | rfl | rfl
    all_goals simp [go_sem, oj0, OJ.row]
  · obtain ⟨hi, he⟩ := List.getElem?_eq_some_iff.1 hs
    rw [List.getElem_replicate] at he
    subst he
    rw [List.length_replicate] at hi
    have hb2 := (Below.refl (wr.alloc (.cells (madeCells zeros4 (n * 4)) tS)).heap.size (wr.alloc (.cells (madeCells zeros4 (n * 4)) tS))).alloc (Nat.le_refl _) (.cells #[.slice A n cc, .int .i64 win, .slice (some ⟨wr.heap.size, 0, none⟩) n n, .slice none 0 0, .int .i64 0, .bool false, .int .i64 0, .int .i64 0, .int .i64 0, .int .i64 0, .int .i64 0, .int .i64 0] tJ)
    exact (hb2.cell (p := ⟨wr.heap.size, i * 4 + j, none⟩) (by simp)).trans (made_at n wr tS hi hj)
  · rw [List.eq_of_mem_replicate hs]
    exact World.ownsRow_nil _ _ _ _
  · rw [List.eq_of_mem_replicate (List.mem_of_getElem? hs)] at h1
    simp [os0, Value.ownBlock] at h1
  · rw [List.eq_of_mem_replicate hs] at h1
    simp [os0, Value.ownBlock] at h1
  · have hsz : (wr.alloc (.cells (madeCells zeros4 (n * 4)) tS)).heap.size = wr.heap.size + 1 := by simp
    rw [← hsz]
    simp [go_sem]
  · have hb2 := (Below.refl (wr.alloc (.cells (madeCells zeros4 (n * 4)) tS)).heap.size (wr.alloc (.cells (madeCells zeros4 (n * 4)) tS))).alloc (Nat.le_refl _) (.cells #[.slice A n cc, .int .i64 win, .slice (some ⟨wr.heap.size, 0, none⟩) n n, .slice none 0 0, .int .i64 0, .bool false, .int .i64 0, .int .i64 0, .int .i64 0, .int .i64 0, .int .i64 0, .int .i64 0] tJ)
    exact (hb2.frozen (p := ⟨wr.heap.size, i, none⟩) (by simp)).trans ((made_row n wr tS).frozen i)
  · exact (hb.alloc hb.size _).alloc (by simp; have := hb.size; omega) _
/-- what a new joiner is -/
def ONewP (w : World) (A : Option Addr) (cc n : Nat) (cs : List (Int × Int × Int)) (win : Int) (e : Ending) (w' : World) : Prop :=
  (newE cs win = 0 ∧ ∃ y sb, e = .returned (.tuple #[.pointer (some ⟨y, 0, none⟩), .int .i64 0]) ∧ Hid (OI w' y sb w'.heap.size (oj0 A cc n win sb) (List.replicate n os0) [] ∧ Below w.heap.size w w' ∧ w.heap.size ≤ sb ∧ w.heap.size ≤ y)) ∨
  (newE cs win ≠ 0 ∧ e = .returned (.tuple #[.pointer none, .int .i64 (newE cs win)]) ∧ Below w.heap.size w w')
set_option maxRecDepth 8000 in
set_option maxHeartbeats 4000000 in
theorem onew_long (A : Option Addr) (cc n : Nat) (cs : List (Int × Int × Int)) (win : Int) (w : World) (hn : cs.length = n) (hl : 64 < n ∨ win < 0 ∨ 1125899906842624 < win) :
    Calls Tryz.prog 7 #[.slice A n cc, .int .i64 win] w (ONewP w A cc n cs win) := by
  have hE : newE cs win = 1 := by unfold newE; rw [if_pos (by omega)]
  have HP : Hid (ONewP w A cc n cs win (.returned (.tuple #[.pointer none, .int .i64 1])) w) := Lib.hid (.inr ⟨by omega, by rw [hE], Below.refl _ _⟩)
  clear hE hn
  by_cases c1 : 64 < n
  · have c1' : (64 : Int) < (n : Int) := by omega
    go_enter Tryz.func7, Tryz.ntmps7
    go_wp2_with fail
    go_ret2
    exact HP.out
  · have c1' : ¬ (64 : Int) < (n : Int) := by omega
    by_cases c2 : win < 0
    · go_enter Tryz.func7, Tryz.ntmps7
      go_wp2_with fail
      go_ret2
      exact HP.out
    · have c3 : 1125899906842624 < win := by omega
      go_enter Tryz.func7, Tryz.ntmps7
      go_wp2_with fail
      go_ret2
      exact HP.out
set_option maxRecDepth 8000 in
set_option maxHeartbeats 8000000 in
theorem onew_gen (A : Option Addr) (cc n : Nat) (cs : List (Int × Int × Int)) (win : Int) (w : World) (hn : cs.length = n) (hc : ClRow w A cs) (hn2 : n ≤ 64) (w0 : 0 ≤ win) (w1 : win ≤ 1125899906842624) :
    Calls Tryz.prog 7 #[.slice A n cc, .int .i64 win] w (ONewP w A cc n cs win) := by
  have HCL := Lib.hid hc
  have HN := Lib.hid hn
  have hmk := run_make_os n hn2
  have hn3 : ¬ (64 : Int) < (n : Int) := by omega
  clear hc hn
  go_enter Tryz.func7, Tryz.ntmps7
  go_wp2_with fail
  go_loopw [22] (fun iv wr => ∃ (k : Nat), k ≤ n ∧ iv = .int .i64 (k : Int) ∧ Hid ((cs.take k).all okC = true ∧ Below w.heap.size w wr)) (fun iv _ => n - (intOf iv).toNat)
  case atStart => exact ⟨0, by omega, rfl, Lib.hid ⟨rfl, Below.refl _ _⟩⟩
  case round =>
    obtain ⟨k, hk, rfl, hh⟩ := hrel
    by_cases hlt : k < n
    · obtain ⟨cb, coff, rfl, hcb, hrow0⟩ := HCL.out.at k (by have := HN.out; omega)
      obtain ⟨co, hco⟩ : ∃ y, (cs.getD k (0, 0, 0)).1 = y := ⟨_, rfl⟩
      obtain ⟨cn, hcn⟩ : ∃ y, (cs.getD k (0, 0, 0)).2.1 = y := ⟨_, rfl⟩
      obtain ⟨cd, hcd⟩ : ∃ y, (cs.getD k (0, 0, 0)).2.2 = y := ⟨_, rfl⟩
      have hrow := hrow0
      clear hrow0
      rw [hco, hcn, hcd] at hrow
      have hrd : ∀ i, wr.cell? ⟨cb, i, none⟩ = w.cell? ⟨cb, i, none⟩ := fun i => hh.out.2.cell (p := ⟨cb, i, none⟩) hcb
      have r0 := (hrd _).trans hrow.1
      have r1 := (hrd _).trans hrow.2.1
      have r2 := (hrd _).trans hrow.2.2
      have HX := Lib.hid (And.intro hco (And.intro hcn hcd))
      have hki : (k : Int) < (n : Int) := by omega
      have hk0 : (0 : Int) ≤ (k : Int) := by omega
      clear hrow hrd hco hcn hcd
      have HCK := Lib.hid (fun W => Bg.rcheck_any co cn cd W)
      unfold clk at HCK
      have HBA := Lib.hid (hh.out.2.alloc hh.out.2.size (.cells #[.int .i64 co, .int .i64 cn, .int .i64 cd] 53))
      cases hkf : Ck.okc co cn cd with
      | false =>
        rw [hkf] at HCK
        have HK0 := Lib.hid hkf
        clear hkf
        go_wp2_with fail
        refine (HCK.out _).mono ?_
        rintro e1 w2 ⟨rfl, hb2⟩
        have HBD := Lib.hid (back_of HBA.out hb2)
        clear hb2
        go_wp2_with fail
        go_ret2
        have hE : newE cs win = 130 := by
          unfold newE
          rw [if_neg (by have := HN.out; omega), if_neg]
          intro hall
          have := List.all_eq_true.1 hall (cs.getD k (0, 0, 0)) (by rw [List.getD_eq_getElem?_getD, List.getElem?_eq_getElem (by have := HN.out; omega)]; exact List.getElem_mem _)
          unfold okC at this
          rw [HX.out.1, HX.out.2.1, HX.out.2.2, HK0.out] at this
          cases this
        refine .inr ⟨by omega, ?_, HBD.out⟩
        rw [hE]
        rfl
      | true =>
        rw [hkf] at HCK
        have HK0 := Lib.hid hkf
        clear hkf
        go_wp2_with fail
        refine (HCK.out _).mono ?_
        rintro e1 w2 ⟨rfl, hb2⟩
        have HBD := Lib.hid (back_of HBA.out hb2)
        clear hb2
        go_wp2_with fail
        go_roundw
        case rel => exact ⟨k + 1, by omega, by go_num, Lib.hid ⟨ok_take hh.out.1 (by have := HN.out; omega) HX.out.1 HX.out.2.1 HX.out.2.2 HK0.out, HBD.out⟩⟩
        case measure => simp [intOf]; omega
    · have hkn : k = n := by omega
      have hki : ¬ (k : Int) < (n : Int) := by omega
      obtain ⟨W, hW, hi, hb, hs⟩ := ojinit A cc n win wr w 50 45 hh.out.2
      have HOI := Lib.hid (And.intro hi (And.intro hb hs))
      have HWE := Lib.hid hW
      clear hi hb hs hW
      go_wp2_with fail
      go_ret2
      refine .inl ⟨?_, wr.heap.size + 1, wr.heap.size, rfl, ?_⟩
      · unfold newE
        have hall := hh.out.1
        rw [List.take_of_length_le (by have := HN.out; omega)] at hall
        rw [if_neg (by have := HN.out; omega), if_pos hall]
      · rw [← HWE.out]
        exact Lib.hid ⟨HOI.out.1, HOI.out.2.1, HOI.out.2.2, by have := HOI.out.2.2; omega⟩
theorem onew_all (A : Option Addr) (cc n : Nat) (cs : List (Int × Int × Int)) (win : Int) (w : World) (hn : cs.length = n) (hc : ClRow w A cs) :
    Calls Tryz.prog 7 #[.slice A n cc, .int .i64 win] w (ONewP w A cc n cs win) := by
  by_cases h : 64 < n ∨ win < 0 ∨ 1125899906842624 < win
  · exact onew_long A cc n cs win w hn h
  · exact onew_gen A cc n cs win w hn hc (by omega) (by omega) (by omega)
end Go.Proofs.YtebacmmfjadalaaGreat
