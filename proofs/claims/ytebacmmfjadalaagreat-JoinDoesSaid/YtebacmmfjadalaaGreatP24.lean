/- L6 L7 L8 I1 in one text. -/
import Derived.Test.YtebacmmfjadalaaGreatP23

namespace Go.Proofs.YtebacmmfjadalaaGreat
open Go Go.RowKit

theorem sym_all (g cap n : Nat) (h63 : n ≤ 1099511627776) : ∀ d, SymIH g cap n d
  | 0 => fun a m b xs w h => by omega
  | d + 1 => fun a m b xs w h hp hn hok ham hmb hb h1 h2 => by
    have ih := sym_all g cap n h63 d
    by_cases c : b - a < d
    · exact ih a m b xs w c hp hn hok ham hmb hb h1 h2
    · have e : b - a = d := by omega
      by_cases c1 : m = a + 1
      · exact sym_one g cap n a m b xs w hp hn hok c1 hmb hb h63 h2
      · by_cases c2 : b = m + 1
        · exact sym_last g cap n a m b xs w hp hn hok (by omega) c2 hb h63 h1
        · exact sym_more g cap n a m b xs w (by rw [e]; exact ih) hp hn hok (by omega) (by omega) hb h63 h1 h2

theorem blk_first {xs : List El} {n k : Nat} (h : ∀ c, c < k → Srt cmpK xs (c * 20) (c * 20 + 20)) (hn : n < k * 20 + 20) (hl : Srt cmpK xs (k * 20) n) : Blk cmpK xs n 20 := by
  intro c
  by_cases c1 : c < k
  · exact (h c c1).sub (Nat.le_refl _) (by omega)
  · by_cases c2 : c = k
    · subst c2
      exact hl.sub (Nat.le_refl _) (by omega)
    · exact Srt.one cmpK xs (by omega)
theorem blk_step {xs ys : List El} {k : Nat} (h : ∀ c, c < k → Srt cmpK xs (c * 20) (c * 20 + 20)) (s : Shuf xs ys (k * 20) (k * 20 + 20)) (q : Srt cmpK ys (k * 20) (k * 20 + 20)) : ∀ c, c < k + 1 → Srt cmpK ys (c * 20) (c * 20 + 20) := by
  intro c hc
  by_cases e : c = k
  · subst e
    exact q
  · exact (h c (by omega)).shuf s (.inl (by omega))
theorem two_mul' (d k : Nat) : 2 * d * k = d * (2 * k) := by rw [Nat.mul_comm 2 d, Nat.mul_assoc]

set_option maxRecDepth 8000 in
set_option maxHeartbeats 8000000 in
theorem stable_any (g cap n : Nat) (xs : List El) (w : World) (hp : Pl w g cap xs) (hn : xs.length = n) (hok : Oks w g xs) (h63 : n ≤ 1099511627776) :
    Calls Tryz.prog 97 #[.slice (some ⟨g, 0, none⟩) n cap, .int .i64 n, cmpV] w (SymP g cap 0 n xs w) := by
  have HP := Lib.hid (And.intro hp (And.intro hn hok))
  clear hp hok hn
  go_enter Tryz.func97, Tryz.ntmps97
  go_wp2_with fail
  go_loopw [7, 8] (fun av bv wr => ∃ (a b k : Nat) (ys : List El), av = .int .i64 (a : Int) ∧ bv = .int .i64 (b : Int) ∧ Hid (a = k * 20 ∧ b = a + 20 ∧ a ≤ n ∧ Pl wr g cap ys ∧ Shuf xs ys 0 n ∧ (∀ c, c < k → Srt cmpK ys (c * 20) (c * 20 + 20)) ∧ w.grownBy wr (some g))) (fun av _ _ => n - (intOf av).toNat)
  case atStart => exact ⟨0, 20, 0, xs, rfl, rfl, Lib.hid ⟨rfl, rfl, Nat.zero_le _, HP.out.1, Shuf.refl _ _ _, fun c h => by omega, grown_of_below (Below.refl _ _) _⟩⟩
  case round =>
    obtain ⟨a, b, k, ys, rfl, rfl, hh⟩ := hrel
    obtain ⟨-, hb, ha, -⟩ := hh.out
    by_cases hbn : b ≤ n
    · have hbn' : (b : Int) ≤ (n : Int) := by omega
      have HI := Lib.hid (ins_any g cap n a b ys wr hh.out.2.2.2.1 (hh.out.2.2.2.2.1.len.trans HP.out.2.1) (HP.out.2.2.grown hh.out.2.2.2.2.2.2 hh.out.2.2.2.2.1.perm) (by omega) hbn h63)
      have HB := Lib.hid hb
      clear hb
      go_wp2_with fail
      refine HI.out.mono ?_
      rintro e w1 ⟨rfl, zs, h1, h2, h3, h4⟩
      have HZ := Lib.hid (And.intro (And.intro h1 h2) (And.intro h3 h4))
      clear h1 h2 h3 h4
      go_wp2_with fail
      go_roundw
      case rel =>
        obtain ⟨q1, q2, q3, q4, q5, q6, q7⟩ := hh.out
        obtain ⟨⟨z1, z2⟩, z3, z4⟩ := HZ.out
        refine ⟨b, b + 20, k + 1, zs, rfl, by go_num, Lib.hid ⟨by omega, rfl, hbn, z1, q5.trans (z2.mono (Nat.zero_le _) hbn), ?_, grown_trans q7 z4⟩⟩
        rw [q2, q1] at z2 z3
        exact blk_step q6 z2 z3
      case measure =>
        have := HB.out
        simp [intOf]; omega
    · have hbn' : ¬ (b : Int) ≤ (n : Int) := by omega
      have HI := Lib.hid (ins_any g cap n a n ys wr hh.out.2.2.2.1 (hh.out.2.2.2.2.1.len.trans HP.out.2.1) (HP.out.2.2.grown hh.out.2.2.2.2.2.2 hh.out.2.2.2.2.1.perm) ha (Nat.le_refl _) h63)
      have HB := Lib.hid hb
      clear hb
      go_wp2_with fail
      refine HI.out.mono ?_
      rintro e w1 ⟨rfl, zs, h1, h2, h3, h4⟩
      have HZ : Hid (Pl w1 g cap zs ∧ Shuf xs zs 0 n ∧ Blk cmpK zs n 20 ∧ w.grownBy w1 (some g)) := Lib.hid (by
        obtain ⟨q1, q2, q3, q4, q5, q6, q7⟩ := hh.out
        refine ⟨h1, q5.trans (h2.mono (Nat.zero_le _) (Nat.le_refl _)), ?_, grown_trans q7 h4⟩
        rw [q1] at h2 h3
        exact blk_first (fun c hc => (q6 c hc).shuf h2 (.inl (by omega))) (by omega) h3)
      clear h1 h2 h3 h4 hh HB HI
      go_wp2_with fail
      obtain ⟨wo, rfl⟩ : ∃ wo : World, wo = w1 := ⟨_, rfl⟩
      go_loopw [6] (fun kv wr => ∃ (K : Nat) (ys : List El), kv = .int .i64 (K : Int) ∧ Hid (0 < K ∧ K ≤ 2 * n + 20 ∧ Pl wr g cap ys ∧ Shuf xs ys 0 n ∧ Blk cmpK ys n K ∧ w.grownBy wr (some g))) (fun kv _ => n - (intOf kv).toNat)
      case atStart => exact ⟨20, zs, rfl, Lib.hid ⟨by omega, by omega, HZ.out.1, HZ.out.2.1, HZ.out.2.2.1, HZ.out.2.2.2⟩⟩
      case round =>
        obtain ⟨K, ys, rfl, hh⟩ := hrel
        obtain ⟨hK0, hK1, -⟩ := hh.out
        by_cases hKn : K < n
        · have hKn' : (K : Int) < (n : Int) := by omega
          obtain ⟨K2, hK2⟩ : ∃ K2, 2 * K = K2 := ⟨_, rfl⟩
          have e1 : (2 : Int) * (K : Int) = (K2 : Int) := by omega
          have HK2 := Lib.hid hK2
          clear hK2
          go_wp2_with fail
          clear e1
          obtain ⟨wo, rfl⟩ : ∃ wo : World, wo = wr := ⟨_, rfl⟩
          go_loopw [7, 8] (fun av bv wr => ∃ (a b d : Nat) (us : List El), av = .int .i64 (a : Int) ∧ bv = .int .i64 (b : Int) ∧ Hid (a = d * (2 * K) ∧ b = a + K2 ∧ a ≤ n ∧ Pl wr g cap us ∧ Shuf xs us 0 n ∧ Mrg cmpK us n K d ∧ w.grownBy wr (some g))) (fun av _ _ => n - (intOf av).toNat)
          case atStart => exact ⟨0, K2, 0, ys, rfl, rfl, Lib.hid ⟨by omega, by omega, by omega, hh.out.2.2.1, hh.out.2.2.2.1, mrg_start hh.out.2.2.2.2.1, hh.out.2.2.2.2.2⟩⟩
          case round =>
            clear hh
            obtain ⟨a, b, d, us, rfl, rfl, hh⟩ := hrel
            obtain ⟨-, hb, ha, -⟩ := hh.out
            have hK2 := HK2.out
            have HR := Lib.hid (show Srt cmpK us a (min (a + K) n) ∧ Srt cmpK us (a + K) (min (a + K2) n) by
              obtain ⟨q1, -, -, -, -, q6, -⟩ := hh.out
              have r1 := q6.2 (2 * d) (Nat.le_refl _)
              have r2 := q6.2 (2 * d + 1) (by omega)
              rw [two_mul', ← q1] at r1
              rw [Nat.add_mul, Nat.one_mul, two_mul', ← q1] at r2
              exact ⟨r1, by rw [← hK2, show a + 2 * K = a + K + K by omega]; exact r2⟩)
            by_cases hbn : b ≤ n
            · have hbn' : (b : Int) ≤ (n : Int) := by omega
              obtain ⟨m, hm⟩ : ∃ m, a + K = m := ⟨_, rfl⟩
              have e1 : (a : Int) + (K : Int) = (m : Int) := by omega
              have HS := Lib.hid (sym_all g cap n h63 (b - a + 1) a m b us wr (by omega) hh.out.2.2.2.1 (hh.out.2.2.2.2.1.len.trans HP.out.2.1) (HP.out.2.2.grown hh.out.2.2.2.2.2.2 hh.out.2.2.2.2.1.perm) (by omega) (by omega) hbn (HR.out.1.sub (Nat.le_refl _) (by omega)) (HR.out.2.sub (by omega) (by omega)))
              have e2 : (2 : Int) * (K : Int) = (K2 : Int) := by omega
              have HB := Lib.hid (And.intro hb hm)
              clear hb hK2 hm
              go_wp2_with fail
              refine HS.out.mono ?_
              rintro e w2 ⟨rfl, vs, h1, h2, h3, h4⟩
              have HV := Lib.hid (And.intro (And.intro h1 h2) (And.intro h3 h4))
              clear h1 h2 h3 h4 e1
              go_wp2_with fail
              go_roundw
              case rel =>
                obtain ⟨q1, q2, q3, q4, q5, q6, q7⟩ := hh.out
                obtain ⟨⟨z1, z2⟩, z3, z4⟩ := HV.out
                have hK2 := HK2.out
                refine ⟨b, b + K2, d + 1, vs, rfl, by go_num, Lib.hid ⟨by rw [q2, q1, Nat.add_mul]; omega, rfl, hbn, z1, q5.trans (z2.mono (Nat.zero_le _) hbn), ?_, grown_trans q7 z4⟩⟩
                rw [q2, ← hK2, q1] at z2 z3
                exact mrg_step q6 z2 z3
              case measure =>
                have := HB.out
                have := HK2.out
                simp [intOf]; omega
            · have hbn' : ¬ (b : Int) ≤ (n : Int) := by omega
              obtain ⟨m, hm⟩ : ∃ m, a + K = m := ⟨_, rfl⟩
              have e1 : (a : Int) + (K : Int) = (m : Int) := by omega
              have e3 : (K : Int) * 2 = (K2 : Int) := by omega
              by_cases hmn : m < n
              · have hmn' : (m : Int) < (n : Int) := by omega
                have HS := Lib.hid (sym_all g cap n h63 (n - a + 1) a m n us wr (by omega) hh.out.2.2.2.1 (hh.out.2.2.2.2.1.len.trans HP.out.2.1) (HP.out.2.2.grown hh.out.2.2.2.2.2.2 hh.out.2.2.2.2.1.perm) (by omega) hmn (Nat.le_refl _) (HR.out.1.sub (Nat.le_refl _) (by omega)) (HR.out.2.sub (by omega) (by omega)))
                have HB := Lib.hid (And.intro hb hm)
                clear hb hK2 hm
                go_wp2_with fail
                refine HS.out.mono ?_
                rintro e w2 ⟨rfl, vs, h1, h2, h3, h4⟩
                have HV := Lib.hid (And.intro (And.intro h1 h2) (And.intro h3 h4))
                clear h1 h2 h3 h4 e1
                go_wp2_with fail
                go_roundw
                case rel =>
                  obtain ⟨q1, q2, q3, q4, q5, q6, q7⟩ := hh.out
                  obtain ⟨⟨z1, z2⟩, z3, z4⟩ := HV.out
                  have hK2 := HK2.out
                  refine ⟨K2, vs, rfl, Lib.hid ⟨by omega, by omega, z1, q5.trans (z2.mono (Nat.zero_le _) (Nat.le_refl _)), ?_, grown_trans q7 z4⟩⟩
                  rw [← hK2]
                  refine mrg_last (d := d) ⟨fun c hc => (q6.1 c hc).shuf z2 (.inl ?_), fun c hc => ?_⟩ (by omega) (by rw [← q1]; exact z3)
                  · have : (c + 1) * (2 * K) ≤ d * (2 * K) := Nat.mul_le_mul_right _ (by omega)
                    rw [Nat.add_mul, Nat.one_mul] at this
                    omega
                  · have h2d : 2 * d * K ≤ c * K := Nat.mul_le_mul_right _ hc
                    rw [two_mul', ← q1] at h2d
                    exact z3.sub h2d (Nat.min_le_right _ _)
                case measure =>
                  have := HK2.out
                  simp [intOf]; omega
              · have hmn' : ¬ (m : Int) < (n : Int) := by omega
                have HB := Lib.hid (And.intro hb hm)
                clear hb hK2 hm
                go_wp2_with fail
                go_roundw
                case rel =>
                  obtain ⟨q1, q2, q3, q4, q5, q6, q7⟩ := hh.out
                  have hK2 := HK2.out
                  have hm := HB.out.2
                  refine ⟨K2, us, rfl, Lib.hid ⟨by omega, by omega, q4, q5, ?_, q7⟩⟩
                  rw [← hK2]
                  exact mrg_last q6 (by omega) (by rw [← q1]; exact HR.out.1.sub (Nat.le_refl _) (by omega))
                case measure =>
                  have := HK2.out
                  simp [intOf]; omega
        · have hKn' : ¬ (K : Int) < (n : Int) := by omega
          go_wp2_with fail
          go_end0
          obtain ⟨q1, q2, q3, q4, q5, q6⟩ := hh.out
          have h0 := q5 0
          rw [Nat.zero_mul, Nat.zero_add] at h0
          exact ⟨rfl, ys, q3, q4, h0.sub (Nat.le_refl _) (by omega), q6⟩

theorem sort_any (g cap n : Nat) (xs : List El) (w : World) (hp : Pl w g cap xs) (hn : xs.length = n) (hok : Oks w g xs) (h63 : n ≤ 1099511627776) :
    Calls Tryz.prog 80 #[.slice (some ⟨g, 0, none⟩) n cap, cmpV] w (SymP g cap 0 n xs w) := by
  have HS := Lib.hid (stable_any g cap n xs w hp hn hok h63)
  clear hp hok hn
  go_enter Tryz.func80, Tryz.ntmps80
  go_wp2_with fail
  refine HS.out.mono ?_
  rintro e w2 ⟨rfl, h⟩
  go_wp2_with fail
  go_end0
  exact ⟨rfl, h⟩
end Go.Proofs.YtebacmmfjadalaaGreat

namespace Go.Proofs.YtebacmmfjadalaaGreat
open Go Go.RowKit Go.WideShapes

theorem ins_nil (w : World) : Calls Tryz.prog 111 #[.slice none 0 0, .int .i64 0, .int .i64 0, cmpV] w fun e w' => e = .returned (.tuple #[]) ∧ w = w' := by
  have h0 : ¬ (1 : Int) < 0 := by omega
  go_enter Tryz.func111, Tryz.ntmps111
  go_wp2_with fail
  go_loopw [8] (fun tv wr => tv = .int .i64 1 ∧ w = wr) (fun _ _ => 0)
  case atStart => exact ⟨rfl, rfl⟩
  case round =>
    obtain ⟨rfl, rfl⟩ := hrel
    go_wp2_with fail
    go_end0
    exact ⟨rfl, rfl⟩
theorem stable_nil (w : World) : Calls Tryz.prog 97 #[.slice none 0 0, .int .i64 0, cmpV] w fun e w' => e = .returned (.tuple #[]) ∧ w = w' := by
  go_enter Tryz.func97, Tryz.ntmps97
  go_wp2_with fail
  go_loopw [7, 8] (fun av bv wr => av = .int .i64 0 ∧ bv = .int .i64 20 ∧ w = wr) (fun _ _ _ => 0)
  case atStart => exact ⟨rfl, rfl, rfl⟩
  case round =>
    obtain ⟨rfl, rfl, rfl⟩ := hrel
    go_wp2_with fail
    refine (ins_nil w).mono ?_
    rintro e w1 ⟨rfl, rfl⟩
    go_wp2_with fail
    go_loopw [6] (fun kv wr => kv = .int .i64 20 ∧ w = wr) (fun _ _ => 0)
    case atStart => exact ⟨rfl, rfl⟩
    case round =>
      obtain ⟨rfl, rfl⟩ := hrel
      go_wp2_with fail
      go_end0
      exact ⟨rfl, rfl⟩
theorem sort_nil (w : World) : Calls Tryz.prog 80 #[.slice none 0 0, cmpV] w fun e w' => e = .returned (.tuple #[]) ∧ w = w' := by
  go_enter Tryz.func80, Tryz.ntmps80
  go_wp2_with fail
  refine (stable_nil w).mono ?_
  rintro e w2 ⟨rfl, rfl⟩
  go_wp2_with fail
  go_end0
  exact ⟨rfl, rfl⟩

theorem srt_pair {xs : List El} {n : Nat} (h : Srt cmpK xs 0 n) (hn : xs.length = n) : xs.Pairwise (Le cmpK) := by
  rw [List.pairwise_iff_getElem]
  intro i j hi hj hij
  exact h i j (Nat.zero_le _) hij (by omega) _ _ (List.getElem?_eq_getElem hi) (List.getElem?_eq_getElem hj)

/-- values in new memory, apart from a block -/
def Fresh (B : Nat) (e : El) : Prop := ∀ b f, e.v = some ⟨b, f, none⟩ → B ≤ b
structure OrdSt (w wr : World) (ov : Value) (zs : List El) (ks : List (List Int)) : Prop where
  row : Row w.heap.size wr ov zs
  keys : zs.map El.key = ks
  ok : ∀ e ∈ zs, ElOk wr e ∧ Away e ov.ownBlock ∧ Fresh w.heap.size e
  bel : Below w.heap.size w wr
  nil : zs = [] → ov = .slice none 0 0

theorem row_grown_away {w w' : World} {v : Value} {e : El} (he : ElOk w e) (ha : Away e v.ownBlock) (hg : w.grownBy w' v.ownBlock) {v' : Value} (hv : v'.ownBlock = v.ownBlock ∨ v'.ownBlock = some w.heap.size) : ElOk w' e ∧ Away e v'.ownBlock := by
  refine ⟨he.grown hg ha, ?_⟩
  rcases hv with hv | hv
  · rw [hv]; exact ha
  · rw [hv]; exact Away.new he (Nat.le_refl _)

set_option maxRecDepth 8000 in
set_option maxHeartbeats 4000000 in
theorem plist_any (v : Value) (xs : List El) (w : World) (hx : TlAt w v xs) (hok : ∀ e ∈ xs, ElOk w e) (hlen : xs.length ≤ 1099511627776) :
    Calls Tryz.prog 64 #[v] w fun e w' => ∃ v' ys, e = .returned v' ∧ Row w.heap.size w' v' ys ∧ (ys.map El.key).Perm (xs.map El.key) ∧ ys.Pairwise (Le cmpK) ∧ (∀ a ∈ ys, ElOk w' a ∧ Away a v'.ownBlock ∧ Fresh w.heap.size a) ∧ Below w.heap.size w w' := by
  have HX := Lib.hid (And.intro hx hok)
  obtain ⟨A, c, rfl, hxx⟩ := hx
  obtain ⟨n, hn⟩ : ∃ n, xs.length = n := ⟨_, rfl⟩
  have HN := Lib.hid hn
  rw [hn] at hlen ⊢
  have HXX := Lib.hid hxx
  clear hxx hok hn
  go_enter Tryz.func64, Tryz.ntmps64
  go_wp2_with fail
  go_loopw [3, 8] (fun ov iv wr => ∃ (k : Nat) (zs : List El), k ≤ n ∧ iv = .int .i64 (k : Int) ∧ Hid (OrdSt w wr ov zs ((xs.take k).map El.key))) (fun _ iv _ => n - (intOf iv).toNat)
  case atStart => exact ⟨0, [], by omega, rfl, Lib.hid ⟨World.ownsRow_nil _ _ _ _, rfl, fun e he => by simp at he, Below.refl _ _, fun _ => rfl⟩⟩
  case round =>
    obtain ⟨k, zs, hk, rfl, hh⟩ := hrel
    by_cases hlt : k < n
    · obtain ⟨a, ha⟩ := get_some (xs := xs) (i := k) (by have := HN.out; omega)
      rcases HXX.out with ⟨-, h0⟩ | ⟨g1, o1, rfl, q1, hc1⟩
      · rw [h0] at ha; simp at ha
      have oa := (HX.out.2 a (List.mem_of_getElem? ha)).below hh.out.bel
      have d1 := fun j hj => (hh.out.bel.cell (p := ⟨g1, o1 + k * 5 + j, none⟩) q1).trans (hc1 k a ha j hj)
      have x0 := d1 0 (by omega)
      have x1 := d1 1 (by omega)
      have x2 := d1 2 (by omega)
      have x3 := d1 3 (by omega)
      have x4 := d1 4 (by omega)
      have HA := Lib.hid (And.intro ha oa)
      have hki : (k : Int) < (n : Int) := by omega
      have hk0 : (0 : Int) ≤ (k : Int) := by omega
      clear d1 hc1 ha oa
      obtain ⟨at_, se, sq, st, av, an, ac, abs⟩ := a
      rw [Nat.add_zero] at x0
      simp only [El.row, List.getElem?_cons_zero, List.getElem?_cons_succ] at x0 x1 x2 x3 x4
      have HB1 := Lib.hid ((Below.refl wr.heap.size wr).alloc (Nat.le_refl _) (.cells #[.int .i64 at_, .int .i64 se, .int .u32 sq, .int .u32 st, .slice av an ac] 63))
      have HCP := Lib.hid (copied_any at_ se sq st av an ac abs _ (HA.out.2.below HB1.out).1 HA.out.2.2.2)
      go_wp2_with fail
      refine HCP.out.mono ?_
      rintro e w2 ⟨B, kc, rfl, hf, hnw, hb2⟩
      have hb12 := HB1.out.trans (hb2.mono HB1.out.size)
      have HF := Lib.hid (show ElOk w2 ⟨at_, se, sq, st, B, an, kc, abs⟩ ∧ (∀ b f, B = some ⟨b, f, none⟩ → wr.heap.size ≤ b) from ⟨⟨hf, HA.out.2.2⟩, fun b f hv => by
        rcases hnw with h | ⟨b', h, h', -⟩
        · rw [h] at hv; cases hv
        · rw [h] at hv
          injection hv with hv
          injection hv with hv
          subst hv
          exact Nat.le_trans HB1.out.size h'⟩)
      have HB2 := Lib.hid hb12
      clear hf hnw hb2 hb12 x0 x1 x2 x3 x4 HCP HB1
      have hb3 := (Below.refl w2.heap.size w2).alloc (Nat.le_refl _) (.cells #[.int .i64 at_, .int .i64 se, .int .u32 sq, .int .u32 st, .slice B an kc] 63)
      have HB3 := Lib.hid (HB2.out.trans (hb3.mono HB2.out.size))
      have hsz : w.heap.size ≤ (w2.alloc (.cells #[.int .i64 at_, .int .i64 se, .int .u32 sq, .int .u32 st, .slice B an kc] 63)).heap.size := Nat.le_trans hh.out.bel.size HB3.out.size
      have hzl : zs.length ≤ 1099511627776 := by
        have h := congrArg List.length hh.out.keys
        simp only [List.length_map, List.length_take] at h
        omega
      have HNW := Lib.hid (row_new' w2 at_ se sq st B an kc 63)
      clear hb3
      go_wp2_with (at_builtin; refine wpList_append_el _ rfl _ _ 41 w.heap.size rfl Tryz.underlying41 u3 zs ⟨at_, se, sq, st, B, an, kc, abs⟩ rfl (hh.out.row.below HB3.out) hsz hzl ⟨w2.heap.size, 0, none⟩ 1 rfl HNW.out ?_; intro v1 w3 hr1 hg1 ha1; have HR1 := Lib.hid (And.intro hr1 (And.intro hg1 ha1)); clear hr1 hg1 ha1)
      go_roundw
      case rel =>
        obtain ⟨r1, r2, r3⟩ := HR1.out
        refine ⟨k + 1, zs ++ [⟨at_, se, sq, st, B, an, kc, abs⟩], by omega, by go_num, Lib.hid ⟨r1, ?_, fun e he => ?_, ?_, fun h => by simp at h⟩⟩
        · rw [List.map_append, hh.out.keys, List.take_add_one, HA.out.1, List.map_append]
          rfl
        · rcases List.mem_append.1 he with he | he
          · obtain ⟨o1, o2, o3⟩ := hh.out.ok e he
            obtain ⟨p1, p2⟩ := row_grown_away (o1.below HB3.out) o2 r2 r3
            exact ⟨p1, p2, o3⟩
          · rw [List.mem_singleton.1 he]
            have hw2 : ElOk (w2.alloc (.cells #[.int .i64 at_, .int .i64 se, .int .u32 sq, .int .u32 st, .slice B an kc] 63)) ⟨at_, se, sq, st, B, an, kc, abs⟩ := HF.out.1.below ((Below.refl _ _).alloc (Nat.le_refl _) _)
            have haw : Away (⟨at_, se, sq, st, B, an, kc, abs⟩ : El) u3.ownBlock := fun b f hv hq => by
              have h1 := HF.out.2 b f hv
              have h2 := hh.out.row
              rcases h2.2 with ⟨h3, -⟩ | ⟨g, cap, cur, h3, h4, h5, -⟩
              · rw [h3] at hq; simp [Value.ownBlock] at hq
              · rw [h3] at hq
                simp only [Value.ownBlock] at hq
                injection hq with hq
                have := (Array.getElem?_eq_some_iff.1 h5).1
                omega
            obtain ⟨p1, p2⟩ := row_grown_away hw2 haw r2 r3
            exact ⟨p1, p2, fun b f hv => Nat.le_trans hh.out.bel.size (HF.out.2 b f hv)⟩
        · have hbb := hh.out.bel.trans (HB3.out.mono hh.out.bel.size)
          exact hbb.grown r2 hsz (ownsRow_base hh.out.row)
      case measure => simp [intOf]; omega
    · have hkn : k = n := by omega
      have hki : ¬ (k : Int) < (n : Int) := by omega
      have hkeys := hh.out.keys
      rw [hkn, List.take_of_length_le (by have := HN.out; omega)] at hkeys
      have HK := Lib.hid hkeys
      clear hkeys hkn
      rcases Nat.eq_zero_or_pos zs.length with hz | hz
      · have hz' : zs = [] := List.length_eq_zero_iff.1 hz
        subst hz'
        have hu : u3 = .slice none 0 0 := hh.out.nil rfl
        subst hu
        go_wp2_with fail
        refine (sort_nil wr).mono ?_
        rintro e w2 ⟨rfl, rfl⟩
        go_wp2_with fail
        go_ret
        exact ⟨_, [], rfl, hh.out.row, by rw [← HK.out], List.Pairwise.nil, hh.out.ok, hh.out.bel⟩
      · obtain ⟨g, cap, rfl, hBg, hpl⟩ := hh.out.row.pl hz
        have HPL := Lib.hid (And.intro hBg hpl)
        have hzl : zs.length ≤ 1099511627776 := by
          have h := congrArg List.length HK.out
          simp only [List.length_map] at h
          have := HN.out
          omega
        have HS := Lib.hid (sort_any g cap zs.length zs wr hpl rfl (fun x hx => ⟨(hh.out.ok x hx).1, (hh.out.ok x hx).2.1⟩) hzl)
        clear hpl hBg
        go_wp2_with fail
        refine HS.out.mono ?_
        rintro e w2 ⟨rfl, ys, h1, h2, h3, h4⟩
        have HY := Lib.hid (And.intro (And.intro h1 h2) (And.intro h3 h4))
        clear h1 h2 h3 h4
        go_wp2_with fail
        go_ret
        obtain ⟨⟨y1, y2⟩, y3, y4⟩ := HY.out
        have hyl : ys.length = zs.length := y2.len
        have hrow := y1.row HPL.out.1
        rw [hyl] at hrow
        refine ⟨_, ys, rfl, hrow, ?_, srt_pair y3 hyl, fun a ha => ?_, ?_⟩
        · rw [← HK.out]
          exact y2.perm.map _
        · obtain ⟨o1, o2, o3⟩ := hh.out.ok a (y2.perm.mem_iff.1 ha)
          exact ⟨o1.grown y4 o2, o2, o3⟩
        · exact hh.out.bel.grown y4 hh.out.bel.size (fun k hk => by injection hk with hk; rw [← hk]; exact HPL.out.1)
end Go.Proofs.YtebacmmfjadalaaGreat

namespace Go.Proofs.YtebacmmfjadalaaGreat
open Go Go.RowKit Go.WideShapes

theorem sink_srt {xs : List El} {n : Nat} {e : El} (hn : xs.length = n) (h : xs.Pairwise (Le cmpK)) : (sinkL cmpK (n + 1) (xs ++ [e]) n).Pairwise (Le cmpK) := by
  have hst : ∀ (f : Nat) (ys : List El) (j : Nat), j < f → ys.length = n + 1 → j ≤ n → InsSt cmpK ys 0 (n + 1) j → Srt cmpK (sinkL cmpK f ys j) 0 (n + 1) := by
    intro f
    induction f with
    | zero => intro ys j h1 h2 h3 h4; omega
    | succ f ih =>
      intro ys j h1 h2 h3 h4
      rw [sinkL]
      split
      · rename_i hc
        obtain ⟨q, rfl⟩ : ∃ q, j = q + 1 := ⟨j - 1, by omega⟩
        rw [Nat.add_sub_cancel] at hc ⊢
        exact ih _ _ (by omega) (by rw [hsw_len]; exact h2) (by omega) (ins_step cmpK_swo h4 (Nat.zero_le _) (by omega) (by omega) hc.2)
      · rename_i hc
        refine ins_stop cmpK_swo h4 (by omega) (Nat.zero_le _) ?_
        by_cases e : j = 0
        · exact .inl e
        · right
          cases hl : ltAt cmpK ys j (j - 1) with
          | false => rfl
          | true => exact absurd ⟨by omega, hl⟩ hc
  have hl : (xs ++ [e]).length = n + 1 := by rw [List.length_append, hn]; rfl
  refine srt_pair (hst (n + 1) (xs ++ [e]) n (by omega) hl (Nat.le_refl _) (ins_start ?_)) (by rw [sink_len]; exact hl)
  intro i k h1 h2 h3 a b ha hb
  rw [List.getElem?_append_left (by omega)] at ha hb
  obtain ⟨q1, rfl⟩ := List.getElem?_eq_some_iff.1 ha
  obtain ⟨q2, rfl⟩ := List.getElem?_eq_some_iff.1 hb
  exact List.pairwise_iff_getElem.1 h i k q1 q2 h2

structure ROrdSt (w wr : World) (ov : Value) (zs xs : List El) : Prop where
  row : Row w.heap.size wr ov zs
  perm : zs.Perm xs
  srt : zs.Pairwise (Le cmpK)
  bel : Below w.heap.size w wr

set_option maxRecDepth 8000 in
set_option maxHeartbeats 4000000 in
theorem rlist_any (v : Value) (xs : List El) (w : World) (hx : TlAt w v xs) (hok : ∀ e ∈ xs, ElOk w e ∧ W32 e) (hlen : xs.length ≤ 1099511627776) :
    Calls Tryz.prog 15 #[v] w fun e w' => ∃ v' ys, e = .returned v' ∧ Row w.heap.size w' v' ys ∧ ys.Perm xs ∧ ys.Pairwise (Le cmpK) ∧ Below w.heap.size w w' := by
  have HX := Lib.hid (And.intro hx hok)
  obtain ⟨A, c, rfl, hxx⟩ := hx
  obtain ⟨n, hn⟩ : ∃ n, xs.length = n := ⟨_, rfl⟩
  have HN := Lib.hid hn
  rw [hn] at hlen ⊢
  have HXX := Lib.hid hxx
  clear hxx hok hn
  go_enter Tryz.func15, Tryz.ntmps15
  go_wp2_with fail
  go_loopw [3, 8] (fun ov iv wr => ∃ (k : Nat) (zs : List El), k ≤ n ∧ iv = .int .i64 (k : Int) ∧ Hid (ROrdSt w wr ov zs (xs.take k))) (fun _ iv _ => n - (intOf iv).toNat)
  case atStart => exact ⟨0, [], by omega, rfl, Lib.hid ⟨World.ownsRow_nil _ _ _ _, List.Perm.refl _, List.Pairwise.nil, Below.refl _ _⟩⟩
  case round =>
    obtain ⟨k, zs, hk, rfl, hh⟩ := hrel
    by_cases hlt : k < n
    · obtain ⟨a, ha⟩ := get_some (xs := xs) (i := k) (by have := HN.out; omega)
      rcases HXX.out with ⟨-, h0⟩ | ⟨g1, o1, rfl, q1, hc1⟩
      · rw [h0] at ha; simp at ha
      have d1 := fun j hj => (hh.out.bel.cell (p := ⟨g1, o1 + k * 5 + j, none⟩) q1).trans (hc1 k a ha j hj)
      have x0 := d1 0 (by omega)
      have x1 := d1 1 (by omega)
      have x2 := d1 2 (by omega)
      have x3 := d1 3 (by omega)
      have x4 := d1 4 (by omega)
      have HA := Lib.hid ha
      have hki : (k : Int) < (n : Int) := by omega
      have hk0 : (0 : Int) ≤ (k : Int) := by omega
      have hb1 := (Below.refl wr.heap.size wr).alloc (Nat.le_refl _) (.cells a.row.toArray 63)
      have hB1 := hh.out.bel.trans (hb1.mono hh.out.bel.size)
      have hzl : zs.length ≤ 1099511627776 := by
        have h := hh.out.perm.length_eq
        rw [List.length_take] at h
        omega
      have HPUT := Lib.hid (put_any w.heap.size u3 zs a _ (hh.out.row.below hb1) hB1.size (fun e he => by
        have he' : e ∈ xs := by
          rcases List.mem_append.1 he with h | h
          · exact List.mem_of_mem_take (hh.out.perm.mem_iff.1 h)
          · rw [List.mem_singleton.1 h]; exact List.mem_of_getElem? HA.out
        obtain ⟨o1, o2⟩ := HX.out.2 e he'
        refine ⟨o1.below hB1, fun b f hv hq => ?_, o2⟩
        have h1 := o1.lt hv
        have h2 := ownsRow_base hh.out.row b hq
        omega) hzl)
      have HB1 := Lib.hid hB1
      clear d1 hc1 ha hb1 hB1 hzl
      obtain ⟨at_, se, sq, st, av, an, ac, abs⟩ := a
      rw [Nat.add_zero] at x0
      simp only [El.row, List.getElem?_cons_zero, List.getElem?_cons_succ] at x0 x1 x2 x3 x4
      unfold El.val at HPUT
      simp only [El.row] at HPUT HB1
      go_wp2_with fail
      refine HPUT.out.mono ?_
      rintro e w2 ⟨v', rfl, h1, h2, h3⟩
      have HV := Lib.hid (And.intro h1 (And.intro h2 h3))
      clear h1 h2 h3 x0 x1 x2 x3 x4 HPUT
      go_wp2_with fail
      go_roundw
      case rel =>
        obtain ⟨r1, r2, r3⟩ := HV.out
        refine ⟨k + 1, _, by omega, by go_num, Lib.hid ⟨r1, ?_, sink_srt rfl hh.out.srt, ?_⟩⟩
        · refine (sink_perm _ _ _ _).trans ?_
          rw [List.take_add_one, HA.out]
          exact hh.out.perm.append_right _
        · exact HB1.out.grown r2 HB1.out.size (ownsRow_base hh.out.row)
      case measure => simp [intOf]; omega
    · have hkn : k = n := by omega
      have hki : ¬ (k : Int) < (n : Int) := by omega
      have hp := hh.out.perm
      rw [hkn, List.take_of_length_le (by have := HN.out; omega)] at hp
      have HK := Lib.hid hp
      clear hp hkn
      obtain ⟨A', c', hu⟩ := hh.out.row.slice
      subst hu
      go_wp2_with fail
      go_ret
      exact ⟨_, rfl, zs, hh.out.row, HK.out, hh.out.srt, hh.out.bel⟩
end Go.Proofs.YtebacmmfjadalaaGreat

namespace Go.Proofs.YtebacmmfjadalaaGreat
open Go Go.RowKit Go.WideShapes

/-- a timed reading of bits, as it lies in memory -/
structure In where
  at_ : Int
  se : Int
  sq : Int
  st : Int
  v : Option Addr
  n : Nat
  c : Nat
  us : List Int
def In.row (e : In) : List Value := [.int .i64 e.at_, .int .i64 e.se, .int .u32 e.sq, .int .u32 e.st, .slice e.v e.n e.c]
def In.key (e : In) : List Int := e.at_ :: e.se :: e.sq :: e.st :: (e.n : Int) :: (e.us.map Int.toNat).map keyN
/-- its bits lie in memory -/
structure InOk (w : World) (e : In) : Prop where
  len : e.us.length = e.n
  at_ : ∀ i, i < e.n → ∃ b off, e.v = some ⟨b, off, none⟩ ∧ b < w.heap.size ∧ w.cell? ⟨b, off + i, none⟩ = some (.int .u64 (e.us.getD i 0))
  lt : Lt64 (e.us.map Int.toNat)
  big : e.n * 8 ≤ 140737488355328
  w32 : (0 ≤ e.sq ∧ e.sq ≤ 4294967295) ∧ 0 ≤ e.st ∧ e.st ≤ 4294967295
theorem InOk.below {w w' : World} {e : In} (h : InOk w e) (hb : Below w.heap.size w w') : InOk w' e :=
  ⟨h.len, fun i hi => by
    obtain ⟨b, off, h1, h2, h3⟩ := h.at_ i hi
    exact ⟨b, off, h1, Nat.lt_of_lt_of_le h2 hb.size, (hb.cell (p := ⟨b, off + i, none⟩) h2).trans h3⟩, h.lt, h.big, h.w32⟩
def InAt (w : World) (v : Value) (xs : List In) : Prop := ∃ A c, v = .slice A xs.length c ∧ (xs = [] ∨ ∃ b off, A = some ⟨b, off, none⟩ ∧ b < w.heap.size ∧ ∀ i e, xs[i]? = some e → ∀ j, j < 5 → w.cell? ⟨b, off + i * 5 + j, none⟩ = e.row[j]?)
theorem InAt.below {w w' : World} {v : Value} {xs : List In} (h : InAt w v xs) (hb : Below w.heap.size w w') : InAt w' v xs := by
  obtain ⟨A, c, h1, h2⟩ := h
  refine ⟨A, c, h1, h2.imp id ?_⟩
  rintro ⟨b, off, h3, h4, h5⟩
  exact ⟨b, off, h3, Nat.lt_of_lt_of_le h4 hb.size, fun i e he j hj => (hb.cell (p := ⟨b, off + i * 5 + j, none⟩) h4).trans (h5 i e he j hj)⟩
theorem get_someI {xs : List In} {i : Nat} (h : i < xs.length) : ∃ a, xs[i]? = some a := ⟨xs[i], List.getElem?_eq_getElem h⟩
theorem keys_unique {xs ys : List El} (hx : xs.Pairwise (Le cmpK)) (hy : ys.Pairwise (Le cmpK)) (hp : (xs.map El.key).Perm (ys.map El.key)) : xs.map El.key = ys.map El.key := by
  refine List.Perm.eq_of_pairwise (le := fun a b : List Int => ¬ lexL b a < 0) (fun a b _ _ h1 h2 => ?_) ?_ ?_ hp
  · have := lexL_neg a b
    exact lexL_eq a b (by omega)
  · rw [List.pairwise_map]
    exact hx
  · rw [List.pairwise_map]
    exact hy

end Go.Proofs.YtebacmmfjadalaaGreat
