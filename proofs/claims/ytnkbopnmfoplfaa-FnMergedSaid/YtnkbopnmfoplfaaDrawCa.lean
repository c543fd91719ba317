/- The draws of charts: chart, anyChart. -/
import Derived.Test.YtnkbopnmfoplfaaDrawCh
set_option linter.unusedSimpArgs false
set_option linter.unusedVariables false
namespace Go.Proofs.Ytnkbopnmfoplfaa
open Go.RowKit Go.Sort
theorem OwnRow.at_ownR {α : Type} {R : Rec α} {w : World} {base : Nat} {v : Value} {l : List α} (h : OwnRow R w base v l) (h0 : 0 < l.length) : ∃ b c, v = .slice (some ⟨b, 0, none⟩) l.length c ∧ base ≤ b := by
  obtain ⟨b, cap, hv, hbg, _⟩ := World.ownsRow.form h h0
  exact ⟨b, cap, hv, hbg⟩
theorem chartOf_at (g n : Nat) (v : Value) (code : List Nat) (N : Nat) (z : Int) (hz : (N : Int) = z) (hN : N ≤ 13) (w : World) (h : CurAt w g v code n) (hn : n ≤ 4611686018420000000) :
    Calls Try.prog 67 #[.pointer (some ⟨g, 0, none⟩), .int .i64 z] w
      (FreshRC sptRec w g v code fun l n' => l.length = N ∧ n ≤ n' ∧ n' ≤ n + 40000) := by
  subst hz; exact chartOf_any g n v code N hN w h hn
set_option maxRecDepth 100000 in
set_option maxHeartbeats 6400000 in
theorem chart_any (g n : Nat) (v : Value) (code : List Nat) (w : World) (h : CurAt w g v code n) (hn : n ≤ 4611686018410000000) :
    Calls Try.prog 64 #[.pointer (some ⟨g, 0, none⟩)] w
      (FreshRC sptRec w g v code fun l n' => 1 ≤ l.length ∧ l.length ≤ 12 ∧ n ≤ n' ∧ n' ≤ n + 40100) := by
  have hg := h.lt
  have C1 := Lib.hid (one_ex g v code 20 n w (by omega) h)
  go_enter Try.func64, Try.ntmps64
  go_wp2_with fail
  refine C1.out.mono ?_; rintro e w1 ⟨b1, k1, rfl, hk1, hj1, q1, a1⟩
  cases b1
  case true =>
    have C2 := Lib.hid (chartOf_at g k1 v code 12 12 rfl (by omega) w1 q1 (by omega))
    go_wp2_with fail
    refine C2.out.mono ?_; rintro e w2 ⟨u, l, k2, rfl, o2, q2, a2, hl, hk2, hj2⟩
    go_wp2_with fail
    go_ret
    exact ⟨_, l, k2, rfl, OwnRow.lo o2 a1.size, q2, a1.trans a2, by omega, by omega, by omega, by omega⟩
  case false =>
    have C2 := Lib.hid (pick_ex g v code 6 k1 w1 (by omega) (by omega) q1)
    go_wp2_with fail
    refine C2.out.mono ?_; rintro e w2 ⟨i, k2, rfl, hi, hk2, hj2, q2, a2⟩
    have C3 := Lib.hid (chartOf_at g k2 v code (1 + i) (1 + (i : Int)) (by omega) (by omega) w2 q2 (by omega))
    go_wp2_with fail
    refine C3.out.mono ?_; rintro e w3 ⟨u, l, k3, rfl, o3, q3, a3, hl, hk3, hj3⟩
    have a23 := a1.trans a2
    go_wp2_with fail
    go_ret
    exact ⟨_, l, k3, rfl, OwnRow.lo o3 a23.size, q3, a23.trans a3, by omega, by omega, by omega, by omega⟩
set_option maxRecDepth 100000 in
set_option maxHeartbeats 6400000 in
theorem anyChart_any (g n : Nat) (v : Value) (code : List Nat) (w : World) (h : CurAt w g v code n) (hn : n ≤ 4611686018400000000) :
    Calls Try.prog 56 #[.pointer (some ⟨g, 0, none⟩)] w
      (FreshRC sptRec w g v code fun l n' => l.length ≤ 13 ∧ n ≤ n' ∧ n' ≤ n + 90000) := by
  have hg := h.lt
  have C1 := Lib.hid (chart_any g n v code w h (by omega))
  go_enter Try.func56, Try.ntmps56
  go_wp2_with fail
  refine C1.out.mono ?_; rintro e w1 ⟨u1, l, k1, rfl, o1, q1, a1, hl1, hl12, hk1, hj1⟩
  have hs1 := a1.size
  obtain ⟨b, c, rfl, hbg⟩ := o1.at_ownR (by omega)
  have C2 := Lib.hid (pick_ex g v code l.length k1 w1 (by omega) (by omega) q1)
  go_wp2_with fail
  refine C2.out.mono ?_; rintro e w2 ⟨i, k2, rfl, hi, hk2, hj2, q2, a2⟩
  have C3 := Lib.hid (pick_ex g v code 30 k2 w2 (by omega) (by omega) q2)
  go_wp2_with fail
  refine C3.out.mono ?_; rintro e w3 ⟨y, k3, rfl, hy, hk3, hj3, q3, a3⟩
  have o3 := (OwnRow.aptS o1 a2 (by omega)).aptS a3 (by omega)
  have a4 := (a1.trans a2).trans a3
  have hg3 := q3.lt
  have hs3 := a4.size
  have hil : i < l.length := by omega
  clear C1 C2 C3 o1 a1 q1 q2 a2 a3
  have hy5 : y = 0 ∨ y = 1 ∨ y = 2 ∨ y = 3 ∨ 4 ≤ y := by omega
  rcases hy5 with rfl | rfl | rfl | rfl | hy5
  · have C4 := Lib.hid (anySpot_any g k3 v code w3 q3 (by omega))
    go_wp2_with fail
    refine C4.out.mono ?_; rintro e w5 ⟨x5, y5, k5, rfl, q5, d5, hk5, hj5⟩
    have o5 := OwnRow.aptS o3 d5 (by omega)
    have a6 := a4.trans d5
    clear o3 a4 q3 C4 d5
    have f0 : w5.frozen? ⟨b, i * 2, none⟩ = false := OwnRow.free o5 _
    have f1 : w5.frozen? ⟨b, i * 2 + 1, none⟩ = false := OwnRow.free o5 _
    obtain ⟨c0, c1⟩ := spt_own o5 i hil
    have hst := OwnRow.set o5 i ⟨x5, y5⟩ hil
    have Hst := Lib.hid hst.1
    have hb := ((Below.refl w.heap.size w5).setCell (p := ⟨b, i * 2, none⟩) (by exact hbg) (.int .i64 (x5))).setCell (p := ⟨b, i * 2 + 1, none⟩) (by exact hbg) (.int .i64 (y5))
    have qS := Lib.hid (q5.belowG hb hg)
    have aS := Lib.hid (a6.trans2 hb (Nat.le_refl _))
    clear hst hb q5 a6 o5
    go_wp2_with fail
    go_ret
    exact ⟨_, _, k5, rfl, Hst.out, qS.out, aS.out, by simp; omega, by omega, by omega⟩
  · obtain ⟨e0, e1⟩ := spt_own o3 0 (by omega)
    obtain ⟨x5, hx5⟩ : ∃ z, z = (gx sptRec l 0).x := ⟨_, rfl⟩
    obtain ⟨y5, hy5⟩ : ∃ z, z = (gx sptRec l 0).y := ⟨_, rfl⟩
    rw [← hx5, Nat.zero_mul] at e0
    rw [← hy5, Nat.zero_mul] at e1
    clear hx5 hy5
    have hl0 : (0 : Int) < (l.length : Int) := by omega
    have f0 : w3.frozen? ⟨b, i * 2, none⟩ = false := OwnRow.free o3 _
    have f1 : w3.frozen? ⟨b, i * 2 + 1, none⟩ = false := OwnRow.free o3 _
    obtain ⟨c0, c1⟩ := spt_own o3 i hil
    have hst := OwnRow.set o3 i ⟨x5, y5⟩ hil
    have Hst := Lib.hid hst.1
    have hb := ((Below.refl w.heap.size w3).setCell (p := ⟨b, i * 2, none⟩) (by exact hbg) (.int .i64 (x5))).setCell (p := ⟨b, i * 2 + 1, none⟩) (by exact hbg) (.int .i64 (y5))
    have qS := Lib.hid (q3.belowG hb hg)
    have aS := Lib.hid (a4.trans2 hb (Nat.le_refl _))
    clear hst hb q3 a4 o3
    go_wp2_with fail
    go_ret
    exact ⟨_, _, k3, rfl, Hst.out, qS.out, aS.out, by simp; omega, by omega, by omega⟩
  · go_wp2_with fail
    go_ret
    exact ⟨_, [], k3, rfl, OwnRow.nil_ _ _ _, q3, a4, by simp, by omega, by omega⟩
  · have C4 := Lib.hid (chartOf_at g k3 v code 13 13 rfl (by omega) w3 q3 (by omega))
    go_wp2_with fail
    refine C4.out.mono ?_; rintro e w5 ⟨u5, l5, k5, rfl, o5, q5, d5, hl5, hk5, hj5⟩
    go_wp2_with fail
    go_ret
    exact ⟨_, l5, k5, rfl, OwnRow.lo o5 hs3, q5, a4.trans d5, by omega, by omega, by omega⟩
  · have b0 : ((y : Int) == 0) = false := by rw [beq_eq_false_iff_ne]; omega
    have b1 : ((y : Int) == 1) = false := by rw [beq_eq_false_iff_ne]; omega
    have b2 : ((y : Int) == 2) = false := by rw [beq_eq_false_iff_ne]; omega
    have b3 : ((y : Int) == 3) = false := by rw [beq_eq_false_iff_ne]; omega
    go_wp2_with fail
    go_ret
    exact ⟨_, l, k3, rfl, o3, q3, a4, by omega, by omega, by omega⟩
end Go.Proofs.Ytnkbopnmfoplfaa
