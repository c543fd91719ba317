/- The draws of charts: chart, anyChart. -/
import Derived.Test.YtombnhnhbocceaaGreatDoorDrawCh
set_option linter.unusedSimpArgs false
set_option linter.unusedVariables false
namespace Go.Proofs.YtombnhnhbocceaaGreatDoor
open Go.RowKit Go.Sort
theorem OwnRow.at_ownR {α : Type} {R : Rec α} {w : World} {base : Nat} {v : Value} {l : List α} (h : OwnRow R w base v l) (h0 : 0 < l.length) : ∃ b c, v = .slice (some ⟨b, 0, none⟩) l.length c ∧ base ≤ b := by
  obtain ⟨b, cap, hv, hbg, _⟩ := World.ownsRow.form h h0
  exact ⟨b, cap, hv, hbg⟩
theorem chartOf_at (g n : Nat) (v : Value) (code : List Nat) (N : Nat) (z : Int) (hz : (N : Int) = z) (hN : N ≤ 13) (w : World) (h : CurAt w g v code n) (hn : n ≤ 4611686018420000000) :
    Calls Tryz.prog 72 #[.pointer (some ⟨g, 0, none⟩), .int .i64 z] w
      (FreshRC sptRec w g v code fun l n' => l.length = N ∧ n ≤ n' ∧ n' ≤ n + 40000) := by
  subst hz; exact chartOf_any g n v code N hN w h hn
set_option maxRecDepth 100000 in
set_option maxHeartbeats 6400000 in
theorem chart_any (g n : Nat) (v : Value) (code : List Nat) (w : World) (h : CurAt w g v code n) (hn : n ≤ 4611686018410000000) :
    Calls Tryz.prog 47 #[.pointer (some ⟨g, 0, none⟩)] w
      (FreshRC sptRec w g v code fun l n' => 1 ≤ l.length ∧ l.length ≤ 12 ∧ n ≤ n' ∧ n' ≤ n + 40100) := by
  have hg := h.lt
  have C1 := Lib.hid (one_ex g v code 20 n w (by omega) h)
  go_enter Tryz.func47, Tryz.ntmps47
  go_wp2_with fail
  refine C1.out.mono ?_; rintro e w1 ⟨b1, k1, rfl, hk1, hj1, q1, a1⟩
  cases b1
  case true =>
    have C2 := Lib.hid (chartOf_at g k1 v code 12 12 rfl (by omega) w1 q1 (by omega))
    go_wp2_with fail
    refine C2.out.mono ?_; rintro e w2 ⟨u, l, k2, rfl, o2, q2, a2, hl, hk2, hj2⟩
    go_wp2_with fail
    go_ret
    exact ⟨_, l, k2, rfl, OwnRow.lo o2 a1.size, q2, a1.trans a2, by omega, by omega, by omega, by omega⟩
  case false =>
    have C2 := Lib.hid (pick_ex g v code 6 k1 w1 (by omega) (by omega) q1)
    go_wp2_with fail
    refine C2.out.mono ?_; rintro e w2 ⟨i, k2, rfl, hi, hk2, hj2, q2, a2⟩
    have C3 := Lib.hid (chartOf_at g k2 v code (1 + i) (1 + (i : Int)) (by omega) (by omega) w2 q2 (by omega))
    go_wp2_with fail
    refine C3.out.mono ?_; rintro e w3 ⟨u, l, k3, rfl, o3, q3, a3, hl, hk3, hj3⟩
    have a23 := a1.trans a2
    go_wp2_with fail
    go_ret
    exact ⟨_, l, k3, rfl, OwnRow.lo o3 a23.size, q3, a23.trans a3, by omega, by omega, by omega, by omega⟩
end Go.Proofs.YtombnhnhbocceaaGreatDoor
