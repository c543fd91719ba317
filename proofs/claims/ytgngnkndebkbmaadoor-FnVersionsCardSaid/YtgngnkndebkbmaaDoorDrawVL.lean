/- The draws of the laws on versions. -/
import Derived.Test.YtgngnkndebkbmaaDoorDrawVA
set_option linter.unusedSimpArgs false
set_option linter.unusedVariables false
namespace Go.Proofs.YtgngnkndebkbmaaDoor
open Go.RowKit Go.Sort
def DrawnV (k : Nat) (w : World) (e : Ending) (w' : World) : Prop := ∃ (u : Value) (l : List Ver) (x y : Int), e = .returned (.tuple (if k = 1 then #[u, .int .i64 x] else #[u, .int .i64 x, .int .i64 y])) ∧ OwnRow verRec w' w.heap.size u l ∧ Below w.heap.size w w' ∧ l.length ≤ 62 ∧ -1 ≤ x ∧ x ≤ 101 ∧ -1 ≤ y ∧ y ≤ 101

set_option maxRecDepth 100000 in
set_option maxHeartbeats 1600000 in
theorem drawWayTo_any (v : Value) (code : List Nat) (w : World) (h : BytesAt w v code) (hw : WfCode code) :
    Calls Tryd.prog 12 #[v] w (DrawnV 1 w) := by
  obtain ⟨A, c, rfl, hnc, hc63⟩ := Sl.shape h
  obtain ⟨g, hgg⟩ : ∃ g, g = w.heap.size := ⟨_, rfl⟩
  have q0 := CurAt.start h hw
  have hs0 := start_size w (.slice A code.length c)
  obtain ⟨w0, hw0⟩ : ∃ w0, w0 = curW w (.slice A code.length c) := ⟨_, rfl⟩
  have hfin : ∀ w', Apg g w0 w' → Below w.heap.size w w' := fun w' a => by rw [hgg, hw0] at a; exact Apart.start a
  have Hfin := Lib.hid hfin
  have HW0 := Lib.hid hw0
  rw [← hgg, ← hw0] at q0
  rw [← hw0, ← hgg] at hs0
  have HG := Lib.hid hgg
  clear hfin hgg hw0
  have C1 := Lib.hid (anyVersions_any g 0 _ code w0 q0 (by omega))
  rw [HW0.out, HG.out] at C1
  go_enter Tryd.func12, Tryd.ntmps12
  go_wp2_with fail
  refine C1.out.mono ?_; rw [← HG.out, ← HW0.out]; rintro e w1 ⟨u1, l, k1, rfl, o1, q1, a1, hl62, hk1, hj1⟩
  have D1 := Lib.hid (versionOf_any g k1 _ _ code l w1 q1 (by omega) o1.reads (by omega))
  go_wp2_with fail
  refine D1.out.mono ?_; rintro e w2 ⟨x2, k2, rfl, xl2, xh2, hk2, hj2, q2, b2⟩
  have o2 := o1.apt b2 (by omega)
  have a2 := a1.trans b2
  have oF := Lib.hid (ownsRow_lo o2 (show w.heap.size ≤ _ by have := HG.out; omega))
  have aF := Lib.hid (Hfin.out _ a2)
  go_wp2_with fail
  go_ret2
  exact ⟨_, l, x2, x2, rfl, oF.out, aF.out, hl62, by omega, by omega, by omega, by omega⟩
set_option maxRecDepth 100000 in
set_option maxHeartbeats 1600000 in
theorem drawCommonVersion_any (v : Value) (code : List Nat) (w : World) (h : BytesAt w v code) (hw : WfCode code) :
    Calls Tryd.prog 9 #[v] w (DrawnV 2 w) := by
  obtain ⟨A, c, rfl, hnc, hc63⟩ := Sl.shape h
  obtain ⟨g, hgg⟩ : ∃ g, g = w.heap.size := ⟨_, rfl⟩
  have q0 := CurAt.start h hw
  have hs0 := start_size w (.slice A code.length c)
  obtain ⟨w0, hw0⟩ : ∃ w0, w0 = curW w (.slice A code.length c) := ⟨_, rfl⟩
  have hfin : ∀ w', Apg g w0 w' → Below w.heap.size w w' := fun w' a => by rw [hgg, hw0] at a; exact Apart.start a
  have Hfin := Lib.hid hfin
  have HW0 := Lib.hid hw0
  rw [← hgg, ← hw0] at q0
  rw [← hw0, ← hgg] at hs0
  have HG := Lib.hid hgg
  clear hfin hgg hw0
  have C1 := Lib.hid (anyVersions_any g 0 _ code w0 q0 (by omega))
  rw [HW0.out, HG.out] at C1
  go_enter Tryd.func9, Tryd.ntmps9
  go_wp2_with fail
  refine C1.out.mono ?_; rw [← HG.out, ← HW0.out]; rintro e w1 ⟨u1, l, k1, rfl, o1, q1, a1, hl62, hk1, hj1⟩
  have D1 := Lib.hid (versionOf_any g k1 _ _ code l w1 q1 (by omega) o1.reads (by omega))
  go_wp2_with fail
  refine D1.out.mono ?_; rintro e w2 ⟨x2, k2, rfl, xl2, xh2, hk2, hj2, q2, b2⟩
  have o2 := o1.apt b2 (by omega)
  have a2 := a1.trans b2
  have D2 := Lib.hid (versionOf_any g k2 _ _ code l w2 q2 (by omega) o2.reads (by omega))
  go_wp2_with fail
  refine D2.out.mono ?_; rintro e w3 ⟨x3, k3, rfl, xl3, xh3, hk3, hj3, q3, b3⟩
  have o3 := o2.apt b3 (by omega)
  have a3 := a2.trans b3
  have oF := Lib.hid (ownsRow_lo o3 (show w.heap.size ≤ _ by have := HG.out; omega))
  have aF := Lib.hid (Hfin.out _ a3)
  go_wp2_with fail
  go_ret3
  exact ⟨_, l, x2, x3, rfl, oF.out, aF.out, hl62, by omega, by omega, by omega, by omega⟩
end Go.Proofs.YtgngnkndebkbmaaDoor
