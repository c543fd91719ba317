/- The draws of the laws on merged edits. -/
import Derived.Test.YtnkbopnmfoplfaaDrawE2
set_option linter.unusedSimpArgs false
set_option linter.unusedVariables false
namespace Go.Proofs.Ytnkbopnmfoplfaa
open Go.RowKit Go.Sort
def DrawnM (w : World) (e : Ending) (w' : World) : Prop := ∃ (u a b : Value) (l : List Spt) (x y : List Edt), e = .returned (.tuple #[u, a, b]) ∧ OwnRow sptRec w' w.heap.size u l ∧ OwnRow edtRec w' w.heap.size a x ∧ OwnRow edtRec w' w.heap.size b y ∧ Below w.heap.size w w' ∧ l.length ≤ 13 ∧ x.length ≤ 31 ∧ y.length ≤ 31
def DrawnM2 (w : World) (e : Ending) (w' : World) : Prop := ∃ (a b : Value) (x y : List Edt), e = .returned (.tuple #[a, b]) ∧ OwnRow edtRec w' w.heap.size a x ∧ OwnRow edtRec w' w.heap.size b y ∧ Below w.heap.size w w' ∧ x.length ≤ 31 ∧ y.length ≤ 31

set_option maxRecDepth 100000 in
set_option maxHeartbeats 1600000 in
theorem drawEditConflicts_any (v : Value) (code : List Nat) (w : World) (h : BytesAt w v code) (hw : WfCode code) :
    Calls Try.prog 20 #[v] w (DrawnM w) := by
  obtain ⟨A, c, rfl, hnc, hc63⟩ := Sl.shape h
  obtain ⟨g, hgg⟩ : ∃ g, g = w.heap.size := ⟨_, rfl⟩
  have q0 := CurAt.start h hw
  have hs0 := start_size w (.slice A code.length c)
  obtain ⟨w0, hw0⟩ : ∃ w0, w0 = curW w (.slice A code.length c) := ⟨_, rfl⟩
  have hfin : ∀ w', Apg g w0 w' → Below w.heap.size w w' := fun w' a => by rw [hgg, hw0] at a; exact Apart.start a
  have Hfin := Lib.hid hfin
  have HW0 := Lib.hid hw0
  rw [← hgg, ← hw0] at q0
  rw [← hw0, ← hgg] at hs0
  have HG := Lib.hid hgg
  clear hfin hgg hw0
  have C1 := Lib.hid (editorsTwo_any g 0 _ code w0 q0 (by omega))
  rw [HW0.out, HG.out] at C1
  go_enter Try.func20, Try.ntmps20
  go_wp2_with fail
  refine C1.out.mono ?_; rw [← HG.out, ← HW0.out]; rintro e w1 ⟨u, a, b, l, x, y, k1, rfl, hl, hx, hy, o1, x1, y1, q1, a1, hk1, hj1⟩
  have hsz : w.heap.size ≤ w0.heap.size := by have := HG.out; omega
  have oF := Lib.hid (OwnRow.lo o1 hsz)
  have xF := Lib.hid (OwnRow.lo x1 hsz)
  have yF := Lib.hid (OwnRow.lo y1 hsz)
  have aF := Lib.hid (Hfin.out _ a1)
  clear o1 x1 y1 a1 hsz
  go_wp2_with fail
  go_ret3
  exact ⟨_, _, _, l, x, y, rfl, oF.out, xF.out, yF.out, aF.out, hl, hx, hy⟩
theorem drawMergedChart_any (v : Value) (code : List Nat) (w : World) (h : BytesAt w v code) (hw : WfCode code) :
    Calls Try.prog 4 #[v] w (DrawnM w) := by
  have C := Lib.hid (drawEditConflicts_any v code w h hw)
  go_enter Try.func4, Try.ntmps4
  go_wp2_with fail
  refine C.out.mono ?_; rintro e w1 ⟨u, a, b, l, x, y, rfl, o1, x1, y1, b1, h1, h2, h3⟩
  go_wp2_with fail
  go_ret3
  exact ⟨_, _, _, l, x, y, rfl, o1, x1, y1, b1, h1, h2, h3⟩
theorem drawBothTouch_any (v : Value) (code : List Nat) (w : World) (h : BytesAt w v code) (hw : WfCode code) :
    Calls Try.prog 11 #[v] w (DrawnM2 w) := by
  have C := Lib.hid (drawEditConflicts_any v code w h hw)
  go_enter Try.func11, Try.ntmps11
  go_wp2_with fail
  refine C.out.mono ?_; rintro e w1 ⟨u, a, b, l, x, y, rfl, o1, x1, y1, b1, h1, h2, h3⟩
  go_wp2_with fail
  go_ret2
  exact ⟨_, _, x, y, rfl, x1, y1, b1, h2, h3⟩
end Go.Proofs.Ytnkbopnmfoplfaa
