/- Contracts: spots, frames of views and cells, in the program and in the reference. -/
import Derived.Test.YtjbffahnbkpcnaaHelp
import Derived.Deep.RegionWith
set_option linter.unusedSimpArgs false
set_option linter.unusedVariables false
namespace Go.Proofs.Ytjbffahnbkpcnaa
open Go.RowKit

theorem cell_of {W w1 : World} {B : Nat} (hb : Below B W w1) : ∀ b o, b < B → w1.cell? ⟨b, o, none⟩ = W.cell? ⟨b, o, none⟩ := fun b o h => hb.cell (p := ⟨b, o, none⟩) h
theorem frozen_of {W w1 : World} {B : Nat} (hb : Below B W w1) : ∀ b o, b < B → w1.frozen? ⟨b, o, none⟩ = W.frozen? ⟨b, o, none⟩ := fun b o h => hb.frozen (p := ⟨b, o, none⟩) h
def isSpot (x y : Int) : Bool := inR x 0 1280 && inR y 0 672
theorem isSpot_t {x y : Int} (h : isSpot x y = true) : 0 ≤ x ∧ x ≤ 1280 ∧ 0 ≤ y ∧ y ≤ 672 := by
  unfold isSpot at h
  rw [Bool.and_eq_true] at h
  have h1 := inR_t.1 h.1
  have h2 := inR_t.1 h.2
  omega

theorem implIsSpot (x y : Int) (w : World) :
    Calls Try.prog 48 #[.agg #[.int .i64 x, .int .i64 y]] w fun e w' => e = .returned (.bool (isSpot x y)) ∧ Below w.heap.size w w' := by
  unfold isSpot
  have hb := fun o => (Below.refl w.heap.size w).alloc (Nat.le_refl _) o
  have Hb := Lib.hid hb
  clear hb
  cases hx : inR x 0 1280 <;> cases hy : inR y 0 672
  all_goals
    go_enter Try.func48, Try.ntmps48
    go_wp2_with (go_at_call 49; refine (within_any _ _ _ _).mono ?_; rintro e w' ⟨rfl, rfl⟩)
    go_ret
    exact ⟨rfl, Hb.out _⟩
theorem stGood_any (x y : Int) (w : World) :
    Calls Try.prog 51 #[.agg #[.int .i64 x, .int .i64 y]] w fun e w' => e = .returned (.bool (isSpot x y)) ∧ Below w.heap.size w w' := by
  unfold isSpot
  have hb := fun o => (Below.refl w.heap.size w).alloc (Nat.le_refl _) o
  have Hb := Lib.hid hb
  clear hb
  cases hx : inR x 0 1280 <;> cases hy : inR y 0 672
  all_goals
    go_enter Try.func51, Try.ntmps51
    go_wp2_with (go_at_call 75; refine (l1In_any _ _ _ _).mono ?_; rintro e w' ⟨rfl, rfl⟩)
    go_ret
    exact ⟨rfl, Hb.out _⟩
/-- A frame is valid. -/
def isFrm (x y c r : Int) : Bool := isSpot x y && (x % 8 == 0) && (y % 8 == 0) && inR c 1 60 && inR r 1 30
theorem isFrm_eq {x y c r : Int} {a b d e : Bool} (hs : isSpot x y = true) (ha : (x % 8 == 0) = a) (hb : (y % 8 == 0) = b) (hc : inR c 1 60 = d) (hr : inR r 1 30 = e) : isFrm x y c r = (a && b && d && e) := by
  unfold isFrm; rw [hs, ha, hb, hc, hr]; rfl
set_option maxHeartbeats 3200000 in
theorem implIsFrameOf (x y c r : Int) (w : World) :
    Calls Try.prog 18 #[.agg #[.int .i64 x, .int .i64 y, .int .i64 c, .int .i64 r]] w fun e w' => e = .returned (.bool (isFrm x y c r)) ∧ Below w.heap.size w w' := by
  have ha0 := fun o => (Below.refl w.heap.size w).alloc (Nat.le_refl _) o
  have Ha0 := Lib.hid ha0
  clear ha0
  cases hs : isSpot x y
  · have Hr : Hid (isFrm x y c r = false) := by show _ = _; unfold isFrm; rw [hs]; rfl
    go_enter Try.func18, Try.ntmps18
    go_wp2_with fail
    refine (implIsSpot _ _ _).mono ?_; rintro e w1 ⟨rfl, b1⟩
    have hbb := (Ha0.out _).trans (b1.mono (by simp))
    go_wp2_with fail
    go_ret
    exact ⟨ret_bool Hr.out.symm, hbb⟩
  · obtain ⟨h1, h2, h3, h4⟩ := isSpot_t hs
    cases ha : (x % 8 == 0) <;> cases hb : (y % 8 == 0) <;> cases hc : inR c 1 60 <;> cases hr : inR r 1 30
    all_goals
      have Hr := Lib.hid (isFrm_eq (x := x) (y := y) (c := c) (r := r) hs ha hb hc hr)
      simp only [Bool.and_true, Bool.and_false, Bool.true_and, Bool.false_and] at Hr
      go_enter Try.func18, Try.ntmps18
      go_wp2_with fail
      refine (implIsSpot _ _ _).mono ?_; rintro e w1 ⟨rfl, b1⟩
      have hcc := cell_of b1
      have hbb := (Ha0.out _).trans (b1.mono (by simp))
      go_wp2_with (go_at_call 49; refine (within_any _ _ _ _).mono ?_; rintro e w' ⟨rfl, rfl⟩)
      go_ret
      exact ⟨ret_bool Hr.out.symm, hbb⟩

set_option maxHeartbeats 3200000 in
theorem vwFrame_any (x y c r : Int) (w : World) :
    Calls Try.prog 50 #[.agg #[.int .i64 x, .int .i64 y, .int .i64 c, .int .i64 r]] w fun e w' => e = .returned (.bool (isFrm x y c r)) ∧ Below w.heap.size w w' := by
  have ha0 := fun o => (Below.refl w.heap.size w).alloc (Nat.le_refl _) o
  have Ha0 := Lib.hid ha0
  clear ha0
  cases hs : isSpot x y
  · have Hr : Hid (isFrm x y c r = false) := by show _ = _; unfold isFrm; rw [hs]; rfl
    go_enter Try.func50, Try.ntmps50
    go_wp2_with fail
    refine (stGood_any _ _ _).mono ?_; rintro e w1 ⟨rfl, b1⟩
    have hbb := (Ha0.out _).trans (b1.mono (by simp))
    go_wp2_with fail
    go_ret
    exact ⟨ret_bool Hr.out.symm, hbb⟩
  · obtain ⟨h1, h2, h3, h4⟩ := isSpot_t hs
    cases ha : (x % 8 == 0) <;> cases hb : (y % 8 == 0) <;> cases hc : inR c 1 60 <;> cases hr : inR r 1 30
    all_goals
      have Hr := Lib.hid (isFrm_eq (x := x) (y := y) (c := c) (r := r) hs ha hb hc hr)
      simp only [Bool.and_true, Bool.and_false, Bool.true_and, Bool.false_and] at Hr
      go_enter Try.func50, Try.ntmps50
      go_wp2_with fail
      refine (stGood_any _ _ _).mono ?_; rintro e w1 ⟨rfl, b1⟩
      have hcc := cell_of b1
      have hbb := (Ha0.out _).trans (b1.mono (by simp))
      go_wp2_with (go_at_call 75; refine (l1In_any _ _ _ _).mono ?_; rintro e w' ⟨rfl, rfl⟩)
      go_ret
      exact ⟨ret_bool Hr.out.symm, hbb⟩

theorem specIsFrameOf (x y c r : Int) (w : World) :
    Calls Try.prog 38 #[.agg #[.int .i64 x, .int .i64 y, .int .i64 c, .int .i64 r]] w fun e w' => e = .returned (.bool (isFrm x y c r)) ∧ Below w.heap.size w w' := by
  go_enter Try.func38, Try.ntmps38
  go_wp2_with fail
  refine (vwFrame_any _ _ _ _ _).mono ?_; rintro e w1 ⟨rfl, b1⟩
  have hbb := ((Below.refl w.heap.size w).alloc (Nat.le_refl _) _).trans (b1.mono (by simp))
  go_wp2_with fail
  go_ret
  exact ⟨rfl, hbb⟩
end Go.Proofs.Ytjbffahnbkpcnaa
