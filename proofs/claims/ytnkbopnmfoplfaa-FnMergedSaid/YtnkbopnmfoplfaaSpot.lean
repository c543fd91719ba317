/- Contracts: spots, frames of views and cells, in the program and in the reference. -/
import Derived.Test.YtnkbopnmfoplfaaHelp
import Derived.Deep.RegionWith
set_option linter.unusedSimpArgs false
set_option linter.unusedVariables false
namespace Go.Proofs.Ytnkbopnmfoplfaa
open Go.RowKit

theorem cell_of {W w1 : World} {B : Nat} (hb : Below B W w1) : ∀ b o, b < B → w1.cell? ⟨b, o, none⟩ = W.cell? ⟨b, o, none⟩ := fun b o h => hb.cell (p := ⟨b, o, none⟩) h
theorem frozen_of {W w1 : World} {B : Nat} (hb : Below B W w1) : ∀ b o, b < B → w1.frozen? ⟨b, o, none⟩ = W.frozen? ⟨b, o, none⟩ := fun b o h => hb.frozen (p := ⟨b, o, none⟩) h
def isSpot (x y : Int) : Bool := inR x 0 1280 && inR y 0 672
theorem isSpot_t {x y : Int} (h : isSpot x y = true) : 0 ≤ x ∧ x ≤ 1280 ∧ 0 ≤ y ∧ y ≤ 672 := by
  unfold isSpot at h
  rw [Bool.and_eq_true] at h
  have h1 := inR_t.1 h.1
  have h2 := inR_t.1 h.2
  omega

theorem implIsSpot (x y : Int) (w : World) :
    Calls Try.prog 40 #[.agg #[.int .i64 x, .int .i64 y]] w fun e w' => e = .returned (.bool (isSpot x y)) ∧ Below w.heap.size w w' := by
  unfold isSpot
  have hb := fun o => (Below.refl w.heap.size w).alloc (Nat.le_refl _) o
  have Hb := Lib.hid hb
  clear hb
  cases hx : inR x 0 1280 <;> cases hy : inR y 0 672
  all_goals
    go_enter Try.func40, Try.ntmps40
    go_wp2_with (go_at_call 39; refine (within_any _ _ _ _).mono ?_; rintro e w' ⟨rfl, rfl⟩)
    go_ret
    exact ⟨rfl, Hb.out _⟩
theorem stGood_any (x y : Int) (w : World) :
    Calls Try.prog 45 #[.agg #[.int .i64 x, .int .i64 y]] w fun e w' => e = .returned (.bool (isSpot x y)) ∧ Below w.heap.size w w' := by
  unfold isSpot
  have hb := fun o => (Below.refl w.heap.size w).alloc (Nat.le_refl _) o
  have Hb := Lib.hid hb
  clear hb
  cases hx : inR x 0 1280 <;> cases hy : inR y 0 672
  all_goals
    go_enter Try.func45, Try.ntmps45
    go_wp2_with (go_at_call 46; refine (l1In_any _ _ _ _).mono ?_; rintro e w' ⟨rfl, rfl⟩)
    go_ret
    exact ⟨rfl, Hb.out _⟩
/-- A frame is valid. -/
def isFrm (x y c r : Int) : Bool := isSpot x y && (x % 8 == 0) && (y % 8 == 0) && inR c 1 60 && inR r 1 30
theorem isFrm_eq {x y c r : Int} {a b d e : Bool} (hs : isSpot x y = true) (ha : (x % 8 == 0) = a) (hb : (y % 8 == 0) = b) (hc : inR c 1 60 = d) (hr : inR r 1 30 = e) : isFrm x y c r = (a && b && d && e) := by
  unfold isFrm; rw [hs, ha, hb, hc, hr]; rfl
end Go.Proofs.Ytnkbopnmfoplfaa
