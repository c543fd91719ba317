/- Contracts: the cell of a spot, in the program and in the reference. -/
import Derived.Test.YtiondgflpimdmaaSpot
import Derived.Deep.QuietTactic
import Derived.BigQuiet
set_option linter.unusedSimpArgs false
set_option linter.unusedVariables false
namespace Go.Proofs.Ytiondgflpimdmaa
open Go.RowKit

theorem tdiv8 (a : Int) (h : a < 0) : a.tdiv 8 = -((-a) / 8) := by
  obtain ⟨m, rfl⟩ : ∃ m : Int, a = -m := ⟨-a, by omega⟩
  rw [Int.neg_tdiv, Int.tdiv_eq_ediv_of_nonneg (by omega), Int.neg_neg]
theorem tmod8 (a : Int) (h : a < 0) : a.tmod 8 = -((-a) % 8) := by
  obtain ⟨m, rfl⟩ : ∃ m : Int, a = -m := ⟨-a, by omega⟩
  rw [Int.neg_tmod, Int.tmod_eq_emod_of_nonneg (by omega), Int.neg_neg]
/-- The cell of a spot in a frame. -/
def cellAt (fx fy fc fr x y : Int) : Int × Int × Bool :=
  if inR ((x - fx) / 8) 0 (fc - 1) && inR ((y - fy) / 8) 0 (fr - 1) then ((x - fx) / 8, (y - fy) / 8, true) else (0, 0, false)

/-- What CellOf returns. -/
def rCell (fx fy fc fr x y : Int) : Int × Int × Bool := if isFrm fx fy fc fr && isSpot x y then cellAt fx fy fc fr x y else (0, 0, false)

end Go.Proofs.Ytiondgflpimdmaa
