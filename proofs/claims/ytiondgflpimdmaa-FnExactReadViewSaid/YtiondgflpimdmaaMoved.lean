/- Contracts of MovedCells, in the program and in the reference. -/
import Derived.Test.YtiondgflpimdmaaChartI
import Derived.Test.YtiondgflpimdmaaCell
import Derived.Deep.DeepCutAuto
set_option linter.unusedSimpArgs false
set_option linter.unusedVariables false
namespace Go.Proofs.Ytiondgflpimdmaa
open Go.RowKit

/-- A frame in a box. -/
def Box4 (w : World) (b : Nat) (x y c r : Int) : Prop :=
  w.cell? ⟨b, 0, none⟩ = some (.int .i64 x) ∧ w.cell? ⟨b, 1, none⟩ = some (.int .i64 y) ∧ w.cell? ⟨b, 2, none⟩ = some (.int .i64 c) ∧ w.cell? ⟨b, 3, none⟩ = some (.int .i64 r)
theorem Box4.out {w : World} {b : Nat} {x y c r : Int} (h : Box4 w b x y c r) : w.cell? ⟨b, 0, none⟩ = some (.int .i64 x) ∧ w.cell? ⟨b, 1, none⟩ = some (.int .i64 y) ∧ w.cell? ⟨b, 2, none⟩ = some (.int .i64 c) ∧ w.cell? ⟨b, 3, none⟩ = some (.int .i64 r) := h
theorem Box4.keep {w w' : World} {b B : Nat} {x y c r : Int} (h : Box4 w b x y c r) (hb : Below B w w') (hB : w.heap.size ≤ B) : Box4 w' b x y c r := by
  obtain ⟨h0, h1, h2, h3⟩ := h
  exact ⟨Below.keepC hb h0 hB, Below.keepC hb h1 hB, Below.keepC hb h2 hB, Below.keepC hb h3 hB⟩
theorem Box4.lt {w : World} {b : Nat} {x y c r : Int} (h : Box4 w b x y c r) : b < w.heap.size := World.block_lt_of_cell? w _ h.1
end Go.Proofs.Ytiondgflpimdmaa
