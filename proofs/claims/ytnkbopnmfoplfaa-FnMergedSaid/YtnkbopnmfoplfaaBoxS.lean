/- A spot in a box of its own. No function of the program. -/
import Derived.Test.YtnkbopnmfoplfaaRecSpot
import Derived.Test.YtnkbopnmfoplfaaMark
import Derived.Test.YtnkbopnmfoplfaaHelp
import Derived.Laws.Rows
import Derived.Deep.DeepCutAuto
set_option linter.unusedSimpArgs false
set_option linter.unusedVariables false
namespace Go.Proofs.Ytnkbopnmfoplfaa
open Go.RowKit

/-- A spot in a box of its own. -/
def BoxS (w : World) (b : Nat) (x y : Int) : Prop := w.heap[b]? = some (.cells #[.int .i64 x, .int .i64 y] 42 (0, 0))
theorem BoxS.new (w : World) (x y : Int) : BoxS (w.alloc (.cells #[.int .i64 x, .int .i64 y] 42)) w.heap.size x y := by
  show (w.heap.push _)[w.heap.size]? = _
  rw [Array.getElem?_push_size]
theorem BoxS.lt {w : World} {b : Nat} {x y : Int} (h : BoxS w b x y) : b < w.heap.size := (Array.getElem?_eq_some_iff.1 h).1
theorem BoxS.keep {w w' : World} {b B : Nat} {x y : Int} (h : BoxS w b x y) (hb : Below B w w') (hB : w.heap.size ≤ B) : BoxS w' b x y := (hb.block b (by have := h.lt; omega)).trans h
theorem heap_alloc_old' (w : World) (o : Obj) {i : Nat} (h : i < w.heap.size) : (w.alloc o).heap[i]? = w.heap[i]? := by show (w.heap.push o)[i]? = _; rw [Array.getElem?_push_lt h, Array.getElem?_eq_getElem h]
theorem BoxS.al {w : World} {b : Nat} {x y : Int} (h : BoxS w b x y) (o : Obj) : BoxS (w.alloc o) b x y := (heap_alloc_old' w o h.lt).trans h
theorem BoxS.cells {w : World} {b : Nat} {x y : Int} (h : BoxS w b x y) : w.cell? ⟨b, 0, none⟩ = some (.int .i64 x) ∧ w.cell? ⟨b, 1, none⟩ = some (.int .i64 y) ∧ w.frozen? ⟨b, 0, none⟩ = false ∧ w.frozen? ⟨b, 1, none⟩ = false :=
  ⟨by rw [cell_of_row w b 0 _ _ _ h]; rfl, by rw [cell_of_row w b 1 _ _ _ h]; rfl, frozen_of_row w b 0 _ _ h, frozen_of_row w b 1 _ _ h⟩
theorem BoxS.set {w : World} {b : Nat} {x y : Int} (h : BoxS w b x y) (x' y' : Int) : BoxS ((w.setCell ⟨b, 0, none⟩ (.int .i64 x')).setCell ⟨b, 1, none⟩ (.int .i64 y')) b x' y' := by
  have h1 : (w.setCell ⟨b, 0, none⟩ (.int .i64 x')).heap[b]? = some (.cells #[.int .i64 x', .int .i64 y] 42 (0, 0)) := heap_setCell_same w b 0 _ _ _ h
  exact heap_setCell_same _ b 1 _ _ _ h1
theorem below_set2 {B : Nat} {w0 w : World} (h : Below B w0 w) {b : Nat} (hb : B ≤ b) (x y : Value) : Below B w0 ((w.setCell ⟨b, 0, none⟩ x).setCell ⟨b, 1, none⟩ y) := (h.setCell (p := ⟨b, 0, none⟩) hb x).setCell (p := ⟨b, 1, none⟩) hb y
end Go.Proofs.Ytnkbopnmfoplfaa
