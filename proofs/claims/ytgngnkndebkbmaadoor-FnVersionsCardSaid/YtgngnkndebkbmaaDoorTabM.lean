/- The library's variable MaxLen holds an integer in every world that a claim speaks of. -/
import Derived.Test.YtgngnkndebkbmaaDoorPV
import Derived.Shelf.LaysM
import Derived.KernelRfl
set_option linter.unusedSimpArgs false
set_option linter.unusedVariables false
namespace Go.Proofs.YtgngnkndebkbmaaDoor
open Go.RowKit

theorem maxLen_of {W : World} (h : W.ShapedOpen Tryd.prog) : ∃ m, MaxW W m :=
  Go.Proofs.cell_of_shapedOpen_int (zero := #[.int .i64 0]) (t := 3) h (of_decide_eq_true (by kernel_rfl)) (by kernel_rfl) rfl (by kernel_rfl) (by kernel_rfl) Tryd.underlying3
end Go.Proofs.YtgngnkndebkbmaaDoor
