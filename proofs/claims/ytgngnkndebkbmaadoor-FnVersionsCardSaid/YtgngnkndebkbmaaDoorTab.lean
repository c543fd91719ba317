/- From the row's list of laid variables to the table of powers of ten. -/
import Derived.Test.YtgngnkndebkbmaaDoorVTextB
import Derived.Lib.LaidTab
import Derived.LaidSub
import Derived.KernelRfl
set_option linter.unusedSimpArgs false
set_option linter.unusedVariables false
namespace Go.Proofs.YtgngnkndebkbmaaDoor
open Go.RowKit

theorem gPow10 : Tryd.prog.globalNamed "internal/strconv.uint64pow10" = some 1 := by kernel_rfl
theorem gPow10Type : (Tryd.prog.globals[1]?).map (·.type) = some 107 := by kernel_rfl
theorem pow10_of {l : List (String × DataW Unit)} {W : World} (h : laidMetH Tryd.prog l W)
    (hf : l.filter (fun x => x.1 == "internal/strconv.uint64pow10") = [("internal/strconv.uint64pow10", Lib.tabData .u64 Lib.pow10Tab)]) : Pow10 W := by
  have h2 := laidMetH.filter (fun x => x.1 == "internal/strconv.uint64pow10") h
  rw [hf] at h2
  exact Lib.tabIs_of_head (rest := []) gPow10 gPow10Type Tryd.underlying107 Tryd.underlying64 (by kernel_rfl) (by kernel_rfl) h2
end Go.Proofs.YtgngnkndebkbmaaDoor
