/- The walk of the law FnExactTimeText: whatever the arguments, it returns true and writes nothing that was there. -/
import Derived.Test.YtiondgflpimdmaaDoorTi
import Derived.Test.YtiondgflpimdmaaDoorOpen
import Derived.Test.YtiondgflpimdmaaDoorMark
import Derived.Deep.DeepCutAuto
import Derived.Deep.RegionWith
set_option linter.unusedSimpArgs false
set_option linter.unusedVariables false
namespace Go.Proofs.YtiondgflpimdmaaDoor
open Go.RowKit

set_option maxRecDepth 100000 in
set_option maxHeartbeats 400000 in
theorem FnExactTimeText_walk (a0 : Int) (w : World) (f0 : -9223372036854775808 ≤ a0 ∧ a0 ≤ 9223372036854775807) (hPow : Pow10 w) :
    Calls Tryd.prog 4 #[.int .i64 a0] w (LawPost w) := by
  obtain ⟨fl0, fh0⟩ := f0
  go_enter Tryd.func4, Tryd.ntmps4
  go_wp2_with fail
  refine (specTi _ _  (hPow.below (Below.refl w.heap.size w) (Nat.le_refl _)) ).mono ?_; rintro e w1 ⟨rfl, b1⟩
  have s1 := b1.size
  have B1 := ((Below.refl w.heap.size w)).next (by omega) b1
  go_wp2_with fail
  refine (implTi _ _  (hPow.below B1 (Nat.le_refl _)) ).mono ?_; rintro e w2 ⟨rfl, b2⟩
  have s2 := b2.size
  have B2 := (B1).next (by omega) b2
  go_wp2_with fail
  go_ret
  exact ⟨rfl, B2⟩
end Go.Proofs.YtiondgflpimdmaaDoor
