/- The walk of the law FnExactIsFrameOf. -/
import Derived.Test.YtnfnpidopifecaaSpot
import Derived.Test.YtnfnpidopifecaaOpen
set_option linter.unusedSimpArgs false
set_option linter.unusedVariables false
namespace Go.Proofs.Ytnfnpidopifecaa
open Go.RowKit

theorem FnExactIsFrameOf_walk (x y c r : Int) (w : World) :
    Calls Try.prog 3 #[.agg #[.int .i64 x, .int .i64 y, .int .i64 c, .int .i64 r]] w (LawPost w) := by
  have ha0 := fun o => (Below.refl w.heap.size w).alloc (Nat.le_refl _) o
  have Ha0 := Lib.hid ha0
  clear ha0
  go_enter Try.func3, Try.ntmps3
  go_wp2_with fail
  refine (toFrame_any _ _ _ _ _).mono ?_; rintro e w1 ⟨rfl, b1⟩
  go_wp2_with fail
  refine (specIsFrameOf _ _ _ _ _).mono ?_; rintro e w2 ⟨rfl, b2⟩
  have b12 := b1.trans (b2.mono b1.size)
  have hc := cell_of b12
  go_wp2_with fail
  refine (toFrame_any _ _ _ _ _).mono ?_; rintro e w3 ⟨rfl, b3⟩
  go_wp2_with fail
  refine (implIsFrameOf _ _ _ _ _).mono ?_; rintro e w4 ⟨rfl, b4⟩
  have b34 := b12.trans ((b3.trans (b4.mono b3.size)).mono b12.size)
  have hb := (Ha0.out _).trans (b34.mono (by simp))
  go_wp2_with fail
  go_ret
  exact ⟨rfl, hb⟩
end Go.Proofs.Ytnfnpidopifecaa
