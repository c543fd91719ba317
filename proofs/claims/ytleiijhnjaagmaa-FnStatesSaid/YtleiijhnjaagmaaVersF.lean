/- Contracts of the functions on versions. -/
import Derived.Test.YtleiijhnjaagmaaVersH
set_option linter.unusedSimpArgs false
set_option linter.unusedVariables false
namespace Go.Proofs.Ytleiijhnjaagmaa
open Go.RowKit

theorem specAreVersions (v : Value) (l : List Ver) (w : World) (h : VersAt w v l) :
    Calls Try.prog 14 #[v] w fun e w' => e = .returned (.bool (areVers l)) ∧ Below w.heap.size w w' := by
  go_enter Try.func14, Try.ntmps14
  go_wp2_with fail
  refine (vrGood_any _ l _ h).mono ?_; rintro e w1 ⟨rfl, b1⟩
  go_wp2_with fail
  go_ret
  exact ⟨rfl, b1⟩
end Go.Proofs.Ytleiijhnjaagmaa
