/- Contracts of the functions on versions. -/
import Derived.Test.YtleiijhnjaagmaaDoorVersH
set_option linter.unusedSimpArgs false
set_option linter.unusedVariables false
namespace Go.Proofs.YtleiijhnjaagmaaDoor
open Go.RowKit

end Go.Proofs.YtleiijhnjaagmaaDoor
