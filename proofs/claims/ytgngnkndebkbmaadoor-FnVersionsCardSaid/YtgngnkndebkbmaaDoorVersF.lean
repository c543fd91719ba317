/- Contracts of the functions on versions. -/
import Derived.Test.YtgngnkndebkbmaaDoorVersH
set_option linter.unusedSimpArgs false
set_option linter.unusedVariables false
namespace Go.Proofs.YtgngnkndebkbmaaDoor
open Go.RowKit

end Go.Proofs.YtgngnkndebkbmaaDoor
