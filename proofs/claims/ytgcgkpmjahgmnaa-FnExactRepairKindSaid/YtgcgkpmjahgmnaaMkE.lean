/- Marks of slices of spots and of edits, as the laws' walks call them. -/
import Derived.Test.YtgcgkpmjahgmnaaRecSpot
set_option linter.unusedSimpArgs false
set_option linter.unusedVariables false
namespace Go.Proofs.Ytgcgkpmjahgmnaa
open Go.RowKit

end Go.Proofs.Ytgcgkpmjahgmnaa
