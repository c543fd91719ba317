/- Contract of IsChart in the program; pairs of charts; copies of charts. -/
import Derived.Test.YtombnhnhbocceaaGreatDoorChart
import Derived.Test.YtombnhnhbocceaaGreatDoorMark
import Derived.Deep.RegionWith
set_option linter.unusedSimpArgs false
set_option linter.unusedVariables false
namespace Go.Proofs.YtombnhnhbocceaaGreatDoor
open Go.RowKit

end Go.Proofs.YtombnhnhbocceaaGreatDoor
