/- ParseVersions: its contracts as the laws call them. -/
import Derived.Test.YtleiijhnjaagmaaDoorPVS
set_option linter.unusedSimpArgs false
set_option linter.unusedVariables false
namespace Go.Proofs.YtleiijhnjaagmaaDoor
open Go.RowKit

theorem specPV (s : ByteArray) (w : World) {m : Int} (hm : MaxW w m) (hs : s.size ≤ 4194304) : Calls Tryd.prog 11 #[.string s] w (FreshVersB w (rPVs s)) := specParseVersions s m w hm hs
theorem implPV (s : ByteArray) (w : World) {m : Int} (hm : MaxW w m) (hs : s.size ≤ 4194304) : Calls Tryd.prog 12 #[.string s] w (FreshVersB w (rPVs s)) := implParseVersions s m w hm hs
end Go.Proofs.YtleiijhnjaagmaaDoor
