/- Marks of slices of spots and of edits, as the laws' walks call them. -/
import Derived.Test.YtiondgflpimdmaaRecSpot
set_option linter.unusedSimpArgs false
set_option linter.unusedVariables false
namespace Go.Proofs.Ytiondgflpimdmaa
open Go.RowKit

def MarkPostSpot (w : World) (lo hi : Nat) (v : Value) (k0 : Int) (l : List Spt) (e : Ending) (w' : World) : Prop :=
  e = .returned (.int .i64 (k0 + ((l.length * 2 : Nat) : Int))) ∧ MarkedRow sptRec sptMk w' lo hi v k0 l ∧ w.grownBy w' v.ownBlock ∧ Apart lo hi w w'
theorem markSpotN (v : Value) (l : List Spt) (k0 : Int) (lo hi : Nat) (w : World) (h : OwnRowIn sptRec w lo hi v l) (hk0 : 0 ≤ k0) (hk1 : k0 ≤ 1152921504606846976) (hl : l.length ≤ 115292150460684) :
    Calls Try.prog 12 #[v, .int .i64 k0] w (MarkPostSpot w lo hi v k0 l) :=
  (markSpotR v l k0 lo hi w h hk0 hk1 hl).mono fun e w' ⟨h1, h2, h3, h4⟩ => ⟨h1, h2, h3, h4⟩
theorem heldSpotN (v : Value) (l : List Spt) (k0 : Int) (lo hi : Nat) (w : World) (h : MarkedRow sptRec sptMk w lo hi v k0 l) (hk0 : 0 ≤ k0) (hk1 : k0 ≤ 1152921504606846976) (hl : l.length ≤ 115292150460684) :
    Calls Try.prog 13 #[v, .int .i64 k0] w fun e w' => e = .returned (.int .i64 (k0 + ((l.length * 2 : Nat) : Int))) ∧ w = w' :=
  (heldSpotR v l k0 lo hi w h hk0 hk1 hl).mono fun e w' ⟨h1, h2⟩ => ⟨h1, h2⟩
end Go.Proofs.Ytiondgflpimdmaa
