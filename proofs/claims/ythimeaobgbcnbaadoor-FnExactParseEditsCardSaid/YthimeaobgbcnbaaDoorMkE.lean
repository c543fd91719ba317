/- Marks of slices of spots and of edits, as the laws' walks call them. -/
import Derived.Test.YthimeaobgbcnbaaDoorRecSpot
import Derived.Test.YthimeaobgbcnbaaDoorRecEdit
set_option linter.unusedSimpArgs false
set_option linter.unusedVariables false
namespace Go.Proofs.YthimeaobgbcnbaaDoor
open Go.RowKit

def MarkPostEdit (w : World) (lo hi : Nat) (v : Value) (k0 : Int) (l : List Edt) (e : Ending) (w' : World) : Prop :=
  e = .returned (.int .i64 (k0 + ((l.length * 6 : Nat) : Int))) ∧ MarkedRow edtRec edtMk w' lo hi v k0 l ∧ w.grownBy w' v.ownBlock ∧ Apart lo hi w w'
theorem markEditN (v : Value) (l : List Edt) (k0 : Int) (lo hi : Nat) (w : World) (h : OwnRowIn edtRec w lo hi v l) (hk0 : 0 ≤ k0) (hk1 : k0 ≤ 1152921504606846976) (hl : l.length ≤ 115292150460684) :
    Calls Tryd.prog 34 #[v, .int .i64 k0] w (MarkPostEdit w lo hi v k0 l) :=
  (markEditR v l k0 lo hi w h hk0 hk1 hl).mono fun e w' ⟨h1, h2, h3, h4⟩ => ⟨h1, h2, h3, h4⟩
theorem heldEditN (v : Value) (l : List Edt) (k0 : Int) (lo hi : Nat) (w : World) (h : MarkedRow edtRec edtMk w lo hi v k0 l) (hk0 : 0 ≤ k0) (hk1 : k0 ≤ 1152921504606846976) (hl : l.length ≤ 115292150460684) :
    Calls Tryd.prog 35 #[v, .int .i64 k0] w fun e w' => e = .returned (.int .i64 (k0 + ((l.length * 6 : Nat) : Int))) ∧ w = w' :=
  (heldEditR v l k0 lo hi w h hk0 hk1 hl).mono fun e w' ⟨h1, h2⟩ => ⟨h1, h2⟩
end Go.Proofs.YthimeaobgbcnbaaDoor
