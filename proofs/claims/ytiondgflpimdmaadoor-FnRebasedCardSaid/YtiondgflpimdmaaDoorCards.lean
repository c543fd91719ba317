/-
  DERIVED. GIVEN WITH THE SEED: THE CARDS: each row of YtiondgflpimdmaaDoorRows.lean that lists a variable, with what it lists TIED to the program's text (the seventh form; the later family's looks); each row that meets fmt, with fmt's text TOLD by the authors' own Lean function (tested against real Go, not proved from fmt's source: count such statements apart). THE CARD IS WHAT COUNTS. Prove the row's statement (the work); the ties are given (YtiondgflpimdmaaDoorTie.lean); close each card by the builder's one call (the guide's Derived/Test/ToyasCard.lean, 'card_holds'). Laid BY PROGRAM, IN A SANDBOX (cutbox-door.mjs). By AI agents, Wed Nov 11 2026. No macro, syntax, notation, axiom, sorry.
-/
import Derived.Test.YtiondgflpimdmaaDoorRows
import GoSem.ClaimSeven
namespace Go.Proofs.YtiondgflpimdmaaDoor
namespace Rows

/-- THE TIED CARD OF 'laws.FnRebased'. -/
def fnRebasedCard : Claim7 := { stood := { row := fnRebasedRow, standIns := [], harness := (true, "1d4683ef2b17c8ba7418932d97cbb2ad51d67306905981330c460fdf9264126b"), looks := false }, kinds := [], alts := [], laidByText := true, laidKinds := [.data, .data, .data], laidTests := true, laidLooks := .later }
def FnRebasedCardSaid : Prop := Claim7.holds Tryd.pinned (.plain (OpenSpec.ofChange fnRebasedSpec)) fnRebasedCard

/-- THE TIED CARD OF 'laws.FnExactTimeText'. -/
def fnExactTimeTextCard : Claim7 := { stood := { row := fnExactTimeTextRow, standIns := [], harness := (true, "1d4683ef2b17c8ba7418932d97cbb2ad51d67306905981330c460fdf9264126b"), looks := false }, kinds := [], alts := [], laidByText := true, laidKinds := [.data, .data, .data], laidTests := true, laidLooks := .later }
def FnExactTimeTextCardSaid : Prop := Claim7.holds Tryd.pinned (.plain (OpenSpec.ofChange fnExactTimeTextSpec)) fnExactTimeTextCard

/-- THE SECOND FORM's CARD OF 'laws.FnRebased'. -/
def fnRebasedUptoCard : Claim7 := { stood := { row := fnRebasedUptoRow, standIns := [], harness := (true, "1d4683ef2b17c8ba7418932d97cbb2ad51d67306905981330c460fdf9264126b"), looks := false }, kinds := [], alts := [], laidByText := true, laidKinds := [.data, .data, .data], laidTests := true, laidLooks := .later }
def FnRebasedUptoCardSaid : Prop := Claim7.holds Tryd.pinned (.plain (OpenSpec.upto fnRebasedSpec)) fnRebasedUptoCard

/-- THE SECOND FORM's CARD OF 'laws.FnExactTimeText'. -/
def fnExactTimeTextUptoCard : Claim7 := { stood := { row := fnExactTimeTextUptoRow, standIns := [], harness := (true, "1d4683ef2b17c8ba7418932d97cbb2ad51d67306905981330c460fdf9264126b"), looks := false }, kinds := [], alts := [], laidByText := true, laidKinds := [.data, .data, .data], laidTests := true, laidLooks := .later }
def FnExactTimeTextUptoCardSaid : Prop := Claim7.holds Tryd.pinned (.plain (OpenSpec.upto fnExactTimeTextSpec)) fnExactTimeTextUptoCard
end Rows
end Go.Proofs.YtiondgflpimdmaaDoor
