/-
  DERIVED. GIVEN WITH THE SEED: THE CARDS: each row of YthimeaobgbcnbaaDoorRows.lean that lists a variable, with what it lists TIED to the program's text (the seventh form; the later family's looks); each row that meets fmt, with fmt's text TOLD by the authors' own Lean function (tested against real Go, not proved from fmt's source: count such statements apart). THE CARD IS WHAT COUNTS. Prove the row's statement (the work); the ties are given (YthimeaobgbcnbaaDoorTie.lean); close each card by the builder's one call (the guide's Derived/Test/ToyasCard.lean, 'card_holds'). Laid BY PROGRAM, IN A SANDBOX (cutbox-door.mjs). By AI agents, Wed Nov 11 2026. No macro, syntax, notation, axiom, sorry.
-/
import Derived.Test.YthimeaobgbcnbaaDoorRows
import GoSem.ClaimSeven
namespace Go.Proofs.YthimeaobgbcnbaaDoor
namespace Rows

/-- THE TIED CARD OF 'laws.FnRebased'. -/
def fnRebasedCard : Claim7 := { stood := { row := fnRebasedRow, standIns := [], harness := (true, "c1fd107f2eb5a41c4435e66d1db48424736b16f39a4d75384cbd45d927f7e895"), looks := false }, kinds := [], alts := [], laidByText := true, laidKinds := [.data, .data, .data], laidTests := true, laidLooks := .later }
def FnRebasedCardSaid : Prop := Claim7.holds Tryd.pinned (.plain (OpenSpec.ofChange fnRebasedSpec)) fnRebasedCard

/-- THE TIED CARD OF 'laws.FnExactConflictText'. -/
def fnExactConflictTextCard : Claim7 := { stood := { row := fnExactConflictTextRow, standIns := [], harness := (true, "c1fd107f2eb5a41c4435e66d1db48424736b16f39a4d75384cbd45d927f7e895"), looks := false }, kinds := [], alts := [], laidByText := true, laidKinds := [.data, .data, .data], laidTests := true, laidLooks := .later }
def FnExactConflictTextCardSaid : Prop := Claim7.holds Tryd.pinned (.plain (OpenSpec.ofChange fnExactConflictTextSpec)) fnExactConflictTextCard

/-- THE TIED CARD OF 'laws.FnExactParseEdits'. -/
def fnExactParseEditsCard : Claim7 := { stood := { row := fnExactParseEditsRow, standIns := [], harness := (true, "c1fd107f2eb5a41c4435e66d1db48424736b16f39a4d75384cbd45d927f7e895"), looks := false }, kinds := [], alts := [], laidByText := true, laidKinds := [.data, .pinned], laidTests := true, laidLooks := .later }
def FnExactParseEditsCardSaid : Prop := Claim7.holds Tryd.pinned (.plain (OpenSpec.ofChange fnExactParseEditsSpec)) fnExactParseEditsCard

/-- THE SECOND FORM's CARD OF 'laws.FnRebased'. -/
def fnRebasedUptoCard : Claim7 := { stood := { row := fnRebasedUptoRow, standIns := [], harness := (true, "c1fd107f2eb5a41c4435e66d1db48424736b16f39a4d75384cbd45d927f7e895"), looks := false }, kinds := [], alts := [], laidByText := true, laidKinds := [.data, .data, .data], laidTests := true, laidLooks := .later }
def FnRebasedUptoCardSaid : Prop := Claim7.holds Tryd.pinned (.plain (OpenSpec.upto fnRebasedSpec)) fnRebasedUptoCard

/-- THE SECOND FORM's CARD OF 'laws.FnExactConflictText'. -/
def fnExactConflictTextUptoCard : Claim7 := { stood := { row := fnExactConflictTextUptoRow, standIns := [], harness := (true, "c1fd107f2eb5a41c4435e66d1db48424736b16f39a4d75384cbd45d927f7e895"), looks := false }, kinds := [], alts := [], laidByText := true, laidKinds := [.data, .data, .data], laidTests := true, laidLooks := .later }
def FnExactConflictTextUptoCardSaid : Prop := Claim7.holds Tryd.pinned (.plain (OpenSpec.upto fnExactConflictTextSpec)) fnExactConflictTextUptoCard

/-- THE SECOND FORM's CARD OF 'laws.FnExactParseEdits'. -/
def fnExactParseEditsUptoCard : Claim7 := { stood := { row := fnExactParseEditsUptoRow, standIns := [], harness := (true, "c1fd107f2eb5a41c4435e66d1db48424736b16f39a4d75384cbd45d927f7e895"), looks := false }, kinds := [], alts := [], laidByText := true, laidKinds := [.data, .pinned], laidTests := true, laidLooks := .later }
def FnExactParseEditsUptoCardSaid : Prop := Claim7.holds Tryd.pinned (.plain (OpenSpec.upto fnExactParseEditsSpec)) fnExactParseEditsUptoCard
end Rows
end Go.Proofs.YthimeaobgbcnbaaDoor
