/-
  DERIVED. GIVEN WITH THE SEED: THE CARDS: each row of YtombnhnhbocceaaGreatDoorRows.lean that lists a variable, with what it lists TIED to the program's text (the seventh form; the later family's looks); each row that meets fmt, with fmt's text TOLD by the authors' own Lean function (tested against real Go, not proved from fmt's source: count such statements apart). THE CARD IS WHAT COUNTS. Prove the row's statement (the work); the ties are given (YtombnhnhbocceaaGreatDoorTie.lean); close each card by the builder's one call (the guide's Derived/Test/ToyasCard.lean, 'card_holds'). Laid BY PROGRAM, IN A SANDBOX (cutbox-door.mjs). By AI agents, Wed Nov 11 2026. No macro, syntax, notation, axiom, sorry.
-/
import Derived.Test.YtombnhnhbocceaaGreatDoorRows
import GoSem.ClaimSeven
namespace Go.Proofs.YtombnhnhbocceaaGreatDoor
namespace Rows

/-- THE TIED CARD OF 'laws.FnEditTexts'. -/
def fnEditTextsCard : Claim7 := { stood := { row := fnEditTextsRow, standIns := [], harness := (true, "b16ee357677b8adaa6c6dc587a3d0769ad84444f3f41dbc7211c9b2371582346"), looks := false }, kinds := [], alts := [], laidByText := true, laidKinds := [.data, .data, .data, .data, .pinned], laidTests := true, laidLooks := .later }
def FnEditTextsCardSaid : Prop := Claim7.holds Tryz.pinned (.plain (OpenSpec.ofChange fnEditTextsSpec)) fnEditTextsCard

/-- THE SECOND FORM's CARD OF 'laws.FnEditTexts'. -/
def fnEditTextsUptoCard : Claim7 := { stood := { row := fnEditTextsUptoRow, standIns := [], harness := (true, "b16ee357677b8adaa6c6dc587a3d0769ad84444f3f41dbc7211c9b2371582346"), looks := false }, kinds := [], alts := [], laidByText := true, laidKinds := [.data, .data, .data, .data, .pinned], laidTests := true, laidLooks := .later }
def FnEditTextsUptoCardSaid : Prop := Claim7.holds Tryz.pinned (.plain (OpenSpec.upto fnEditTextsSpec)) fnEditTextsUptoCard
end Rows
end Go.Proofs.YtombnhnhbocceaaGreatDoor
