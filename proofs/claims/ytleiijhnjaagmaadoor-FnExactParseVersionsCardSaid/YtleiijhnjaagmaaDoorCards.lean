/-
  DERIVED. GIVEN WITH THE SEED: THE CARDS: each row of YtleiijhnjaagmaaDoorRows.lean that lists a variable, with what it lists TIED to the program's text (the seventh form; the later family's looks); each row that meets fmt, with fmt's text TOLD by the authors' own Lean function (tested against real Go, not proved from fmt's source: count such statements apart). THE CARD IS WHAT COUNTS. Prove the row's statement (the work); the ties are given (YtleiijhnjaagmaaDoorTie.lean); close each card by the builder's one call (the guide's Derived/Test/ToyasCard.lean, 'card_holds'). Laid BY PROGRAM, IN A SANDBOX (cutbox-door.mjs). By AI agents, Wed Nov 11 2026. No macro, syntax, notation, axiom, sorry.
-/
import Derived.Test.YtleiijhnjaagmaaDoorRows
import GoSem.ClaimSeven
namespace Go.Proofs.YtleiijhnjaagmaaDoor
namespace Rows

/-- THE TIED CARD OF 'laws.FnExactVersionsText'. -/
def fnExactVersionsTextCard : Claim7 := { stood := { row := fnExactVersionsTextRow, standIns := [], harness := (true, "a54eea238c36ce4a7f588a05751bf2daa3e4690e69707b90817ed7ae5bd014c3"), looks := false }, kinds := [], alts := [], laidByText := true, laidKinds := [.data, .data, .data], laidTests := true, laidLooks := .later }
def FnExactVersionsTextCardSaid : Prop := Claim7.holds Tryd.pinned (.plain (OpenSpec.ofChange fnExactVersionsTextSpec)) fnExactVersionsTextCard

/-- THE TIED CARD OF 'laws.FnExactParseVersions'. -/
def fnExactParseVersionsCard : Claim7 := { stood := { row := fnExactParseVersionsRow, standIns := [], harness := (true, "a54eea238c36ce4a7f588a05751bf2daa3e4690e69707b90817ed7ae5bd014c3"), looks := false }, kinds := [], alts := [], laidByText := true, laidKinds := [.data, .pinned], laidTests := true, laidLooks := .later }
def FnExactParseVersionsCardSaid : Prop := Claim7.holds Tryd.pinned (.plain (OpenSpec.ofChange fnExactParseVersionsSpec)) fnExactParseVersionsCard

/-- THE TIED CARD OF 'laws.FnVersions'. -/
def fnVersionsCard : Claim7 := { stood := { row := fnVersionsRow, standIns := [], harness := (true, "a54eea238c36ce4a7f588a05751bf2daa3e4690e69707b90817ed7ae5bd014c3"), looks := false }, kinds := [], alts := [], laidByText := true, laidKinds := [.data, .data, .data, .data, .pinned], laidTests := true, laidLooks := .later }
def FnVersionsCardSaid : Prop := Claim7.holds Tryd.pinned (.plain (OpenSpec.ofChange fnVersionsSpec)) fnVersionsCard

/-- THE SECOND FORM's CARD OF 'laws.FnExactVersionsText'. -/
def fnExactVersionsTextUptoCard : Claim7 := { stood := { row := fnExactVersionsTextUptoRow, standIns := [], harness := (true, "a54eea238c36ce4a7f588a05751bf2daa3e4690e69707b90817ed7ae5bd014c3"), looks := false }, kinds := [], alts := [], laidByText := true, laidKinds := [.data, .data, .data], laidTests := true, laidLooks := .later }
def FnExactVersionsTextUptoCardSaid : Prop := Claim7.holds Tryd.pinned (.plain (OpenSpec.upto fnExactVersionsTextSpec)) fnExactVersionsTextUptoCard

/-- THE SECOND FORM's CARD OF 'laws.FnExactParseVersions'. -/
def fnExactParseVersionsUptoCard : Claim7 := { stood := { row := fnExactParseVersionsUptoRow, standIns := [], harness := (true, "a54eea238c36ce4a7f588a05751bf2daa3e4690e69707b90817ed7ae5bd014c3"), looks := false }, kinds := [], alts := [], laidByText := true, laidKinds := [.data, .pinned], laidTests := true, laidLooks := .later }
def FnExactParseVersionsUptoCardSaid : Prop := Claim7.holds Tryd.pinned (.plain (OpenSpec.upto fnExactParseVersionsSpec)) fnExactParseVersionsUptoCard

/-- THE SECOND FORM's CARD OF 'laws.FnVersions'. -/
def fnVersionsUptoCard : Claim7 := { stood := { row := fnVersionsUptoRow, standIns := [], harness := (true, "a54eea238c36ce4a7f588a05751bf2daa3e4690e69707b90817ed7ae5bd014c3"), looks := false }, kinds := [], alts := [], laidByText := true, laidKinds := [.data, .data, .data, .data, .pinned], laidTests := true, laidLooks := .later }
def FnVersionsUptoCardSaid : Prop := Claim7.holds Tryd.pinned (.plain (OpenSpec.upto fnVersionsSpec)) fnVersionsUptoCard
end Rows
end Go.Proofs.YtleiijhnjaagmaaDoor
