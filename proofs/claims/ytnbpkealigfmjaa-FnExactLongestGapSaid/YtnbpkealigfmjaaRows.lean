/-
  No cell of these rows narrows 'for every input' (looked for: loops, veiled, ifaces, maps, wideKeys, modest, calm, conditions, laid).
  DERIVED. THE GIVEN ROWS OF THIS SEAT. 4 by the template 'for every input the law returns true; each argument reads behind the call as it read before'; 0 by the template 'total and deterministic' (their statements: YtnbpkealigfmjaaTotals.lean).
  GIVEN WITH THE SEED: the statements are not yours to turn. If you find one false, say at which input.
  Laid BY PROGRAM, IN A SANDBOX (cutbox-rows.mjs): the forced cells as the released guide's own fill.sh prints them over the translation 508e03c6098722d6… (all of the seat's roots in one cut). By AI agents, Wed Nov 11 2026. No macro, syntax, notation, axiom, sorry.
-/
import Derived.Test.YtnbpkealigfmjaaChecked
import GoSem.Claim
import GoSem.ClaimJoined
import GoSem.ClaimMapViews
import Derived.JoinedTies
import Derived.KernelRfl
namespace Go.Proofs.Ytnbpkealigfmjaa
/- THE CELL 'sum', in the pinned program and in every row, IS THE sha256 OF THE DUMP (.gsa) THAT YtnbpkealigfmjaaProg.lean LOADS. Nothing in Lean hashes anything: it is a label: what it is worth is what the hold of that sum in a sandbox is worth. -/
noncomputable def Try.pinned : Pinned := { name := "ytnbpkealigfmjaa", sum := "508e03c6098722d6694ae2a682e1c649027a4cc72a8ebd320c40cab7365483c1", checked := Try.checked }
namespace Rows
def none {H : Type} : Left H := { results := [], args := [] }

/-- 'laws.FnExactAreCues': WHATEVER THE INPUT: true; the input reads as it did. -/
def fnExactAreCuesSpec : ChangeSpec := { name := "fnExactAreCues", fn := fun _ => fun
  | [d1, d2] => { results := [.lit (.bool true)], args := [d1, d2] }
  | _ => none }
def fnExactAreCuesRow : OpenClaim := { program := "ytnbpkealigfmjaa", sum := "508e03c6098722d6694ae2a682e1c649027a4cc72a8ebd320c40cab7365483c1", func := "loop.example/g00939/laws.FnExactAreCues", spec := "fnExactAreCues", unfollowed := true, recurses := true, apart := false }
def FnExactAreCuesSaid : Prop := fnExactAreCuesRow.holds Try.pinned (OpenSpec.ofChange fnExactAreCuesSpec)

/-- ITS FALSE NEIGHBOUR: 'it returns false'. Refute it at one input. -/
def fnExactAreCuesWrong : ChangeSpec := { name := "fnExactAreCues", fn := fun _ => fun
  | [d1, d2] => { results := [.lit (.bool false)], args := [d1, d2] }
  | _ => none }
def FnExactAreCuesWrongFalsely : Prop := fnExactAreCuesRow.holds Try.pinned (OpenSpec.ofChange fnExactAreCuesWrong)

/-- 'laws.FnExactNextCue': WHATEVER THE INPUT: true; the input reads as it did. -/
def fnExactNextCueSpec : ChangeSpec := { name := "fnExactNextCue", fn := fun _ => fun
  | [d1, d2, d3] => { results := [.lit (.bool true)], args := [d1, d2, d3] }
  | _ => none }
def fnExactNextCueRow : OpenClaim := { program := "ytnbpkealigfmjaa", sum := "508e03c6098722d6694ae2a682e1c649027a4cc72a8ebd320c40cab7365483c1", func := "loop.example/g00939/laws.FnExactNextCue", spec := "fnExactNextCue", unfollowed := true, recurses := true, apart := false }
def FnExactNextCueSaid : Prop := fnExactNextCueRow.holds Try.pinned (OpenSpec.ofChange fnExactNextCueSpec)

/-- ITS FALSE NEIGHBOUR: 'it returns false'. Refute it at one input. -/
def fnExactNextCueWrong : ChangeSpec := { name := "fnExactNextCue", fn := fun _ => fun
  | [d1, d2, d3] => { results := [.lit (.bool false)], args := [d1, d2, d3] }
  | _ => none }
def FnExactNextCueWrongFalsely : Prop := fnExactNextCueRow.holds Try.pinned (OpenSpec.ofChange fnExactNextCueWrong)

/-- 'laws.FnExactLongestGap': WHATEVER THE INPUT: true; the input reads as it did. -/
def fnExactLongestGapSpec : ChangeSpec := { name := "fnExactLongestGap", fn := fun _ => fun
  | [d1, d2] => { results := [.lit (.bool true)], args := [d1, d2] }
  | _ => none }
def fnExactLongestGapRow : OpenClaim := { program := "ytnbpkealigfmjaa", sum := "508e03c6098722d6694ae2a682e1c649027a4cc72a8ebd320c40cab7365483c1", func := "loop.example/g00939/laws.FnExactLongestGap", spec := "fnExactLongestGap", unfollowed := true, recurses := true, apart := false }
def FnExactLongestGapSaid : Prop := fnExactLongestGapRow.holds Try.pinned (OpenSpec.ofChange fnExactLongestGapSpec)

/-- ITS FALSE NEIGHBOUR: 'it returns false'. Refute it at one input. -/
def fnExactLongestGapWrong : ChangeSpec := { name := "fnExactLongestGap", fn := fun _ => fun
  | [d1, d2] => { results := [.lit (.bool false)], args := [d1, d2] }
  | _ => none }
def FnExactLongestGapWrongFalsely : Prop := fnExactLongestGapRow.holds Try.pinned (OpenSpec.ofChange fnExactLongestGapWrong)

/-- 'laws.FnExactRepairKind': WHATEVER THE INPUT: true; the input reads as it did. -/
def fnExactRepairKindSpec : ChangeSpec := { name := "fnExactRepairKind", fn := fun _ => fun
  | [d1, d2] => { results := [.lit (.bool true)], args := [d1, d2] }
  | _ => none }
def fnExactRepairKindRow : OpenClaim := { program := "ytnbpkealigfmjaa", sum := "508e03c6098722d6694ae2a682e1c649027a4cc72a8ebd320c40cab7365483c1", func := "loop.example/g00939/laws.FnExactRepairKind", spec := "fnExactRepairKind", recurses := true, apart := false }
def FnExactRepairKindSaid : Prop := fnExactRepairKindRow.holds Try.pinned (OpenSpec.ofChange fnExactRepairKindSpec)

/-- ITS FALSE NEIGHBOUR: 'it returns false'. Refute it at one input. -/
def fnExactRepairKindWrong : ChangeSpec := { name := "fnExactRepairKind", fn := fun _ => fun
  | [d1, d2] => { results := [.lit (.bool false)], args := [d1, d2] }
  | _ => none }
def FnExactRepairKindWrongFalsely : Prop := fnExactRepairKindRow.holds Try.pinned (OpenSpec.ofChange fnExactRepairKindWrong)

/- THE SECOND FORM. 'bulk': how many values and letters a reading holds, each counted each time it is reached (what is shared counts as often as it is met; a slice's spare places count too). A statement '..UptoSaid' is the law's where the arguments, and the package variables that the reading takes, are together of bulk at most 1048576: NARROWER than '..Said'. Prove '..Said' where nothing that the law and all that it calls make is longer than what came in: it says more and counts as full. Else prove '..UptoSaid'. A law counts once. -/
mutual
def uptoBulk {H : Type} : DataW H → Nat
  | .lit (.string bytes) => bytes.length + 1
  | .lit _ => 1
  | .nil => 1
  | .ptr d => uptoBulk d + 1
  | .slice elems spare => uptoBulkAll elems + uptoBulkAll spare + 1
  | .agg parts => uptoBulkAll parts + 1
  | .iface _ d => uptoBulk d + 1
  | .map entries => uptoBulkEntries entries + 1
  | .held _ => 1
def uptoBulkAll {H : Type} : List (DataW H) → Nat
  | [] => 0
  | d :: r => uptoBulk d + uptoBulkAll r
def uptoBulkEntries {H : Type} : List (Lit × DataW H) → Nat
  | [] => 0
  | x :: r => uptoBulkEntry x + uptoBulkEntries r
def uptoBulkEntry {H : Type} : Lit × DataW H → Nat
  | (.string bytes, d) => bytes.length + uptoBulk d + 1
  | (_, d) => uptoBulk d + 1
 end
def uptoSmall : (H : Type) → List (DataW H) → Bool := fun _ ds => decide (uptoBulkAll ds ≤ 1048576)
def OpenSpec.upto (s : _root_.Go.ChangeSpec) : _root_.Go.OpenSpec := { _root_.Go.OpenSpec.ofChange s with cond := some uptoSmall }

/-- 'laws.FnExactAreCues', WHERE WHAT IT READS IS OF BULK AT MOST 1048576: true; the input reads as it did. -/
def fnExactAreCuesUptoRow : OpenClaim := { program := "ytnbpkealigfmjaa", sum := "508e03c6098722d6694ae2a682e1c649027a4cc72a8ebd320c40cab7365483c1", func := "loop.example/g00939/laws.FnExactAreCues", spec := "fnExactAreCues", unfollowed := true, recurses := true, apart := false, narrowed := true }
def FnExactAreCuesUptoSaid : Prop := fnExactAreCuesUptoRow.holds Try.pinned (OpenSpec.upto fnExactAreCuesSpec)

/-- 'laws.FnExactNextCue', WHERE WHAT IT READS IS OF BULK AT MOST 1048576: true; the input reads as it did. -/
def fnExactNextCueUptoRow : OpenClaim := { program := "ytnbpkealigfmjaa", sum := "508e03c6098722d6694ae2a682e1c649027a4cc72a8ebd320c40cab7365483c1", func := "loop.example/g00939/laws.FnExactNextCue", spec := "fnExactNextCue", unfollowed := true, recurses := true, apart := false, narrowed := true }
def FnExactNextCueUptoSaid : Prop := fnExactNextCueUptoRow.holds Try.pinned (OpenSpec.upto fnExactNextCueSpec)

/-- 'laws.FnExactLongestGap', WHERE WHAT IT READS IS OF BULK AT MOST 1048576: true; the input reads as it did. -/
def fnExactLongestGapUptoRow : OpenClaim := { program := "ytnbpkealigfmjaa", sum := "508e03c6098722d6694ae2a682e1c649027a4cc72a8ebd320c40cab7365483c1", func := "loop.example/g00939/laws.FnExactLongestGap", spec := "fnExactLongestGap", unfollowed := true, recurses := true, apart := false, narrowed := true }
def FnExactLongestGapUptoSaid : Prop := fnExactLongestGapUptoRow.holds Try.pinned (OpenSpec.upto fnExactLongestGapSpec)

/-- 'laws.FnExactRepairKind', WHERE WHAT IT READS IS OF BULK AT MOST 1048576: true; the input reads as it did. -/
def fnExactRepairKindUptoRow : OpenClaim := { program := "ytnbpkealigfmjaa", sum := "508e03c6098722d6694ae2a682e1c649027a4cc72a8ebd320c40cab7365483c1", func := "loop.example/g00939/laws.FnExactRepairKind", spec := "fnExactRepairKind", recurses := true, apart := false, narrowed := true }
def FnExactRepairKindUptoSaid : Prop := fnExactRepairKindUptoRow.holds Try.pinned (OpenSpec.upto fnExactRepairKindSpec)

end Rows
end Go.Proofs.Ytnbpkealigfmjaa
