/-
  No cell of these rows narrows 'for every input' (looked for: loops, veiled, ifaces, maps, wideKeys, modest, calm, conditions, laid).
  DERIVED. THE GIVEN ROWS OF THIS SEAT. 9 by the template 'for every input the law returns true; each argument reads behind the call as it read before'; 0 by the template 'total and deterministic' (their statements: YtkefeigkaflakaaTotals.lean).
  GIVEN WITH THE SEED: the statements are not yours to turn. If you find one false, say at which input.
  Laid BY PROGRAM, IN A SANDBOX (cutbox-rows.mjs): the forced cells as the released guide's own fill.sh prints them over the translation ecd8d37415988d6a… (all of the seat's roots in one cut). By AI agents, Wed Nov 11 2026. No macro, syntax, notation, axiom, sorry.
-/
import Derived.Test.YtkefeigkaflakaaChecked
import GoSem.Claim
import GoSem.ClaimJoined
import GoSem.ClaimMapViews
import Derived.JoinedTies
import Derived.KernelRfl
namespace Go.Proofs.Ytkefeigkaflakaa
/- THE CELL 'sum', in the pinned program and in every row, IS THE sha256 OF THE DUMP (.gsa) THAT YtkefeigkaflakaaProg.lean LOADS. Nothing in Lean hashes anything: it is a label: what it is worth is what the hold of that sum in a sandbox is worth. -/
noncomputable def Try.pinned : Pinned := { name := "ytkefeigkaflakaa", sum := "ecd8d37415988d6a0297303f8970d04892681e5e39ff66aaa8e46aca1da59571", checked := Try.checked }
namespace Rows
def none {H : Type} : Left H := { results := [], args := [] }

/-- 'laws.FnExactDoCommute': WHATEVER THE INPUT: true; the input reads as it did. -/
def fnExactDoCommuteSpec : ChangeSpec := { name := "fnExactDoCommute", fn := fun _ => fun
  | [d1, d2, d3] => { results := [.lit (.bool true)], args := [d1, d2, d3] }
  | _ => none }
def fnExactDoCommuteRow : OpenClaim := { program := "ytkefeigkaflakaa", sum := "ecd8d37415988d6a0297303f8970d04892681e5e39ff66aaa8e46aca1da59571", func := "loop.example/g00939/laws.FnExactDoCommute", spec := "fnExactDoCommute", apart := false }
def FnExactDoCommuteSaid : Prop := fnExactDoCommuteRow.holds Try.pinned (OpenSpec.ofChange fnExactDoCommuteSpec)

/-- ITS FALSE NEIGHBOUR: 'it returns false'. Refute it at one input. -/
def fnExactDoCommuteWrong : ChangeSpec := { name := "fnExactDoCommute", fn := fun _ => fun
  | [d1, d2, d3] => { results := [.lit (.bool false)], args := [d1, d2, d3] }
  | _ => none }
def FnExactDoCommuteWrongFalsely : Prop := fnExactDoCommuteRow.holds Try.pinned (OpenSpec.ofChange fnExactDoCommuteWrong)

/-- 'laws.FnExactEditorsOf': WHATEVER THE INPUT: true; the input reads as it did. -/
def fnExactEditorsOfSpec : ChangeSpec := { name := "fnExactEditorsOf", fn := fun _ => fun
  | [d] => { results := [.lit (.bool true)], args := [d] }
  | _ => none }
def fnExactEditorsOfRow : OpenClaim := { program := "ytkefeigkaflakaa", sum := "ecd8d37415988d6a0297303f8970d04892681e5e39ff66aaa8e46aca1da59571", func := "loop.example/g00939/laws.FnExactEditorsOf", spec := "fnExactEditorsOf", unfollowed := true, recurses := true, apart := false }
def FnExactEditorsOfSaid : Prop := fnExactEditorsOfRow.holds Try.pinned (OpenSpec.ofChange fnExactEditorsOfSpec)

/-- ITS FALSE NEIGHBOUR: 'it returns false'. Refute it at one input. -/
def fnExactEditorsOfWrong : ChangeSpec := { name := "fnExactEditorsOf", fn := fun _ => fun
  | [d] => { results := [.lit (.bool false)], args := [d] }
  | _ => none }
def FnExactEditorsOfWrongFalsely : Prop := fnExactEditorsOfRow.holds Try.pinned (OpenSpec.ofChange fnExactEditorsOfWrong)

/-- 'laws.FnExactBothTouch': WHATEVER THE INPUT: true; the input reads as it did. -/
def fnExactBothTouchSpec : ChangeSpec := { name := "fnExactBothTouch", fn := fun _ => fun
  | [d1, d2] => { results := [.lit (.bool true)], args := [d1, d2] }
  | _ => none }
def fnExactBothTouchRow : OpenClaim := { program := "ytkefeigkaflakaa", sum := "ecd8d37415988d6a0297303f8970d04892681e5e39ff66aaa8e46aca1da59571", func := "loop.example/g00939/laws.FnExactBothTouch", spec := "fnExactBothTouch", unfollowed := true, recurses := true, apart := false }
def FnExactBothTouchSaid : Prop := fnExactBothTouchRow.holds Try.pinned (OpenSpec.ofChange fnExactBothTouchSpec)

/-- ITS FALSE NEIGHBOUR: 'it returns false'. Refute it at one input. -/
def fnExactBothTouchWrong : ChangeSpec := { name := "fnExactBothTouch", fn := fun _ => fun
  | [d1, d2] => { results := [.lit (.bool false)], args := [d1, d2] }
  | _ => none }
def FnExactBothTouchWrongFalsely : Prop := fnExactBothTouchRow.holds Try.pinned (OpenSpec.ofChange fnExactBothTouchWrong)

/-- 'laws.FnExactSameEffect': WHATEVER THE INPUT: true; the input reads as it did. -/
def fnExactSameEffectSpec : ChangeSpec := { name := "fnExactSameEffect", fn := fun _ => fun
  | [d1, d2, d3] => { results := [.lit (.bool true)], args := [d1, d2, d3] }
  | _ => none }
def fnExactSameEffectRow : OpenClaim := { program := "ytkefeigkaflakaa", sum := "ecd8d37415988d6a0297303f8970d04892681e5e39ff66aaa8e46aca1da59571", func := "loop.example/g00939/laws.FnExactSameEffect", spec := "fnExactSameEffect", apart := false }
def FnExactSameEffectSaid : Prop := fnExactSameEffectRow.holds Try.pinned (OpenSpec.ofChange fnExactSameEffectSpec)

/-- ITS FALSE NEIGHBOUR: 'it returns false'. Refute it at one input. -/
def fnExactSameEffectWrong : ChangeSpec := { name := "fnExactSameEffect", fn := fun _ => fun
  | [d1, d2, d3] => { results := [.lit (.bool false)], args := [d1, d2, d3] }
  | _ => none }
def FnExactSameEffectWrongFalsely : Prop := fnExactSameEffectRow.holds Try.pinned (OpenSpec.ofChange fnExactSameEffectWrong)

/-- 'laws.FnExactWithoutEditor': WHATEVER THE INPUT: true; the input reads as it did. -/
def fnExactWithoutEditorSpec : ChangeSpec := { name := "fnExactWithoutEditor", fn := fun _ => fun
  | [d1, d2, d3] => { results := [.lit (.bool true)], args := [d1, d2, d3] }
  | _ => none }
def fnExactWithoutEditorRow : OpenClaim := { program := "ytkefeigkaflakaa", sum := "ecd8d37415988d6a0297303f8970d04892681e5e39ff66aaa8e46aca1da59571", func := "loop.example/g00939/laws.FnExactWithoutEditor", spec := "fnExactWithoutEditor", apart := false }
def FnExactWithoutEditorSaid : Prop := fnExactWithoutEditorRow.holds Try.pinned (OpenSpec.ofChange fnExactWithoutEditorSpec)

/-- ITS FALSE NEIGHBOUR: 'it returns false'. Refute it at one input. -/
def fnExactWithoutEditorWrong : ChangeSpec := { name := "fnExactWithoutEditor", fn := fun _ => fun
  | [d1, d2, d3] => { results := [.lit (.bool false)], args := [d1, d2, d3] }
  | _ => none }
def FnExactWithoutEditorWrongFalsely : Prop := fnExactWithoutEditorRow.holds Try.pinned (OpenSpec.ofChange fnExactWithoutEditorWrong)

/-- 'laws.FnExactFittingEdits': WHATEVER THE INPUT: true; the input reads as it did. -/
def fnExactFittingEditsSpec : ChangeSpec := { name := "fnExactFittingEdits", fn := fun _ => fun
  | [d1, d2] => { results := [.lit (.bool true)], args := [d1, d2] }
  | _ => none }
def fnExactFittingEditsRow : OpenClaim := { program := "ytkefeigkaflakaa", sum := "ecd8d37415988d6a0297303f8970d04892681e5e39ff66aaa8e46aca1da59571", func := "loop.example/g00939/laws.FnExactFittingEdits", spec := "fnExactFittingEdits", apart := false }
def FnExactFittingEditsSaid : Prop := fnExactFittingEditsRow.holds Try.pinned (OpenSpec.ofChange fnExactFittingEditsSpec)

/-- ITS FALSE NEIGHBOUR: 'it returns false'. Refute it at one input. -/
def fnExactFittingEditsWrong : ChangeSpec := { name := "fnExactFittingEdits", fn := fun _ => fun
  | [d1, d2] => { results := [.lit (.bool false)], args := [d1, d2] }
  | _ => none }
def FnExactFittingEditsWrongFalsely : Prop := fnExactFittingEditsRow.holds Try.pinned (OpenSpec.ofChange fnExactFittingEditsWrong)

/-- 'laws.FnExactEditConflicts': WHATEVER THE INPUT: true; the input reads as it did. -/
def fnExactEditConflictsSpec : ChangeSpec := { name := "fnExactEditConflicts", fn := fun _ => fun
  | [d1, d2, d3] => { results := [.lit (.bool true)], args := [d1, d2, d3] }
  | _ => none }
def fnExactEditConflictsRow : OpenClaim := { program := "ytkefeigkaflakaa", sum := "ecd8d37415988d6a0297303f8970d04892681e5e39ff66aaa8e46aca1da59571", func := "loop.example/g00939/laws.FnExactEditConflicts", spec := "fnExactEditConflicts", apart := false }
def FnExactEditConflictsSaid : Prop := fnExactEditConflictsRow.holds Try.pinned (OpenSpec.ofChange fnExactEditConflictsSpec)

/-- ITS FALSE NEIGHBOUR: 'it returns false'. Refute it at one input. -/
def fnExactEditConflictsWrong : ChangeSpec := { name := "fnExactEditConflicts", fn := fun _ => fun
  | [d1, d2, d3] => { results := [.lit (.bool false)], args := [d1, d2, d3] }
  | _ => none }
def FnExactEditConflictsWrongFalsely : Prop := fnExactEditConflictsRow.holds Try.pinned (OpenSpec.ofChange fnExactEditConflictsWrong)

/-- 'laws.FnExactMergedChart': WHATEVER THE INPUT: true; the input reads as it did. -/
def fnExactMergedChartSpec : ChangeSpec := { name := "fnExactMergedChart", fn := fun _ => fun
  | [d1, d2, d3] => { results := [.lit (.bool true)], args := [d1, d2, d3] }
  | _ => none }
def fnExactMergedChartRow : OpenClaim := { program := "ytkefeigkaflakaa", sum := "ecd8d37415988d6a0297303f8970d04892681e5e39ff66aaa8e46aca1da59571", func := "loop.example/g00939/laws.FnExactMergedChart", spec := "fnExactMergedChart", apart := false }
def FnExactMergedChartSaid : Prop := fnExactMergedChartRow.holds Try.pinned (OpenSpec.ofChange fnExactMergedChartSpec)

/-- ITS FALSE NEIGHBOUR: 'it returns false'. Refute it at one input. -/
def fnExactMergedChartWrong : ChangeSpec := { name := "fnExactMergedChart", fn := fun _ => fun
  | [d1, d2, d3] => { results := [.lit (.bool false)], args := [d1, d2, d3] }
  | _ => none }
def FnExactMergedChartWrongFalsely : Prop := fnExactMergedChartRow.holds Try.pinned (OpenSpec.ofChange fnExactMergedChartWrong)

/-- 'laws.FnExactRebaseEdits': WHATEVER THE INPUT: true; the input reads as it did. -/
def fnExactRebaseEditsSpec : ChangeSpec := { name := "fnExactRebaseEdits", fn := fun _ => fun
  | [d1, d2, d3] => { results := [.lit (.bool true)], args := [d1, d2, d3] }
  | _ => none }
def fnExactRebaseEditsRow : OpenClaim := { program := "ytkefeigkaflakaa", sum := "ecd8d37415988d6a0297303f8970d04892681e5e39ff66aaa8e46aca1da59571", func := "loop.example/g00939/laws.FnExactRebaseEdits", spec := "fnExactRebaseEdits", apart := false }
def FnExactRebaseEditsSaid : Prop := fnExactRebaseEditsRow.holds Try.pinned (OpenSpec.ofChange fnExactRebaseEditsSpec)

/-- ITS FALSE NEIGHBOUR: 'it returns false'. Refute it at one input. -/
def fnExactRebaseEditsWrong : ChangeSpec := { name := "fnExactRebaseEdits", fn := fun _ => fun
  | [d1, d2, d3] => { results := [.lit (.bool false)], args := [d1, d2, d3] }
  | _ => none }
def FnExactRebaseEditsWrongFalsely : Prop := fnExactRebaseEditsRow.holds Try.pinned (OpenSpec.ofChange fnExactRebaseEditsWrong)

/- THE SECOND FORM. 'bulk': how many values and letters a reading holds, each counted each time it is reached (what is shared counts as often as it is met; a slice's spare places count too). A statement '..UptoSaid' is the law's where the arguments, and the package variables that the reading takes, are together of bulk at most 1048576: NARROWER than '..Said'. Prove '..Said' where nothing that the law and all that it calls make is longer than what came in: it says more and counts as full. Else prove '..UptoSaid'. A law counts once. -/
mutual
def uptoBulk {H : Type} : DataW H → Nat
  | .lit (.string bytes) => bytes.length + 1
  | .lit _ => 1
  | .nil => 1
  | .ptr d => uptoBulk d + 1
  | .slice elems spare => uptoBulkAll elems + uptoBulkAll spare + 1
  | .agg parts => uptoBulkAll parts + 1
  | .iface _ d => uptoBulk d + 1
  | .map entries => uptoBulkEntries entries + 1
  | .held _ => 1
def uptoBulkAll {H : Type} : List (DataW H) → Nat
  | [] => 0
  | d :: r => uptoBulk d + uptoBulkAll r
def uptoBulkEntries {H : Type} : List (Lit × DataW H) → Nat
  | [] => 0
  | x :: r => uptoBulkEntry x + uptoBulkEntries r
def uptoBulkEntry {H : Type} : Lit × DataW H → Nat
  | (.string bytes, d) => bytes.length + uptoBulk d + 1
  | (_, d) => uptoBulk d + 1
 end
def uptoSmall : (H : Type) → List (DataW H) → Bool := fun _ ds => decide (uptoBulkAll ds ≤ 1048576)
def OpenSpec.upto (s : _root_.Go.ChangeSpec) : _root_.Go.OpenSpec := { _root_.Go.OpenSpec.ofChange s with cond := some uptoSmall }

/-- 'laws.FnExactDoCommute', WHERE WHAT IT READS IS OF BULK AT MOST 1048576: true; the input reads as it did. -/
def fnExactDoCommuteUptoRow : OpenClaim := { program := "ytkefeigkaflakaa", sum := "ecd8d37415988d6a0297303f8970d04892681e5e39ff66aaa8e46aca1da59571", func := "loop.example/g00939/laws.FnExactDoCommute", spec := "fnExactDoCommute", apart := false, narrowed := true }
def FnExactDoCommuteUptoSaid : Prop := fnExactDoCommuteUptoRow.holds Try.pinned (OpenSpec.upto fnExactDoCommuteSpec)

/-- 'laws.FnExactEditorsOf', WHERE WHAT IT READS IS OF BULK AT MOST 1048576: true; the input reads as it did. -/
def fnExactEditorsOfUptoRow : OpenClaim := { program := "ytkefeigkaflakaa", sum := "ecd8d37415988d6a0297303f8970d04892681e5e39ff66aaa8e46aca1da59571", func := "loop.example/g00939/laws.FnExactEditorsOf", spec := "fnExactEditorsOf", unfollowed := true, recurses := true, apart := false, narrowed := true }
def FnExactEditorsOfUptoSaid : Prop := fnExactEditorsOfUptoRow.holds Try.pinned (OpenSpec.upto fnExactEditorsOfSpec)

/-- 'laws.FnExactBothTouch', WHERE WHAT IT READS IS OF BULK AT MOST 1048576: true; the input reads as it did. -/
def fnExactBothTouchUptoRow : OpenClaim := { program := "ytkefeigkaflakaa", sum := "ecd8d37415988d6a0297303f8970d04892681e5e39ff66aaa8e46aca1da59571", func := "loop.example/g00939/laws.FnExactBothTouch", spec := "fnExactBothTouch", unfollowed := true, recurses := true, apart := false, narrowed := true }
def FnExactBothTouchUptoSaid : Prop := fnExactBothTouchUptoRow.holds Try.pinned (OpenSpec.upto fnExactBothTouchSpec)

/-- 'laws.FnExactSameEffect', WHERE WHAT IT READS IS OF BULK AT MOST 1048576: true; the input reads as it did. -/
def fnExactSameEffectUptoRow : OpenClaim := { program := "ytkefeigkaflakaa", sum := "ecd8d37415988d6a0297303f8970d04892681e5e39ff66aaa8e46aca1da59571", func := "loop.example/g00939/laws.FnExactSameEffect", spec := "fnExactSameEffect", apart := false, narrowed := true }
def FnExactSameEffectUptoSaid : Prop := fnExactSameEffectUptoRow.holds Try.pinned (OpenSpec.upto fnExactSameEffectSpec)

/-- 'laws.FnExactWithoutEditor', WHERE WHAT IT READS IS OF BULK AT MOST 1048576: true; the input reads as it did. -/
def fnExactWithoutEditorUptoRow : OpenClaim := { program := "ytkefeigkaflakaa", sum := "ecd8d37415988d6a0297303f8970d04892681e5e39ff66aaa8e46aca1da59571", func := "loop.example/g00939/laws.FnExactWithoutEditor", spec := "fnExactWithoutEditor", apart := false, narrowed := true }
def FnExactWithoutEditorUptoSaid : Prop := fnExactWithoutEditorUptoRow.holds Try.pinned (OpenSpec.upto fnExactWithoutEditorSpec)

/-- 'laws.FnExactFittingEdits', WHERE WHAT IT READS IS OF BULK AT MOST 1048576: true; the input reads as it did. -/
def fnExactFittingEditsUptoRow : OpenClaim := { program := "ytkefeigkaflakaa", sum := "ecd8d37415988d6a0297303f8970d04892681e5e39ff66aaa8e46aca1da59571", func := "loop.example/g00939/laws.FnExactFittingEdits", spec := "fnExactFittingEdits", apart := false, narrowed := true }
def FnExactFittingEditsUptoSaid : Prop := fnExactFittingEditsUptoRow.holds Try.pinned (OpenSpec.upto fnExactFittingEditsSpec)

/-- 'laws.FnExactEditConflicts', WHERE WHAT IT READS IS OF BULK AT MOST 1048576: true; the input reads as it did. -/
def fnExactEditConflictsUptoRow : OpenClaim := { program := "ytkefeigkaflakaa", sum := "ecd8d37415988d6a0297303f8970d04892681e5e39ff66aaa8e46aca1da59571", func := "loop.example/g00939/laws.FnExactEditConflicts", spec := "fnExactEditConflicts", apart := false, narrowed := true }
def FnExactEditConflictsUptoSaid : Prop := fnExactEditConflictsUptoRow.holds Try.pinned (OpenSpec.upto fnExactEditConflictsSpec)

/-- 'laws.FnExactMergedChart', WHERE WHAT IT READS IS OF BULK AT MOST 1048576: true; the input reads as it did. -/
def fnExactMergedChartUptoRow : OpenClaim := { program := "ytkefeigkaflakaa", sum := "ecd8d37415988d6a0297303f8970d04892681e5e39ff66aaa8e46aca1da59571", func := "loop.example/g00939/laws.FnExactMergedChart", spec := "fnExactMergedChart", apart := false, narrowed := true }
def FnExactMergedChartUptoSaid : Prop := fnExactMergedChartUptoRow.holds Try.pinned (OpenSpec.upto fnExactMergedChartSpec)

/-- 'laws.FnExactRebaseEdits', WHERE WHAT IT READS IS OF BULK AT MOST 1048576: true; the input reads as it did. -/
def fnExactRebaseEditsUptoRow : OpenClaim := { program := "ytkefeigkaflakaa", sum := "ecd8d37415988d6a0297303f8970d04892681e5e39ff66aaa8e46aca1da59571", func := "loop.example/g00939/laws.FnExactRebaseEdits", spec := "fnExactRebaseEdits", apart := false, narrowed := true }
def FnExactRebaseEditsUptoSaid : Prop := fnExactRebaseEditsUptoRow.holds Try.pinned (OpenSpec.upto fnExactRebaseEditsSpec)

end Rows
end Go.Proofs.Ytkefeigkaflakaa
