/-
  No cell of these rows narrows 'for every input' (looked for: loops, veiled, ifaces, maps, wideKeys, modest, calm, conditions, laid).
  DERIVED. THE GIVEN ROWS OF THIS SEAT. 10 by the template 'for every input the law returns true; each argument reads behind the call as it read before'; 0 by the template 'total and deterministic' (their statements: YtleiijhnjaagmaaTotals.lean).
  GIVEN WITH THE SEED: the statements are not yours to turn. If you find one false, say at which input.
  Laid BY PROGRAM, IN A SANDBOX (cutbox-rows.mjs): the forced cells as the released guide's own fill.sh prints them over the translation 0d6cafa9b39df2ce… (all of the seat's roots in one cut). By AI agents, Wed Nov 11 2026. No macro, syntax, notation, axiom, sorry.
-/
import Derived.Test.YtleiijhnjaagmaaChecked
import GoSem.Claim
import GoSem.ClaimJoined
import GoSem.ClaimMapViews
import Derived.JoinedTies
import Derived.KernelRfl
namespace Go.Proofs.Ytleiijhnjaagmaa
/- THE CELL 'sum', in the pinned program and in every row, IS THE sha256 OF THE DUMP (.gsa) THAT YtleiijhnjaagmaaProg.lean LOADS. Nothing in Lean hashes anything: it is a label: what it is worth is what the hold of that sum in a sandbox is worth. -/
noncomputable def Try.pinned : Pinned := { name := "ytleiijhnjaagmaa", sum := "0d6cafa9b39df2ce1685fc510326c238b0cdb054ee3211cc1b7a73c144025d03", checked := Try.checked }
namespace Rows
def none {H : Type} : Left H := { results := [], args := [] }

/-- 'laws.FnExactAreVersions': WHATEVER THE INPUT: true; the input reads as it did. -/
def fnExactAreVersionsSpec : ChangeSpec := { name := "fnExactAreVersions", fn := fun _ => fun
  | [d] => { results := [.lit (.bool true)], args := [d] }
  | _ => none }
def fnExactAreVersionsRow : OpenClaim := { program := "ytleiijhnjaagmaa", sum := "0d6cafa9b39df2ce1685fc510326c238b0cdb054ee3211cc1b7a73c144025d03", func := "loop.example/g00939/laws.FnExactAreVersions", spec := "fnExactAreVersions", apart := false }
def FnExactAreVersionsSaid : Prop := fnExactAreVersionsRow.holds Try.pinned (OpenSpec.ofChange fnExactAreVersionsSpec)

/-- ITS FALSE NEIGHBOUR: 'it returns false'. Refute it at one input. -/
def fnExactAreVersionsWrong : ChangeSpec := { name := "fnExactAreVersions", fn := fun _ => fun
  | [d] => { results := [.lit (.bool false)], args := [d] }
  | _ => none }
def FnExactAreVersionsWrongFalsely : Prop := fnExactAreVersionsRow.holds Try.pinned (OpenSpec.ofChange fnExactAreVersionsWrong)

/-- 'laws.FnExactCommonVersion': WHATEVER THE INPUT: true; the input reads as it did. -/
def fnExactCommonVersionSpec : ChangeSpec := { name := "fnExactCommonVersion", fn := fun _ => fun
  | [d1, d2, d3] => { results := [.lit (.bool true)], args := [d1, d2, d3] }
  | _ => none }
def fnExactCommonVersionRow : OpenClaim := { program := "ytleiijhnjaagmaa", sum := "0d6cafa9b39df2ce1685fc510326c238b0cdb054ee3211cc1b7a73c144025d03", func := "loop.example/g00939/laws.FnExactCommonVersion", spec := "fnExactCommonVersion", apart := false }
def FnExactCommonVersionSaid : Prop := fnExactCommonVersionRow.holds Try.pinned (OpenSpec.ofChange fnExactCommonVersionSpec)

/-- ITS FALSE NEIGHBOUR: 'it returns false'. Refute it at one input. -/
def fnExactCommonVersionWrong : ChangeSpec := { name := "fnExactCommonVersion", fn := fun _ => fun
  | [d1, d2, d3] => { results := [.lit (.bool false)], args := [d1, d2, d3] }
  | _ => none }
def FnExactCommonVersionWrongFalsely : Prop := fnExactCommonVersionRow.holds Try.pinned (OpenSpec.ofChange fnExactCommonVersionWrong)

/-- 'laws.FnExactAddVersion': WHATEVER THE INPUT: true; the input reads as it did. -/
def fnExactAddVersionSpec : ChangeSpec := { name := "fnExactAddVersion", fn := fun _ => fun
  | [d1, d2] => { results := [.lit (.bool true)], args := [d1, d2] }
  | _ => none }
def fnExactAddVersionRow : OpenClaim := { program := "ytleiijhnjaagmaa", sum := "0d6cafa9b39df2ce1685fc510326c238b0cdb054ee3211cc1b7a73c144025d03", func := "loop.example/g00939/laws.FnExactAddVersion", spec := "fnExactAddVersion", apart := false }
def FnExactAddVersionSaid : Prop := fnExactAddVersionRow.holds Try.pinned (OpenSpec.ofChange fnExactAddVersionSpec)

/-- ITS FALSE NEIGHBOUR: 'it returns false'. Refute it at one input. -/
def fnExactAddVersionWrong : ChangeSpec := { name := "fnExactAddVersion", fn := fun _ => fun
  | [d1, d2] => { results := [.lit (.bool false)], args := [d1, d2] }
  | _ => none }
def FnExactAddVersionWrongFalsely : Prop := fnExactAddVersionRow.holds Try.pinned (OpenSpec.ofChange fnExactAddVersionWrong)

/-- 'laws.FnExactLastVersions': WHATEVER THE INPUT: true; the input reads as it did. -/
def fnExactLastVersionsSpec : ChangeSpec := { name := "fnExactLastVersions", fn := fun _ => fun
  | [d] => { results := [.lit (.bool true)], args := [d] }
  | _ => none }
def fnExactLastVersionsRow : OpenClaim := { program := "ytleiijhnjaagmaa", sum := "0d6cafa9b39df2ce1685fc510326c238b0cdb054ee3211cc1b7a73c144025d03", func := "loop.example/g00939/laws.FnExactLastVersions", spec := "fnExactLastVersions", unfollowed := true, recurses := true, apart := false }
def FnExactLastVersionsSaid : Prop := fnExactLastVersionsRow.holds Try.pinned (OpenSpec.ofChange fnExactLastVersionsSpec)

/-- ITS FALSE NEIGHBOUR: 'it returns false'. Refute it at one input. -/
def fnExactLastVersionsWrong : ChangeSpec := { name := "fnExactLastVersions", fn := fun _ => fun
  | [d] => { results := [.lit (.bool false)], args := [d] }
  | _ => none }
def FnExactLastVersionsWrongFalsely : Prop := fnExactLastVersionsRow.holds Try.pinned (OpenSpec.ofChange fnExactLastVersionsWrong)

/-- 'laws.FnExactWayTo': WHATEVER THE INPUT: true; the input reads as it did. -/
def fnExactWayToSpec : ChangeSpec := { name := "fnExactWayTo", fn := fun _ => fun
  | [d1, d2] => { results := [.lit (.bool true)], args := [d1, d2] }
  | _ => none }
def fnExactWayToRow : OpenClaim := { program := "ytleiijhnjaagmaa", sum := "0d6cafa9b39df2ce1685fc510326c238b0cdb054ee3211cc1b7a73c144025d03", func := "loop.example/g00939/laws.FnExactWayTo", spec := "fnExactWayTo", apart := false }
def FnExactWayToSaid : Prop := fnExactWayToRow.holds Try.pinned (OpenSpec.ofChange fnExactWayToSpec)

/-- ITS FALSE NEIGHBOUR: 'it returns false'. Refute it at one input. -/
def fnExactWayToWrong : ChangeSpec := { name := "fnExactWayTo", fn := fun _ => fun
  | [d1, d2] => { results := [.lit (.bool false)], args := [d1, d2] }
  | _ => none }
def FnExactWayToWrongFalsely : Prop := fnExactWayToRow.holds Try.pinned (OpenSpec.ofChange fnExactWayToWrong)

/-- 'laws.FnExactStateAt': WHATEVER THE INPUT: true; the input reads as it did. -/
def fnExactStateAtSpec : ChangeSpec := { name := "fnExactStateAt", fn := fun _ => fun
  | [d1, d2] => { results := [.lit (.bool true)], args := [d1, d2] }
  | _ => none }
def fnExactStateAtRow : OpenClaim := { program := "ytleiijhnjaagmaa", sum := "0d6cafa9b39df2ce1685fc510326c238b0cdb054ee3211cc1b7a73c144025d03", func := "loop.example/g00939/laws.FnExactStateAt", spec := "fnExactStateAt", apart := false }
def FnExactStateAtSaid : Prop := fnExactStateAtRow.holds Try.pinned (OpenSpec.ofChange fnExactStateAtSpec)

/-- ITS FALSE NEIGHBOUR: 'it returns false'. Refute it at one input. -/
def fnExactStateAtWrong : ChangeSpec := { name := "fnExactStateAt", fn := fun _ => fun
  | [d1, d2] => { results := [.lit (.bool false)], args := [d1, d2] }
  | _ => none }
def FnExactStateAtWrongFalsely : Prop := fnExactStateAtRow.holds Try.pinned (OpenSpec.ofChange fnExactStateAtWrong)

/-- 'laws.FnExactChangedKeys': WHATEVER THE INPUT: true; the input reads as it did. -/
def fnExactChangedKeysSpec : ChangeSpec := { name := "fnExactChangedKeys", fn := fun _ => fun
  | [d1, d2, d3] => { results := [.lit (.bool true)], args := [d1, d2, d3] }
  | _ => none }
def fnExactChangedKeysRow : OpenClaim := { program := "ytleiijhnjaagmaa", sum := "0d6cafa9b39df2ce1685fc510326c238b0cdb054ee3211cc1b7a73c144025d03", func := "loop.example/g00939/laws.FnExactChangedKeys", spec := "fnExactChangedKeys", apart := false }
def FnExactChangedKeysSaid : Prop := fnExactChangedKeysRow.holds Try.pinned (OpenSpec.ofChange fnExactChangedKeysSpec)

/-- ITS FALSE NEIGHBOUR: 'it returns false'. Refute it at one input. -/
def fnExactChangedKeysWrong : ChangeSpec := { name := "fnExactChangedKeys", fn := fun _ => fun
  | [d1, d2, d3] => { results := [.lit (.bool false)], args := [d1, d2, d3] }
  | _ => none }
def FnExactChangedKeysWrongFalsely : Prop := fnExactChangedKeysRow.holds Try.pinned (OpenSpec.ofChange fnExactChangedKeysWrong)

/-- 'laws.FnExactCopyChanges': WHATEVER THE INPUT: true; the input reads as it did. -/
def fnExactCopyChangesSpec : ChangeSpec := { name := "fnExactCopyChanges", fn := fun _ => fun
  | [d1, d2, d3] => { results := [.lit (.bool true)], args := [d1, d2, d3] }
  | _ => none }
def fnExactCopyChangesRow : OpenClaim := { program := "ytleiijhnjaagmaa", sum := "0d6cafa9b39df2ce1685fc510326c238b0cdb054ee3211cc1b7a73c144025d03", func := "loop.example/g00939/laws.FnExactCopyChanges", spec := "fnExactCopyChanges", apart := false }
def FnExactCopyChangesSaid : Prop := fnExactCopyChangesRow.holds Try.pinned (OpenSpec.ofChange fnExactCopyChangesSpec)

/-- ITS FALSE NEIGHBOUR: 'it returns false'. Refute it at one input. -/
def fnExactCopyChangesWrong : ChangeSpec := { name := "fnExactCopyChanges", fn := fun _ => fun
  | [d1, d2, d3] => { results := [.lit (.bool false)], args := [d1, d2, d3] }
  | _ => none }
def FnExactCopyChangesWrongFalsely : Prop := fnExactCopyChangesRow.holds Try.pinned (OpenSpec.ofChange fnExactCopyChangesWrong)

/-- 'laws.FnExactMergeStates': WHATEVER THE INPUT: true; the input reads as it did. -/
def fnExactMergeStatesSpec : ChangeSpec := { name := "fnExactMergeStates", fn := fun _ => fun
  | [d1, d2, d3] => { results := [.lit (.bool true)], args := [d1, d2, d3] }
  | _ => none }
def fnExactMergeStatesRow : OpenClaim := { program := "ytleiijhnjaagmaa", sum := "0d6cafa9b39df2ce1685fc510326c238b0cdb054ee3211cc1b7a73c144025d03", func := "loop.example/g00939/laws.FnExactMergeStates", spec := "fnExactMergeStates", apart := false }
def FnExactMergeStatesSaid : Prop := fnExactMergeStatesRow.holds Try.pinned (OpenSpec.ofChange fnExactMergeStatesSpec)

/-- ITS FALSE NEIGHBOUR: 'it returns false'. Refute it at one input. -/
def fnExactMergeStatesWrong : ChangeSpec := { name := "fnExactMergeStates", fn := fun _ => fun
  | [d1, d2, d3] => { results := [.lit (.bool false)], args := [d1, d2, d3] }
  | _ => none }
def FnExactMergeStatesWrongFalsely : Prop := fnExactMergeStatesRow.holds Try.pinned (OpenSpec.ofChange fnExactMergeStatesWrong)

/-- 'laws.FnStates': WHATEVER THE INPUT: true; the input reads as it did. -/
def fnStatesSpec : ChangeSpec := { name := "fnStates", fn := fun _ => fun
  | [d1, d2] => { results := [.lit (.bool true)], args := [d1, d2] }
  | _ => none }
def fnStatesRow : OpenClaim := { program := "ytleiijhnjaagmaa", sum := "0d6cafa9b39df2ce1685fc510326c238b0cdb054ee3211cc1b7a73c144025d03", func := "loop.example/g00939/laws.FnStates", spec := "fnStates", apart := false }
def FnStatesSaid : Prop := fnStatesRow.holds Try.pinned (OpenSpec.ofChange fnStatesSpec)

/-- ITS FALSE NEIGHBOUR: 'it returns false'. Refute it at one input. -/
def fnStatesWrong : ChangeSpec := { name := "fnStates", fn := fun _ => fun
  | [d1, d2] => { results := [.lit (.bool false)], args := [d1, d2] }
  | _ => none }
def FnStatesWrongFalsely : Prop := fnStatesRow.holds Try.pinned (OpenSpec.ofChange fnStatesWrong)

/- THE SECOND FORM. 'bulk': how many values and letters a reading holds, each counted each time it is reached (what is shared counts as often as it is met; a slice's spare places count too). A statement '..UptoSaid' is the law's where the arguments, and the package variables that the reading takes, are together of bulk at most 1048576: NARROWER than '..Said'. Prove '..Said' where nothing that the law and all that it calls make is longer than what came in: it says more and counts as full. Else prove '..UptoSaid'. A law counts once. -/
mutual
def uptoBulk {H : Type} : DataW H → Nat
  | .lit (.string bytes) => bytes.length + 1
  | .lit _ => 1
  | .nil => 1
  | .ptr d => uptoBulk d + 1
  | .slice elems spare => uptoBulkAll elems + uptoBulkAll spare + 1
  | .agg parts => uptoBulkAll parts + 1
  | .iface _ d => uptoBulk d + 1
  | .map entries => uptoBulkEntries entries + 1
  | .held _ => 1
def uptoBulkAll {H : Type} : List (DataW H) → Nat
  | [] => 0
  | d :: r => uptoBulk d + uptoBulkAll r
def uptoBulkEntries {H : Type} : List (Lit × DataW H) → Nat
  | [] => 0
  | x :: r => uptoBulkEntry x + uptoBulkEntries r
def uptoBulkEntry {H : Type} : Lit × DataW H → Nat
  | (.string bytes, d) => bytes.length + uptoBulk d + 1
  | (_, d) => uptoBulk d + 1
 end
def uptoSmall : (H : Type) → List (DataW H) → Bool := fun _ ds => decide (uptoBulkAll ds ≤ 1048576)
def OpenSpec.upto (s : _root_.Go.ChangeSpec) : _root_.Go.OpenSpec := { _root_.Go.OpenSpec.ofChange s with cond := some uptoSmall }

/-- 'laws.FnExactAreVersions', WHERE WHAT IT READS IS OF BULK AT MOST 1048576: true; the input reads as it did. -/
def fnExactAreVersionsUptoRow : OpenClaim := { program := "ytleiijhnjaagmaa", sum := "0d6cafa9b39df2ce1685fc510326c238b0cdb054ee3211cc1b7a73c144025d03", func := "loop.example/g00939/laws.FnExactAreVersions", spec := "fnExactAreVersions", apart := false, narrowed := true }
def FnExactAreVersionsUptoSaid : Prop := fnExactAreVersionsUptoRow.holds Try.pinned (OpenSpec.upto fnExactAreVersionsSpec)

/-- 'laws.FnExactCommonVersion', WHERE WHAT IT READS IS OF BULK AT MOST 1048576: true; the input reads as it did. -/
def fnExactCommonVersionUptoRow : OpenClaim := { program := "ytleiijhnjaagmaa", sum := "0d6cafa9b39df2ce1685fc510326c238b0cdb054ee3211cc1b7a73c144025d03", func := "loop.example/g00939/laws.FnExactCommonVersion", spec := "fnExactCommonVersion", apart := false, narrowed := true }
def FnExactCommonVersionUptoSaid : Prop := fnExactCommonVersionUptoRow.holds Try.pinned (OpenSpec.upto fnExactCommonVersionSpec)

/-- 'laws.FnExactAddVersion', WHERE WHAT IT READS IS OF BULK AT MOST 1048576: true; the input reads as it did. -/
def fnExactAddVersionUptoRow : OpenClaim := { program := "ytleiijhnjaagmaa", sum := "0d6cafa9b39df2ce1685fc510326c238b0cdb054ee3211cc1b7a73c144025d03", func := "loop.example/g00939/laws.FnExactAddVersion", spec := "fnExactAddVersion", apart := false, narrowed := true }
def FnExactAddVersionUptoSaid : Prop := fnExactAddVersionUptoRow.holds Try.pinned (OpenSpec.upto fnExactAddVersionSpec)

/-- 'laws.FnExactLastVersions', WHERE WHAT IT READS IS OF BULK AT MOST 1048576: true; the input reads as it did. -/
def fnExactLastVersionsUptoRow : OpenClaim := { program := "ytleiijhnjaagmaa", sum := "0d6cafa9b39df2ce1685fc510326c238b0cdb054ee3211cc1b7a73c144025d03", func := "loop.example/g00939/laws.FnExactLastVersions", spec := "fnExactLastVersions", unfollowed := true, recurses := true, apart := false, narrowed := true }
def FnExactLastVersionsUptoSaid : Prop := fnExactLastVersionsUptoRow.holds Try.pinned (OpenSpec.upto fnExactLastVersionsSpec)

/-- 'laws.FnExactWayTo', WHERE WHAT IT READS IS OF BULK AT MOST 1048576: true; the input reads as it did. -/
def fnExactWayToUptoRow : OpenClaim := { program := "ytleiijhnjaagmaa", sum := "0d6cafa9b39df2ce1685fc510326c238b0cdb054ee3211cc1b7a73c144025d03", func := "loop.example/g00939/laws.FnExactWayTo", spec := "fnExactWayTo", apart := false, narrowed := true }
def FnExactWayToUptoSaid : Prop := fnExactWayToUptoRow.holds Try.pinned (OpenSpec.upto fnExactWayToSpec)

/-- 'laws.FnExactStateAt', WHERE WHAT IT READS IS OF BULK AT MOST 1048576: true; the input reads as it did. -/
def fnExactStateAtUptoRow : OpenClaim := { program := "ytleiijhnjaagmaa", sum := "0d6cafa9b39df2ce1685fc510326c238b0cdb054ee3211cc1b7a73c144025d03", func := "loop.example/g00939/laws.FnExactStateAt", spec := "fnExactStateAt", apart := false, narrowed := true }
def FnExactStateAtUptoSaid : Prop := fnExactStateAtUptoRow.holds Try.pinned (OpenSpec.upto fnExactStateAtSpec)

/-- 'laws.FnExactChangedKeys', WHERE WHAT IT READS IS OF BULK AT MOST 1048576: true; the input reads as it did. -/
def fnExactChangedKeysUptoRow : OpenClaim := { program := "ytleiijhnjaagmaa", sum := "0d6cafa9b39df2ce1685fc510326c238b0cdb054ee3211cc1b7a73c144025d03", func := "loop.example/g00939/laws.FnExactChangedKeys", spec := "fnExactChangedKeys", apart := false, narrowed := true }
def FnExactChangedKeysUptoSaid : Prop := fnExactChangedKeysUptoRow.holds Try.pinned (OpenSpec.upto fnExactChangedKeysSpec)

/-- 'laws.FnExactCopyChanges', WHERE WHAT IT READS IS OF BULK AT MOST 1048576: true; the input reads as it did. -/
def fnExactCopyChangesUptoRow : OpenClaim := { program := "ytleiijhnjaagmaa", sum := "0d6cafa9b39df2ce1685fc510326c238b0cdb054ee3211cc1b7a73c144025d03", func := "loop.example/g00939/laws.FnExactCopyChanges", spec := "fnExactCopyChanges", apart := false, narrowed := true }
def FnExactCopyChangesUptoSaid : Prop := fnExactCopyChangesUptoRow.holds Try.pinned (OpenSpec.upto fnExactCopyChangesSpec)

/-- 'laws.FnExactMergeStates', WHERE WHAT IT READS IS OF BULK AT MOST 1048576: true; the input reads as it did. -/
def fnExactMergeStatesUptoRow : OpenClaim := { program := "ytleiijhnjaagmaa", sum := "0d6cafa9b39df2ce1685fc510326c238b0cdb054ee3211cc1b7a73c144025d03", func := "loop.example/g00939/laws.FnExactMergeStates", spec := "fnExactMergeStates", apart := false, narrowed := true }
def FnExactMergeStatesUptoSaid : Prop := fnExactMergeStatesUptoRow.holds Try.pinned (OpenSpec.upto fnExactMergeStatesSpec)

/-- 'laws.FnStates', WHERE WHAT IT READS IS OF BULK AT MOST 1048576: true; the input reads as it did. -/
def fnStatesUptoRow : OpenClaim := { program := "ytleiijhnjaagmaa", sum := "0d6cafa9b39df2ce1685fc510326c238b0cdb054ee3211cc1b7a73c144025d03", func := "loop.example/g00939/laws.FnStates", spec := "fnStates", apart := false, narrowed := true }
def FnStatesUptoSaid : Prop := fnStatesUptoRow.holds Try.pinned (OpenSpec.upto fnStatesSpec)

end Rows
end Go.Proofs.Ytleiijhnjaagmaa
