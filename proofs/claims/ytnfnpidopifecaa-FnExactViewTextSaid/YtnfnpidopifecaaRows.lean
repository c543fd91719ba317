/-
  No cell of these rows narrows 'for every input' (looked for: loops, veiled, ifaces, maps, wideKeys, modest, calm, conditions, laid).
  DERIVED. THE GIVEN ROWS OF THIS SEAT. 12 by the template 'for every input the law returns true; each argument reads behind the call as it read before'; 0 by the template 'total and deterministic' (their statements: YtnfnpidopifecaaTotals.lean).
  GIVEN WITH THE SEED: the statements are not yours to turn. If you find one false, say at which input.
  Laid BY PROGRAM, IN A SANDBOX (cutbox-rows.mjs): the forced cells as the released guide's own fill.sh prints them over the translation 7f1b1e59e1b93d97… (all of the seat's roots in one cut). By AI agents, Wed Nov 11 2026. No macro, syntax, notation, axiom, sorry.
-/
import Derived.Test.YtnfnpidopifecaaChecked
import GoSem.Claim
import GoSem.ClaimJoined
import GoSem.ClaimMapViews
import Derived.JoinedTies
import Derived.KernelRfl
namespace Go.Proofs.Ytnfnpidopifecaa
/- THE CELL 'sum', in the pinned program and in every row, IS THE sha256 OF THE DUMP (.gsa) THAT YtnfnpidopifecaaProg.lean LOADS. Nothing in Lean hashes anything: it is a label: what it is worth is what the hold of that sum in a sandbox is worth. -/
noncomputable def Try.pinned : Pinned := { name := "ytnfnpidopifecaa", sum := "7f1b1e59e1b93d977adf0192678d57a44dab9e97f334f381b28954f785f4d244", checked := Try.checked }
namespace Rows
def none {H : Type} : Left H := { results := [], args := [] }

/-- 'laws.FnExactIsFrameOf': WHATEVER THE INPUT: true; the input reads as it did. -/
def fnExactIsFrameOfSpec : ChangeSpec := { name := "fnExactIsFrameOf", fn := fun _ => fun
  | [d] => { results := [.lit (.bool true)], args := [d] }
  | _ => none }
def fnExactIsFrameOfRow : OpenClaim := { program := "ytnfnpidopifecaa", sum := "7f1b1e59e1b93d977adf0192678d57a44dab9e97f334f381b28954f785f4d244", func := "loop.example/g00939/laws.FnExactIsFrameOf", spec := "fnExactIsFrameOf", apart := false }
def FnExactIsFrameOfSaid : Prop := fnExactIsFrameOfRow.holds Try.pinned (OpenSpec.ofChange fnExactIsFrameOfSpec)

/-- ITS FALSE NEIGHBOUR: 'it returns false'. Refute it at one input. -/
def fnExactIsFrameOfWrong : ChangeSpec := { name := "fnExactIsFrameOf", fn := fun _ => fun
  | [d] => { results := [.lit (.bool false)], args := [d] }
  | _ => none }
def FnExactIsFrameOfWrongFalsely : Prop := fnExactIsFrameOfRow.holds Try.pinned (OpenSpec.ofChange fnExactIsFrameOfWrong)

/-- 'laws.FnExactCellOf': WHATEVER THE INPUT: true; the input reads as it did. -/
def fnExactCellOfSpec : ChangeSpec := { name := "fnExactCellOf", fn := fun _ => fun
  | [d1, d2] => { results := [.lit (.bool true)], args := [d1, d2] }
  | _ => none }
def fnExactCellOfRow : OpenClaim := { program := "ytnfnpidopifecaa", sum := "7f1b1e59e1b93d977adf0192678d57a44dab9e97f334f381b28954f785f4d244", func := "loop.example/g00939/laws.FnExactCellOf", spec := "fnExactCellOf", apart := false }
def FnExactCellOfSaid : Prop := fnExactCellOfRow.holds Try.pinned (OpenSpec.ofChange fnExactCellOfSpec)

/-- ITS FALSE NEIGHBOUR: 'it returns false'. Refute it at one input. -/
def fnExactCellOfWrong : ChangeSpec := { name := "fnExactCellOf", fn := fun _ => fun
  | [d1, d2] => { results := [.lit (.bool false)], args := [d1, d2] }
  | _ => none }
def FnExactCellOfWrongFalsely : Prop := fnExactCellOfRow.holds Try.pinned (OpenSpec.ofChange fnExactCellOfWrong)

/-- 'laws.FnExactMirrorView': WHATEVER THE INPUT: true; the input reads as it did. -/
def fnExactMirrorViewSpec : ChangeSpec := { name := "fnExactMirrorView", fn := fun _ => fun
  | [d] => { results := [.lit (.bool true)], args := [d] }
  | _ => none }
def fnExactMirrorViewRow : OpenClaim := { program := "ytnfnpidopifecaa", sum := "7f1b1e59e1b93d977adf0192678d57a44dab9e97f334f381b28954f785f4d244", func := "loop.example/g00939/laws.FnExactMirrorView", spec := "fnExactMirrorView", apart := false }
def FnExactMirrorViewSaid : Prop := fnExactMirrorViewRow.holds Try.pinned (OpenSpec.ofChange fnExactMirrorViewSpec)

/-- ITS FALSE NEIGHBOUR: 'it returns false'. Refute it at one input. -/
def fnExactMirrorViewWrong : ChangeSpec := { name := "fnExactMirrorView", fn := fun _ => fun
  | [d] => { results := [.lit (.bool false)], args := [d] }
  | _ => none }
def FnExactMirrorViewWrongFalsely : Prop := fnExactMirrorViewRow.holds Try.pinned (OpenSpec.ofChange fnExactMirrorViewWrong)

/-- 'laws.FnExactMovedCells': WHATEVER THE INPUT: true; the input reads as it did. -/
def fnExactMovedCellsSpec : ChangeSpec := { name := "fnExactMovedCells", fn := fun _ => fun
  | [d1, d2, d3] => { results := [.lit (.bool true)], args := [d1, d2, d3] }
  | _ => none }
def fnExactMovedCellsRow : OpenClaim := { program := "ytnfnpidopifecaa", sum := "7f1b1e59e1b93d977adf0192678d57a44dab9e97f334f381b28954f785f4d244", func := "loop.example/g00939/laws.FnExactMovedCells", spec := "fnExactMovedCells", apart := false }
def FnExactMovedCellsSaid : Prop := fnExactMovedCellsRow.holds Try.pinned (OpenSpec.ofChange fnExactMovedCellsSpec)

/-- ITS FALSE NEIGHBOUR: 'it returns false'. Refute it at one input. -/
def fnExactMovedCellsWrong : ChangeSpec := { name := "fnExactMovedCells", fn := fun _ => fun
  | [d1, d2, d3] => { results := [.lit (.bool false)], args := [d1, d2, d3] }
  | _ => none }
def FnExactMovedCellsWrongFalsely : Prop := fnExactMovedCellsRow.holds Try.pinned (OpenSpec.ofChange fnExactMovedCellsWrong)

/-- 'laws.FnExactFitFrame': WHATEVER THE INPUT: true; the input reads as it did. -/
def fnExactFitFrameSpec : ChangeSpec := { name := "fnExactFitFrame", fn := fun _ => fun
  | [d] => { results := [.lit (.bool true)], args := [d] }
  | _ => none }
def fnExactFitFrameRow : OpenClaim := { program := "ytnfnpidopifecaa", sum := "7f1b1e59e1b93d977adf0192678d57a44dab9e97f334f381b28954f785f4d244", func := "loop.example/g00939/laws.FnExactFitFrame", spec := "fnExactFitFrame", apart := false }
def FnExactFitFrameSaid : Prop := fnExactFitFrameRow.holds Try.pinned (OpenSpec.ofChange fnExactFitFrameSpec)

/-- ITS FALSE NEIGHBOUR: 'it returns false'. Refute it at one input. -/
def fnExactFitFrameWrong : ChangeSpec := { name := "fnExactFitFrame", fn := fun _ => fun
  | [d] => { results := [.lit (.bool false)], args := [d] }
  | _ => none }
def FnExactFitFrameWrongFalsely : Prop := fnExactFitFrameRow.holds Try.pinned (OpenSpec.ofChange fnExactFitFrameWrong)

/-- 'laws.FnExactHiddenIn': WHATEVER THE INPUT: true; the input reads as it did. -/
def fnExactHiddenInSpec : ChangeSpec := { name := "fnExactHiddenIn", fn := fun _ => fun
  | [d1, d2] => { results := [.lit (.bool true)], args := [d1, d2] }
  | _ => none }
def fnExactHiddenInRow : OpenClaim := { program := "ytnfnpidopifecaa", sum := "7f1b1e59e1b93d977adf0192678d57a44dab9e97f334f381b28954f785f4d244", func := "loop.example/g00939/laws.FnExactHiddenIn", spec := "fnExactHiddenIn", apart := false }
def FnExactHiddenInSaid : Prop := fnExactHiddenInRow.holds Try.pinned (OpenSpec.ofChange fnExactHiddenInSpec)

/-- ITS FALSE NEIGHBOUR: 'it returns false'. Refute it at one input. -/
def fnExactHiddenInWrong : ChangeSpec := { name := "fnExactHiddenIn", fn := fun _ => fun
  | [d1, d2] => { results := [.lit (.bool false)], args := [d1, d2] }
  | _ => none }
def FnExactHiddenInWrongFalsely : Prop := fnExactHiddenInRow.holds Try.pinned (OpenSpec.ofChange fnExactHiddenInWrong)

/-- 'laws.FnExactCrowdedCells': WHATEVER THE INPUT: true; the input reads as it did. -/
def fnExactCrowdedCellsSpec : ChangeSpec := { name := "fnExactCrowdedCells", fn := fun _ => fun
  | [d1, d2] => { results := [.lit (.bool true)], args := [d1, d2] }
  | _ => none }
def fnExactCrowdedCellsRow : OpenClaim := { program := "ytnfnpidopifecaa", sum := "7f1b1e59e1b93d977adf0192678d57a44dab9e97f334f381b28954f785f4d244", func := "loop.example/g00939/laws.FnExactCrowdedCells", spec := "fnExactCrowdedCells", apart := false }
def FnExactCrowdedCellsSaid : Prop := fnExactCrowdedCellsRow.holds Try.pinned (OpenSpec.ofChange fnExactCrowdedCellsSpec)

/-- ITS FALSE NEIGHBOUR: 'it returns false'. Refute it at one input. -/
def fnExactCrowdedCellsWrong : ChangeSpec := { name := "fnExactCrowdedCells", fn := fun _ => fun
  | [d1, d2] => { results := [.lit (.bool false)], args := [d1, d2] }
  | _ => none }
def FnExactCrowdedCellsWrongFalsely : Prop := fnExactCrowdedCellsRow.holds Try.pinned (OpenSpec.ofChange fnExactCrowdedCellsWrong)

/-- 'laws.FnExactViewOf': WHATEVER THE INPUT: true; the input reads as it did. -/
def fnExactViewOfSpec : ChangeSpec := { name := "fnExactViewOf", fn := fun _ => fun
  | [d1, d2] => { results := [.lit (.bool true)], args := [d1, d2] }
  | _ => none }
def fnExactViewOfRow : OpenClaim := { program := "ytnfnpidopifecaa", sum := "7f1b1e59e1b93d977adf0192678d57a44dab9e97f334f381b28954f785f4d244", func := "loop.example/g00939/laws.FnExactViewOf", spec := "fnExactViewOf", apart := false }
def FnExactViewOfSaid : Prop := fnExactViewOfRow.holds Try.pinned (OpenSpec.ofChange fnExactViewOfSpec)

/-- ITS FALSE NEIGHBOUR: 'it returns false'. Refute it at one input. -/
def fnExactViewOfWrong : ChangeSpec := { name := "fnExactViewOf", fn := fun _ => fun
  | [d1, d2] => { results := [.lit (.bool false)], args := [d1, d2] }
  | _ => none }
def FnExactViewOfWrongFalsely : Prop := fnExactViewOfRow.holds Try.pinned (OpenSpec.ofChange fnExactViewOfWrong)

/-- 'laws.FnExactReadView': WHATEVER THE INPUT: true; the input reads as it did. -/
def fnExactReadViewSpec : ChangeSpec := { name := "fnExactReadView", fn := fun _ => fun
  | [d1, d2] => { results := [.lit (.bool true)], args := [d1, d2] }
  | _ => none }
def fnExactReadViewRow : OpenClaim := { program := "ytnfnpidopifecaa", sum := "7f1b1e59e1b93d977adf0192678d57a44dab9e97f334f381b28954f785f4d244", func := "loop.example/g00939/laws.FnExactReadView", spec := "fnExactReadView", apart := false }
def FnExactReadViewSaid : Prop := fnExactReadViewRow.holds Try.pinned (OpenSpec.ofChange fnExactReadViewSpec)

/-- ITS FALSE NEIGHBOUR: 'it returns false'. Refute it at one input. -/
def fnExactReadViewWrong : ChangeSpec := { name := "fnExactReadView", fn := fun _ => fun
  | [d1, d2] => { results := [.lit (.bool false)], args := [d1, d2] }
  | _ => none }
def FnExactReadViewWrongFalsely : Prop := fnExactReadViewRow.holds Try.pinned (OpenSpec.ofChange fnExactReadViewWrong)

/-- 'laws.FnExactViewText': WHATEVER THE INPUT: true; the input reads as it did. -/
def fnExactViewTextSpec : ChangeSpec := { name := "fnExactViewText", fn := fun _ => fun
  | [d1, d2] => { results := [.lit (.bool true)], args := [d1, d2] }
  | _ => none }
def fnExactViewTextRow : OpenClaim := { program := "ytnfnpidopifecaa", sum := "7f1b1e59e1b93d977adf0192678d57a44dab9e97f334f381b28954f785f4d244", func := "loop.example/g00939/laws.FnExactViewText", spec := "fnExactViewText", inPlace := ["internal/abi.NoEscape", "internal/bytealg.MakeNoZero"], apart := false }
def FnExactViewTextSaid : Prop := fnExactViewTextRow.holds Try.pinned (OpenSpec.ofChange fnExactViewTextSpec)

/-- ITS FALSE NEIGHBOUR: 'it returns false'. Refute it at one input. -/
def fnExactViewTextWrong : ChangeSpec := { name := "fnExactViewText", fn := fun _ => fun
  | [d1, d2] => { results := [.lit (.bool false)], args := [d1, d2] }
  | _ => none }
def FnExactViewTextWrongFalsely : Prop := fnExactViewTextRow.holds Try.pinned (OpenSpec.ofChange fnExactViewTextWrong)

/-- 'laws.FnViews': WHATEVER THE INPUT: true; the input reads as it did. -/
def fnViewsSpec : ChangeSpec := { name := "fnViews", fn := fun _ => fun
  | [d1, d2] => { results := [.lit (.bool true)], args := [d1, d2] }
  | _ => none }
def fnViewsRow : OpenClaim := { program := "ytnfnpidopifecaa", sum := "7f1b1e59e1b93d977adf0192678d57a44dab9e97f334f381b28954f785f4d244", func := "loop.example/g00939/laws.FnViews", spec := "fnViews", inPlace := ["internal/abi.NoEscape", "internal/bytealg.MakeNoZero"], apart := false }
def FnViewsSaid : Prop := fnViewsRow.holds Try.pinned (OpenSpec.ofChange fnViewsSpec)

/-- ITS FALSE NEIGHBOUR: 'it returns false'. Refute it at one input. -/
def fnViewsWrong : ChangeSpec := { name := "fnViews", fn := fun _ => fun
  | [d1, d2] => { results := [.lit (.bool false)], args := [d1, d2] }
  | _ => none }
def FnViewsWrongFalsely : Prop := fnViewsRow.holds Try.pinned (OpenSpec.ofChange fnViewsWrong)

/-- 'laws.FnReadViews': WHATEVER THE INPUT: true; the input reads as it did. -/
def fnReadViewsSpec : ChangeSpec := { name := "fnReadViews", fn := fun _ => fun
  | [d1, d2] => { results := [.lit (.bool true)], args := [d1, d2] }
  | _ => none }
def fnReadViewsRow : OpenClaim := { program := "ytnfnpidopifecaa", sum := "7f1b1e59e1b93d977adf0192678d57a44dab9e97f334f381b28954f785f4d244", func := "loop.example/g00939/laws.FnReadViews", spec := "fnReadViews", apart := false }
def FnReadViewsSaid : Prop := fnReadViewsRow.holds Try.pinned (OpenSpec.ofChange fnReadViewsSpec)

/-- ITS FALSE NEIGHBOUR: 'it returns false'. Refute it at one input. -/
def fnReadViewsWrong : ChangeSpec := { name := "fnReadViews", fn := fun _ => fun
  | [d1, d2] => { results := [.lit (.bool false)], args := [d1, d2] }
  | _ => none }
def FnReadViewsWrongFalsely : Prop := fnReadViewsRow.holds Try.pinned (OpenSpec.ofChange fnReadViewsWrong)

/- THE SECOND FORM. 'bulk': how many values and letters a reading holds, each counted each time it is reached (what is shared counts as often as it is met; a slice's spare places count too). A statement '..UptoSaid' is the law's where the arguments, and the package variables that the reading takes, are together of bulk at most 1048576: NARROWER than '..Said'. Prove '..Said' where nothing that the law and all that it calls make is longer than what came in: it says more and counts as full. Else prove '..UptoSaid'. A law counts once. -/
mutual
def uptoBulk {H : Type} : DataW H → Nat
  | .lit (.string bytes) => bytes.length + 1
  | .lit _ => 1
  | .nil => 1
  | .ptr d => uptoBulk d + 1
  | .slice elems spare => uptoBulkAll elems + uptoBulkAll spare + 1
  | .agg parts => uptoBulkAll parts + 1
  | .iface _ d => uptoBulk d + 1
  | .map entries => uptoBulkEntries entries + 1
  | .held _ => 1
def uptoBulkAll {H : Type} : List (DataW H) → Nat
  | [] => 0
  | d :: r => uptoBulk d + uptoBulkAll r
def uptoBulkEntries {H : Type} : List (Lit × DataW H) → Nat
  | [] => 0
  | x :: r => uptoBulkEntry x + uptoBulkEntries r
def uptoBulkEntry {H : Type} : Lit × DataW H → Nat
  | (.string bytes, d) => bytes.length + uptoBulk d + 1
  | (_, d) => uptoBulk d + 1
 end
def uptoSmall : (H : Type) → List (DataW H) → Bool := fun _ ds => decide (uptoBulkAll ds ≤ 1048576)
def OpenSpec.upto (s : _root_.Go.ChangeSpec) : _root_.Go.OpenSpec := { _root_.Go.OpenSpec.ofChange s with cond := some uptoSmall }

/-- 'laws.FnExactIsFrameOf', WHERE WHAT IT READS IS OF BULK AT MOST 1048576: true; the input reads as it did. -/
def fnExactIsFrameOfUptoRow : OpenClaim := { program := "ytnfnpidopifecaa", sum := "7f1b1e59e1b93d977adf0192678d57a44dab9e97f334f381b28954f785f4d244", func := "loop.example/g00939/laws.FnExactIsFrameOf", spec := "fnExactIsFrameOf", apart := false, narrowed := true }
def FnExactIsFrameOfUptoSaid : Prop := fnExactIsFrameOfUptoRow.holds Try.pinned (OpenSpec.upto fnExactIsFrameOfSpec)

/-- 'laws.FnExactCellOf', WHERE WHAT IT READS IS OF BULK AT MOST 1048576: true; the input reads as it did. -/
def fnExactCellOfUptoRow : OpenClaim := { program := "ytnfnpidopifecaa", sum := "7f1b1e59e1b93d977adf0192678d57a44dab9e97f334f381b28954f785f4d244", func := "loop.example/g00939/laws.FnExactCellOf", spec := "fnExactCellOf", apart := false, narrowed := true }
def FnExactCellOfUptoSaid : Prop := fnExactCellOfUptoRow.holds Try.pinned (OpenSpec.upto fnExactCellOfSpec)

/-- 'laws.FnExactMirrorView', WHERE WHAT IT READS IS OF BULK AT MOST 1048576: true; the input reads as it did. -/
def fnExactMirrorViewUptoRow : OpenClaim := { program := "ytnfnpidopifecaa", sum := "7f1b1e59e1b93d977adf0192678d57a44dab9e97f334f381b28954f785f4d244", func := "loop.example/g00939/laws.FnExactMirrorView", spec := "fnExactMirrorView", apart := false, narrowed := true }
def FnExactMirrorViewUptoSaid : Prop := fnExactMirrorViewUptoRow.holds Try.pinned (OpenSpec.upto fnExactMirrorViewSpec)

/-- 'laws.FnExactMovedCells', WHERE WHAT IT READS IS OF BULK AT MOST 1048576: true; the input reads as it did. -/
def fnExactMovedCellsUptoRow : OpenClaim := { program := "ytnfnpidopifecaa", sum := "7f1b1e59e1b93d977adf0192678d57a44dab9e97f334f381b28954f785f4d244", func := "loop.example/g00939/laws.FnExactMovedCells", spec := "fnExactMovedCells", apart := false, narrowed := true }
def FnExactMovedCellsUptoSaid : Prop := fnExactMovedCellsUptoRow.holds Try.pinned (OpenSpec.upto fnExactMovedCellsSpec)

/-- 'laws.FnExactFitFrame', WHERE WHAT IT READS IS OF BULK AT MOST 1048576: true; the input reads as it did. -/
def fnExactFitFrameUptoRow : OpenClaim := { program := "ytnfnpidopifecaa", sum := "7f1b1e59e1b93d977adf0192678d57a44dab9e97f334f381b28954f785f4d244", func := "loop.example/g00939/laws.FnExactFitFrame", spec := "fnExactFitFrame", apart := false, narrowed := true }
def FnExactFitFrameUptoSaid : Prop := fnExactFitFrameUptoRow.holds Try.pinned (OpenSpec.upto fnExactFitFrameSpec)

/-- 'laws.FnExactHiddenIn', WHERE WHAT IT READS IS OF BULK AT MOST 1048576: true; the input reads as it did. -/
def fnExactHiddenInUptoRow : OpenClaim := { program := "ytnfnpidopifecaa", sum := "7f1b1e59e1b93d977adf0192678d57a44dab9e97f334f381b28954f785f4d244", func := "loop.example/g00939/laws.FnExactHiddenIn", spec := "fnExactHiddenIn", apart := false, narrowed := true }
def FnExactHiddenInUptoSaid : Prop := fnExactHiddenInUptoRow.holds Try.pinned (OpenSpec.upto fnExactHiddenInSpec)

/-- 'laws.FnExactCrowdedCells', WHERE WHAT IT READS IS OF BULK AT MOST 1048576: true; the input reads as it did. -/
def fnExactCrowdedCellsUptoRow : OpenClaim := { program := "ytnfnpidopifecaa", sum := "7f1b1e59e1b93d977adf0192678d57a44dab9e97f334f381b28954f785f4d244", func := "loop.example/g00939/laws.FnExactCrowdedCells", spec := "fnExactCrowdedCells", apart := false, narrowed := true }
def FnExactCrowdedCellsUptoSaid : Prop := fnExactCrowdedCellsUptoRow.holds Try.pinned (OpenSpec.upto fnExactCrowdedCellsSpec)

/-- 'laws.FnExactViewOf', WHERE WHAT IT READS IS OF BULK AT MOST 1048576: true; the input reads as it did. -/
def fnExactViewOfUptoRow : OpenClaim := { program := "ytnfnpidopifecaa", sum := "7f1b1e59e1b93d977adf0192678d57a44dab9e97f334f381b28954f785f4d244", func := "loop.example/g00939/laws.FnExactViewOf", spec := "fnExactViewOf", apart := false, narrowed := true }
def FnExactViewOfUptoSaid : Prop := fnExactViewOfUptoRow.holds Try.pinned (OpenSpec.upto fnExactViewOfSpec)

/-- 'laws.FnExactReadView', WHERE WHAT IT READS IS OF BULK AT MOST 1048576: true; the input reads as it did. -/
def fnExactReadViewUptoRow : OpenClaim := { program := "ytnfnpidopifecaa", sum := "7f1b1e59e1b93d977adf0192678d57a44dab9e97f334f381b28954f785f4d244", func := "loop.example/g00939/laws.FnExactReadView", spec := "fnExactReadView", apart := false, narrowed := true }
def FnExactReadViewUptoSaid : Prop := fnExactReadViewUptoRow.holds Try.pinned (OpenSpec.upto fnExactReadViewSpec)

/-- 'laws.FnExactViewText', WHERE WHAT IT READS IS OF BULK AT MOST 1048576: true; the input reads as it did. -/
def fnExactViewTextUptoRow : OpenClaim := { program := "ytnfnpidopifecaa", sum := "7f1b1e59e1b93d977adf0192678d57a44dab9e97f334f381b28954f785f4d244", func := "loop.example/g00939/laws.FnExactViewText", spec := "fnExactViewText", inPlace := ["internal/abi.NoEscape", "internal/bytealg.MakeNoZero"], apart := false, narrowed := true }
def FnExactViewTextUptoSaid : Prop := fnExactViewTextUptoRow.holds Try.pinned (OpenSpec.upto fnExactViewTextSpec)

/-- 'laws.FnViews', WHERE WHAT IT READS IS OF BULK AT MOST 1048576: true; the input reads as it did. -/
def fnViewsUptoRow : OpenClaim := { program := "ytnfnpidopifecaa", sum := "7f1b1e59e1b93d977adf0192678d57a44dab9e97f334f381b28954f785f4d244", func := "loop.example/g00939/laws.FnViews", spec := "fnViews", inPlace := ["internal/abi.NoEscape", "internal/bytealg.MakeNoZero"], apart := false, narrowed := true }
def FnViewsUptoSaid : Prop := fnViewsUptoRow.holds Try.pinned (OpenSpec.upto fnViewsSpec)

/-- 'laws.FnReadViews', WHERE WHAT IT READS IS OF BULK AT MOST 1048576: true; the input reads as it did. -/
def fnReadViewsUptoRow : OpenClaim := { program := "ytnfnpidopifecaa", sum := "7f1b1e59e1b93d977adf0192678d57a44dab9e97f334f381b28954f785f4d244", func := "loop.example/g00939/laws.FnReadViews", spec := "fnReadViews", apart := false, narrowed := true }
def FnReadViewsUptoSaid : Prop := fnReadViewsUptoRow.holds Try.pinned (OpenSpec.upto fnReadViewsSpec)

end Rows
end Go.Proofs.Ytnfnpidopifecaa
