/-
  No cell of these rows narrows 'for every input' (looked for: loops, veiled, ifaces, maps, wideKeys, modest, calm, conditions, laid).
  DERIVED. THE GIVEN ROWS OF THIS SEAT. 12 by the template 'for every input the law returns true; each argument reads behind the call as it read before'; 0 by the template 'total and deterministic' (their statements: YtkkiihcldjappaaTotals.lean).
  GIVEN WITH THE SEED: the statements are not yours to turn. If you find one false, say at which input.
  Laid BY PROGRAM, IN A SANDBOX (cutbox-rows.mjs): the forced cells as the released guide's own fill.sh prints them over the translation bb56dd16e223fa2c… (all of the seat's roots in one cut). By AI agents, Wed Nov 11 2026. No macro, syntax, notation, axiom, sorry.
-/
import Derived.Test.YtkkiihcldjappaaChecked
import GoSem.Claim
import GoSem.ClaimJoined
import GoSem.ClaimMapViews
import Derived.JoinedTies
import Derived.KernelRfl
namespace Go.Proofs.Ytkkiihcldjappaa
/- THE CELL 'sum', in the pinned program and in every row, IS THE sha256 OF THE DUMP (.gsa) THAT YtkkiihcldjappaaProg.lean LOADS. Nothing in Lean hashes anything: it is a label: what it is worth is what the hold of that sum in a sandbox is worth. -/
noncomputable def Try.pinned : Pinned := { name := "ytkkiihcldjappaa", sum := "bb56dd16e223fa2c9a1d5344d1643e86449d92eb4b0b5503c54b80cce85ede60", checked := Try.checked }
namespace Rows
def none {H : Type} : Left H := { results := [], args := [] }

/-- 'laws.FnExactIsFrame': WHATEVER THE INPUT: true; the input reads as it did. -/
def fnExactIsFrameSpec : ChangeSpec := { name := "fnExactIsFrame", fn := fun _ => fun
  | [d] => { results := [.lit (.bool true)], args := [d] }
  | _ => none }
def fnExactIsFrameRow : OpenClaim := { program := "ytkkiihcldjappaa", sum := "bb56dd16e223fa2c9a1d5344d1643e86449d92eb4b0b5503c54b80cce85ede60", func := "loop.example/g00939/laws.FnExactIsFrame", spec := "fnExactIsFrame", apart := false }
def FnExactIsFrameSaid : Prop := fnExactIsFrameRow.holds Try.pinned (OpenSpec.ofChange fnExactIsFrameSpec)

/-- ITS FALSE NEIGHBOUR: 'it returns false'. Refute it at one input. -/
def fnExactIsFrameWrong : ChangeSpec := { name := "fnExactIsFrame", fn := fun _ => fun
  | [d] => { results := [.lit (.bool false)], args := [d] }
  | _ => none }
def FnExactIsFrameWrongFalsely : Prop := fnExactIsFrameRow.holds Try.pinned (OpenSpec.ofChange fnExactIsFrameWrong)

/-- 'laws.FnExactFrameCheck': WHATEVER THE INPUT: true; the input reads as it did. -/
def fnExactFrameCheckSpec : ChangeSpec := { name := "fnExactFrameCheck", fn := fun _ => fun
  | [d1, d2] => { results := [.lit (.bool true)], args := [d1, d2] }
  | _ => none }
def fnExactFrameCheckRow : OpenClaim := { program := "ytkkiihcldjappaa", sum := "bb56dd16e223fa2c9a1d5344d1643e86449d92eb4b0b5503c54b80cce85ede60", func := "loop.example/g00939/laws.FnExactFrameCheck", spec := "fnExactFrameCheck", apart := false }
def FnExactFrameCheckSaid : Prop := fnExactFrameCheckRow.holds Try.pinned (OpenSpec.ofChange fnExactFrameCheckSpec)

/-- ITS FALSE NEIGHBOUR: 'it returns false'. Refute it at one input. -/
def fnExactFrameCheckWrong : ChangeSpec := { name := "fnExactFrameCheck", fn := fun _ => fun
  | [d1, d2] => { results := [.lit (.bool false)], args := [d1, d2] }
  | _ => none }
def FnExactFrameCheckWrongFalsely : Prop := fnExactFrameCheckRow.holds Try.pinned (OpenSpec.ofChange fnExactFrameCheckWrong)

/-- 'laws.FnExactFlipBit': WHATEVER THE INPUT: true; the input reads as it did. -/
def fnExactFlipBitSpec : ChangeSpec := { name := "fnExactFlipBit", fn := fun _ => fun
  | [d1, d2, d3] => { results := [.lit (.bool true)], args := [d1, d2, d3] }
  | _ => none }
def fnExactFlipBitRow : OpenClaim := { program := "ytkkiihcldjappaa", sum := "bb56dd16e223fa2c9a1d5344d1643e86449d92eb4b0b5503c54b80cce85ede60", func := "loop.example/g00939/laws.FnExactFlipBit", spec := "fnExactFlipBit", apart := false }
def FnExactFlipBitSaid : Prop := fnExactFlipBitRow.holds Try.pinned (OpenSpec.ofChange fnExactFlipBitSpec)

/-- ITS FALSE NEIGHBOUR: 'it returns false'. Refute it at one input. -/
def fnExactFlipBitWrong : ChangeSpec := { name := "fnExactFlipBit", fn := fun _ => fun
  | [d1, d2, d3] => { results := [.lit (.bool false)], args := [d1, d2, d3] }
  | _ => none }
def FnExactFlipBitWrongFalsely : Prop := fnExactFlipBitRow.holds Try.pinned (OpenSpec.ofChange fnExactFlipBitWrong)

/-- 'laws.FnExactCutBytes': WHATEVER THE INPUT: true; the input reads as it did. -/
def fnExactCutBytesSpec : ChangeSpec := { name := "fnExactCutBytes", fn := fun _ => fun
  | [d1, d2] => { results := [.lit (.bool true)], args := [d1, d2] }
  | _ => none }
def fnExactCutBytesRow : OpenClaim := { program := "ytkkiihcldjappaa", sum := "bb56dd16e223fa2c9a1d5344d1643e86449d92eb4b0b5503c54b80cce85ede60", func := "loop.example/g00939/laws.FnExactCutBytes", spec := "fnExactCutBytes", apart := false }
def FnExactCutBytesSaid : Prop := fnExactCutBytesRow.holds Try.pinned (OpenSpec.ofChange fnExactCutBytesSpec)

/-- ITS FALSE NEIGHBOUR: 'it returns false'. Refute it at one input. -/
def fnExactCutBytesWrong : ChangeSpec := { name := "fnExactCutBytes", fn := fun _ => fun
  | [d1, d2] => { results := [.lit (.bool false)], args := [d1, d2] }
  | _ => none }
def FnExactCutBytesWrongFalsely : Prop := fnExactCutBytesRow.holds Try.pinned (OpenSpec.ofChange fnExactCutBytesWrong)

/-- 'laws.FnExactFrameBytes': WHATEVER THE INPUT: true; the input reads as it did. -/
def fnExactFrameBytesSpec : ChangeSpec := { name := "fnExactFrameBytes", fn := fun _ => fun
  | [d1, d2] => { results := [.lit (.bool true)], args := [d1, d2] }
  | _ => none }
def fnExactFrameBytesRow : OpenClaim := { program := "ytkkiihcldjappaa", sum := "bb56dd16e223fa2c9a1d5344d1643e86449d92eb4b0b5503c54b80cce85ede60", func := "loop.example/g00939/laws.FnExactFrameBytes", spec := "fnExactFrameBytes", apart := false }
def FnExactFrameBytesSaid : Prop := fnExactFrameBytesRow.holds Try.pinned (OpenSpec.ofChange fnExactFrameBytesSpec)

/-- ITS FALSE NEIGHBOUR: 'it returns false'. Refute it at one input. -/
def fnExactFrameBytesWrong : ChangeSpec := { name := "fnExactFrameBytes", fn := fun _ => fun
  | [d1, d2] => { results := [.lit (.bool false)], args := [d1, d2] }
  | _ => none }
def FnExactFrameBytesWrongFalsely : Prop := fnExactFrameBytesRow.holds Try.pinned (OpenSpec.ofChange fnExactFrameBytesWrong)

/-- 'laws.FnExactCommonFrames': WHATEVER THE INPUT: true; the input reads as it did. -/
def fnExactCommonFramesSpec : ChangeSpec := { name := "fnExactCommonFrames", fn := fun _ => fun
  | [d1, d2] => { results := [.lit (.bool true)], args := [d1, d2] }
  | _ => none }
def fnExactCommonFramesRow : OpenClaim := { program := "ytkkiihcldjappaa", sum := "bb56dd16e223fa2c9a1d5344d1643e86449d92eb4b0b5503c54b80cce85ede60", func := "loop.example/g00939/laws.FnExactCommonFrames", spec := "fnExactCommonFrames", apart := false }
def FnExactCommonFramesSaid : Prop := fnExactCommonFramesRow.holds Try.pinned (OpenSpec.ofChange fnExactCommonFramesSpec)

/-- ITS FALSE NEIGHBOUR: 'it returns false'. Refute it at one input. -/
def fnExactCommonFramesWrong : ChangeSpec := { name := "fnExactCommonFrames", fn := fun _ => fun
  | [d1, d2] => { results := [.lit (.bool false)], args := [d1, d2] }
  | _ => none }
def FnExactCommonFramesWrongFalsely : Prop := fnExactCommonFramesRow.holds Try.pinned (OpenSpec.ofChange fnExactCommonFramesWrong)

/-- 'laws.FnExactAppendFrame': WHATEVER THE INPUT: true; the input reads as it did. -/
def fnExactAppendFrameSpec : ChangeSpec := { name := "fnExactAppendFrame", fn := fun _ => fun
  | [d1, d2] => { results := [.lit (.bool true)], args := [d1, d2] }
  | _ => none }
def fnExactAppendFrameRow : OpenClaim := { program := "ytkkiihcldjappaa", sum := "bb56dd16e223fa2c9a1d5344d1643e86449d92eb4b0b5503c54b80cce85ede60", func := "loop.example/g00939/laws.FnExactAppendFrame", spec := "fnExactAppendFrame", apart := false }
def FnExactAppendFrameSaid : Prop := fnExactAppendFrameRow.holds Try.pinned (OpenSpec.ofChange fnExactAppendFrameSpec)

/-- ITS FALSE NEIGHBOUR: 'it returns false'. Refute it at one input. -/
def fnExactAppendFrameWrong : ChangeSpec := { name := "fnExactAppendFrame", fn := fun _ => fun
  | [d1, d2] => { results := [.lit (.bool false)], args := [d1, d2] }
  | _ => none }
def FnExactAppendFrameWrongFalsely : Prop := fnExactAppendFrameRow.holds Try.pinned (OpenSpec.ofChange fnExactAppendFrameWrong)

/-- 'laws.FnExactRecoverFrames': WHATEVER THE INPUT: true; the input reads as it did. -/
def fnExactRecoverFramesSpec : ChangeSpec := { name := "fnExactRecoverFrames", fn := fun _ => fun
  | [d] => { results := [.lit (.bool true)], args := [d] }
  | _ => none }
def fnExactRecoverFramesRow : OpenClaim := { program := "ytkkiihcldjappaa", sum := "bb56dd16e223fa2c9a1d5344d1643e86449d92eb4b0b5503c54b80cce85ede60", func := "loop.example/g00939/laws.FnExactRecoverFrames", spec := "fnExactRecoverFrames", apart := false }
def FnExactRecoverFramesSaid : Prop := fnExactRecoverFramesRow.holds Try.pinned (OpenSpec.ofChange fnExactRecoverFramesSpec)

/-- ITS FALSE NEIGHBOUR: 'it returns false'. Refute it at one input. -/
def fnExactRecoverFramesWrong : ChangeSpec := { name := "fnExactRecoverFrames", fn := fun _ => fun
  | [d] => { results := [.lit (.bool false)], args := [d] }
  | _ => none }
def FnExactRecoverFramesWrongFalsely : Prop := fnExactRecoverFramesRow.holds Try.pinned (OpenSpec.ofChange fnExactRecoverFramesWrong)

/-- 'laws.FnExactJournalBytes': WHATEVER THE INPUT: true; the input reads as it did. -/
def fnExactJournalBytesSpec : ChangeSpec := { name := "fnExactJournalBytes", fn := fun _ => fun
  | [d] => { results := [.lit (.bool true)], args := [d] }
  | _ => none }
def fnExactJournalBytesRow : OpenClaim := { program := "ytkkiihcldjappaa", sum := "bb56dd16e223fa2c9a1d5344d1643e86449d92eb4b0b5503c54b80cce85ede60", func := "loop.example/g00939/laws.FnExactJournalBytes", spec := "fnExactJournalBytes", apart := false }
def FnExactJournalBytesSaid : Prop := fnExactJournalBytesRow.holds Try.pinned (OpenSpec.ofChange fnExactJournalBytesSpec)

/-- ITS FALSE NEIGHBOUR: 'it returns false'. Refute it at one input. -/
def fnExactJournalBytesWrong : ChangeSpec := { name := "fnExactJournalBytes", fn := fun _ => fun
  | [d] => { results := [.lit (.bool false)], args := [d] }
  | _ => none }
def FnExactJournalBytesWrongFalsely : Prop := fnExactJournalBytesRow.holds Try.pinned (OpenSpec.ofChange fnExactJournalBytesWrong)

/-- 'laws.FnExactSurvivingFrames': WHATEVER THE INPUT: true; the input reads as it did. -/
def fnExactSurvivingFramesSpec : ChangeSpec := { name := "fnExactSurvivingFrames", fn := fun _ => fun
  | [d1, d2] => { results := [.lit (.bool true)], args := [d1, d2] }
  | _ => none }
def fnExactSurvivingFramesRow : OpenClaim := { program := "ytkkiihcldjappaa", sum := "bb56dd16e223fa2c9a1d5344d1643e86449d92eb4b0b5503c54b80cce85ede60", func := "loop.example/g00939/laws.FnExactSurvivingFrames", spec := "fnExactSurvivingFrames", apart := false }
def FnExactSurvivingFramesSaid : Prop := fnExactSurvivingFramesRow.holds Try.pinned (OpenSpec.ofChange fnExactSurvivingFramesSpec)

/-- ITS FALSE NEIGHBOUR: 'it returns false'. Refute it at one input. -/
def fnExactSurvivingFramesWrong : ChangeSpec := { name := "fnExactSurvivingFrames", fn := fun _ => fun
  | [d1, d2] => { results := [.lit (.bool false)], args := [d1, d2] }
  | _ => none }
def FnExactSurvivingFramesWrongFalsely : Prop := fnExactSurvivingFramesRow.holds Try.pinned (OpenSpec.ofChange fnExactSurvivingFramesWrong)

/-- 'laws.FnFrames': WHATEVER THE INPUT: true; the input reads as it did. -/
def fnFramesSpec : ChangeSpec := { name := "fnFrames", fn := fun _ => fun
  | [d1, d2] => { results := [.lit (.bool true)], args := [d1, d2] }
  | _ => none }
def fnFramesRow : OpenClaim := { program := "ytkkiihcldjappaa", sum := "bb56dd16e223fa2c9a1d5344d1643e86449d92eb4b0b5503c54b80cce85ede60", func := "loop.example/g00939/laws.FnFrames", spec := "fnFrames", apart := false }
def FnFramesSaid : Prop := fnFramesRow.holds Try.pinned (OpenSpec.ofChange fnFramesSpec)

/-- ITS FALSE NEIGHBOUR: 'it returns false'. Refute it at one input. -/
def fnFramesWrong : ChangeSpec := { name := "fnFrames", fn := fun _ => fun
  | [d1, d2] => { results := [.lit (.bool false)], args := [d1, d2] }
  | _ => none }
def FnFramesWrongFalsely : Prop := fnFramesRow.holds Try.pinned (OpenSpec.ofChange fnFramesWrong)

/-- 'laws.FnDamage': WHATEVER THE INPUT: true; the input reads as it did. -/
def fnDamageSpec : ChangeSpec := { name := "fnDamage", fn := fun _ => fun
  | [d1, d2] => { results := [.lit (.bool true)], args := [d1, d2] }
  | _ => none }
def fnDamageRow : OpenClaim := { program := "ytkkiihcldjappaa", sum := "bb56dd16e223fa2c9a1d5344d1643e86449d92eb4b0b5503c54b80cce85ede60", func := "loop.example/g00939/laws.FnDamage", spec := "fnDamage", apart := false }
def FnDamageSaid : Prop := fnDamageRow.holds Try.pinned (OpenSpec.ofChange fnDamageSpec)

/-- ITS FALSE NEIGHBOUR: 'it returns false'. Refute it at one input. -/
def fnDamageWrong : ChangeSpec := { name := "fnDamage", fn := fun _ => fun
  | [d1, d2] => { results := [.lit (.bool false)], args := [d1, d2] }
  | _ => none }
def FnDamageWrongFalsely : Prop := fnDamageRow.holds Try.pinned (OpenSpec.ofChange fnDamageWrong)

/- THE SECOND FORM. 'bulk': how many values and letters a reading holds, each counted each time it is reached (what is shared counts as often as it is met; a slice's spare places count too). A statement '..UptoSaid' is the law's where the arguments, and the package variables that the reading takes, are together of bulk at most 1048576: NARROWER than '..Said'. Prove '..Said' where nothing that the law and all that it calls make is longer than what came in: it says more and counts as full. Else prove '..UptoSaid'. A law counts once. -/
mutual
def uptoBulk {H : Type} : DataW H → Nat
  | .lit (.string bytes) => bytes.length + 1
  | .lit _ => 1
  | .nil => 1
  | .ptr d => uptoBulk d + 1
  | .slice elems spare => uptoBulkAll elems + uptoBulkAll spare + 1
  | .agg parts => uptoBulkAll parts + 1
  | .iface _ d => uptoBulk d + 1
  | .map entries => uptoBulkEntries entries + 1
  | .held _ => 1
def uptoBulkAll {H : Type} : List (DataW H) → Nat
  | [] => 0
  | d :: r => uptoBulk d + uptoBulkAll r
def uptoBulkEntries {H : Type} : List (Lit × DataW H) → Nat
  | [] => 0
  | x :: r => uptoBulkEntry x + uptoBulkEntries r
def uptoBulkEntry {H : Type} : Lit × DataW H → Nat
  | (.string bytes, d) => bytes.length + uptoBulk d + 1
  | (_, d) => uptoBulk d + 1
 end
def uptoSmall : (H : Type) → List (DataW H) → Bool := fun _ ds => decide (uptoBulkAll ds ≤ 1048576)
def OpenSpec.upto (s : _root_.Go.ChangeSpec) : _root_.Go.OpenSpec := { _root_.Go.OpenSpec.ofChange s with cond := some uptoSmall }

/-- 'laws.FnExactIsFrame', WHERE WHAT IT READS IS OF BULK AT MOST 1048576: true; the input reads as it did. -/
def fnExactIsFrameUptoRow : OpenClaim := { program := "ytkkiihcldjappaa", sum := "bb56dd16e223fa2c9a1d5344d1643e86449d92eb4b0b5503c54b80cce85ede60", func := "loop.example/g00939/laws.FnExactIsFrame", spec := "fnExactIsFrame", apart := false, narrowed := true }
def FnExactIsFrameUptoSaid : Prop := fnExactIsFrameUptoRow.holds Try.pinned (OpenSpec.upto fnExactIsFrameSpec)

/-- 'laws.FnExactFrameCheck', WHERE WHAT IT READS IS OF BULK AT MOST 1048576: true; the input reads as it did. -/
def fnExactFrameCheckUptoRow : OpenClaim := { program := "ytkkiihcldjappaa", sum := "bb56dd16e223fa2c9a1d5344d1643e86449d92eb4b0b5503c54b80cce85ede60", func := "loop.example/g00939/laws.FnExactFrameCheck", spec := "fnExactFrameCheck", apart := false, narrowed := true }
def FnExactFrameCheckUptoSaid : Prop := fnExactFrameCheckUptoRow.holds Try.pinned (OpenSpec.upto fnExactFrameCheckSpec)

/-- 'laws.FnExactFlipBit', WHERE WHAT IT READS IS OF BULK AT MOST 1048576: true; the input reads as it did. -/
def fnExactFlipBitUptoRow : OpenClaim := { program := "ytkkiihcldjappaa", sum := "bb56dd16e223fa2c9a1d5344d1643e86449d92eb4b0b5503c54b80cce85ede60", func := "loop.example/g00939/laws.FnExactFlipBit", spec := "fnExactFlipBit", apart := false, narrowed := true }
def FnExactFlipBitUptoSaid : Prop := fnExactFlipBitUptoRow.holds Try.pinned (OpenSpec.upto fnExactFlipBitSpec)

/-- 'laws.FnExactCutBytes', WHERE WHAT IT READS IS OF BULK AT MOST 1048576: true; the input reads as it did. -/
def fnExactCutBytesUptoRow : OpenClaim := { program := "ytkkiihcldjappaa", sum := "bb56dd16e223fa2c9a1d5344d1643e86449d92eb4b0b5503c54b80cce85ede60", func := "loop.example/g00939/laws.FnExactCutBytes", spec := "fnExactCutBytes", apart := false, narrowed := true }
def FnExactCutBytesUptoSaid : Prop := fnExactCutBytesUptoRow.holds Try.pinned (OpenSpec.upto fnExactCutBytesSpec)

/-- 'laws.FnExactFrameBytes', WHERE WHAT IT READS IS OF BULK AT MOST 1048576: true; the input reads as it did. -/
def fnExactFrameBytesUptoRow : OpenClaim := { program := "ytkkiihcldjappaa", sum := "bb56dd16e223fa2c9a1d5344d1643e86449d92eb4b0b5503c54b80cce85ede60", func := "loop.example/g00939/laws.FnExactFrameBytes", spec := "fnExactFrameBytes", apart := false, narrowed := true }
def FnExactFrameBytesUptoSaid : Prop := fnExactFrameBytesUptoRow.holds Try.pinned (OpenSpec.upto fnExactFrameBytesSpec)

/-- 'laws.FnExactCommonFrames', WHERE WHAT IT READS IS OF BULK AT MOST 1048576: true; the input reads as it did. -/
def fnExactCommonFramesUptoRow : OpenClaim := { program := "ytkkiihcldjappaa", sum := "bb56dd16e223fa2c9a1d5344d1643e86449d92eb4b0b5503c54b80cce85ede60", func := "loop.example/g00939/laws.FnExactCommonFrames", spec := "fnExactCommonFrames", apart := false, narrowed := true }
def FnExactCommonFramesUptoSaid : Prop := fnExactCommonFramesUptoRow.holds Try.pinned (OpenSpec.upto fnExactCommonFramesSpec)

/-- 'laws.FnExactAppendFrame', WHERE WHAT IT READS IS OF BULK AT MOST 1048576: true; the input reads as it did. -/
def fnExactAppendFrameUptoRow : OpenClaim := { program := "ytkkiihcldjappaa", sum := "bb56dd16e223fa2c9a1d5344d1643e86449d92eb4b0b5503c54b80cce85ede60", func := "loop.example/g00939/laws.FnExactAppendFrame", spec := "fnExactAppendFrame", apart := false, narrowed := true }
def FnExactAppendFrameUptoSaid : Prop := fnExactAppendFrameUptoRow.holds Try.pinned (OpenSpec.upto fnExactAppendFrameSpec)

/-- 'laws.FnExactRecoverFrames', WHERE WHAT IT READS IS OF BULK AT MOST 1048576: true; the input reads as it did. -/
def fnExactRecoverFramesUptoRow : OpenClaim := { program := "ytkkiihcldjappaa", sum := "bb56dd16e223fa2c9a1d5344d1643e86449d92eb4b0b5503c54b80cce85ede60", func := "loop.example/g00939/laws.FnExactRecoverFrames", spec := "fnExactRecoverFrames", apart := false, narrowed := true }
def FnExactRecoverFramesUptoSaid : Prop := fnExactRecoverFramesUptoRow.holds Try.pinned (OpenSpec.upto fnExactRecoverFramesSpec)

/-- 'laws.FnExactJournalBytes', WHERE WHAT IT READS IS OF BULK AT MOST 1048576: true; the input reads as it did. -/
def fnExactJournalBytesUptoRow : OpenClaim := { program := "ytkkiihcldjappaa", sum := "bb56dd16e223fa2c9a1d5344d1643e86449d92eb4b0b5503c54b80cce85ede60", func := "loop.example/g00939/laws.FnExactJournalBytes", spec := "fnExactJournalBytes", apart := false, narrowed := true }
def FnExactJournalBytesUptoSaid : Prop := fnExactJournalBytesUptoRow.holds Try.pinned (OpenSpec.upto fnExactJournalBytesSpec)

/-- 'laws.FnExactSurvivingFrames', WHERE WHAT IT READS IS OF BULK AT MOST 1048576: true; the input reads as it did. -/
def fnExactSurvivingFramesUptoRow : OpenClaim := { program := "ytkkiihcldjappaa", sum := "bb56dd16e223fa2c9a1d5344d1643e86449d92eb4b0b5503c54b80cce85ede60", func := "loop.example/g00939/laws.FnExactSurvivingFrames", spec := "fnExactSurvivingFrames", apart := false, narrowed := true }
def FnExactSurvivingFramesUptoSaid : Prop := fnExactSurvivingFramesUptoRow.holds Try.pinned (OpenSpec.upto fnExactSurvivingFramesSpec)

/-- 'laws.FnFrames', WHERE WHAT IT READS IS OF BULK AT MOST 1048576: true; the input reads as it did. -/
def fnFramesUptoRow : OpenClaim := { program := "ytkkiihcldjappaa", sum := "bb56dd16e223fa2c9a1d5344d1643e86449d92eb4b0b5503c54b80cce85ede60", func := "loop.example/g00939/laws.FnFrames", spec := "fnFrames", apart := false, narrowed := true }
def FnFramesUptoSaid : Prop := fnFramesUptoRow.holds Try.pinned (OpenSpec.upto fnFramesSpec)

/-- 'laws.FnDamage', WHERE WHAT IT READS IS OF BULK AT MOST 1048576: true; the input reads as it did. -/
def fnDamageUptoRow : OpenClaim := { program := "ytkkiihcldjappaa", sum := "bb56dd16e223fa2c9a1d5344d1643e86449d92eb4b0b5503c54b80cce85ede60", func := "loop.example/g00939/laws.FnDamage", spec := "fnDamage", apart := false, narrowed := true }
def FnDamageUptoSaid : Prop := fnDamageUptoRow.holds Try.pinned (OpenSpec.upto fnDamageSpec)

end Rows
end Go.Proofs.Ytkkiihcldjappaa
