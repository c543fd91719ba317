/- Words for a region that draws its order and whose callees lay memory, walked once in the order of the text. Plain lemmas; no function of the program. -/
import Derived.Test.YtnkbopnmfoplfaaBase
import Derived.Lib.QuietBelow
import Derived.BigQuiet
set_option linter.unusedSimpArgs false
set_option linter.unusedVariables false
namespace Go.Proofs.Ytnkbopnmfoplfaa
open Go.RowKit Go.Sort

/-- A world with whatever count of draws, and some blocks laid behind it. -/
abbrev RG (w : World) (d : Nat) (os : Array Obj) : World := grow (redrawn w d) os
/-- A contract that leaves the world as it was, met in a world of the class. -/
theorem rg_same {P : Program} {f : FuncId} {args : Array Value} {w : World} {d : Nat} {os : Array Obj} {v : Value}
    (h : Calls P f args (grow (redrawn w d) os) fun e w' => e = .returned v ∧ grow (redrawn w d) os = w') : Calls P f args (grow (redrawn w d) os) fun e w'' => e = .returned v ∧ ∃ p : Regrown, w'' = grow (redrawn w p.d) p.os :=
  h.mono fun _ _ ⟨he, hb⟩ => ⟨he, ⟨⟨d, os⟩, hb.symm⟩⟩
theorem rg_same' {P : Program} {f : FuncId} {args : Array Value} {w : World} {d : Nat} {os : Array Obj} {v : Value}
    (h : Calls P f args (grow (redrawn w d) os) fun e w' => e = .returned v ∧ w' = grow (redrawn w d) os) : Calls P f args (grow (redrawn w d) os) fun e w'' => e = .returned v ∧ ∃ p : Regrown, w'' = grow (redrawn w p.d) p.os :=
  h.mono fun _ _ ⟨he, hb⟩ => ⟨he, ⟨⟨d, os⟩, hb⟩⟩
theorem rg_below {P : Program} {f : FuncId} {args : Array Value} {w : World} {d : Nat} {os : Array Obj} {v : Value}
    (h : Calls P f args (grow (redrawn w d) os) fun e w' => e = .returned v ∧ Below (grow (redrawn w d) os).heap.size (grow (redrawn w d) os) w') : Calls P f args (grow (redrawn w d) os) fun e w'' => e = .returned v ∧ ∃ p : Regrown, w'' = grow (redrawn w p.d) p.os := Calls.regrown_of h
theorem RG.size (w : World) (d : Nat) (os : Array Obj) : w.heap.size ≤ (grow (redrawn w d) os).heap.size := (below_regrown w d os).size
theorem RG.below {B : Nat} {w0 w : World} (h : Below B w0 w) (hB : B ≤ w.heap.size) (d : Nat) (os : Array Obj) : Below B w0 (grow (redrawn w d) os) := h.trans ((below_regrown w d os).mono hB)

end Go.Proofs.Ytnkbopnmfoplfaa
