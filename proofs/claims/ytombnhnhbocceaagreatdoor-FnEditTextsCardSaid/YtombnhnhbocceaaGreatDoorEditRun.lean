/- Contracts: what fits, one edit, a run of edits; in the program and in the reference. -/
import Derived.Test.YtombnhnhbocceaaGreatDoorEdit
import Derived.Test.YtombnhnhbocceaaGreatDoorChartI
set_option linter.unusedSimpArgs false
set_option linter.unusedVariables false
namespace Go.Proofs.YtombnhnhbocceaaGreatDoor
open Go.RowKit

def fitsB (l : List Spt) (n : Nat) (b a : Spt) : Bool := decide (n < l.length) && decide (gx sptRec l n = b) && decide (findS l a < 0)
theorem fits_no1 {l : List Spt} {n : Nat} {b a : Spt} (h : ¬ n < l.length) : fitsB l n b a = false := by unfold fitsB; rw [decide_eq_false h]; rfl
theorem fits_no2 {l : List Spt} {n : Nat} {b a : Spt} (h : gx sptRec l n ≠ b) : fitsB l n b a = false := by unfold fitsB; rw [decide_eq_false h]; simp
theorem fits_eq {l : List Spt} {n : Nat} {b a : Spt} (h1 : n < l.length) (h2 : gx sptRec l n = b) : fitsB l n b a = !decide (0 ≤ findS l a) := by
  unfold fitsB
  rw [decide_eq_true h1, decide_eq_true h2]
  rcases findS_bd l a with h9 | h9
  · rw [h9]; rfl
  · have e1 : decide (findS l a < 0) = false := decide_eq_false (by omega)
    have e2 : decide (0 ≤ findS l a) = true := decide_eq_true (by omega)
    rw [e1, e2]; rfl

end Go.Proofs.YtombnhnhbocceaaGreatDoor
