/- Contracts of MergedChart, in the program and in the reference. -/
import Derived.Test.YtiondgflpimdmaaDoorEditConf
set_option linter.unusedSimpArgs false
set_option linter.unusedVariables false
namespace Go.Proofs.YtiondgflpimdmaaDoor
open Go.RowKit

def FreshMergedB (w : World) (r : List Spt × List Int × Bool) (e : Ending) (w' : World) : Prop :=
  ∃ v u, e = .returned (.tuple #[v, u, .bool r.2.2]) ∧ OwnRow sptRec w' w.heap.size v r.1 ∧ OwnInts w' w.heap.size u r.2.1 ∧ Apt v u ∧ Below w.heap.size w w'
def mgAllS (l : List Spt) (a b : List Edt) : List Spt := mgS l (runE l a 0).1 (runE l b 0).1 l.length
def mgAllC (l : List Spt) (a b : List Edt) : List Int := mgC l (runE l a 0).1 (runE l b 0).1 l.length
/-- What MergedChart returns. -/
def rMerged (l : List Spt) (a b : List Edt) : List Spt × List Int × Bool := if okBoth l a b && isChart (mgAllS l a b) then (mgAllS l a b, mgAllC l a b, true) else ([], [], false)
theorem rMerged_no1 {l : List Spt} {a b : List Edt} (h : okBoth l a b = false) : rMerged l a b = ([], [], false) := by unfold rMerged; rw [h]; rfl
theorem rMerged_no2 {l : List Spt} {a b : List Edt} (h : isChart (mgAllS l a b) = false) : rMerged l a b = ([], [], false) := by unfold rMerged; rw [h]; simp
theorem rMerged_yes {l : List Spt} {a b : List Edt} (h : okBoth l a b = true) (h2 : isChart (mgAllS l a b) = true) : rMerged l a b = (mgAllS l a b, mgAllC l a b, true) := by unfold rMerged; rw [h, h2]; rfl
theorem rMerged_len (l : List Spt) (a b : List Edt) : (rMerged l a b).1.length ≤ 12 ∧ (rMerged l a b).2.1.length ≤ 12 := by
  cases h : okBoth l a b
  · rw [rMerged_no1 h]; simp
  · cases h2 : isChart (mgAllS l a b)
    · rw [rMerged_no2 h2]; simp
    · rw [rMerged_yes h h2]
      have h1 := mgC_len l (runE l a 0).1 (runE l b 0).1 l.length
      have h3 := chart_pos (okBoth_t h).1
      refine ⟨(chart_pos h2).2, ?_⟩
      show (mgC l (runE l a 0).1 (runE l b 0).1 l.length).length ≤ 12
      omega
end Go.Proofs.YtiondgflpimdmaaDoor
