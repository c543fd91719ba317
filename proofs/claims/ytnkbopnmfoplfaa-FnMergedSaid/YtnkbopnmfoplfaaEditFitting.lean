/- Contracts of FittingEdits, in the program and in the reference. -/
import Derived.Test.YtnkbopnmfoplfaaEditFitS
set_option linter.unusedSimpArgs false
set_option linter.unusedVariables false
namespace Go.Proofs.Ytnkbopnmfoplfaa
open Go.RowKit

/-- What FittingEdits returns. -/
def rFitting (l : List Spt) (es : List Edt) : List Int × Bool := if isChart l && areEdts es then ((fitSt l es es.length).2.1, true) else ([], false)
theorem rFitting_no1 {l : List Spt} {es : List Edt} (h : isChart l = false) : rFitting l es = ([], false) := by unfold rFitting; rw [h]; rfl
theorem rFitting_no2 {l : List Spt} {es : List Edt} (h : areEdts es = false) : rFitting l es = ([], false) := by unfold rFitting; rw [h]; cases isChart l <;> rfl
theorem rFitting_yes {l : List Spt} {es : List Edt} (h1 : isChart l = true) (h2 : areEdts es = true) : rFitting l es = ((fitSt l es es.length).2.1, true) := by unfold rFitting; rw [h1, h2]; rfl
theorem rFitting_len (l : List Spt) (es : List Edt) : (rFitting l es).1.length ≤ 30 := by
  cases h1 : isChart l
  · rw [rFitting_no1 h1]; simp
  · cases h2 : areEdts es
    · rw [rFitting_no2 h2]; simp
    · rw [rFitting_yes h1 h2]
      have h3 := (fitSt_len l es es.length).2
      have h4 := (areEdts_t h2).1
      show (fitSt l es es.length).2.1.length ≤ 30
      omega
end Go.Proofs.Ytnkbopnmfoplfaa
