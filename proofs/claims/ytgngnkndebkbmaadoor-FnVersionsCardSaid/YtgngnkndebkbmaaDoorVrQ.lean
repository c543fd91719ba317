/- What the law on versions asks of texts and last versions. No function of the program. -/
import Derived.Test.YtgngnkndebkbmaaDoorVrP
import Derived.Test.YtgngnkndebkbmaaDoorVTextB
import Derived.Test.YtgngnkndebkbmaaDoorPVP
set_option linter.unusedSimpArgs false
set_option linter.unusedVariables false
namespace Go.Proofs.YtgngnkndebkbmaaDoor
open Go.RowKit Go.Sort

theorem vers_ex (l : List Ver) : ∃ S EE ok, vTextR l = (S, ok) ∧ rLasts l = (EE, ok) ∧ areVers l = ok ∧ S.size ≤ 100000 ∧ EE.length ≤ 60 ∧
    (ok = true → rPVs S = (l, true) ∧ l.length ≤ 60 ∧ ∀ i : Nat, i < l.length → hasI EE (i : Int) = !follows l i) := by
  have hl := rLasts_len l
  cases h : areVers l
  · refine ⟨⟨#[]⟩, [], false, vTextR_no h, by unfold rLasts; rw [h]; rfl, rfl, by decide, by simp, fun h => by cases h⟩
  · have h2 := areVers_parts h
    have e : rLasts l = (lasts l l.length, true) := by unfold rLasts; rw [h]; rfl
    rw [e] at hl
    have hs := vText_size h l.length (Nat.le_refl _)
    exact ⟨vText l l.length, lasts l l.length, true, vTextR_yes h, e, rfl, by omega, hl, fun _ => ⟨rPVs_whole h, h2.2.1, fun i hi => lasts_has l i hi⟩⟩
theorem rPVs_ex (t : ByteArray) : ∃ P ok, rPVs t = (P, ok) ∧ P.length ≤ 60 := ⟨(rPVs t).1, (rPVs t).2, rfl, rPV_len t⟩
end Go.Proofs.YtgngnkndebkbmaaDoor
