/- What the law on views that are read asks of what is read, of frames that fit. No function of the program. -/
import Derived.Test.YtjbffahnbkpcnaaVwP
import Derived.Test.YtjbffahnbkpcnaaCell
set_option linter.unusedSimpArgs false
set_option linter.unusedVariables false
namespace Go.Proofs.Ytjbffahnbkpcnaa
open Go.RowKit

theorem rRV_ex (x y c r : Int) (L : List ByteArray) : ∃ l ok, rRV x y c r L = (l, ok) ∧ l.length ≤ 26 ∧ (ok = true → isChart l = true ∧ rView x y c r l = (L, true) ∧ rHidden x y c r l = ([], true)) := by
  refine ⟨(rRV x y c r L).1, (rRV x y c r L).2, rfl, rRV_len x y c r L, fun hok => ?_⟩
  obtain ⟨l, h1, h2, h3, h4⟩ := read_back hok
  rw [h1]
  exact ⟨h2, h3, h4⟩
theorem fit_ex (l : List Spt) : ∃ X Y C R ok, rFit l = ⟨X, Y, C, R⟩ ∧ fitOk l = ok ∧ (ok = true → isFrm X Y C R = true ∧ (∀ i, i < l.length → ∃ a b : Int, rCell X Y C R (gx sptRec l i).x (gx sptRec l i).y = (a, b, true)) ∧
    ∃ Cr H, rCrowd X Y C R l = (Cr, true) ∧ rHidden X Y C R l = (H, true) ∧ ((Cr.length : Int) == 0) = ((H.length : Int) == 0)) := by
  refine ⟨(rFit l).x, (rFit l).y, (rFit l).c, (rFit l).r, fitOk l, rfl, rfl, fun hok => ?_⟩
  have e : rFit l = ⟨fitX l, fitY l, fitC l, fitR l⟩ := by unfold rFit; rw [if_pos hok]
  rw [e]
  show isFrm (fitX l) (fitY l) (fitC l) (fitR l) = true ∧ _
  obtain ⟨hch, hf⟩ := fit_frm hok
  have hsp := chart_spot hch
  refine ⟨hf, fun i hi => ?_, ?_⟩
  · obtain ⟨a, b, h⟩ := fit_in hok i hi
    refine ⟨a, b, ?_⟩
    unfold rCell
    rw [hf, hsp i hi]
    exact h
  · have hask : isAsk (fitX l) (fitY l) (fitC l) (fitR l) l = true := by unfold isAsk; rw [hf, hch]; rfl
    have hb := isFrm_t hf
    have hin := fun i hi => fit_in hok i hi
    show ∃ Cr H, rCrowd (fitX l) (fitY l) (fitC l) (fitR l) l = (Cr, true) ∧ rHidden (fitX l) (fitY l) (fitC l) (fitR l) l = (H, true) ∧ _
    generalize fitX l = X at *
    generalize fitY l = Y at *
    generalize fitC l = fc at *
    generalize fitR l = fr at *
    obtain ⟨C, rfl⟩ := Int.eq_ofNat_of_zero_le (show 0 ≤ fc by omega)
    obtain ⟨R, rfl⟩ := Int.eq_ofNat_of_zero_le (show 0 ≤ fr by omega)
    have hall : ∀ i, i < l.length → ∃ r c, inC X Y C R l i r c := by
      intro i hi
      obtain ⟨a, b, h⟩ := hin i hi
      obtain ⟨r, c, rfl, rfl, h2⟩ := inC_of h
      exact ⟨r, c, h2⟩
    have hiff := crowd_hid hall
    refine ⟨_, _, by unfold rCrowd; rw [if_pos hask], rHidden_yes hask, ?_⟩
    show (((crow C (cntSt X Y C R l l.length) (R * C)).length : Int) == 0) = (((hdn X Y C R l (shF X Y C R l) l.length).length : Int) == 0)
    rw [Bool.eq_iff_iff, beq_iff_eq, beq_iff_eq]
    constructor
    · intro h
      have h1 : crow C (cntSt X Y C R l l.length) (R * C) = [] := List.eq_nil_of_length_eq_zero (by omega)
      rw [hiff.1 h1]; rfl
    · intro h
      have h1 : hdn X Y C R l (shF X Y C R l) l.length = [] := List.eq_nil_of_length_eq_zero (by omega)
      rw [hiff.2 h1]; rfl
theorem wfStrs_of {L : List ByteArray} {m : Nat} (hm : m ≤ 9223372036854775807) (h : ∀ i, i < L.length → (gx strRec L i).size ≤ m) : WfStrs L := fun i hi => Nat.le_trans (h i hi) hm
end Go.Proofs.Ytjbffahnbkpcnaa
