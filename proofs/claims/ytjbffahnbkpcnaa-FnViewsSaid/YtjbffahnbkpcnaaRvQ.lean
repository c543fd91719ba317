/- Plain facts for the law on views that are read: moved cells both ways, frames that fit. No function of the program. -/
import Derived.Test.YtjbffahnbkpcnaaMoved
import Derived.Test.YtjbffahnbkpcnaaFitF
set_option linter.unusedSimpArgs false
set_option linter.unusedVariables false
namespace Go.Proofs.Ytjbffahnbkpcnaa
open Go.RowKit

theorem mvAt_sym (fx fy fc fr : Int) (a b : Spt) : mvAt fx fy fc fr a b = mvAt fx fy fc fr b a := by
  unfold mvAt
  rw [bne_comm (a := (cellAt fx fy fc fr a.x a.y).1), bne_comm (a := (cellAt fx fy fc fr a.x a.y).2.1)]
  cases (cellAt fx fy fc fr a.x a.y).2.2 <;> cases (cellAt fx fy fc fr b.x b.y).2.2 <;> rfl
theorem mvN_sym (fx fy fc fr : Int) (a b : List Spt) (k : Nat) : mvN fx fy fc fr a b k = mvN fx fy fc fr b a k := by
  induction k with
  | zero => rfl
  | succ k ih => unfold mvN; rw [ih, mvAt_sym]
theorem isPair_sym (a b : List Spt) : isPair a b = isPair b a := by
  unfold isPair
  rw [Bool.and_comm (isChart a)]
  congr 1
  exact decide_eq_decide.2 ⟨fun h => h.symm, fun h => h.symm⟩
/-- Moved cells, both ways. -/
theorem moved_ex (fx fy fc fr : Int) (a b : List Spt) : ∃ m ok, rMoved fx fy fc fr a b = (m, ok) ∧ rMoved fx fy fc fr b a = (m, ok) ∧ (ok = true → m ≤ a.length) := by
  refine ⟨(rMoved fx fy fc fr a b).1, (rMoved fx fy fc fr a b).2, rfl, ?_, fun hok => ?_⟩
  · unfold rMoved
    rw [isPair_sym b a]
    cases h : (isFrm fx fy fc fr && isPair a b)
    · rfl
    · rw [Bool.and_eq_true] at h
      rw [(isPair_t h.2).2.2, mvN_sym]
  · unfold rMoved at hok ⊢
    split at hok
    · rename_i h
      rw [if_pos h]
      exact (mvN_bd fx fy fc fr a b a.length).2
    · cases hok
theorem lohi_at (l : List Spt) (k : Nat) (hk : k ≤ l.length) : ∀ i, i < k → (loS l k).x ≤ (gx sptRec l i).x ∧ (loS l k).y ≤ (gx sptRec l i).y ∧ (gx sptRec l i).x ≤ (hiS l k).x ∧ (gx sptRec l i).y ≤ (hiS l k).y := by
  induction k with
  | zero => intro i hi; omega
  | succ k ih =>
    intro i hi
    show min (loS l k).x (gx sptRec l k).x ≤ _ ∧ min (loS l k).y (gx sptRec l k).y ≤ _ ∧ _ ≤ max (hiS l k).x (gx sptRec l k).x ∧ _ ≤ max (hiS l k).y (gx sptRec l k).y
    rcases Nat.lt_or_ge i k with h9 | h9
    · have := ih (by omega) i h9
      omega
    · obtain rfl : i = k := by omega
      omega
/-- A frame that fits holds all performers. -/
theorem fit_in {l : List Spt} (h : fitOk l = true) (i : Nat) (hi : i < l.length) :
    ∃ a b : Int, cellAt (fitX l) (fitY l) (fitC l) (fitR l) (gx sptRec l i).x (gx sptRec l i).y = (a, b, true) := by
  have h1 := lohi_at l l.length (Nat.le_refl _) i hi
  unfold cellAt
  have e1 : inR (((gx sptRec l i).x - fitX l) / 8) 0 (fitC l - 1) = true := inR_t.2 (by unfold fitC fitX; omega)
  have e2 : inR (((gx sptRec l i).y - fitY l) / 8) 0 (fitR l - 1) = true := inR_t.2 (by unfold fitR fitY; omega)
  rw [e1, e2]
  exact ⟨_, _, rfl⟩
theorem fit_frm {l : List Spt} (h : fitOk l = true) : isChart l = true ∧ isFrm (fitX l) (fitY l) (fitC l) (fitR l) = true := by
  unfold fitOk at h
  rwa [Bool.and_eq_true] at h
end Go.Proofs.Ytjbffahnbkpcnaa
