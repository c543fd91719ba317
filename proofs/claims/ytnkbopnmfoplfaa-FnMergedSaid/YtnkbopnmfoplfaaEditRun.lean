/- Contracts: what fits, one edit, a run of edits; in the program and in the reference. -/
import Derived.Test.YtnkbopnmfoplfaaEdit
import Derived.Test.YtnkbopnmfoplfaaChartI
set_option linter.unusedSimpArgs false
set_option linter.unusedVariables false
namespace Go.Proofs.Ytnkbopnmfoplfaa
open Go.RowKit

def fitsB (l : List Spt) (n : Nat) (b a : Spt) : Bool := decide (n < l.length) && decide (gx sptRec l n = b) && decide (findS l a < 0)
theorem fits_no1 {l : List Spt} {n : Nat} {b a : Spt} (h : ¬ n < l.length) : fitsB l n b a = false := by unfold fitsB; rw [decide_eq_false h]; rfl
theorem fits_no2 {l : List Spt} {n : Nat} {b a : Spt} (h : gx sptRec l n ≠ b) : fitsB l n b a = false := by unfold fitsB; rw [decide_eq_false h]; simp
theorem fits_eq {l : List Spt} {n : Nat} {b a : Spt} (h1 : n < l.length) (h2 : gx sptRec l n = b) : fitsB l n b a = !decide (0 ≤ findS l a) := by
  unfold fitsB
  rw [decide_eq_true h1, decide_eq_true h2]
  rcases findS_bd l a with h9 | h9
  · rw [h9]; rfl
  · have e1 : decide (findS l a < 0) = false := decide_eq_false (by omega)
    have e2 : decide (0 ≤ findS l a) = true := decide_eq_true (by omega)
    rw [e1, e2]; rfl

set_option maxHeartbeats 6400000 in
theorem fits_any (v : Value) (l : List Spt) (ee : Int) (n : Nat) (bx bY ax aY : Int) (w : World) (h : RowAt sptRec w v l) (hn : n ≤ 1000) (hl : l.length ≤ 1000) :
    Calls Try.prog 51 #[v, .agg #[.int .i64 ee, .int .i64 n, .int .i64 bx, .int .i64 bY, .int .i64 ax, .int .i64 aY]] w
      fun e w' => e = .returned (.bool (fitsB l n ⟨bx, bY⟩ ⟨ax, aY⟩)) ∧ Below w.heap.size w w' := by
  obtain ⟨A, c, rfl, hnc, hc63⟩ := h.shape
  have hbA := fun o => (Below.refl w.heap.size w).alloc (Nat.le_refl _) o
  have HbA := Lib.hid hbA
  clear hbA
  by_cases hlt : n < l.length
  · obtain ⟨b, o, rfl, hc0, hc1⟩ := spt_at h n hlt
    have hb0 : b < w.heap.size := World.block_lt_of_cell? w _ hc0
    have hi0 : (0 : Int) ≤ (n : Int) := by omega
    have hi1 : (n : Int) < (l.length : Int) := by omega
    have hd : decide ((n : Int) < (l.length : Int)) = true := decide_eq_true hi1
    by_cases hq : gx sptRec l n = ⟨bx, bY⟩
    · have e0 : ((gx sptRec l n).x == bx) = true := by rw [hq]; simp
      have e1 : ((gx sptRec l n).y == bY) = true := by rw [hq]; simp
      have hX : Below w.heap.size w (w.alloc (.cells #[.int .i64 ee, .int .i64 n, .int .i64 bx, .int .i64 bY, .int .i64 ax, .int .i64 aY] 54)) := HbA.out _
      have hy2 : (w.alloc (.cells #[.int .i64 ee, .int .i64 n, .int .i64 bx, .int .i64 bY, .int .i64 ax, .int .i64 aY] 54)).cell? ⟨w.heap.size, 2, none⟩ = some (.int .i64 bx) := by go_simp
      have hy3 : (w.alloc (.cells #[.int .i64 ee, .int .i64 n, .int .i64 bx, .int .i64 bY, .int .i64 ax, .int .i64 aY] 54)).cell? ⟨w.heap.size, 3, none⟩ = some (.int .i64 bY) := by go_simp
      have hr := Lib.hid (fits_eq (a := ⟨ax, aY⟩) hlt hq)
      cases hf : decide (0 ≤ findS l ⟨ax, aY⟩)
      all_goals
        rw [hf] at hr
        go_enter Try.func51, Try.ntmps51
        go_wp2_with fail
        go_region_with (go_at_call 41; refine (containsS_any _ l ⟨ax, aY⟩ _ (h.below hX.drew (Nat.le_refl _))).mono ?_; rintro e w2 ⟨he2, b2⟩; rw [hf] at he2; subst he2)
        all_goals
          go_wp2_with fail
          go_ret
          exact ⟨ret_bool hr.out.symm, hX.drew.trans (b2.mono (by simp))⟩
    · have hr := Lib.hid (fits_no2 (a := ⟨ax, aY⟩) hq)
      cases e0 : ((gx sptRec l n).x == bx) <;> cases e1 : ((gx sptRec l n).y == bY)
      case true.true => exact absurd (Spt.ext_ (by simpa using e0) (by simpa using e1)) hq
      all_goals
        go_enter Try.func51, Try.ntmps51
        go_wp2_with fail
        go_quiet (fail)
        go_wp2_with fail
        go_ret
        exact ⟨ret_bool hr.out.symm, (HbA.out _).drewN _⟩
  · have hr := Lib.hid (fits_no1 (b := ⟨bx, bY⟩) (a := ⟨ax, aY⟩) hlt)
    have hd : decide ((n : Int) < (l.length : Int)) = false := decide_eq_false (by omega)
    have hd2 : decide (n < l.length) = false := decide_eq_false hlt
    go_enter Try.func51, Try.ntmps51
    go_wp2_with fail
    go_quiet (fail)
    go_wp2_with fail
    go_ret
    exact ⟨ret_bool hr.out.symm, (HbA.out _).drewN _⟩
end Go.Proofs.Ytnkbopnmfoplfaa
