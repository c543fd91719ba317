/- Contracts: the cell of a spot, in the program and in the reference. -/
import Derived.Test.YtjbffahnbkpcnaaSpot
import Derived.Deep.QuietTactic
import Derived.BigQuiet
set_option linter.unusedSimpArgs false
set_option linter.unusedVariables false
namespace Go.Proofs.Ytjbffahnbkpcnaa
open Go.RowKit

theorem tdiv8 (a : Int) (h : a < 0) : a.tdiv 8 = -((-a) / 8) := by
  obtain ⟨m, rfl⟩ : ∃ m : Int, a = -m := ⟨-a, by omega⟩
  rw [Int.neg_tdiv, Int.tdiv_eq_ediv_of_nonneg (by omega), Int.neg_neg]
theorem tmod8 (a : Int) (h : a < 0) : a.tmod 8 = -((-a) % 8) := by
  obtain ⟨m, rfl⟩ : ∃ m : Int, a = -m := ⟨-a, by omega⟩
  rw [Int.neg_tmod, Int.tmod_eq_emod_of_nonneg (by omega), Int.neg_neg]
theorem floorDiv_any (a : Int) (w : World) (h1 : -100000 ≤ a) (h2 : a ≤ 100000) :
    Calls Try.prog 71 #[.int .i64 a, .int .i64 8] w fun e w' => e = .returned (.int .i64 (a / 8)) ∧ w = w' := by
  rcases Int.lt_or_le a 0 with h | h
  · go_enter Try.func71, Try.ntmps71
    have e1 := Lib.hid (tdiv8 a h)
    have e2 := Lib.hid (tmod8 a h)
    go_wp2
    · have hm : a.tmod 8 < 0 := by assumption
      rw [e2.out] at hm
      go_ret
      exact ⟨ret_int (by rw [e1.out, IntWalk.wrap64_in _ (by omega)]; omega), rfl⟩
    · have hm : 0 ≤ a.tmod 8 := by assumption
      rw [e2.out] at hm
      go_ret
      exact ⟨ret_int (by rw [e1.out]; omega), rfl⟩
  · go_enter Try.func71, Try.ntmps71
    go_wp2
    go_ret
    exact ⟨ret_int rfl, rfl⟩

/-- The cell of a spot in a frame. -/
def cellAt (fx fy fc fr x y : Int) : Int × Int × Bool :=
  if inR ((x - fx) / 8) 0 (fc - 1) && inR ((y - fy) / 8) 0 (fr - 1) then ((x - fx) / 8, (y - fy) / 8, true) else (0, 0, false)

set_option maxHeartbeats 800000 in
theorem cellOf_any (fx fy fc fr x y : Int) (w : World) (hf : isFrm fx fy fc fr = true) (hs : isSpot x y = true) :
    Calls Try.prog 44 #[.agg #[.int .i64 fx, .int .i64 fy, .int .i64 fc, .int .i64 fr], .agg #[.int .i64 x, .int .i64 y]] w
      fun e w' => e = .returned (.tuple #[.int .i64 (cellAt fx fy fc fr x y).1, .int .i64 (cellAt fx fy fc fr x y).2.1, .bool (cellAt fx fy fc fr x y).2.2]) ∧ Below w.heap.size w w' := by
  obtain ⟨a1, a2, a3, a4⟩ := isSpot_t hs
  have hf2 := hf
  unfold isFrm at hf2
  simp only [Bool.and_eq_true] at hf2
  obtain ⟨⟨⟨⟨g1, _⟩, _⟩, g2⟩, g3⟩ := hf2
  obtain ⟨b1, b2, b3, b4⟩ := isSpot_t g1
  obtain ⟨c1, c2⟩ := inR_t.1 g2
  obtain ⟨d1, d2⟩ := inR_t.1 g3
  clear hs hf g1 g2 g3
  have hb0 := fun o o' => ((Below.refl w.heap.size w).alloc (Nat.le_refl _) o).alloc (by simp) o'
  have Hb0 := Lib.hid hb0
  clear hb0
  unfold cellAt
  cases hx : inR ((x - fx) / 8) 0 (fc - 1) <;> cases hy : inR ((y - fy) / 8) 0 (fr - 1)
  all_goals
    go_enter Try.func44, Try.ntmps44
    go_wp2_with fail
    go_quiet ((go_at_call 71; exact Calls.quiet_of_same ((floorDiv_any _ _ (by omega) (by omega)).mono fun _ _ ⟨a, b⟩ => ⟨a, b.symm⟩)))
    go_wp2_with (go_at_call 49; refine (within_any _ _ _ _).mono ?_; rintro e w' ⟨rfl, rfl⟩)
    go_ret3
    exact ⟨rfl, (Hb0.out _ _).drewN _⟩

set_option maxHeartbeats 1600000 in
theorem vwCell_any (fx fy fc fr x y : Int) (w : World) (hf : isFrm fx fy fc fr = true) (hs : isSpot x y = true) :
    Calls Try.prog 46 #[.agg #[.int .i64 fx, .int .i64 fy, .int .i64 fc, .int .i64 fr], .agg #[.int .i64 x, .int .i64 y]] w
      fun e w' => e = .returned (.tuple #[.int .i64 (cellAt fx fy fc fr x y).1, .int .i64 (cellAt fx fy fc fr x y).2.1, .bool (cellAt fx fy fc fr x y).2.2]) ∧ Below w.heap.size w w' := by
  obtain ⟨a1, a2, a3, a4⟩ := isSpot_t hs
  have hf2 := hf
  unfold isFrm at hf2
  simp only [Bool.and_eq_true] at hf2
  obtain ⟨⟨⟨⟨g1, _⟩, _⟩, g2⟩, g3⟩ := hf2
  obtain ⟨b1, b2, b3, b4⟩ := isSpot_t g1
  obtain ⟨c1, c2⟩ := inR_t.1 g2
  obtain ⟨d1, d2⟩ := inR_t.1 g3
  clear hs hf g1 g2 g3
  have hb0 := fun o o' => ((Below.refl w.heap.size w).alloc (Nat.le_refl _) o).alloc (by simp) o'
  have Hb0 := Lib.hid hb0
  clear hb0
  have no : ¬ (0 ≤ (x - fx) / 8 ∧ (x - fx) / 8 ≤ fc - 1 ∧ 0 ≤ (y - fy) / 8 ∧ (y - fy) / 8 ≤ fr - 1) → Hid (cellAt fx fy fc fr x y = (0, 0, false)) := fun h => by
    show _ = _
    unfold cellAt
    rw [if_neg]
    intro h2
    rw [Bool.and_eq_true] at h2
    have q1 := inR_t.1 h2.1
    have q2 := inR_t.1 h2.2
    exact h ⟨q1.1, q1.2, q2.1, q2.2⟩
  have No := Lib.hid no
  clear no
  by_cases k1 : x < fx
  · have Hr := No.out (by omega)
    rw [Hr.out]
    go_enter Try.func46, Try.ntmps46
    go_wp2_with fail
    go_ret3
    exact ⟨rfl, Hb0.out _ _⟩
  by_cases k2 : y < fy
  · have Hr := No.out (by omega)
    rw [Hr.out]
    go_enter Try.func46, Try.ntmps46
    go_wp2_with fail
    go_ret3
    exact ⟨rfl, Hb0.out _ _⟩
  by_cases k3 : fc ≤ (x - fx) / 8
  · have Hr := No.out (by omega)
    rw [Hr.out]
    go_enter Try.func46, Try.ntmps46
    go_wp2_with fail
    go_quiet (fail)
    go_wp2_with fail
    go_ret3
    exact ⟨rfl, (Hb0.out _ _).drewN _⟩
  by_cases k4 : fr ≤ (y - fy) / 8
  · have Hr := No.out (by omega)
    rw [Hr.out]
    go_enter Try.func46, Try.ntmps46
    go_wp2_with fail
    go_quiet (fail)
    go_wp2_with fail
    go_ret3
    exact ⟨rfl, (Hb0.out _ _).drewN _⟩
  have Hr : cellAt fx fy fc fr x y = ((x - fx) / 8, (y - fy) / 8, true) := by
    unfold cellAt
    rw [if_pos]
    rw [Bool.and_eq_true]
    exact ⟨inR_t.2 (by omega), inR_t.2 (by omega)⟩
  rw [Hr]
  clear Hr
  go_enter Try.func46, Try.ntmps46
  go_wp2_with fail
  go_quiet (fail)
  go_wp2_with fail
  go_ret3
  exact ⟨rfl, (Hb0.out _ _).drewN _⟩

/-- What CellOf returns. -/
def rCell (fx fy fc fr x y : Int) : Int × Int × Bool := if isFrm fx fy fc fr && isSpot x y then cellAt fx fy fc fr x y else (0, 0, false)

set_option maxHeartbeats 800000 in
theorem implCellOf (fx fy fc fr x y : Int) (w : World) :
    Calls Try.prog 19 #[.agg #[.int .i64 fx, .int .i64 fy, .int .i64 fc, .int .i64 fr], .agg #[.int .i64 x, .int .i64 y]] w
      fun e w' => e = .returned (.tuple #[.int .i64 (rCell fx fy fc fr x y).1, .int .i64 (rCell fx fy fc fr x y).2.1, .bool (rCell fx fy fc fr x y).2.2]) ∧ Below w.heap.size w w' := by
  have hb0 := fun o o' => ((Below.refl w.heap.size w).alloc (Nat.le_refl _) o).alloc (by simp) o'
  have Hb0 := Lib.hid hb0
  clear hb0
  unfold rCell
  cases hf : isFrm fx fy fc fr <;> cases hs : isSpot x y
  case true.true =>
    have Hf := Lib.hid hf
    have Hs := Lib.hid hs
    go_enter Try.func19, Try.ntmps19
    go_wp2_with fail
    refine (implIsFrameOf _ _ _ _ _).mono ?_; rintro e w1 ⟨rfl, b1⟩
    have hc1 := cell_of b1
    go_wp2_with fail
    refine (implIsSpot _ _ _).mono ?_; rintro e w2 ⟨rfl, b2⟩
    have b12 := b1.trans (b2.mono b1.size)
    have hc2 := cell_of b12
    clear hc1
    go_wp2_with fail
    refine (cellOf_any _ _ _ _ _ _ _ Hf.out Hs.out).mono ?_; rintro e w3 ⟨rfl, b3⟩
    have b13 := (Hb0.out _ _).trans ((b12.trans (b3.mono b12.size)).mono (by simp <;> omega))
    go_wp2_with fail
    go_ret3
    exact ⟨rfl, b13⟩
  case true.false =>
    go_enter Try.func19, Try.ntmps19
    go_wp2_with fail
    refine (implIsFrameOf _ _ _ _ _).mono ?_; rintro e w1 ⟨rfl, b1⟩
    have hc1 := cell_of b1
    go_wp2_with fail
    refine (implIsSpot _ _ _).mono ?_; rintro e w2 ⟨rfl, b2⟩
    have b12 := (Hb0.out _ _).trans ((b1.trans (b2.mono b1.size)).mono (by simp <;> omega))
    go_wp2_with fail
    go_ret3
    exact ⟨rfl, b12⟩
  all_goals
    go_enter Try.func19, Try.ntmps19
    go_wp2_with fail
    refine (implIsFrameOf _ _ _ _ _).mono ?_; rintro e w1 ⟨rfl, b1⟩
    have b11 := (Hb0.out _ _).trans (b1.mono (by simp <;> omega))
    go_wp2_with fail
    go_ret3
    exact ⟨rfl, b11⟩

set_option maxHeartbeats 800000 in
theorem specCellOf (fx fy fc fr x y : Int) (w : World) :
    Calls Try.prog 20 #[.agg #[.int .i64 fx, .int .i64 fy, .int .i64 fc, .int .i64 fr], .agg #[.int .i64 x, .int .i64 y]] w
      fun e w' => e = .returned (.tuple #[.int .i64 (rCell fx fy fc fr x y).1, .int .i64 (rCell fx fy fc fr x y).2.1, .bool (rCell fx fy fc fr x y).2.2]) ∧ Below w.heap.size w w' := by
  have hb0 := fun o o' => ((Below.refl w.heap.size w).alloc (Nat.le_refl _) o).alloc (by simp) o'
  have Hb0 := Lib.hid hb0
  clear hb0
  unfold rCell
  cases hf : isFrm fx fy fc fr <;> cases hs : isSpot x y
  case true.true =>
    have Hf := Lib.hid hf
    have Hs := Lib.hid hs
    go_enter Try.func20, Try.ntmps20
    go_wp2_with fail
    refine (vwFrame_any _ _ _ _ _).mono ?_; rintro e w1 ⟨rfl, b1⟩
    have hc1 := cell_of b1
    go_wp2_with fail
    refine (stGood_any _ _ _).mono ?_; rintro e w2 ⟨rfl, b2⟩
    have b12 := b1.trans (b2.mono b1.size)
    have hc2 := cell_of b12
    clear hc1
    go_wp2_with fail
    refine (vwCell_any _ _ _ _ _ _ _ Hf.out Hs.out).mono ?_; rintro e w3 ⟨rfl, b3⟩
    have b13 := (Hb0.out _ _).trans ((b12.trans (b3.mono b12.size)).mono (by simp <;> omega))
    go_wp2_with fail
    go_ret3
    exact ⟨rfl, b13⟩
  case true.false =>
    go_enter Try.func20, Try.ntmps20
    go_wp2_with fail
    refine (vwFrame_any _ _ _ _ _).mono ?_; rintro e w1 ⟨rfl, b1⟩
    have hc1 := cell_of b1
    go_wp2_with fail
    refine (stGood_any _ _ _).mono ?_; rintro e w2 ⟨rfl, b2⟩
    have b12 := (Hb0.out _ _).trans ((b1.trans (b2.mono b1.size)).mono (by simp <;> omega))
    go_wp2_with fail
    go_ret3
    exact ⟨rfl, b12⟩
  all_goals
    go_enter Try.func20, Try.ntmps20
    go_wp2_with fail
    refine (vwFrame_any _ _ _ _ _).mono ?_; rintro e w1 ⟨rfl, b1⟩
    have b11 := (Hb0.out _ _).trans (b1.mono (by simp <;> omega))
    go_wp2_with fail
    go_ret3
    exact ⟨rfl, b11⟩
end Go.Proofs.Ytjbffahnbkpcnaa
