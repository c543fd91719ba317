/- The walk of the law FnExactCellOf: whatever the arguments, it returns true and writes nothing that was there. -/
import Derived.Test.YtnfnpidopifecaaCell
import Derived.Test.YtnfnpidopifecaaOpen
import Derived.Deep.DeepCutAuto
import Derived.Deep.RegionWith
set_option linter.unusedSimpArgs false
set_option linter.unusedVariables false
namespace Go.Proofs.Ytnfnpidopifecaa
open Go.RowKit

set_option maxHeartbeats 12800000 in
theorem FnExactCellOf_walk (fx fy fc fr x y : Int) (w : World) :
    Calls Try.prog 4 #[.agg #[.int .i64 fx, .int .i64 fy, .int .i64 fc, .int .i64 fr], .agg #[.int .i64 x, .int .i64 y]] w (LawPost w) := by
  have hb0 := fun o o' => ((Below.refl w.heap.size w).alloc (Nat.le_refl _) o).alloc (by simp) o'
  have Hb0 := Lib.hid hb0
  clear hb0
  go_enter Try.func4, Try.ntmps4
  go_upto_region 1 with fail
  go_cut [5, 6, 7] (fun s0 s1 s2 wx => s0 = .int .i64 (rCell fx fy fc fr x y).1 ∧ s1 = .int .i64 (rCell fx fy fc fr x y).2.1 ∧ s2 = .bool (rCell fx fy fc fr x y).2.2 ∧ Below (w.heap.size + 1 + 1) ((w.alloc (.cells #[.int .i64 fx, .int .i64 fy, .int .i64 fc, .int .i64 fr] 25)).alloc (.cells #[.int .i64 x, .int .i64 y] 23)) wx)
  case first =>
    go_region_with (first
      | (go_at_call 16; refine (toFrame_any _ _ _ _ _).mono ?_; rintro e w1 ⟨rfl, b1⟩; have hc1 := cell_of b1)
      | (go_at_call 19; refine (toSpot_any _ _ _).mono ?_; rintro e w2 ⟨rfl, b2⟩; have hc2 := cell_of b2)
      | (go_at_call 18; refine (specCellOf _ _ _ _ _ _ _).mono ?_; rintro e w3 ⟨rfl, b3⟩))
    all_goals
      go_wp2_with fail
      go_meet
      have b12 := b1.next (Nat.le_refl _) b2
      have b13 := b12.next (Nat.le_refl _) b3
      exact ⟨rfl, rfl, rfl, (Below.refl _ _).drew.trans (b13.mono (by simp))⟩
  case rest =>
    obtain ⟨rfl, rfl, rfl, b3⟩ := hcut
    obtain ⟨W1, hW1⟩ : ∃ W1, W1 = wc := ⟨_, rfl⟩
    subst hW1
    have hc3 := cell_of b3
    have hz3 : w.heap.size + 1 + 1 ≤ W1.heap.size := by have := b3.size; simp at this; omega
    go_upto_region 2 with fail
    go_cut [8, 9, 10] (fun s0 s1 s2 wx => s0 = .int .i64 (rCell fx fy fc fr x y).1 ∧ s1 = .int .i64 (rCell fx fy fc fr x y).2.1 ∧ s2 = .bool (rCell fx fy fc fr x y).2.2 ∧ Below W1.heap.size W1 wx)
    case first =>
      go_region_with (first
        | (go_at_call 16; refine (toFrame_any _ _ _ _ _).mono ?_; rintro e w4 ⟨rfl, b4⟩; have hc4 := cell_of (b3.drew.trans (b4.mono (by exact hz3))))
        | (go_at_call 19; refine (toSpot_any _ _ _).mono ?_; rintro e w5 ⟨rfl, b5⟩; clear hz3)
        | (go_at_call 20; refine (implCellOf _ _ _ _ _ _ _).mono ?_; rintro e w6 ⟨rfl, b6⟩))
      all_goals
        go_wp2_with fail
        go_meet
        have b45 := b4.next (Nat.le_refl _) b5
        have b46 := b45.next (Nat.le_refl _) b6
        exact ⟨rfl, rfl, rfl, (Below.refl _ _).drew.trans b46⟩
    case rest =>
      obtain ⟨rfl, rfl, rfl, b6⟩ := hcut
      have bf := (Hb0.out _ _).trans (b3.mono (by omega))
      have bf2 := bf.next (Nat.le_refl _) b6
      go_wp2_with fail
      go_ret
      exact ⟨rfl, bf2⟩
end Go.Proofs.Ytnfnpidopifecaa
