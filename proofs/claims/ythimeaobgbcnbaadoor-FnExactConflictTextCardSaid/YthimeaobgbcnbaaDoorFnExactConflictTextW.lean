/- The walk of the law FnExactConflictText: whatever the arguments, it returns true and writes nothing that was there. -/
import Derived.Test.YthimeaobgbcnbaaDoorConfT
import Derived.Test.YthimeaobgbcnbaaDoorOpen
import Derived.Test.YthimeaobgbcnbaaDoorMark
import Derived.Deep.DeepCutAuto
import Derived.Deep.RegionWith
set_option linter.unusedSimpArgs false
set_option linter.unusedVariables false
namespace Go.Proofs.YthimeaobgbcnbaaDoor
open Go.RowKit

set_option maxRecDepth 100000 in
set_option maxHeartbeats 400000 in
theorem FnExactConflictText_walk (v0 : Value) (l0 : List Int) (w : World) (h0 : IntsAt w v0 l0) (f0 : WfInts l0) :
    Calls Tryd.prog 4 #[v0] w (LawPost w) := by
  obtain ⟨A0, c0, rfl, hnc0, hcc0⟩ := h0.shape
  rcases Nat.lt_or_ge 1048576 l0.length with hbig | hl0
  · go_enter Tryd.func4, Tryd.ntmps4
    go_wp2_with fail
    go_ret
    exact ⟨rfl, (Below.refl _ _)⟩
  go_enter Tryd.func4, Tryd.ntmps4
  go_wp2_with fail
  refine (toIntS_any _ l0 _ (h0.below (Below.refl w.heap.size w) (Nat.le_refl _)) hl0).mono ?_; rintro e w1 ⟨t1, rfl, oT1, b1⟩
  have s1 := b1.size
  have B1 := ((Below.refl w.heap.size w)).next (by omega) b1
  have oT1_i := oT1.in_; clear oT1
  go_wp2_with fail
  refine (specConfT _ l0 _ oT1_i.reads (by omega)).mono ?_; rintro e w2 ⟨rfl, b2⟩
  have s2 := b2.size
  have B2 := (B1).next (by omega) b2
  have oT1_2 := oT1_i.keep (KeepIn.of_below b2 (by omega))
  clear oT1_i
  clear oT1_2
  go_wp2_with fail
  refine (toIntS_any _ l0 _ (h0.below B2 (Nat.le_refl _)) hl0).mono ?_; rintro e w3 ⟨t3, rfl, oT3, b3⟩
  have s3 := b3.size
  have B3 := (B2).next (by omega) b3
  have oT3_i := oT3.in_; clear oT3
  go_wp2_with fail
  refine (implConfT _ l0 _ oT3_i.reads (by omega)).mono ?_; rintro e w4 ⟨rfl, b4⟩
  have s4 := b4.size
  have B4 := (B3).next (by omega) b4
  have ox0_4 := oT3_i.keep (KeepIn.of_below b4 (by omega))
  clear oT3_i
  go_wp2_with fail
  refine (toIntS_any _ l0 _ (h0.below B4 (Nat.le_refl _)) hl0).mono ?_; rintro e w5 ⟨t5, rfl, oT5, b5⟩
  have s5 := b5.size
  have B5 := (B4).next (by omega) b5
  have ox0_5 := ox0_4.keep (KeepIn.of_below b5 (by omega))
  clear ox0_4
  have oT5_i := oT5.in_; clear oT5
  go_wp2_with fail
  refine (eqIntS_any _ _ l0 l0 _ ox0_5.reads oT5_i.reads).mono ?_; rintro e w6 ⟨rfl, b6⟩
  have s6 := b6.size
  have B6 := (B5).next (by omega) b6
  have ox0_6 := ox0_5.keep (KeepIn.of_below b6 (by omega))
  clear ox0_5
  have oT5_6 := oT5_i.keep (KeepIn.of_below b6 (by omega))
  clear oT5_i
  clear oT5_6
  go_wp2_with fail
  go_ret
  exact ⟨rfl, B6⟩
end Go.Proofs.YthimeaobgbcnbaaDoor
