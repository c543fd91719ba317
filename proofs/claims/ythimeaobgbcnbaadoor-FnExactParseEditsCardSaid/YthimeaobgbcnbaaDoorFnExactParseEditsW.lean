/- The walk of the law FnExactParseEdits: whatever the arguments, it returns true and writes nothing that was there. -/
import Derived.Test.YthimeaobgbcnbaaDoorPES
import Derived.Test.YthimeaobgbcnbaaDoorMkE
import Derived.Test.YthimeaobgbcnbaaDoorOpen
import Derived.Test.YthimeaobgbcnbaaDoorMark
import Derived.Deep.DeepCutAuto
import Derived.Deep.RegionWith
set_option linter.unusedSimpArgs false
set_option linter.unusedVariables false
namespace Go.Proofs.YthimeaobgbcnbaaDoor
open Go.RowKit

set_option maxRecDepth 100000 in
set_option maxHeartbeats 400000 in
theorem FnExactParseEdits_walk (s0 : ByteArray) (w : World) (f0 : s0.size ≤ maxLen) {mx : Int} (hMax : MaxW w mx) :
    Calls Tryd.prog 5 #[.string s0] w (LawPost w) := by
  rcases Nat.lt_or_ge 1048576 s0.size with hbig | hl0
  · go_enter Tryd.func5, Tryd.ntmps5
    go_wp2_with fail
    go_ret
    exact ⟨rfl, (Below.refl _ _)⟩
  have hrl := rPE_len s0
  go_enter Tryd.func5, Tryd.ntmps5
  go_wp2_with fail
  refine (specPE _ _  (hMax.below (Below.refl w.heap.size w) (Nat.le_refl _)) (by omega)).mono ?_; rintro e w1 ⟨r1_0, rfl, oR1_0, b1⟩
  have s1 := b1.size
  have B1 := ((Below.refl w.heap.size w)).next (by omega) b1
  have oR1_0_i := oR1_0.in_; clear oR1_0
  go_wp2_with fail
  refine (implPE _ _  (hMax.below B1 (Nat.le_refl _)) (by omega)).mono ?_; rintro e w2 ⟨r2_0, rfl, oR2_0, b2⟩
  have s2 := b2.size
  have B2 := (B1).next (by omega) b2
  have ow0_2 := oR1_0_i.keep (KeepIn.of_below b2 (by omega))
  clear oR1_0_i
  have oR2_0_i := oR2_0.in_; clear oR2_0
  go_wp2_with fail
  refine (eqEditS_any _ _ (rPEs s0).1 (rPEs s0).1 _ oR2_0_i.reads ow0_2.reads).mono ?_; rintro e w3 ⟨rfl, b3⟩
  have s3 := b3.size
  have B3 := (B2).next (by omega) b3
  have ow0_3 := ow0_2.keep (KeepIn.of_below b3 (by omega))
  clear ow0_2
  have og0_3 := oR2_0_i.keep (KeepIn.of_below b3 (by omega))
  clear oR2_0_i
  go_wp2_with fail
  refine (markEditN _ (rPEs s0).1 _ _ _ _ og0_3 (by omega) (by omega) (by omega)).mono ?_; rintro e w4 ⟨rfl, oM4, g4, b4⟩
  clear og0_3
  have s4 := b4.size
  have B4 := (B3).trans (b4.below (B := w.heap.size) (by omega) (by omega))
  have ow0_4 := ow0_3.keep (b4.keepIn (by omega) (by omega))
  clear ow0_3
  go_wp2_with fail
  refine (heldEditN _ (rPEs s0).1 _ _ _ _ oM4 (by omega) (by omega) (by omega)).mono ?_; rintro e _ ⟨rfl, rfl⟩
  go_wp2_with fail
  refine (implPE _ _  (hMax.below B4 (Nat.le_refl _)) (by omega)).mono ?_; rintro e w5 ⟨r5_0, rfl, oR5_0, b5⟩
  have s5 := b5.size
  have B5 := (B4).next (by omega) b5
  have ow0_5 := ow0_4.keep (KeepIn.of_below b5 (by omega))
  clear ow0_4
  have og0_5 := oM4.keep (KeepIn.of_below b5 (by omega))
  clear oM4
  have oR5_0_i := oR5_0.in_; clear oR5_0
  go_wp2_with fail
  refine (eqEditS_any _ _ (rPEs s0).1 (rPEs s0).1 _ oR5_0_i.reads ow0_5.reads).mono ?_; rintro e w6 ⟨rfl, b6⟩
  have s6 := b6.size
  have B6 := (B5).next (by omega) b6
  have ow0_6 := ow0_5.keep (KeepIn.of_below b6 (by omega))
  clear ow0_5
  have og0_6 := og0_5.keep (KeepIn.of_below b6 (by omega))
  clear og0_5
  have oh0_6 := oR5_0_i.keep (KeepIn.of_below b6 (by omega))
  clear oR5_0_i
  go_wp2_with fail
  refine (heldEditN _ (rPEs s0).1 _ _ _ _ og0_6 (by omega) (by omega) (by omega)).mono ?_; rintro e _ ⟨rfl, rfl⟩
  go_wp2_with fail
  go_ret
  exact ⟨rfl, B6⟩
end Go.Proofs.YthimeaobgbcnbaaDoor
