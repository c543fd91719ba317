/- The walk of the law FnExactLongestGap: whatever the arguments, it returns true and writes nothing that was there. -/
import Derived.Test.YtnbpkealigfmjaaCuesGap
import Derived.Test.YtnbpkealigfmjaaOpen
import Derived.Test.YtnbpkealigfmjaaMark
import Derived.Test.YtnbpkealigfmjaaOpenC
import Derived.Deep.DeepCutAuto
import Derived.Deep.RegionWith
set_option linter.unusedSimpArgs false
set_option linter.unusedVariables false
namespace Go.Proofs.Ytnbpkealigfmjaa
open Go.RowKit

set_option maxRecDepth 100000 in
set_option maxHeartbeats 400000 in
theorem FnExactLongestGap_walk (v0 : Value) (l0 : List Msr) (v1 : Value) (l1 : List Cu) (w : World) (h0 : RowAt msrRec w v0 l0) (f0 : WfRow msrRec l0) (h1 : RowAt cuRec w v1 l1) (f1 : WfCues l1) :
    Calls Try.prog 5 #[v0, v1] w (LawPost w) := by
  rcases Nat.lt_or_ge 1048576 (l0.length) with hbig | hl0
  · go_enter Try.func5, Try.ntmps5
    go_wp2_with fail
    refine (szMeasureS_no _ l0 _ _ h0 (by omega) (by omega) (by omega)).mono ?_; rintro e _ ⟨rfl, rfl⟩
    go_wp2_with fail
    go_ret
    exact ⟨rfl, (Below.refl _ _)⟩
  rcases Nat.lt_or_ge 1048576 (l0.length + l1.length + totC l1) with hbig | hl1
  · go_enter Try.func5, Try.ntmps5
    go_wp2_with fail
    refine (szMeasureS_yes _ l0 _ _ h0 (by omega) (by omega) (by omega)).mono ?_; rintro e _ ⟨rfl, rfl⟩
    go_wp2_with fail
    refine (szCueS_no _ l1 _ _ h1 f1 (by omega) (by omega) (by omega)).mono ?_; rintro e w9 ⟨rfl, b9⟩
    go_wp2_with fail
    go_ret
    exact ⟨rfl, b9⟩
  go_enter Try.func5, Try.ntmps5
  go_wp2_with fail
  refine (szMeasureS_yes _ l0 _ _ h0 (by omega) (by omega) (by omega)).mono ?_; rintro e _ ⟨rfl, rfl⟩
  go_wp2_with fail
  refine (szCueS_yes _ l1 _ _ h1 (by omega) (by omega) (by omega)).mono ?_; rintro e w0 ⟨rfl, B0⟩
  have s0 := B0.size
  go_wp2_with fail
  refine (toMeasureS_any _ l0 _ (h0.below B0 (Nat.le_refl _)) (by omega)).mono ?_; rintro e w1 ⟨t1, rfl, oT1, b1⟩
  have s1 := b1.size
  have B1 := (B0).next (by omega) b1
  have oT1_i := oT1.in_; clear oT1
  go_wp2_with fail
  refine (toCueS_any _ l1 _ (h1.below B1 (Nat.le_refl _)) (by omega)).mono ?_; rintro e w2 ⟨t2, rfl, oT2, b2⟩
  have s2 := b2.size
  have B2 := (B1).next (by omega) b2
  have oT1_2 := oT1_i.keep (KeepIn.of_below b2 (by omega))
  clear oT1_i
  have oT2_i := oT2.in_; clear oT2
  go_wp2_with fail
  refine (specGap _ _ l0 l1 _ oT1_2.reads oT2_i.reads f1 ).mono ?_; rintro e w3 ⟨rfl, b3⟩
  have s3 := b3.size
  have B3 := (B2).next (by omega) b3
  have oT1_3 := oT1_2.keep (KeepIn.of_below b3 (by omega))
  clear oT1_2
  have oT2_3 := oT2_i.keep (KeepIn.of_below b3 (by omega))
  clear oT2_i
  clear oT1_3
  clear oT2_3
  go_wp2_with fail
  refine (toMeasureS_any _ l0 _ (h0.below B3 (Nat.le_refl _)) (by omega)).mono ?_; rintro e w4 ⟨t4, rfl, oT4, b4⟩
  have s4 := b4.size
  have B4 := (B3).next (by omega) b4
  have oT4_i := oT4.in_; clear oT4
  go_wp2_with fail
  refine (toCueS_any _ l1 _ (h1.below B4 (Nat.le_refl _)) (by omega)).mono ?_; rintro e w5 ⟨t5, rfl, oT5, b5⟩
  have s5 := b5.size
  have B5 := (B4).next (by omega) b5
  have ox0_5 := oT4_i.keep (KeepIn.of_below b5 (by omega))
  clear oT4_i
  have oT5_i := oT5.in_; clear oT5
  go_wp2_with fail
  refine (implGap _ _ l0 l1 _ ox0_5.reads oT5_i.reads f1 ).mono ?_; rintro e w6 ⟨rfl, b6⟩
  have s6 := b6.size
  have B6 := (B5).next (by omega) b6
  have ox0_6 := ox0_5.keep (KeepIn.of_below b6 (by omega))
  clear ox0_5
  have ox1_6 := oT5_i.keep (KeepIn.of_below b6 (by omega))
  clear oT5_i
  go_wp2_with fail
  refine (toMeasureS_any _ l0 _ (h0.below B6 (Nat.le_refl _)) (by omega)).mono ?_; rintro e w7 ⟨t7, rfl, oT7, b7⟩
  have s7 := b7.size
  have B7 := (B6).next (by omega) b7
  have ox0_7 := ox0_6.keep (KeepIn.of_below b7 (by omega))
  clear ox0_6
  have ox1_7 := ox1_6.keep (KeepIn.of_below b7 (by omega))
  clear ox1_6
  have oT7_i := oT7.in_; clear oT7
  go_wp2_with fail
  refine (eqMeasureS_any _ _ l0 l0 _ ox0_7.reads oT7_i.reads).mono ?_; rintro e w8 ⟨rfl, b8⟩
  have s8 := b8.size
  have B8 := (B7).next (by omega) b8
  have ox0_8 := ox0_7.keep (KeepIn.of_below b8 (by omega))
  clear ox0_7
  have ox1_8 := ox1_7.keep (KeepIn.of_below b8 (by omega))
  clear ox1_7
  have oT7_8 := oT7_i.keep (KeepIn.of_below b8 (by omega))
  clear oT7_i
  clear oT7_8
  go_wp2_with fail
  refine (toCueS_any _ l1 _ (h1.below B8 (Nat.le_refl _)) (by omega)).mono ?_; rintro e w9 ⟨t9, rfl, oT9, b9⟩
  have s9 := b9.size
  have B9 := (B8).next (by omega) b9
  have ox0_9 := ox0_8.keep (KeepIn.of_below b9 (by omega))
  clear ox0_8
  have ox1_9 := ox1_8.keep (KeepIn.of_below b9 (by omega))
  clear ox1_8
  have oT9_i := oT9.in_; clear oT9
  go_wp2_with fail
  refine (eqCueS_any _ _ l1 l1 _ ox1_9.reads oT9_i.reads).mono ?_; rintro e w10 ⟨rfl, b10⟩
  have s10 := b10.size
  have B10 := (B9).next (by omega) b10
  have ox0_10 := ox0_9.keep (KeepIn.of_below b10 (by omega))
  clear ox0_9
  have ox1_10 := ox1_9.keep (KeepIn.of_below b10 (by omega))
  clear ox1_9
  have oT9_10 := oT9_i.keep (KeepIn.of_below b10 (by omega))
  clear oT9_i
  clear oT9_10
  go_wp2_with fail
  go_ret
  exact ⟨rfl, B10⟩
end Go.Proofs.Ytnbpkealigfmjaa
