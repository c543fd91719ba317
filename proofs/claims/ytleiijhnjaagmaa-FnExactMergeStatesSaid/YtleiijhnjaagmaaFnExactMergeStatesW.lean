/- The walk of the law FnExactMergeStates: whatever the arguments, it returns true and writes nothing that was there. -/
import Derived.Test.YtleiijhnjaagmaaVMerge
import Derived.Test.YtleiijhnjaagmaaOpen
import Derived.Test.YtleiijhnjaagmaaMark
import Derived.Test.YtleiijhnjaagmaaOpenV
import Derived.Deep.DeepCutAuto
import Derived.Deep.RegionWith
set_option linter.unusedSimpArgs false
set_option linter.unusedVariables false
namespace Go.Proofs.Ytleiijhnjaagmaa
open Go.RowKit

set_option maxHeartbeats 400000 in
theorem FnExactMergeStates_walk (v0 : Value) (l0 : List Ver) (a1 : Int) (a2 : Int) (w : World) (h0 : VersAt w v0 l0) (f0 : WfVers l0) (f1 : -9223372036854775808 ≤ a1 ∧ a1 ≤ 9223372036854775807) (f2 : -9223372036854775808 ≤ a2 ∧ a2 ≤ 9223372036854775807) :
    Calls Try.prog 11 #[v0, .int .i64 a1, .int .i64 a2] w (LawPost w) := by
  obtain ⟨fl1, fh1⟩ := f1
  obtain ⟨fl2, fh2⟩ := f2
  rcases Nat.lt_or_ge 1048576 (l0.length) with hbig | hl0
  · go_enter Try.func11, Try.ntmps11
    go_wp2_with fail
    refine (szVersionS_no _ l0 _ _ h0 (by omega) (by omega) (by omega)).mono ?_; rintro e _ ⟨rfl, rfl⟩
    go_wp2_with fail
    go_ret
    exact ⟨rfl, (Below.refl _ _)⟩
  obtain ⟨hrl, hrl2⟩ := rMerge_len l0 a1 a2
  go_enter Try.func11, Try.ntmps11
  go_wp2_with fail
  refine (szVersionS_yes _ l0 _ _ h0 (by omega) (by omega) (by omega)).mono ?_; rintro e _ ⟨rfl, rfl⟩
  go_wp2_with fail
  refine (toVersionS_any _ l0 _ (h0.below (Below.refl w.heap.size w) (Nat.le_refl _)) (by omega)).mono ?_; rintro e w1 ⟨t1, rfl, oT1, b1⟩
  have s1 := b1.size
  have B1 := ((Below.refl w.heap.size w)).next (by omega) b1
  have oT1_i := oT1.in_; clear oT1
  go_wp2_with fail
  refine (specMerge _ l0 _ _ _ oT1_i.reads ).mono ?_; rintro e w2 ⟨r2_0, r2_1, rfl, oR2_0, oR2_1, ap2, b2⟩
  have s2 := b2.size
  have B2 := (B1).next (by omega) b2
  have oT1_2 := oT1_i.keep (KeepIn.of_below b2 (by omega))
  clear oT1_i
  have oR2_0_i := oR2_0.in_; clear oR2_0
  have oR2_1_i := oR2_1.in_; clear oR2_1
  clear oT1_2
  go_wp2_with fail
  refine (toVersionS_any _ l0 _ (h0.below B2 (Nat.le_refl _)) (by omega)).mono ?_; rintro e w3 ⟨t3, rfl, oT3, b3⟩
  have s3 := b3.size
  have B3 := (B2).next (by omega) b3
  have ow0_3 := oR2_0_i.keep (KeepIn.of_below b3 (by omega))
  clear oR2_0_i
  have ow1_3 := oR2_1_i.keep (KeepIn.of_below b3 (by omega))
  clear oR2_1_i
  have oT3_i := oT3.in_; clear oT3
  go_wp2_with fail
  refine (implMerge _ l0 _ _ _ oT3_i.reads ).mono ?_; rintro e w4 ⟨r4_0, r4_1, rfl, oR4_0, oR4_1, ap4, b4⟩
  have s4 := b4.size
  have B4 := (B3).next (by omega) b4
  have ow0_4 := ow0_3.keep (KeepIn.of_below b4 (by omega))
  clear ow0_3
  have ow1_4 := ow1_3.keep (KeepIn.of_below b4 (by omega))
  clear ow1_3
  have ox0_4 := oT3_i.keep (KeepIn.of_below b4 (by omega))
  clear oT3_i
  have oR4_0_i := oR4_0.in_; clear oR4_0
  have oR4_1_i := oR4_1.in_; clear oR4_1
  go_wp2_with fail
  refine (eqIntS_any _ _ (rMerge l0 a1 a2).1 (rMerge l0 a1 a2).1 _ oR4_0_i.reads ow0_4.reads).mono ?_; rintro e w5 ⟨rfl, b5⟩
  have s5 := b5.size
  have B5 := (B4).next (by omega) b5
  have ow0_5 := ow0_4.keep (KeepIn.of_below b5 (by omega))
  clear ow0_4
  have ow1_5 := ow1_4.keep (KeepIn.of_below b5 (by omega))
  clear ow1_4
  have ox0_5 := ox0_4.keep (KeepIn.of_below b5 (by omega))
  clear ox0_4
  have og0_5 := oR4_0_i.keep (KeepIn.of_below b5 (by omega))
  clear oR4_0_i
  have og1_5 := oR4_1_i.keep (KeepIn.of_below b5 (by omega))
  clear oR4_1_i
  go_wp2_with fail
  refine (eqIntS_any _ _ (rMerge l0 a1 a2).2.1 (rMerge l0 a1 a2).2.1 _ og1_5.reads ow1_5.reads).mono ?_; rintro e w6 ⟨rfl, b6⟩
  have s6 := b6.size
  have B6 := (B5).next (by omega) b6
  have ow0_6 := ow0_5.keep (KeepIn.of_below b6 (by omega))
  clear ow0_5
  have ow1_6 := ow1_5.keep (KeepIn.of_below b6 (by omega))
  clear ow1_5
  have ox0_6 := ox0_5.keep (KeepIn.of_below b6 (by omega))
  clear ox0_5
  have og0_6 := og0_5.keep (KeepIn.of_below b6 (by omega))
  clear og0_5
  have og1_6 := og1_5.keep (KeepIn.of_below b6 (by omega))
  clear og1_5
  go_wp2_with fail
  refine (toVersionS_any _ l0 _ (h0.below B6 (Nat.le_refl _)) (by omega)).mono ?_; rintro e w7 ⟨t7, rfl, oT7, b7⟩
  have s7 := b7.size
  have B7 := (B6).next (by omega) b7
  have ow0_7 := ow0_6.keep (KeepIn.of_below b7 (by omega))
  clear ow0_6
  have ow1_7 := ow1_6.keep (KeepIn.of_below b7 (by omega))
  clear ow1_6
  have ox0_7 := ox0_6.keep (KeepIn.of_below b7 (by omega))
  clear ox0_6
  have og0_7 := og0_6.keep (KeepIn.of_below b7 (by omega))
  clear og0_6
  have og1_7 := og1_6.keep (KeepIn.of_below b7 (by omega))
  clear og1_6
  have oT7_i := oT7.in_; clear oT7
  go_wp2_with fail
  refine (eqVersionS_any _ _ l0 l0 _ ox0_7.reads oT7_i.reads).mono ?_; rintro e w8 ⟨rfl, b8⟩
  have s8 := b8.size
  have B8 := (B7).next (by omega) b8
  have ow0_8 := ow0_7.keep (KeepIn.of_below b8 (by omega))
  clear ow0_7
  have ow1_8 := ow1_7.keep (KeepIn.of_below b8 (by omega))
  clear ow1_7
  have ox0_8 := ox0_7.keep (KeepIn.of_below b8 (by omega))
  clear ox0_7
  have og0_8 := og0_7.keep (KeepIn.of_below b8 (by omega))
  clear og0_7
  have og1_8 := og1_7.keep (KeepIn.of_below b8 (by omega))
  clear og1_7
  have oT7_8 := oT7_i.keep (KeepIn.of_below b8 (by omega))
  clear oT7_i
  clear oT7_8
  go_wp2_with fail
  refine (markVers _ l0 _ _ _ _ ox0_8 (by omega) (by omega) (by omega)).mono ?_; rintro e w9 ⟨rfl, oM9, b9⟩
  clear ox0_8
  have s9 := b9.size
  have B9 := (B8).trans (b9.below (B := w.heap.size) (by omega) (by omega))
  have ow0_9 := ow0_8.keep (b9.keepIn (by omega) (by omega))
  clear ow0_8
  have ow1_9 := ow1_8.keep (b9.keepIn (by omega) (by omega))
  clear ow1_8
  have og0_9 := og0_8.keep (b9.keepIn (by omega) (by omega))
  clear og0_8
  have og1_9 := og1_8.keep (b9.keepIn (by omega) (by omega))
  clear og1_8
  go_wp2_with fail
  refine (eqIntS_any _ _ (rMerge l0 a1 a2).1 (rMerge l0 a1 a2).1 _ og0_9.reads ow0_9.reads).mono ?_; rintro e w10 ⟨rfl, b10⟩
  have s10 := b10.size
  have B10 := (B9).next (by omega) b10
  have ow0_10 := ow0_9.keep (KeepIn.of_below b10 (by omega))
  clear ow0_9
  have ow1_10 := ow1_9.keep (KeepIn.of_below b10 (by omega))
  clear ow1_9
  have ox0_10 := oM9.keep (KeepIn.of_below b10 (by omega))
  clear oM9
  have og0_10 := og0_9.keep (KeepIn.of_below b10 (by omega))
  clear og0_9
  have og1_10 := og1_9.keep (KeepIn.of_below b10 (by omega))
  clear og1_9
  go_wp2_with fail
  refine (eqIntS_any _ _ (rMerge l0 a1 a2).2.1 (rMerge l0 a1 a2).2.1 _ og1_10.reads ow1_10.reads).mono ?_; rintro e w11 ⟨rfl, b11⟩
  have s11 := b11.size
  have B11 := (B10).next (by omega) b11
  have ow0_11 := ow0_10.keep (KeepIn.of_below b11 (by omega))
  clear ow0_10
  have ow1_11 := ow1_10.keep (KeepIn.of_below b11 (by omega))
  clear ow1_10
  have ox0_11 := ox0_10.keep (KeepIn.of_below b11 (by omega))
  clear ox0_10
  have og0_11 := og0_10.keep (KeepIn.of_below b11 (by omega))
  clear og0_10
  have og1_11 := og1_10.keep (KeepIn.of_below b11 (by omega))
  clear og1_10
  go_wp2_with fail
  refine (markIntsG _ (rMerge l0 a1 a2).1 _ _ _ _ og0_11 (by omega) (by omega) (by omega)).mono ?_; rintro e w12 ⟨rfl, oM12, g12, b12⟩
  clear og0_11
  have s12 := b12.size
  have B12 := (B11).trans (b12.below (B := w.heap.size) (by omega) (by omega))
  have ow0_12 := ow0_11.keep (b12.keepIn (by omega) (by omega))
  clear ow0_11
  have ow1_12 := ow1_11.keep (b12.keepIn (by omega) (by omega))
  clear ow1_11
  have ox0_12 := ox0_11.keep (b12.keepIn (by omega) (by omega))
  clear ox0_11
  have og1_12 := og1_11.apt ap4 g12
  clear og1_11
  go_wp2_with fail
  refine (markIntsG _ (rMerge l0 a1 a2).2.1 _ _ _ _ og1_12 (by omega) (by omega) (by omega)).mono ?_; rintro e w13 ⟨rfl, oM13, g13, b13⟩
  clear og1_12
  have s13 := b13.size
  have B13 := (B12).trans (b13.below (B := w.heap.size) (by omega) (by omega))
  have ow0_13 := ow0_12.keep (b13.keepIn (by omega) (by omega))
  clear ow0_12
  have ow1_13 := ow1_12.keep (b13.keepIn (by omega) (by omega))
  clear ow1_12
  have ox0_13 := ox0_12.keep (b13.keepIn (by omega) (by omega))
  clear ox0_12
  have og0_13 := oM12.apt ap4.symm g13
  clear oM12
  go_wp2_with fail
  refine (heldInts _ (rMerge l0 a1 a2).1 _ _ _ _ og0_13 (by omega) (by omega) (by omega)).mono ?_; rintro e _ ⟨rfl, rfl⟩
  go_wp2_with fail
  refine (heldInts _ (rMerge l0 a1 a2).2.1 _ _ _ _ oM13 (by omega) (by omega) (by omega)).mono ?_; rintro e _ ⟨rfl, rfl⟩
  go_wp2_with fail
  refine (toVersionS_any _ l0 _ (h0.below B13 (Nat.le_refl _)) (by omega)).mono ?_; rintro e w14 ⟨t14, rfl, oT14, b14⟩
  have s14 := b14.size
  have B14 := (B13).next (by omega) b14
  have ow0_14 := ow0_13.keep (KeepIn.of_below b14 (by omega))
  clear ow0_13
  have ow1_14 := ow1_13.keep (KeepIn.of_below b14 (by omega))
  clear ow1_13
  have ox0_14 := ox0_13.keep (KeepIn.of_below b14 (by omega))
  clear ox0_13
  have og0_14 := og0_13.keep (KeepIn.of_below b14 (by omega))
  clear og0_13
  have og1_14 := oM13.keep (KeepIn.of_below b14 (by omega))
  clear oM13
  have oT14_i := oT14.in_; clear oT14
  go_wp2_with fail
  refine (implMerge _ l0 _ _ _ oT14_i.reads ).mono ?_; rintro e w15 ⟨r15_0, r15_1, rfl, oR15_0, oR15_1, ap15, b15⟩
  have s15 := b15.size
  have B15 := (B14).next (by omega) b15
  have ow0_15 := ow0_14.keep (KeepIn.of_below b15 (by omega))
  clear ow0_14
  have ow1_15 := ow1_14.keep (KeepIn.of_below b15 (by omega))
  clear ow1_14
  have ox0_15 := ox0_14.keep (KeepIn.of_below b15 (by omega))
  clear ox0_14
  have og0_15 := og0_14.keep (KeepIn.of_below b15 (by omega))
  clear og0_14
  have og1_15 := og1_14.keep (KeepIn.of_below b15 (by omega))
  clear og1_14
  have oT14_15 := oT14_i.keep (KeepIn.of_below b15 (by omega))
  clear oT14_i
  have oR15_0_i := oR15_0.in_; clear oR15_0
  have oR15_1_i := oR15_1.in_; clear oR15_1
  clear oT14_15
  go_wp2_with fail
  refine (eqIntS_any _ _ (rMerge l0 a1 a2).1 (rMerge l0 a1 a2).1 _ oR15_0_i.reads ow0_15.reads).mono ?_; rintro e w16 ⟨rfl, b16⟩
  have s16 := b16.size
  have B16 := (B15).next (by omega) b16
  have ow0_16 := ow0_15.keep (KeepIn.of_below b16 (by omega))
  clear ow0_15
  have ow1_16 := ow1_15.keep (KeepIn.of_below b16 (by omega))
  clear ow1_15
  have ox0_16 := ox0_15.keep (KeepIn.of_below b16 (by omega))
  clear ox0_15
  have og0_16 := og0_15.keep (KeepIn.of_below b16 (by omega))
  clear og0_15
  have og1_16 := og1_15.keep (KeepIn.of_below b16 (by omega))
  clear og1_15
  have oh0_16 := oR15_0_i.keep (KeepIn.of_below b16 (by omega))
  clear oR15_0_i
  have oh1_16 := oR15_1_i.keep (KeepIn.of_below b16 (by omega))
  clear oR15_1_i
  go_wp2_with fail
  refine (eqIntS_any _ _ (rMerge l0 a1 a2).2.1 (rMerge l0 a1 a2).2.1 _ oh1_16.reads ow1_16.reads).mono ?_; rintro e w17 ⟨rfl, b17⟩
  have s17 := b17.size
  have B17 := (B16).next (by omega) b17
  have ow0_17 := ow0_16.keep (KeepIn.of_below b17 (by omega))
  clear ow0_16
  have ow1_17 := ow1_16.keep (KeepIn.of_below b17 (by omega))
  clear ow1_16
  have ox0_17 := ox0_16.keep (KeepIn.of_below b17 (by omega))
  clear ox0_16
  have og0_17 := og0_16.keep (KeepIn.of_below b17 (by omega))
  clear og0_16
  have og1_17 := og1_16.keep (KeepIn.of_below b17 (by omega))
  clear og1_16
  have oh0_17 := oh0_16.keep (KeepIn.of_below b17 (by omega))
  clear oh0_16
  have oh1_17 := oh1_16.keep (KeepIn.of_below b17 (by omega))
  clear oh1_16
  go_wp2_with fail
  refine (heldInts _ (rMerge l0 a1 a2).1 _ _ _ _ og0_17 (by omega) (by omega) (by omega)).mono ?_; rintro e _ ⟨rfl, rfl⟩
  go_wp2_with fail
  refine (heldInts _ (rMerge l0 a1 a2).2.1 _ _ _ _ og1_17 (by omega) (by omega) (by omega)).mono ?_; rintro e _ ⟨rfl, rfl⟩
  go_wp2_with fail
  go_ret
  exact ⟨rfl, B17⟩
end Go.Proofs.Ytleiijhnjaagmaa
