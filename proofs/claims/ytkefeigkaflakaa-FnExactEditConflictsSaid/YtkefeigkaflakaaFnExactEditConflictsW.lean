/- The walk of the law FnExactEditConflicts: whatever the arguments, it returns true and writes nothing that was there. -/
import Derived.Test.YtkefeigkaflakaaEditConfl
import Derived.Test.YtkefeigkaflakaaOpen
import Derived.Test.YtkefeigkaflakaaMark
import Derived.Test.YtkefeigkaflakaaOpenR
import Derived.Deep.DeepCutAuto
import Derived.Deep.RegionWith
set_option linter.unusedSimpArgs false
set_option linter.unusedVariables false
namespace Go.Proofs.Ytkefeigkaflakaa
open Go.RowKit

set_option maxRecDepth 100000 in
set_option maxHeartbeats 400000 in
theorem FnExactEditConflicts_walk (v0 : Value) (l0 : List Spt) (v1 : Value) (l1 : List Edt) (v2 : Value) (l2 : List Edt) (w : World) (h0 : RowAt sptRec w v0 l0) (f0 : WfRow sptRec l0) (h1 : RowAt edtRec w v1 l1) (f1 : WfRow edtRec l1) (h2 : RowAt edtRec w v2 l2) (f2 : WfRow edtRec l2) :
    Calls Try.prog 9 #[v0, v1, v2] w (LawPost w) := by
  rcases Nat.lt_or_ge 1048576 (l0.length) with hbig | hl0
  · go_enter Try.func9, Try.ntmps9
    go_wp2_with fail
    refine (szSpotS_no _ l0 _ _ h0 (by omega) (by omega) (by omega)).mono ?_; rintro e _ ⟨rfl, rfl⟩
    go_wp2_with fail
    go_ret
    exact ⟨rfl, (Below.refl _ _)⟩
  rcases Nat.lt_or_ge 1048576 (l0.length + l1.length) with hbig | hl1
  · go_enter Try.func9, Try.ntmps9
    go_wp2_with fail
    refine (szSpotS_yes _ l0 _ _ h0 (by omega) (by omega) (by omega)).mono ?_; rintro e _ ⟨rfl, rfl⟩
    go_wp2_with fail
    refine (szEditS_no _ l1 _ _ h1 (by omega) (by omega) (by omega)).mono ?_; rintro e _ ⟨rfl, rfl⟩
    go_wp2_with fail
    go_ret
    exact ⟨rfl, (Below.refl _ _)⟩
  rcases Nat.lt_or_ge 1048576 (l0.length + l1.length + l2.length) with hbig | hl2
  · go_enter Try.func9, Try.ntmps9
    go_wp2_with fail
    refine (szSpotS_yes _ l0 _ _ h0 (by omega) (by omega) (by omega)).mono ?_; rintro e _ ⟨rfl, rfl⟩
    go_wp2_with fail
    refine (szEditS_yes _ l1 _ _ h1 (by omega) (by omega) (by omega)).mono ?_; rintro e _ ⟨rfl, rfl⟩
    go_wp2_with fail
    refine (szEditS_no _ l2 _ _ h2 (by omega) (by omega) (by omega)).mono ?_; rintro e _ ⟨rfl, rfl⟩
    go_wp2_with fail
    go_ret
    exact ⟨rfl, (Below.refl _ _)⟩
  have hrl := rConfl_len l0 l1 l2
  go_enter Try.func9, Try.ntmps9
  go_wp2_with fail
  refine (szSpotS_yes _ l0 _ _ h0 (by omega) (by omega) (by omega)).mono ?_; rintro e _ ⟨rfl, rfl⟩
  go_wp2_with fail
  refine (szEditS_yes _ l1 _ _ h1 (by omega) (by omega) (by omega)).mono ?_; rintro e _ ⟨rfl, rfl⟩
  go_wp2_with fail
  refine (szEditS_yes _ l2 _ _ h2 (by omega) (by omega) (by omega)).mono ?_; rintro e _ ⟨rfl, rfl⟩
  go_wp2_with fail
  refine (toSpotS_any _ l0 _ (h0.below (Below.refl w.heap.size w) (Nat.le_refl _)) (by omega)).mono ?_; rintro e w1 ⟨t1, rfl, oT1, b1⟩
  have s1 := b1.size
  have B1 := ((Below.refl w.heap.size w)).next (by omega) b1
  have oT1_i := oT1.in_; clear oT1
  go_wp2_with fail
  refine (toEditS_any _ l1 _ (h1.below B1 (Nat.le_refl _)) (by omega)).mono ?_; rintro e w2 ⟨t2, rfl, oT2, b2⟩
  have s2 := b2.size
  have B2 := (B1).next (by omega) b2
  have oT1_2 := oT1_i.keep (KeepIn.of_below b2 (by omega))
  clear oT1_i
  have oT2_i := oT2.in_; clear oT2
  go_wp2_with fail
  refine (toEditS_any _ l2 _ (h2.below B2 (Nat.le_refl _)) (by omega)).mono ?_; rintro e w3 ⟨t3, rfl, oT3, b3⟩
  have s3 := b3.size
  have B3 := (B2).next (by omega) b3
  have oT1_3 := oT1_2.keep (KeepIn.of_below b3 (by omega))
  clear oT1_2
  have oT2_3 := oT2_i.keep (KeepIn.of_below b3 (by omega))
  clear oT2_i
  have oT3_i := oT3.in_; clear oT3
  go_wp2_with fail
  refine (specConfl _ _ _ l0 l1 l2 _ oT1_3.reads oT2_3.reads oT3_i.reads ).mono ?_; rintro e w4 ⟨r4_0, rfl, oR4_0, b4⟩
  have s4 := b4.size
  have B4 := (B3).next (by omega) b4
  have oT1_4 := oT1_3.keep (KeepIn.of_below b4 (by omega))
  clear oT1_3
  have oT2_4 := oT2_3.keep (KeepIn.of_below b4 (by omega))
  clear oT2_3
  have oT3_4 := oT3_i.keep (KeepIn.of_below b4 (by omega))
  clear oT3_i
  have oR4_0_i := oR4_0.in_; clear oR4_0
  clear oT1_4
  clear oT2_4
  clear oT3_4
  go_wp2_with fail
  refine (toSpotS_any _ l0 _ (h0.below B4 (Nat.le_refl _)) (by omega)).mono ?_; rintro e w5 ⟨t5, rfl, oT5, b5⟩
  have s5 := b5.size
  have B5 := (B4).next (by omega) b5
  have ow0_5 := oR4_0_i.keep (KeepIn.of_below b5 (by omega))
  clear oR4_0_i
  have oT5_i := oT5.in_; clear oT5
  go_wp2_with fail
  refine (toEditS_any _ l1 _ (h1.below B5 (Nat.le_refl _)) (by omega)).mono ?_; rintro e w6 ⟨t6, rfl, oT6, b6⟩
  have s6 := b6.size
  have B6 := (B5).next (by omega) b6
  have ow0_6 := ow0_5.keep (KeepIn.of_below b6 (by omega))
  clear ow0_5
  have ox0_6 := oT5_i.keep (KeepIn.of_below b6 (by omega))
  clear oT5_i
  have oT6_i := oT6.in_; clear oT6
  go_wp2_with fail
  refine (toEditS_any _ l2 _ (h2.below B6 (Nat.le_refl _)) (by omega)).mono ?_; rintro e w7 ⟨t7, rfl, oT7, b7⟩
  have s7 := b7.size
  have B7 := (B6).next (by omega) b7
  have ow0_7 := ow0_6.keep (KeepIn.of_below b7 (by omega))
  clear ow0_6
  have ox0_7 := ox0_6.keep (KeepIn.of_below b7 (by omega))
  clear ox0_6
  have ox1_7 := oT6_i.keep (KeepIn.of_below b7 (by omega))
  clear oT6_i
  have oT7_i := oT7.in_; clear oT7
  go_wp2_with fail
  refine (implConfl _ _ _ l0 l1 l2 _ ox0_7.reads ox1_7.reads oT7_i.reads ).mono ?_; rintro e w8 ⟨r8_0, rfl, oR8_0, b8⟩
  have s8 := b8.size
  have B8 := (B7).next (by omega) b8
  have ow0_8 := ow0_7.keep (KeepIn.of_below b8 (by omega))
  clear ow0_7
  have ox0_8 := ox0_7.keep (KeepIn.of_below b8 (by omega))
  clear ox0_7
  have ox1_8 := ox1_7.keep (KeepIn.of_below b8 (by omega))
  clear ox1_7
  have ox2_8 := oT7_i.keep (KeepIn.of_below b8 (by omega))
  clear oT7_i
  have oR8_0_i := oR8_0.in_; clear oR8_0
  go_wp2_with fail
  refine (eqIntS_any _ _ (rConfl l0 l1 l2).1 (rConfl l0 l1 l2).1 _ oR8_0_i.reads ow0_8.reads).mono ?_; rintro e w9 ⟨rfl, b9⟩
  have s9 := b9.size
  have B9 := (B8).next (by omega) b9
  have ow0_9 := ow0_8.keep (KeepIn.of_below b9 (by omega))
  clear ow0_8
  have ox0_9 := ox0_8.keep (KeepIn.of_below b9 (by omega))
  clear ox0_8
  have ox1_9 := ox1_8.keep (KeepIn.of_below b9 (by omega))
  clear ox1_8
  have ox2_9 := ox2_8.keep (KeepIn.of_below b9 (by omega))
  clear ox2_8
  have og0_9 := oR8_0_i.keep (KeepIn.of_below b9 (by omega))
  clear oR8_0_i
  go_wp2_with fail
  refine (toSpotS_any _ l0 _ (h0.below B9 (Nat.le_refl _)) (by omega)).mono ?_; rintro e w10 ⟨t10, rfl, oT10, b10⟩
  have s10 := b10.size
  have B10 := (B9).next (by omega) b10
  have ow0_10 := ow0_9.keep (KeepIn.of_below b10 (by omega))
  clear ow0_9
  have ox0_10 := ox0_9.keep (KeepIn.of_below b10 (by omega))
  clear ox0_9
  have ox1_10 := ox1_9.keep (KeepIn.of_below b10 (by omega))
  clear ox1_9
  have ox2_10 := ox2_9.keep (KeepIn.of_below b10 (by omega))
  clear ox2_9
  have og0_10 := og0_9.keep (KeepIn.of_below b10 (by omega))
  clear og0_9
  have oT10_i := oT10.in_; clear oT10
  go_wp2_with fail
  refine (eqSpotS_any _ _ l0 l0 _ ox0_10.reads oT10_i.reads).mono ?_; rintro e w11 ⟨rfl, b11⟩
  have s11 := b11.size
  have B11 := (B10).next (by omega) b11
  have ow0_11 := ow0_10.keep (KeepIn.of_below b11 (by omega))
  clear ow0_10
  have ox0_11 := ox0_10.keep (KeepIn.of_below b11 (by omega))
  clear ox0_10
  have ox1_11 := ox1_10.keep (KeepIn.of_below b11 (by omega))
  clear ox1_10
  have ox2_11 := ox2_10.keep (KeepIn.of_below b11 (by omega))
  clear ox2_10
  have og0_11 := og0_10.keep (KeepIn.of_below b11 (by omega))
  clear og0_10
  have oT10_11 := oT10_i.keep (KeepIn.of_below b11 (by omega))
  clear oT10_i
  clear oT10_11
  go_wp2_with fail
  refine (toEditS_any _ l1 _ (h1.below B11 (Nat.le_refl _)) (by omega)).mono ?_; rintro e w12 ⟨t12, rfl, oT12, b12⟩
  have s12 := b12.size
  have B12 := (B11).next (by omega) b12
  have ow0_12 := ow0_11.keep (KeepIn.of_below b12 (by omega))
  clear ow0_11
  have ox0_12 := ox0_11.keep (KeepIn.of_below b12 (by omega))
  clear ox0_11
  have ox1_12 := ox1_11.keep (KeepIn.of_below b12 (by omega))
  clear ox1_11
  have ox2_12 := ox2_11.keep (KeepIn.of_below b12 (by omega))
  clear ox2_11
  have og0_12 := og0_11.keep (KeepIn.of_below b12 (by omega))
  clear og0_11
  have oT12_i := oT12.in_; clear oT12
  go_wp2_with fail
  refine (eqEditS_any _ _ l1 l1 _ ox1_12.reads oT12_i.reads).mono ?_; rintro e w13 ⟨rfl, b13⟩
  have s13 := b13.size
  have B13 := (B12).next (by omega) b13
  have ow0_13 := ow0_12.keep (KeepIn.of_below b13 (by omega))
  clear ow0_12
  have ox0_13 := ox0_12.keep (KeepIn.of_below b13 (by omega))
  clear ox0_12
  have ox1_13 := ox1_12.keep (KeepIn.of_below b13 (by omega))
  clear ox1_12
  have ox2_13 := ox2_12.keep (KeepIn.of_below b13 (by omega))
  clear ox2_12
  have og0_13 := og0_12.keep (KeepIn.of_below b13 (by omega))
  clear og0_12
  have oT12_13 := oT12_i.keep (KeepIn.of_below b13 (by omega))
  clear oT12_i
  clear oT12_13
  go_wp2_with fail
  refine (toEditS_any _ l2 _ (h2.below B13 (Nat.le_refl _)) (by omega)).mono ?_; rintro e w14 ⟨t14, rfl, oT14, b14⟩
  have s14 := b14.size
  have B14 := (B13).next (by omega) b14
  have ow0_14 := ow0_13.keep (KeepIn.of_below b14 (by omega))
  clear ow0_13
  have ox0_14 := ox0_13.keep (KeepIn.of_below b14 (by omega))
  clear ox0_13
  have ox1_14 := ox1_13.keep (KeepIn.of_below b14 (by omega))
  clear ox1_13
  have ox2_14 := ox2_13.keep (KeepIn.of_below b14 (by omega))
  clear ox2_13
  have og0_14 := og0_13.keep (KeepIn.of_below b14 (by omega))
  clear og0_13
  have oT14_i := oT14.in_; clear oT14
  go_wp2_with fail
  refine (eqEditS_any _ _ l2 l2 _ ox2_14.reads oT14_i.reads).mono ?_; rintro e w15 ⟨rfl, b15⟩
  have s15 := b15.size
  have B15 := (B14).next (by omega) b15
  have ow0_15 := ow0_14.keep (KeepIn.of_below b15 (by omega))
  clear ow0_14
  have ox0_15 := ox0_14.keep (KeepIn.of_below b15 (by omega))
  clear ox0_14
  have ox1_15 := ox1_14.keep (KeepIn.of_below b15 (by omega))
  clear ox1_14
  have ox2_15 := ox2_14.keep (KeepIn.of_below b15 (by omega))
  clear ox2_14
  have og0_15 := og0_14.keep (KeepIn.of_below b15 (by omega))
  clear og0_14
  have oT14_15 := oT14_i.keep (KeepIn.of_below b15 (by omega))
  clear oT14_i
  clear oT14_15
  go_wp2_with fail
  refine (markSpotN _ l0 _ _ _ _ ox0_15 (by omega) (by omega) (by omega)).mono ?_; rintro e w16 ⟨rfl, oM16, g16, b16⟩
  clear ox0_15
  have s16 := b16.size
  have B16 := (B15).trans (b16.below (B := w.heap.size) (by omega) (by omega))
  have ow0_16 := ow0_15.keep (b16.keepIn (by omega) (by omega))
  clear ow0_15
  have ox1_16 := ox1_15.keep (b16.keepIn (by omega) (by omega))
  clear ox1_15
  have ox2_16 := ox2_15.keep (b16.keepIn (by omega) (by omega))
  clear ox2_15
  have og0_16 := og0_15.keep (b16.keepIn (by omega) (by omega))
  clear og0_15
  go_wp2_with fail
  refine (markEditN _ l1 _ _ _ _ ox1_16 (by omega) (by omega) (by omega)).mono ?_; rintro e w17 ⟨rfl, oM17, g17, b17⟩
  clear ox1_16
  have s17 := b17.size
  have B17 := (B16).trans (b17.below (B := w.heap.size) (by omega) (by omega))
  have ow0_17 := ow0_16.keep (b17.keepIn (by omega) (by omega))
  clear ow0_16
  have ox0_17 := oM16.keep (b17.keepIn (by omega) (by omega))
  clear oM16
  have ox2_17 := ox2_16.keep (b17.keepIn (by omega) (by omega))
  clear ox2_16
  have og0_17 := og0_16.keep (b17.keepIn (by omega) (by omega))
  clear og0_16
  go_wp2_with fail
  refine (markEditN _ l2 _ _ _ _ ox2_17 (by omega) (by omega) (by omega)).mono ?_; rintro e w18 ⟨rfl, oM18, g18, b18⟩
  clear ox2_17
  have s18 := b18.size
  have B18 := (B17).trans (b18.below (B := w.heap.size) (by omega) (by omega))
  have ow0_18 := ow0_17.keep (b18.keepIn (by omega) (by omega))
  clear ow0_17
  have ox0_18 := ox0_17.keep (b18.keepIn (by omega) (by omega))
  clear ox0_17
  have ox1_18 := oM17.keep (b18.keepIn (by omega) (by omega))
  clear oM17
  have og0_18 := og0_17.keep (b18.keepIn (by omega) (by omega))
  clear og0_17
  go_wp2_with fail
  refine (eqIntS_any _ _ (rConfl l0 l1 l2).1 (rConfl l0 l1 l2).1 _ og0_18.reads ow0_18.reads).mono ?_; rintro e w19 ⟨rfl, b19⟩
  have s19 := b19.size
  have B19 := (B18).next (by omega) b19
  have ow0_19 := ow0_18.keep (KeepIn.of_below b19 (by omega))
  clear ow0_18
  have ox0_19 := ox0_18.keep (KeepIn.of_below b19 (by omega))
  clear ox0_18
  have ox1_19 := ox1_18.keep (KeepIn.of_below b19 (by omega))
  clear ox1_18
  have ox2_19 := oM18.keep (KeepIn.of_below b19 (by omega))
  clear oM18
  have og0_19 := og0_18.keep (KeepIn.of_below b19 (by omega))
  clear og0_18
  go_wp2_with fail
  refine (markIntsG _ (rConfl l0 l1 l2).1 _ _ _ _ og0_19 (by omega) (by omega) (by omega)).mono ?_; rintro e w20 ⟨rfl, oM20, g20, b20⟩
  clear og0_19
  have s20 := b20.size
  have B20 := (B19).trans (b20.below (B := w.heap.size) (by omega) (by omega))
  have ow0_20 := ow0_19.keep (b20.keepIn (by omega) (by omega))
  clear ow0_19
  have ox0_20 := ox0_19.keep (b20.keepIn (by omega) (by omega))
  clear ox0_19
  have ox1_20 := ox1_19.keep (b20.keepIn (by omega) (by omega))
  clear ox1_19
  have ox2_20 := ox2_19.keep (b20.keepIn (by omega) (by omega))
  clear ox2_19
  go_wp2_with fail
  refine (heldInts _ (rConfl l0 l1 l2).1 _ _ _ _ oM20 (by omega) (by omega) (by omega)).mono ?_; rintro e _ ⟨rfl, rfl⟩
  go_wp2_with fail
  refine (toSpotS_any _ l0 _ (h0.below B20 (Nat.le_refl _)) (by omega)).mono ?_; rintro e w21 ⟨t21, rfl, oT21, b21⟩
  have s21 := b21.size
  have B21 := (B20).next (by omega) b21
  have ow0_21 := ow0_20.keep (KeepIn.of_below b21 (by omega))
  clear ow0_20
  have ox0_21 := ox0_20.keep (KeepIn.of_below b21 (by omega))
  clear ox0_20
  have ox1_21 := ox1_20.keep (KeepIn.of_below b21 (by omega))
  clear ox1_20
  have ox2_21 := ox2_20.keep (KeepIn.of_below b21 (by omega))
  clear ox2_20
  have og0_21 := oM20.keep (KeepIn.of_below b21 (by omega))
  clear oM20
  have oT21_i := oT21.in_; clear oT21
  go_wp2_with fail
  refine (toEditS_any _ l1 _ (h1.below B21 (Nat.le_refl _)) (by omega)).mono ?_; rintro e w22 ⟨t22, rfl, oT22, b22⟩
  have s22 := b22.size
  have B22 := (B21).next (by omega) b22
  have ow0_22 := ow0_21.keep (KeepIn.of_below b22 (by omega))
  clear ow0_21
  have ox0_22 := ox0_21.keep (KeepIn.of_below b22 (by omega))
  clear ox0_21
  have ox1_22 := ox1_21.keep (KeepIn.of_below b22 (by omega))
  clear ox1_21
  have ox2_22 := ox2_21.keep (KeepIn.of_below b22 (by omega))
  clear ox2_21
  have og0_22 := og0_21.keep (KeepIn.of_below b22 (by omega))
  clear og0_21
  have oT21_22 := oT21_i.keep (KeepIn.of_below b22 (by omega))
  clear oT21_i
  have oT22_i := oT22.in_; clear oT22
  go_wp2_with fail
  refine (toEditS_any _ l2 _ (h2.below B22 (Nat.le_refl _)) (by omega)).mono ?_; rintro e w23 ⟨t23, rfl, oT23, b23⟩
  have s23 := b23.size
  have B23 := (B22).next (by omega) b23
  have ow0_23 := ow0_22.keep (KeepIn.of_below b23 (by omega))
  clear ow0_22
  have ox0_23 := ox0_22.keep (KeepIn.of_below b23 (by omega))
  clear ox0_22
  have ox1_23 := ox1_22.keep (KeepIn.of_below b23 (by omega))
  clear ox1_22
  have ox2_23 := ox2_22.keep (KeepIn.of_below b23 (by omega))
  clear ox2_22
  have og0_23 := og0_22.keep (KeepIn.of_below b23 (by omega))
  clear og0_22
  have oT21_23 := oT21_22.keep (KeepIn.of_below b23 (by omega))
  clear oT21_22
  have oT22_23 := oT22_i.keep (KeepIn.of_below b23 (by omega))
  clear oT22_i
  have oT23_i := oT23.in_; clear oT23
  go_wp2_with fail
  refine (implConfl _ _ _ l0 l1 l2 _ oT21_23.reads oT22_23.reads oT23_i.reads ).mono ?_; rintro e w24 ⟨r24_0, rfl, oR24_0, b24⟩
  have s24 := b24.size
  have B24 := (B23).next (by omega) b24
  have ow0_24 := ow0_23.keep (KeepIn.of_below b24 (by omega))
  clear ow0_23
  have ox0_24 := ox0_23.keep (KeepIn.of_below b24 (by omega))
  clear ox0_23
  have ox1_24 := ox1_23.keep (KeepIn.of_below b24 (by omega))
  clear ox1_23
  have ox2_24 := ox2_23.keep (KeepIn.of_below b24 (by omega))
  clear ox2_23
  have og0_24 := og0_23.keep (KeepIn.of_below b24 (by omega))
  clear og0_23
  have oT21_24 := oT21_23.keep (KeepIn.of_below b24 (by omega))
  clear oT21_23
  have oT22_24 := oT22_23.keep (KeepIn.of_below b24 (by omega))
  clear oT22_23
  have oT23_24 := oT23_i.keep (KeepIn.of_below b24 (by omega))
  clear oT23_i
  have oR24_0_i := oR24_0.in_; clear oR24_0
  clear oT21_24
  clear oT22_24
  clear oT23_24
  go_wp2_with fail
  refine (eqIntS_any _ _ (rConfl l0 l1 l2).1 (rConfl l0 l1 l2).1 _ oR24_0_i.reads ow0_24.reads).mono ?_; rintro e w25 ⟨rfl, b25⟩
  have s25 := b25.size
  have B25 := (B24).next (by omega) b25
  have ow0_25 := ow0_24.keep (KeepIn.of_below b25 (by omega))
  clear ow0_24
  have ox0_25 := ox0_24.keep (KeepIn.of_below b25 (by omega))
  clear ox0_24
  have ox1_25 := ox1_24.keep (KeepIn.of_below b25 (by omega))
  clear ox1_24
  have ox2_25 := ox2_24.keep (KeepIn.of_below b25 (by omega))
  clear ox2_24
  have og0_25 := og0_24.keep (KeepIn.of_below b25 (by omega))
  clear og0_24
  have oh0_25 := oR24_0_i.keep (KeepIn.of_below b25 (by omega))
  clear oR24_0_i
  go_wp2_with fail
  refine (heldInts _ (rConfl l0 l1 l2).1 _ _ _ _ og0_25 (by omega) (by omega) (by omega)).mono ?_; rintro e _ ⟨rfl, rfl⟩
  go_wp2_with fail
  go_ret
  exact ⟨rfl, B25⟩
end Go.Proofs.Ytkefeigkaflakaa
