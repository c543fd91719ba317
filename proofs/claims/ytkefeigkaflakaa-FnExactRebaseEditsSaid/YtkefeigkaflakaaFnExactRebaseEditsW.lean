/- The walk of the law FnExactRebaseEdits: whatever the arguments, it returns true and writes nothing that was there. -/
import Derived.Test.YtkefeigkaflakaaEditRebase
import Derived.Test.YtkefeigkaflakaaOpen
import Derived.Test.YtkefeigkaflakaaMark
import Derived.Test.YtkefeigkaflakaaOpenR
import Derived.Deep.DeepCutAuto
import Derived.Deep.RegionWith
set_option linter.unusedSimpArgs false
set_option linter.unusedVariables false
namespace Go.Proofs.Ytkefeigkaflakaa
open Go.RowKit

set_option maxRecDepth 100000 in
set_option maxHeartbeats 400000 in
theorem FnExactRebaseEdits_walk (v0 : Value) (l0 : List Spt) (v1 : Value) (l1 : List Edt) (v2 : Value) (l2 : List Edt) (w : World) (h0 : RowAt sptRec w v0 l0) (f0 : WfRow sptRec l0) (h1 : RowAt edtRec w v1 l1) (f1 : WfRow edtRec l1) (h2 : RowAt edtRec w v2 l2) (f2 : WfRow edtRec l2) :
    Calls Try.prog 11 #[v0, v1, v2] w (LawPost w) := by
  rcases Nat.lt_or_ge 1048576 (l0.length) with hbig | hl0
  · go_enter Try.func11, Try.ntmps11
    go_wp2_with fail
    refine (szSpotS_no _ l0 _ _ h0 (by omega) (by omega) (by omega)).mono ?_; rintro e _ ⟨rfl, rfl⟩
    go_wp2_with fail
    go_ret
    exact ⟨rfl, (Below.refl _ _)⟩
  rcases Nat.lt_or_ge 1048576 (l0.length + l1.length) with hbig | hl1
  · go_enter Try.func11, Try.ntmps11
    go_wp2_with fail
    refine (szSpotS_yes _ l0 _ _ h0 (by omega) (by omega) (by omega)).mono ?_; rintro e _ ⟨rfl, rfl⟩
    go_wp2_with fail
    refine (szEditS_no _ l1 _ _ h1 (by omega) (by omega) (by omega)).mono ?_; rintro e _ ⟨rfl, rfl⟩
    go_wp2_with fail
    go_ret
    exact ⟨rfl, (Below.refl _ _)⟩
  rcases Nat.lt_or_ge 1048576 (l0.length + l1.length + l2.length) with hbig | hl2
  · go_enter Try.func11, Try.ntmps11
    go_wp2_with fail
    refine (szSpotS_yes _ l0 _ _ h0 (by omega) (by omega) (by omega)).mono ?_; rintro e _ ⟨rfl, rfl⟩
    go_wp2_with fail
    refine (szEditS_yes _ l1 _ _ h1 (by omega) (by omega) (by omega)).mono ?_; rintro e _ ⟨rfl, rfl⟩
    go_wp2_with fail
    refine (szEditS_no _ l2 _ _ h2 (by omega) (by omega) (by omega)).mono ?_; rintro e _ ⟨rfl, rfl⟩
    go_wp2_with fail
    go_ret
    exact ⟨rfl, (Below.refl _ _)⟩
  obtain ⟨hrl, hrl2⟩ := rRebase_len l0 l1 l2
  go_enter Try.func11, Try.ntmps11
  go_wp2_with fail
  refine (szSpotS_yes _ l0 _ _ h0 (by omega) (by omega) (by omega)).mono ?_; rintro e _ ⟨rfl, rfl⟩
  go_wp2_with fail
  refine (szEditS_yes _ l1 _ _ h1 (by omega) (by omega) (by omega)).mono ?_; rintro e _ ⟨rfl, rfl⟩
  go_wp2_with fail
  refine (szEditS_yes _ l2 _ _ h2 (by omega) (by omega) (by omega)).mono ?_; rintro e _ ⟨rfl, rfl⟩
  go_wp2_with fail
  refine (toSpotS_any _ l0 _ (h0.below (Below.refl w.heap.size w) (Nat.le_refl _)) (by omega)).mono ?_; rintro e w1 ⟨t1, rfl, oT1, b1⟩
  have s1 := b1.size
  have B1 := ((Below.refl w.heap.size w)).next (by omega) b1
  have oT1_i := oT1.in_; clear oT1
  go_wp2_with fail
  refine (toEditS_any _ l1 _ (h1.below B1 (Nat.le_refl _)) (by omega)).mono ?_; rintro e w2 ⟨t2, rfl, oT2, b2⟩
  have s2 := b2.size
  have B2 := (B1).next (by omega) b2
  have oT1_2 := oT1_i.keep (KeepIn.of_below b2 (by omega))
  clear oT1_i
  have oT2_i := oT2.in_; clear oT2
  go_wp2_with fail
  refine (toEditS_any _ l2 _ (h2.below B2 (Nat.le_refl _)) (by omega)).mono ?_; rintro e w3 ⟨t3, rfl, oT3, b3⟩
  have s3 := b3.size
  have B3 := (B2).next (by omega) b3
  have oT1_3 := oT1_2.keep (KeepIn.of_below b3 (by omega))
  clear oT1_2
  have oT2_3 := oT2_i.keep (KeepIn.of_below b3 (by omega))
  clear oT2_i
  have oT3_i := oT3.in_; clear oT3
  go_wp2_with fail
  refine (specRebase _ _ _ l0 l1 l2 _ oT1_3.reads oT2_3.reads oT3_i.reads ).mono ?_; rintro e w4 ⟨r4_0, r4_1, rfl, oR4_0, oR4_1, ap4, b4⟩
  have s4 := b4.size
  have B4 := (B3).next (by omega) b4
  have oT1_4 := oT1_3.keep (KeepIn.of_below b4 (by omega))
  clear oT1_3
  have oT2_4 := oT2_3.keep (KeepIn.of_below b4 (by omega))
  clear oT2_3
  have oT3_4 := oT3_i.keep (KeepIn.of_below b4 (by omega))
  clear oT3_i
  have oR4_0_i := oR4_0.in_; clear oR4_0
  have oR4_1_i := oR4_1.in_; clear oR4_1
  clear oT1_4
  clear oT2_4
  clear oT3_4
  go_wp2_with fail
  refine (toSpotS_any _ l0 _ (h0.below B4 (Nat.le_refl _)) (by omega)).mono ?_; rintro e w5 ⟨t5, rfl, oT5, b5⟩
  have s5 := b5.size
  have B5 := (B4).next (by omega) b5
  have ow0_5 := oR4_0_i.keep (KeepIn.of_below b5 (by omega))
  clear oR4_0_i
  have ow1_5 := oR4_1_i.keep (KeepIn.of_below b5 (by omega))
  clear oR4_1_i
  have oT5_i := oT5.in_; clear oT5
  go_wp2_with fail
  refine (toEditS_any _ l1 _ (h1.below B5 (Nat.le_refl _)) (by omega)).mono ?_; rintro e w6 ⟨t6, rfl, oT6, b6⟩
  have s6 := b6.size
  have B6 := (B5).next (by omega) b6
  have ow0_6 := ow0_5.keep (KeepIn.of_below b6 (by omega))
  clear ow0_5
  have ow1_6 := ow1_5.keep (KeepIn.of_below b6 (by omega))
  clear ow1_5
  have ox0_6 := oT5_i.keep (KeepIn.of_below b6 (by omega))
  clear oT5_i
  have oT6_i := oT6.in_; clear oT6
  go_wp2_with fail
  refine (toEditS_any _ l2 _ (h2.below B6 (Nat.le_refl _)) (by omega)).mono ?_; rintro e w7 ⟨t7, rfl, oT7, b7⟩
  have s7 := b7.size
  have B7 := (B6).next (by omega) b7
  have ow0_7 := ow0_6.keep (KeepIn.of_below b7 (by omega))
  clear ow0_6
  have ow1_7 := ow1_6.keep (KeepIn.of_below b7 (by omega))
  clear ow1_6
  have ox0_7 := ox0_6.keep (KeepIn.of_below b7 (by omega))
  clear ox0_6
  have ox1_7 := oT6_i.keep (KeepIn.of_below b7 (by omega))
  clear oT6_i
  have oT7_i := oT7.in_; clear oT7
  go_wp2_with fail
  refine (implRebase _ _ _ l0 l1 l2 _ ox0_7.reads ox1_7.reads oT7_i.reads ).mono ?_; rintro e w8 ⟨r8_0, r8_1, rfl, oR8_0, oR8_1, ap8, b8⟩
  have s8 := b8.size
  have B8 := (B7).next (by omega) b8
  have ow0_8 := ow0_7.keep (KeepIn.of_below b8 (by omega))
  clear ow0_7
  have ow1_8 := ow1_7.keep (KeepIn.of_below b8 (by omega))
  clear ow1_7
  have ox0_8 := ox0_7.keep (KeepIn.of_below b8 (by omega))
  clear ox0_7
  have ox1_8 := ox1_7.keep (KeepIn.of_below b8 (by omega))
  clear ox1_7
  have ox2_8 := oT7_i.keep (KeepIn.of_below b8 (by omega))
  clear oT7_i
  have oR8_0_i := oR8_0.in_; clear oR8_0
  have oR8_1_i := oR8_1.in_; clear oR8_1
  go_wp2_with fail
  refine (eqEditS_any _ _ (rRebase l0 l1 l2).1 (rRebase l0 l1 l2).1 _ oR8_0_i.reads ow0_8.reads).mono ?_; rintro e w9 ⟨rfl, b9⟩
  have s9 := b9.size
  have B9 := (B8).next (by omega) b9
  have ow0_9 := ow0_8.keep (KeepIn.of_below b9 (by omega))
  clear ow0_8
  have ow1_9 := ow1_8.keep (KeepIn.of_below b9 (by omega))
  clear ow1_8
  have ox0_9 := ox0_8.keep (KeepIn.of_below b9 (by omega))
  clear ox0_8
  have ox1_9 := ox1_8.keep (KeepIn.of_below b9 (by omega))
  clear ox1_8
  have ox2_9 := ox2_8.keep (KeepIn.of_below b9 (by omega))
  clear ox2_8
  have og0_9 := oR8_0_i.keep (KeepIn.of_below b9 (by omega))
  clear oR8_0_i
  have og1_9 := oR8_1_i.keep (KeepIn.of_below b9 (by omega))
  clear oR8_1_i
  go_wp2_with fail
  refine (eqIntS_any _ _ (rRebase l0 l1 l2).2.1 (rRebase l0 l1 l2).2.1 _ og1_9.reads ow1_9.reads).mono ?_; rintro e w10 ⟨rfl, b10⟩
  have s10 := b10.size
  have B10 := (B9).next (by omega) b10
  have ow0_10 := ow0_9.keep (KeepIn.of_below b10 (by omega))
  clear ow0_9
  have ow1_10 := ow1_9.keep (KeepIn.of_below b10 (by omega))
  clear ow1_9
  have ox0_10 := ox0_9.keep (KeepIn.of_below b10 (by omega))
  clear ox0_9
  have ox1_10 := ox1_9.keep (KeepIn.of_below b10 (by omega))
  clear ox1_9
  have ox2_10 := ox2_9.keep (KeepIn.of_below b10 (by omega))
  clear ox2_9
  have og0_10 := og0_9.keep (KeepIn.of_below b10 (by omega))
  clear og0_9
  have og1_10 := og1_9.keep (KeepIn.of_below b10 (by omega))
  clear og1_9
  go_wp2_with fail
  refine (toSpotS_any _ l0 _ (h0.below B10 (Nat.le_refl _)) (by omega)).mono ?_; rintro e w11 ⟨t11, rfl, oT11, b11⟩
  have s11 := b11.size
  have B11 := (B10).next (by omega) b11
  have ow0_11 := ow0_10.keep (KeepIn.of_below b11 (by omega))
  clear ow0_10
  have ow1_11 := ow1_10.keep (KeepIn.of_below b11 (by omega))
  clear ow1_10
  have ox0_11 := ox0_10.keep (KeepIn.of_below b11 (by omega))
  clear ox0_10
  have ox1_11 := ox1_10.keep (KeepIn.of_below b11 (by omega))
  clear ox1_10
  have ox2_11 := ox2_10.keep (KeepIn.of_below b11 (by omega))
  clear ox2_10
  have og0_11 := og0_10.keep (KeepIn.of_below b11 (by omega))
  clear og0_10
  have og1_11 := og1_10.keep (KeepIn.of_below b11 (by omega))
  clear og1_10
  have oT11_i := oT11.in_; clear oT11
  go_wp2_with fail
  refine (eqSpotS_any _ _ l0 l0 _ ox0_11.reads oT11_i.reads).mono ?_; rintro e w12 ⟨rfl, b12⟩
  have s12 := b12.size
  have B12 := (B11).next (by omega) b12
  have ow0_12 := ow0_11.keep (KeepIn.of_below b12 (by omega))
  clear ow0_11
  have ow1_12 := ow1_11.keep (KeepIn.of_below b12 (by omega))
  clear ow1_11
  have ox0_12 := ox0_11.keep (KeepIn.of_below b12 (by omega))
  clear ox0_11
  have ox1_12 := ox1_11.keep (KeepIn.of_below b12 (by omega))
  clear ox1_11
  have ox2_12 := ox2_11.keep (KeepIn.of_below b12 (by omega))
  clear ox2_11
  have og0_12 := og0_11.keep (KeepIn.of_below b12 (by omega))
  clear og0_11
  have og1_12 := og1_11.keep (KeepIn.of_below b12 (by omega))
  clear og1_11
  have oT11_12 := oT11_i.keep (KeepIn.of_below b12 (by omega))
  clear oT11_i
  clear oT11_12
  go_wp2_with fail
  refine (toEditS_any _ l1 _ (h1.below B12 (Nat.le_refl _)) (by omega)).mono ?_; rintro e w13 ⟨t13, rfl, oT13, b13⟩
  have s13 := b13.size
  have B13 := (B12).next (by omega) b13
  have ow0_13 := ow0_12.keep (KeepIn.of_below b13 (by omega))
  clear ow0_12
  have ow1_13 := ow1_12.keep (KeepIn.of_below b13 (by omega))
  clear ow1_12
  have ox0_13 := ox0_12.keep (KeepIn.of_below b13 (by omega))
  clear ox0_12
  have ox1_13 := ox1_12.keep (KeepIn.of_below b13 (by omega))
  clear ox1_12
  have ox2_13 := ox2_12.keep (KeepIn.of_below b13 (by omega))
  clear ox2_12
  have og0_13 := og0_12.keep (KeepIn.of_below b13 (by omega))
  clear og0_12
  have og1_13 := og1_12.keep (KeepIn.of_below b13 (by omega))
  clear og1_12
  have oT13_i := oT13.in_; clear oT13
  go_wp2_with fail
  refine (eqEditS_any _ _ l1 l1 _ ox1_13.reads oT13_i.reads).mono ?_; rintro e w14 ⟨rfl, b14⟩
  have s14 := b14.size
  have B14 := (B13).next (by omega) b14
  have ow0_14 := ow0_13.keep (KeepIn.of_below b14 (by omega))
  clear ow0_13
  have ow1_14 := ow1_13.keep (KeepIn.of_below b14 (by omega))
  clear ow1_13
  have ox0_14 := ox0_13.keep (KeepIn.of_below b14 (by omega))
  clear ox0_13
  have ox1_14 := ox1_13.keep (KeepIn.of_below b14 (by omega))
  clear ox1_13
  have ox2_14 := ox2_13.keep (KeepIn.of_below b14 (by omega))
  clear ox2_13
  have og0_14 := og0_13.keep (KeepIn.of_below b14 (by omega))
  clear og0_13
  have og1_14 := og1_13.keep (KeepIn.of_below b14 (by omega))
  clear og1_13
  have oT13_14 := oT13_i.keep (KeepIn.of_below b14 (by omega))
  clear oT13_i
  clear oT13_14
  go_wp2_with fail
  refine (toEditS_any _ l2 _ (h2.below B14 (Nat.le_refl _)) (by omega)).mono ?_; rintro e w15 ⟨t15, rfl, oT15, b15⟩
  have s15 := b15.size
  have B15 := (B14).next (by omega) b15
  have ow0_15 := ow0_14.keep (KeepIn.of_below b15 (by omega))
  clear ow0_14
  have ow1_15 := ow1_14.keep (KeepIn.of_below b15 (by omega))
  clear ow1_14
  have ox0_15 := ox0_14.keep (KeepIn.of_below b15 (by omega))
  clear ox0_14
  have ox1_15 := ox1_14.keep (KeepIn.of_below b15 (by omega))
  clear ox1_14
  have ox2_15 := ox2_14.keep (KeepIn.of_below b15 (by omega))
  clear ox2_14
  have og0_15 := og0_14.keep (KeepIn.of_below b15 (by omega))
  clear og0_14
  have og1_15 := og1_14.keep (KeepIn.of_below b15 (by omega))
  clear og1_14
  have oT15_i := oT15.in_; clear oT15
  go_wp2_with fail
  refine (eqEditS_any _ _ l2 l2 _ ox2_15.reads oT15_i.reads).mono ?_; rintro e w16 ⟨rfl, b16⟩
  have s16 := b16.size
  have B16 := (B15).next (by omega) b16
  have ow0_16 := ow0_15.keep (KeepIn.of_below b16 (by omega))
  clear ow0_15
  have ow1_16 := ow1_15.keep (KeepIn.of_below b16 (by omega))
  clear ow1_15
  have ox0_16 := ox0_15.keep (KeepIn.of_below b16 (by omega))
  clear ox0_15
  have ox1_16 := ox1_15.keep (KeepIn.of_below b16 (by omega))
  clear ox1_15
  have ox2_16 := ox2_15.keep (KeepIn.of_below b16 (by omega))
  clear ox2_15
  have og0_16 := og0_15.keep (KeepIn.of_below b16 (by omega))
  clear og0_15
  have og1_16 := og1_15.keep (KeepIn.of_below b16 (by omega))
  clear og1_15
  have oT15_16 := oT15_i.keep (KeepIn.of_below b16 (by omega))
  clear oT15_i
  clear oT15_16
  go_wp2_with fail
  refine (markSpotN _ l0 _ _ _ _ ox0_16 (by omega) (by omega) (by omega)).mono ?_; rintro e w17 ⟨rfl, oM17, g17, b17⟩
  clear ox0_16
  have s17 := b17.size
  have B17 := (B16).trans (b17.below (B := w.heap.size) (by omega) (by omega))
  have ow0_17 := ow0_16.keep (b17.keepIn (by omega) (by omega))
  clear ow0_16
  have ow1_17 := ow1_16.keep (b17.keepIn (by omega) (by omega))
  clear ow1_16
  have ox1_17 := ox1_16.keep (b17.keepIn (by omega) (by omega))
  clear ox1_16
  have ox2_17 := ox2_16.keep (b17.keepIn (by omega) (by omega))
  clear ox2_16
  have og0_17 := og0_16.keep (b17.keepIn (by omega) (by omega))
  clear og0_16
  have og1_17 := og1_16.keep (b17.keepIn (by omega) (by omega))
  clear og1_16
  go_wp2_with fail
  refine (markEditN _ l1 _ _ _ _ ox1_17 (by omega) (by omega) (by omega)).mono ?_; rintro e w18 ⟨rfl, oM18, g18, b18⟩
  clear ox1_17
  have s18 := b18.size
  have B18 := (B17).trans (b18.below (B := w.heap.size) (by omega) (by omega))
  have ow0_18 := ow0_17.keep (b18.keepIn (by omega) (by omega))
  clear ow0_17
  have ow1_18 := ow1_17.keep (b18.keepIn (by omega) (by omega))
  clear ow1_17
  have ox0_18 := oM17.keep (b18.keepIn (by omega) (by omega))
  clear oM17
  have ox2_18 := ox2_17.keep (b18.keepIn (by omega) (by omega))
  clear ox2_17
  have og0_18 := og0_17.keep (b18.keepIn (by omega) (by omega))
  clear og0_17
  have og1_18 := og1_17.keep (b18.keepIn (by omega) (by omega))
  clear og1_17
  go_wp2_with fail
  refine (markEditN _ l2 _ _ _ _ ox2_18 (by omega) (by omega) (by omega)).mono ?_; rintro e w19 ⟨rfl, oM19, g19, b19⟩
  clear ox2_18
  have s19 := b19.size
  have B19 := (B18).trans (b19.below (B := w.heap.size) (by omega) (by omega))
  have ow0_19 := ow0_18.keep (b19.keepIn (by omega) (by omega))
  clear ow0_18
  have ow1_19 := ow1_18.keep (b19.keepIn (by omega) (by omega))
  clear ow1_18
  have ox0_19 := ox0_18.keep (b19.keepIn (by omega) (by omega))
  clear ox0_18
  have ox1_19 := oM18.keep (b19.keepIn (by omega) (by omega))
  clear oM18
  have og0_19 := og0_18.keep (b19.keepIn (by omega) (by omega))
  clear og0_18
  have og1_19 := og1_18.keep (b19.keepIn (by omega) (by omega))
  clear og1_18
  go_wp2_with fail
  refine (eqEditS_any _ _ (rRebase l0 l1 l2).1 (rRebase l0 l1 l2).1 _ og0_19.reads ow0_19.reads).mono ?_; rintro e w20 ⟨rfl, b20⟩
  have s20 := b20.size
  have B20 := (B19).next (by omega) b20
  have ow0_20 := ow0_19.keep (KeepIn.of_below b20 (by omega))
  clear ow0_19
  have ow1_20 := ow1_19.keep (KeepIn.of_below b20 (by omega))
  clear ow1_19
  have ox0_20 := ox0_19.keep (KeepIn.of_below b20 (by omega))
  clear ox0_19
  have ox1_20 := ox1_19.keep (KeepIn.of_below b20 (by omega))
  clear ox1_19
  have ox2_20 := oM19.keep (KeepIn.of_below b20 (by omega))
  clear oM19
  have og0_20 := og0_19.keep (KeepIn.of_below b20 (by omega))
  clear og0_19
  have og1_20 := og1_19.keep (KeepIn.of_below b20 (by omega))
  clear og1_19
  go_wp2_with fail
  refine (eqIntS_any _ _ (rRebase l0 l1 l2).2.1 (rRebase l0 l1 l2).2.1 _ og1_20.reads ow1_20.reads).mono ?_; rintro e w21 ⟨rfl, b21⟩
  have s21 := b21.size
  have B21 := (B20).next (by omega) b21
  have ow0_21 := ow0_20.keep (KeepIn.of_below b21 (by omega))
  clear ow0_20
  have ow1_21 := ow1_20.keep (KeepIn.of_below b21 (by omega))
  clear ow1_20
  have ox0_21 := ox0_20.keep (KeepIn.of_below b21 (by omega))
  clear ox0_20
  have ox1_21 := ox1_20.keep (KeepIn.of_below b21 (by omega))
  clear ox1_20
  have ox2_21 := ox2_20.keep (KeepIn.of_below b21 (by omega))
  clear ox2_20
  have og0_21 := og0_20.keep (KeepIn.of_below b21 (by omega))
  clear og0_20
  have og1_21 := og1_20.keep (KeepIn.of_below b21 (by omega))
  clear og1_20
  go_wp2_with fail
  refine (markEditN _ (rRebase l0 l1 l2).1 _ _ _ _ og0_21 (by omega) (by omega) (by omega)).mono ?_; rintro e w22 ⟨rfl, oM22, g22, b22⟩
  clear og0_21
  have s22 := b22.size
  have B22 := (B21).trans (b22.below (B := w.heap.size) (by omega) (by omega))
  have ow0_22 := ow0_21.keep (b22.keepIn (by omega) (by omega))
  clear ow0_21
  have ow1_22 := ow1_21.keep (b22.keepIn (by omega) (by omega))
  clear ow1_21
  have ox0_22 := ox0_21.keep (b22.keepIn (by omega) (by omega))
  clear ox0_21
  have ox1_22 := ox1_21.keep (b22.keepIn (by omega) (by omega))
  clear ox1_21
  have ox2_22 := ox2_21.keep (b22.keepIn (by omega) (by omega))
  clear ox2_21
  have og1_22 := og1_21.apt ap8 g22
  clear og1_21
  go_wp2_with fail
  refine (markIntsG _ (rRebase l0 l1 l2).2.1 _ _ _ _ og1_22 (by omega) (by omega) (by omega)).mono ?_; rintro e w23 ⟨rfl, oM23, g23, b23⟩
  clear og1_22
  have s23 := b23.size
  have B23 := (B22).trans (b23.below (B := w.heap.size) (by omega) (by omega))
  have ow0_23 := ow0_22.keep (b23.keepIn (by omega) (by omega))
  clear ow0_22
  have ow1_23 := ow1_22.keep (b23.keepIn (by omega) (by omega))
  clear ow1_22
  have ox0_23 := ox0_22.keep (b23.keepIn (by omega) (by omega))
  clear ox0_22
  have ox1_23 := ox1_22.keep (b23.keepIn (by omega) (by omega))
  clear ox1_22
  have ox2_23 := ox2_22.keep (b23.keepIn (by omega) (by omega))
  clear ox2_22
  have og0_23 := oM22.apt ap8.symm g23
  clear oM22
  go_wp2_with fail
  refine (heldEditN _ (rRebase l0 l1 l2).1 _ _ _ _ og0_23 (by omega) (by omega) (by omega)).mono ?_; rintro e _ ⟨rfl, rfl⟩
  go_wp2_with fail
  refine (heldInts _ (rRebase l0 l1 l2).2.1 _ _ _ _ oM23 (by omega) (by omega) (by omega)).mono ?_; rintro e _ ⟨rfl, rfl⟩
  go_wp2_with fail
  refine (toSpotS_any _ l0 _ (h0.below B23 (Nat.le_refl _)) (by omega)).mono ?_; rintro e w24 ⟨t24, rfl, oT24, b24⟩
  have s24 := b24.size
  have B24 := (B23).next (by omega) b24
  have ow0_24 := ow0_23.keep (KeepIn.of_below b24 (by omega))
  clear ow0_23
  have ow1_24 := ow1_23.keep (KeepIn.of_below b24 (by omega))
  clear ow1_23
  have ox0_24 := ox0_23.keep (KeepIn.of_below b24 (by omega))
  clear ox0_23
  have ox1_24 := ox1_23.keep (KeepIn.of_below b24 (by omega))
  clear ox1_23
  have ox2_24 := ox2_23.keep (KeepIn.of_below b24 (by omega))
  clear ox2_23
  have og0_24 := og0_23.keep (KeepIn.of_below b24 (by omega))
  clear og0_23
  have og1_24 := oM23.keep (KeepIn.of_below b24 (by omega))
  clear oM23
  have oT24_i := oT24.in_; clear oT24
  go_wp2_with fail
  refine (toEditS_any _ l1 _ (h1.below B24 (Nat.le_refl _)) (by omega)).mono ?_; rintro e w25 ⟨t25, rfl, oT25, b25⟩
  have s25 := b25.size
  have B25 := (B24).next (by omega) b25
  have ow0_25 := ow0_24.keep (KeepIn.of_below b25 (by omega))
  clear ow0_24
  have ow1_25 := ow1_24.keep (KeepIn.of_below b25 (by omega))
  clear ow1_24
  have ox0_25 := ox0_24.keep (KeepIn.of_below b25 (by omega))
  clear ox0_24
  have ox1_25 := ox1_24.keep (KeepIn.of_below b25 (by omega))
  clear ox1_24
  have ox2_25 := ox2_24.keep (KeepIn.of_below b25 (by omega))
  clear ox2_24
  have og0_25 := og0_24.keep (KeepIn.of_below b25 (by omega))
  clear og0_24
  have og1_25 := og1_24.keep (KeepIn.of_below b25 (by omega))
  clear og1_24
  have oT24_25 := oT24_i.keep (KeepIn.of_below b25 (by omega))
  clear oT24_i
  have oT25_i := oT25.in_; clear oT25
  go_wp2_with fail
  refine (toEditS_any _ l2 _ (h2.below B25 (Nat.le_refl _)) (by omega)).mono ?_; rintro e w26 ⟨t26, rfl, oT26, b26⟩
  have s26 := b26.size
  have B26 := (B25).next (by omega) b26
  have ow0_26 := ow0_25.keep (KeepIn.of_below b26 (by omega))
  clear ow0_25
  have ow1_26 := ow1_25.keep (KeepIn.of_below b26 (by omega))
  clear ow1_25
  have ox0_26 := ox0_25.keep (KeepIn.of_below b26 (by omega))
  clear ox0_25
  have ox1_26 := ox1_25.keep (KeepIn.of_below b26 (by omega))
  clear ox1_25
  have ox2_26 := ox2_25.keep (KeepIn.of_below b26 (by omega))
  clear ox2_25
  have og0_26 := og0_25.keep (KeepIn.of_below b26 (by omega))
  clear og0_25
  have og1_26 := og1_25.keep (KeepIn.of_below b26 (by omega))
  clear og1_25
  have oT24_26 := oT24_25.keep (KeepIn.of_below b26 (by omega))
  clear oT24_25
  have oT25_26 := oT25_i.keep (KeepIn.of_below b26 (by omega))
  clear oT25_i
  have oT26_i := oT26.in_; clear oT26
  go_wp2_with fail
  refine (implRebase _ _ _ l0 l1 l2 _ oT24_26.reads oT25_26.reads oT26_i.reads ).mono ?_; rintro e w27 ⟨r27_0, r27_1, rfl, oR27_0, oR27_1, ap27, b27⟩
  have s27 := b27.size
  have B27 := (B26).next (by omega) b27
  have ow0_27 := ow0_26.keep (KeepIn.of_below b27 (by omega))
  clear ow0_26
  have ow1_27 := ow1_26.keep (KeepIn.of_below b27 (by omega))
  clear ow1_26
  have ox0_27 := ox0_26.keep (KeepIn.of_below b27 (by omega))
  clear ox0_26
  have ox1_27 := ox1_26.keep (KeepIn.of_below b27 (by omega))
  clear ox1_26
  have ox2_27 := ox2_26.keep (KeepIn.of_below b27 (by omega))
  clear ox2_26
  have og0_27 := og0_26.keep (KeepIn.of_below b27 (by omega))
  clear og0_26
  have og1_27 := og1_26.keep (KeepIn.of_below b27 (by omega))
  clear og1_26
  have oT24_27 := oT24_26.keep (KeepIn.of_below b27 (by omega))
  clear oT24_26
  have oT25_27 := oT25_26.keep (KeepIn.of_below b27 (by omega))
  clear oT25_26
  have oT26_27 := oT26_i.keep (KeepIn.of_below b27 (by omega))
  clear oT26_i
  have oR27_0_i := oR27_0.in_; clear oR27_0
  have oR27_1_i := oR27_1.in_; clear oR27_1
  clear oT24_27
  clear oT25_27
  clear oT26_27
  go_wp2_with fail
  refine (eqEditS_any _ _ (rRebase l0 l1 l2).1 (rRebase l0 l1 l2).1 _ oR27_0_i.reads ow0_27.reads).mono ?_; rintro e w28 ⟨rfl, b28⟩
  have s28 := b28.size
  have B28 := (B27).next (by omega) b28
  have ow0_28 := ow0_27.keep (KeepIn.of_below b28 (by omega))
  clear ow0_27
  have ow1_28 := ow1_27.keep (KeepIn.of_below b28 (by omega))
  clear ow1_27
  have ox0_28 := ox0_27.keep (KeepIn.of_below b28 (by omega))
  clear ox0_27
  have ox1_28 := ox1_27.keep (KeepIn.of_below b28 (by omega))
  clear ox1_27
  have ox2_28 := ox2_27.keep (KeepIn.of_below b28 (by omega))
  clear ox2_27
  have og0_28 := og0_27.keep (KeepIn.of_below b28 (by omega))
  clear og0_27
  have og1_28 := og1_27.keep (KeepIn.of_below b28 (by omega))
  clear og1_27
  have oh0_28 := oR27_0_i.keep (KeepIn.of_below b28 (by omega))
  clear oR27_0_i
  have oh1_28 := oR27_1_i.keep (KeepIn.of_below b28 (by omega))
  clear oR27_1_i
  go_wp2_with fail
  refine (eqIntS_any _ _ (rRebase l0 l1 l2).2.1 (rRebase l0 l1 l2).2.1 _ oh1_28.reads ow1_28.reads).mono ?_; rintro e w29 ⟨rfl, b29⟩
  have s29 := b29.size
  have B29 := (B28).next (by omega) b29
  have ow0_29 := ow0_28.keep (KeepIn.of_below b29 (by omega))
  clear ow0_28
  have ow1_29 := ow1_28.keep (KeepIn.of_below b29 (by omega))
  clear ow1_28
  have ox0_29 := ox0_28.keep (KeepIn.of_below b29 (by omega))
  clear ox0_28
  have ox1_29 := ox1_28.keep (KeepIn.of_below b29 (by omega))
  clear ox1_28
  have ox2_29 := ox2_28.keep (KeepIn.of_below b29 (by omega))
  clear ox2_28
  have og0_29 := og0_28.keep (KeepIn.of_below b29 (by omega))
  clear og0_28
  have og1_29 := og1_28.keep (KeepIn.of_below b29 (by omega))
  clear og1_28
  have oh0_29 := oh0_28.keep (KeepIn.of_below b29 (by omega))
  clear oh0_28
  have oh1_29 := oh1_28.keep (KeepIn.of_below b29 (by omega))
  clear oh1_28
  go_wp2_with fail
  refine (heldEditN _ (rRebase l0 l1 l2).1 _ _ _ _ og0_29 (by omega) (by omega) (by omega)).mono ?_; rintro e _ ⟨rfl, rfl⟩
  go_wp2_with fail
  refine (heldInts _ (rRebase l0 l1 l2).2.1 _ _ _ _ og1_29 (by omega) (by omega) (by omega)).mono ?_; rintro e _ ⟨rfl, rfl⟩
  go_wp2_with fail
  go_ret
  exact ⟨rfl, B29⟩
end Go.Proofs.Ytkefeigkaflakaa
