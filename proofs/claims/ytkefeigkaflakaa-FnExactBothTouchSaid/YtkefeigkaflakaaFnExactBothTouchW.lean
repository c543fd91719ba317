/- The walk of the law FnExactBothTouch: whatever the arguments, it returns true and writes nothing that was there. -/
import Derived.Test.YtkefeigkaflakaaEditTouch
import Derived.Test.YtkefeigkaflakaaOpen
import Derived.Test.YtkefeigkaflakaaMark
import Derived.Test.YtkefeigkaflakaaOpenR
import Derived.Deep.DeepCutAuto
import Derived.Deep.RegionWith
set_option linter.unusedSimpArgs false
set_option linter.unusedVariables false
namespace Go.Proofs.Ytkefeigkaflakaa
open Go.RowKit

set_option maxRecDepth 100000 in
set_option maxHeartbeats 400000 in
theorem FnExactBothTouch_walk (v0 : Value) (l0 : List Edt) (v1 : Value) (l1 : List Edt) (w : World) (h0 : RowAt edtRec w v0 l0) (f0 : WfRow edtRec l0) (h1 : RowAt edtRec w v1 l1) (f1 : WfRow edtRec l1) :
    Calls Try.prog 5 #[v0, v1] w (LawPost w) := by
  rcases Nat.lt_or_ge 1048576 (l0.length) with hbig | hl0
  · go_enter Try.func5, Try.ntmps5
    go_wp2_with fail
    refine (szEditS_no _ l0 _ _ h0 (by omega) (by omega) (by omega)).mono ?_; rintro e _ ⟨rfl, rfl⟩
    go_wp2_with fail
    go_ret
    exact ⟨rfl, (Below.refl _ _)⟩
  rcases Nat.lt_or_ge 1048576 (l0.length + l1.length) with hbig | hl1
  · go_enter Try.func5, Try.ntmps5
    go_wp2_with fail
    refine (szEditS_yes _ l0 _ _ h0 (by omega) (by omega) (by omega)).mono ?_; rintro e _ ⟨rfl, rfl⟩
    go_wp2_with fail
    refine (szEditS_no _ l1 _ _ h1 (by omega) (by omega) (by omega)).mono ?_; rintro e _ ⟨rfl, rfl⟩
    go_wp2_with fail
    go_ret
    exact ⟨rfl, (Below.refl _ _)⟩
  have hrl := rTouch_len l0 l1
  go_enter Try.func5, Try.ntmps5
  go_wp2_with fail
  refine (szEditS_yes _ l0 _ _ h0 (by omega) (by omega) (by omega)).mono ?_; rintro e _ ⟨rfl, rfl⟩
  go_wp2_with fail
  refine (szEditS_yes _ l1 _ _ h1 (by omega) (by omega) (by omega)).mono ?_; rintro e _ ⟨rfl, rfl⟩
  go_wp2_with fail
  refine (toEditS_any _ l0 _ (h0.below (Below.refl w.heap.size w) (Nat.le_refl _)) (by omega)).mono ?_; rintro e w1 ⟨t1, rfl, oT1, b1⟩
  have s1 := b1.size
  have B1 := ((Below.refl w.heap.size w)).next (by omega) b1
  have oT1_i := oT1.in_; clear oT1
  go_wp2_with fail
  refine (toEditS_any _ l1 _ (h1.below B1 (Nat.le_refl _)) (by omega)).mono ?_; rintro e w2 ⟨t2, rfl, oT2, b2⟩
  have s2 := b2.size
  have B2 := (B1).next (by omega) b2
  have oT1_2 := oT1_i.keep (KeepIn.of_below b2 (by omega))
  clear oT1_i
  have oT2_i := oT2.in_; clear oT2
  go_wp2_with fail
  refine (specTouch _ _ l0 l1 _ oT1_2.reads oT2_i.reads ).mono ?_; rintro e w3 ⟨r3_0, rfl, oR3_0, b3⟩
  have s3 := b3.size
  have B3 := (B2).next (by omega) b3
  have oT1_3 := oT1_2.keep (KeepIn.of_below b3 (by omega))
  clear oT1_2
  have oT2_3 := oT2_i.keep (KeepIn.of_below b3 (by omega))
  clear oT2_i
  have oR3_0_i := oR3_0.in_; clear oR3_0
  clear oT1_3
  clear oT2_3
  go_wp2_with fail
  refine (toEditS_any _ l0 _ (h0.below B3 (Nat.le_refl _)) (by omega)).mono ?_; rintro e w4 ⟨t4, rfl, oT4, b4⟩
  have s4 := b4.size
  have B4 := (B3).next (by omega) b4
  have ow0_4 := oR3_0_i.keep (KeepIn.of_below b4 (by omega))
  clear oR3_0_i
  have oT4_i := oT4.in_; clear oT4
  go_wp2_with fail
  refine (toEditS_any _ l1 _ (h1.below B4 (Nat.le_refl _)) (by omega)).mono ?_; rintro e w5 ⟨t5, rfl, oT5, b5⟩
  have s5 := b5.size
  have B5 := (B4).next (by omega) b5
  have ow0_5 := ow0_4.keep (KeepIn.of_below b5 (by omega))
  clear ow0_4
  have ox0_5 := oT4_i.keep (KeepIn.of_below b5 (by omega))
  clear oT4_i
  have oT5_i := oT5.in_; clear oT5
  go_wp2_with fail
  refine (implTouch _ _ l0 l1 _ ox0_5.reads oT5_i.reads ).mono ?_; rintro e w6 ⟨r6_0, rfl, oR6_0, b6⟩
  have s6 := b6.size
  have B6 := (B5).next (by omega) b6
  have ow0_6 := ow0_5.keep (KeepIn.of_below b6 (by omega))
  clear ow0_5
  have ox0_6 := ox0_5.keep (KeepIn.of_below b6 (by omega))
  clear ox0_5
  have ox1_6 := oT5_i.keep (KeepIn.of_below b6 (by omega))
  clear oT5_i
  have oR6_0_i := oR6_0.in_; clear oR6_0
  go_wp2_with fail
  refine (eqIntS_any _ _ (rTouch l0 l1).1 (rTouch l0 l1).1 _ oR6_0_i.reads ow0_6.reads).mono ?_; rintro e w7 ⟨rfl, b7⟩
  have s7 := b7.size
  have B7 := (B6).next (by omega) b7
  have ow0_7 := ow0_6.keep (KeepIn.of_below b7 (by omega))
  clear ow0_6
  have ox0_7 := ox0_6.keep (KeepIn.of_below b7 (by omega))
  clear ox0_6
  have ox1_7 := ox1_6.keep (KeepIn.of_below b7 (by omega))
  clear ox1_6
  have og0_7 := oR6_0_i.keep (KeepIn.of_below b7 (by omega))
  clear oR6_0_i
  go_wp2_with fail
  refine (toEditS_any _ l0 _ (h0.below B7 (Nat.le_refl _)) (by omega)).mono ?_; rintro e w8 ⟨t8, rfl, oT8, b8⟩
  have s8 := b8.size
  have B8 := (B7).next (by omega) b8
  have ow0_8 := ow0_7.keep (KeepIn.of_below b8 (by omega))
  clear ow0_7
  have ox0_8 := ox0_7.keep (KeepIn.of_below b8 (by omega))
  clear ox0_7
  have ox1_8 := ox1_7.keep (KeepIn.of_below b8 (by omega))
  clear ox1_7
  have og0_8 := og0_7.keep (KeepIn.of_below b8 (by omega))
  clear og0_7
  have oT8_i := oT8.in_; clear oT8
  go_wp2_with fail
  refine (eqEditS_any _ _ l0 l0 _ ox0_8.reads oT8_i.reads).mono ?_; rintro e w9 ⟨rfl, b9⟩
  have s9 := b9.size
  have B9 := (B8).next (by omega) b9
  have ow0_9 := ow0_8.keep (KeepIn.of_below b9 (by omega))
  clear ow0_8
  have ox0_9 := ox0_8.keep (KeepIn.of_below b9 (by omega))
  clear ox0_8
  have ox1_9 := ox1_8.keep (KeepIn.of_below b9 (by omega))
  clear ox1_8
  have og0_9 := og0_8.keep (KeepIn.of_below b9 (by omega))
  clear og0_8
  have oT8_9 := oT8_i.keep (KeepIn.of_below b9 (by omega))
  clear oT8_i
  clear oT8_9
  go_wp2_with fail
  refine (toEditS_any _ l1 _ (h1.below B9 (Nat.le_refl _)) (by omega)).mono ?_; rintro e w10 ⟨t10, rfl, oT10, b10⟩
  have s10 := b10.size
  have B10 := (B9).next (by omega) b10
  have ow0_10 := ow0_9.keep (KeepIn.of_below b10 (by omega))
  clear ow0_9
  have ox0_10 := ox0_9.keep (KeepIn.of_below b10 (by omega))
  clear ox0_9
  have ox1_10 := ox1_9.keep (KeepIn.of_below b10 (by omega))
  clear ox1_9
  have og0_10 := og0_9.keep (KeepIn.of_below b10 (by omega))
  clear og0_9
  have oT10_i := oT10.in_; clear oT10
  go_wp2_with fail
  refine (eqEditS_any _ _ l1 l1 _ ox1_10.reads oT10_i.reads).mono ?_; rintro e w11 ⟨rfl, b11⟩
  have s11 := b11.size
  have B11 := (B10).next (by omega) b11
  have ow0_11 := ow0_10.keep (KeepIn.of_below b11 (by omega))
  clear ow0_10
  have ox0_11 := ox0_10.keep (KeepIn.of_below b11 (by omega))
  clear ox0_10
  have ox1_11 := ox1_10.keep (KeepIn.of_below b11 (by omega))
  clear ox1_10
  have og0_11 := og0_10.keep (KeepIn.of_below b11 (by omega))
  clear og0_10
  have oT10_11 := oT10_i.keep (KeepIn.of_below b11 (by omega))
  clear oT10_i
  clear oT10_11
  go_wp2_with fail
  refine (markEditN _ l0 _ _ _ _ ox0_11 (by omega) (by omega) (by omega)).mono ?_; rintro e w12 ⟨rfl, oM12, g12, b12⟩
  clear ox0_11
  have s12 := b12.size
  have B12 := (B11).trans (b12.below (B := w.heap.size) (by omega) (by omega))
  have ow0_12 := ow0_11.keep (b12.keepIn (by omega) (by omega))
  clear ow0_11
  have ox1_12 := ox1_11.keep (b12.keepIn (by omega) (by omega))
  clear ox1_11
  have og0_12 := og0_11.keep (b12.keepIn (by omega) (by omega))
  clear og0_11
  go_wp2_with fail
  refine (markEditN _ l1 _ _ _ _ ox1_12 (by omega) (by omega) (by omega)).mono ?_; rintro e w13 ⟨rfl, oM13, g13, b13⟩
  clear ox1_12
  have s13 := b13.size
  have B13 := (B12).trans (b13.below (B := w.heap.size) (by omega) (by omega))
  have ow0_13 := ow0_12.keep (b13.keepIn (by omega) (by omega))
  clear ow0_12
  have ox0_13 := oM12.keep (b13.keepIn (by omega) (by omega))
  clear oM12
  have og0_13 := og0_12.keep (b13.keepIn (by omega) (by omega))
  clear og0_12
  go_wp2_with fail
  refine (eqIntS_any _ _ (rTouch l0 l1).1 (rTouch l0 l1).1 _ og0_13.reads ow0_13.reads).mono ?_; rintro e w14 ⟨rfl, b14⟩
  have s14 := b14.size
  have B14 := (B13).next (by omega) b14
  have ow0_14 := ow0_13.keep (KeepIn.of_below b14 (by omega))
  clear ow0_13
  have ox0_14 := ox0_13.keep (KeepIn.of_below b14 (by omega))
  clear ox0_13
  have ox1_14 := oM13.keep (KeepIn.of_below b14 (by omega))
  clear oM13
  have og0_14 := og0_13.keep (KeepIn.of_below b14 (by omega))
  clear og0_13
  go_wp2_with fail
  refine (markIntsG _ (rTouch l0 l1).1 _ _ _ _ og0_14 (by omega) (by omega) (by omega)).mono ?_; rintro e w15 ⟨rfl, oM15, g15, b15⟩
  clear og0_14
  have s15 := b15.size
  have B15 := (B14).trans (b15.below (B := w.heap.size) (by omega) (by omega))
  have ow0_15 := ow0_14.keep (b15.keepIn (by omega) (by omega))
  clear ow0_14
  have ox0_15 := ox0_14.keep (b15.keepIn (by omega) (by omega))
  clear ox0_14
  have ox1_15 := ox1_14.keep (b15.keepIn (by omega) (by omega))
  clear ox1_14
  go_wp2_with fail
  refine (heldInts _ (rTouch l0 l1).1 _ _ _ _ oM15 (by omega) (by omega) (by omega)).mono ?_; rintro e _ ⟨rfl, rfl⟩
  go_wp2_with fail
  refine (toEditS_any _ l0 _ (h0.below B15 (Nat.le_refl _)) (by omega)).mono ?_; rintro e w16 ⟨t16, rfl, oT16, b16⟩
  have s16 := b16.size
  have B16 := (B15).next (by omega) b16
  have ow0_16 := ow0_15.keep (KeepIn.of_below b16 (by omega))
  clear ow0_15
  have ox0_16 := ox0_15.keep (KeepIn.of_below b16 (by omega))
  clear ox0_15
  have ox1_16 := ox1_15.keep (KeepIn.of_below b16 (by omega))
  clear ox1_15
  have og0_16 := oM15.keep (KeepIn.of_below b16 (by omega))
  clear oM15
  have oT16_i := oT16.in_; clear oT16
  go_wp2_with fail
  refine (toEditS_any _ l1 _ (h1.below B16 (Nat.le_refl _)) (by omega)).mono ?_; rintro e w17 ⟨t17, rfl, oT17, b17⟩
  have s17 := b17.size
  have B17 := (B16).next (by omega) b17
  have ow0_17 := ow0_16.keep (KeepIn.of_below b17 (by omega))
  clear ow0_16
  have ox0_17 := ox0_16.keep (KeepIn.of_below b17 (by omega))
  clear ox0_16
  have ox1_17 := ox1_16.keep (KeepIn.of_below b17 (by omega))
  clear ox1_16
  have og0_17 := og0_16.keep (KeepIn.of_below b17 (by omega))
  clear og0_16
  have oT16_17 := oT16_i.keep (KeepIn.of_below b17 (by omega))
  clear oT16_i
  have oT17_i := oT17.in_; clear oT17
  go_wp2_with fail
  refine (implTouch _ _ l0 l1 _ oT16_17.reads oT17_i.reads ).mono ?_; rintro e w18 ⟨r18_0, rfl, oR18_0, b18⟩
  have s18 := b18.size
  have B18 := (B17).next (by omega) b18
  have ow0_18 := ow0_17.keep (KeepIn.of_below b18 (by omega))
  clear ow0_17
  have ox0_18 := ox0_17.keep (KeepIn.of_below b18 (by omega))
  clear ox0_17
  have ox1_18 := ox1_17.keep (KeepIn.of_below b18 (by omega))
  clear ox1_17
  have og0_18 := og0_17.keep (KeepIn.of_below b18 (by omega))
  clear og0_17
  have oT16_18 := oT16_17.keep (KeepIn.of_below b18 (by omega))
  clear oT16_17
  have oT17_18 := oT17_i.keep (KeepIn.of_below b18 (by omega))
  clear oT17_i
  have oR18_0_i := oR18_0.in_; clear oR18_0
  clear oT16_18
  clear oT17_18
  go_wp2_with fail
  refine (eqIntS_any _ _ (rTouch l0 l1).1 (rTouch l0 l1).1 _ oR18_0_i.reads ow0_18.reads).mono ?_; rintro e w19 ⟨rfl, b19⟩
  have s19 := b19.size
  have B19 := (B18).next (by omega) b19
  have ow0_19 := ow0_18.keep (KeepIn.of_below b19 (by omega))
  clear ow0_18
  have ox0_19 := ox0_18.keep (KeepIn.of_below b19 (by omega))
  clear ox0_18
  have ox1_19 := ox1_18.keep (KeepIn.of_below b19 (by omega))
  clear ox1_18
  have og0_19 := og0_18.keep (KeepIn.of_below b19 (by omega))
  clear og0_18
  have oh0_19 := oR18_0_i.keep (KeepIn.of_below b19 (by omega))
  clear oR18_0_i
  go_wp2_with fail
  refine (heldInts _ (rTouch l0 l1).1 _ _ _ _ og0_19 (by omega) (by omega) (by omega)).mono ?_; rintro e _ ⟨rfl, rfl⟩
  go_wp2_with fail
  go_ret
  exact ⟨rfl, B19⟩
end Go.Proofs.Ytkefeigkaflakaa
