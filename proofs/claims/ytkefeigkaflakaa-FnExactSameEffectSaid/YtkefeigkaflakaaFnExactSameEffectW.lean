/- The walk of the law FnExactSameEffect: whatever the arguments, it returns true and writes nothing that was there. -/
import Derived.Test.YtkefeigkaflakaaEditSame
import Derived.Test.YtkefeigkaflakaaOpen
import Derived.Test.YtkefeigkaflakaaMark
import Derived.Test.YtkefeigkaflakaaOpenR
import Derived.Deep.DeepCutAuto
import Derived.Deep.RegionWith
set_option linter.unusedSimpArgs false
set_option linter.unusedVariables false
namespace Go.Proofs.Ytkefeigkaflakaa
open Go.RowKit

set_option maxRecDepth 100000 in
set_option maxHeartbeats 400000 in
theorem FnExactSameEffect_walk (v0 : Value) (l0 : List Spt) (v1 : Value) (l1 : List Edt) (v2 : Value) (l2 : List Edt) (w : World) (h0 : RowAt sptRec w v0 l0) (f0 : WfRow sptRec l0) (h1 : RowAt edtRec w v1 l1) (f1 : WfRow edtRec l1) (h2 : RowAt edtRec w v2 l2) (f2 : WfRow edtRec l2) :
    Calls Try.prog 6 #[v0, v1, v2] w (LawPost w) := by
  rcases Nat.lt_or_ge 1048576 (l0.length) with hbig | hl0
  · go_enter Try.func6, Try.ntmps6
    go_wp2_with fail
    refine (szSpotS_no _ l0 _ _ h0 (by omega) (by omega) (by omega)).mono ?_; rintro e _ ⟨rfl, rfl⟩
    go_wp2_with fail
    go_ret
    exact ⟨rfl, (Below.refl _ _)⟩
  rcases Nat.lt_or_ge 1048576 (l0.length + l1.length) with hbig | hl1
  · go_enter Try.func6, Try.ntmps6
    go_wp2_with fail
    refine (szSpotS_yes _ l0 _ _ h0 (by omega) (by omega) (by omega)).mono ?_; rintro e _ ⟨rfl, rfl⟩
    go_wp2_with fail
    refine (szEditS_no _ l1 _ _ h1 (by omega) (by omega) (by omega)).mono ?_; rintro e _ ⟨rfl, rfl⟩
    go_wp2_with fail
    go_ret
    exact ⟨rfl, (Below.refl _ _)⟩
  rcases Nat.lt_or_ge 1048576 (l0.length + l1.length + l2.length) with hbig | hl2
  · go_enter Try.func6, Try.ntmps6
    go_wp2_with fail
    refine (szSpotS_yes _ l0 _ _ h0 (by omega) (by omega) (by omega)).mono ?_; rintro e _ ⟨rfl, rfl⟩
    go_wp2_with fail
    refine (szEditS_yes _ l1 _ _ h1 (by omega) (by omega) (by omega)).mono ?_; rintro e _ ⟨rfl, rfl⟩
    go_wp2_with fail
    refine (szEditS_no _ l2 _ _ h2 (by omega) (by omega) (by omega)).mono ?_; rintro e _ ⟨rfl, rfl⟩
    go_wp2_with fail
    go_ret
    exact ⟨rfl, (Below.refl _ _)⟩
  go_enter Try.func6, Try.ntmps6
  go_wp2_with fail
  refine (szSpotS_yes _ l0 _ _ h0 (by omega) (by omega) (by omega)).mono ?_; rintro e _ ⟨rfl, rfl⟩
  go_wp2_with fail
  refine (szEditS_yes _ l1 _ _ h1 (by omega) (by omega) (by omega)).mono ?_; rintro e _ ⟨rfl, rfl⟩
  go_wp2_with fail
  refine (szEditS_yes _ l2 _ _ h2 (by omega) (by omega) (by omega)).mono ?_; rintro e _ ⟨rfl, rfl⟩
  go_wp2_with fail
  refine (toSpotS_any _ l0 _ (h0.below (Below.refl w.heap.size w) (Nat.le_refl _)) (by omega)).mono ?_; rintro e w1 ⟨t1, rfl, oT1, b1⟩
  have s1 := b1.size
  have B1 := ((Below.refl w.heap.size w)).next (by omega) b1
  have oT1_i := oT1.in_; clear oT1
  go_wp2_with fail
  refine (toEditS_any _ l1 _ (h1.below B1 (Nat.le_refl _)) (by omega)).mono ?_; rintro e w2 ⟨t2, rfl, oT2, b2⟩
  have s2 := b2.size
  have B2 := (B1).next (by omega) b2
  have oT1_2 := oT1_i.keep (KeepIn.of_below b2 (by omega))
  clear oT1_i
  have oT2_i := oT2.in_; clear oT2
  go_wp2_with fail
  refine (toEditS_any _ l2 _ (h2.below B2 (Nat.le_refl _)) (by omega)).mono ?_; rintro e w3 ⟨t3, rfl, oT3, b3⟩
  have s3 := b3.size
  have B3 := (B2).next (by omega) b3
  have oT1_3 := oT1_2.keep (KeepIn.of_below b3 (by omega))
  clear oT1_2
  have oT2_3 := oT2_i.keep (KeepIn.of_below b3 (by omega))
  clear oT2_i
  have oT3_i := oT3.in_; clear oT3
  go_wp2_with fail
  refine (specSame _ _ _ l0 l1 l2 _ oT1_3.reads oT2_3.reads oT3_i.reads ).mono ?_; rintro e w4 ⟨rfl, b4⟩
  have s4 := b4.size
  have B4 := (B3).next (by omega) b4
  have oT1_4 := oT1_3.keep (KeepIn.of_below b4 (by omega))
  clear oT1_3
  have oT2_4 := oT2_3.keep (KeepIn.of_below b4 (by omega))
  clear oT2_3
  have oT3_4 := oT3_i.keep (KeepIn.of_below b4 (by omega))
  clear oT3_i
  clear oT1_4
  clear oT2_4
  clear oT3_4
  go_wp2_with fail
  refine (toSpotS_any _ l0 _ (h0.below B4 (Nat.le_refl _)) (by omega)).mono ?_; rintro e w5 ⟨t5, rfl, oT5, b5⟩
  have s5 := b5.size
  have B5 := (B4).next (by omega) b5
  have oT5_i := oT5.in_; clear oT5
  go_wp2_with fail
  refine (toEditS_any _ l1 _ (h1.below B5 (Nat.le_refl _)) (by omega)).mono ?_; rintro e w6 ⟨t6, rfl, oT6, b6⟩
  have s6 := b6.size
  have B6 := (B5).next (by omega) b6
  have ox0_6 := oT5_i.keep (KeepIn.of_below b6 (by omega))
  clear oT5_i
  have oT6_i := oT6.in_; clear oT6
  go_wp2_with fail
  refine (toEditS_any _ l2 _ (h2.below B6 (Nat.le_refl _)) (by omega)).mono ?_; rintro e w7 ⟨t7, rfl, oT7, b7⟩
  have s7 := b7.size
  have B7 := (B6).next (by omega) b7
  have ox0_7 := ox0_6.keep (KeepIn.of_below b7 (by omega))
  clear ox0_6
  have ox1_7 := oT6_i.keep (KeepIn.of_below b7 (by omega))
  clear oT6_i
  have oT7_i := oT7.in_; clear oT7
  go_wp2_with fail
  refine (implSame _ _ _ l0 l1 l2 _ ox0_7.reads ox1_7.reads oT7_i.reads ).mono ?_; rintro e w8 ⟨rfl, b8⟩
  have s8 := b8.size
  have B8 := (B7).next (by omega) b8
  have ox0_8 := ox0_7.keep (KeepIn.of_below b8 (by omega))
  clear ox0_7
  have ox1_8 := ox1_7.keep (KeepIn.of_below b8 (by omega))
  clear ox1_7
  have ox2_8 := oT7_i.keep (KeepIn.of_below b8 (by omega))
  clear oT7_i
  go_wp2_with fail
  refine (toSpotS_any _ l0 _ (h0.below B8 (Nat.le_refl _)) (by omega)).mono ?_; rintro e w9 ⟨t9, rfl, oT9, b9⟩
  have s9 := b9.size
  have B9 := (B8).next (by omega) b9
  have ox0_9 := ox0_8.keep (KeepIn.of_below b9 (by omega))
  clear ox0_8
  have ox1_9 := ox1_8.keep (KeepIn.of_below b9 (by omega))
  clear ox1_8
  have ox2_9 := ox2_8.keep (KeepIn.of_below b9 (by omega))
  clear ox2_8
  have oT9_i := oT9.in_; clear oT9
  go_wp2_with fail
  refine (eqSpotS_any _ _ l0 l0 _ ox0_9.reads oT9_i.reads).mono ?_; rintro e w10 ⟨rfl, b10⟩
  have s10 := b10.size
  have B10 := (B9).next (by omega) b10
  have ox0_10 := ox0_9.keep (KeepIn.of_below b10 (by omega))
  clear ox0_9
  have ox1_10 := ox1_9.keep (KeepIn.of_below b10 (by omega))
  clear ox1_9
  have ox2_10 := ox2_9.keep (KeepIn.of_below b10 (by omega))
  clear ox2_9
  have oT9_10 := oT9_i.keep (KeepIn.of_below b10 (by omega))
  clear oT9_i
  clear oT9_10
  go_wp2_with fail
  refine (toEditS_any _ l1 _ (h1.below B10 (Nat.le_refl _)) (by omega)).mono ?_; rintro e w11 ⟨t11, rfl, oT11, b11⟩
  have s11 := b11.size
  have B11 := (B10).next (by omega) b11
  have ox0_11 := ox0_10.keep (KeepIn.of_below b11 (by omega))
  clear ox0_10
  have ox1_11 := ox1_10.keep (KeepIn.of_below b11 (by omega))
  clear ox1_10
  have ox2_11 := ox2_10.keep (KeepIn.of_below b11 (by omega))
  clear ox2_10
  have oT11_i := oT11.in_; clear oT11
  go_wp2_with fail
  refine (eqEditS_any _ _ l1 l1 _ ox1_11.reads oT11_i.reads).mono ?_; rintro e w12 ⟨rfl, b12⟩
  have s12 := b12.size
  have B12 := (B11).next (by omega) b12
  have ox0_12 := ox0_11.keep (KeepIn.of_below b12 (by omega))
  clear ox0_11
  have ox1_12 := ox1_11.keep (KeepIn.of_below b12 (by omega))
  clear ox1_11
  have ox2_12 := ox2_11.keep (KeepIn.of_below b12 (by omega))
  clear ox2_11
  have oT11_12 := oT11_i.keep (KeepIn.of_below b12 (by omega))
  clear oT11_i
  clear oT11_12
  go_wp2_with fail
  refine (toEditS_any _ l2 _ (h2.below B12 (Nat.le_refl _)) (by omega)).mono ?_; rintro e w13 ⟨t13, rfl, oT13, b13⟩
  have s13 := b13.size
  have B13 := (B12).next (by omega) b13
  have ox0_13 := ox0_12.keep (KeepIn.of_below b13 (by omega))
  clear ox0_12
  have ox1_13 := ox1_12.keep (KeepIn.of_below b13 (by omega))
  clear ox1_12
  have ox2_13 := ox2_12.keep (KeepIn.of_below b13 (by omega))
  clear ox2_12
  have oT13_i := oT13.in_; clear oT13
  go_wp2_with fail
  refine (eqEditS_any _ _ l2 l2 _ ox2_13.reads oT13_i.reads).mono ?_; rintro e w14 ⟨rfl, b14⟩
  have s14 := b14.size
  have B14 := (B13).next (by omega) b14
  have ox0_14 := ox0_13.keep (KeepIn.of_below b14 (by omega))
  clear ox0_13
  have ox1_14 := ox1_13.keep (KeepIn.of_below b14 (by omega))
  clear ox1_13
  have ox2_14 := ox2_13.keep (KeepIn.of_below b14 (by omega))
  clear ox2_13
  have oT13_14 := oT13_i.keep (KeepIn.of_below b14 (by omega))
  clear oT13_i
  clear oT13_14
  go_wp2_with fail
  go_ret
  exact ⟨rfl, B14⟩
end Go.Proofs.Ytkefeigkaflakaa
