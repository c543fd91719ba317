/- The walk of the law FnExactMirrorView: whatever the arguments, it returns true and writes nothing that was there. -/
import Derived.Test.YtnfnpidopifecaaMirror
import Derived.Test.YtnfnpidopifecaaOpen
import Derived.Test.YtnfnpidopifecaaMark
import Derived.Test.YtnfnpidopifecaaOpenSt
import Derived.Deep.DeepCutAuto
import Derived.Deep.RegionWith
set_option linter.unusedSimpArgs false
set_option linter.unusedVariables false
namespace Go.Proofs.Ytnfnpidopifecaa
open Go.RowKit

set_option maxRecDepth 100000 in
set_option maxHeartbeats 400000 in
theorem FnExactMirrorView_walk (v0 : Value) (l0 : List ByteArray) (w : World) (h0 : RowAt strRec w v0 l0) (f0 : WfStrs l0) :
    Calls Try.prog 5 #[v0] w (LawPost w) := by
  rcases Nat.lt_or_ge 1048576 (l0.length + totS l0) with hbig | hl0
  · go_enter Try.func5, Try.ntmps5
    go_wp2_with fail
    refine (szStringS_no _ l0 _ _ h0 f0 (by omega) (by omega) (by omega)).mono ?_; rintro e _ ⟨rfl, rfl⟩
    go_wp2_with fail
    go_ret
    exact ⟨rfl, (Below.refl _ _)⟩
  have hrl := rMirror_len l0
  go_enter Try.func5, Try.ntmps5
  go_wp2_with fail
  refine (szStringS_yes _ l0 _ _ h0 (by omega) (by omega) (by omega)).mono ?_; rintro e _ ⟨rfl, rfl⟩
  go_wp2_with fail
  refine (toStringS_any _ l0 _ (h0.below (Below.refl w.heap.size w) (Nat.le_refl _)) (by omega)).mono ?_; rintro e w1 ⟨t1, rfl, oT1, b1⟩
  have s1 := b1.size
  have B1 := ((Below.refl w.heap.size w)).next (by omega) b1
  have oT1_i := oT1.in_; clear oT1
  go_wp2_with fail
  refine (specMirror _ l0 _ oT1_i.reads f0 ).mono ?_; rintro e w2 ⟨r2_0, rfl, oR2_0, b2⟩
  have s2 := b2.size
  have B2 := (B1).next (by omega) b2
  have oT1_2 := oT1_i.keep (KeepIn.of_below b2 (by omega))
  clear oT1_i
  have oR2_0_i := oR2_0.in_; clear oR2_0
  clear oT1_2
  go_wp2_with fail
  refine (toStringS_any _ l0 _ (h0.below B2 (Nat.le_refl _)) (by omega)).mono ?_; rintro e w3 ⟨t3, rfl, oT3, b3⟩
  have s3 := b3.size
  have B3 := (B2).next (by omega) b3
  have ow0_3 := oR2_0_i.keep (KeepIn.of_below b3 (by omega))
  clear oR2_0_i
  have oT3_i := oT3.in_; clear oT3
  go_wp2_with fail
  refine (implMirror _ l0 _ oT3_i.reads f0 ).mono ?_; rintro e w4 ⟨r4_0, rfl, oR4_0, b4⟩
  have s4 := b4.size
  have B4 := (B3).next (by omega) b4
  have ow0_4 := ow0_3.keep (KeepIn.of_below b4 (by omega))
  clear ow0_3
  have ox0_4 := oT3_i.keep (KeepIn.of_below b4 (by omega))
  clear oT3_i
  have oR4_0_i := oR4_0.in_; clear oR4_0
  go_wp2_with fail
  refine (eqStringS_any _ _ (rMirror l0).1 (rMirror l0).1 _ oR4_0_i.reads ow0_4.reads).mono ?_; rintro e w5 ⟨rfl, b5⟩
  have s5 := b5.size
  have B5 := (B4).next (by omega) b5
  have ow0_5 := ow0_4.keep (KeepIn.of_below b5 (by omega))
  clear ow0_4
  have ox0_5 := ox0_4.keep (KeepIn.of_below b5 (by omega))
  clear ox0_4
  have og0_5 := oR4_0_i.keep (KeepIn.of_below b5 (by omega))
  clear oR4_0_i
  go_wp2_with fail
  refine (toStringS_any _ l0 _ (h0.below B5 (Nat.le_refl _)) (by omega)).mono ?_; rintro e w6 ⟨t6, rfl, oT6, b6⟩
  have s6 := b6.size
  have B6 := (B5).next (by omega) b6
  have ow0_6 := ow0_5.keep (KeepIn.of_below b6 (by omega))
  clear ow0_5
  have ox0_6 := ox0_5.keep (KeepIn.of_below b6 (by omega))
  clear ox0_5
  have og0_6 := og0_5.keep (KeepIn.of_below b6 (by omega))
  clear og0_5
  have oT6_i := oT6.in_; clear oT6
  go_wp2_with fail
  refine (eqStringS_any _ _ l0 l0 _ ox0_6.reads oT6_i.reads).mono ?_; rintro e w7 ⟨rfl, b7⟩
  have s7 := b7.size
  have B7 := (B6).next (by omega) b7
  have ow0_7 := ow0_6.keep (KeepIn.of_below b7 (by omega))
  clear ow0_6
  have ox0_7 := ox0_6.keep (KeepIn.of_below b7 (by omega))
  clear ox0_6
  have og0_7 := og0_6.keep (KeepIn.of_below b7 (by omega))
  clear og0_6
  have oT6_7 := oT6_i.keep (KeepIn.of_below b7 (by omega))
  clear oT6_i
  clear oT6_7
  go_wp2_with fail
  refine (markStringN _ l0 _ _ _ _ ox0_7 (by omega) (by omega) (by omega)).mono ?_; rintro e w8 ⟨rfl, oM8, b8⟩
  clear ox0_7
  have s8 := b8.size
  have B8 := (B7).trans (b8.below (B := w.heap.size) (by omega) (by omega))
  have ow0_8 := ow0_7.keep (b8.keepIn (by omega) (by omega))
  clear ow0_7
  have og0_8 := og0_7.keep (b8.keepIn (by omega) (by omega))
  clear og0_7
  go_wp2_with fail
  refine (eqStringS_any _ _ (rMirror l0).1 (rMirror l0).1 _ og0_8.reads ow0_8.reads).mono ?_; rintro e w9 ⟨rfl, b9⟩
  have s9 := b9.size
  have B9 := (B8).next (by omega) b9
  have ow0_9 := ow0_8.keep (KeepIn.of_below b9 (by omega))
  clear ow0_8
  have ox0_9 := oM8.keep (KeepIn.of_below b9 (by omega))
  clear oM8
  have og0_9 := og0_8.keep (KeepIn.of_below b9 (by omega))
  clear og0_8
  go_wp2_with fail
  refine (markStringN _ (rMirror l0).1 _ _ _ _ og0_9 (by omega) (by omega) (by omega)).mono ?_; rintro e w10 ⟨rfl, oM10, b10⟩
  clear og0_9
  have s10 := b10.size
  have B10 := (B9).trans (b10.below (B := w.heap.size) (by omega) (by omega))
  have ow0_10 := ow0_9.keep (b10.keepIn (by omega) (by omega))
  clear ow0_9
  have ox0_10 := ox0_9.keep (b10.keepIn (by omega) (by omega))
  clear ox0_9
  go_wp2_with fail
  refine (heldStringN _ (rMirror l0).1 _ _ _ _ oM10 (by omega) (by omega) (by omega)).mono ?_; rintro e w11 ⟨rfl, b11⟩
  have s11 := b11.size
  have B11 := (B10).next (by omega) b11
  have ow0_11 := ow0_10.keep (KeepIn.of_below b11 (by omega))
  clear ow0_10
  have ox0_11 := ox0_10.keep (KeepIn.of_below b11 (by omega))
  clear ox0_10
  have og0_11 := oM10.keep (KeepIn.of_below b11 (by omega))
  clear oM10
  go_wp2_with fail
  refine (toStringS_any _ l0 _ (h0.below B11 (Nat.le_refl _)) (by omega)).mono ?_; rintro e w12 ⟨t12, rfl, oT12, b12⟩
  have s12 := b12.size
  have B12 := (B11).next (by omega) b12
  have ow0_12 := ow0_11.keep (KeepIn.of_below b12 (by omega))
  clear ow0_11
  have ox0_12 := ox0_11.keep (KeepIn.of_below b12 (by omega))
  clear ox0_11
  have og0_12 := og0_11.keep (KeepIn.of_below b12 (by omega))
  clear og0_11
  have oT12_i := oT12.in_; clear oT12
  go_wp2_with fail
  refine (implMirror _ l0 _ oT12_i.reads f0 ).mono ?_; rintro e w13 ⟨r13_0, rfl, oR13_0, b13⟩
  have s13 := b13.size
  have B13 := (B12).next (by omega) b13
  have ow0_13 := ow0_12.keep (KeepIn.of_below b13 (by omega))
  clear ow0_12
  have ox0_13 := ox0_12.keep (KeepIn.of_below b13 (by omega))
  clear ox0_12
  have og0_13 := og0_12.keep (KeepIn.of_below b13 (by omega))
  clear og0_12
  have oT12_13 := oT12_i.keep (KeepIn.of_below b13 (by omega))
  clear oT12_i
  have oR13_0_i := oR13_0.in_; clear oR13_0
  clear oT12_13
  go_wp2_with fail
  refine (eqStringS_any _ _ (rMirror l0).1 (rMirror l0).1 _ oR13_0_i.reads ow0_13.reads).mono ?_; rintro e w14 ⟨rfl, b14⟩
  have s14 := b14.size
  have B14 := (B13).next (by omega) b14
  have ow0_14 := ow0_13.keep (KeepIn.of_below b14 (by omega))
  clear ow0_13
  have ox0_14 := ox0_13.keep (KeepIn.of_below b14 (by omega))
  clear ox0_13
  have og0_14 := og0_13.keep (KeepIn.of_below b14 (by omega))
  clear og0_13
  have oh0_14 := oR13_0_i.keep (KeepIn.of_below b14 (by omega))
  clear oR13_0_i
  go_wp2_with fail
  refine (heldStringN _ (rMirror l0).1 _ _ _ _ og0_14 (by omega) (by omega) (by omega)).mono ?_; rintro e w15 ⟨rfl, b15⟩
  have s15 := b15.size
  have B15 := (B14).next (by omega) b15
  have ow0_15 := ow0_14.keep (KeepIn.of_below b15 (by omega))
  clear ow0_14
  have ox0_15 := ox0_14.keep (KeepIn.of_below b15 (by omega))
  clear ox0_14
  have og0_15 := og0_14.keep (KeepIn.of_below b15 (by omega))
  clear og0_14
  have oh0_15 := oh0_14.keep (KeepIn.of_below b15 (by omega))
  clear oh0_14
  go_wp2_with fail
  go_ret
  exact ⟨rfl, B15⟩
end Go.Proofs.Ytnfnpidopifecaa
