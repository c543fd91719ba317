/- The walk of the law FnExactCommonFrames: whatever the arguments, it returns true and writes nothing that was there. -/
import Derived.Test.YtkkiihcldjappaaCommon
import Derived.Test.YtkkiihcldjappaaOpen
set_option linter.unusedSimpArgs false
set_option linter.unusedVariables false
namespace Go.Proofs.Ytkkiihcldjappaa
open Go.RowKit

set_option maxHeartbeats 400000 in
theorem FnExactCommonFrames_walk (v0 : Value) (l0 : List Int) (v1 : Value) (l1 : List Int) (w : World) (h0 : IntsAt w v0 l0) (f0 : WfInts l0) (h1 : IntsAt w v1 l1) (f1 : WfInts l1) :
    Calls Try.prog 8 #[v0, v1] w (LawPost w) := by
  obtain ⟨A0, c0, rfl, hnc0, hcc0⟩ := h0.shape
  obtain ⟨A1, c1, rfl, hnc1, hcc1⟩ := h1.shape
  rcases Nat.lt_or_ge 1048576 l0.length with hbig | hl0
  · go_enter Try.func8, Try.ntmps8
    go_wp2_with fail
    go_ret
    exact ⟨rfl, Below.refl _ _⟩
  rcases Nat.lt_or_ge 1048576 l1.length with hbig | hl1
  · go_enter Try.func8, Try.ntmps8
    go_wp2_with fail
    go_ret
    exact ⟨rfl, Below.refl _ _⟩
  go_enter Try.func8, Try.ntmps8
  go_wp2_with fail
  refine (toIntS_any _ l0 _ (h0.below (Below.refl w.heap.size w) (Nat.le_refl _)) hl0).mono ?_; rintro e w1 ⟨t1, rfl, oT1, b1⟩
  have s1 := b1.size
  have B1 := (Below.refl w.heap.size w).next (Nat.le_refl _) b1
  have oT1_i := oT1.in_; clear oT1
  go_wp2_with fail
  refine (toIntS_any _ l1 _ (h1.below (B1) (Nat.le_refl _)) hl1).mono ?_; rintro e w2 ⟨t2, rfl, oT2, b2⟩
  have s2 := b2.size
  have B2 := (B1).next (Nat.le_refl _) b2
  have oT1_2 := oT1_i.keep (KeepIn.of_below b2 (by omega))
  clear oT1_i
  have oT2_i := oT2.in_; clear oT2
  go_wp2_with fail
  refine (specCommon _ _ l0 l1 _ oT1_2.reads oT2_i.reads ).mono ?_; rintro e w3 ⟨rfl, b3⟩
  have s3 := b3.size
  have B3 := (B2).next (Nat.le_refl _) b3
  have oT1_3 := oT1_2.keep (KeepIn.of_below b3 (by omega))
  clear oT1_2
  have oT2_3 := oT2_i.keep (KeepIn.of_below b3 (by omega))
  clear oT2_i
  clear oT1_3
  clear oT2_3
  go_wp2_with fail
  refine (toIntS_any _ l0 _ (h0.below (B3) (Nat.le_refl _)) hl0).mono ?_; rintro e w4 ⟨t4, rfl, oT4, b4⟩
  have s4 := b4.size
  have B4 := (B3).next (Nat.le_refl _) b4
  have oT4_i := oT4.in_; clear oT4
  go_wp2_with fail
  refine (toIntS_any _ l1 _ (h1.below (B4) (Nat.le_refl _)) hl1).mono ?_; rintro e w5 ⟨t5, rfl, oT5, b5⟩
  have s5 := b5.size
  have B5 := (B4).next (Nat.le_refl _) b5
  have ox0_5 := oT4_i.keep (KeepIn.of_below b5 (by omega))
  clear oT4_i
  have oT5_i := oT5.in_; clear oT5
  go_wp2_with fail
  refine (implCommon _ _ l0 l1 _ ox0_5.reads oT5_i.reads ).mono ?_; rintro e w6 ⟨rfl, b6⟩
  have s6 := b6.size
  have B6 := (B5).next (Nat.le_refl _) b6
  have ox0_6 := ox0_5.keep (KeepIn.of_below b6 (by omega))
  clear ox0_5
  have ox1_6 := oT5_i.keep (KeepIn.of_below b6 (by omega))
  clear oT5_i
  go_wp2_with fail
  refine (toIntS_any _ l0 _ (h0.below (B6) (Nat.le_refl _)) hl0).mono ?_; rintro e w7 ⟨t7, rfl, oT7, b7⟩
  have s7 := b7.size
  have B7 := (B6).next (Nat.le_refl _) b7
  have ox0_7 := ox0_6.keep (KeepIn.of_below b7 (by omega))
  clear ox0_6
  have ox1_7 := ox1_6.keep (KeepIn.of_below b7 (by omega))
  clear ox1_6
  have oT7_i := oT7.in_; clear oT7
  go_wp2_with fail
  refine (eqIntS_any _ _ l0 l0 _ ox0_7.reads oT7_i.reads).mono ?_; rintro e w8 ⟨rfl, b8⟩
  have s8 := b8.size
  have B8 := (B7).next (Nat.le_refl _) b8
  have ox0_8 := ox0_7.keep (KeepIn.of_below b8 (by omega))
  clear ox0_7
  have ox1_8 := ox1_7.keep (KeepIn.of_below b8 (by omega))
  clear ox1_7
  have oT7_8 := oT7_i.keep (KeepIn.of_below b8 (by omega))
  clear oT7_i
  clear oT7_8
  go_wp2_with fail
  refine (toIntS_any _ l1 _ (h1.below (B8) (Nat.le_refl _)) hl1).mono ?_; rintro e w9 ⟨t9, rfl, oT9, b9⟩
  have s9 := b9.size
  have B9 := (B8).next (Nat.le_refl _) b9
  have ox0_9 := ox0_8.keep (KeepIn.of_below b9 (by omega))
  clear ox0_8
  have ox1_9 := ox1_8.keep (KeepIn.of_below b9 (by omega))
  clear ox1_8
  have oT9_i := oT9.in_; clear oT9
  go_wp2_with fail
  refine (eqIntS_any _ _ l1 l1 _ ox1_9.reads oT9_i.reads).mono ?_; rintro e w10 ⟨rfl, b10⟩
  have s10 := b10.size
  have B10 := (B9).next (Nat.le_refl _) b10
  have ox0_10 := ox0_9.keep (KeepIn.of_below b10 (by omega))
  clear ox0_9
  have ox1_10 := ox1_9.keep (KeepIn.of_below b10 (by omega))
  clear ox1_9
  have oT9_10 := oT9_i.keep (KeepIn.of_below b10 (by omega))
  clear oT9_i
  clear oT9_10
  go_wp2_with fail
  go_ret
  exact ⟨rfl, B10⟩
end Go.Proofs.Ytkkiihcldjappaa
