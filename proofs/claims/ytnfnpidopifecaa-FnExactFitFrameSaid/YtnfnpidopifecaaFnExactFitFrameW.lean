/- The walk of the law FnExactFitFrame: whatever the arguments, it returns true and writes nothing that was there. -/
import Derived.Test.YtnfnpidopifecaaFitF
import Derived.Test.YtnfnpidopifecaaOpen
import Derived.Test.YtnfnpidopifecaaMark
import Derived.Test.YtnfnpidopifecaaOpenR
set_option linter.unusedSimpArgs false
set_option linter.unusedVariables false
namespace Go.Proofs.Ytnfnpidopifecaa
open Go.RowKit

set_option maxHeartbeats 1600000 in
theorem eqFrame_same (x y c r : Int) (w : World) :
    Calls Try.prog 35 #[.agg #[.int .i64 x, .int .i64 y, .int .i64 c, .int .i64 r], .agg #[.int .i64 x, .int .i64 y, .int .i64 c, .int .i64 r]] w fun e w' => e = .returned (.bool true) ∧ Below w.heap.size w w' := by
  have hb : ∀ (o o' : Obj), Below w.heap.size w ((w.alloc o).alloc o') := fun o o' => ((Below.refl w.heap.size w).alloc (Nat.le_refl _) _).alloc (by simp) _
  have Hb := Lib.hid hb
  clear hb
  have hs : sptEq ⟨x, y⟩ ⟨x, y⟩ = true := by simp [sptEq]
  have q0 : (c != c) = false := by simp
  have q1 : (r != r) = false := by simp
  go_enter Try.func35, Try.ntmps35
  go_wp2_with fail
  refine (eqSpot_q ⟨x, y⟩ ⟨x, y⟩ _).mono ?_; rintro e w1 ⟨rfl, b1⟩
  have hcc := cell_of b1
  have hzz := b1.size
  simp at hzz
  have hbb := (Hb.out _ _).trans (b1.mono (by simp <;> omega))
  go_wp2_with fail
  go_ret
  exact ⟨rfl, hbb⟩
set_option maxRecDepth 100000 in
set_option maxHeartbeats 1600000 in
theorem FnExactFitFrame_walk (v0 : Value) (l0 : List Spt) (w : World) (h0 : RowAt sptRec w v0 l0) (f0 : WfRow sptRec l0) :
    Calls Try.prog 7 #[v0] w (LawPost w) := by
  rcases Nat.lt_or_ge 1048576 (l0.length) with hbig | hl0
  · go_enter Try.func7, Try.ntmps7
    go_wp2_with fail
    refine (szSpotS_no _ l0 _ _ h0 (by omega) (by omega) (by omega)).mono ?_; rintro e _ ⟨rfl, rfl⟩
    go_wp2_with fail
    go_ret
    exact ⟨rfl, (Below.refl _ _)⟩
  go_enter Try.func7, Try.ntmps7
  go_wp2_with fail
  refine (szSpotS_yes _ l0 _ _ h0 (by omega) (by omega) (by omega)).mono ?_; rintro e _ ⟨rfl, rfl⟩
  go_wp2_with fail
  refine (toSpotS_any _ l0 _ (h0.below (Below.refl w.heap.size w) (Nat.le_refl _)) (by omega)).mono ?_; rintro e w1 ⟨t1, rfl, oT1, b1⟩
  have B1 := ((Below.refl w.heap.size w)).next (by omega) b1
  go_wp2_with fail
  refine (specFit _ l0 _ oT1.reads).mono ?_; rintro e w2 ⟨rfl, b2⟩
  have s2 := (B1.next (by have := B1.size; omega) b2).size
  have B2 := B1.trans (b2.mono B1.size)
  clear oT1
  have BX := B2.alloc B2.size (.cells #[.int .i64 (rFit l0).x, .int .i64 (rFit l0).y, .int .i64 (rFit l0).c, .int .i64 (rFit l0).r] 29)
  have bx : Box4 (w2.alloc (.cells #[.int .i64 (rFit l0).x, .int .i64 (rFit l0).y, .int .i64 (rFit l0).c, .int .i64 (rFit l0).r] 29)) w2.heap.size (rFit l0).x (rFit l0).y (rFit l0).c (rFit l0).r := ⟨by go_simp, by go_simp, by go_simp, by go_simp⟩
  go_wp2_with fail
  refine (toSpotS_any _ l0 _ (h0.below BX (Nat.le_refl _)) (by omega)).mono ?_; rintro e w3 ⟨t3, rfl, oT3, b3⟩
  have B3 := BX.trans (b3.mono BX.size)
  have bx3 := bx.keep b3 (Nat.le_refl _)
  go_wp2_with fail
  refine (implFit _ l0 _ oT3.reads).mono ?_; rintro e w4 ⟨rfl, b4⟩
  have B4 := B3.trans (b4.mono B3.size)
  have oT4 := OwnRow.below oT3 b4 (Nat.le_refl _)
  have bx4 := bx3.keep b4 (Nat.le_refl _)
  have hx4 := bx4.out
  obtain ⟨c0, c1, c2, c3⟩ := hx4
  have hl4 := bx4.lt
  have bA : Below w4.heap.size w4 (w4.alloc (.cells #[.int .i64 (rFit l0).x, .int .i64 (rFit l0).y, .int .i64 (rFit l0).c, .int .i64 (rFit l0).r] 29)) := (Below.refl _ _).alloc (Nat.le_refl _) _
  have BY := B4.trans (bA.mono B4.size)
  have oTA := OwnRow.below oT4 bA (Nat.le_refl _)
  clear oT3 oT4 bx bx3 bx4
  go_wp2_with fail
  refine (eqFrame_same _ _ _ _ _).mono ?_; rintro e w5 ⟨rfl, b5⟩
  have B5 := BY.trans (b5.mono BY.size)
  have oT5 := OwnRow.below oTA b5 (Nat.le_refl _)
  go_wp2_with fail
  refine (toSpotS_any _ l0 _ (h0.below B5 (Nat.le_refl _)) (by omega)).mono ?_; rintro e w6 ⟨t6, rfl, oT6, b6⟩
  have B6 := B5.trans (b6.mono B5.size)
  have oT56 := OwnRow.below oT5 b6 (Nat.le_refl _)
  go_wp2_with fail
  refine (eqSpotS_any _ _ l0 l0 _ oT56.reads oT6.reads).mono ?_; rintro e w7 ⟨rfl, b7⟩
  have B7 := B6.trans (b7.mono B6.size)
  go_wp2_with fail
  go_ret
  exact ⟨rfl, B7⟩
end Go.Proofs.Ytnfnpidopifecaa
