/- The walk of the law FnExactViewText: whatever the arguments, it returns true and writes nothing that was there. -/
import Derived.Test.YtnfnpidopifecaaViewT
import Derived.Test.YtnfnpidopifecaaOpen
import Derived.Test.YtnfnpidopifecaaMark
import Derived.Test.YtnfnpidopifecaaOpenR
import Derived.Deep.DeepCutAuto
import Derived.Deep.RegionWith
set_option linter.unusedSimpArgs false
set_option linter.unusedVariables false
namespace Go.Proofs.Ytnfnpidopifecaa
open Go.RowKit

set_option maxRecDepth 100000 in
set_option maxHeartbeats 400000 in
theorem FnExactViewText_walk (x0 y0 c0 r0 : Int) (v1 : Value) (l1 : List Spt) (w : World) (h1 : RowAt sptRec w v1 l1) (f1 : WfRow sptRec l1) :
    Calls Try.prog 12 #[.agg #[.int .i64 x0, .int .i64 y0, .int .i64 c0, .int .i64 r0], v1] w (LawPost w) := by
  have hb0 := fun o0 => ((Below.refl w.heap.size w).alloc (Nat.le_refl _) o0)
  have Hb0 := Lib.hid hb0
  clear hb0
  rcases Nat.lt_or_ge 1048576 (l1.length) with hbig | hl1
  · go_enter Try.func12, Try.ntmps12
    go_wp2_with fail
    refine (szSpotS_no _ l1 _ _ (h1.below (Hb0.out _) (Nat.le_refl _)) (by omega) (by omega) (by omega)).mono ?_; rintro e _ ⟨rfl, rfl⟩
    go_wp2_with fail
    go_ret
    exact ⟨rfl, (Hb0.out _)⟩
  go_enter Try.func12, Try.ntmps12
  go_upto_region 0 with fail
  go_cut [2, 4] (fun b0 rz wx => b0 = .pointer (some ⟨w.heap.size, 0, none⟩) ∧ rz = .bool false ∧ wx.cell? ⟨w.heap.size, 0, none⟩ = some (.int .i64 x0) ∧ wx.cell? ⟨w.heap.size, 1, none⟩ = some (.int .i64 y0) ∧ wx.cell? ⟨w.heap.size, 2, none⟩ = some (.int .i64 c0) ∧ wx.cell? ⟨w.heap.size, 3, none⟩ = some (.int .i64 r0) ∧ w.heap.size + 1 ≤ wx.heap.size ∧ Below w.heap.size w wx)
  case first =>
    go_wp2_with fail
    go_meet
    exact ⟨rfl, rfl, by go_simp, by go_simp, by go_simp, by go_simp, by simp <;> omega, (Hb0.out _)⟩
  case rest =>
    obtain ⟨rfl, rfl, y0_0_0, y0_1_0, y0_2_0, y0_3_0, z0, B0⟩ := hcut
    obtain ⟨w0, hw0⟩ : ∃ w0 : World, w0 = wc := ⟨_, rfl⟩
    subst hw0
    go_wp2_with fail
    refine (szSpotS_yes _ l1 _ _ (h1.below B0 (Nat.le_refl _)) (by omega) (by omega) (by omega)).mono ?_; rintro e _ ⟨rfl, rfl⟩
    go_wp2_with fail
    refine (toFrame_any _ _ _ _ _).mono ?_; rintro e w1 ⟨rfl, b1⟩
    have s1 := b1.size
    have y0_0_1 : w1.cell? ⟨w.heap.size, 0, none⟩ = some (.int .i64 x0) := (b1.cell (p := ⟨w.heap.size, 0, none⟩) (by show w.heap.size < _; omega)).trans y0_0_0
    have y0_1_1 : w1.cell? ⟨w.heap.size, 1, none⟩ = some (.int .i64 y0) := (b1.cell (p := ⟨w.heap.size, 1, none⟩) (by show w.heap.size < _; omega)).trans y0_1_0
    have y0_2_1 : w1.cell? ⟨w.heap.size, 2, none⟩ = some (.int .i64 c0) := (b1.cell (p := ⟨w.heap.size, 2, none⟩) (by show w.heap.size < _; omega)).trans y0_2_0
    have y0_3_1 : w1.cell? ⟨w.heap.size, 3, none⟩ = some (.int .i64 r0) := (b1.cell (p := ⟨w.heap.size, 3, none⟩) (by show w.heap.size < _; omega)).trans y0_3_0
    clear y0_0_0 y0_1_0 y0_2_0 y0_3_0
    have B1 := (B0).next (by omega) b1
    go_wp2_with fail
    refine (toSpotS_any _ l1 _ (h1.below B1 (Nat.le_refl _)) (by omega)).mono ?_; rintro e w2 ⟨t2, rfl, oT2, b2⟩
    have s2 := b2.size
    have y0_0_2 : w2.cell? ⟨w.heap.size, 0, none⟩ = some (.int .i64 x0) := (b2.cell (p := ⟨w.heap.size, 0, none⟩) (by show w.heap.size < _; omega)).trans y0_0_1
    have y0_1_2 : w2.cell? ⟨w.heap.size, 1, none⟩ = some (.int .i64 y0) := (b2.cell (p := ⟨w.heap.size, 1, none⟩) (by show w.heap.size < _; omega)).trans y0_1_1
    have y0_2_2 : w2.cell? ⟨w.heap.size, 2, none⟩ = some (.int .i64 c0) := (b2.cell (p := ⟨w.heap.size, 2, none⟩) (by show w.heap.size < _; omega)).trans y0_2_1
    have y0_3_2 : w2.cell? ⟨w.heap.size, 3, none⟩ = some (.int .i64 r0) := (b2.cell (p := ⟨w.heap.size, 3, none⟩) (by show w.heap.size < _; omega)).trans y0_3_1
    clear y0_0_1 y0_1_1 y0_2_1 y0_3_1
    have B2 := (B1).next (by omega) b2
    have oT2_i := oT2.in_; clear oT2
    go_wp2_with fail
    refine (specViewText _ l1 _ _ _ _ _ oT2_i.reads ).mono ?_; rintro e w3 ⟨rfl, b3⟩
    have s3 := b3.size
    have y0_0_3 : w3.cell? ⟨w.heap.size, 0, none⟩ = some (.int .i64 x0) := (b3.cell (p := ⟨w.heap.size, 0, none⟩) (by show w.heap.size < _; omega)).trans y0_0_2
    have y0_1_3 : w3.cell? ⟨w.heap.size, 1, none⟩ = some (.int .i64 y0) := (b3.cell (p := ⟨w.heap.size, 1, none⟩) (by show w.heap.size < _; omega)).trans y0_1_2
    have y0_2_3 : w3.cell? ⟨w.heap.size, 2, none⟩ = some (.int .i64 c0) := (b3.cell (p := ⟨w.heap.size, 2, none⟩) (by show w.heap.size < _; omega)).trans y0_2_2
    have y0_3_3 : w3.cell? ⟨w.heap.size, 3, none⟩ = some (.int .i64 r0) := (b3.cell (p := ⟨w.heap.size, 3, none⟩) (by show w.heap.size < _; omega)).trans y0_3_2
    clear y0_0_2 y0_1_2 y0_2_2 y0_3_2
    have B3 := (B2).next (by omega) b3
    have oT2_3 := oT2_i.keep (KeepIn.of_below b3 (by omega))
    clear oT2_i
    clear oT2_3
    go_wp2_with fail
    refine (toSpotS_any _ l1 _ (h1.below B3 (Nat.le_refl _)) (by omega)).mono ?_; rintro e w4 ⟨t4, rfl, oT4, b4⟩
    have s4 := b4.size
    have y0_0_4 : w4.cell? ⟨w.heap.size, 0, none⟩ = some (.int .i64 x0) := (b4.cell (p := ⟨w.heap.size, 0, none⟩) (by show w.heap.size < _; omega)).trans y0_0_3
    have y0_1_4 : w4.cell? ⟨w.heap.size, 1, none⟩ = some (.int .i64 y0) := (b4.cell (p := ⟨w.heap.size, 1, none⟩) (by show w.heap.size < _; omega)).trans y0_1_3
    have y0_2_4 : w4.cell? ⟨w.heap.size, 2, none⟩ = some (.int .i64 c0) := (b4.cell (p := ⟨w.heap.size, 2, none⟩) (by show w.heap.size < _; omega)).trans y0_2_3
    have y0_3_4 : w4.cell? ⟨w.heap.size, 3, none⟩ = some (.int .i64 r0) := (b4.cell (p := ⟨w.heap.size, 3, none⟩) (by show w.heap.size < _; omega)).trans y0_3_3
    clear y0_0_3 y0_1_3 y0_2_3 y0_3_3
    have B4 := (B3).next (by omega) b4
    have oT4_i := oT4.in_; clear oT4
    go_wp2_with fail
    refine (toFrame_any _ _ _ _ _).mono ?_; rintro e w5 ⟨rfl, b5⟩
    have s5 := b5.size
    have y0_0_5 : w5.cell? ⟨w.heap.size, 0, none⟩ = some (.int .i64 x0) := (b5.cell (p := ⟨w.heap.size, 0, none⟩) (by show w.heap.size < _; omega)).trans y0_0_4
    have y0_1_5 : w5.cell? ⟨w.heap.size, 1, none⟩ = some (.int .i64 y0) := (b5.cell (p := ⟨w.heap.size, 1, none⟩) (by show w.heap.size < _; omega)).trans y0_1_4
    have y0_2_5 : w5.cell? ⟨w.heap.size, 2, none⟩ = some (.int .i64 c0) := (b5.cell (p := ⟨w.heap.size, 2, none⟩) (by show w.heap.size < _; omega)).trans y0_2_4
    have y0_3_5 : w5.cell? ⟨w.heap.size, 3, none⟩ = some (.int .i64 r0) := (b5.cell (p := ⟨w.heap.size, 3, none⟩) (by show w.heap.size < _; omega)).trans y0_3_4
    clear y0_0_4 y0_1_4 y0_2_4 y0_3_4
    have B5 := (B4).next (by omega) b5
    have ox1_5 := oT4_i.keep (KeepIn.of_below b5 (by omega))
    clear oT4_i
    go_wp2_with fail
    refine (implViewText _ l1 _ _ _ _ _ ox1_5.reads ).mono ?_; rintro e w6 ⟨rfl, b6⟩
    have s6 := b6.size
    have y0_0_6 : w6.cell? ⟨w.heap.size, 0, none⟩ = some (.int .i64 x0) := (b6.cell (p := ⟨w.heap.size, 0, none⟩) (by show w.heap.size < _; omega)).trans y0_0_5
    have y0_1_6 : w6.cell? ⟨w.heap.size, 1, none⟩ = some (.int .i64 y0) := (b6.cell (p := ⟨w.heap.size, 1, none⟩) (by show w.heap.size < _; omega)).trans y0_1_5
    have y0_2_6 : w6.cell? ⟨w.heap.size, 2, none⟩ = some (.int .i64 c0) := (b6.cell (p := ⟨w.heap.size, 2, none⟩) (by show w.heap.size < _; omega)).trans y0_2_5
    have y0_3_6 : w6.cell? ⟨w.heap.size, 3, none⟩ = some (.int .i64 r0) := (b6.cell (p := ⟨w.heap.size, 3, none⟩) (by show w.heap.size < _; omega)).trans y0_3_5
    clear y0_0_5 y0_1_5 y0_2_5 y0_3_5
    have B6 := (B5).next (by omega) b6
    have ox1_6 := ox1_5.keep (KeepIn.of_below b6 (by omega))
    clear ox1_5
    go_wp2_with fail
    refine (toSpotS_any _ l1 _ (h1.below B6 (Nat.le_refl _)) (by omega)).mono ?_; rintro e w7 ⟨t7, rfl, oT7, b7⟩
    have s7 := b7.size
    have y0_0_7 : w7.cell? ⟨w.heap.size, 0, none⟩ = some (.int .i64 x0) := (b7.cell (p := ⟨w.heap.size, 0, none⟩) (by show w.heap.size < _; omega)).trans y0_0_6
    have y0_1_7 : w7.cell? ⟨w.heap.size, 1, none⟩ = some (.int .i64 y0) := (b7.cell (p := ⟨w.heap.size, 1, none⟩) (by show w.heap.size < _; omega)).trans y0_1_6
    have y0_2_7 : w7.cell? ⟨w.heap.size, 2, none⟩ = some (.int .i64 c0) := (b7.cell (p := ⟨w.heap.size, 2, none⟩) (by show w.heap.size < _; omega)).trans y0_2_6
    have y0_3_7 : w7.cell? ⟨w.heap.size, 3, none⟩ = some (.int .i64 r0) := (b7.cell (p := ⟨w.heap.size, 3, none⟩) (by show w.heap.size < _; omega)).trans y0_3_6
    clear y0_0_6 y0_1_6 y0_2_6 y0_3_6
    have B7 := (B6).next (by omega) b7
    have ox1_7 := ox1_6.keep (KeepIn.of_below b7 (by omega))
    clear ox1_6
    have oT7_i := oT7.in_; clear oT7
    go_wp2_with fail
    refine (eqSpotS_any _ _ l1 l1 _ ox1_7.reads oT7_i.reads).mono ?_; rintro e w8 ⟨rfl, b8⟩
    have s8 := b8.size
    have y0_0_8 : w8.cell? ⟨w.heap.size, 0, none⟩ = some (.int .i64 x0) := (b8.cell (p := ⟨w.heap.size, 0, none⟩) (by show w.heap.size < _; omega)).trans y0_0_7
    have y0_1_8 : w8.cell? ⟨w.heap.size, 1, none⟩ = some (.int .i64 y0) := (b8.cell (p := ⟨w.heap.size, 1, none⟩) (by show w.heap.size < _; omega)).trans y0_1_7
    have y0_2_8 : w8.cell? ⟨w.heap.size, 2, none⟩ = some (.int .i64 c0) := (b8.cell (p := ⟨w.heap.size, 2, none⟩) (by show w.heap.size < _; omega)).trans y0_2_7
    have y0_3_8 : w8.cell? ⟨w.heap.size, 3, none⟩ = some (.int .i64 r0) := (b8.cell (p := ⟨w.heap.size, 3, none⟩) (by show w.heap.size < _; omega)).trans y0_3_7
    clear y0_0_7 y0_1_7 y0_2_7 y0_3_7
    have B8 := (B7).next (by omega) b8
    have ox1_8 := ox1_7.keep (KeepIn.of_below b8 (by omega))
    clear ox1_7
    have oT7_8 := oT7_i.keep (KeepIn.of_below b8 (by omega))
    clear oT7_i
    clear oT7_8
    go_wp2_with fail
    go_ret
    exact ⟨rfl, B8⟩
end Go.Proofs.Ytnfnpidopifecaa
