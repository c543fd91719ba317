/- The walk of the law FnExactDoCommute: whatever the arguments, it returns true and writes nothing that was there. -/
import Derived.Test.YtkefeigkaflakaaEditCommute
import Derived.Test.YtkefeigkaflakaaOpen
import Derived.Test.YtkefeigkaflakaaMark
import Derived.Test.YtkefeigkaflakaaOpenR
import Derived.Deep.DeepCutAuto
import Derived.Deep.RegionWith
set_option linter.unusedSimpArgs false
set_option linter.unusedVariables false
namespace Go.Proofs.Ytkefeigkaflakaa
open Go.RowKit

set_option maxRecDepth 100000 in
set_option maxHeartbeats 6400000 in
theorem FnExactDoCommute_walk (v0 : Value) (l0 : List Spt) (ee1 pp1 xb1 yb1 xa1 ya1 : Int) (ee2 pp2 xb2 yb2 xa2 ya2 : Int) (w : World) (h0 : RowAt sptRec w v0 l0) (f0 : WfRow sptRec l0) :
    Calls Try.prog 3 #[v0, .agg #[.int .i64 ee1, .int .i64 pp1, .int .i64 xb1, .int .i64 yb1, .int .i64 xa1, .int .i64 ya1], .agg #[.int .i64 ee2, .int .i64 pp2, .int .i64 xb2, .int .i64 yb2, .int .i64 xa2, .int .i64 ya2]] w (LawPost w) := by
  have hb0 := fun o0 o1 => (((Below.refl w.heap.size w).alloc (Nat.le_refl _) o0).alloc (by simp <;> omega) o1)
  have Hb0 := Lib.hid hb0
  clear hb0
  rcases Nat.lt_or_ge 1048576 (l0.length) with hbig | hl0
  · go_enter Try.func3, Try.ntmps3
    go_wp2_with fail
    refine (szSpotS_no _ l0 _ _ (h0.below (Hb0.out _ _) (Nat.le_refl _)) (by omega) (by omega) (by omega)).mono ?_; rintro e _ ⟨rfl, rfl⟩
    go_wp2_with fail
    go_ret
    exact ⟨rfl, (Hb0.out _ _)⟩
  go_enter Try.func3, Try.ntmps3
  go_upto_region 0 with fail
  go_cut [4, 5, 6] (fun b0 b1 r0 wx => b0 = .pointer (some ⟨w.heap.size, 0, none⟩) ∧ b1 = .pointer (some ⟨w.heap.size + 1, 0, none⟩) ∧ r0 = .bool false ∧ wx.cell? ⟨w.heap.size, 0, none⟩ = some (.int .i64 ee1) ∧ wx.cell? ⟨w.heap.size, 1, none⟩ = some (.int .i64 pp1) ∧ wx.cell? ⟨w.heap.size, 2, none⟩ = some (.int .i64 xb1) ∧ wx.cell? ⟨w.heap.size, 3, none⟩ = some (.int .i64 yb1) ∧ wx.cell? ⟨w.heap.size, 4, none⟩ = some (.int .i64 xa1) ∧ wx.cell? ⟨w.heap.size, 5, none⟩ = some (.int .i64 ya1) ∧ wx.cell? ⟨w.heap.size + 1, 0, none⟩ = some (.int .i64 ee2) ∧ wx.cell? ⟨w.heap.size + 1, 1, none⟩ = some (.int .i64 pp2) ∧ wx.cell? ⟨w.heap.size + 1, 2, none⟩ = some (.int .i64 xb2) ∧ wx.cell? ⟨w.heap.size + 1, 3, none⟩ = some (.int .i64 yb2) ∧ wx.cell? ⟨w.heap.size + 1, 4, none⟩ = some (.int .i64 xa2) ∧ wx.cell? ⟨w.heap.size + 1, 5, none⟩ = some (.int .i64 ya2) ∧ w.heap.size + 1 + 1 ≤ wx.heap.size ∧ Below w.heap.size w wx)
  case first =>
    go_wp2_with fail
    go_meet
    exact ⟨rfl, rfl, rfl, by go_simp, by go_simp, by go_simp, by go_simp, by go_simp, by go_simp, by go_simp, by go_simp, by go_simp, by go_simp, by go_simp, by go_simp, by simp <;> omega, (Hb0.out _ _)⟩
  case rest =>
    obtain ⟨rfl, rfl, rfl, y0_0_0, y0_1_0, y0_2_0, y0_3_0, y0_4_0, y0_5_0, y1_0_0, y1_1_0, y1_2_0, y1_3_0, y1_4_0, y1_5_0, z0, B0⟩ := hcut
    obtain ⟨w0, hw0⟩ : ∃ w0 : World, w0 = wc := ⟨_, rfl⟩
    subst hw0
    go_wp2_with fail
    refine (szSpotS_yes _ l0 _ _ (h0.below B0 (Nat.le_refl _)) (by omega) (by omega) (by omega)).mono ?_; rintro e _ ⟨rfl, rfl⟩
    go_upto_region 5 with fail
    go_cut [8, 9] (fun q0 q1 wx => q0 = .bool (rComm l0 ⟨ee1, pp1, xb1, yb1, xa1, ya1⟩ ⟨ee2, pp2, xb2, yb2, xa2, ya2⟩).1 ∧ q1 = .bool (rComm l0 ⟨ee1, pp1, xb1, yb1, xa1, ya1⟩ ⟨ee2, pp2, xb2, yb2, xa2, ya2⟩).2 ∧ Below w0.heap.size w0 wx)
    case first =>
      go_region_held3 (fun w' => w'.cell? ⟨w.heap.size, 0, none⟩ = some (.int .i64 ee1) ∧ w'.cell? ⟨w.heap.size, 1, none⟩ = some (.int .i64 pp1) ∧ w'.cell? ⟨w.heap.size, 2, none⟩ = some (.int .i64 xb1) ∧ w'.cell? ⟨w.heap.size, 3, none⟩ = some (.int .i64 yb1) ∧ w'.cell? ⟨w.heap.size, 4, none⟩ = some (.int .i64 xa1) ∧ w'.cell? ⟨w.heap.size, 5, none⟩ = some (.int .i64 ya1) ∧ w'.cell? ⟨w.heap.size + 1, 0, none⟩ = some (.int .i64 ee2) ∧ w'.cell? ⟨w.heap.size + 1, 1, none⟩ = some (.int .i64 pp2) ∧ w'.cell? ⟨w.heap.size + 1, 2, none⟩ = some (.int .i64 xb2) ∧ w'.cell? ⟨w.heap.size + 1, 3, none⟩ = some (.int .i64 yb2) ∧ w'.cell? ⟨w.heap.size + 1, 4, none⟩ = some (.int .i64 xa2) ∧ w'.cell? ⟨w.heap.size + 1, 5, none⟩ = some (.int .i64 ya2))
        (first | go_keep | exact ⟨Below.keepC (((Below.refl w0.heap.size w0).drew).next (Nat.le_refl _) d1) y0_0_0 (Nat.le_refl _), Below.keepC (((Below.refl w0.heap.size w0).drew).next (Nat.le_refl _) d1) y0_1_0 (Nat.le_refl _), Below.keepC (((Below.refl w0.heap.size w0).drew).next (Nat.le_refl _) d1) y0_2_0 (Nat.le_refl _), Below.keepC (((Below.refl w0.heap.size w0).drew).next (Nat.le_refl _) d1) y0_3_0 (Nat.le_refl _), Below.keepC (((Below.refl w0.heap.size w0).drew).next (Nat.le_refl _) d1) y0_4_0 (Nat.le_refl _), Below.keepC (((Below.refl w0.heap.size w0).drew).next (Nat.le_refl _) d1) y0_5_0 (Nat.le_refl _), Below.keepC (((Below.refl w0.heap.size w0).drew).next (Nat.le_refl _) d1) y1_0_0 (Nat.le_refl _), Below.keepC (((Below.refl w0.heap.size w0).drew).next (Nat.le_refl _) d1) y1_1_0 (Nat.le_refl _), Below.keepC (((Below.refl w0.heap.size w0).drew).next (Nat.le_refl _) d1) y1_2_0 (Nat.le_refl _), Below.keepC (((Below.refl w0.heap.size w0).drew).next (Nat.le_refl _) d1) y1_3_0 (Nat.le_refl _), Below.keepC (((Below.refl w0.heap.size w0).drew).next (Nat.le_refl _) d1) y1_4_0 (Nat.le_refl _), Below.keepC (((Below.refl w0.heap.size w0).drew).next (Nat.le_refl _) d1) y1_5_0 (Nat.le_refl _)⟩ | exact ⟨Below.keepC ((((Below.refl w0.heap.size w0).drew).next (Nat.le_refl _) d1).next (Nat.le_refl _) d2) y0_0_0 (Nat.le_refl _), Below.keepC ((((Below.refl w0.heap.size w0).drew).next (Nat.le_refl _) d1).next (Nat.le_refl _) d2) y0_1_0 (Nat.le_refl _), Below.keepC ((((Below.refl w0.heap.size w0).drew).next (Nat.le_refl _) d1).next (Nat.le_refl _) d2) y0_2_0 (Nat.le_refl _), Below.keepC ((((Below.refl w0.heap.size w0).drew).next (Nat.le_refl _) d1).next (Nat.le_refl _) d2) y0_3_0 (Nat.le_refl _), Below.keepC ((((Below.refl w0.heap.size w0).drew).next (Nat.le_refl _) d1).next (Nat.le_refl _) d2) y0_4_0 (Nat.le_refl _), Below.keepC ((((Below.refl w0.heap.size w0).drew).next (Nat.le_refl _) d1).next (Nat.le_refl _) d2) y0_5_0 (Nat.le_refl _), Below.keepC ((((Below.refl w0.heap.size w0).drew).next (Nat.le_refl _) d1).next (Nat.le_refl _) d2) y1_0_0 (Nat.le_refl _), Below.keepC ((((Below.refl w0.heap.size w0).drew).next (Nat.le_refl _) d1).next (Nat.le_refl _) d2) y1_1_0 (Nat.le_refl _), Below.keepC ((((Below.refl w0.heap.size w0).drew).next (Nat.le_refl _) d1).next (Nat.le_refl _) d2) y1_2_0 (Nat.le_refl _), Below.keepC ((((Below.refl w0.heap.size w0).drew).next (Nat.le_refl _) d1).next (Nat.le_refl _) d2) y1_3_0 (Nat.le_refl _), Below.keepC ((((Below.refl w0.heap.size w0).drew).next (Nat.le_refl _) d1).next (Nat.le_refl _) d2) y1_4_0 (Nat.le_refl _), Below.keepC ((((Below.refl w0.heap.size w0).drew).next (Nat.le_refl _) d1).next (Nat.le_refl _) d2) y1_5_0 (Nat.le_refl _)⟩ | exact ⟨Below.keepC (((((Below.refl w0.heap.size w0).drew).next (Nat.le_refl _) d1).next (Nat.le_refl _) d2).next (Nat.le_refl _) d3) y0_0_0 (Nat.le_refl _), Below.keepC (((((Below.refl w0.heap.size w0).drew).next (Nat.le_refl _) d1).next (Nat.le_refl _) d2).next (Nat.le_refl _) d3) y0_1_0 (Nat.le_refl _), Below.keepC (((((Below.refl w0.heap.size w0).drew).next (Nat.le_refl _) d1).next (Nat.le_refl _) d2).next (Nat.le_refl _) d3) y0_2_0 (Nat.le_refl _), Below.keepC (((((Below.refl w0.heap.size w0).drew).next (Nat.le_refl _) d1).next (Nat.le_refl _) d2).next (Nat.le_refl _) d3) y0_3_0 (Nat.le_refl _), Below.keepC (((((Below.refl w0.heap.size w0).drew).next (Nat.le_refl _) d1).next (Nat.le_refl _) d2).next (Nat.le_refl _) d3) y0_4_0 (Nat.le_refl _), Below.keepC (((((Below.refl w0.heap.size w0).drew).next (Nat.le_refl _) d1).next (Nat.le_refl _) d2).next (Nat.le_refl _) d3) y0_5_0 (Nat.le_refl _), Below.keepC (((((Below.refl w0.heap.size w0).drew).next (Nat.le_refl _) d1).next (Nat.le_refl _) d2).next (Nat.le_refl _) d3) y1_0_0 (Nat.le_refl _), Below.keepC (((((Below.refl w0.heap.size w0).drew).next (Nat.le_refl _) d1).next (Nat.le_refl _) d2).next (Nat.le_refl _) d3) y1_1_0 (Nat.le_refl _), Below.keepC (((((Below.refl w0.heap.size w0).drew).next (Nat.le_refl _) d1).next (Nat.le_refl _) d2).next (Nat.le_refl _) d3) y1_2_0 (Nat.le_refl _), Below.keepC (((((Below.refl w0.heap.size w0).drew).next (Nat.le_refl _) d1).next (Nat.le_refl _) d2).next (Nat.le_refl _) d3) y1_3_0 (Nat.le_refl _), Below.keepC (((((Below.refl w0.heap.size w0).drew).next (Nat.le_refl _) d1).next (Nat.le_refl _) d2).next (Nat.le_refl _) d3) y1_4_0 (Nat.le_refl _), Below.keepC (((((Below.refl w0.heap.size w0).drew).next (Nat.le_refl _) d1).next (Nat.le_refl _) d2).next (Nat.le_refl _) d3) y1_5_0 (Nat.le_refl _)⟩ | exact ⟨Below.keepC ((((((Below.refl w0.heap.size w0).drew).next (Nat.le_refl _) d1).next (Nat.le_refl _) d2).next (Nat.le_refl _) d3).next (Nat.le_refl _) d4) y0_0_0 (Nat.le_refl _), Below.keepC ((((((Below.refl w0.heap.size w0).drew).next (Nat.le_refl _) d1).next (Nat.le_refl _) d2).next (Nat.le_refl _) d3).next (Nat.le_refl _) d4) y0_1_0 (Nat.le_refl _), Below.keepC ((((((Below.refl w0.heap.size w0).drew).next (Nat.le_refl _) d1).next (Nat.le_refl _) d2).next (Nat.le_refl _) d3).next (Nat.le_refl _) d4) y0_2_0 (Nat.le_refl _), Below.keepC ((((((Below.refl w0.heap.size w0).drew).next (Nat.le_refl _) d1).next (Nat.le_refl _) d2).next (Nat.le_refl _) d3).next (Nat.le_refl _) d4) y0_3_0 (Nat.le_refl _), Below.keepC ((((((Below.refl w0.heap.size w0).drew).next (Nat.le_refl _) d1).next (Nat.le_refl _) d2).next (Nat.le_refl _) d3).next (Nat.le_refl _) d4) y0_4_0 (Nat.le_refl _), Below.keepC ((((((Below.refl w0.heap.size w0).drew).next (Nat.le_refl _) d1).next (Nat.le_refl _) d2).next (Nat.le_refl _) d3).next (Nat.le_refl _) d4) y0_5_0 (Nat.le_refl _), Below.keepC ((((((Below.refl w0.heap.size w0).drew).next (Nat.le_refl _) d1).next (Nat.le_refl _) d2).next (Nat.le_refl _) d3).next (Nat.le_refl _) d4) y1_0_0 (Nat.le_refl _), Below.keepC ((((((Below.refl w0.heap.size w0).drew).next (Nat.le_refl _) d1).next (Nat.le_refl _) d2).next (Nat.le_refl _) d3).next (Nat.le_refl _) d4) y1_1_0 (Nat.le_refl _), Below.keepC ((((((Below.refl w0.heap.size w0).drew).next (Nat.le_refl _) d1).next (Nat.le_refl _) d2).next (Nat.le_refl _) d3).next (Nat.le_refl _) d4) y1_2_0 (Nat.le_refl _), Below.keepC ((((((Below.refl w0.heap.size w0).drew).next (Nat.le_refl _) d1).next (Nat.le_refl _) d2).next (Nat.le_refl _) d3).next (Nat.le_refl _) d4) y1_3_0 (Nat.le_refl _), Below.keepC ((((((Below.refl w0.heap.size w0).drew).next (Nat.le_refl _) d1).next (Nat.le_refl _) d2).next (Nat.le_refl _) d3).next (Nat.le_refl _) d4) y1_4_0 (Nat.le_refl _), Below.keepC ((((((Below.refl w0.heap.size w0).drew).next (Nat.le_refl _) d1).next (Nat.le_refl _) d2).next (Nat.le_refl _) d3).next (Nat.le_refl _) d4) y1_5_0 (Nat.le_refl _)⟩)
        (first
          | (go_at_call 14; refine (toSpotS_any _ l0 _ (h0.below ((B0).trans (((Below.refl w0.heap.size w0).drew).mono (by have := B0.size; omega))) (Nat.le_refl _)) (by omega)).mono ?_; rintro e u1_ ⟨z1, rfl, oz1, d1⟩)
          | (go_at_call 15; ((with_reducible refine (toEdit_r ⟨ee1, pp1, xb1, yb1, xa1, ya1⟩ _).mono ?_); rintro e u2_ ⟨rfl, d2⟩))
          | (go_at_call 15; ((with_reducible refine (toEdit_r ⟨ee2, pp2, xb2, yb2, xa2, ya2⟩ _).mono ?_); rintro e u3_ ⟨rfl, d3⟩))
          | (go_at_call 13; refine (specComm _ l0 ⟨ee1, pp1, xb1, yb1, xa1, ya1⟩ ⟨ee2, pp2, xb2, yb2, xa2, ya2⟩ _ (oz1.in_.keep (KeepIn.of_below ((d2).next (Nat.le_refl _) d3) (Nat.le_refl _))).reads ).mono ?_; rintro e u4_ ⟨rfl, d4⟩))
      all_goals
        go_wp2_with fail
        go_meet
        exact ⟨rfl, rfl, (((((Below.refl w0.heap.size w0).drew).next (Nat.le_refl _) d1).next (Nat.le_refl _) d2).next (Nat.le_refl _) d3).next (Nat.le_refl _) d4⟩
    case rest =>
      obtain ⟨rfl, rfl, b1⟩ := hcut
      obtain ⟨w1, hw1⟩ : ∃ w1 : World, w1 = wc := ⟨_, rfl⟩
      subst hw1
      have s1 := b1.size
      have y0_0_1 : w1.cell? ⟨w.heap.size, 0, none⟩ = some (.int .i64 ee1) := (b1.cell (p := ⟨w.heap.size, 0, none⟩) (by show w.heap.size < _; omega)).trans y0_0_0
      have y0_1_1 : w1.cell? ⟨w.heap.size, 1, none⟩ = some (.int .i64 pp1) := (b1.cell (p := ⟨w.heap.size, 1, none⟩) (by show w.heap.size < _; omega)).trans y0_1_0
      have y0_2_1 : w1.cell? ⟨w.heap.size, 2, none⟩ = some (.int .i64 xb1) := (b1.cell (p := ⟨w.heap.size, 2, none⟩) (by show w.heap.size < _; omega)).trans y0_2_0
      have y0_3_1 : w1.cell? ⟨w.heap.size, 3, none⟩ = some (.int .i64 yb1) := (b1.cell (p := ⟨w.heap.size, 3, none⟩) (by show w.heap.size < _; omega)).trans y0_3_0
      have y0_4_1 : w1.cell? ⟨w.heap.size, 4, none⟩ = some (.int .i64 xa1) := (b1.cell (p := ⟨w.heap.size, 4, none⟩) (by show w.heap.size < _; omega)).trans y0_4_0
      have y0_5_1 : w1.cell? ⟨w.heap.size, 5, none⟩ = some (.int .i64 ya1) := (b1.cell (p := ⟨w.heap.size, 5, none⟩) (by show w.heap.size < _; omega)).trans y0_5_0
      have y1_0_1 : w1.cell? ⟨w.heap.size + 1, 0, none⟩ = some (.int .i64 ee2) := (b1.cell (p := ⟨w.heap.size + 1, 0, none⟩) (by show w.heap.size + 1 < _; omega)).trans y1_0_0
      have y1_1_1 : w1.cell? ⟨w.heap.size + 1, 1, none⟩ = some (.int .i64 pp2) := (b1.cell (p := ⟨w.heap.size + 1, 1, none⟩) (by show w.heap.size + 1 < _; omega)).trans y1_1_0
      have y1_2_1 : w1.cell? ⟨w.heap.size + 1, 2, none⟩ = some (.int .i64 xb2) := (b1.cell (p := ⟨w.heap.size + 1, 2, none⟩) (by show w.heap.size + 1 < _; omega)).trans y1_2_0
      have y1_3_1 : w1.cell? ⟨w.heap.size + 1, 3, none⟩ = some (.int .i64 yb2) := (b1.cell (p := ⟨w.heap.size + 1, 3, none⟩) (by show w.heap.size + 1 < _; omega)).trans y1_3_0
      have y1_4_1 : w1.cell? ⟨w.heap.size + 1, 4, none⟩ = some (.int .i64 xa2) := (b1.cell (p := ⟨w.heap.size + 1, 4, none⟩) (by show w.heap.size + 1 < _; omega)).trans y1_4_0
      have y1_5_1 : w1.cell? ⟨w.heap.size + 1, 5, none⟩ = some (.int .i64 ya2) := (b1.cell (p := ⟨w.heap.size + 1, 5, none⟩) (by show w.heap.size + 1 < _; omega)).trans y1_5_0
      clear y0_0_0 y0_1_0 y0_2_0 y0_3_0 y0_4_0 y0_5_0 y1_0_0 y1_1_0 y1_2_0 y1_3_0 y1_4_0 y1_5_0
      have B1 := (B0).next (by omega) b1
      go_wp2_with fail
      refine (toSpotS_any _ l0 _ (h0.below B1 (Nat.le_refl _)) (by omega)).mono ?_; rintro e w2 ⟨t2, rfl, oT2, b2⟩
      have s2 := b2.size
      have y0_0_2 : w2.cell? ⟨w.heap.size, 0, none⟩ = some (.int .i64 ee1) := (b2.cell (p := ⟨w.heap.size, 0, none⟩) (by show w.heap.size < _; omega)).trans y0_0_1
      have y0_1_2 : w2.cell? ⟨w.heap.size, 1, none⟩ = some (.int .i64 pp1) := (b2.cell (p := ⟨w.heap.size, 1, none⟩) (by show w.heap.size < _; omega)).trans y0_1_1
      have y0_2_2 : w2.cell? ⟨w.heap.size, 2, none⟩ = some (.int .i64 xb1) := (b2.cell (p := ⟨w.heap.size, 2, none⟩) (by show w.heap.size < _; omega)).trans y0_2_1
      have y0_3_2 : w2.cell? ⟨w.heap.size, 3, none⟩ = some (.int .i64 yb1) := (b2.cell (p := ⟨w.heap.size, 3, none⟩) (by show w.heap.size < _; omega)).trans y0_3_1
      have y0_4_2 : w2.cell? ⟨w.heap.size, 4, none⟩ = some (.int .i64 xa1) := (b2.cell (p := ⟨w.heap.size, 4, none⟩) (by show w.heap.size < _; omega)).trans y0_4_1
      have y0_5_2 : w2.cell? ⟨w.heap.size, 5, none⟩ = some (.int .i64 ya1) := (b2.cell (p := ⟨w.heap.size, 5, none⟩) (by show w.heap.size < _; omega)).trans y0_5_1
      have y1_0_2 : w2.cell? ⟨w.heap.size + 1, 0, none⟩ = some (.int .i64 ee2) := (b2.cell (p := ⟨w.heap.size + 1, 0, none⟩) (by show w.heap.size + 1 < _; omega)).trans y1_0_1
      have y1_1_2 : w2.cell? ⟨w.heap.size + 1, 1, none⟩ = some (.int .i64 pp2) := (b2.cell (p := ⟨w.heap.size + 1, 1, none⟩) (by show w.heap.size + 1 < _; omega)).trans y1_1_1
      have y1_2_2 : w2.cell? ⟨w.heap.size + 1, 2, none⟩ = some (.int .i64 xb2) := (b2.cell (p := ⟨w.heap.size + 1, 2, none⟩) (by show w.heap.size + 1 < _; omega)).trans y1_2_1
      have y1_3_2 : w2.cell? ⟨w.heap.size + 1, 3, none⟩ = some (.int .i64 yb2) := (b2.cell (p := ⟨w.heap.size + 1, 3, none⟩) (by show w.heap.size + 1 < _; omega)).trans y1_3_1
      have y1_4_2 : w2.cell? ⟨w.heap.size + 1, 4, none⟩ = some (.int .i64 xa2) := (b2.cell (p := ⟨w.heap.size + 1, 4, none⟩) (by show w.heap.size + 1 < _; omega)).trans y1_4_1
      have y1_5_2 : w2.cell? ⟨w.heap.size + 1, 5, none⟩ = some (.int .i64 ya2) := (b2.cell (p := ⟨w.heap.size + 1, 5, none⟩) (by show w.heap.size + 1 < _; omega)).trans y1_5_1
      clear y0_0_1 y0_1_1 y0_2_1 y0_3_1 y0_4_1 y0_5_1 y1_0_1 y1_1_1 y1_2_1 y1_3_1 y1_4_1 y1_5_1
      have B2 := (B1).next (by omega) b2
      have oT2_i := oT2.in_; clear oT2
      go_upto_region 7 with fail
      go_cut [11, 12] (fun q0 q1 wx => q0 = .bool (rComm l0 ⟨ee1, pp1, xb1, yb1, xa1, ya1⟩ ⟨ee2, pp2, xb2, yb2, xa2, ya2⟩).1 ∧ q1 = .bool (rComm l0 ⟨ee1, pp1, xb1, yb1, xa1, ya1⟩ ⟨ee2, pp2, xb2, yb2, xa2, ya2⟩).2 ∧ Below w2.heap.size w2 wx)
      case first =>
        go_region_held3 (fun w' => w'.cell? ⟨w.heap.size, 0, none⟩ = some (.int .i64 ee1) ∧ w'.cell? ⟨w.heap.size, 1, none⟩ = some (.int .i64 pp1) ∧ w'.cell? ⟨w.heap.size, 2, none⟩ = some (.int .i64 xb1) ∧ w'.cell? ⟨w.heap.size, 3, none⟩ = some (.int .i64 yb1) ∧ w'.cell? ⟨w.heap.size, 4, none⟩ = some (.int .i64 xa1) ∧ w'.cell? ⟨w.heap.size, 5, none⟩ = some (.int .i64 ya1) ∧ w'.cell? ⟨w.heap.size + 1, 0, none⟩ = some (.int .i64 ee2) ∧ w'.cell? ⟨w.heap.size + 1, 1, none⟩ = some (.int .i64 pp2) ∧ w'.cell? ⟨w.heap.size + 1, 2, none⟩ = some (.int .i64 xb2) ∧ w'.cell? ⟨w.heap.size + 1, 3, none⟩ = some (.int .i64 yb2) ∧ w'.cell? ⟨w.heap.size + 1, 4, none⟩ = some (.int .i64 xa2) ∧ w'.cell? ⟨w.heap.size + 1, 5, none⟩ = some (.int .i64 ya2))
          (first | go_keep | exact ⟨Below.keepC (((Below.refl w2.heap.size w2).drew).next (Nat.le_refl _) d1) y0_0_2 (Nat.le_refl _), Below.keepC (((Below.refl w2.heap.size w2).drew).next (Nat.le_refl _) d1) y0_1_2 (Nat.le_refl _), Below.keepC (((Below.refl w2.heap.size w2).drew).next (Nat.le_refl _) d1) y0_2_2 (Nat.le_refl _), Below.keepC (((Below.refl w2.heap.size w2).drew).next (Nat.le_refl _) d1) y0_3_2 (Nat.le_refl _), Below.keepC (((Below.refl w2.heap.size w2).drew).next (Nat.le_refl _) d1) y0_4_2 (Nat.le_refl _), Below.keepC (((Below.refl w2.heap.size w2).drew).next (Nat.le_refl _) d1) y0_5_2 (Nat.le_refl _), Below.keepC (((Below.refl w2.heap.size w2).drew).next (Nat.le_refl _) d1) y1_0_2 (Nat.le_refl _), Below.keepC (((Below.refl w2.heap.size w2).drew).next (Nat.le_refl _) d1) y1_1_2 (Nat.le_refl _), Below.keepC (((Below.refl w2.heap.size w2).drew).next (Nat.le_refl _) d1) y1_2_2 (Nat.le_refl _), Below.keepC (((Below.refl w2.heap.size w2).drew).next (Nat.le_refl _) d1) y1_3_2 (Nat.le_refl _), Below.keepC (((Below.refl w2.heap.size w2).drew).next (Nat.le_refl _) d1) y1_4_2 (Nat.le_refl _), Below.keepC (((Below.refl w2.heap.size w2).drew).next (Nat.le_refl _) d1) y1_5_2 (Nat.le_refl _)⟩ | exact ⟨Below.keepC ((((Below.refl w2.heap.size w2).drew).next (Nat.le_refl _) d1).next (Nat.le_refl _) d2) y0_0_2 (Nat.le_refl _), Below.keepC ((((Below.refl w2.heap.size w2).drew).next (Nat.le_refl _) d1).next (Nat.le_refl _) d2) y0_1_2 (Nat.le_refl _), Below.keepC ((((Below.refl w2.heap.size w2).drew).next (Nat.le_refl _) d1).next (Nat.le_refl _) d2) y0_2_2 (Nat.le_refl _), Below.keepC ((((Below.refl w2.heap.size w2).drew).next (Nat.le_refl _) d1).next (Nat.le_refl _) d2) y0_3_2 (Nat.le_refl _), Below.keepC ((((Below.refl w2.heap.size w2).drew).next (Nat.le_refl _) d1).next (Nat.le_refl _) d2) y0_4_2 (Nat.le_refl _), Below.keepC ((((Below.refl w2.heap.size w2).drew).next (Nat.le_refl _) d1).next (Nat.le_refl _) d2) y0_5_2 (Nat.le_refl _), Below.keepC ((((Below.refl w2.heap.size w2).drew).next (Nat.le_refl _) d1).next (Nat.le_refl _) d2) y1_0_2 (Nat.le_refl _), Below.keepC ((((Below.refl w2.heap.size w2).drew).next (Nat.le_refl _) d1).next (Nat.le_refl _) d2) y1_1_2 (Nat.le_refl _), Below.keepC ((((Below.refl w2.heap.size w2).drew).next (Nat.le_refl _) d1).next (Nat.le_refl _) d2) y1_2_2 (Nat.le_refl _), Below.keepC ((((Below.refl w2.heap.size w2).drew).next (Nat.le_refl _) d1).next (Nat.le_refl _) d2) y1_3_2 (Nat.le_refl _), Below.keepC ((((Below.refl w2.heap.size w2).drew).next (Nat.le_refl _) d1).next (Nat.le_refl _) d2) y1_4_2 (Nat.le_refl _), Below.keepC ((((Below.refl w2.heap.size w2).drew).next (Nat.le_refl _) d1).next (Nat.le_refl _) d2) y1_5_2 (Nat.le_refl _)⟩ | exact ⟨Below.keepC (((((Below.refl w2.heap.size w2).drew).next (Nat.le_refl _) d1).next (Nat.le_refl _) d2).next (Nat.le_refl _) d3) y0_0_2 (Nat.le_refl _), Below.keepC (((((Below.refl w2.heap.size w2).drew).next (Nat.le_refl _) d1).next (Nat.le_refl _) d2).next (Nat.le_refl _) d3) y0_1_2 (Nat.le_refl _), Below.keepC (((((Below.refl w2.heap.size w2).drew).next (Nat.le_refl _) d1).next (Nat.le_refl _) d2).next (Nat.le_refl _) d3) y0_2_2 (Nat.le_refl _), Below.keepC (((((Below.refl w2.heap.size w2).drew).next (Nat.le_refl _) d1).next (Nat.le_refl _) d2).next (Nat.le_refl _) d3) y0_3_2 (Nat.le_refl _), Below.keepC (((((Below.refl w2.heap.size w2).drew).next (Nat.le_refl _) d1).next (Nat.le_refl _) d2).next (Nat.le_refl _) d3) y0_4_2 (Nat.le_refl _), Below.keepC (((((Below.refl w2.heap.size w2).drew).next (Nat.le_refl _) d1).next (Nat.le_refl _) d2).next (Nat.le_refl _) d3) y0_5_2 (Nat.le_refl _), Below.keepC (((((Below.refl w2.heap.size w2).drew).next (Nat.le_refl _) d1).next (Nat.le_refl _) d2).next (Nat.le_refl _) d3) y1_0_2 (Nat.le_refl _), Below.keepC (((((Below.refl w2.heap.size w2).drew).next (Nat.le_refl _) d1).next (Nat.le_refl _) d2).next (Nat.le_refl _) d3) y1_1_2 (Nat.le_refl _), Below.keepC (((((Below.refl w2.heap.size w2).drew).next (Nat.le_refl _) d1).next (Nat.le_refl _) d2).next (Nat.le_refl _) d3) y1_2_2 (Nat.le_refl _), Below.keepC (((((Below.refl w2.heap.size w2).drew).next (Nat.le_refl _) d1).next (Nat.le_refl _) d2).next (Nat.le_refl _) d3) y1_3_2 (Nat.le_refl _), Below.keepC (((((Below.refl w2.heap.size w2).drew).next (Nat.le_refl _) d1).next (Nat.le_refl _) d2).next (Nat.le_refl _) d3) y1_4_2 (Nat.le_refl _), Below.keepC (((((Below.refl w2.heap.size w2).drew).next (Nat.le_refl _) d1).next (Nat.le_refl _) d2).next (Nat.le_refl _) d3) y1_5_2 (Nat.le_refl _)⟩)
          (first
            | (go_at_call 15; ((with_reducible refine (toEdit_r ⟨ee1, pp1, xb1, yb1, xa1, ya1⟩ _).mono ?_); rintro e u1_ ⟨rfl, d1⟩))
            | (go_at_call 15; ((with_reducible refine (toEdit_r ⟨ee2, pp2, xb2, yb2, xa2, ya2⟩ _).mono ?_); rintro e u2_ ⟨rfl, d2⟩))
            | (go_at_call 16; refine (implComm _ l0 ⟨ee1, pp1, xb1, yb1, xa1, ya1⟩ ⟨ee2, pp2, xb2, yb2, xa2, ya2⟩ _ (oT2_i.keep (KeepIn.of_below ((((Below.refl w2.heap.size w2).drew).next (Nat.le_refl _) d1).next (Nat.le_refl _) d2) (by omega))).reads ).mono ?_; rintro e u3_ ⟨rfl, d3⟩))
        all_goals
          go_wp2_with fail
          go_meet
          exact ⟨rfl, rfl, ((((Below.refl w2.heap.size w2).drew).next (Nat.le_refl _) d1).next (Nat.le_refl _) d2).next (Nat.le_refl _) d3⟩
      case rest =>
        obtain ⟨rfl, rfl, b3⟩ := hcut
        obtain ⟨w3, hw3⟩ : ∃ w3 : World, w3 = wc := ⟨_, rfl⟩
        subst hw3
        have s3 := b3.size
        have y0_0_3 : w3.cell? ⟨w.heap.size, 0, none⟩ = some (.int .i64 ee1) := (b3.cell (p := ⟨w.heap.size, 0, none⟩) (by show w.heap.size < _; omega)).trans y0_0_2
        have y0_1_3 : w3.cell? ⟨w.heap.size, 1, none⟩ = some (.int .i64 pp1) := (b3.cell (p := ⟨w.heap.size, 1, none⟩) (by show w.heap.size < _; omega)).trans y0_1_2
        have y0_2_3 : w3.cell? ⟨w.heap.size, 2, none⟩ = some (.int .i64 xb1) := (b3.cell (p := ⟨w.heap.size, 2, none⟩) (by show w.heap.size < _; omega)).trans y0_2_2
        have y0_3_3 : w3.cell? ⟨w.heap.size, 3, none⟩ = some (.int .i64 yb1) := (b3.cell (p := ⟨w.heap.size, 3, none⟩) (by show w.heap.size < _; omega)).trans y0_3_2
        have y0_4_3 : w3.cell? ⟨w.heap.size, 4, none⟩ = some (.int .i64 xa1) := (b3.cell (p := ⟨w.heap.size, 4, none⟩) (by show w.heap.size < _; omega)).trans y0_4_2
        have y0_5_3 : w3.cell? ⟨w.heap.size, 5, none⟩ = some (.int .i64 ya1) := (b3.cell (p := ⟨w.heap.size, 5, none⟩) (by show w.heap.size < _; omega)).trans y0_5_2
        have y1_0_3 : w3.cell? ⟨w.heap.size + 1, 0, none⟩ = some (.int .i64 ee2) := (b3.cell (p := ⟨w.heap.size + 1, 0, none⟩) (by show w.heap.size + 1 < _; omega)).trans y1_0_2
        have y1_1_3 : w3.cell? ⟨w.heap.size + 1, 1, none⟩ = some (.int .i64 pp2) := (b3.cell (p := ⟨w.heap.size + 1, 1, none⟩) (by show w.heap.size + 1 < _; omega)).trans y1_1_2
        have y1_2_3 : w3.cell? ⟨w.heap.size + 1, 2, none⟩ = some (.int .i64 xb2) := (b3.cell (p := ⟨w.heap.size + 1, 2, none⟩) (by show w.heap.size + 1 < _; omega)).trans y1_2_2
        have y1_3_3 : w3.cell? ⟨w.heap.size + 1, 3, none⟩ = some (.int .i64 yb2) := (b3.cell (p := ⟨w.heap.size + 1, 3, none⟩) (by show w.heap.size + 1 < _; omega)).trans y1_3_2
        have y1_4_3 : w3.cell? ⟨w.heap.size + 1, 4, none⟩ = some (.int .i64 xa2) := (b3.cell (p := ⟨w.heap.size + 1, 4, none⟩) (by show w.heap.size + 1 < _; omega)).trans y1_4_2
        have y1_5_3 : w3.cell? ⟨w.heap.size + 1, 5, none⟩ = some (.int .i64 ya2) := (b3.cell (p := ⟨w.heap.size + 1, 5, none⟩) (by show w.heap.size + 1 < _; omega)).trans y1_5_2
        clear y0_0_2 y0_1_2 y0_2_2 y0_3_2 y0_4_2 y0_5_2 y1_0_2 y1_1_2 y1_2_2 y1_3_2 y1_4_2 y1_5_2
        have B3 := (B2).next (by omega) b3
        have ox0_3 := oT2_i.keep (KeepIn.of_below b3 (by omega))
        clear oT2_i
        go_wp2_with fail
        refine (toSpotS_any _ l0 _ (h0.below B3 (Nat.le_refl _)) (by omega)).mono ?_; rintro e w4 ⟨t4, rfl, oT4, b4⟩
        have s4 := b4.size
        have y0_0_4 : w4.cell? ⟨w.heap.size, 0, none⟩ = some (.int .i64 ee1) := (b4.cell (p := ⟨w.heap.size, 0, none⟩) (by show w.heap.size < _; omega)).trans y0_0_3
        have y0_1_4 : w4.cell? ⟨w.heap.size, 1, none⟩ = some (.int .i64 pp1) := (b4.cell (p := ⟨w.heap.size, 1, none⟩) (by show w.heap.size < _; omega)).trans y0_1_3
        have y0_2_4 : w4.cell? ⟨w.heap.size, 2, none⟩ = some (.int .i64 xb1) := (b4.cell (p := ⟨w.heap.size, 2, none⟩) (by show w.heap.size < _; omega)).trans y0_2_3
        have y0_3_4 : w4.cell? ⟨w.heap.size, 3, none⟩ = some (.int .i64 yb1) := (b4.cell (p := ⟨w.heap.size, 3, none⟩) (by show w.heap.size < _; omega)).trans y0_3_3
        have y0_4_4 : w4.cell? ⟨w.heap.size, 4, none⟩ = some (.int .i64 xa1) := (b4.cell (p := ⟨w.heap.size, 4, none⟩) (by show w.heap.size < _; omega)).trans y0_4_3
        have y0_5_4 : w4.cell? ⟨w.heap.size, 5, none⟩ = some (.int .i64 ya1) := (b4.cell (p := ⟨w.heap.size, 5, none⟩) (by show w.heap.size < _; omega)).trans y0_5_3
        have y1_0_4 : w4.cell? ⟨w.heap.size + 1, 0, none⟩ = some (.int .i64 ee2) := (b4.cell (p := ⟨w.heap.size + 1, 0, none⟩) (by show w.heap.size + 1 < _; omega)).trans y1_0_3
        have y1_1_4 : w4.cell? ⟨w.heap.size + 1, 1, none⟩ = some (.int .i64 pp2) := (b4.cell (p := ⟨w.heap.size + 1, 1, none⟩) (by show w.heap.size + 1 < _; omega)).trans y1_1_3
        have y1_2_4 : w4.cell? ⟨w.heap.size + 1, 2, none⟩ = some (.int .i64 xb2) := (b4.cell (p := ⟨w.heap.size + 1, 2, none⟩) (by show w.heap.size + 1 < _; omega)).trans y1_2_3
        have y1_3_4 : w4.cell? ⟨w.heap.size + 1, 3, none⟩ = some (.int .i64 yb2) := (b4.cell (p := ⟨w.heap.size + 1, 3, none⟩) (by show w.heap.size + 1 < _; omega)).trans y1_3_3
        have y1_4_4 : w4.cell? ⟨w.heap.size + 1, 4, none⟩ = some (.int .i64 xa2) := (b4.cell (p := ⟨w.heap.size + 1, 4, none⟩) (by show w.heap.size + 1 < _; omega)).trans y1_4_3
        have y1_5_4 : w4.cell? ⟨w.heap.size + 1, 5, none⟩ = some (.int .i64 ya2) := (b4.cell (p := ⟨w.heap.size + 1, 5, none⟩) (by show w.heap.size + 1 < _; omega)).trans y1_5_3
        clear y0_0_3 y0_1_3 y0_2_3 y0_3_3 y0_4_3 y0_5_3 y1_0_3 y1_1_3 y1_2_3 y1_3_3 y1_4_3 y1_5_3
        have B4 := (B3).next (by omega) b4
        have ox0_4 := ox0_3.keep (KeepIn.of_below b4 (by omega))
        clear ox0_3
        have oT4_i := oT4.in_; clear oT4
        go_wp2_with fail
        refine (eqSpotS_any _ _ l0 l0 _ ox0_4.reads oT4_i.reads).mono ?_; rintro e w5 ⟨rfl, b5⟩
        have s5 := b5.size
        have y0_0_5 : w5.cell? ⟨w.heap.size, 0, none⟩ = some (.int .i64 ee1) := (b5.cell (p := ⟨w.heap.size, 0, none⟩) (by show w.heap.size < _; omega)).trans y0_0_4
        have y0_1_5 : w5.cell? ⟨w.heap.size, 1, none⟩ = some (.int .i64 pp1) := (b5.cell (p := ⟨w.heap.size, 1, none⟩) (by show w.heap.size < _; omega)).trans y0_1_4
        have y0_2_5 : w5.cell? ⟨w.heap.size, 2, none⟩ = some (.int .i64 xb1) := (b5.cell (p := ⟨w.heap.size, 2, none⟩) (by show w.heap.size < _; omega)).trans y0_2_4
        have y0_3_5 : w5.cell? ⟨w.heap.size, 3, none⟩ = some (.int .i64 yb1) := (b5.cell (p := ⟨w.heap.size, 3, none⟩) (by show w.heap.size < _; omega)).trans y0_3_4
        have y0_4_5 : w5.cell? ⟨w.heap.size, 4, none⟩ = some (.int .i64 xa1) := (b5.cell (p := ⟨w.heap.size, 4, none⟩) (by show w.heap.size < _; omega)).trans y0_4_4
        have y0_5_5 : w5.cell? ⟨w.heap.size, 5, none⟩ = some (.int .i64 ya1) := (b5.cell (p := ⟨w.heap.size, 5, none⟩) (by show w.heap.size < _; omega)).trans y0_5_4
        have y1_0_5 : w5.cell? ⟨w.heap.size + 1, 0, none⟩ = some (.int .i64 ee2) := (b5.cell (p := ⟨w.heap.size + 1, 0, none⟩) (by show w.heap.size + 1 < _; omega)).trans y1_0_4
        have y1_1_5 : w5.cell? ⟨w.heap.size + 1, 1, none⟩ = some (.int .i64 pp2) := (b5.cell (p := ⟨w.heap.size + 1, 1, none⟩) (by show w.heap.size + 1 < _; omega)).trans y1_1_4
        have y1_2_5 : w5.cell? ⟨w.heap.size + 1, 2, none⟩ = some (.int .i64 xb2) := (b5.cell (p := ⟨w.heap.size + 1, 2, none⟩) (by show w.heap.size + 1 < _; omega)).trans y1_2_4
        have y1_3_5 : w5.cell? ⟨w.heap.size + 1, 3, none⟩ = some (.int .i64 yb2) := (b5.cell (p := ⟨w.heap.size + 1, 3, none⟩) (by show w.heap.size + 1 < _; omega)).trans y1_3_4
        have y1_4_5 : w5.cell? ⟨w.heap.size + 1, 4, none⟩ = some (.int .i64 xa2) := (b5.cell (p := ⟨w.heap.size + 1, 4, none⟩) (by show w.heap.size + 1 < _; omega)).trans y1_4_4
        have y1_5_5 : w5.cell? ⟨w.heap.size + 1, 5, none⟩ = some (.int .i64 ya2) := (b5.cell (p := ⟨w.heap.size + 1, 5, none⟩) (by show w.heap.size + 1 < _; omega)).trans y1_5_4
        clear y0_0_4 y0_1_4 y0_2_4 y0_3_4 y0_4_4 y0_5_4 y1_0_4 y1_1_4 y1_2_4 y1_3_4 y1_4_4 y1_5_4
        have B5 := (B4).next (by omega) b5
        have ox0_5 := ox0_4.keep (KeepIn.of_below b5 (by omega))
        clear ox0_4
        have oT4_5 := oT4_i.keep (KeepIn.of_below b5 (by omega))
        clear oT4_i
        clear oT4_5
        go_wp2_with fail
        go_ret
        exact ⟨rfl, B5⟩
end Go.Proofs.Ytkefeigkaflakaa
