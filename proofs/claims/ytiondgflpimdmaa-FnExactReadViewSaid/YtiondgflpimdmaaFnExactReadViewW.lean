/- The walk of the law FnExactReadView: whatever the arguments, it returns true and writes nothing that was there. -/
import Derived.Test.YtiondgflpimdmaaRvI
import Derived.Test.YtiondgflpimdmaaRvS
import Derived.Test.YtiondgflpimdmaaOpenSt
import Derived.Test.YtiondgflpimdmaaOpenS
import Derived.Test.YtiondgflpimdmaaMkE
import Derived.Test.YtiondgflpimdmaaOpen
import Derived.Test.YtiondgflpimdmaaMark
import Derived.Deep.DeepCutAuto
import Derived.Deep.RegionWith
set_option linter.unusedSimpArgs false
set_option linter.unusedVariables false
namespace Go.Proofs.Ytiondgflpimdmaa
open Go.RowKit

set_option maxRecDepth 100000 in
set_option maxHeartbeats 400000 in
theorem FnExactReadView_walk (x0 y0 c0 r0 : Int) (v1 : Value) (l1 : List ByteArray) (w : World) (h1 : RowAt strRec w v1 l1) (f1 : WfStrs l1) :
    Calls Try.prog 3 #[.agg #[.int .i64 x0, .int .i64 y0, .int .i64 c0, .int .i64 r0], v1] w (LawPost w) := by
  have hb0 := fun o0 => ((Below.refl w.heap.size w).alloc (Nat.le_refl _) o0)
  have Hb0 := Lib.hid hb0
  clear hb0
  rcases Nat.lt_or_ge 1048576 (l1.length + totS l1) with hbig | hl1
  · go_enter Try.func3, Try.ntmps3
    go_wp2_with fail
    refine (szStringS_no _ l1 _ _ (h1.below (Hb0.out _) (Nat.le_refl _)) f1 (by omega) (by omega) (by omega)).mono ?_; rintro e _ ⟨rfl, rfl⟩
    go_wp2_with fail
    go_ret
    exact ⟨rfl, (Hb0.out _)⟩
  have hrl := rRV_len x0 y0 c0 r0 l1
  go_enter Try.func3, Try.ntmps3
  go_upto_region 0 with fail
  go_cut [2, 4] (fun b0 rz wx => b0 = .pointer (some ⟨w.heap.size, 0, none⟩) ∧ rz = .bool false ∧ wx.cell? ⟨w.heap.size, 0, none⟩ = some (.int .i64 x0) ∧ wx.cell? ⟨w.heap.size, 1, none⟩ = some (.int .i64 y0) ∧ wx.cell? ⟨w.heap.size, 2, none⟩ = some (.int .i64 c0) ∧ wx.cell? ⟨w.heap.size, 3, none⟩ = some (.int .i64 r0) ∧ w.heap.size + 1 ≤ wx.heap.size ∧ Below w.heap.size w wx)
  case first =>
    go_wp2_with fail
    go_meet
    exact ⟨rfl, rfl, by go_simp, by go_simp, by go_simp, by go_simp, by simp <;> omega, (Hb0.out _)⟩
  case rest =>
    obtain ⟨rfl, rfl, y0_0_0, y0_1_0, y0_2_0, y0_3_0, z0, B0⟩ := hcut
    obtain ⟨w0, hw0⟩ : ∃ w0 : World, w0 = wc := ⟨_, rfl⟩
    subst hw0
    go_wp2_with fail
    refine (szStringS_yes _ l1 _ _ (h1.below B0 (Nat.le_refl _)) (by omega) (by omega) (by omega)).mono ?_; rintro e _ ⟨rfl, rfl⟩
    go_wp2_with fail
    refine (toFrame_any _ _ _ _ _).mono ?_; rintro e w1 ⟨rfl, b1⟩
    have s1 := b1.size
    have y0_0_1 : w1.cell? ⟨w.heap.size, 0, none⟩ = some (.int .i64 x0) := (b1.cell (p := ⟨w.heap.size, 0, none⟩) (by show w.heap.size < _; omega)).trans y0_0_0
    have y0_1_1 : w1.cell? ⟨w.heap.size, 1, none⟩ = some (.int .i64 y0) := (b1.cell (p := ⟨w.heap.size, 1, none⟩) (by show w.heap.size < _; omega)).trans y0_1_0
    have y0_2_1 : w1.cell? ⟨w.heap.size, 2, none⟩ = some (.int .i64 c0) := (b1.cell (p := ⟨w.heap.size, 2, none⟩) (by show w.heap.size < _; omega)).trans y0_2_0
    have y0_3_1 : w1.cell? ⟨w.heap.size, 3, none⟩ = some (.int .i64 r0) := (b1.cell (p := ⟨w.heap.size, 3, none⟩) (by show w.heap.size < _; omega)).trans y0_3_0
    clear y0_0_0 y0_1_0 y0_2_0 y0_3_0
    have B1 := (B0).next (by omega) b1
    go_wp2_with fail
    refine (toStringS_any _ l1 _ (h1.below B1 (Nat.le_refl _)) (by omega)).mono ?_; rintro e w2 ⟨t2, rfl, oT2, b2⟩
    have s2 := b2.size
    have y0_0_2 : w2.cell? ⟨w.heap.size, 0, none⟩ = some (.int .i64 x0) := (b2.cell (p := ⟨w.heap.size, 0, none⟩) (by show w.heap.size < _; omega)).trans y0_0_1
    have y0_1_2 : w2.cell? ⟨w.heap.size, 1, none⟩ = some (.int .i64 y0) := (b2.cell (p := ⟨w.heap.size, 1, none⟩) (by show w.heap.size < _; omega)).trans y0_1_1
    have y0_2_2 : w2.cell? ⟨w.heap.size, 2, none⟩ = some (.int .i64 c0) := (b2.cell (p := ⟨w.heap.size, 2, none⟩) (by show w.heap.size < _; omega)).trans y0_2_1
    have y0_3_2 : w2.cell? ⟨w.heap.size, 3, none⟩ = some (.int .i64 r0) := (b2.cell (p := ⟨w.heap.size, 3, none⟩) (by show w.heap.size < _; omega)).trans y0_3_1
    clear y0_0_1 y0_1_1 y0_2_1 y0_3_1
    have B2 := (B1).next (by omega) b2
    have oT2_i := oT2.in_; clear oT2
    go_wp2_with fail
    refine (specRV _ l1 _ _ _ _ _ oT2_i.reads f1 ).mono ?_; rintro e w3 ⟨r3_0, rfl, oR3_0, b3⟩
    have s3 := b3.size
    have y0_0_3 : w3.cell? ⟨w.heap.size, 0, none⟩ = some (.int .i64 x0) := (b3.cell (p := ⟨w.heap.size, 0, none⟩) (by show w.heap.size < _; omega)).trans y0_0_2
    have y0_1_3 : w3.cell? ⟨w.heap.size, 1, none⟩ = some (.int .i64 y0) := (b3.cell (p := ⟨w.heap.size, 1, none⟩) (by show w.heap.size < _; omega)).trans y0_1_2
    have y0_2_3 : w3.cell? ⟨w.heap.size, 2, none⟩ = some (.int .i64 c0) := (b3.cell (p := ⟨w.heap.size, 2, none⟩) (by show w.heap.size < _; omega)).trans y0_2_2
    have y0_3_3 : w3.cell? ⟨w.heap.size, 3, none⟩ = some (.int .i64 r0) := (b3.cell (p := ⟨w.heap.size, 3, none⟩) (by show w.heap.size < _; omega)).trans y0_3_2
    clear y0_0_2 y0_1_2 y0_2_2 y0_3_2
    have B3 := (B2).next (by omega) b3
    have oT2_3 := oT2_i.keep (KeepIn.of_below b3 (by omega))
    clear oT2_i
    have oR3_0_i := oR3_0.in_; clear oR3_0
    clear oT2_3
    go_wp2_with fail
    refine (toStringS_any _ l1 _ (h1.below B3 (Nat.le_refl _)) (by omega)).mono ?_; rintro e w4 ⟨t4, rfl, oT4, b4⟩
    have s4 := b4.size
    have y0_0_4 : w4.cell? ⟨w.heap.size, 0, none⟩ = some (.int .i64 x0) := (b4.cell (p := ⟨w.heap.size, 0, none⟩) (by show w.heap.size < _; omega)).trans y0_0_3
    have y0_1_4 : w4.cell? ⟨w.heap.size, 1, none⟩ = some (.int .i64 y0) := (b4.cell (p := ⟨w.heap.size, 1, none⟩) (by show w.heap.size < _; omega)).trans y0_1_3
    have y0_2_4 : w4.cell? ⟨w.heap.size, 2, none⟩ = some (.int .i64 c0) := (b4.cell (p := ⟨w.heap.size, 2, none⟩) (by show w.heap.size < _; omega)).trans y0_2_3
    have y0_3_4 : w4.cell? ⟨w.heap.size, 3, none⟩ = some (.int .i64 r0) := (b4.cell (p := ⟨w.heap.size, 3, none⟩) (by show w.heap.size < _; omega)).trans y0_3_3
    clear y0_0_3 y0_1_3 y0_2_3 y0_3_3
    have B4 := (B3).next (by omega) b4
    have ow0_4 := oR3_0_i.keep (KeepIn.of_below b4 (by omega))
    clear oR3_0_i
    have oT4_i := oT4.in_; clear oT4
    go_wp2_with fail
    refine (toFrame_any _ _ _ _ _).mono ?_; rintro e w5 ⟨rfl, b5⟩
    have s5 := b5.size
    have y0_0_5 : w5.cell? ⟨w.heap.size, 0, none⟩ = some (.int .i64 x0) := (b5.cell (p := ⟨w.heap.size, 0, none⟩) (by show w.heap.size < _; omega)).trans y0_0_4
    have y0_1_5 : w5.cell? ⟨w.heap.size, 1, none⟩ = some (.int .i64 y0) := (b5.cell (p := ⟨w.heap.size, 1, none⟩) (by show w.heap.size < _; omega)).trans y0_1_4
    have y0_2_5 : w5.cell? ⟨w.heap.size, 2, none⟩ = some (.int .i64 c0) := (b5.cell (p := ⟨w.heap.size, 2, none⟩) (by show w.heap.size < _; omega)).trans y0_2_4
    have y0_3_5 : w5.cell? ⟨w.heap.size, 3, none⟩ = some (.int .i64 r0) := (b5.cell (p := ⟨w.heap.size, 3, none⟩) (by show w.heap.size < _; omega)).trans y0_3_4
    clear y0_0_4 y0_1_4 y0_2_4 y0_3_4
    have B5 := (B4).next (by omega) b5
    have ow0_5 := ow0_4.keep (KeepIn.of_below b5 (by omega))
    clear ow0_4
    have ox1_5 := oT4_i.keep (KeepIn.of_below b5 (by omega))
    clear oT4_i
    go_wp2_with fail
    refine (implRV _ l1 _ _ _ _ _ ox1_5.reads f1 ).mono ?_; rintro e w6 ⟨r6_0, rfl, oR6_0, b6⟩
    have s6 := b6.size
    have y0_0_6 : w6.cell? ⟨w.heap.size, 0, none⟩ = some (.int .i64 x0) := (b6.cell (p := ⟨w.heap.size, 0, none⟩) (by show w.heap.size < _; omega)).trans y0_0_5
    have y0_1_6 : w6.cell? ⟨w.heap.size, 1, none⟩ = some (.int .i64 y0) := (b6.cell (p := ⟨w.heap.size, 1, none⟩) (by show w.heap.size < _; omega)).trans y0_1_5
    have y0_2_6 : w6.cell? ⟨w.heap.size, 2, none⟩ = some (.int .i64 c0) := (b6.cell (p := ⟨w.heap.size, 2, none⟩) (by show w.heap.size < _; omega)).trans y0_2_5
    have y0_3_6 : w6.cell? ⟨w.heap.size, 3, none⟩ = some (.int .i64 r0) := (b6.cell (p := ⟨w.heap.size, 3, none⟩) (by show w.heap.size < _; omega)).trans y0_3_5
    clear y0_0_5 y0_1_5 y0_2_5 y0_3_5
    have B6 := (B5).next (by omega) b6
    have ow0_6 := ow0_5.keep (KeepIn.of_below b6 (by omega))
    clear ow0_5
    have ox1_6 := ox1_5.keep (KeepIn.of_below b6 (by omega))
    clear ox1_5
    have oR6_0_i := oR6_0.in_; clear oR6_0
    go_wp2_with fail
    refine (eqSpotS_any _ _ (rRV x0 y0 c0 r0 l1).1 (rRV x0 y0 c0 r0 l1).1 _ oR6_0_i.reads ow0_6.reads).mono ?_; rintro e w7 ⟨rfl, b7⟩
    have s7 := b7.size
    have y0_0_7 : w7.cell? ⟨w.heap.size, 0, none⟩ = some (.int .i64 x0) := (b7.cell (p := ⟨w.heap.size, 0, none⟩) (by show w.heap.size < _; omega)).trans y0_0_6
    have y0_1_7 : w7.cell? ⟨w.heap.size, 1, none⟩ = some (.int .i64 y0) := (b7.cell (p := ⟨w.heap.size, 1, none⟩) (by show w.heap.size < _; omega)).trans y0_1_6
    have y0_2_7 : w7.cell? ⟨w.heap.size, 2, none⟩ = some (.int .i64 c0) := (b7.cell (p := ⟨w.heap.size, 2, none⟩) (by show w.heap.size < _; omega)).trans y0_2_6
    have y0_3_7 : w7.cell? ⟨w.heap.size, 3, none⟩ = some (.int .i64 r0) := (b7.cell (p := ⟨w.heap.size, 3, none⟩) (by show w.heap.size < _; omega)).trans y0_3_6
    clear y0_0_6 y0_1_6 y0_2_6 y0_3_6
    have B7 := (B6).next (by omega) b7
    have ow0_7 := ow0_6.keep (KeepIn.of_below b7 (by omega))
    clear ow0_6
    have ox1_7 := ox1_6.keep (KeepIn.of_below b7 (by omega))
    clear ox1_6
    have og0_7 := oR6_0_i.keep (KeepIn.of_below b7 (by omega))
    clear oR6_0_i
    go_wp2_with fail
    refine (toStringS_any _ l1 _ (h1.below B7 (Nat.le_refl _)) (by omega)).mono ?_; rintro e w8 ⟨t8, rfl, oT8, b8⟩
    have s8 := b8.size
    have y0_0_8 : w8.cell? ⟨w.heap.size, 0, none⟩ = some (.int .i64 x0) := (b8.cell (p := ⟨w.heap.size, 0, none⟩) (by show w.heap.size < _; omega)).trans y0_0_7
    have y0_1_8 : w8.cell? ⟨w.heap.size, 1, none⟩ = some (.int .i64 y0) := (b8.cell (p := ⟨w.heap.size, 1, none⟩) (by show w.heap.size < _; omega)).trans y0_1_7
    have y0_2_8 : w8.cell? ⟨w.heap.size, 2, none⟩ = some (.int .i64 c0) := (b8.cell (p := ⟨w.heap.size, 2, none⟩) (by show w.heap.size < _; omega)).trans y0_2_7
    have y0_3_8 : w8.cell? ⟨w.heap.size, 3, none⟩ = some (.int .i64 r0) := (b8.cell (p := ⟨w.heap.size, 3, none⟩) (by show w.heap.size < _; omega)).trans y0_3_7
    clear y0_0_7 y0_1_7 y0_2_7 y0_3_7
    have B8 := (B7).next (by omega) b8
    have ow0_8 := ow0_7.keep (KeepIn.of_below b8 (by omega))
    clear ow0_7
    have ox1_8 := ox1_7.keep (KeepIn.of_below b8 (by omega))
    clear ox1_7
    have og0_8 := og0_7.keep (KeepIn.of_below b8 (by omega))
    clear og0_7
    have oT8_i := oT8.in_; clear oT8
    go_wp2_with fail
    refine (eqStringS_any _ _ l1 l1 _ ox1_8.reads oT8_i.reads).mono ?_; rintro e w9 ⟨rfl, b9⟩
    have s9 := b9.size
    have y0_0_9 : w9.cell? ⟨w.heap.size, 0, none⟩ = some (.int .i64 x0) := (b9.cell (p := ⟨w.heap.size, 0, none⟩) (by show w.heap.size < _; omega)).trans y0_0_8
    have y0_1_9 : w9.cell? ⟨w.heap.size, 1, none⟩ = some (.int .i64 y0) := (b9.cell (p := ⟨w.heap.size, 1, none⟩) (by show w.heap.size < _; omega)).trans y0_1_8
    have y0_2_9 : w9.cell? ⟨w.heap.size, 2, none⟩ = some (.int .i64 c0) := (b9.cell (p := ⟨w.heap.size, 2, none⟩) (by show w.heap.size < _; omega)).trans y0_2_8
    have y0_3_9 : w9.cell? ⟨w.heap.size, 3, none⟩ = some (.int .i64 r0) := (b9.cell (p := ⟨w.heap.size, 3, none⟩) (by show w.heap.size < _; omega)).trans y0_3_8
    clear y0_0_8 y0_1_8 y0_2_8 y0_3_8
    have B9 := (B8).next (by omega) b9
    have ow0_9 := ow0_8.keep (KeepIn.of_below b9 (by omega))
    clear ow0_8
    have ox1_9 := ox1_8.keep (KeepIn.of_below b9 (by omega))
    clear ox1_8
    have og0_9 := og0_8.keep (KeepIn.of_below b9 (by omega))
    clear og0_8
    have oT8_9 := oT8_i.keep (KeepIn.of_below b9 (by omega))
    clear oT8_i
    clear oT8_9
    go_wp2_with fail
    refine (markStringN _ l1 _ _ _ _ ox1_9 (by omega) (by omega) (by omega)).mono ?_; rintro e w10 ⟨rfl, oM10, b10⟩
    clear ox1_9
    have s10 := b10.size
    have y0_0_10 : w10.cell? ⟨w.heap.size, 0, none⟩ = some (.int .i64 x0) := ((b10.below (B := w.heap.size + 1) (by omega) (by omega)).cell (p := ⟨w.heap.size, 0, none⟩) (by show w.heap.size < _; omega)).trans y0_0_9
    have y0_1_10 : w10.cell? ⟨w.heap.size, 1, none⟩ = some (.int .i64 y0) := ((b10.below (B := w.heap.size + 1) (by omega) (by omega)).cell (p := ⟨w.heap.size, 1, none⟩) (by show w.heap.size < _; omega)).trans y0_1_9
    have y0_2_10 : w10.cell? ⟨w.heap.size, 2, none⟩ = some (.int .i64 c0) := ((b10.below (B := w.heap.size + 1) (by omega) (by omega)).cell (p := ⟨w.heap.size, 2, none⟩) (by show w.heap.size < _; omega)).trans y0_2_9
    have y0_3_10 : w10.cell? ⟨w.heap.size, 3, none⟩ = some (.int .i64 r0) := ((b10.below (B := w.heap.size + 1) (by omega) (by omega)).cell (p := ⟨w.heap.size, 3, none⟩) (by show w.heap.size < _; omega)).trans y0_3_9
    clear y0_0_9 y0_1_9 y0_2_9 y0_3_9
    have B10 := (B9).trans (b10.below (B := w.heap.size) (by omega) (by omega))
    have ow0_10 := ow0_9.keep (b10.keepIn (by omega) (by omega))
    clear ow0_9
    have og0_10 := og0_9.keep (b10.keepIn (by omega) (by omega))
    clear og0_9
    go_wp2_with fail
    refine (eqSpotS_any _ _ (rRV x0 y0 c0 r0 l1).1 (rRV x0 y0 c0 r0 l1).1 _ og0_10.reads ow0_10.reads).mono ?_; rintro e w11 ⟨rfl, b11⟩
    have s11 := b11.size
    have y0_0_11 : w11.cell? ⟨w.heap.size, 0, none⟩ = some (.int .i64 x0) := (b11.cell (p := ⟨w.heap.size, 0, none⟩) (by show w.heap.size < _; omega)).trans y0_0_10
    have y0_1_11 : w11.cell? ⟨w.heap.size, 1, none⟩ = some (.int .i64 y0) := (b11.cell (p := ⟨w.heap.size, 1, none⟩) (by show w.heap.size < _; omega)).trans y0_1_10
    have y0_2_11 : w11.cell? ⟨w.heap.size, 2, none⟩ = some (.int .i64 c0) := (b11.cell (p := ⟨w.heap.size, 2, none⟩) (by show w.heap.size < _; omega)).trans y0_2_10
    have y0_3_11 : w11.cell? ⟨w.heap.size, 3, none⟩ = some (.int .i64 r0) := (b11.cell (p := ⟨w.heap.size, 3, none⟩) (by show w.heap.size < _; omega)).trans y0_3_10
    clear y0_0_10 y0_1_10 y0_2_10 y0_3_10
    have B11 := (B10).next (by omega) b11
    have ow0_11 := ow0_10.keep (KeepIn.of_below b11 (by omega))
    clear ow0_10
    have ox1_11 := oM10.keep (KeepIn.of_below b11 (by omega))
    clear oM10
    have og0_11 := og0_10.keep (KeepIn.of_below b11 (by omega))
    clear og0_10
    go_wp2_with fail
    refine (markSpotN _ (rRV x0 y0 c0 r0 l1).1 _ _ _ _ og0_11 (by omega) (by omega) (by omega)).mono ?_; rintro e w12 ⟨rfl, oM12, g12, b12⟩
    clear og0_11
    have s12 := b12.size
    have y0_0_12 : w12.cell? ⟨w.heap.size, 0, none⟩ = some (.int .i64 x0) := ((b12.below (B := w.heap.size + 1) (by omega) (by omega)).cell (p := ⟨w.heap.size, 0, none⟩) (by show w.heap.size < _; omega)).trans y0_0_11
    have y0_1_12 : w12.cell? ⟨w.heap.size, 1, none⟩ = some (.int .i64 y0) := ((b12.below (B := w.heap.size + 1) (by omega) (by omega)).cell (p := ⟨w.heap.size, 1, none⟩) (by show w.heap.size < _; omega)).trans y0_1_11
    have y0_2_12 : w12.cell? ⟨w.heap.size, 2, none⟩ = some (.int .i64 c0) := ((b12.below (B := w.heap.size + 1) (by omega) (by omega)).cell (p := ⟨w.heap.size, 2, none⟩) (by show w.heap.size < _; omega)).trans y0_2_11
    have y0_3_12 : w12.cell? ⟨w.heap.size, 3, none⟩ = some (.int .i64 r0) := ((b12.below (B := w.heap.size + 1) (by omega) (by omega)).cell (p := ⟨w.heap.size, 3, none⟩) (by show w.heap.size < _; omega)).trans y0_3_11
    clear y0_0_11 y0_1_11 y0_2_11 y0_3_11
    have B12 := (B11).trans (b12.below (B := w.heap.size) (by omega) (by omega))
    have ow0_12 := ow0_11.keep (b12.keepIn (by omega) (by omega))
    clear ow0_11
    have ox1_12 := ox1_11.keep (b12.keepIn (by omega) (by omega))
    clear ox1_11
    go_wp2_with fail
    refine (heldSpotN _ (rRV x0 y0 c0 r0 l1).1 _ _ _ _ oM12 (by omega) (by omega) (by omega)).mono ?_; rintro e _ ⟨rfl, rfl⟩
    go_wp2_with fail
    refine (toFrame_any _ _ _ _ _).mono ?_; rintro e w13 ⟨rfl, b13⟩
    have s13 := b13.size
    have y0_0_13 : w13.cell? ⟨w.heap.size, 0, none⟩ = some (.int .i64 x0) := (b13.cell (p := ⟨w.heap.size, 0, none⟩) (by show w.heap.size < _; omega)).trans y0_0_12
    have y0_1_13 : w13.cell? ⟨w.heap.size, 1, none⟩ = some (.int .i64 y0) := (b13.cell (p := ⟨w.heap.size, 1, none⟩) (by show w.heap.size < _; omega)).trans y0_1_12
    have y0_2_13 : w13.cell? ⟨w.heap.size, 2, none⟩ = some (.int .i64 c0) := (b13.cell (p := ⟨w.heap.size, 2, none⟩) (by show w.heap.size < _; omega)).trans y0_2_12
    have y0_3_13 : w13.cell? ⟨w.heap.size, 3, none⟩ = some (.int .i64 r0) := (b13.cell (p := ⟨w.heap.size, 3, none⟩) (by show w.heap.size < _; omega)).trans y0_3_12
    clear y0_0_12 y0_1_12 y0_2_12 y0_3_12
    have B13 := (B12).next (by omega) b13
    have ow0_13 := ow0_12.keep (KeepIn.of_below b13 (by omega))
    clear ow0_12
    have ox1_13 := ox1_12.keep (KeepIn.of_below b13 (by omega))
    clear ox1_12
    have og0_13 := oM12.keep (KeepIn.of_below b13 (by omega))
    clear oM12
    go_wp2_with fail
    refine (toStringS_any _ l1 _ (h1.below B13 (Nat.le_refl _)) (by omega)).mono ?_; rintro e w14 ⟨t14, rfl, oT14, b14⟩
    have s14 := b14.size
    have y0_0_14 : w14.cell? ⟨w.heap.size, 0, none⟩ = some (.int .i64 x0) := (b14.cell (p := ⟨w.heap.size, 0, none⟩) (by show w.heap.size < _; omega)).trans y0_0_13
    have y0_1_14 : w14.cell? ⟨w.heap.size, 1, none⟩ = some (.int .i64 y0) := (b14.cell (p := ⟨w.heap.size, 1, none⟩) (by show w.heap.size < _; omega)).trans y0_1_13
    have y0_2_14 : w14.cell? ⟨w.heap.size, 2, none⟩ = some (.int .i64 c0) := (b14.cell (p := ⟨w.heap.size, 2, none⟩) (by show w.heap.size < _; omega)).trans y0_2_13
    have y0_3_14 : w14.cell? ⟨w.heap.size, 3, none⟩ = some (.int .i64 r0) := (b14.cell (p := ⟨w.heap.size, 3, none⟩) (by show w.heap.size < _; omega)).trans y0_3_13
    clear y0_0_13 y0_1_13 y0_2_13 y0_3_13
    have B14 := (B13).next (by omega) b14
    have ow0_14 := ow0_13.keep (KeepIn.of_below b14 (by omega))
    clear ow0_13
    have ox1_14 := ox1_13.keep (KeepIn.of_below b14 (by omega))
    clear ox1_13
    have og0_14 := og0_13.keep (KeepIn.of_below b14 (by omega))
    clear og0_13
    have oT14_i := oT14.in_; clear oT14
    go_wp2_with fail
    refine (implRV _ l1 _ _ _ _ _ oT14_i.reads f1 ).mono ?_; rintro e w15 ⟨r15_0, rfl, oR15_0, b15⟩
    have s15 := b15.size
    have y0_0_15 : w15.cell? ⟨w.heap.size, 0, none⟩ = some (.int .i64 x0) := (b15.cell (p := ⟨w.heap.size, 0, none⟩) (by show w.heap.size < _; omega)).trans y0_0_14
    have y0_1_15 : w15.cell? ⟨w.heap.size, 1, none⟩ = some (.int .i64 y0) := (b15.cell (p := ⟨w.heap.size, 1, none⟩) (by show w.heap.size < _; omega)).trans y0_1_14
    have y0_2_15 : w15.cell? ⟨w.heap.size, 2, none⟩ = some (.int .i64 c0) := (b15.cell (p := ⟨w.heap.size, 2, none⟩) (by show w.heap.size < _; omega)).trans y0_2_14
    have y0_3_15 : w15.cell? ⟨w.heap.size, 3, none⟩ = some (.int .i64 r0) := (b15.cell (p := ⟨w.heap.size, 3, none⟩) (by show w.heap.size < _; omega)).trans y0_3_14
    clear y0_0_14 y0_1_14 y0_2_14 y0_3_14
    have B15 := (B14).next (by omega) b15
    have ow0_15 := ow0_14.keep (KeepIn.of_below b15 (by omega))
    clear ow0_14
    have ox1_15 := ox1_14.keep (KeepIn.of_below b15 (by omega))
    clear ox1_14
    have og0_15 := og0_14.keep (KeepIn.of_below b15 (by omega))
    clear og0_14
    have oT14_15 := oT14_i.keep (KeepIn.of_below b15 (by omega))
    clear oT14_i
    have oR15_0_i := oR15_0.in_; clear oR15_0
    clear oT14_15
    go_wp2_with fail
    refine (eqSpotS_any _ _ (rRV x0 y0 c0 r0 l1).1 (rRV x0 y0 c0 r0 l1).1 _ oR15_0_i.reads ow0_15.reads).mono ?_; rintro e w16 ⟨rfl, b16⟩
    have s16 := b16.size
    have y0_0_16 : w16.cell? ⟨w.heap.size, 0, none⟩ = some (.int .i64 x0) := (b16.cell (p := ⟨w.heap.size, 0, none⟩) (by show w.heap.size < _; omega)).trans y0_0_15
    have y0_1_16 : w16.cell? ⟨w.heap.size, 1, none⟩ = some (.int .i64 y0) := (b16.cell (p := ⟨w.heap.size, 1, none⟩) (by show w.heap.size < _; omega)).trans y0_1_15
    have y0_2_16 : w16.cell? ⟨w.heap.size, 2, none⟩ = some (.int .i64 c0) := (b16.cell (p := ⟨w.heap.size, 2, none⟩) (by show w.heap.size < _; omega)).trans y0_2_15
    have y0_3_16 : w16.cell? ⟨w.heap.size, 3, none⟩ = some (.int .i64 r0) := (b16.cell (p := ⟨w.heap.size, 3, none⟩) (by show w.heap.size < _; omega)).trans y0_3_15
    clear y0_0_15 y0_1_15 y0_2_15 y0_3_15
    have B16 := (B15).next (by omega) b16
    have ow0_16 := ow0_15.keep (KeepIn.of_below b16 (by omega))
    clear ow0_15
    have ox1_16 := ox1_15.keep (KeepIn.of_below b16 (by omega))
    clear ox1_15
    have og0_16 := og0_15.keep (KeepIn.of_below b16 (by omega))
    clear og0_15
    have oh0_16 := oR15_0_i.keep (KeepIn.of_below b16 (by omega))
    clear oR15_0_i
    go_wp2_with fail
    refine (heldSpotN _ (rRV x0 y0 c0 r0 l1).1 _ _ _ _ og0_16 (by omega) (by omega) (by omega)).mono ?_; rintro e _ ⟨rfl, rfl⟩
    go_wp2_with fail
    go_ret
    exact ⟨rfl, B16⟩
end Go.Proofs.Ytiondgflpimdmaa
