/- The walk of the law FnExactAddVersion: whatever the arguments, it returns true and writes nothing that was there. -/
import Derived.Test.YtleiijhnjaagmaaVAdd
import Derived.Test.YtleiijhnjaagmaaOpen
import Derived.Test.YtleiijhnjaagmaaMark
import Derived.Test.YtleiijhnjaagmaaOpenV
import Derived.Deep.DeepCutAuto
import Derived.Deep.RegionWith
set_option linter.unusedSimpArgs false
set_option linter.unusedVariables false
namespace Go.Proofs.Ytleiijhnjaagmaa
open Go.RowKit

set_option maxRecDepth 100000 in
set_option maxHeartbeats 3200000 in
theorem FnExactAddVersion_walk (v0 : Value) (l0 : List Ver) (p1 k1 u1 : Int) (w : World) (h0 : VersAt w v0 l0) (f0 : WfVers l0) :
    Calls Try.prog 5 #[v0, .agg #[.int .i64 p1, .int .i64 k1, .int .i64 u1]] w (LawPost w) := by
  have hb0 := fun o0 => ((Below.refl w.heap.size w).alloc (Nat.le_refl _) o0)
  have Hb0 := Lib.hid hb0
  clear hb0
  rcases Nat.lt_or_ge 1048576 (l0.length) with hbig | hl0
  · go_enter Try.func5, Try.ntmps5
    go_wp2_with fail
    refine (szVersionS_no _ l0 _ _ (h0.below (Hb0.out _) (Nat.le_refl _)) (by omega) (by omega) (by omega)).mono ?_; rintro e _ ⟨rfl, rfl⟩
    go_wp2_with fail
    go_ret
    exact ⟨rfl, (Hb0.out _)⟩
  have hrl := rAdd_len l0 ⟨p1, k1, u1⟩
  go_enter Try.func5, Try.ntmps5
  go_upto_region 0 with fail
  go_cut [3, 4] (fun b0 r0 wx => b0 = .pointer (some ⟨w.heap.size, 0, none⟩) ∧ r0 = .bool false ∧ wx.cell? ⟨w.heap.size, 0, none⟩ = some (.int .i64 p1) ∧ wx.cell? ⟨w.heap.size, 1, none⟩ = some (.int .i64 k1) ∧ wx.cell? ⟨w.heap.size, 2, none⟩ = some (.int .i64 u1) ∧ w.heap.size + 1 ≤ wx.heap.size ∧ Below w.heap.size w wx)
  case first =>
    go_wp2_with fail
    go_meet
    exact ⟨rfl, rfl, by go_simp, by go_simp, by go_simp, by simp <;> omega, (Hb0.out _)⟩
  case rest =>
    obtain ⟨rfl, rfl, y0_0_0, y0_1_0, y0_2_0, z0, B0⟩ := hcut
    obtain ⟨w0, hw0⟩ : ∃ w0 : World, w0 = wc := ⟨_, rfl⟩
    subst hw0
    go_wp2_with fail
    refine (szVersionS_yes _ l0 _ _ (h0.below B0 (Nat.le_refl _)) (by omega) (by omega) (by omega)).mono ?_; rintro e _ ⟨rfl, rfl⟩
    go_upto_region 5 with fail
    go_cut [6, 7] (fun q0 q1 wx => OwnVers wx w0.heap.size q0 (rAdd l0 ⟨p1, k1, u1⟩).1 ∧ q1 = .bool (rAdd l0 ⟨p1, k1, u1⟩).2 ∧ Below w0.heap.size w0 wx)
    case first =>
      go_region_held3 (fun w' => w'.cell? ⟨w.heap.size, 0, none⟩ = some (.int .i64 p1) ∧ w'.cell? ⟨w.heap.size, 1, none⟩ = some (.int .i64 k1) ∧ w'.cell? ⟨w.heap.size, 2, none⟩ = some (.int .i64 u1))
        (first | go_keep | exact ⟨Below.keepC (((Below.refl w0.heap.size w0).drew).next (Nat.le_refl _) d1) y0_0_0 (Nat.le_refl _), Below.keepC (((Below.refl w0.heap.size w0).drew).next (Nat.le_refl _) d1) y0_1_0 (Nat.le_refl _), Below.keepC (((Below.refl w0.heap.size w0).drew).next (Nat.le_refl _) d1) y0_2_0 (Nat.le_refl _)⟩ | exact ⟨Below.keepC ((((Below.refl w0.heap.size w0).drew).next (Nat.le_refl _) d1).next (Nat.le_refl _) d2) y0_0_0 (Nat.le_refl _), Below.keepC ((((Below.refl w0.heap.size w0).drew).next (Nat.le_refl _) d1).next (Nat.le_refl _) d2) y0_1_0 (Nat.le_refl _), Below.keepC ((((Below.refl w0.heap.size w0).drew).next (Nat.le_refl _) d1).next (Nat.le_refl _) d2) y0_2_0 (Nat.le_refl _)⟩ | exact ⟨Below.keepC (((((Below.refl w0.heap.size w0).drew).next (Nat.le_refl _) d1).next (Nat.le_refl _) d2).next (Nat.le_refl _) d3) y0_0_0 (Nat.le_refl _), Below.keepC (((((Below.refl w0.heap.size w0).drew).next (Nat.le_refl _) d1).next (Nat.le_refl _) d2).next (Nat.le_refl _) d3) y0_1_0 (Nat.le_refl _), Below.keepC (((((Below.refl w0.heap.size w0).drew).next (Nat.le_refl _) d1).next (Nat.le_refl _) d2).next (Nat.le_refl _) d3) y0_2_0 (Nat.le_refl _)⟩)
        (first
          | (go_at_call 15; refine (toVersionS_any _ l0 _ (h0.below ((B0).trans (((Below.refl w0.heap.size w0).drew).mono (by have := B0.size; omega))) (Nat.le_refl _)) (by omega)).mono ?_; rintro e u1_ ⟨z1, rfl, oz1, d1⟩)
          | (go_at_call 21; refine (toVersion_any _ _ _ _).mono ?_; rintro e u2_ ⟨rfl, d2⟩)
          | (go_at_call 20; refine (specAdd _ l0 _ _ _ _ (oz1.in_.keep (KeepIn.of_below (d2) (Nat.le_refl _))).reads (by omega)).mono ?_; rintro e u3_ ⟨r1_0, rfl, oR1_0, d3⟩))
      all_goals
        go_wp2_with fail
        go_meet
        exact ⟨ownsRow_lo oR1_0 ((((Below.refl w0.heap.size w0).drew).next (Nat.le_refl _) d1).next (Nat.le_refl _) d2).size, rfl, ((((Below.refl w0.heap.size w0).drew).next (Nat.le_refl _) d1).next (Nat.le_refl _) d2).next (Nat.le_refl _) d3⟩
    case rest =>
      obtain ⟨oR1_0, rfl, b1⟩ := hcut
      obtain ⟨w1, hw1⟩ : ∃ w1 : World, w1 = wc := ⟨_, rfl⟩
      subst hw1
      have s1 := b1.size
      have y0_0_1 : w1.cell? ⟨w.heap.size, 0, none⟩ = some (.int .i64 p1) := (b1.cell (p := ⟨w.heap.size, 0, none⟩) (by show w.heap.size < _; omega)).trans y0_0_0
      have y0_1_1 : w1.cell? ⟨w.heap.size, 1, none⟩ = some (.int .i64 k1) := (b1.cell (p := ⟨w.heap.size, 1, none⟩) (by show w.heap.size < _; omega)).trans y0_1_0
      have y0_2_1 : w1.cell? ⟨w.heap.size, 2, none⟩ = some (.int .i64 u1) := (b1.cell (p := ⟨w.heap.size, 2, none⟩) (by show w.heap.size < _; omega)).trans y0_2_0
      clear y0_0_0 y0_1_0 y0_2_0
      have B1 := (B0).next (by omega) b1
      have oR1_0_i := OwnVers.in_ (lo := w0.heap.size) oR1_0; clear oR1_0
      go_wp2_with fail
      refine (toVersionS_any _ l0 _ (h0.below B1 (Nat.le_refl _)) (by omega)).mono ?_; rintro e w2 ⟨t2, rfl, oT2, b2⟩
      have s2 := b2.size
      have y0_0_2 : w2.cell? ⟨w.heap.size, 0, none⟩ = some (.int .i64 p1) := (b2.cell (p := ⟨w.heap.size, 0, none⟩) (by show w.heap.size < _; omega)).trans y0_0_1
      have y0_1_2 : w2.cell? ⟨w.heap.size, 1, none⟩ = some (.int .i64 k1) := (b2.cell (p := ⟨w.heap.size, 1, none⟩) (by show w.heap.size < _; omega)).trans y0_1_1
      have y0_2_2 : w2.cell? ⟨w.heap.size, 2, none⟩ = some (.int .i64 u1) := (b2.cell (p := ⟨w.heap.size, 2, none⟩) (by show w.heap.size < _; omega)).trans y0_2_1
      clear y0_0_1 y0_1_1 y0_2_1
      have B2 := (B1).next (by omega) b2
      have ow0_2 := oR1_0_i.keep (KeepIn.of_below b2 (by omega))
      clear oR1_0_i
      have oT2_i := oT2.in_; clear oT2
      go_wp2_with fail
      refine (toVersion_any _ _ _ _).mono ?_; rintro e w3 ⟨rfl, b3⟩
      have s3 := b3.size
      have y0_0_3 : w3.cell? ⟨w.heap.size, 0, none⟩ = some (.int .i64 p1) := (b3.cell (p := ⟨w.heap.size, 0, none⟩) (by show w.heap.size < _; omega)).trans y0_0_2
      have y0_1_3 : w3.cell? ⟨w.heap.size, 1, none⟩ = some (.int .i64 k1) := (b3.cell (p := ⟨w.heap.size, 1, none⟩) (by show w.heap.size < _; omega)).trans y0_1_2
      have y0_2_3 : w3.cell? ⟨w.heap.size, 2, none⟩ = some (.int .i64 u1) := (b3.cell (p := ⟨w.heap.size, 2, none⟩) (by show w.heap.size < _; omega)).trans y0_2_2
      clear y0_0_2 y0_1_2 y0_2_2
      have B3 := (B2).next (by omega) b3
      have ow0_3 := ow0_2.keep (KeepIn.of_below b3 (by omega))
      clear ow0_2
      have ox0_3 := oT2_i.keep (KeepIn.of_below b3 (by omega))
      clear oT2_i
      go_wp2_with fail
      refine (implAdd _ l0 _ _ _ _ ox0_3.reads (by omega)).mono ?_; rintro e w4 ⟨r4_0, rfl, oR4_0, b4⟩
      have s4 := b4.size
      have y0_0_4 : w4.cell? ⟨w.heap.size, 0, none⟩ = some (.int .i64 p1) := (b4.cell (p := ⟨w.heap.size, 0, none⟩) (by show w.heap.size < _; omega)).trans y0_0_3
      have y0_1_4 : w4.cell? ⟨w.heap.size, 1, none⟩ = some (.int .i64 k1) := (b4.cell (p := ⟨w.heap.size, 1, none⟩) (by show w.heap.size < _; omega)).trans y0_1_3
      have y0_2_4 : w4.cell? ⟨w.heap.size, 2, none⟩ = some (.int .i64 u1) := (b4.cell (p := ⟨w.heap.size, 2, none⟩) (by show w.heap.size < _; omega)).trans y0_2_3
      clear y0_0_3 y0_1_3 y0_2_3
      have B4 := (B3).next (by omega) b4
      have ow0_4 := ow0_3.keep (KeepIn.of_below b4 (by omega))
      clear ow0_3
      have ox0_4 := ox0_3.keep (KeepIn.of_below b4 (by omega))
      clear ox0_3
      have oR4_0_i := oR4_0.in_; clear oR4_0
      go_wp2_with fail
      refine (eqVersionS_any _ _ (rAdd l0 ⟨p1, k1, u1⟩).1 (rAdd l0 ⟨p1, k1, u1⟩).1 _ oR4_0_i.reads ow0_4.reads).mono ?_; rintro e w5 ⟨rfl, b5⟩
      have s5 := b5.size
      have y0_0_5 : w5.cell? ⟨w.heap.size, 0, none⟩ = some (.int .i64 p1) := (b5.cell (p := ⟨w.heap.size, 0, none⟩) (by show w.heap.size < _; omega)).trans y0_0_4
      have y0_1_5 : w5.cell? ⟨w.heap.size, 1, none⟩ = some (.int .i64 k1) := (b5.cell (p := ⟨w.heap.size, 1, none⟩) (by show w.heap.size < _; omega)).trans y0_1_4
      have y0_2_5 : w5.cell? ⟨w.heap.size, 2, none⟩ = some (.int .i64 u1) := (b5.cell (p := ⟨w.heap.size, 2, none⟩) (by show w.heap.size < _; omega)).trans y0_2_4
      clear y0_0_4 y0_1_4 y0_2_4
      have B5 := (B4).next (by omega) b5
      have ow0_5 := ow0_4.keep (KeepIn.of_below b5 (by omega))
      clear ow0_4
      have ox0_5 := ox0_4.keep (KeepIn.of_below b5 (by omega))
      clear ox0_4
      have og0_5 := oR4_0_i.keep (KeepIn.of_below b5 (by omega))
      clear oR4_0_i
      go_wp2_with fail
      refine (toVersionS_any _ l0 _ (h0.below B5 (Nat.le_refl _)) (by omega)).mono ?_; rintro e w6 ⟨t6, rfl, oT6, b6⟩
      have s6 := b6.size
      have y0_0_6 : w6.cell? ⟨w.heap.size, 0, none⟩ = some (.int .i64 p1) := (b6.cell (p := ⟨w.heap.size, 0, none⟩) (by show w.heap.size < _; omega)).trans y0_0_5
      have y0_1_6 : w6.cell? ⟨w.heap.size, 1, none⟩ = some (.int .i64 k1) := (b6.cell (p := ⟨w.heap.size, 1, none⟩) (by show w.heap.size < _; omega)).trans y0_1_5
      have y0_2_6 : w6.cell? ⟨w.heap.size, 2, none⟩ = some (.int .i64 u1) := (b6.cell (p := ⟨w.heap.size, 2, none⟩) (by show w.heap.size < _; omega)).trans y0_2_5
      clear y0_0_5 y0_1_5 y0_2_5
      have B6 := (B5).next (by omega) b6
      have ow0_6 := ow0_5.keep (KeepIn.of_below b6 (by omega))
      clear ow0_5
      have ox0_6 := ox0_5.keep (KeepIn.of_below b6 (by omega))
      clear ox0_5
      have og0_6 := og0_5.keep (KeepIn.of_below b6 (by omega))
      clear og0_5
      have oT6_i := oT6.in_; clear oT6
      go_wp2_with fail
      refine (eqVersionS_any _ _ l0 l0 _ ox0_6.reads oT6_i.reads).mono ?_; rintro e w7 ⟨rfl, b7⟩
      have s7 := b7.size
      have y0_0_7 : w7.cell? ⟨w.heap.size, 0, none⟩ = some (.int .i64 p1) := (b7.cell (p := ⟨w.heap.size, 0, none⟩) (by show w.heap.size < _; omega)).trans y0_0_6
      have y0_1_7 : w7.cell? ⟨w.heap.size, 1, none⟩ = some (.int .i64 k1) := (b7.cell (p := ⟨w.heap.size, 1, none⟩) (by show w.heap.size < _; omega)).trans y0_1_6
      have y0_2_7 : w7.cell? ⟨w.heap.size, 2, none⟩ = some (.int .i64 u1) := (b7.cell (p := ⟨w.heap.size, 2, none⟩) (by show w.heap.size < _; omega)).trans y0_2_6
      clear y0_0_6 y0_1_6 y0_2_6
      have B7 := (B6).next (by omega) b7
      have ow0_7 := ow0_6.keep (KeepIn.of_below b7 (by omega))
      clear ow0_6
      have ox0_7 := ox0_6.keep (KeepIn.of_below b7 (by omega))
      clear ox0_6
      have og0_7 := og0_6.keep (KeepIn.of_below b7 (by omega))
      clear og0_6
      have oT6_7 := oT6_i.keep (KeepIn.of_below b7 (by omega))
      clear oT6_i
      clear oT6_7
      go_wp2_with fail
      refine (markVers _ l0 _ _ _ _ ox0_7 (by omega) (by omega) (by omega)).mono ?_; rintro e w8 ⟨rfl, oM8, b8⟩
      clear ox0_7
      have s8 := b8.size
      have y0_0_8 : w8.cell? ⟨w.heap.size, 0, none⟩ = some (.int .i64 p1) := ((b8.below (B := w.heap.size + 1) (by omega) (by omega)).cell (p := ⟨w.heap.size, 0, none⟩) (by show w.heap.size < _; omega)).trans y0_0_7
      have y0_1_8 : w8.cell? ⟨w.heap.size, 1, none⟩ = some (.int .i64 k1) := ((b8.below (B := w.heap.size + 1) (by omega) (by omega)).cell (p := ⟨w.heap.size, 1, none⟩) (by show w.heap.size < _; omega)).trans y0_1_7
      have y0_2_8 : w8.cell? ⟨w.heap.size, 2, none⟩ = some (.int .i64 u1) := ((b8.below (B := w.heap.size + 1) (by omega) (by omega)).cell (p := ⟨w.heap.size, 2, none⟩) (by show w.heap.size < _; omega)).trans y0_2_7
      clear y0_0_7 y0_1_7 y0_2_7
      have B8 := (B7).trans (b8.below (B := w.heap.size) (by omega) (by omega))
      have ow0_8 := ow0_7.keep (b8.keepIn (by omega) (by omega))
      clear ow0_7
      have og0_8 := og0_7.keep (b8.keepIn (by omega) (by omega))
      clear og0_7
      go_wp2_with fail
      refine (eqVersionS_any _ _ (rAdd l0 ⟨p1, k1, u1⟩).1 (rAdd l0 ⟨p1, k1, u1⟩).1 _ og0_8.reads ow0_8.reads).mono ?_; rintro e w9 ⟨rfl, b9⟩
      have s9 := b9.size
      have y0_0_9 : w9.cell? ⟨w.heap.size, 0, none⟩ = some (.int .i64 p1) := (b9.cell (p := ⟨w.heap.size, 0, none⟩) (by show w.heap.size < _; omega)).trans y0_0_8
      have y0_1_9 : w9.cell? ⟨w.heap.size, 1, none⟩ = some (.int .i64 k1) := (b9.cell (p := ⟨w.heap.size, 1, none⟩) (by show w.heap.size < _; omega)).trans y0_1_8
      have y0_2_9 : w9.cell? ⟨w.heap.size, 2, none⟩ = some (.int .i64 u1) := (b9.cell (p := ⟨w.heap.size, 2, none⟩) (by show w.heap.size < _; omega)).trans y0_2_8
      clear y0_0_8 y0_1_8 y0_2_8
      have B9 := (B8).next (by omega) b9
      have ow0_9 := ow0_8.keep (KeepIn.of_below b9 (by omega))
      clear ow0_8
      have ox0_9 := oM8.keep (KeepIn.of_below b9 (by omega))
      clear oM8
      have og0_9 := og0_8.keep (KeepIn.of_below b9 (by omega))
      clear og0_8
      go_wp2_with fail
      refine (markVers _ (rAdd l0 ⟨p1, k1, u1⟩).1 _ _ _ _ og0_9 (by omega) (by omega) (by omega)).mono ?_; rintro e w10 ⟨rfl, oM10, b10⟩
      clear og0_9
      have s10 := b10.size
      have y0_0_10 : w10.cell? ⟨w.heap.size, 0, none⟩ = some (.int .i64 p1) := ((b10.below (B := w.heap.size + 1) (by omega) (by omega)).cell (p := ⟨w.heap.size, 0, none⟩) (by show w.heap.size < _; omega)).trans y0_0_9
      have y0_1_10 : w10.cell? ⟨w.heap.size, 1, none⟩ = some (.int .i64 k1) := ((b10.below (B := w.heap.size + 1) (by omega) (by omega)).cell (p := ⟨w.heap.size, 1, none⟩) (by show w.heap.size < _; omega)).trans y0_1_9
      have y0_2_10 : w10.cell? ⟨w.heap.size, 2, none⟩ = some (.int .i64 u1) := ((b10.below (B := w.heap.size + 1) (by omega) (by omega)).cell (p := ⟨w.heap.size, 2, none⟩) (by show w.heap.size < _; omega)).trans y0_2_9
      clear y0_0_9 y0_1_9 y0_2_9
      have B10 := (B9).trans (b10.below (B := w.heap.size) (by omega) (by omega))
      have ow0_10 := ow0_9.keep (b10.keepIn (by omega) (by omega))
      clear ow0_9
      have ox0_10 := ox0_9.keep (b10.keepIn (by omega) (by omega))
      clear ox0_9
      go_wp2_with fail
      refine (heldVers _ (rAdd l0 ⟨p1, k1, u1⟩).1 _ _ _ _ oM10 (by omega) (by omega) (by omega)).mono ?_; rintro e _ ⟨rfl, rfl⟩
      go_upto_region 24 with fail
      go_cut [14, 15] (fun q0 q1 wx => OwnVers wx w10.heap.size q0 (rAdd l0 ⟨p1, k1, u1⟩).1 ∧ q1 = .bool (rAdd l0 ⟨p1, k1, u1⟩).2 ∧ Below w10.heap.size w10 wx)
      case first =>
        go_region_held3 (fun w' => w'.cell? ⟨w.heap.size, 0, none⟩ = some (.int .i64 p1) ∧ w'.cell? ⟨w.heap.size, 1, none⟩ = some (.int .i64 k1) ∧ w'.cell? ⟨w.heap.size, 2, none⟩ = some (.int .i64 u1))
          (first | go_keep | exact ⟨Below.keepC (((Below.refl w10.heap.size w10).drew).next (Nat.le_refl _) d1) y0_0_10 (Nat.le_refl _), Below.keepC (((Below.refl w10.heap.size w10).drew).next (Nat.le_refl _) d1) y0_1_10 (Nat.le_refl _), Below.keepC (((Below.refl w10.heap.size w10).drew).next (Nat.le_refl _) d1) y0_2_10 (Nat.le_refl _)⟩ | exact ⟨Below.keepC ((((Below.refl w10.heap.size w10).drew).next (Nat.le_refl _) d1).next (Nat.le_refl _) d2) y0_0_10 (Nat.le_refl _), Below.keepC ((((Below.refl w10.heap.size w10).drew).next (Nat.le_refl _) d1).next (Nat.le_refl _) d2) y0_1_10 (Nat.le_refl _), Below.keepC ((((Below.refl w10.heap.size w10).drew).next (Nat.le_refl _) d1).next (Nat.le_refl _) d2) y0_2_10 (Nat.le_refl _)⟩ | exact ⟨Below.keepC (((((Below.refl w10.heap.size w10).drew).next (Nat.le_refl _) d1).next (Nat.le_refl _) d2).next (Nat.le_refl _) d3) y0_0_10 (Nat.le_refl _), Below.keepC (((((Below.refl w10.heap.size w10).drew).next (Nat.le_refl _) d1).next (Nat.le_refl _) d2).next (Nat.le_refl _) d3) y0_1_10 (Nat.le_refl _), Below.keepC (((((Below.refl w10.heap.size w10).drew).next (Nat.le_refl _) d1).next (Nat.le_refl _) d2).next (Nat.le_refl _) d3) y0_2_10 (Nat.le_refl _)⟩)
          (first
            | (go_at_call 15; refine (toVersionS_any _ l0 _ (h0.below ((B10).trans (((Below.refl w10.heap.size w10).drew).mono (by have := B10.size; omega))) (Nat.le_refl _)) (by omega)).mono ?_; rintro e u1_ ⟨z1, rfl, oz1, d1⟩)
            | (go_at_call 21; refine (toVersion_any _ _ _ _).mono ?_; rintro e u2_ ⟨rfl, d2⟩)
            | (go_at_call 22; refine (implAdd _ l0 _ _ _ _ (oz1.in_.keep (KeepIn.of_below (d2) (Nat.le_refl _))).reads (by omega)).mono ?_; rintro e u3_ ⟨r11_0, rfl, oR11_0, d3⟩))
        all_goals
          go_wp2_with fail
          go_meet
          exact ⟨ownsRow_lo oR11_0 ((((Below.refl w10.heap.size w10).drew).next (Nat.le_refl _) d1).next (Nat.le_refl _) d2).size, rfl, ((((Below.refl w10.heap.size w10).drew).next (Nat.le_refl _) d1).next (Nat.le_refl _) d2).next (Nat.le_refl _) d3⟩
      case rest =>
        obtain ⟨oR11_0, rfl, b11⟩ := hcut
        obtain ⟨w11, hw11⟩ : ∃ w11 : World, w11 = wc := ⟨_, rfl⟩
        subst hw11
        have s11 := b11.size
        have y0_0_11 : w11.cell? ⟨w.heap.size, 0, none⟩ = some (.int .i64 p1) := (b11.cell (p := ⟨w.heap.size, 0, none⟩) (by show w.heap.size < _; omega)).trans y0_0_10
        have y0_1_11 : w11.cell? ⟨w.heap.size, 1, none⟩ = some (.int .i64 k1) := (b11.cell (p := ⟨w.heap.size, 1, none⟩) (by show w.heap.size < _; omega)).trans y0_1_10
        have y0_2_11 : w11.cell? ⟨w.heap.size, 2, none⟩ = some (.int .i64 u1) := (b11.cell (p := ⟨w.heap.size, 2, none⟩) (by show w.heap.size < _; omega)).trans y0_2_10
        clear y0_0_10 y0_1_10 y0_2_10
        have B11 := (B10).next (by omega) b11
        have ow0_11 := ow0_10.keep (KeepIn.of_below b11 (by omega))
        clear ow0_10
        have ox0_11 := ox0_10.keep (KeepIn.of_below b11 (by omega))
        clear ox0_10
        have og0_11 := oM10.keep (KeepIn.of_below b11 (by omega))
        clear oM10
        have oR11_0_i := OwnVers.in_ (lo := w10.heap.size) oR11_0; clear oR11_0
        go_wp2_with fail
        refine (eqVersionS_any _ _ (rAdd l0 ⟨p1, k1, u1⟩).1 (rAdd l0 ⟨p1, k1, u1⟩).1 _ oR11_0_i.reads ow0_11.reads).mono ?_; rintro e w12 ⟨rfl, b12⟩
        have s12 := b12.size
        have y0_0_12 : w12.cell? ⟨w.heap.size, 0, none⟩ = some (.int .i64 p1) := (b12.cell (p := ⟨w.heap.size, 0, none⟩) (by show w.heap.size < _; omega)).trans y0_0_11
        have y0_1_12 : w12.cell? ⟨w.heap.size, 1, none⟩ = some (.int .i64 k1) := (b12.cell (p := ⟨w.heap.size, 1, none⟩) (by show w.heap.size < _; omega)).trans y0_1_11
        have y0_2_12 : w12.cell? ⟨w.heap.size, 2, none⟩ = some (.int .i64 u1) := (b12.cell (p := ⟨w.heap.size, 2, none⟩) (by show w.heap.size < _; omega)).trans y0_2_11
        clear y0_0_11 y0_1_11 y0_2_11
        have B12 := (B11).next (by omega) b12
        have ow0_12 := ow0_11.keep (KeepIn.of_below b12 (by omega))
        clear ow0_11
        have ox0_12 := ox0_11.keep (KeepIn.of_below b12 (by omega))
        clear ox0_11
        have og0_12 := og0_11.keep (KeepIn.of_below b12 (by omega))
        clear og0_11
        have oh0_12 := oR11_0_i.keep (KeepIn.of_below b12 (by omega))
        clear oR11_0_i
        go_wp2_with fail
        refine (heldVers _ (rAdd l0 ⟨p1, k1, u1⟩).1 _ _ _ _ og0_12 (by omega) (by omega) (by omega)).mono ?_; rintro e _ ⟨rfl, rfl⟩
        go_wp2_with fail
        go_ret
        exact ⟨rfl, B12⟩
end Go.Proofs.Ytleiijhnjaagmaa
