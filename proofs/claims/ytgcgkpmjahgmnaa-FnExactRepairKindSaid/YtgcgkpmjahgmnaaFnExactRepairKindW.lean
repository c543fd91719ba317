/- The walk of the law FnExactRepairKind: whatever the arguments, it returns true and writes nothing that was there. -/
import Derived.Test.YtgcgkpmjahgmnaaRpK
import Derived.Test.YtgcgkpmjahgmnaaRpH
import Derived.Deep.DeepCutAuto
import Derived.Deep.RegionWith
set_option linter.unusedSimpArgs false
set_option linter.unusedVariables false
namespace Go.Proofs.Ytgcgkpmjahgmnaa
open Go.RowKit Go.Sort

theorem rkind_pair (T : Tr) (L : Int) : ((rKind T L).1 != (rKind T L).1) = false ∧ ((rKind T L).2 != (rKind T L).2) = false := by simp
set_option maxRecDepth 100000 in
set_option maxHeartbeats 6400000 in
theorem FnExactRepairKind_walk (f t p : Value) (T : Tr) (L : Int) (w : World) (h : TrAt w f t p T) :
    Calls Try.prog 3 #[.agg #[f, t, .int .i64 T.c, p], .int .i64 L] w (LawPost w) := by
  have bX := (Below.refl w.heap.size w).alloc (Nat.le_refl _) (.cells #[f, t, .int .i64 T.c, p] 25)
  have zT := BoxT.new 25 w f t T.c p
  obtain ⟨W, hW⟩ : ∃ W : World, W = w.alloc (.cells #[f, t, .int .i64 T.c, p] 25) := ⟨_, rfl⟩
  rw [← hW] at bX zT
  have HW := Lib.hid hW
  have ZT := Lib.hid zT
  have HX := Lib.hid (h.below bX (Nat.le_refl _))
  have HB := Lib.hid bX
  clear hW zT h bX
  rcases Nat.lt_or_ge 1048576 (totT T) with hbig | hl
  · have C0 := Lib.hid (szTr_no f t p T W HX.out hbig)
    go_enter Try.func3, Try.ntmps3
    go_upto_region 1 with fail
    rw [← HW.out]
    obtain ⟨a0, a1, a2, a3⟩ := ZT.out.cells
    go_wp2_with fail
    refine C0.out.mono ?_; rintro e w1 ⟨rfl, b1⟩
    go_wp2_with fail
    go_ret
    exact ⟨rfl, HB.out.next (Nat.le_refl _) b1⟩
  · have C0 := Lib.hid (szTr_yes f t p T W HX.out hl)
    have CT := Lib.hid (fun W9 B (hb : Below B W W9) (hB : W.heap.size ≤ B) => toTr_any f t p T W9 (HX.out.below hb hB) hl)
    have CE := Lib.hid (fun f' t' p' f9 t9 p9 W9 h1 h2 => eqTr_same f' t' p' f9 t9 p9 T W9 h1 h2)
    have CI := Lib.hid (fun f' t' p' W9 h1 => implRepairKind f' t' p' T L W9 h1)
    have CS := Lib.hid (fun f' t' p' W9 h1 => specRepairKind f' t' p' T L W9 h1)
    have hls : (0 : Int) ≤ 1048576 - (totT T : Int) := by omega
    obtain ⟨hq1, hq2⟩ := rkind_pair T L
    obtain ⟨K1, hK1⟩ : ∃ z, z = (rKind T L).1 := ⟨_, rfl⟩
    obtain ⟨K2, hK2⟩ : ∃ z, z = (rKind T L).2 := ⟨_, rfl⟩
    unfold KindPost at CI CS
    rw [← hK1, ← hK2] at CI CS
    rw [← hK1] at hq1
    rw [← hK2] at hq2
    obtain ⟨LS, hLS⟩ : ∃ z, z = 1048576 - (totT T : Int) := ⟨_, rfl⟩
    rw [← hLS] at C0 hls
    clear hK1 hK2 hLS hl
    go_enter Try.func3, Try.ntmps3
    go_upto_region 1 with fail
    rw [← HW.out]
    obtain ⟨a0, a1, a2, a3⟩ := ZT.out.cells
    go_wp2_with fail
    refine C0.out.mono ?_; rintro e w1 ⟨rfl, b1⟩
    have bb1 := b1
    have zk1 := ZT.out.keep bb1 ZT.out.lt
    clear a0 a1 a2 a3
    obtain ⟨a0, a1, a2, a3⟩ := zk1.cells
    clear zk1
    go_wp2_with fail
    refine (CT.out _ _ bb1 (Nat.le_refl _)).mono ?_; rintro e w2 ⟨f2, t2, p2, rfl, o2, b2⟩
    have bb2 := bb1.next (Nat.le_refl _) b2
    have zk2 := ZT.out.keep bb2 ZT.out.lt
    clear a0 a1 a2 a3
    obtain ⟨a0, a1, a2, a3⟩ := zk2.cells
    clear zk2
    go_wp2_with fail
    refine (CS.out _ _ _ _ o2.reads).mono ?_; rintro e w3 ⟨rfl, b3⟩
    have bb3 := bb2.next (Nat.le_refl _) b3
    have zk3 := ZT.out.keep bb3 ZT.out.lt
    clear a0 a1 a2 a3
    obtain ⟨a0, a1, a2, a3⟩ := zk3.cells
    clear zk3
    go_wp2_with fail
    refine (CT.out _ _ bb3 (Nat.le_refl _)).mono ?_; rintro e w4 ⟨f4, t4, p4, rfl, o4, b4⟩
    have bb4 := bb3.next (Nat.le_refl _) b4
    have zk4 := ZT.out.keep bb4 ZT.out.lt
    clear a0 a1 a2 a3
    obtain ⟨a0, a1, a2, a3⟩ := zk4.cells
    clear zk4
    have zX := BoxT.new 31 w4 f4 t4 T.c p4
    have bN := (Below.refl w4.heap.size w4).alloc (Nat.le_refl _) (.cells #[f4, t4, .int .i64 T.c, p4] 31)
    have o5 := o4.keep bN (Nat.le_refl _)
    have bb5 := bb4.alloc bb4.size (.cells #[f4, t4, .int .i64 T.c, p4] 31)
    obtain ⟨w5, hw5⟩ : ∃ W9 : World, W9 = w4.alloc (.cells #[f4, t4, .int .i64 T.c, p4] 31) := ⟨_, rfl⟩
    have hx5 : w4.heap.size < w5.heap.size := by rw [hw5]; simp
    rw [← hw5] at zX o5 bb5 bN
    obtain ⟨A4, x4, rfl, _, _⟩ := o5.rf.reads.shape
    obtain ⟨A5, x5, rfl, _, _⟩ := o5.rt.reads.shape
    obtain ⟨A6, x6, rfl, _, _⟩ := o5.rp.reads.shape
    have HW5 := Lib.hid hw5
    go_upto_region 7 with fail
    rw [← HW5.out]
    obtain ⟨X, hX⟩ : ∃ z, z = w4.heap.size := ⟨_, rfl⟩
    rw [← hX] at zX hx5
    rw [← hX]
    have hXW : W.heap.size ≤ X := by rw [hX]; exact bb4.size
    clear hw5 hX a0 a1 a2 a3 bN
    obtain ⟨c0, c1, c2, c3⟩ := zX.cells
    have r5 := o5.reads
    have ZX := Lib.hid zX
    have R5 := Lib.hid r5
    clear zX r5 o5 o4 o2
    go_wp2_with fail
    refine (CI.out _ _ _ _ R5.out).mono ?_; rintro e w6 ⟨rfl, b6⟩
    have z6 := ZX.out.keep b6 ZX.out.lt
    have r6 := R5.out.below b6 (Nat.le_refl _)
    have bb6 := bb5.next (Nat.le_refl _) b6
    clear c0 c1 c2 c3
    obtain ⟨c0, c1, c2, c3⟩ := z6.cells
    have zt6 := ZT.out.keep bb6 ZT.out.lt
    obtain ⟨a0, a1, a2, a3⟩ := zt6.cells
    have D0 := (Below.refl w6.heap.size w6).drew
    have BB6 := Lib.hid bb6
    have R6 := Lib.hid r6
    have Z6 := Lib.hid z6
    have ZT6 := Lib.hid zt6
    clear bb6 r6 z6 zt6
    go_upto_region 10 with fail
    (first | (go_region_with (first
      | (go_at_call 7; refine (CT.out _ _ (BB6.out.trans (D0.mono BB6.out.size)) (Nat.le_refl _)).mono ?_; rintro e w7 ⟨f7, t7, p7, rfl, o7, b7⟩; have bd := D0.next (Nat.le_refl _) b7; have zc := Z6.out.keep bd Z6.out.lt; have y9 := zc.cells; obtain ⟨y0, y1, y2, y3⟩ := y9; have zd := ZT6.out.keep bd ZT6.out.lt; have y8 := zd.cells; obtain ⟨x0, x1, x2, x3⟩ := y8; have e7 := o7.reads; have g7 := R6.out.below bd (Nat.le_refl _))
      | (go_at_call 9; refine (CE.out _ _ _ _ _ _ _ g7 e7).mono ?_; rintro e w8 ⟨rfl, b8⟩))) | fail)
    all_goals
      go_wp2_with fail
      go_ret
      exact ⟨rfl, HB.out.next (Nat.le_refl _) (BB6.out.next (Nat.le_refl _) ((D0.next (Nat.le_refl _) b7).next (Nat.le_refl _) b8))⟩
end Go.Proofs.Ytgcgkpmjahgmnaa
