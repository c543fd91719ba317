/- Contracts of the laws' helpers for transitions; how an argument is opened that is one. -/
import Derived.Test.YtgcgkpmjahgmnaaTrS
import Derived.Test.YtgcgkpmjahgmnaaOpenR
import Derived.Test.YtgcgkpmjahgmnaaOpen
import Derived.Test.YtgcgkpmjahgmnaaHelpL
import Derived.Deep.Slices
import Derived.Deep.Fields
set_option linter.unusedSimpArgs false
set_option linter.unusedVariables false
namespace Go.Proofs.Ytgcgkpmjahgmnaa
open Go.RowKit Go.Sort Go.ChangeShapes Go.WideShapes Go.ChangeAt Go.Deep

def totT (T : Tr) : Nat := T.f.length + T.t.length + T.p.length
set_option maxRecDepth 100000 in
set_option maxHeartbeats 1600000 in
theorem szTr_yes (f t p : Value) (T : Tr) (w : World) (h : TrAt w f t p T) (hl : totT T ≤ 1048576) :
    Calls Try.prog 5 #[.agg #[f, t, .int .i64 T.c, p], .int .i64 1048576] w fun e w' => e = .returned (.int .i64 (1048576 - (totT T : Int))) ∧ Below w.heap.size w w' := by
  unfold totT at hl ⊢
  have bX := (Below.refl w.heap.size w).alloc (Nat.le_refl _) (.cells #[f, t, .int .i64 T.c, p] 25)
  have zT := BoxT.new 25 w f t T.c p
  obtain ⟨W, hW⟩ : ∃ W : World, W = w.alloc (.cells #[f, t, .int .i64 T.c, p] 25) := ⟨_, rfl⟩
  rw [← hW] at bX zT
  have HW := Lib.hid hW
  have HX := h.below bX (Nat.le_refl _)
  have HB := Lib.hid bX
  obtain ⟨a0, a1, a2, a3⟩ := zT.cells
  clear hW zT bX h
  go_enter Try.func5, Try.ntmps5
  go_upto_region 1 with fail
  rw [← HW.out]
  go_wp2_with fail
  refine (szSpotS_yes _ T.f 1048576 _ HX.f (by omega) (by omega) (by omega)).mono ?_; rintro e _ ⟨rfl, rfl⟩
  go_wp2_with fail
  refine (szSpotS_yes _ T.t _ _ HX.t (by omega) (by omega) (by omega)).mono ?_; rintro e _ ⟨rfl, rfl⟩
  go_wp2_with fail
  refine (szIntS_yes _ T.p _ _ HX.p (by omega) (by omega) (by omega)).mono ?_; rintro e _ ⟨rfl, rfl⟩
  go_wp2_with fail
  go_ret
  exact ⟨ret_int (by omega), HB.out⟩
set_option maxRecDepth 100000 in
set_option maxHeartbeats 1600000 in
theorem szTr_no (f t p : Value) (T : Tr) (w : World) (h : TrAt w f t p T) (hl : 1048576 < totT T) :
    Calls Try.prog 5 #[.agg #[f, t, .int .i64 T.c, p], .int .i64 1048576] w fun e w' => e = .returned (.int .i64 (-1)) ∧ Below w.heap.size w w' := by
  unfold totT at hl
  have bX := (Below.refl w.heap.size w).alloc (Nat.le_refl _) (.cells #[f, t, .int .i64 T.c, p] 25)
  have zT := BoxT.new 25 w f t T.c p
  obtain ⟨W, hW⟩ : ∃ W : World, W = w.alloc (.cells #[f, t, .int .i64 T.c, p] 25) := ⟨_, rfl⟩
  rw [← hW] at bX zT
  have HW := Lib.hid hW
  have HX := h.below bX (Nat.le_refl _)
  have HB := Lib.hid bX
  obtain ⟨a0, a1, a2, a3⟩ := zT.cells
  clear hW zT bX h
  by_cases q1 : T.f.length ≤ 1048576
  · by_cases q2 : T.f.length + T.t.length ≤ 1048576
    · go_enter Try.func5, Try.ntmps5
      go_upto_region 1 with fail
      rw [← HW.out]
      go_wp2_with fail
      refine (szSpotS_yes _ T.f 1048576 _ HX.f (by omega) (by omega) (by omega)).mono ?_; rintro e _ ⟨rfl, rfl⟩
      go_wp2_with fail
      refine (szSpotS_yes _ T.t _ _ HX.t (by omega) (by omega) (by omega)).mono ?_; rintro e _ ⟨rfl, rfl⟩
      go_wp2_with fail
      refine (szIntS_no _ T.p _ _ HX.p (by omega) (by omega) (by omega)).mono ?_; rintro e _ ⟨rfl, rfl⟩
      go_wp2_with fail
      go_ret
      exact ⟨rfl, HB.out⟩
    · go_enter Try.func5, Try.ntmps5
      go_upto_region 1 with fail
      rw [← HW.out]
      go_wp2_with fail
      refine (szSpotS_yes _ T.f 1048576 _ HX.f (by omega) (by omega) (by omega)).mono ?_; rintro e _ ⟨rfl, rfl⟩
      go_wp2_with fail
      refine (szSpotS_no _ T.t _ _ HX.t (by omega) (by omega) (by omega)).mono ?_; rintro e _ ⟨rfl, rfl⟩
      go_wp2_with fail
      go_ret
      exact ⟨rfl, HB.out⟩
  · go_enter Try.func5, Try.ntmps5
    go_upto_region 1 with fail
    rw [← HW.out]
    go_wp2_with fail
    refine (szSpotS_no _ T.f 1048576 _ HX.f (by omega) (by omega) (by omega)).mono ?_; rintro e _ ⟨rfl, rfl⟩
    go_wp2_with fail
    go_ret
    exact ⟨rfl, HB.out⟩
theorem BoxT.set0 {ty : Nat} {w : World} {b : Nat} {f t : Value} {c : Int} {p : Value} (h : BoxT ty w b f t c p) (f' : Value) : BoxT ty (w.setCell ⟨b, 0, none⟩ f') b f' t c p := heap_setCell_same w b 0 _ _ _ h
theorem BoxT.set1 {ty : Nat} {w : World} {b : Nat} {f t : Value} {c : Int} {p : Value} (h : BoxT ty w b f t c p) (t' : Value) : BoxT ty (w.setCell ⟨b, 1, none⟩ t') b f t' c p := heap_setCell_same w b 1 _ _ _ h
theorem BoxT.set2 {ty : Nat} {w : World} {b : Nat} {f t : Value} {c : Int} {p : Value} (h : BoxT ty w b f t c p) (c' : Int) : BoxT ty (w.setCell ⟨b, 2, none⟩ (.int .i64 c')) b f t c' p := heap_setCell_same w b 2 _ _ _ h
theorem BoxT.set3 {ty : Nat} {w : World} {b : Nat} {f t : Value} {c : Int} {p : Value} (h : BoxT ty w b f t c p) (p' : Value) : BoxT ty (w.setCell ⟨b, 3, none⟩ p') b f t c p' := heap_setCell_same w b 3 _ _ _ h
set_option maxRecDepth 100000 in
set_option maxHeartbeats 6400000 in
theorem toTr_any (f t p : Value) (T : Tr) (w : World) (h : TrAt w f t p T) (hl : totT T ≤ 1048576) :
    Calls Try.prog 7 #[.agg #[f, t, .int .i64 T.c, p]] w (CopyT w T T.c) := by
  unfold totT at hl
  have bX := ((((Below.refl w.heap.size w).alloc (Nat.le_refl _) (.cells #[f, t, .int .i64 T.c, p] 25)).alloc (by simp) (.cells #[.slice none 0 0, .slice none 0 0, .int .i64 0, .slice none 0 0] 31)).alloc (by simp; omega) (.cells #[.slice none 0 0, .slice none 0 0, .int .i64 0, .slice none 0 0] 31))
  obtain ⟨W0, hW0⟩ : ∃ W9 : World, W9 = w.alloc (.cells #[f, t, .int .i64 T.c, p] 25) := ⟨_, rfl⟩
  obtain ⟨W1, hW1⟩ : ∃ W9 : World, W9 = W0.alloc (.cells #[.slice none 0 0, .slice none 0 0, .int .i64 0, .slice none 0 0] 31) := ⟨_, rfl⟩
  have z0 : BoxT 25 W0 w.heap.size f t T.c p := by rw [hW0]; exact BoxT.new _ w f t T.c p
  have z1 : BoxT 31 W1 W0.heap.size (.slice none 0 0) (.slice none 0 0) 0 (.slice none 0 0) := by rw [hW1]; exact BoxT.new _ W0 _ _ _ _
  have s0 : W0.heap.size = w.heap.size + 1 := by rw [hW0]; simp
  have s1 : W1.heap.size = w.heap.size + 2 := by rw [hW1]; simp; omega
  have d1 : Below W0.heap.size W0 W1 := by rw [hW1]; exact (Below.refl _ _).alloc (Nat.le_refl _) _
  rw [← hW0, ← hW1] at bX
  obtain ⟨W, hW⟩ : ∃ W : World, W = W1.alloc (.cells #[.slice none 0 0, .slice none 0 0, .int .i64 0, .slice none 0 0] 31) := ⟨_, rfl⟩
  have d2 : Below W1.heap.size W1 W := by rw [hW]; exact (Below.refl _ _).alloc (Nat.le_refl _) _
  have z2 : BoxT 31 W W1.heap.size (.slice none 0 0) (.slice none 0 0) 0 (.slice none 0 0) := by rw [hW]; exact BoxT.new _ W1 _ _ _ _
  have s2 : W.heap.size = w.heap.size + 3 := by rw [hW]; simp; omega
  rw [← hW] at bX
  have Z0 := Lib.hid ((z0.keep d1 z0.lt).keep d2 (by omega))
  have Z1 := Lib.hid (z1.keep d2 z1.lt)
  have Z2 := Lib.hid z2
  rw [s0] at Z1
  rw [s1] at Z2
  have HX := Lib.hid (h.below bX (Nat.le_refl _))
  have HB := Lib.hid bX
  have HW0 := Lib.hid h
  have HS := Lib.hid s2
  have HW : Hid (W = ((w.alloc (.cells #[f, t, .int .i64 T.c, p] 25)).alloc (.cells #[.slice none 0 0, .slice none 0 0, .int .i64 0, .slice none 0 0] 31)).alloc (.cells #[.slice none 0 0, .slice none 0 0, .int .i64 0, .slice none 0 0] 31)) := by show _ = _; rw [hW, hW1, hW0]
  clear hW hW0 hW1 z0 z1 z2 s0 s1 s2 d1 d2 bX h
  go_enter Try.func7, Try.ntmps7
  go_upto_region 2 with fail
  rw [← HW.out]
  have hSW : w.heap.size + 2 < W.heap.size := by have := HS.out; omega
  have hB0 : Below (w.heap.size + 2) W W := Below.refl _ _
  obtain ⟨a0, a1, a2, a3⟩ := Z0.out.cells
  -- field 1
  go_wp2_with fail
  refine (toSpotS_any _ T.f W (HX.out.f) (by omega)).mono ?_; rintro e w1 ⟨v1, rfl, o1, b1⟩
  have y1 := Z2.out.keep b1 hSW
  obtain ⟨A1, x1, rfl, _, _⟩ := o1.reads.shape
  obtain ⟨c0, c1, c2, c3⟩ := y1.cells
  obtain ⟨d0, d1, d2, d3⟩ := y1.free
  have y1s := y1.set0 (.slice A1 T.f.length x1)
  have o1s : OwnRow sptRec _ W.heap.size (.slice A1 T.f.length x1) T.f := World.ownsRow.kept o1 (grown_set8 w1 (w.heap.size + 2) 0 (.slice A1 T.f.length x1)) (ne_of_lo o1 hSW)
  have b1s : Below (w.heap.size + 2) W (w1.setCell ⟨w.heap.size + 2, 0, none⟩ (.slice A1 T.f.length x1)) := ((hB0).trans (b1.mono (show w.heap.size + 2 ≤ W.heap.size by omega))).setCell (p := ⟨w.heap.size + 2, 0, none⟩) (Nat.le_refl _) _
  go_upto_region 3 with fail
  obtain ⟨u1, hu1⟩ : ∃ W9 : World, W9 = (w1.setCell ⟨w.heap.size + 2, 0, none⟩ (.slice A1 T.f.length x1)) := ⟨_, rfl⟩
  rw [← hu1] at y1s b1s o1s
  rw [← hu1]
  have hsz2 : W.heap.size ≤ u1.heap.size := b1s.size
  have q1 := Z0.out.keep b1s (by omega)
  clear a0 a1 a2 a3 c0 c1 c2 c3 d0 d1 d2 d3 y1 o1 b1 hu1
  obtain ⟨a0, a1, a2, a3⟩ := q1.cells
  -- field 2
  go_wp2_with fail
  refine (toSpotS_any _ T.t u1 ((HW0.out.below (HB.out.trans (b1s.mono (show w.heap.size ≤ w.heap.size + 2 by omega))) (Nat.le_refl _)).t) (by omega)).mono ?_; rintro e w2 ⟨v2, rfl, o2, b2⟩
  have y2 := y1s.keep b2 (by omega)
  obtain ⟨A2, x2, rfl, _, _⟩ := o2.reads.shape
  obtain ⟨c0, c1, c2, c3⟩ := y2.cells
  obtain ⟨d0, d1, d2, d3⟩ := y2.free
  have y2s := y2.set1 (.slice A2 T.t.length x2)
  have no1s : OwnRow sptRec _ W.heap.size (.slice A1 T.f.length x1) T.f := World.ownsRow.kept (o1s.below b2 (Nat.le_refl _)) (grown_set8 w2 (w.heap.size + 2) 1 (.slice A2 T.t.length x2)) (ne_of_lo (o1s.below b2 (Nat.le_refl _)) hSW)
  have o2s : OwnRow sptRec _ W.heap.size (.slice A2 T.t.length x2) T.t := World.ownsRow.kept (ownsRow_lo o2 hsz2) (grown_set8 w2 (w.heap.size + 2) 1 (.slice A2 T.t.length x2)) (ne_of_lo (ownsRow_lo o2 hsz2) hSW)
  have b2s : Below (w.heap.size + 2) W (w2.setCell ⟨w.heap.size + 2, 1, none⟩ (.slice A2 T.t.length x2)) := ((b1s).trans (b2.mono (show w.heap.size + 2 ≤ u1.heap.size by omega))).setCell (p := ⟨w.heap.size + 2, 1, none⟩) (Nat.le_refl _) _
  go_upto_region 4 with fail
  obtain ⟨u2, hu2⟩ : ∃ W9 : World, W9 = (w2.setCell ⟨w.heap.size + 2, 1, none⟩ (.slice A2 T.t.length x2)) := ⟨_, rfl⟩
  rw [← hu2] at y2s b2s no1s o2s
  rw [← hu2]
  have hsz3 : W.heap.size ≤ u2.heap.size := b2s.size
  have q2 := Z0.out.keep b2s (by omega)
  clear a0 a1 a2 a3 c0 c1 c2 c3 d0 d1 d2 d3 y2 o2 b2 hu2
  obtain ⟨a0, a1, a2, a3⟩ := q2.cells
  -- field 3
  have y3 := y2s
  obtain ⟨c0, c1, c2, c3⟩ := y3.cells
  obtain ⟨d0, d1, d2, d3⟩ := y3.free
  have y3s := y3.set2 T.c
  have nno1s : OwnRow sptRec _ W.heap.size (.slice A1 T.f.length x1) T.f := World.ownsRow.kept no1s (grown_set8 u2 (w.heap.size + 2) 2 (.int .i64 T.c)) (ne_of_lo no1s hSW)
  have no2s : OwnRow sptRec _ W.heap.size (.slice A2 T.t.length x2) T.t := World.ownsRow.kept o2s (grown_set8 u2 (w.heap.size + 2) 2 (.int .i64 T.c)) (ne_of_lo o2s hSW)
  have b3s : Below (w.heap.size + 2) W (u2.setCell ⟨w.heap.size + 2, 2, none⟩ (.int .i64 T.c)) := (b2s).setCell (p := ⟨w.heap.size + 2, 2, none⟩) (Nat.le_refl _) _
  go_upto_region 5 with fail
  obtain ⟨u3, hu3⟩ : ∃ W9 : World, W9 = (u2.setCell ⟨w.heap.size + 2, 2, none⟩ (.int .i64 T.c)) := ⟨_, rfl⟩
  rw [← hu3] at y3s b3s nno1s no2s
  rw [← hu3]
  have hsz4 : W.heap.size ≤ u3.heap.size := b3s.size
  have q3 := Z0.out.keep b3s (by omega)
  clear a0 a1 a2 a3 c0 c1 c2 c3 d0 d1 d2 d3 y3 hu3
  obtain ⟨a0, a1, a2, a3⟩ := q3.cells
  -- field 4
  go_wp2_with fail
  refine (toIntS_any _ T.p u3 ((HW0.out.below (HB.out.trans (b3s.mono (show w.heap.size ≤ w.heap.size + 2 by omega))) (Nat.le_refl _)).p) (by omega)).mono ?_; rintro e w4 ⟨v4, rfl, o4, b4⟩
  have y4 := y3s.keep b4 (by omega)
  obtain ⟨A4, x4, rfl, _, _⟩ := o4.reads.shape
  have PF := ne_of_two nno1s o4
  have PT := ne_of_two no2s o4
  obtain ⟨c0, c1, c2, c3⟩ := y4.cells
  obtain ⟨d0, d1, d2, d3⟩ := y4.free
  have y4s := y4.set3 (.slice A4 T.p.length x4)
  have nnno1s : OwnRow sptRec _ W.heap.size (.slice A1 T.f.length x1) T.f := World.ownsRow.kept (nno1s.below b4 (Nat.le_refl _)) (grown_set8 w4 (w.heap.size + 2) 3 (.slice A4 T.p.length x4)) (ne_of_lo (nno1s.below b4 (Nat.le_refl _)) hSW)
  have nno2s : OwnRow sptRec _ W.heap.size (.slice A2 T.t.length x2) T.t := World.ownsRow.kept (no2s.below b4 (Nat.le_refl _)) (grown_set8 w4 (w.heap.size + 2) 3 (.slice A4 T.p.length x4)) (ne_of_lo (no2s.below b4 (Nat.le_refl _)) hSW)
  have o4s := World.ownsRow.kept (ownsRow_lo o4 hsz4) (grown_set8 w4 (w.heap.size + 2) 3 (.slice A4 T.p.length x4)) (ne_of_lo (ownsRow_lo o4 hsz4) hSW)
  have b4s : Below (w.heap.size + 2) W (w4.setCell ⟨w.heap.size + 2, 3, none⟩ (.slice A4 T.p.length x4)) := ((b3s).trans (b4.mono (show w.heap.size + 2 ≤ u3.heap.size by omega))).setCell (p := ⟨w.heap.size + 2, 3, none⟩) (Nat.le_refl _) _
  go_upto_region 6 with fail
  obtain ⟨u4, hu4⟩ : ∃ W9 : World, W9 = (w4.setCell ⟨w.heap.size + 2, 3, none⟩ (.slice A4 T.p.length x4)) := ⟨_, rfl⟩
  rw [← hu4] at y4s b4s nnno1s nno2s o4s
  rw [← hu4]
  have hsz5 : W.heap.size ≤ u4.heap.size := b4s.size
  have q4 := Z0.out.keep b4s (by omega)
  clear a0 a1 a2 a3 c0 c1 c2 c3 d0 d1 d2 d3 y4 o4 b4 hu4
  have r4 := Z1.out.keep b4s (show w.heap.size + 1 < w.heap.size + 2 by omega)
  obtain ⟨g0, g1, g2, g3⟩ := y4s.cells
  obtain ⟨c0, c1, c2, c3⟩ := r4.cells
  obtain ⟨d0, d1, d2, d3⟩ := r4.free
  have hown : OwnT u4 W.heap.size (.slice A1 T.f.length x1) (.slice A2 T.t.length x2) (.slice A4 T.p.length x4) T := ⟨nnno1s, nno2s, o4s, PF, PT⟩
  have fin := (hown.setHi (b := w.heap.size + 1) (.inl (by omega)) (.slice A1 T.f.length x1) (.slice A2 T.t.length x2) T.c (.slice A4 T.p.length x4)).lo (show w.heap.size ≤ W.heap.size by omega)
  have bfin := below_setT (HB.out.trans (b4s.mono (show w.heap.size ≤ w.heap.size + 2 by omega))) (show w.heap.size ≤ w.heap.size + 1 by omega) (.slice A1 T.f.length x1) (.slice A2 T.t.length x2) T.c (.slice A4 T.p.length x4)
  have FIN := Lib.hid fin
  have BFIN := Lib.hid bfin
  obtain ⟨p0, p1, p2, p3⟩ := (r4.set (.slice A1 T.f.length x1) (.slice A2 T.t.length x2) T.c (.slice A4 T.p.length x4)).cells
  have P9 := Lib.hid (And.intro p0 (And.intro p1 (And.intro p2 p3)))
  clear fin bfin hown r4 y4s p0 p1 p2 p3 b1s b2s b3s b4s q1 q2 q3 q4 y1s y2s y3s nnno1s nno2s o4s
  go_wp2_with fail
  obtain ⟨p0, p1, p2, p3⟩ := P9.out
  unfold setT at p0 p1 p2 p3
  exact bodyPost_ret (v := .agg #[.slice A1 T.f.length x1, .slice A2 T.t.length x2, .int .i64 T.c, .slice A4 T.p.length x4]) (by simp [results, Try.results7, go_sem, p0, p1, p2, p3]) rfl ⟨_, _, _, rfl, FIN.out, BFIN.out⟩
set_option maxRecDepth 100000 in
set_option maxHeartbeats 1600000 in
theorem eqTr_same (f t p f' t' p' : Value) (T : Tr) (w : World) (h : TrAt w f t p T) (h' : TrAt w f' t' p' T) :
    Calls Try.prog 9 #[.agg #[f, t, .int .i64 T.c, p], .agg #[f', t', .int .i64 T.c, p']] w fun e w' => e = .returned (.bool true) ∧ Below w.heap.size w w' := by
  have bX := ((Below.refl w.heap.size w).alloc (Nat.le_refl _) (.cells #[f, t, .int .i64 T.c, p] 31)).alloc (by simp) (.cells #[f', t', .int .i64 T.c, p'] 31)
  obtain ⟨W0, hW0⟩ : ∃ W9 : World, W9 = w.alloc (.cells #[f, t, .int .i64 T.c, p] 31) := ⟨_, rfl⟩
  have z0 : BoxT 31 W0 w.heap.size f t T.c p := by rw [hW0]; exact BoxT.new _ w f t T.c p
  have s0 : W0.heap.size = w.heap.size + 1 := by rw [hW0]; simp
  rw [← hW0] at bX
  obtain ⟨W, hW⟩ : ∃ W : World, W = W0.alloc (.cells #[f', t', .int .i64 T.c, p'] 31) := ⟨_, rfl⟩
  have z1 : BoxT 31 W W0.heap.size f' t' T.c p' := by rw [hW]; exact BoxT.new _ W0 _ _ _ _
  have d1 : Below W0.heap.size W0 W := by rw [hW]; exact (Below.refl _ _).alloc (Nat.le_refl _) _
  rw [← hW] at bX
  have Z0 := Lib.hid (z0.keep d1 z0.lt)
  rw [s0] at z1
  have Z1 := Lib.hid z1
  have HX := Lib.hid (h.below bX (Nat.le_refl _))
  have HY := Lib.hid (h'.below bX (Nat.le_refl _))
  have HB := Lib.hid bX
  have HW : Hid (W = (w.alloc (.cells #[f, t, .int .i64 T.c, p] 31)).alloc (.cells #[f', t', .int .i64 T.c, p'] 31)) := by show _ = _; rw [hW, hW0]
  clear hW hW0 z0 z1 s0 d1 bX h h'
  have C1 := Lib.hid (eqSpotS_any f f' T.f T.f W HX.out.f HY.out.f)
  rw [decide_eq_true (rfl : T.f = T.f)] at C1
  go_enter Try.func9, Try.ntmps9
  go_upto_region 1 with fail
  rw [← HW.out]
  obtain ⟨a0, a1, a2, a3⟩ := Z0.out.cells
  obtain ⟨c0, c1, c2, c3⟩ := Z1.out.cells
  go_wp2_with fail
  refine C1.out.mono ?_; rintro e w1 ⟨rfl, b1⟩
  have C2 := Lib.hid (eqSpotS_any t t' T.t T.t w1 (HX.out.t.below b1 (Nat.le_refl _)) (HY.out.t.below b1 (Nat.le_refl _)))
  rw [decide_eq_true (rfl : T.t = T.t)] at C2
  have q0 := Z0.out.keep b1 Z0.out.lt
  have q1 := Z1.out.keep b1 Z1.out.lt
  clear a0 a1 a2 a3 c0 c1 c2 c3
  obtain ⟨a0, a1, a2, a3⟩ := q0.cells
  obtain ⟨c0, c1, c2, c3⟩ := q1.cells
  go_wp2_with fail
  refine C2.out.mono ?_; rintro e w2 ⟨rfl, b2⟩
  have b12 := b1.next (Nat.le_refl _) b2
  have C3 := Lib.hid (eqIntS_any p p' T.p T.p w2 (HX.out.p.below b12 (Nat.le_refl _)) (HY.out.p.below b12 (Nat.le_refl _)))
  rw [beq_self_eq_true] at C3
  have r0 := Z0.out.keep b12 Z0.out.lt
  have r1 := Z1.out.keep b12 Z1.out.lt
  clear a0 a1 a2 a3 c0 c1 c2 c3
  obtain ⟨a0, a1, a2, a3⟩ := r0.cells
  obtain ⟨c0, c1, c2, c3⟩ := r1.cells
  go_wp2_with fail
  refine C3.out.mono ?_; rintro e w3 ⟨rfl, b3⟩
  go_wp2_with fail
  go_ret
  exact ⟨rfl, HB.out.next (Nat.le_refl _) (b12.next (Nat.le_refl _) b3)⟩
set_option maxRecDepth 100000 in
theorem open_flatC {H : Type} {enc : TypeId × Value → H} {W : World} {base : Nat} {t e : TypeId} {fs : Array Field} {v : Value} {fuel : Nat} {x0 : DataW H × List MemPlace} (m : Nat) (hm0 : 0 < m)
    (ht : Try.prog.underlying t = some (.slice e)) (he : Try.prog.underlying e = some (.struct fs)) (hone : oneCellFields Try.prog fs = true) (hfs : fs.size = m) (hC : Try.prog.cellsOf e = m)
    (hint : ∀ (i : Nat) (f : Field), fs[i]? = some f → Try.prog.underlying f.type = some (.int .i64))
    (hf : DataW.trod enc Try.prog W 0 (fun _ => true) true fuel t [v] = some x0) : ∃ (n : Nat) (zs : List Int), Sl W m v n (ints zs) ∧ WfInts zs := by
  rcases open_slice ht hf with ⟨hcs, _⟩ | ⟨x, l, c, mm, n, D, Pl, hcs, _, hl, hm, hmm, _, hx⟩
  · injection hcs with hcs _
    subst hcs
    exact ⟨0, [], ⟨by simp [ints], none, 0, rfl, Nat.le_refl _, by simp [maxLen], fun _ => ⟨rfl, rfl⟩, fun h => by simp at h⟩, fun x hx => by cases hx⟩
  · injection hcs with hcs _
    subst hcs
    obtain ⟨len0, hlen0⟩ : ∃ z, z = l := ⟨_, rfl⟩
    subst hlen0
    have hmc : mm = c := by simpa using hmm
    subst hmc
    rw [hC] at hx
    have key : ∀ j, j < len0 * m → ∃ y : Int, W.cell? (x.add j) = some (.int .i64 y) ∧ -9223372036854775808 ≤ y ∧ y ≤ 9223372036854775807 := by
      intro j hj
      have hi : j / m < mm := by
        have := Nat.div_lt_of_lt_mul (show j < m * len0 from by rw [Nat.mul_comm]; exact hj)
        omega
      obtain ⟨cs', hc, htr⟩ := hx (j / m) hi
      obtain ⟨_, hcl, hat⟩ := World.cells?_some hc
      obtain ⟨hl2, hall⟩ := trod_intStruct he hone (by rw [hC, hfs]) hint htr
      have hr : j % m < cs'.length := by rw [hcl]; exact Nat.mod_lt _ hm0
      obtain ⟨y, hy, hw⟩ := hall (j % m) _ (List.getElem?_eq_getElem hr)
      refine ⟨y, ?_, hw⟩
      have := hat (j % m) (by omega)
      rw [Go.Deep.add_add, List.getElem?_eq_getElem hr, hy, Nat.mul_comm, Nat.div_add_mod] at this
      exact this
    refine ⟨len0, (List.range (len0 * m)).map (fun j => intOf ((W.cell? (x.add j)).getD undef)), ⟨by simp [ints], some x, mm, rfl, hl, hm, fun h => (by cases h), fun hn => ?_⟩, ?_⟩
    · obtain ⟨bb, off, spot⟩ := x
      have hsp : spot = none := by
        obtain ⟨y, hy, _⟩ := key 0 hn
        have h2 := World.cell?_spot hy
        simpa [Addr.add] using h2
      subst hsp
      refine ⟨bb, off, rfl, fun j u hu => ?_⟩
      have hj : j < len0 * m := by have := (List.getElem?_eq_some_iff.1 hu).1; simpa [ints] using this
      obtain ⟨y, hy, _⟩ := key j hj
      have h3 := hy
      rw [Addr.add_lit] at h3
      rw [h3]
      simp [ints, hj] at hu
      rw [← hu, hy]
      rfl
    · intro y hy
      simp at hy
      obtain ⟨j, hj, rfl⟩ := hy
      obtain ⟨z, hz, hw⟩ := key j hj
      rw [hz]
      exact hw
set_option maxRecDepth 100000 in
theorem open_IntsC {H : Type} {enc : TypeId × Value → H} {W : World} {base : Nat} {v : Value} {fuel : Nat} {x0 : DataW H × List MemPlace}
    (hf : DataW.trod enc Try.prog W 0 (fun _ => true) true fuel 23 [v] = some x0) : ∃ l, IntsAt W v l ∧ WfInts l := by
  rcases open_ints Try.underlying23 Try.underlying3 (by kernel_rfl) hf with ⟨hcs, _⟩ | ⟨x, l, c, zs, hcs, _, hl, hm, hz, _, hcell, hwz⟩
  · injection hcs with hcs _
    subst hcs
    exact ⟨[], ⟨rfl, none, 0, rfl, Nat.le_refl _, by simp [maxLen], fun _ => ⟨rfl, rfl⟩, fun h => by simp at h⟩, fun x hx => by cases hx⟩
  · injection hcs with hcs _
    subst hcs
    obtain ⟨len0, hlen0⟩ : ∃ z, z = l := ⟨_, rfl⟩
    obtain ⟨cap0, hcap0⟩ : ∃ z, z = c := ⟨_, rfl⟩
    subst hlen0 hcap0
    have hzl : zs.length = cap0 := by simpa using hz
    have htl : (zs.take len0).length = len0 := by rw [List.length_take]; omega
    refine ⟨zs.take len0, ⟨by rw [ints_len, Nat.mul_one], some x, cap0, by rw [htl], by omega, hm, fun h => (by cases h), fun hn => ?_⟩, fun y hy => wf_bounds (hwz y (List.mem_of_mem_take hy))⟩
    obtain ⟨bb, off, spot⟩ := x
    have hsp : spot = none := by
      have := hcell 0 (by omega)
      have h2 := World.cell?_spot this
      simpa [Addr.add] using h2
    subst hsp
    refine ⟨bb, off, rfl, fun j u hu => ?_⟩
    have hj := (List.getElem?_eq_some_iff.1 hu).1
    rw [ints_len, htl] at hj
    have := hcell j (by omega)
    rw [Addr.add_lit] at this
    rw [this, ints_at hu]
    congr 2
    simp [gi, List.getD, List.getElem?_take, hj]
set_option maxRecDepth 100000 in
theorem open_SpotsC {H : Type} {enc : TypeId × Value → H} {W : World} {v : Value} {fuel : Nat} {x0 : DataW H × List MemPlace}
    (hf : DataW.trod enc Try.prog W 0 (fun _ => true) true fuel 22 [v] = some x0) : ∃ l, RowAt sptRec W v l := by
  obtain ⟨n, zs, hs, hw⟩ := open_flatC (base := 0) 2 (by omega) Try.underlying22 Try.underlying83 (by kernel_rfl) (by rfl) (by kernel_rfl)
    (fun i f hf => by
      match i, hf with
      | 0, hf => simp at hf; subst hf; exact Try.underlying3
      | 1, hf => simp at hf; subst hf; exact Try.underlying3
      | i + 2, hf => simp at hf) hf
  obtain ⟨l, h1, h2⟩ := spts_of_flat n zs (by have := hs.len; rwa [ints_len] at this)
  subst h1
  refine ⟨l, ?_⟩
  unfold RowAt
  rw [h2]
  exact hs
set_option maxRecDepth 100000 in
theorem open_Tr {H : Type} {enc : TypeId × Value → H} {W : World} {base : Nat} {v : Value} {d : DataW H} {p : List MemPlace}
    (hv : Value.okWide Try.prog W .any base 25 v) (h : DataW.Trod enc Try.prog W 0 (fun _ => true) true 25 v d p) :
    ∃ (f t q : Value) (T : Tr), v = .agg #[f, t, .int .i64 T.c, q] ∧ TrAt W f t q T := by
  obtain ⟨cs, rfl, hsz⟩ := okWide_struct Try.underlying25 hv
  have hC : Try.prog.cellsOf 25 = 4 := by kernel_rfl
  have hCs : Try.prog.cellsOf 22 = 1 := by kernel_rfl
  have hCl : Try.prog.cellsOf 23 = 1 := by kernel_rfl
  have hCi : Try.prog.cellsOf 3 = 1 := by kernel_rfl
  obtain ⟨l⟩ := cs
  match l, hsz.trans hC with
  | [c0, c1, c2, c3], _ =>
    obtain ⟨fuel, hf⟩ := h
    obtain ⟨xs, n, _, _, _, hxl, hg⟩ := DataW.trod_struct Try.underlying25 hf
    match xs, hxl with
    | [y0, y1, y2, y3], _ =>
      have g0 := hg 0 _ rfl
      have g1 := hg 1 _ rfl
      have g2 := hg 2 _ rfl
      have g3 := hg 3 _ rfl
      simp [Value.cells, hCs, hCi, hCl] at g0 g1 g2 g3
      obtain ⟨l0, s0⟩ := open_SpotsC g0
      obtain ⟨l1, s1⟩ := open_SpotsC g1
      obtain ⟨l3, s3, _⟩ := open_IntsC (base := 0) g3
      obtain ⟨c, hc, _⟩ := DataW.trod_int Try.underlying3 g2
      simp at hc
      subst hc
      exact ⟨c0, c1, c3, ⟨l0, l1, c, l3⟩, rfl, s0, s1, s3⟩
end Go.Proofs.Ytgcgkpmjahgmnaa
