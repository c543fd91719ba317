/- Contracts: transitions in boxes; which transitions are valid, in the program and in the reference. -/
import Derived.Test.YtgcgkpmjahgmnaaTrM
import Derived.Test.YtgcgkpmjahgmnaaChartI
set_option linter.unusedSimpArgs false
set_option linter.unusedVariables false
namespace Go.Proofs.Ytgcgkpmjahgmnaa
open Go.RowKit Go.Sort

/-- A box with a transition. -/
def BoxT (ty : Nat) (w : World) (b : Nat) (f t : Value) (c : Int) (p : Value) : Prop := w.heap[b]? = some (.cells #[f, t, .int .i64 c, p] ty (0, 0))
theorem BoxT.new (ty : Nat) (w : World) (f t : Value) (c : Int) (p : Value) : BoxT ty (w.alloc (.cells #[f, t, .int .i64 c, p] ty)) w.heap.size f t c p := by
  show (w.heap.push _)[w.heap.size]? = _
  rw [Array.getElem?_push_size]
theorem BoxT.lt {ty : Nat} {w : World} {b : Nat} {f t : Value} {c : Int} {p : Value} (h : BoxT ty w b f t c p) : b < w.heap.size := (Array.getElem?_eq_some_iff.1 h).1
theorem BoxT.keep {ty : Nat} {w w' : World} {b B : Nat} {f t : Value} {c : Int} {p : Value} (h : BoxT ty w b f t c p) (hb : Below B w w') (hB : b < B) : BoxT ty w' b f t c p := (hb.block b hB).trans h
theorem BoxT.cells {ty : Nat} {w : World} {b : Nat} {f t : Value} {c : Int} {p : Value} (h : BoxT ty w b f t c p) : w.cell? ⟨b, 0, none⟩ = some f ∧ w.cell? ⟨b, 1, none⟩ = some t ∧ w.cell? ⟨b, 2, none⟩ = some (.int .i64 c) ∧ w.cell? ⟨b, 3, none⟩ = some p :=
  ⟨by rw [cell_of_row w b 0 _ _ _ h]; rfl, by rw [cell_of_row w b 1 _ _ _ h]; rfl, by rw [cell_of_row w b 2 _ _ _ h]; rfl, by rw [cell_of_row w b 3 _ _ _ h]; rfl⟩
/-- Three slices read as a transition. -/
structure TrAt (w : World) (f t p : Value) (T : Tr) : Prop where
  f : RowAt sptRec w f T.f
  t : RowAt sptRec w t T.t
  p : IntsAt w p T.p
theorem TrAt.below {w w' : World} {f t p : Value} {T : Tr} {B : Nat} (h : TrAt w f t p T) (hb : Below B w w') (hB : w.heap.size ≤ B) : TrAt w' f t p T := ⟨h.f.below hb hB, h.t.below hb hB, h.p.below hb hB⟩
set_option maxRecDepth 100000 in
set_option maxHeartbeats 1600000 in
theorem chPair_any (v1 v2 : Value) (a b : List Spt) (w : World) (h1 : RowAt sptRec w v1 a) (h2 : RowAt sptRec w v2 b) :
    Calls Try.prog 63 #[v1, v2] w fun e w' => e = .returned (.bool (isChart a && isChart b && (a.length == b.length))) ∧ Below w.heap.size w w' := by
  have C1 := Lib.hid (chGood_any v1 a w h1)
  have C2 := Lib.hid (fun W B (hb : Below B w W) (hB : w.heap.size ≤ B) => chGood_any v2 b W (h2.below hb hB))
  obtain ⟨A, c, rfl, _, hc63⟩ := h1.shape
  obtain ⟨B, d, rfl, _, hd63⟩ := h2.shape
  cases q1 : isChart a
  · rw [q1] at C1
    go_enter Try.func63, Try.ntmps63
    go_wp2_with fail
    refine C1.out.mono ?_; rintro e w1 ⟨rfl, b1⟩
    go_wp2_with fail
    go_ret
    exact ⟨rfl, b1⟩
  · rw [q1] at C1
    cases q2 : isChart b
    · rw [q2] at C2
      go_enter Try.func63, Try.ntmps63
      go_wp2_with fail
      refine C1.out.mono ?_; rintro e w1 ⟨rfl, b1⟩
      go_wp2_with fail
      refine (C2.out _ _ b1 (Nat.le_refl _)).mono ?_; rintro e w2 ⟨rfl, b2⟩
      go_wp2_with fail
      go_ret
      exact ⟨rfl, b1.next (Nat.le_refl _) b2⟩
    · rw [q2] at C2
      go_enter Try.func63, Try.ntmps63
      go_wp2_with fail
      refine C1.out.mono ?_; rintro e w1 ⟨rfl, b1⟩
      go_wp2_with fail
      refine (C2.out _ _ b1 (Nat.le_refl _)).mono ?_; rintro e w2 ⟨rfl, b2⟩
      go_wp2_with fail
      go_ret
      exact ⟨ret_bool (by rw [Bool.eq_iff_iff]; simp; omega), b1.next (Nat.le_refl _) b2⟩
set_option maxRecDepth 100000 in
set_option maxHeartbeats 3200000 in
theorem implIsTr (f t p : Value) (T : Tr) (w : World) (h : TrAt w f t p T) :
    Calls Try.prog 51 #[.agg #[f, t, .int .i64 T.c, p]] w fun e w' => e = .returned (.bool (isTr T)) ∧ Below w.heap.size w w' := by
  have bX := (Below.refl w.heap.size w).alloc (Nat.le_refl _) (.cells #[f, t, .int .i64 T.c, p] 31)
  have zT := BoxT.new 31 w f t T.c p
  obtain ⟨W, hW⟩ : ∃ W : World, W = w.alloc (.cells #[f, t, .int .i64 T.c, p] 31) := ⟨_, rfl⟩
  rw [← hW] at bX zT
  have HW := Lib.hid hW
  have ZT := Lib.hid zT
  clear hW zT
  have hX := h.below bX (Nat.le_refl _)
  obtain ⟨A1, c1, e1, _, hc1⟩ := h.f.shape
  obtain ⟨A2, c2, e2, _, hc2⟩ := h.t.shape
  subst e1 e2
  have HX := Lib.hid hX
  have HB := Lib.hid bX
  clear hX h bX
  have C1 := Lib.hid (implIsChart _ T.f W HX.out.f)
  have C2 := Lib.hid (fun W9 B (hb : Below B W W9) (hB : W.heap.size ≤ B) => implIsChart _ T.t W9 (HX.out.t.below hb hB))
  have hlen : ((T.f.length : Int) == (T.t.length : Int)) = (T.f.length == T.t.length) := by rw [Bool.eq_iff_iff]; simp; omega
  cases q1 : isChart T.f
  · rw [q1] at C1
    go_enter Try.func51, Try.ntmps51
    go_upto_region 1 with fail
    rw [← HW.out]
    obtain ⟨a0, a1, a2, a3⟩ := ZT.out.cells
    go_wp2_with fail
    refine (C1.out).mono ?_; rintro e w1 ⟨rfl, b1⟩
    go_wp2_with fail
    go_ret
    exact ⟨ret_bool (by unfold isTr; rw [q1]; rfl), HB.out.next (Nat.le_refl _) b1⟩
  rw [q1] at C1
  cases q2 : isChart T.t
  · rw [q2] at C2
    go_enter Try.func51, Try.ntmps51
    go_upto_region 1 with fail
    rw [← HW.out]
    obtain ⟨a0, a1, a2, a3⟩ := ZT.out.cells
    go_wp2_with fail
    refine (C1.out).mono ?_; rintro e w1 ⟨rfl, b1⟩
    have bb1 := b1
    have zz := ZT.out.keep bb1 ZT.out.lt
    clear a0 a1 a2 a3
    obtain ⟨a0, a1, a2, a3⟩ := zz.cells
    go_wp2_with fail
    refine (C2.out _ _ b1 (Nat.le_refl _)).mono ?_; rintro e w2 ⟨rfl, b2⟩
    go_wp2_with fail
    go_ret
    exact ⟨ret_bool (by unfold isTr; rw [q1, q2]; rfl), (HB.out.next (Nat.le_refl _) b1).next (Nat.le_refl _) b2⟩
  rw [q2] at C2
  cases q3 : (T.f.length == T.t.length)
  · rw [q3] at hlen
    go_enter Try.func51, Try.ntmps51
    go_upto_region 1 with fail
    rw [← HW.out]
    obtain ⟨a0, a1, a2, a3⟩ := ZT.out.cells
    go_wp2_with fail
    refine (C1.out).mono ?_; rintro e w1 ⟨rfl, b1⟩
    have bb1 := b1
    have zz := ZT.out.keep bb1 ZT.out.lt
    clear a0 a1 a2 a3
    obtain ⟨a0, a1, a2, a3⟩ := zz.cells
    go_wp2_with fail
    refine (C2.out _ _ b1 (Nat.le_refl _)).mono ?_; rintro e w2 ⟨rfl, b2⟩
    have bb2 := b1.next (Nat.le_refl _) b2
    have zz := ZT.out.keep bb2 ZT.out.lt
    clear a0 a1 a2 a3
    obtain ⟨a0, a1, a2, a3⟩ := zz.cells
    go_wp2_with fail
    go_ret
    exact ⟨ret_bool (by unfold isTr; rw [q1, q2, q3]; rfl), (HB.out.next (Nat.le_refl _) b1).next (Nat.le_refl _) b2⟩
  rw [q3] at hlen
  have C4 := Lib.hid (fun W9 => within_any T.c 1 64 W9)
  cases q4 : inR T.c 1 64
  · rw [q4] at C4
    go_enter Try.func51, Try.ntmps51
    go_upto_region 1 with fail
    rw [← HW.out]
    obtain ⟨a0, a1, a2, a3⟩ := ZT.out.cells
    go_wp2_with fail
    refine (C1.out).mono ?_; rintro e w1 ⟨rfl, b1⟩
    have bb1 := b1
    have zz := ZT.out.keep bb1 ZT.out.lt
    clear a0 a1 a2 a3
    obtain ⟨a0, a1, a2, a3⟩ := zz.cells
    go_wp2_with fail
    refine (C2.out _ _ b1 (Nat.le_refl _)).mono ?_; rintro e w2 ⟨rfl, b2⟩
    have bb2 := b1.next (Nat.le_refl _) b2
    have zz := ZT.out.keep bb2 ZT.out.lt
    clear a0 a1 a2 a3
    obtain ⟨a0, a1, a2, a3⟩ := zz.cells
    go_wp2_with fail
    refine (C4.out _).mono ?_; rintro e _ ⟨rfl, rfl⟩
    go_wp2_with fail
    go_ret
    exact ⟨ret_bool (by unfold isTr; rw [q1, q2, q3, q4]; rfl), (HB.out.next (Nat.le_refl _) b1).next (Nat.le_refl _) b2⟩
  rw [q4] at C4
  have hl := (isChart_t q1)
  have C5 := Lib.hid (fun W9 B (hb : Below B W W9) (hB : W.heap.size ≤ B) => isMatching_any _ T.p T.f.length W9 (HX.out.p.below hb hB) hl.1 hl.2.1)
  have hr : Hid (isTr T = isMat T.p T.f.length) := by show _ = _; unfold isTr; rw [q1, q2, q3, q4]; rfl
  clear hl
  go_enter Try.func51, Try.ntmps51
  go_upto_region 1 with fail
  rw [← HW.out]
  obtain ⟨a0, a1, a2, a3⟩ := ZT.out.cells
  go_wp2_with fail
  refine (C1.out).mono ?_; rintro e w1 ⟨rfl, b1⟩
  have bb1 := b1
  have zz := ZT.out.keep bb1 ZT.out.lt
  clear a0 a1 a2 a3
  obtain ⟨a0, a1, a2, a3⟩ := zz.cells
  go_wp2_with fail
  refine (C2.out _ _ b1 (Nat.le_refl _)).mono ?_; rintro e w2 ⟨rfl, b2⟩
  have bb2 := b1.next (Nat.le_refl _) b2
  have zz := ZT.out.keep bb2 ZT.out.lt
  clear a0 a1 a2 a3
  obtain ⟨a0, a1, a2, a3⟩ := zz.cells
  go_wp2_with fail
  refine (C4.out _).mono ?_; rintro e _ ⟨rfl, rfl⟩
  go_wp2_with fail
  refine (C5.out _ _ bb2 (Nat.le_refl _)).mono ?_; rintro e _ ⟨rfl, rfl⟩
  go_wp2_with fail
  go_ret
  exact ⟨ret_bool hr.out.symm, (HB.out.next (Nat.le_refl _) b1).next (Nat.le_refl _) b2⟩
set_option maxRecDepth 100000 in
set_option maxHeartbeats 3200000 in
theorem asGood_any (f t p : Value) (T : Tr) (w : World) (h : TrAt w f t p T) :
    Calls Try.prog 45 #[.agg #[f, t, .int .i64 T.c, p]] w fun e w' => e = .returned (.bool (isTr T)) ∧ Below w.heap.size w w' := by
  have bX := (Below.refl w.heap.size w).alloc (Nat.le_refl _) (.cells #[f, t, .int .i64 T.c, p] 31)
  have zT := BoxT.new 31 w f t T.c p
  obtain ⟨W, hW⟩ : ∃ W : World, W = w.alloc (.cells #[f, t, .int .i64 T.c, p] 31) := ⟨_, rfl⟩
  rw [← hW] at bX zT
  have HW := Lib.hid hW
  have ZT := Lib.hid zT
  clear hW zT
  have hX := h.below bX (Nat.le_refl _)
  obtain ⟨A1, c1, e1, _, hc1⟩ := h.f.shape
  obtain ⟨A2, c2, e2, _, hc2⟩ := h.t.shape
  subst e1 e2
  have HX := Lib.hid hX
  have HB := Lib.hid bX
  clear hX h bX
  have C1 := Lib.hid (chPair_any _ _ T.f T.t W HX.out.f HX.out.t)
  cases q1 : (isChart T.f && isChart T.t && (T.f.length == T.t.length))
  · rw [q1] at C1
    go_enter Try.func45, Try.ntmps45
    go_upto_region 1 with fail
    rw [← HW.out]
    obtain ⟨a0, a1, a2, a3⟩ := ZT.out.cells
    go_wp2_with fail
    refine (C1.out).mono ?_; rintro e w1 ⟨rfl, b1⟩
    go_wp2_with fail
    go_ret
    exact ⟨ret_bool (by unfold isTr; rw [q1]; rfl), HB.out.next (Nat.le_refl _) b1⟩
  rw [q1] at C1
  have C4 := Lib.hid (fun W9 => l1In_any T.c 1 64 W9)
  cases q4 : inR T.c 1 64
  · rw [q4] at C4
    go_enter Try.func45, Try.ntmps45
    go_upto_region 1 with fail
    rw [← HW.out]
    obtain ⟨a0, a1, a2, a3⟩ := ZT.out.cells
    go_wp2_with fail
    refine (C1.out).mono ?_; rintro e w1 ⟨rfl, b1⟩
    have bb1 := b1
    have zz := ZT.out.keep bb1 ZT.out.lt
    clear a0 a1 a2 a3
    obtain ⟨a0, a1, a2, a3⟩ := zz.cells
    go_wp2_with fail
    refine (C4.out _).mono ?_; rintro e _ ⟨rfl, rfl⟩
    go_wp2_with fail
    go_ret
    exact ⟨ret_bool (by unfold isTr; rw [q1, q4]; rfl), HB.out.next (Nat.le_refl _) b1⟩
  rw [q4] at C4
  have q11 : isChart T.f = true := by rw [Bool.and_eq_true, Bool.and_eq_true] at q1; exact q1.1.1
  have hl := (isChart_t q11)
  have C5 := Lib.hid (fun W9 B (hb : Below B W W9) (hB : W.heap.size ≤ B) => maPlaces_any _ T.p T.f.length W9 (HX.out.p.below hb hB) hl.1 hl.2.1)
  have hr : Hid (isTr T = isMat T.p T.f.length) := by show _ = _; unfold isTr; rw [q1, q4]; rfl
  clear hl
  go_enter Try.func45, Try.ntmps45
  go_upto_region 1 with fail
  rw [← HW.out]
  obtain ⟨a0, a1, a2, a3⟩ := ZT.out.cells
  go_wp2_with fail
  refine (C1.out).mono ?_; rintro e w1 ⟨rfl, b1⟩
  have bb1 := b1
  have zz := ZT.out.keep bb1 ZT.out.lt
  clear a0 a1 a2 a3
  obtain ⟨a0, a1, a2, a3⟩ := zz.cells
  go_wp2_with fail
  refine (C4.out _).mono ?_; rintro e _ ⟨rfl, rfl⟩
  go_wp2_with fail
  refine (C5.out _ _ bb1 (Nat.le_refl _)).mono ?_; rintro e _ ⟨rfl, rfl⟩
  go_wp2_with fail
  go_ret
  exact ⟨ret_bool hr.out.symm, HB.out.next (Nat.le_refl _) b1⟩
set_option maxRecDepth 100000 in
set_option maxHeartbeats 3200000 in
theorem isRepaired_any (f t p : Value) (T : Tr) (w : World) (h : TrAt w f t p T) :
    Calls Try.prog 30 #[.agg #[f, t, .int .i64 T.c, p]] w fun e w' => e = .returned (.bool (isRp T)) ∧ Below w.heap.size w w' := by
  have bX := (Below.refl w.heap.size w).alloc (Nat.le_refl _) (.cells #[f, t, .int .i64 T.c, p] 31)
  have zT := BoxT.new 31 w f t T.c p
  obtain ⟨W, hW⟩ : ∃ W : World, W = w.alloc (.cells #[f, t, .int .i64 T.c, p] 31) := ⟨_, rfl⟩
  rw [← hW] at bX zT
  have HW := Lib.hid hW
  have ZT := Lib.hid zT
  clear hW zT
  have hX := h.below bX (Nat.le_refl _)
  obtain ⟨A1, c1, e1, _, hc1⟩ := h.f.shape
  obtain ⟨A2, c2, e2, _, hc2⟩ := h.t.shape
  subst e1 e2
  have HX := Lib.hid hX
  have HB := Lib.hid bX
  clear hX h bX
  have C1 := Lib.hid (implIsTr _ _ _ T W HX.out)
  cases q1 : isTr T
  · rw [q1] at C1
    go_enter Try.func30, Try.ntmps30
    go_upto_region 1 with fail
    rw [← HW.out]
    obtain ⟨a0, a1, a2, a3⟩ := ZT.out.cells
    go_wp2_with fail
    refine C1.out.mono ?_; rintro e w1 ⟨rfl, b1⟩
    have zz := ZT.out.keep b1 ZT.out.lt
    clear a0 a1 a2 a3
    obtain ⟨a0, a1, a2, a3⟩ := zz.cells
    go_wp2_with fail
    go_ret
    exact ⟨ret_bool (by unfold isRp; rw [q1]; rfl), HB.out.next (Nat.le_refl _) b1⟩
  rw [q1] at C1
  by_cases q2 : T.c ≤ 16
  · have q3 : decide ((T.f.length : Int) ≤ 6) = decide (T.f.length ≤ 6) := by rw [decide_eq_decide]; omega
    have hr : Hid (isRp T = decide (T.f.length ≤ 6)) := by show _ = _; unfold isRp; rw [q1, decide_eq_true q2]; rfl
    go_enter Try.func30, Try.ntmps30
    go_upto_region 1 with fail
    rw [← HW.out]
    obtain ⟨a0, a1, a2, a3⟩ := ZT.out.cells
    go_wp2_with fail
    refine C1.out.mono ?_; rintro e w1 ⟨rfl, b1⟩
    have zz := ZT.out.keep b1 ZT.out.lt
    clear a0 a1 a2 a3
    obtain ⟨a0, a1, a2, a3⟩ := zz.cells
    go_wp2_with fail
    go_ret
    exact ⟨ret_bool (by rw [hr.out, decide_eq_decide]), HB.out.next (Nat.le_refl _) b1⟩
  · have hr : Hid (isRp T = false) := by show _ = _; unfold isRp; rw [q1, decide_eq_false q2]; rfl
    go_enter Try.func30, Try.ntmps30
    go_upto_region 1 with fail
    rw [← HW.out]
    obtain ⟨a0, a1, a2, a3⟩ := ZT.out.cells
    go_wp2_with fail
    refine C1.out.mono ?_; rintro e w1 ⟨rfl, b1⟩
    have zz := ZT.out.keep b1 ZT.out.lt
    clear a0 a1 a2 a3
    obtain ⟨a0, a1, a2, a3⟩ := zz.cells
    go_wp2_with fail
    go_ret
    exact ⟨ret_bool hr.out.symm, HB.out.next (Nat.le_refl _) b1⟩
set_option maxRecDepth 100000 in
set_option maxHeartbeats 3200000 in
theorem rpGood_any (f t p : Value) (T : Tr) (w : World) (h : TrAt w f t p T) :
    Calls Try.prog 23 #[.agg #[f, t, .int .i64 T.c, p]] w fun e w' => e = .returned (.bool (isRp T)) ∧ Below w.heap.size w w' := by
  have bX := (Below.refl w.heap.size w).alloc (Nat.le_refl _) (.cells #[f, t, .int .i64 T.c, p] 31)
  have zT := BoxT.new 31 w f t T.c p
  obtain ⟨W, hW⟩ : ∃ W : World, W = w.alloc (.cells #[f, t, .int .i64 T.c, p] 31) := ⟨_, rfl⟩
  rw [← hW] at bX zT
  have HW := Lib.hid hW
  have ZT := Lib.hid zT
  clear hW zT
  have hX := h.below bX (Nat.le_refl _)
  obtain ⟨A1, c1, e1, _, hc1⟩ := h.f.shape
  obtain ⟨A2, c2, e2, _, hc2⟩ := h.t.shape
  subst e1 e2
  have HX := Lib.hid hX
  have HB := Lib.hid bX
  clear hX h bX
  have C1 := Lib.hid (asGood_any _ _ _ T W HX.out)
  cases q1 : isTr T
  · rw [q1] at C1
    go_enter Try.func23, Try.ntmps23
    go_upto_region 1 with fail
    rw [← HW.out]
    obtain ⟨a0, a1, a2, a3⟩ := ZT.out.cells
    go_wp2_with fail
    refine C1.out.mono ?_; rintro e w1 ⟨rfl, b1⟩
    have zz := ZT.out.keep b1 ZT.out.lt
    clear a0 a1 a2 a3
    obtain ⟨a0, a1, a2, a3⟩ := zz.cells
    go_wp2_with fail
    go_ret
    exact ⟨ret_bool (by unfold isRp; rw [q1]; rfl), HB.out.next (Nat.le_refl _) b1⟩
  rw [q1] at C1
  by_cases q2 : T.c ≤ 16
  · have q3 : decide ((T.f.length : Int) ≤ 6) = decide (T.f.length ≤ 6) := by rw [decide_eq_decide]; omega
    have hr : Hid (isRp T = decide (T.f.length ≤ 6)) := by show _ = _; unfold isRp; rw [q1, decide_eq_true q2]; rfl
    go_enter Try.func23, Try.ntmps23
    go_upto_region 1 with fail
    rw [← HW.out]
    obtain ⟨a0, a1, a2, a3⟩ := ZT.out.cells
    go_wp2_with fail
    refine C1.out.mono ?_; rintro e w1 ⟨rfl, b1⟩
    have zz := ZT.out.keep b1 ZT.out.lt
    clear a0 a1 a2 a3
    obtain ⟨a0, a1, a2, a3⟩ := zz.cells
    go_wp2_with fail
    go_ret
    exact ⟨ret_bool (by rw [hr.out, decide_eq_decide]), HB.out.next (Nat.le_refl _) b1⟩
  · have hr : Hid (isRp T = false) := by show _ = _; unfold isRp; rw [q1, decide_eq_false q2]; rfl
    go_enter Try.func23, Try.ntmps23
    go_upto_region 1 with fail
    rw [← HW.out]
    obtain ⟨a0, a1, a2, a3⟩ := ZT.out.cells
    go_wp2_with fail
    refine C1.out.mono ?_; rintro e w1 ⟨rfl, b1⟩
    have zz := ZT.out.keep b1 ZT.out.lt
    clear a0 a1 a2 a3
    obtain ⟨a0, a1, a2, a3⟩ := zz.cells
    go_wp2_with fail
    go_ret
    exact ⟨ret_bool hr.out.symm, HB.out.next (Nat.le_refl _) b1⟩
theorem isLeast_any (n : Int) (w : World) : Calls Try.prog 31 #[.int .i64 n] w fun e w' => e = .returned (.bool (inR n 0 80)) ∧ w = w' := by
  go_enter Try.func31, Try.ntmps31
  go_wp2_with fail
  refine (within_any _ _ _ _).mono ?_; rintro e _ ⟨rfl, rfl⟩
  go_wp2_with fail
  go_ret
  exact ⟨rfl, rfl⟩
theorem apDistance_any (n : Int) (w : World) : Calls Try.prog 24 #[.int .i64 n] w fun e w' => e = .returned (.bool (inR n 0 80)) ∧ w = w' := by
  go_enter Try.func24, Try.ntmps24
  go_wp2_with fail
  refine (l1In_any _ _ _ _).mono ?_; rintro e _ ⟨rfl, rfl⟩
  go_wp2_with fail
  go_ret
  exact ⟨rfl, rfl⟩
end Go.Proofs.Ytgcgkpmjahgmnaa
