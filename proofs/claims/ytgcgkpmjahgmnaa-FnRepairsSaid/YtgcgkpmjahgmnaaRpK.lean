/- Contracts: the kind of a transition's repair, in the program and in the reference. -/
import Derived.Test.YtgcgkpmjahgmnaaDlG
import Derived.Test.YtgcgkpmjahgmnaaTrQ
set_option linter.unusedSimpArgs false
set_option linter.unusedVariables false
namespace Go.Proofs.Ytgcgkpmjahgmnaa
open Go.RowKit Go.Sort

def kindOf (T : Tr) (L : Int) : Int := if needsNo T L then 0 else if (swapR T L).isSome then 1 else if (dl T L).isSome then 2 else 3
def rKind (T : Tr) (L : Int) : Int × Bool := if isRp T && inR L 0 80 then (kindOf T L, true) else (0, false)
def KindPost (w : World) (r : Int × Bool) (e : Ending) (w' : World) : Prop := e = .returned (.tuple #[.int .i64 r.1, .bool r.2]) ∧ Below w.heap.size w w'
theorem dl_pos {T : Tr} {L : Int} {l : List Int} (hT : isRp T = true) (h : dl T L = some l) : 0 < l.length := by
  have := (delR_bd h).2.2
  have := (isRp_t hT).2.2.2
  omega
set_option maxRecDepth 100000 in
set_option maxHeartbeats 6400000 in
theorem implRepairKind (f t p : Value) (T : Tr) (L : Int) (w : World) (h : TrAt w f t p T) :
    Calls Try.prog 8 #[.agg #[f, t, .int .i64 T.c, p], .int .i64 L] w (KindPost w (rKind T L)) := by
  have bX := (Below.refl w.heap.size w).alloc (Nat.le_refl _) (.cells #[f, t, .int .i64 T.c, p] 31)
  have zT := BoxT.new 31 w f t T.c p
  obtain ⟨W, hW⟩ : ∃ W : World, W = w.alloc (.cells #[f, t, .int .i64 T.c, p] 31) := ⟨_, rfl⟩
  rw [← hW] at bX zT
  have HW := Lib.hid hW
  have ZT := Lib.hid zT
  clear hW zT
  have HX := Lib.hid (h.below bX (Nat.le_refl _))
  obtain ⟨A1, c1, e1, g1, hc1⟩ := h.f.shape
  subst e1
  have HB := Lib.hid bX
  clear h bX
  have C1 := Lib.hid (isRepaired_any _ _ _ T W HX.out)
  cases q1 : isRp T
  · rw [q1] at C1
    have HR : Hid (rKind T L = (0, false)) := by show _ = _; unfold rKind; rw [q1]; rfl
    go_enter Try.func8, Try.ntmps8
    go_upto_region 1 with fail
    rw [← HW.out]
    obtain ⟨a0, a1, a2, a3⟩ := ZT.out.cells
    go_wp2_with fail
    refine C1.out.mono ?_; rintro e w1 ⟨rfl, b1⟩
    go_wp2_with fail
    go_ret2
    exact ⟨by rw [HR.out]; rfl, HB.out.next (Nat.le_refl _) b1⟩
  rw [q1] at C1
  have C2 := Lib.hid (fun W9 => isLeast_any L W9)
  cases q2 : inR L 0 80
  · rw [q2] at C2
    have HR : Hid (rKind T L = (0, false)) := by show _ = _; unfold rKind; rw [q1, q2]; rfl
    go_enter Try.func8, Try.ntmps8
    go_upto_region 1 with fail
    rw [← HW.out]
    obtain ⟨a0, a1, a2, a3⟩ := ZT.out.cells
    go_wp2_with fail
    refine C1.out.mono ?_; rintro e w1 ⟨rfl, b1⟩
    go_wp2_with fail
    refine (C2.out _).mono ?_; rintro e _ ⟨rfl, rfl⟩
    go_wp2_with fail
    go_ret2
    exact ⟨by rw [HR.out]; rfl, HB.out.next (Nat.le_refl _) b1⟩
  rw [q2] at C2
  have hL := inR_t.1 q2
  have hr0 : rKind T L = (kindOf T L, true) := by unfold rKind; rw [q1, q2]; rfl
  have C3 := Lib.hid (fun W9 B (hb : Below B W W9) (hB : W.heap.size ≤ B) => needsNothing_any _ t p T L W9 (HX.out.below hb hB) q1 hL.1 hL.2)
  have C4 := Lib.hid (fun W9 B (hb : Below B W W9) (hB : W.heap.size ≤ B) => repairSwap_any _ t p T L W9 (HX.out.below hb hB) q1 hL.1 hL.2)
  have C5 := Lib.hid (fun W9 B (hb : Below B W W9) (hB : W.heap.size ≤ B) => leastDelays_any _ t p T L W9 (HX.out.below hb hB) q1 hL.1 hL.2)
  clear hL
  cases q3 : needsNo T L
  case true =>
    rw [q3] at C3
    have HR : Hid (rKind T L = (0, true)) := by show _ = _; rw [hr0]; unfold kindOf; rw [q3]; rfl
    clear hr0
    go_enter Try.func8, Try.ntmps8
    go_upto_region 1 with fail
    rw [← HW.out]
    obtain ⟨a0, a1, a2, a3⟩ := ZT.out.cells
    go_wp2_with fail
    refine C1.out.mono ?_; rintro e w1 ⟨rfl, b1⟩
    go_wp2_with fail
    refine (C2.out _).mono ?_; rintro e _ ⟨rfl, rfl⟩
    have zz := ZT.out.keep b1 ZT.out.lt
    clear a0 a1 a2 a3
    obtain ⟨a0, a1, a2, a3⟩ := zz.cells
    go_wp2_with fail
    refine (C3.out _ _ b1 (Nat.le_refl _)).mono ?_; rintro e w2 ⟨rfl, b2⟩
    have b12 := b1.next (Nat.le_refl _) b2
    have zz := ZT.out.keep b12 ZT.out.lt
    clear a0 a1 a2 a3
    obtain ⟨a0, a1, a2, a3⟩ := zz.cells
    go_wp2_with fail
    go_ret2
    exact ⟨by rw [HR.out]; rfl, HB.out.next (Nat.le_refl _) b12⟩
  case false =>
    rw [q3] at C3
    cases q4 : swapR T L with
    | some ik =>
      rw [q4] at C4
      have HR : Hid (rKind T L = (1, true)) := by show _ = _; rw [hr0]; unfold kindOf; rw [q3, q4]; rfl
      clear hr0
      unfold swapV3 at C4
      go_enter Try.func8, Try.ntmps8
      go_upto_region 1 with fail
      rw [← HW.out]
      obtain ⟨a0, a1, a2, a3⟩ := ZT.out.cells
      go_wp2_with fail
      refine C1.out.mono ?_; rintro e w1 ⟨rfl, b1⟩
      go_wp2_with fail
      refine (C2.out _).mono ?_; rintro e _ ⟨rfl, rfl⟩
      have zz := ZT.out.keep b1 ZT.out.lt
      clear a0 a1 a2 a3
      obtain ⟨a0, a1, a2, a3⟩ := zz.cells
      go_wp2_with fail
      refine (C3.out _ _ b1 (Nat.le_refl _)).mono ?_; rintro e w2 ⟨rfl, b2⟩
      have b12 := b1.next (Nat.le_refl _) b2
      have zz := ZT.out.keep b12 ZT.out.lt
      clear a0 a1 a2 a3
      obtain ⟨a0, a1, a2, a3⟩ := zz.cells
      go_wp2_with fail
      refine (C4.out _ _ b12 (Nat.le_refl _)).mono ?_; rintro e w3 ⟨rfl, b3⟩
      have b13 := b12.next (Nat.le_refl _) b3
      have zz := ZT.out.keep b13 ZT.out.lt
      clear a0 a1 a2 a3
      obtain ⟨a0, a1, a2, a3⟩ := zz.cells
      go_wp2_with fail
      go_ret2
      exact ⟨by rw [HR.out]; rfl, HB.out.next (Nat.le_refl _) b13⟩
    | none =>
      rw [q4] at C4
      unfold swapV3 at C4
      cases q5 : dl T L with
      | some l =>
        rw [q5] at C5
        have HR : Hid (rKind T L = (2, true)) := by show _ = _; rw [hr0]; unfold kindOf; rw [q3, q4, q5]; rfl
        clear hr0
        go_enter Try.func8, Try.ntmps8
        go_upto_region 1 with fail
        rw [← HW.out]
        obtain ⟨a0, a1, a2, a3⟩ := ZT.out.cells
        go_wp2_with fail
        refine C1.out.mono ?_; rintro e w1 ⟨rfl, b1⟩
        go_wp2_with fail
        refine (C2.out _).mono ?_; rintro e _ ⟨rfl, rfl⟩
        have zz := ZT.out.keep b1 ZT.out.lt
        clear a0 a1 a2 a3
        obtain ⟨a0, a1, a2, a3⟩ := zz.cells
        go_wp2_with fail
        refine (C3.out _ _ b1 (Nat.le_refl _)).mono ?_; rintro e w2 ⟨rfl, b2⟩
        have b12 := b1.next (Nat.le_refl _) b2
        have zz := ZT.out.keep b12 ZT.out.lt
        clear a0 a1 a2 a3
        obtain ⟨a0, a1, a2, a3⟩ := zz.cells
        go_wp2_with fail
        refine (C4.out _ _ b12 (Nat.le_refl _)).mono ?_; rintro e w3 ⟨rfl, b3⟩
        have b13 := b12.next (Nat.le_refl _) b3
        have zz := ZT.out.keep b13 ZT.out.lt
        clear a0 a1 a2 a3
        obtain ⟨a0, a1, a2, a3⟩ := zz.cells
        go_wp2_with fail
        refine (C5.out _ _ b13 (Nat.le_refl _)).mono ?_; rintro e w4 ⟨v4, s4, rfl, b4, hv⟩
        have b14 := b13.next (Nat.le_refl _) b4
        obtain ⟨⟨g9, n9, c9, rfl⟩, _, _⟩ := hv
        go_wp2_with fail
        go_ret2
        exact ⟨by rw [HR.out]; rfl, HB.out.next (Nat.le_refl _) b14⟩
      | none =>
        rw [q5] at C5
        have HR : Hid (rKind T L = (3, true)) := by show _ = _; rw [hr0]; unfold kindOf; rw [q3, q4, q5]; rfl
        clear hr0
        go_enter Try.func8, Try.ntmps8
        go_upto_region 1 with fail
        rw [← HW.out]
        obtain ⟨a0, a1, a2, a3⟩ := ZT.out.cells
        go_wp2_with fail
        refine C1.out.mono ?_; rintro e w1 ⟨rfl, b1⟩
        go_wp2_with fail
        refine (C2.out _).mono ?_; rintro e _ ⟨rfl, rfl⟩
        have zz := ZT.out.keep b1 ZT.out.lt
        clear a0 a1 a2 a3
        obtain ⟨a0, a1, a2, a3⟩ := zz.cells
        go_wp2_with fail
        refine (C3.out _ _ b1 (Nat.le_refl _)).mono ?_; rintro e w2 ⟨rfl, b2⟩
        have b12 := b1.next (Nat.le_refl _) b2
        have zz := ZT.out.keep b12 ZT.out.lt
        clear a0 a1 a2 a3
        obtain ⟨a0, a1, a2, a3⟩ := zz.cells
        go_wp2_with fail
        refine (C4.out _ _ b12 (Nat.le_refl _)).mono ?_; rintro e w3 ⟨rfl, b3⟩
        have b13 := b12.next (Nat.le_refl _) b3
        have zz := ZT.out.keep b13 ZT.out.lt
        clear a0 a1 a2 a3
        obtain ⟨a0, a1, a2, a3⟩ := zz.cells
        go_wp2_with fail
        refine (C5.out _ _ b13 (Nat.le_refl _)).mono ?_; rintro e w4 ⟨v4, s4, rfl, b4, hv⟩
        have b14 := b13.next (Nat.le_refl _) b4
        obtain ⟨rfl, rfl⟩ := hv
        go_wp2_with fail
        go_ret2
        exact ⟨by rw [HR.out]; rfl, HB.out.next (Nat.le_refl _) b14⟩
set_option maxRecDepth 100000 in
set_option maxHeartbeats 6400000 in
theorem specRepairKind (f t p : Value) (T : Tr) (L : Int) (w : World) (h : TrAt w f t p T) :
    Calls Try.prog 6 #[.agg #[f, t, .int .i64 T.c, p], .int .i64 L] w (KindPost w (rKind T L)) := by
  have bX := (Below.refl w.heap.size w).alloc (Nat.le_refl _) (.cells #[f, t, .int .i64 T.c, p] 31)
  have zT := BoxT.new 31 w f t T.c p
  obtain ⟨W, hW⟩ : ∃ W : World, W = w.alloc (.cells #[f, t, .int .i64 T.c, p] 31) := ⟨_, rfl⟩
  rw [← hW] at bX zT
  have HW := Lib.hid hW
  have ZT := Lib.hid zT
  clear hW zT
  have HX := Lib.hid (h.below bX (Nat.le_refl _))
  obtain ⟨A1, c1, e1, g1, hc1⟩ := h.f.shape
  subst e1
  have HB := Lib.hid bX
  clear h bX
  have C1 := Lib.hid (rpGood_any _ _ _ T W HX.out)
  cases q1 : isRp T
  · rw [q1] at C1
    have HR : Hid (rKind T L = (0, false)) := by show _ = _; unfold rKind; rw [q1]; rfl
    go_enter Try.func6, Try.ntmps6
    go_upto_region 1 with fail
    rw [← HW.out]
    obtain ⟨a0, a1, a2, a3⟩ := ZT.out.cells
    go_wp2_with fail
    refine C1.out.mono ?_; rintro e w1 ⟨rfl, b1⟩
    go_wp2_with fail
    go_ret2
    exact ⟨by rw [HR.out]; rfl, HB.out.next (Nat.le_refl _) b1⟩
  rw [q1] at C1
  have C2 := Lib.hid (fun W9 => apDistance_any L W9)
  cases q2 : inR L 0 80
  · rw [q2] at C2
    have HR : Hid (rKind T L = (0, false)) := by show _ = _; unfold rKind; rw [q1, q2]; rfl
    go_enter Try.func6, Try.ntmps6
    go_upto_region 1 with fail
    rw [← HW.out]
    obtain ⟨a0, a1, a2, a3⟩ := ZT.out.cells
    go_wp2_with fail
    refine C1.out.mono ?_; rintro e w1 ⟨rfl, b1⟩
    go_wp2_with fail
    refine (C2.out _).mono ?_; rintro e _ ⟨rfl, rfl⟩
    go_wp2_with fail
    go_ret2
    exact ⟨by rw [HR.out]; rfl, HB.out.next (Nat.le_refl _) b1⟩
  rw [q2] at C2
  have hL := inR_t.1 q2
  have hr0 : rKind T L = (kindOf T L, true) := by unfold rKind; rw [q1, q2]; rfl
  obtain ⟨i1, i2, i3, i4⟩ := isRp_t q1
  have C3 := Lib.hid (fun W9 (hb : Below W.heap.size W W9) dv (hd : IntsAt W9 dv (zeros T.f.length)) => rpClose_any _ t p dv T (zeros T.f.length) L W9 (HX.out.below hb (Nat.le_refl _)) q1 hd (zeros_len _) (fun i _ => by rw [gi_zeros]; omega) hL.1 hL.2)
  have C4 := Lib.hid (fun W9 B (hb : Below B W W9) (hB : W.heap.size ≤ B) => rpSwap_any _ t p T L W9 (HX.out.below hb hB) q1 hL.1 hL.2)
  have C5 := Lib.hid (fun W9 B (hb : Below B W W9) (hB : W.heap.size ≤ B) => rpDelays_any _ t p T L W9 (HX.out.below hb hB) q1 hL.1 hL.2)
  clear hL i1 i2
  have hnn : needsNo T L = decide (closeN T L (zeros T.f.length) = 0) := rfl
  obtain ⟨N, hN⟩ : ∃ N, N = T.f.length := ⟨_, rfl⟩
  rw [← hN] at C1 C3 C4 C5 ZT HW g1 i3 i4 hnn
  rw [← hN]
  clear hN
  have hmk := fun W => run_make_row' (P := Try.prog) 23 3 _ 8 Try.underlying23 info_int rfl .i64 .i64 N (by omega) (by omega) W
  have HNN := Lib.hid hnn
  have HR0 := Lib.hid hr0
  clear hnn hr0
  go_enter Try.func6, Try.ntmps6
  go_upto_region 1 with fail
  rw [← HW.out]
  obtain ⟨a0, a1, a2, a3⟩ := ZT.out.cells
  go_wp2_with fail
  refine C1.out.mono ?_; rintro e w1 ⟨rfl, b1⟩
  go_wp2_with fail
  refine (C2.out _).mono ?_; rintro e _ ⟨rfl, rfl⟩
  have bd : ∀ o, Below w1.heap.size w1 (w1.drew.alloc o) := fun o => ((Below.refl w1.heap.size w1).drewN 1).alloc (Nat.le_refl _) o
  have BD := Lib.hid bd
  have hz := zrow_ints w1.drew w1.heap.size N (Nat.le_refl _) (by omega)
  have HZ := Lib.hid hz.reads
  have z1 := ZT.out.keep b1 ZT.out.lt
  have zz := z1.keep ((Below.refl w1.heap.size w1).alloc (Nat.le_refl _) (.cells (madeCells #[.int .i64 0] N) 3)) z1.lt
  obtain ⟨y0, y1, y2, y3⟩ := zz.cells
  clear a0 a1 a2 a3
  obtain ⟨a0, a1, a2, a3⟩ := z1.cells
  clear bd hz zz z1
  go_upto_region 3 with fail
  go_cut [26] (fun s wx => s = .bool (needsNo T L) ∧ Below w1.heap.size w1 wx)
  case first =>
    go_region_law (go_simp; go_at_call 25; refine (C3.out _ (b1.trans ((BD.out _).mono b1.size)) _ HZ.out).mono ?_; rintro e w5 ⟨A9, c9, rfl, q9, q8, b9⟩)
    all_goals
      go_wp2_with fail
      go_meet
      exact ⟨by rw [HNN.out]; congr 1; rw [Bool.eq_iff_iff]; simp, (BD.out _).next (Nat.le_refl _) b9⟩
  case rest =>
    obtain ⟨rfl, b5⟩ := hcut
    have b15 := b1.next (Nat.le_refl _) b5
    obtain ⟨w2, hw2⟩ : ∃ w9, w9 = wc := ⟨_, rfl⟩
    subst hw2
    clear a0 a1 a2 a3 y0 y1 y2 y3 hmk BD HZ
    obtain ⟨a0, a1, a2, a3⟩ := (ZT.out.keep b15 ZT.out.lt).cells
    cases q3 : needsNo T L
    case true =>
      have HR : Hid (rKind T L = (0, true)) := by show _ = _; rw [HR0.out]; unfold kindOf; rw [q3]; rfl
      go_wp2_with fail
      go_ret2
      exact ⟨by rw [HR.out]; rfl, HB.out.next (Nat.le_refl _) b15⟩
    case false =>
      cases q4 : swapR T L with
      | some ik =>
        rw [q4] at C4
        have HR : Hid (rKind T L = (1, true)) := by show _ = _; rw [HR0.out]; unfold kindOf; rw [q3, q4]; rfl
        unfold swapV2 at C4
        have hik0 : (0 : Int) ≤ (ik.1 : Int) := by omega
        go_wp2_with fail
        refine (C4.out _ _ b15 (Nat.le_refl _)).mono ?_; rintro e w3 ⟨rfl, b3⟩
        have b13 := b15.next (Nat.le_refl _) b3
        have zz := ZT.out.keep b13 ZT.out.lt
        clear a0 a1 a2 a3
        obtain ⟨a0, a1, a2, a3⟩ := zz.cells
        go_wp2_with fail
        go_ret2
        exact ⟨by rw [HR.out]; rfl, HB.out.next (Nat.le_refl _) b13⟩
      | none =>
        rw [q4] at C4
        unfold swapV2 at C4
        cases q5 : dl T L with
        | some l =>
          rw [q5] at C5
          have HR : Hid (rKind T L = (2, true)) := by show _ = _; rw [HR0.out]; unfold kindOf; rw [q3, q4, q5]; rfl
          have hl0 := dl_pos q1 q5
          have hl1 : (0 : Int) < (l.length : Int) := by omega
          go_wp2_with fail
          refine (C4.out _ _ b15 (Nat.le_refl _)).mono ?_; rintro e w3 ⟨rfl, b3⟩
          have b13 := b15.next (Nat.le_refl _) b3
          have zz := ZT.out.keep b13 ZT.out.lt
          clear a0 a1 a2 a3
          obtain ⟨a0, a1, a2, a3⟩ := zz.cells
          go_wp2_with fail
          refine (C5.out _ _ b13 (Nat.le_refl _)).mono ?_; rintro e w4 ⟨v4, s4, rfl, b4, hv⟩
          have b14 := b13.next (Nat.le_refl _) b4
          obtain ⟨_, ho, _⟩ := hv
          obtain ⟨A9, c9, rfl, _, _⟩ := ho.reads.shape
          clear ho
          go_wp2_with fail
          go_ret2
          exact ⟨by rw [HR.out]; rfl, HB.out.next (Nat.le_refl _) b14⟩
        | none =>
          rw [q5] at C5
          have HR : Hid (rKind T L = (3, true)) := by show _ = _; rw [HR0.out]; unfold kindOf; rw [q3, q4, q5]; rfl
          go_wp2_with fail
          refine (C4.out _ _ b15 (Nat.le_refl _)).mono ?_; rintro e w3 ⟨rfl, b3⟩
          have b13 := b15.next (Nat.le_refl _) b3
          have zz := ZT.out.keep b13 ZT.out.lt
          clear a0 a1 a2 a3
          obtain ⟨a0, a1, a2, a3⟩ := zz.cells
          go_wp2_with fail
          refine (C5.out _ _ b13 (Nat.le_refl _)).mono ?_; rintro e w4 ⟨v4, s4, rfl, b4, hv⟩
          have b14 := b13.next (Nat.le_refl _) b4
          obtain ⟨rfl, rfl⟩ := hv
          go_wp2_with fail
          go_ret2
          exact ⟨by rw [HR.out]; rfl, HB.out.next (Nat.le_refl _) b14⟩
end Go.Proofs.Ytgcgkpmjahgmnaa
