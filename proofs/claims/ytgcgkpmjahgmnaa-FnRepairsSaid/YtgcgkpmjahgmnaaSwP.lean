/- Contract: two performers of a chart exchanged, in the reference (for valid arguments). -/
import Derived.Test.YtgcgkpmjahgmnaaTrS
import Derived.Test.YtgcgkpmjahgmnaaChartI
set_option linter.unusedSimpArgs false
set_option linter.unusedVariables false
namespace Go.Proofs.Ytgcgkpmjahgmnaa
open Go.RowKit Go.Sort

set_option maxRecDepth 100000 in
set_option maxHeartbeats 1600000 in
theorem chHas_ok (v : Value) (l : List Spt) (i : Nat) (w : World) (h : RowAt sptRec w v l) (hc : isChart l = true) (hi : i < l.length) :
    Calls Try.prog 112 #[v, .int .i64 (i : Int)] w fun e w' => e = .returned (.bool true) ∧ Below w.heap.size w w' := by
  have C1 := Lib.hid (chGood_any v l w h)
  rw [hc] at C1
  have C2 := Lib.hid (fun W9 => l1In_any (i : Int) 0 ((l.length : Int) - 1) W9)
  rw [inR_t.2 (show (0 : Int) ≤ (i : Int) ∧ (i : Int) ≤ (l.length : Int) - 1 by omega)] at C2
  have hl := isChart_t hc
  obtain ⟨A, c, rfl, hnc, hc63⟩ := h.shape
  clear hc
  go_enter Try.func112, Try.ntmps112
  go_wp2_with fail
  refine C1.out.mono ?_; rintro e w1 ⟨rfl, b1⟩
  go_wp2_with fail
  refine (C2.out _).mono ?_; rintro e _ ⟨rfl, rfl⟩
  go_wp2_with fail
  go_ret
  exact ⟨rfl, b1⟩
def SwpPost (w : World) (n : Nat) (e : Ending) (w' : World) : Prop := ∃ (v : Value) (l : List Spt), e = .returned (.tuple #[v, .bool true]) ∧ OwnRow sptRec w' w.heap.size v l ∧ l.length = n ∧ Below w.heap.size w w'
set_option maxRecDepth 100000 in
set_option maxHeartbeats 6400000 in
theorem swapPerf_ok (v : Value) (l : List Spt) (i k : Nat) (w : World) (h : RowAt sptRec w v l) (hc : isChart l = true) (hi : i < l.length) (hk : k < l.length) :
    Calls Try.prog 105 #[v, .int .i64 (i : Int), .int .i64 (k : Int)] w (SwpPost w l.length) := by
  have C1 := Lib.hid (chHas_ok v l i w h hc hi)
  have C2 := Lib.hid (fun W9 B9 (hb : Below B9 w W9) (hB : w.heap.size ≤ B9) => chHas_ok v l k W9 (h.below hb hB) hc hk)
  have hl := isChart_t hc
  have C3 := Lib.hid (fun W9 B9 (hb : Below B9 w W9) (hB : w.heap.size ≤ B9) => chOwnT v l W9 (h.below hb hB) (by omega))
  obtain ⟨A, c, rfl, hnc, hc63⟩ := h.shape
  have H := Lib.hid h
  clear hc h
  go_enter Try.func105, Try.ntmps105
  go_wp2_with fail
  refine C1.out.mono ?_; rintro e w1 ⟨rfl, b1⟩
  go_wp2_with fail
  refine (C2.out _ _ b1 (Nat.le_refl _)).mono ?_; rintro e w2 ⟨rfl, b2⟩
  have b12 := b1.next (Nat.le_refl _) b2
  go_wp2_with fail
  refine (C3.out _ _ b12 (Nat.le_refl _)).mono ?_; rintro e w3 ⟨v3, rfl, o3, b3⟩
  have b13 := b12.next (Nat.le_refl _) b3
  have o3' := o3.lo b12.size
  obtain ⟨g, c3, rfl, hbg⟩ := (show ∃ b c, v3 = .slice (some ⟨b, 0, none⟩) l.length c ∧ w.heap.size ≤ b from by
    obtain ⟨b, cap, hv, hbg, _⟩ := World.ownsRow.form o3' (by omega)
    exact ⟨b, cap, hv, hbg⟩)
  obtain ⟨b9, o9, heq, s0, s1⟩ := spt_at (H.out.below b13 (Nat.le_refl _)) k hk
  subst heq
  obtain ⟨b9', o9', heq, t0, t1⟩ := spt_at (H.out.below b13 (Nat.le_refl _)) i hi
  injection heq with heq
  injection heq with e1 e2
  subst e1 e2
  obtain ⟨r0, r1⟩ := spt_own o3' i hi
  obtain ⟨x0, hx0⟩ : ∃ z, z = (gx sptRec l k).x := ⟨_, rfl⟩
  obtain ⟨y0, hy0⟩ : ∃ z, z = (gx sptRec l k).y := ⟨_, rfl⟩
  obtain ⟨x1, hx1⟩ : ∃ z, z = (gx sptRec l i).x := ⟨_, rfl⟩
  obtain ⟨y1, hy1⟩ : ∃ z, z = (gx sptRec l i).y := ⟨_, rfl⟩
  rw [← hx0] at s0
  rw [← hy0] at s1
  rw [← hx1] at t0 r0
  rw [← hy1] at t1 r1
  have HX0 := Lib.hid hx0
  have HY0 := Lib.hid hy0
  have HX1 := Lib.hid hx1
  have HY1 := Lib.hid hy1
  clear hx0 hy0 hx1 hy1
  have f0 : w3.frozen? ⟨g, i * 2, none⟩ = false := OwnRow.free o3' _
  have f1 : w3.frozen? ⟨g, i * 2 + 1, none⟩ = false := OwnRow.free o3' _
  have hst := OwnRow.set o3' i ⟨x0, y0⟩ hi
  have o4 : OwnRow sptRec ((w3.setCell ⟨g, i * 2, none⟩ (.int .i64 x0)).setCell ⟨g, i * 2 + 1, none⟩ (.int .i64 y0)) w.heap.size (.slice (some ⟨g, 0, none⟩) l.length c3) (l.set i ⟨x0, y0⟩) := hst.1
  have b14 : Below w.heap.size w ((w3.setCell ⟨g, i * 2, none⟩ (.int .i64 x0)).setCell ⟨g, i * 2 + 1, none⟩ (.int .i64 y0)) := (b13.setCell (p := ⟨g, i * 2, none⟩) hbg _).setCell (p := ⟨g, i * 2 + 1, none⟩) hbg _
  go_upto_region 5 with fail
  obtain ⟨w4, hw4⟩ : ∃ W9 : World, W9 = (w3.setCell ⟨g, i * 2, none⟩ (.int .i64 x0)).setCell ⟨g, i * 2 + 1, none⟩ (.int .i64 y0) := ⟨_, rfl⟩
  rw [← hw4] at o4 b14
  rw [← hw4]
  clear hw4 s0 s1 t0 t1 r0 r1 f0 f1 hst o3 o3'
  obtain ⟨b9'', o9'', heq, t0, t1⟩ := spt_at (H.out.below b14 (Nat.le_refl _)) i hi
  injection heq with heq
  injection heq with e1 e2
  subst e1 e2
  rw [← HX1.out] at t0
  rw [← HY1.out] at t1
  have hl4 : (l.set i (⟨x0, y0⟩ : Spt)).length = l.length := by simp
  obtain ⟨u0, u1⟩ := spt_own o4 k (by rw [hl4]; exact hk)
  obtain ⟨x2, hx2⟩ : ∃ z, z = (gx sptRec (l.set i (⟨x0, y0⟩ : Spt)) k).x := ⟨_, rfl⟩
  obtain ⟨y2, hy2⟩ : ∃ z, z = (gx sptRec (l.set i (⟨x0, y0⟩ : Spt)) k).y := ⟨_, rfl⟩
  rw [← hx2] at u0
  rw [← hy2] at u1
  have f0 : w4.frozen? ⟨g, k * 2, none⟩ = false := OwnRow.free o4 _
  have f1 : w4.frozen? ⟨g, k * 2 + 1, none⟩ = false := OwnRow.free o4 _
  have hst := OwnRow.set o4 k ⟨x1, y1⟩ (by rw [hl4]; exact hk)
  have Hst := Lib.hid hst.1
  have b15 := Lib.hid ((b14.setCell (p := ⟨g, k * 2, none⟩) hbg (.int .i64 x1)).setCell (p := ⟨g, k * 2 + 1, none⟩) hbg (.int .i64 y1))
  have HL := Lib.hid hl4
  clear hst o4 b14 hx2 hy2 hl4
  go_wp2_with fail
  go_ret2
  exact ⟨_, _, rfl, Hst.out, by rw [List.length_set, HL.out], b15.out⟩
end Go.Proofs.Ytgcgkpmjahgmnaa
