/- The draws of the laws on views: a frame, a frame and a chart, charts for frames. -/
import Derived.Test.YtjbffahnbkpcnaaFramed
set_option linter.unusedSimpArgs false
set_option linter.unusedVariables false
namespace Go.Proofs.Ytjbffahnbkpcnaa
open Go.RowKit Go.Sort

def DrawnVw (w : World) (e : Ending) (w' : World) : Prop := ∃ (x y c r : Int) (u : Value) (l : List Spt), e = .returned (.tuple #[.agg #[.int .i64 x, .int .i64 y, .int .i64 c, .int .i64 r], u]) ∧ OwnRow sptRec w' w.heap.size u l ∧ Below w.heap.size w w' ∧ l.length ≤ 13
def DrawnFr (w : World) (e : Ending) (w' : World) : Prop := ∃ (x y c r : Int), e = .returned (.agg #[.int .i64 x, .int .i64 y, .int .i64 c, .int .i64 r]) ∧ Below w.heap.size w w'
def DrawnSp (w : World) (e : Ending) (w' : World) : Prop := ∃ (u : Value) (l : List Spt), e = .returned u ∧ OwnRow sptRec w' w.heap.size u l ∧ Below w.heap.size w w' ∧ l.length ≤ 13
theorem BoxFr.apl {w w' : World} {b g : Nat} {x y c r : Int} (h : BoxFr w b x y c r) (ha : Apg g w w') (hb : b < g) : BoxFr w' b x y c r := (ha.block b h.lt (.inl hb)).trans h
theorem below_set4 {B : Nat} {w0 w : World} (h : Below B w0 w) {b : Nat} (hb : B ≤ b) (x y c r : Int) : Below B w0 ((((w.setCell ⟨b, 0, none⟩ (.int .i64 x)).setCell ⟨b, 1, none⟩ (.int .i64 y)).setCell ⟨b, 2, none⟩ (.int .i64 c)).setCell ⟨b, 3, none⟩ (.int .i64 r)) :=
  (((h.setCell (p := ⟨b, 0, none⟩) hb _).setCell (p := ⟨b, 1, none⟩) hb _).setCell (p := ⟨b, 2, none⟩) hb _).setCell (p := ⟨b, 3, none⟩) hb _
theorem BoxFr.set {w : World} {b : Nat} {x y c r : Int} (h : BoxFr w b x y c r) (x' y' c' r' : Int) : BoxFr ((((w.setCell ⟨b, 0, none⟩ (.int .i64 x')).setCell ⟨b, 1, none⟩ (.int .i64 y')).setCell ⟨b, 2, none⟩ (.int .i64 c')).setCell ⟨b, 3, none⟩ (.int .i64 r')) b x' y' c' r' := (((h.set0 x').set1 y').set2 c').set3 r'
theorem OwnRow.set4L {α : Type} {R : Rec α} {w : World} {lo b : Nat} {v : Value} {l : List α} (h : OwnRow R w lo v l) (hb : b < lo) (x y c r : Int) : OwnRow R ((((w.setCell ⟨b, 0, none⟩ (.int .i64 x)).setCell ⟨b, 1, none⟩ (.int .i64 y)).setCell ⟨b, 2, none⟩ (.int .i64 c)).setCell ⟨b, 3, none⟩ (.int .i64 r)) lo v l :=
  (((h.setL9 hb 0 _).setL9 hb 1 _).setL9 hb 2 _).setL9 hb 3 _

set_option maxRecDepth 100000 in
set_option maxHeartbeats 3200000 in
theorem drawViewOf_any (v : Value) (code : List Nat) (w : World) (h : BytesAt w v code) (hw : WfCode code) (hcl : code.length ≤ 1099511627776) :
    Calls Try.prog 6 #[v] w (DrawnVw w) := by
  obtain ⟨A, c, rfl, hnc, hc63⟩ := Sl.shape h
  have z0 := BoxFr.new w 0 0 0 0
  have bw := (Below.refl w.heap.size w).alloc (Nat.le_refl _) (.cells #[.int .i64 0, .int .i64 0, .int .i64 0, .int .i64 0] 27)
  have hszv : (w.alloc (.cells #[.int .i64 0, .int .i64 0, .int .i64 0, .int .i64 0] 27)).heap.size = w.heap.size + 1 := by simp
  obtain ⟨wv, hwv⟩ : ∃ wv, wv = w.alloc (.cells #[.int .i64 0, .int .i64 0, .int .i64 0, .int .i64 0] 27) := ⟨_, rfl⟩
  rw [← hwv] at z0 bw hszv
  have HWV := Lib.hid hwv
  clear hwv
  have hv : BytesAt wv (.slice A code.length c) code := h.below bw (Nat.le_refl _)
  obtain ⟨g, hgg⟩ : ∃ g, g = wv.heap.size := ⟨_, rfl⟩
  obtain ⟨B, hBB⟩ : ∃ B, B = w.heap.size := ⟨_, rfl⟩
  have q0 := CurAt.start hv hw
  have hs0 := start_size wv (.slice A code.length c)
  have z1 := z0.al (.cells #[.slice A code.length c, .int .i64 0, .int .u64 0] 70)
  obtain ⟨w0, hw0⟩ : ∃ w0, w0 = curW wv (.slice A code.length c) := ⟨_, rfl⟩
  have hfin : ∀ w', Apg g w0 w' → Below w.heap.size w w' := fun w' a => by rw [hgg, hw0] at a; exact bw.next (Nat.le_refl _) (Apart.start a)
  have Hfin := Lib.hid hfin
  have HW9 : Hid (w0 = wv.alloc (.cells #[.slice A code.length c, .int .i64 0, .int .u64 0] 70)) := hw0
  have hw9 := HW9.out
  rw [← hgg, ← hw0] at q0
  rw [← hw0, ← hgg] at hs0
  rw [← hw9] at z1
  rw [← hgg] at hszv
  rw [← hBB] at z1 hszv
  have HG := Lib.hid hgg
  have HB := Lib.hid hBB
  clear hfin hgg hw0 hw9 hBB z0 hv bw h
  have hBg : B < g := by omega
  have HSZ := Lib.hid hszv
  clear hszv
  have C1 := Lib.hid (framed_any g 0 _ code w0 q0 (by omega) hcl)
  go_enter Try.func6, Try.ntmps6
  go_upto_region 1 with fail
  rw [← HWV.out]
  go_upto_region 2 with fail
  rw [← HW9.out, ← HG.out]
  go_wp2_with fail
  refine C1.out.mono ?_; rintro e w1 ⟨x, y, cc, rr, u1, l, k1, rfl, o1, q1, a1, hl13, hk1, hj1⟩
  have z2 := z1.apl a1 hBg
  have hs1 := a1.size
  have hwB : w.heap.size ≤ B := by rw [HB.out]; exact Nat.le_refl _
  have hlo : w.heap.size ≤ w0.heap.size := by have := HB.out; omega
  clear C1 z1 q0
  obtain ⟨c0, c1, c2, c3, f0, f1, f2, f3⟩ := z2.cells
  have zf := Lib.hid (z2.set x y cc rr)
  have of := Lib.hid (o1.set4L (b := B) (by omega) x y cc rr)
  have bf := Lib.hid (below_set4 (Hfin.out _ a1) hwB x y cc rr)
  clear z2 o1 q1 a1
  rw [← HB.out]
  go_wp2_with fail
  obtain ⟨r0, r1, r2, r3, _, _, _, _⟩ := zf.out.cells
  exact bodyPost_ret (v := .tuple #[.agg #[.int .i64 x, .int .i64 y, .int .i64 cc, .int .i64 rr], u1]) (by simp [results, Try.results6, go_sem, r0, r1, r2, r3]) rfl ⟨x, y, cc, rr, u1, l, rfl, OwnRow.lo of.out hlo, bf.out, hl13⟩
set_option maxRecDepth 100000 in
set_option maxHeartbeats 3200000 in
theorem drawIsFrameOf_any (v : Value) (code : List Nat) (w : World) (h : BytesAt w v code) (hw : WfCode code) (hcl : code.length ≤ 1099511627776) :
    Calls Try.prog 37 #[v] w (DrawnFr w) := by
  obtain ⟨A, c, rfl, hnc, hc63⟩ := Sl.shape h
  have z0 := BoxFr.new w 0 0 0 0
  have bw := (Below.refl w.heap.size w).alloc (Nat.le_refl _) (.cells #[.int .i64 0, .int .i64 0, .int .i64 0, .int .i64 0] 27)
  have hszv : (w.alloc (.cells #[.int .i64 0, .int .i64 0, .int .i64 0, .int .i64 0] 27)).heap.size = w.heap.size + 1 := by simp
  obtain ⟨wv, hwv⟩ : ∃ wv, wv = w.alloc (.cells #[.int .i64 0, .int .i64 0, .int .i64 0, .int .i64 0] 27) := ⟨_, rfl⟩
  rw [← hwv] at z0 bw hszv
  have HWV := Lib.hid hwv
  clear hwv
  have hv : BytesAt wv (.slice A code.length c) code := h.below bw (Nat.le_refl _)
  obtain ⟨g, hgg⟩ : ∃ g, g = wv.heap.size := ⟨_, rfl⟩
  obtain ⟨B, hBB⟩ : ∃ B, B = w.heap.size := ⟨_, rfl⟩
  have q0 := CurAt.start hv hw
  have hs0 := start_size wv (.slice A code.length c)
  have z1 := z0.al (.cells #[.slice A code.length c, .int .i64 0, .int .u64 0] 70)
  obtain ⟨w0, hw0⟩ : ∃ w0, w0 = curW wv (.slice A code.length c) := ⟨_, rfl⟩
  have hfin : ∀ w', Apg g w0 w' → Below w.heap.size w w' := fun w' a => by rw [hgg, hw0] at a; exact bw.next (Nat.le_refl _) (Apart.start a)
  have Hfin := Lib.hid hfin
  have HW9 : Hid (w0 = wv.alloc (.cells #[.slice A code.length c, .int .i64 0, .int .u64 0] 70)) := hw0
  have hw9 := HW9.out
  rw [← hgg, ← hw0] at q0
  rw [← hw0, ← hgg] at hs0
  rw [← hw9] at z1
  rw [← hgg] at hszv
  rw [← hBB] at z1 hszv
  have HG := Lib.hid hgg
  have HB := Lib.hid hBB
  clear hfin hgg hw0 hw9 hBB z0 hv bw h
  have hBg : B < g := by omega
  have HSZ := Lib.hid hszv
  clear hszv
  have C1 := Lib.hid (framed_any g 0 _ code w0 q0 (by omega) hcl)
  go_enter Try.func37, Try.ntmps37
  go_upto_region 1 with fail
  rw [← HWV.out]
  go_upto_region 2 with fail
  rw [← HW9.out, ← HG.out]
  go_wp2_with fail
  refine C1.out.mono ?_; rintro e w1 ⟨x, y, cc, rr, u1, l, k1, rfl, o1, q1, a1, hl13, hk1, hj1⟩
  have z2 := z1.apl a1 hBg
  have hs1 := a1.size
  have hwB : w.heap.size ≤ B := by rw [HB.out]; exact Nat.le_refl _
  have hlo : w.heap.size ≤ w0.heap.size := by have := HB.out; omega
  clear C1 z1 q0
  have z3 := z2.al (.cells #[.int .i64 x, .int .i64 y, .int .i64 cc, .int .i64 rr] 27)
  have f3 := BoxFr.new w1 x y cc rr
  have b3 := (Hfin.out _ a1).alloc (Hfin.out _ a1).size (.cells #[.int .i64 x, .int .i64 y, .int .i64 cc, .int .i64 rr] 27)
  obtain ⟨w3, hw3⟩ : ∃ W, W = w1.alloc (.cells #[.int .i64 x, .int .i64 y, .int .i64 cc, .int .i64 rr] 27) := ⟨_, rfl⟩
  obtain ⟨F, hF⟩ : ∃ F, F = w1.heap.size := ⟨_, rfl⟩
  have hBF : F ≠ B := by omega
  have hFB : B ≠ F := by omega
  rw [← hw3] at z3 f3 b3
  rw [← hF] at f3
  have HW3 := Lib.hid hw3
  have HF := Lib.hid hF
  have zf := Lib.hid (z3.set x y cc rr)
  have bf := Lib.hid (below_set4 b3 hwB x y cc rr)
  obtain ⟨c0, c1, c2, c3, f0, f1, f2, f3'⟩ := z3.cells
  obtain ⟨d0, d1, d2, d3, _, _, _, _⟩ := f3.cells
  clear z2 o1 q1 a1 hw3 hF
  go_upto_region 3 with fail
  rw [← HW3.out, ← HF.out, ← HB.out]
  go_wp2_with fail
  obtain ⟨r0, r1, r2, r3, _, _, _, _⟩ := zf.out.cells
  exact bodyPost_ret (v := .agg #[.int .i64 x, .int .i64 y, .int .i64 cc, .int .i64 rr]) (by simp [results, Try.results37, go_sem, r0, r1, r2, r3]) rfl ⟨x, y, cc, rr, rfl, bf.out⟩
set_option maxRecDepth 100000 in
set_option maxHeartbeats 3200000 in
theorem drawFitFrame_any (v : Value) (code : List Nat) (w : World) (h : BytesAt w v code) (hw : WfCode code) (hcl : code.length ≤ 1099511627776) :
    Calls Try.prog 31 #[v] w (DrawnSp w) := by
  obtain ⟨A, c, rfl, hnc, hc63⟩ := Sl.shape h
  obtain ⟨g, hgg⟩ : ∃ g, g = w.heap.size := ⟨_, rfl⟩
  have q0 := CurAt.start h hw
  have hs0 := start_size w (.slice A code.length c)
  obtain ⟨w0, hw0⟩ : ∃ w0, w0 = curW w (.slice A code.length c) := ⟨_, rfl⟩
  have hfin : ∀ w', Apg g w0 w' → Below w.heap.size w w' := fun w' a => by rw [hgg, hw0] at a; exact Apart.start a
  have Hfin := Lib.hid hfin
  have HW0 := Lib.hid hw0
  rw [← hgg, ← hw0] at q0
  rw [← hw0, ← hgg] at hs0
  have HG := Lib.hid hgg
  clear hfin hgg hw0
  have hlo : w.heap.size ≤ w0.heap.size := by have := HG.out; omega
  have C1 := Lib.hid (one_ex g _ code 2 0 w0 (by omega) q0)
  rw [HW0.out, HG.out] at C1
  go_enter Try.func31, Try.ntmps31
  go_wp2_with fail
  refine C1.out.mono ?_; rw [← HG.out, ← HW0.out]; rintro e w1 ⟨t1, k1, rfl, hk1, hj1, q1, a1⟩
  clear C1
  cases t1
  case true =>
    have C2 := Lib.hid (framed_any g k1 _ code w1 q1 (by omega) hcl)
    go_wp2_with fail
    refine C2.out.mono ?_; rintro e w2 ⟨x, y, cc, rr, u2, l, k2, rfl, o2, q2, a2, hl13, hk2, hj2⟩
    have hs2 := a1.size
    have oF := Lib.hid (OwnRow.alS (OwnRow.lo o2 (show w.heap.size ≤ _ by omega)) (.cells #[.int .i64 x, .int .i64 y, .int .i64 cc, .int .i64 rr] 27))
    have bF := Lib.hid ((Hfin.out _ (a1.trans a2)).alloc (Hfin.out _ (a1.trans a2)).size (.cells #[.int .i64 x, .int .i64 y, .int .i64 cc, .int .i64 rr] 27))
    clear C2 o2 q2 a2 a1 q1
    go_wp2_with fail
    go_ret
    exact ⟨_, l, rfl, oF.out, bF.out, hl13⟩
  case false =>
    have C2 := Lib.hid (one_ex g _ code 3 k1 w1 (by omega) q1)
    go_wp2_with fail
    refine C2.out.mono ?_; rintro e w2 ⟨t2, k2, rfl, hk2, hj2, q2, a2⟩
    have aa2 := a1.trans a2
    have hs2 := aa2.size
    clear C2
    cases t2
    case true =>
      have C3 := Lib.hid (pick_ex g _ code 2 k2 w2 (by omega) (by omega) q2)
      go_wp2_with fail
      refine C3.out.mono ?_; rintro e w3 ⟨y3, k3, rfl, hy3, hk3, hj3, q3, a3⟩
      have C4 := Lib.hid (pick_ex g _ code 2 k3 w3 (by omega) (by omega) q3)
      go_wp2_with fail
      refine C4.out.mono ?_; rintro e w4 ⟨y4, k4, rfl, hy4, hk4, hj4, q4, a4⟩
      have aa4 := (aa2.trans a3).trans a4
      have hs4 := aa4.size
      have o4 : OwnRow sptRec (w4.alloc (.cells #[.int .i64 8, .int .i64 8, .int .i64 (487 + (y3 : Int)), .int .i64 8, .int .i64 9, .int .i64 (247 + (y4 : Int))] 25)) w.heap.size (.slice (some ⟨w4.heap.size, 0, none⟩) 3 3) [⟨8, 8⟩, ⟨487 + (y3 : Int), 8⟩, ⟨9, 247 + (y4 : Int)⟩] :=
        World.ownsRow_lit w4 _ 3 (by omega) (by simp [maxLen]) rfl
      have bF := Lib.hid ((Hfin.out _ aa4).alloc (Hfin.out _ aa4).size (.cells #[.int .i64 8, .int .i64 8, .int .i64 (487 + (y3 : Int)), .int .i64 8, .int .i64 9, .int .i64 (247 + (y4 : Int))] 25))
      have oF := Lib.hid o4
      clear o4 C3 C4
      go_wp2_with fail
      go_ret
      exact ⟨_, _, rfl, oF.out, bF.out, by simp⟩
    case false =>
      have C3 := Lib.hid (anyChart_any g k2 _ code w2 q2 (by omega))
      go_wp2_with fail
      refine C3.out.mono ?_; rintro e w3 ⟨u3, l, k3, rfl, o3, q3, a3, hl13, hk3, hj3⟩
      have oF := Lib.hid (OwnRow.lo o3 (show w.heap.size ≤ _ by omega))
      have bF := Lib.hid (Hfin.out _ (aa2.trans a3))
      clear C3
      go_wp2_with fail
      go_ret
      exact ⟨_, l, rfl, oF.out, bF.out, hl13⟩
end Go.Proofs.Ytjbffahnbkpcnaa
