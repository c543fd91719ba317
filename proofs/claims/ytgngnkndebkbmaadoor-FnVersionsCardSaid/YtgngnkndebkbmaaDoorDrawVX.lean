/- The draws of the law on versions: texts, added versions. -/
import Derived.Test.YtgngnkndebkbmaaDoorDrawVL
import Derived.Test.YtgngnkndebkbmaaDoorDrawSpo
import Derived.Test.YtgngnkndebkbmaaDoorVText
set_option linter.unusedSimpArgs false
set_option linter.unusedVariables false
namespace Go.Proofs.YtgngnkndebkbmaaDoor
open Go.RowKit Go.Sort

def DrawnL (w : World) (e : Ending) (w' : World) : Prop := ∃ (u : Value) (l : List Ver), e = .returned u ∧ OwnRow verRec w' w.heap.size u l ∧ Below w.heap.size w w' ∧ l.length ≤ 62
def DrawnA (w : World) (e : Ending) (w' : World) : Prop := ∃ (u : Value) (l : List Ver) (p k x : Int), e = .returned (.tuple #[u, .agg #[.int .i64 p, .int .i64 k, .int .i64 x]]) ∧ OwnRow verRec w' w.heap.size u l ∧ Below w.heap.size w w' ∧ l.length ≤ 62
def DrawnS (w : World) (e : Ending) (w' : World) : Prop := ∃ s : ByteArray, e = .returned (.string s) ∧ s.size ≤ 100000 ∧ Below w.heap.size w w'
theorem BoxV.al {w : World} {b : Nat} {p k u : Int} (h : BoxV w b p k u) (o : Obj) : BoxV (w.alloc o) b p k u := by
  show (w.heap.push o)[b]? = _
  rw [Array.getElem?_push_lt (Array.getElem?_eq_some_iff.1 h).1, ← Array.getElem?_eq_getElem]
  exact h
theorem BoxV.apl {w w' : World} {b g : Nat} {p k u : Int} (h : BoxV w b p k u) (ha : Apg g w w') (hb : b < g) : BoxV w' b p k u :=
  (ha.block b (Array.getElem?_eq_some_iff.1 h).1 (.inl hb)).trans h
theorem BoxV.new (w : World) (p k u : Int) : BoxV (w.alloc (.cells #[.int .i64 p, .int .i64 k, .int .i64 u] 38)) w.heap.size p k u := by
  show (w.heap.push _)[w.heap.size]? = _
  rw [Array.getElem?_push_size]
theorem BoxV.keep9 {w w' : World} {b B : Nat} {p k u : Int} (h : BoxV w b p k u) (hb : Below B w w') (hB : w.heap.size ≤ B) : BoxV w' b p k u := (hb.block b (by have := (Array.getElem?_eq_some_iff.1 h).1; omega)).trans h
theorem BoxV.set2 {w : World} {b : Nat} {p k u : Int} (h : BoxV w b p k u) (x : Int) : BoxV (w.setCell ⟨b, 2, none⟩ (.int .i64 x)) b p k x := heap_setCell_same w b 2 _ _ _ h
theorem BoxV.free2 {w : World} {b : Nat} {p k u : Int} (h : BoxV w b p k u) : w.frozen? ⟨b, 2, none⟩ = false := frozen_of_row w b 2 _ _ h

set_option maxRecDepth 100000 in
set_option maxHeartbeats 1600000 in
theorem drawAreVersions_any (v : Value) (code : List Nat) (w : World) (h : BytesAt w v code) (hw : WfCode code) :
    Calls Tryd.prog 27 #[v] w (DrawnL w) := by
  obtain ⟨A, c, rfl, hnc, hc63⟩ := Sl.shape h
  obtain ⟨g, hgg⟩ : ∃ g, g = w.heap.size := ⟨_, rfl⟩
  have q0 := CurAt.start h hw
  have hs0 := start_size w (.slice A code.length c)
  obtain ⟨w0, hw0⟩ : ∃ w0, w0 = curW w (.slice A code.length c) := ⟨_, rfl⟩
  have hfin : ∀ w', Apg g w0 w' → Below w.heap.size w w' := fun w' a => by rw [hgg, hw0] at a; exact Apart.start a
  have Hfin := Lib.hid hfin
  have HW0 := Lib.hid hw0
  rw [← hgg, ← hw0] at q0
  rw [← hw0, ← hgg] at hs0
  have HG := Lib.hid hgg
  clear hfin hgg hw0
  have C1 := Lib.hid (anyVersions_any g 0 _ code w0 q0 (by omega))
  rw [HW0.out, HG.out] at C1
  go_enter Tryd.func27, Tryd.ntmps27
  go_wp2_with fail
  refine C1.out.mono ?_; rw [← HG.out, ← HW0.out]; rintro e w1 ⟨u1, l, k1, rfl, o1, q1, a1, hl62, hk1, hj1⟩
  have oF := Lib.hid (ownsRow_lo o1 (show w.heap.size ≤ _ by have := HG.out; omega))
  have aF := Lib.hid (Hfin.out _ a1)
  go_wp2_with fail
  go_ret
  exact ⟨_, l, rfl, oF.out, aF.out, hl62⟩
theorem drawVersionsText_any (v : Value) (code : List Nat) (w : World) (h : BytesAt w v code) (hw : WfCode code) :
    Calls Tryd.prog 4 #[v] w (DrawnL w) := by
  have C := Lib.hid (drawAreVersions_any v code w h hw)
  go_enter Tryd.func4, Tryd.ntmps4
  go_wp2_with fail
  refine C.out.mono ?_; rintro e w1 ⟨u, l, rfl, o1, b1, h1⟩
  go_wp2_with fail
  go_ret
  exact ⟨_, l, rfl, o1, b1, h1⟩
set_option maxRecDepth 100000 in
set_option maxHeartbeats 1600000 in
theorem drawParseVersions_any (v : Value) (code : List Nat) (w : World) (h : BytesAt w v code) (hw : WfCode code) :
    Calls Tryd.prog 18 #[v] w (DrawnS w) := by
  obtain ⟨A, c, rfl, hnc, hc63⟩ := Sl.shape h
  obtain ⟨g, hgg⟩ : ∃ g, g = w.heap.size := ⟨_, rfl⟩
  have q0 := CurAt.start h hw
  have hs0 := start_size w (.slice A code.length c)
  obtain ⟨w0, hw0⟩ : ∃ w0, w0 = curW w (.slice A code.length c) := ⟨_, rfl⟩
  have hfin : ∀ w', Apg g w0 w' → Below w.heap.size w w' := fun w' a => by rw [hgg, hw0] at a; exact Apart.start a
  have Hfin := Lib.hid hfin
  have HW0 := Lib.hid hw0
  rw [← hgg, ← hw0] at q0
  rw [← hw0, ← hgg] at hs0
  have HG := Lib.hid hgg
  clear hfin hgg hw0
  have C1 := Lib.hid (versions_any g 0 _ code w0 q0 (by omega))
  rw [HW0.out, HG.out] at C1
  go_enter Tryd.func18, Tryd.ntmps18
  go_wp2_with fail
  refine C1.out.mono ?_; rw [← HG.out, ← HW0.out]; rintro e w1 ⟨u1, l, k1, rfl, o1, q1, a1, hl1, hl60, hk1, hj1, hav⟩
  have hvs := vText_size hav l.length (Nat.le_refl _)
  have C2 := Lib.hid (vrText_any _ l w1 o1.reads hav)
  have hg1 := q1.lt
  obtain ⟨s, hs⟩ : ∃ s, s = vText l l.length := ⟨_, rfl⟩
  rw [← hs] at hvs C2
  clear hs hav
  go_wp2_with fail
  refine C2.out.mono ?_; rintro e w2 ⟨rfl, b2⟩
  have q2 := q1.belowG b2 hg1
  have a2 := a1.next b2
  clear C2 q1 o1
  have C3 := Lib.hid (one_ex g _ code 3 k1 w2 (by omega) q2)
  go_wp2_with fail
  refine C3.out.mono ?_; rintro e w3 ⟨t3, k3, rfl, hk3, hj3, q3, a3⟩
  have a33 := a2.trans a3
  cases t3
  case false =>
    have aF := Lib.hid (Hfin.out _ a33)
    go_wp2_with fail
    go_ret
    exact ⟨s, rfl, by omega, aF.out⟩
  case true =>
    have C4 := Lib.hid (spoilt_any g k3 _ code s ⟨#[45, 48, 49, 50, 32, 10]⟩ w3 q3 (by omega) (by omega) (by decide) (by decide))
    go_wp2_with fail
    refine C4.out.mono ?_; rintro e w4 ⟨r, k4, rfl, hr, hk4, hj4, q4, a4⟩
    have aF := Lib.hid (Hfin.out _ (a33.trans a4))
    go_wp2_with fail
    go_ret
    exact ⟨r, rfl, by omega, aF.out⟩
set_option maxRecDepth 100000 in
set_option maxHeartbeats 3200000 in
theorem drawAddVersion_any (v : Value) (code : List Nat) (w : World) (h : BytesAt w v code) (hw : WfCode code) :
    Calls Tryd.prog 15 #[v] w (DrawnA w) := by
  obtain ⟨A, c, rfl, hnc, hc63⟩ := Sl.shape h
  have z0 := BoxV.new w 0 0 0
  have bw := (Below.refl w.heap.size w).alloc (Nat.le_refl _) (.cells #[.int .i64 0, .int .i64 0, .int .i64 0] 38)
  have hszv : (w.alloc (.cells #[.int .i64 0, .int .i64 0, .int .i64 0] 38)).heap.size = w.heap.size + 1 := by simp
  obtain ⟨wv, hwv⟩ : ∃ wv, wv = w.alloc (.cells #[.int .i64 0, .int .i64 0, .int .i64 0] 38) := ⟨_, rfl⟩
  rw [← hwv] at z0 bw hszv
  have HWV := Lib.hid hwv
  clear hwv
  have hv : BytesAt wv (.slice A code.length c) code := h.below bw (Nat.le_refl _)
  obtain ⟨g, hgg⟩ : ∃ g, g = wv.heap.size := ⟨_, rfl⟩
  obtain ⟨B, hBB⟩ : ∃ B, B = w.heap.size := ⟨_, rfl⟩
  have q0 := CurAt.start hv hw
  have hs0 := start_size wv (.slice A code.length c)
  have z1 := z0.al (.cells #[.slice A code.length c, .int .i64 0, .int .u64 0] 66)
  obtain ⟨w0, hw0⟩ : ∃ w0, w0 = curW wv (.slice A code.length c) := ⟨_, rfl⟩
  have hfin : ∀ w', Apg g w0 w' → Below w.heap.size w w' := fun w' a => by rw [hgg, hw0] at a; exact bw.next (Nat.le_refl _) (Apart.start a)
  have Hfin := Lib.hid hfin
  have HW9 : Hid (w0 = wv.alloc (.cells #[.slice A code.length c, .int .i64 0, .int .u64 0] 66)) := hw0
  have hw9 := HW9.out
  rw [← hgg, ← hw0] at q0
  rw [← hw0, ← hgg] at hs0
  rw [← hw9] at z1
  rw [← hgg] at hszv
  rw [← hBB] at z1 hszv
  have HG := Lib.hid hgg
  have HB := Lib.hid hBB
  clear hfin hgg hw0 hw9 hBB z0 hv bw h
  have hBg : B < g := by omega
  have HSZ := Lib.hid hszv
  clear hszv
  have C1 := Lib.hid (anyVersions_any g 0 _ code w0 q0 (by omega))
  go_enter Tryd.func15, Tryd.ntmps15
  go_upto_region 1 with fail
  rw [← HWV.out]
  go_upto_region 2 with fail
  rw [← HW9.out, ← HG.out]
  go_wp2_with fail
  refine C1.out.mono ?_; rintro e w1 ⟨u1, l, k1, rfl, o1, q1, a1, hl62, hk1, hj1⟩
  have z2 := z1.apl a1 hBg
  have hs1 := a1.size
  clear C1 z1 q0
  have C2 := Lib.hid (versionOf_any g k1 _ _ code l w1 q1 (by omega) o1.reads (by omega))
  go_wp2_with fail
  refine C2.out.mono ?_; rintro e w2 ⟨x2, k2, rfl, xl2, xh2, hk2, hj2, q2, b2⟩
  have o2 := o1.apt b2 (by omega)
  have a2 := a1.trans b2
  have z3 := z2.apl b2 hBg
  have hs2 := a2.size
  have hg2 := q2.lt
  clear C2 o1 a1 b2 z2 q1
  have qA := q2.belowG ((Below.refl _ w2).alloc (Nat.le_refl _) (.cells #[.int .i64 8, .int .i64 (-1)] 3)) hg2
  have CA := Lib.hid (among_lit g k2 _ (.slice (some ⟨w2.heap.size, 0, none⟩) 2 2) code [8, -1] _ qA (by omega) (lit2 w2 (g + 1) (8) (-1) (by omega)) (by simp) (by simp) (fun _ => True) (fun _ _ => trivial))
  have oA := Lib.hid (OwnRow.al o2 (.cells #[.int .i64 8, .int .i64 (-1)] 3))
  have zA := Lib.hid (z3.al (.cells #[.int .i64 8, .int .i64 (-1)] 3))
  have aA := Lib.hid (a2.next ((Below.refl _ w2).alloc (Nat.le_refl _) (.cells #[.int .i64 8, .int .i64 (-1)] 3)))
  clear qA
  go_wp2_with fail
  refine CA.out.mono ?_; rintro e w3 ⟨x3, k3, rfl, _, hk3, hj3, q3, d3⟩
  have o3 := OwnRow.apt oA.out d3 (by omega)
  have a3 := aA.out.trans d3
  have z4 := zA.out.apl d3 hBg
  have hs3 := a3.size
  have hg3 := q3.lt
  clear oA aA zA CA o2 a2 d3 z3 q2 hg2
  have qA := q3.belowG ((Below.refl _ w3).alloc (Nat.le_refl _) (.cells #[.int .i64 0, .int .i64 3, .int .i64 7, .int .i64 x3] 3)) hg3
  have CA := Lib.hid (among_lit g k3 _ (.slice (some ⟨w3.heap.size, 0, none⟩) 4 4) code [0, 3, 7, x3] _ qA (by omega) (lit4 w3 (g + 1) (0) (3) (7) (x3) (by omega)) (by simp) (by simp) (fun _ => True) (fun _ _ => trivial))
  have oA := Lib.hid (OwnRow.al o3 (.cells #[.int .i64 0, .int .i64 3, .int .i64 7, .int .i64 x3] 3))
  have zA := Lib.hid (z4.al (.cells #[.int .i64 0, .int .i64 3, .int .i64 7, .int .i64 x3] 3))
  have aA := Lib.hid (a3.next ((Below.refl _ w3).alloc (Nat.le_refl _) (.cells #[.int .i64 0, .int .i64 3, .int .i64 7, .int .i64 x3] 3)))
  clear qA
  go_wp2_with fail
  refine CA.out.mono ?_; rintro e w4 ⟨x4, k4, rfl, _, hk4, hj4, q4, d4⟩
  have o4 := OwnRow.apt oA.out d4 (by omega)
  have a4 := aA.out.trans d4
  have z5 := zA.out.apl d4 hBg
  have hs4 := a4.size
  have hg4 := q4.lt
  clear oA aA zA CA o3 a3 d4 z4 q3 hg3
  have qA := q4.belowG ((Below.refl _ w4).alloc (Nat.le_refl _) (.cells #[.int .i64 1000, .int .i64 (-1)] 3)) hg4
  have CA := Lib.hid (among_lit g k4 _ (.slice (some ⟨w4.heap.size, 0, none⟩) 2 2) code [1000, -1] _ qA (by omega) (lit2 w4 (g + 1) (1000) (-1) (by omega)) (by simp) (by simp) (fun _ => True) (fun _ _ => trivial))
  have oA := Lib.hid (OwnRow.al o4 (.cells #[.int .i64 1000, .int .i64 (-1)] 3))
  have zA := Lib.hid (z5.al (.cells #[.int .i64 1000, .int .i64 (-1)] 3))
  have aA := Lib.hid (a4.next ((Below.refl _ w4).alloc (Nat.le_refl _) (.cells #[.int .i64 1000, .int .i64 (-1)] 3)))
  clear qA
  go_wp2_with fail
  refine CA.out.mono ?_; rintro e w5 ⟨x5, k5, rfl, _, hk5, hj5, q5, d5⟩
  have o5 := OwnRow.apt oA.out d5 (by omega)
  have a5 := aA.out.trans d5
  have z6 := zA.out.apl d5 hBg
  have hs5 := a5.size
  have hg5 := q5.lt
  clear oA aA zA CA o4 a4 d5 z5 q4 hg4
  have qA := q5.belowG ((Below.refl _ w5).alloc (Nat.le_refl _) (.cells #[.int .i64 0, .int .i64 5, .int .i64 999, .int .i64 x5] 3)) hg5
  have CA := Lib.hid (among_lit g k5 _ (.slice (some ⟨w5.heap.size, 0, none⟩) 4 4) code [0, 5, 999, x5] _ qA (by omega) (lit4 w5 (g + 1) (0) (5) (999) (x5) (by omega)) (by simp) (by simp) (fun _ => True) (fun _ _ => trivial))
  have oA := Lib.hid (OwnRow.al o5 (.cells #[.int .i64 0, .int .i64 5, .int .i64 999, .int .i64 x5] 3))
  have zA := Lib.hid (z6.al (.cells #[.int .i64 0, .int .i64 5, .int .i64 999, .int .i64 x5] 3))
  have aA := Lib.hid (a5.next ((Below.refl _ w5).alloc (Nat.le_refl _) (.cells #[.int .i64 0, .int .i64 5, .int .i64 999, .int .i64 x5] 3)))
  clear qA
  go_wp2_with fail
  refine CA.out.mono ?_; rintro e w6 ⟨x6, k6, rfl, _, hk6, hj6, q6, d6⟩
  have o6 := OwnRow.apt oA.out d6 (by omega)
  have a6 := aA.out.trans d6
  have z7 := zA.out.apl d6 hBg
  have hs6 := a6.size
  have hg6 := q6.lt
  clear oA aA zA CA o5 a5 d6 z6 q5 hg5
  obtain ⟨c0, c1, c2, f0, f1⟩ := z7.cells
  have f2 := z7.free2
  have zf := Lib.hid (((z7.set0 x2).set1 x4).set2 x6)
  have hlo : ∀ gb, u1.ownBlock = some gb → w0.heap.size ≤ gb := fun gb h9 => (World.ownsRow.lt o6 gb h9).1
  have of := Lib.hid (World.ownsRow.kept (World.ownsRow.kept (World.ownsRow.kept o6 (grown_set w6 B 0 (.int .i64 x2)) (Or.inr (fun e9 => absurd (hlo B e9) (by omega)))) (grown_set _ B 1 (.int .i64 x4)) (Or.inr (fun e9 => absurd (hlo B e9) (by omega)))) (grown_set _ B 2 (.int .i64 x6)) (Or.inr (fun e9 => absurd (hlo B e9) (by omega))))
  have bf := Lib.hid ((((Hfin.out _ a6).setCell (p := ⟨B, 0, none⟩) (by show _ ≤ B; have := HB.out; omega) (.int .i64 x2)).setCell (p := ⟨B, 1, none⟩) (by show _ ≤ B; have := HB.out; omega) (.int .i64 x4)).setCell (p := ⟨B, 2, none⟩) (by show _ ≤ B; have := HB.out; omega) (.int .i64 x6))
  have hbase : w.heap.size ≤ w0.heap.size := by have := HB.out; omega
  clear hlo a6 o6 q6 z7
  rw [← HB.out]
  go_wp2_with fail
  obtain ⟨r0, r1, r2, _, _⟩ := zf.out.cells
  refine bodyPost_ret (v := .tuple #[u1, .agg #[.int .i64 x2, .int .i64 x4, .int .i64 x6]]) (by simp [results, Tryd.results15, go_sem, r0, r1, r2]) rfl ⟨u1, l, x2, x4, x6, rfl, OwnRow.lo of.out hbase, bf.out, hl62⟩
end Go.Proofs.YtgngnkndebkbmaaDoor
