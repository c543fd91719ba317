/- The draws of the laws on rebased edits. -/
import Derived.Test.YtiondgflpimdmaaDoorDrawML
import Derived.Deep.RegionHeld3
set_option linter.unusedSimpArgs false
set_option linter.unusedVariables false
namespace Go.Proofs.YtiondgflpimdmaaDoor
open Go.RowKit Go.Sort
def DrawnF (w : World) (e : Ending) (w' : World) : Prop := ∃ (u a : Value) (l : List Spt) (x : List Edt), e = .returned (.tuple #[u, a]) ∧ OwnRow sptRec w' w.heap.size u l ∧ OwnRow edtRec w' w.heap.size a x ∧ Below w.heap.size w w' ∧ l.length ≤ 13 ∧ x.length ≤ 31
def DrawnW (w : World) (e : Ending) (w' : World) : Prop := ∃ (u a : Value) (l : List Spt) (x : List Edt) (n : Int), e = .returned (.tuple #[u, a, .int .i64 n]) ∧ OwnRow sptRec w' w.heap.size u l ∧ OwnRow edtRec w' w.heap.size a x ∧ Below w.heap.size w w' ∧ l.length ≤ 13 ∧ x.length ≤ 31
def Edt.agg (x : Edt) : Value := .agg #[.int .i64 x.e, .int .i64 x.p, .int .i64 x.bx, .int .i64 x.bY, .int .i64 x.ax, .int .i64 x.aY]
def DrawnC (w : World) (e : Ending) (w' : World) : Prop := ∃ (u : Value) (l : List Spt) (x y : Edt), e = .returned (.tuple #[u, x.agg, y.agg]) ∧ OwnRow sptRec w' w.heap.size u l ∧ Below w.heap.size w w' ∧ l.length ≤ 13
def DrawnEs (w : World) (e : Ending) (w' : World) : Prop := ∃ (a : Value) (x : List Edt), e = .returned a ∧ OwnRow edtRec w' w.heap.size a x ∧ Below w.heap.size w w' ∧ x.length ≤ 31
def DrawnI (w : World) (e : Ending) (w' : World) : Prop := ∃ (a : Value) (x : List Int), e = .returned a ∧ OwnInts w' w.heap.size a x ∧ Below w.heap.size w w' ∧ x.length ≤ 13

set_option maxRecDepth 100000 in
set_option maxHeartbeats 1600000 in
theorem drawFittingEdits_any (v : Value) (code : List Nat) (w : World) (h : BytesAt w v code) (hw : WfCode code) :
    Calls Tryd.prog 8 #[v] w (DrawnF w) := by
  obtain ⟨A, c, rfl, hnc, hc63⟩ := Sl.shape h
  obtain ⟨g, hgg⟩ : ∃ g, g = w.heap.size := ⟨_, rfl⟩
  have q0 := CurAt.start h hw
  have hs0 := start_size w (.slice A code.length c)
  obtain ⟨w0, hw0⟩ : ∃ w0, w0 = curW w (.slice A code.length c) := ⟨_, rfl⟩
  have hfin : ∀ w', Apg g w0 w' → Below w.heap.size w w' := fun w' a => by rw [hgg, hw0] at a; exact Apart.start a
  have Hfin := Lib.hid hfin
  have HW0 := Lib.hid hw0
  rw [← hgg, ← hw0] at q0
  rw [← hw0, ← hgg] at hs0
  have HG := Lib.hid hgg
  clear hfin hgg hw0
  have hg := q0.lt
  have C1 := Lib.hid (anyChart_any g 0 _ code w0 q0 (by omega))
  rw [HW0.out, HG.out] at C1
  go_enter Tryd.func8, Tryd.ntmps8
  go_wp2_with fail
  refine C1.out.mono ?_; rw [← HG.out, ← HW0.out]; rintro e w1 ⟨u1, l, k1, rfl, o1, q1, a1, hl13, hk1, hj1⟩
  obtain ⟨AL, cL, rfl, hnL, hcL⟩ := o1.reads.shape
  have hs1 := a1.size
  have hg1 := q1.lt
  clear C1
  have C2 := Lib.hid (edits_any g k1 _ code (.slice AL l.length cL) l w1 q1 (OwnRow.lo o1 (by omega)) hl13 (by omega))
  go_wp2_with fail
  refine C2.out.mono ?_; rintro e w2 ⟨u2, es, k2, rfl, e2, q2, a2, he31, hk2, hj2⟩
  have l2 := o1.aptS a2 (by omega)
  have a22 := a1.trans a2
  have hs2 := a22.size
  have hg2 := q2.lt
  have E2 := OwnRow.lo e2 hs1
  clear C2 o1 q1 a1 a2 e2
  have lF := Lib.hid (OwnRow.lo l2 (show w.heap.size ≤ _ by have := HG.out; omega))
  have eF := Lib.hid (OwnRow.lo E2 (show w.heap.size ≤ _ by have := HG.out; omega))
  have aF := Lib.hid (Hfin.out _ a22)
  clear l2 E2 a22
  go_wp2_with fail
  go_ret2
  exact ⟨_, _, l, es, rfl, lF.out, eF.out, aF.out, hl13, he31⟩
set_option maxRecDepth 100000 in
set_option maxHeartbeats 1600000 in
theorem drawWithoutEditor_any (v : Value) (code : List Nat) (w : World) (h : BytesAt w v code) (hw : WfCode code) :
    Calls Tryd.prog 11 #[v] w (DrawnW w) := by
  obtain ⟨A, c, rfl, hnc, hc63⟩ := Sl.shape h
  obtain ⟨g, hgg⟩ : ∃ g, g = w.heap.size := ⟨_, rfl⟩
  have q0 := CurAt.start h hw
  have hs0 := start_size w (.slice A code.length c)
  obtain ⟨w0, hw0⟩ : ∃ w0, w0 = curW w (.slice A code.length c) := ⟨_, rfl⟩
  have hfin : ∀ w', Apg g w0 w' → Below w.heap.size w w' := fun w' a => by rw [hgg, hw0] at a; exact Apart.start a
  have Hfin := Lib.hid hfin
  have HW0 := Lib.hid hw0
  rw [← hgg, ← hw0] at q0
  rw [← hw0, ← hgg] at hs0
  have HG := Lib.hid hgg
  clear hfin hgg hw0
  have hg := q0.lt
  have C1 := Lib.hid (anyChart_any g 0 _ code w0 q0 (by omega))
  rw [HW0.out, HG.out] at C1
  go_enter Tryd.func11, Tryd.ntmps11
  go_wp2_with fail
  refine C1.out.mono ?_; rw [← HG.out, ← HW0.out]; rintro e w1 ⟨u1, l, k1, rfl, o1, q1, a1, hl13, hk1, hj1⟩
  obtain ⟨AL, cL, rfl, hnL, hcL⟩ := o1.reads.shape
  have hs1 := a1.size
  have hg1 := q1.lt
  clear C1
  have C2 := Lib.hid (edits_any g k1 _ code (.slice AL l.length cL) l w1 q1 (OwnRow.lo o1 (by omega)) hl13 (by omega))
  go_wp2_with fail
  refine C2.out.mono ?_; rintro e w2 ⟨u2, es, k2, rfl, e2, q2, a2, he31, hk2, hj2⟩
  have l2 := o1.aptS a2 (by omega)
  have a22 := a1.trans a2
  have hs2 := a22.size
  have hg2 := q2.lt
  have E2 := OwnRow.lo e2 hs1
  clear C2 o1 q1 a1 a2 e2
  have q3 := q2.belowG ((Below.refl _ w2).alloc (Nat.le_refl _) (.cells #[.int .i64 0, .int .i64 10] 3)) hg2
  have l3 := l2.alS (.cells #[.int .i64 0, .int .i64 10] 3)
  have e3 := E2.alS (.cells #[.int .i64 0, .int .i64 10] 3)
  have a3 := apg_al a22 (.cells #[.int .i64 0, .int .i64 10] 3)
  have C3 := Lib.hid (among_lit g k2 _ (.slice (some ⟨w2.heap.size, 0, none⟩) 2 2) code [0, 10] _ q3 (by omega) (lit2 w2 (g + 1) 0 10 (by omega)) (by simp) (by simp) (fun _ => True) (fun _ _ => trivial))
  clear l2 E2 a22 q3 hs2
  go_wp2_with fail
  refine C3.out.mono ?_; rintro e w4 ⟨n4, k4, rfl, _, hk4, hj4, q4, d4⟩
  have l4 := l3.aptS d4 (by omega)
  have e4 := e3.aptS d4 (by omega)
  have a4 := a3.trans d4
  have hg4 := q4.lt
  have hs4 := a4.size
  clear C3 l3 e3 a3 d4 q2
  have q5 := q4.belowG ((Below.refl _ w4).alloc (Nat.le_refl _) (.cells #[.int .i64 1, .int .i64 2, .int .i64 3, .int .i64 9, .int .i64 n4] 3)) hg4
  have l5 := l4.alS (.cells #[.int .i64 1, .int .i64 2, .int .i64 3, .int .i64 9, .int .i64 n4] 3)
  have e5 := e4.alS (.cells #[.int .i64 1, .int .i64 2, .int .i64 3, .int .i64 9, .int .i64 n4] 3)
  have a5 := apg_al a4 (.cells #[.int .i64 1, .int .i64 2, .int .i64 3, .int .i64 9, .int .i64 n4] 3)
  have C5 := Lib.hid (among_lit g k4 _ (.slice (some ⟨w4.heap.size, 0, none⟩) 5 5) code [1, 2, 3, 9, n4] _ q5 (by omega) (lit5 w4 (g + 1) 1 2 3 9 n4 (by omega)) (by simp) (by simp) (fun _ => True) (fun _ _ => trivial))
  clear l4 e4 a4 q5 hs4
  go_wp2_with fail
  refine C5.out.mono ?_; rintro e w6 ⟨n6, k6, rfl, _, hk6, hj6, q6, d6⟩
  have l6 := l5.aptS d6 (by omega)
  have e6 := e5.aptS d6 (by omega)
  have a6 := a5.trans d6
  clear C5 l5 e5 a5 d6 q4
  have lF := Lib.hid (OwnRow.lo l6 (show w.heap.size ≤ _ by have := HG.out; omega))
  have eF := Lib.hid (OwnRow.lo e6 (show w.heap.size ≤ _ by have := HG.out; omega))
  have aF := Lib.hid (Hfin.out _ a6)
  clear l6 e6 a6
  go_wp2_with fail
  go_ret3
  exact ⟨_, _, l, es, n6, rfl, lF.out, eF.out, aF.out, hl13, he31⟩
set_option maxHeartbeats 400000 in
theorem drawEditorsOf_any (v : Value) (code : List Nat) (w : World) (h : BytesAt w v code) (hw : WfCode code) :
    Calls Tryd.prog 17 #[v] w (DrawnEs w) := by
  have C := Lib.hid (drawFittingEdits_any v code w h hw)
  go_enter Tryd.func17, Tryd.ntmps17
  go_wp2_with fail
  refine C.out.mono ?_; rintro e w1 ⟨u, a, l, x, rfl, o1, x1, b1, h1, h2⟩
  go_wp2_with fail
  go_ret
  exact ⟨_, x, rfl, x1, b1, h2⟩
set_option maxRecDepth 100000 in
set_option maxHeartbeats 1600000 in
theorem drawConflictText_any (v : Value) (code : List Nat) (w : World) (h : BytesAt w v code) (hw : WfCode code) :
    Calls Tryd.prog 20 #[v] w (DrawnI w) := by
  obtain ⟨A, c, rfl, hnc, hc63⟩ := Sl.shape h
  obtain ⟨g, hgg⟩ : ∃ g, g = w.heap.size := ⟨_, rfl⟩
  have q0 := CurAt.start h hw
  have hs0 := start_size w (.slice A code.length c)
  obtain ⟨w0, hw0⟩ : ∃ w0, w0 = curW w (.slice A code.length c) := ⟨_, rfl⟩
  have hfin : ∀ w', Apg g w0 w' → Below w.heap.size w w' := fun w' a => by rw [hgg, hw0] at a; exact Apart.start a
  have Hfin := Lib.hid hfin
  have HW0 := Lib.hid hw0
  rw [← hgg, ← hw0] at q0
  rw [← hw0, ← hgg] at hs0
  have HG := Lib.hid hgg
  clear hfin hgg hw0
  have hg := q0.lt
  go_enter Tryd.func20, Tryd.ntmps20
  have HW9 : Hid (w0 = w.alloc (.cells #[.slice A code.length c, .int .i64 0, .int .u64 0] 70)) := HW0.out
  go_upto_region 2 with fail
  rw [← HW9.out, ← HG.out]
  go_wp2_with fail
  go_loopg [4, 5] 12 (fun gk t i wr => ∃ (x : List Int) (j k : Nat), j ≤ 12 ∧ 12 ≤ j + gk ∧ i = .int .i64 j ∧ x.length ≤ j ∧ k ≤ 2 * j ∧ OwnInts wr w0.heap.size t x ∧ CurAt wr g (.slice A code.length c) code k ∧ Apg g w0 wr)
  case atStart => exact ⟨[], 0, 0, by omega, by omega, rfl, by simp, by omega, OwnInts.nil_ _ _, q0, Apart.refl _ _ _⟩
  case round =>
    obtain ⟨x, j, k, hj, hgk, rfl, hxl, hk, ho, qr, ar⟩ := hrel
    obtain ⟨AX, cX, rfl, hnX, hcX⟩ := ho.reads.shape
    have hsr := ar.size
    clear q0
    by_cases hlt : (j : Int) < 12
    · have C1 := Lib.hid (one_ex g _ code 4 k wr (by omega) qr)
      go_wp2_with fail
      refine C1.out.mono ?_; rintro e w1 ⟨b1, k1, rfl, hk1, hj1, q1, a1⟩
      have o1 := OwnInts.apt ho a1 (by omega)
      have ar1 := ar.trans a1
      have hs1 := ar1.size
      clear C1 ho qr ar a1
      cases b1
      case false =>
        go_wp2_with fail
        go_roundg (gk - 1)
        case measure => omega
        case rel => exact ⟨x, j + 1, k1, by omega, by omega, by simp, by omega, by omega, o1, q1, ar1⟩
      case true =>
        have h9 : x.length + 1 ≤ 1099511627776 := by omega
        go_wp2_with (at_builtin; refine wp_app_int _ rfl _ _ rfl w0.heap.size _ x rfl o1 (j : Int) _ rfl rfl h9 hs1 ?_; intro v5 w5 hu5 hg5)
        go_roundg (gk - 1)
        case measure => omega
        case rel => exact ⟨x ++ [(j : Int)], j + 1, k1, by omega, by omega, by simp, by simp; omega, by omega, hu5, q1.belowG hg5.below (by omega), ar1.trans2 hg5.below (by omega)⟩
    · have C1 := Lib.hid (one_ex g _ code 12 k wr (by omega) qr)
      go_wp2_with fail
      refine C1.out.mono ?_; rintro e w1 ⟨b1, k1, rfl, hk1, hj1, q1, a1⟩
      have o1 := OwnInts.apt ho a1 (by omega)
      have ar1 := ar.trans a1
      have hs1 := ar1.size
      have hg1 := q1.lt
      clear C1 ho qr ar a1
      cases b1
      case false =>
        have oF := Lib.hid (ownsRow_lo o1 (show w.heap.size ≤ _ by have := HG.out; omega))
        have aF := Lib.hid (Hfin.out _ ar1)
        clear o1 ar1
        go_wp2_with fail
        go_ret
        exact ⟨_, x, rfl, oF.out, aF.out, by omega⟩
      case true =>
        have q2 := q1.belowG ((Below.refl _ w1).alloc (Nat.le_refl _) (.cells #[.int .i64 (-1), .int .i64 0, .int .i64 11, .int .i64 12] 3)) hg1
        have o2 : OwnInts (w1.alloc (.cells #[.int .i64 (-1), .int .i64 0, .int .i64 11, .int .i64 12] 3)) w0.heap.size (.slice AX x.length cX) x := World.ownsRow.alloc o1 _
        have a2 := apg_al ar1 (.cells #[.int .i64 (-1), .int .i64 0, .int .i64 11, .int .i64 12] 3)
        have C2 := Lib.hid (among_lit g k1 _ (.slice (some ⟨w1.heap.size, 0, none⟩) 4 4) code [-1, 0, 11, 12] _ q2 (by omega) (lit4 w1 (g + 1) (-1) 0 11 12 (by omega)) (by simp) (by simp) (fun _ => True) (fun _ _ => trivial))
        clear o1 q2
        go_wp2_with fail
        refine C2.out.mono ?_; rintro e w3 ⟨n3, k3, rfl, _, hk3, hj3, q3, d3⟩
        have o3 := OwnInts.apt o2 d3 (by omega)
        have a3 := a2.trans d3
        have hs3 := a3.size
        have h9 : x.length + 1 ≤ 1099511627776 := by omega
        clear C2 o2 a2 d3
        go_wp2_with (at_builtin; refine wp_app_int _ rfl _ _ rfl w0.heap.size _ x rfl o3 n3 _ rfl rfl h9 hs3 ?_; intro v5 w5 hu5 hg5)
        have oF := Lib.hid (ownsRow_lo hu5 (show w.heap.size ≤ _ by have := HG.out; omega))
        have aF := Lib.hid (Hfin.out _ (a3.trans2 hg5.below (by omega)))
        clear hu5
        go_ret
        exact ⟨_, x ++ [n3], rfl, oF.out, aF.out, by simp; omega⟩
end Go.Proofs.YtiondgflpimdmaaDoor
/- The draw of the law on edits that commute. -/
set_option linter.unusedSimpArgs false
set_option linter.unusedVariables false
namespace Go.Proofs.YtiondgflpimdmaaDoor
open Go.RowKit Go.Sort
theorem BoxE.apl {w w' : World} {b g : Nat} {a0 a1 a2 a3 a4 a5 : Int} (h : BoxE w b a0 a1 a2 a3 a4 a5) (ha : Apg g w w') (hb : b < g) : BoxE w' b a0 a1 a2 a3 a4 a5 := (ha.block b h.lt (.inl hb)).trans h
theorem OwnRow.setL {α : Type} {R : Rec α} {w : World} {lo b : Nat} {v : Value} {l : List α} (h : OwnRow R w lo v l) (hb : b < lo) (o : Nat) (x : Value) : OwnRow R (w.setCell ⟨b, o, none⟩ x) lo v l := by
  have hn : v.ownBlock = none ∨ v.ownBlock ≠ some b := by
    right; intro e; have := (World.ownsRow.lt h b e).1; omega
  exact World.ownsRow.kept h (grown_set9 w b o x) hn
abbrev edZ : Obj := .cells #[.int .i64 0, .int .i64 0, .int .i64 0, .int .i64 0, .int .i64 0, .int .i64 0] 41
set_option maxRecDepth 100000 in
set_option maxHeartbeats 3200000 in
theorem drawDoCommute_any (v : Value) (code : List Nat) (w : World) (h : BytesAt w v code) (hw : WfCode code) :
    Calls Tryd.prog 14 #[v] w (DrawnC w) := by
  obtain ⟨A, c, rfl, hnc, hc63⟩ := Sl.shape h
  have hsz : (w.alloc edZ).heap.size = w.heap.size + 1 := by simp
  have z3 : BoxE ((w.alloc edZ).alloc edZ) w.heap.size 0 0 0 0 0 0 := (BoxE.new w 0 0 0 0 0 0).al edZ
  have z4 : BoxE ((w.alloc edZ).alloc edZ) (w.alloc edZ).heap.size 0 0 0 0 0 0 := BoxE.new (w.alloc edZ) 0 0 0 0 0 0
  have bw := ((Below.refl w.heap.size w).alloc (Nat.le_refl _) edZ).alloc (by simp) edZ
  have hszv : ((w.alloc edZ).alloc edZ).heap.size = w.heap.size + 2 := by simp
  obtain ⟨wv, hwv⟩ : ∃ wv, wv = (w.alloc edZ).alloc edZ := ⟨_, rfl⟩
  rw [hsz] at z4
  rw [← hwv] at z3 z4 bw hszv
  have HWV : Hid (wv = (w.alloc (.cells #[.int .i64 0, .int .i64 0, .int .i64 0, .int .i64 0, .int .i64 0, .int .i64 0] 41)).alloc (.cells #[.int .i64 0, .int .i64 0, .int .i64 0, .int .i64 0, .int .i64 0, .int .i64 0] 41)) := hwv
  clear hwv hsz
  have hv : BytesAt wv (.slice A code.length c) code := h.below bw (Nat.le_refl _)
  obtain ⟨g, hgg⟩ : ∃ g, g = wv.heap.size := ⟨_, rfl⟩
  obtain ⟨B, hBB⟩ : ∃ B, B = w.heap.size := ⟨_, rfl⟩
  have q0 := CurAt.start hv hw
  have hs0 := start_size wv (.slice A code.length c)
  have z30 := z3.al (.cells #[.slice A code.length c, .int .i64 0, .int .u64 0] 70)
  have z40 := z4.al (.cells #[.slice A code.length c, .int .i64 0, .int .u64 0] 70)
  obtain ⟨w0, hw0⟩ : ∃ w0, w0 = curW wv (.slice A code.length c) := ⟨_, rfl⟩
  have hfin : ∀ w', Apg g w0 w' → Below w.heap.size w w' := fun w' a => by rw [hgg, hw0] at a; exact bw.next (Nat.le_refl _) (Apart.start a)
  have Hfin := Lib.hid hfin
  have HW9 : Hid (w0 = wv.alloc (.cells #[.slice A code.length c, .int .i64 0, .int .u64 0] 70)) := hw0
  have hw9 := HW9.out
  rw [← hgg, ← hw0] at q0
  rw [← hw0, ← hgg] at hs0
  rw [← hw9] at z30 z40
  rw [← hgg] at hszv
  rw [← hBB] at z30 z40 hszv
  have HG := Lib.hid hgg
  have HB := Lib.hid hBB
  clear hfin hgg hw0 hw9 hBB z3 z4 hv bw h
  have hg := q0.lt
  have HSZ := Lib.hid hszv
  clear hszv
  have C1 := Lib.hid (anyChart_any g 0 _ code w0 q0 (by omega))
  go_enter Tryd.func14, Tryd.ntmps14
  go_upto_region 1 with fail
  rw [← HWV.out]
  go_upto_region 2 with fail
  rw [← HW9.out, ← HG.out]
  go_wp2_with fail
  refine C1.out.mono ?_; rintro e w1 ⟨u1, l, k1, rfl, o1, q1, a1, hl13, hk1, hj1⟩
  obtain ⟨AL, cL, rfl, hnL, hcL⟩ := o1.reads.shape
  have hs1 := a1.size
  have hg1 := q1.lt
  clear C1
  have C2 := Lib.hid (editOf_any g k1 _ code (.slice AL l.length cL) l w1 q1 (OwnRow.lo o1 (by have := HSZ.out; omega)) hl13 (by omega))
  go_wp2_with fail
  refine C2.out.mono ?_; rintro e w2 ⟨x0, x1, x2, x3, x4, x5, k2, rfl, q2, a2, hk2, hj2⟩
  have o2 := o1.aptS a2 (by omega)
  have a22 := a1.trans a2
  have hs2 := a22.size
  have hg2 := q2.lt
  clear C2
  have C3 := Lib.hid (editOf_any g k2 _ code (.slice AL l.length cL) l w2 q2 (OwnRow.lo o2 (by have := HSZ.out; omega)) hl13 (by omega))
  go_wp2_with fail
  refine C3.out.mono ?_; rintro e w3 ⟨y0, y1, y2, y3, y4, y5, k3, rfl, q3, a3, hk3, hj3⟩
  have o3 := o2.aptS a3 (by omega)
  have a33 := a22.trans a3
  have hs3 := a33.size
  have hg3 := q3.lt
  clear C3
  have zx : BoxE ((w3.alloc (.cells #[.int .i64 x0, .int .i64 x1, .int .i64 x2, .int .i64 x3, .int .i64 x4, .int .i64 x5] 41)).alloc (.cells #[.int .i64 y0, .int .i64 y1, .int .i64 y2, .int .i64 y3, .int .i64 y4, .int .i64 y5] 41)) w3.heap.size x0 x1 x2 x3 x4 x5 := (BoxE.new w3 x0 x1 x2 x3 x4 x5).al _
  have zy : BoxE ((w3.alloc (.cells #[.int .i64 x0, .int .i64 x1, .int .i64 x2, .int .i64 x3, .int .i64 x4, .int .i64 x5] 41)).alloc (.cells #[.int .i64 y0, .int .i64 y1, .int .i64 y2, .int .i64 y3, .int .i64 y4, .int .i64 y5] 41)) (w3.heap.size + 1) y0 y1 y2 y3 y4 y5 := by
    have h9 := BoxE.new (w3.alloc (.cells #[.int .i64 x0, .int .i64 x1, .int .i64 x2, .int .i64 x3, .int .i64 x4, .int .i64 x5] 41)) y0 y1 y2 y3 y4 y5
    rwa [show (w3.alloc (.cells #[.int .i64 x0, .int .i64 x1, .int .i64 x2, .int .i64 x3, .int .i64 x4, .int .i64 x5] 41)).heap.size = w3.heap.size + 1 by simp] at h9
  have hBg : B < g ∧ B + 1 < g := by have := HSZ.out; omega
  have z35 := ((z30.apl a33 hBg.1).al (.cells #[.int .i64 x0, .int .i64 x1, .int .i64 x2, .int .i64 x3, .int .i64 x4, .int .i64 x5] 41)).al (.cells #[.int .i64 y0, .int .i64 y1, .int .i64 y2, .int .i64 y3, .int .i64 y4, .int .i64 y5] 41)
  have z45 := ((z40.apl a33 hBg.2).al (.cells #[.int .i64 x0, .int .i64 x1, .int .i64 x2, .int .i64 x3, .int .i64 x4, .int .i64 x5] 41)).al (.cells #[.int .i64 y0, .int .i64 y1, .int .i64 y2, .int .i64 y3, .int .i64 y4, .int .i64 y5] 41)
  have o5 := (o3.alS (.cells #[.int .i64 x0, .int .i64 x1, .int .i64 x2, .int .i64 x3, .int .i64 x4, .int .i64 x5] 41)).alS (.cells #[.int .i64 y0, .int .i64 y1, .int .i64 y2, .int .i64 y3, .int .i64 y4, .int .i64 y5] 41)
  have a5 := apg_al (apg_al a33 (.cells #[.int .i64 x0, .int .i64 x1, .int .i64 x2, .int .i64 x3, .int .i64 x4, .int .i64 x5] 41)) (.cells #[.int .i64 y0, .int .i64 y1, .int .i64 y2, .int .i64 y3, .int .i64 y4, .int .i64 y5] 41)
  have q5 := q3.belowG (((Below.refl _ w3).alloc (Nat.le_refl _) (.cells #[.int .i64 x0, .int .i64 x1, .int .i64 x2, .int .i64 x3, .int .i64 x4, .int .i64 x5] 41)).alloc (by simp) (.cells #[.int .i64 y0, .int .i64 y1, .int .i64 y2, .int .i64 y3, .int .i64 y4, .int .i64 y5] 41)) hg3
  obtain ⟨w5, hw5⟩ : ∃ W, W = (w3.alloc (.cells #[.int .i64 x0, .int .i64 x1, .int .i64 x2, .int .i64 x3, .int .i64 x4, .int .i64 x5] 41)).alloc (.cells #[.int .i64 y0, .int .i64 y1, .int .i64 y2, .int .i64 y3, .int .i64 y4, .int .i64 y5] 41) := ⟨_, rfl⟩
  have hlB9 : ∀ gb, (Value.slice AL l.length cL).ownBlock = some gb → gb < w3.heap.size := fun gb h9 => (World.ownsRow.lt o3 gb h9).2
  obtain ⟨B7, hB7⟩ : ∃ X, X = w3.heap.size := ⟨_, rfl⟩
  rw [← hw5] at zx zy z35 z45 o5 a5 q5
  rw [← hB7] at zx zy hlB9
  have HLB := Lib.hid hlB9
  clear hlB9
  have H7 : g < B7 := by omega
  have HW5 := Lib.hid hw5
  have HB7 := Lib.hid hB7
  clear hw5 hB7 z30 z40 o1 o2 o3 a1 a2 a3 a22 a33 q0 q1 q2 q3 hs1 hs2 hs3 hg1 hg2 hg3
  have C4 := Lib.hid (one_ex g _ code 6 k3 w5 (by omega) q5)
  go_upto_region 4 with fail
  rw [← HW5.out, ← HB7.out, ← HB.out]
  go_wp2_with fail
  refine C4.out.mono ?_; rintro e w6 ⟨b6, k6, rfl, hk6, hj6, q6, a6⟩
  have zx6 := zx.apt a6 H7
  have zy6 := zy.apt a6 (by omega)
  have z36 := z35.apl a6 hBg.1
  have z46 := z45.apl a6 hBg.2
  have o6 := o5.aptS a6 (by omega)
  have a66 := a5.trans a6
  have hs6 := a66.size
  clear C4 zx zy z35 z45 o5 a5 a6 q5 q6
  go_upto_if 21 with fail
  go_cut [] (fun wx => ∃ (n0 n1 n2 n3 n4 n5 : Int), BoxE wx B7 x0 x1 x2 x3 x4 x5 ∧ BoxE wx (B7 + 1) n0 n1 n2 n3 n4 n5 ∧ BoxE wx B 0 0 0 0 0 0 ∧ BoxE wx (B + 1) 0 0 0 0 0 0 ∧ OwnRow sptRec wx w0.heap.size (.slice AL l.length cL) l ∧ Apg g w0 wx)
  case first =>
    cases b6
    case false =>
      go_wp2_with fail
      go_meet
      exact ⟨y0, y1, y2, y3, y4, y5, zx6, zy6, z36, z46, o6, a66⟩
    case true =>
      obtain ⟨c0, c1, c2, c3, c4, c5, f0, f1, f2, f3, f4, f5⟩ := zx6.cells
      obtain ⟨d0, d1, d2, d3, d4, d5, g0, g1, g2, g3, g4, g5⟩ := zy6.cells
      have zy7 := zy6.set 2 x1 x4 x5 x2 x3
      have zx7 := (((((zx6.off (p := ⟨B7 + 1, 0, none⟩) (by show B7 + 1 ≠ B7; omega) (.int .i64 2)).off (p := ⟨B7 + 1, 1, none⟩) (by show B7 + 1 ≠ B7; omega) (.int .i64 x1)).off (p := ⟨B7 + 1, 2, none⟩) (by show B7 + 1 ≠ B7; omega) (.int .i64 x4)).off (p := ⟨B7 + 1, 3, none⟩) (by show B7 + 1 ≠ B7; omega) (.int .i64 x5)).off (p := ⟨B7 + 1, 4, none⟩) (by show B7 + 1 ≠ B7; omega) (.int .i64 x2)).off (p := ⟨B7 + 1, 5, none⟩) (by show B7 + 1 ≠ B7; omega) (.int .i64 x3)
      have hb7 := below_set6 (Below.refl w0.heap.size w6) (b := B7 + 1) (by omega) 2 x1 x4 x5 x2 x3
      have Z := Lib.hid (And.intro zx7 (And.intro zy7 hb7))
      clear zx7 zy7 hb7 zx6 zy6
      have hs0' : w0.heap.size ≤ B7 := by omega
      go_wp2_with fail
      go_meet
      obtain ⟨zx7, zy7, hb7⟩ := Z.out
      have hne9 : ∀ gb, (Value.slice AL l.length cL).ownBlock = some gb → gb < B7 + 1 := fun gb h9 => by have := HLB.out gb h9; omega
      exact ⟨2, x1, x4, x5, x2, x3, zx7, zy7, (hb7.block B (by omega)).trans z36, (hb7.block (B + 1) (by omega)).trans z46, (((((o6.setO hne9 _ _).setO hne9 _ _).setO hne9 _ _).setO hne9 _ _).setO hne9 _ _).setO hne9 _ _, a66.trans2 hb7 (Nat.le_refl _)⟩
  case rest =>
    obtain ⟨n0, n1, n2, n3, n4, n5, zx, zy, z3, z4, o, a⟩ := hcut
    obtain ⟨c0, c1, c2, c3, c4, c5, f0, f1, f2, f3, f4, f5⟩ := zx.cells
    obtain ⟨d0, d1, d2, d3, d4, d5, g0, g1, g2, g3, g4, g5⟩ := zy.cells
    obtain ⟨i0, i1, i2, i3, i4, i5, j0, j1, j2, j3, j4, j5⟩ := z3.cells
    obtain ⟨m0, m1, m2, m3, m4, m5, p0, p1, p2, p3, p4, p5⟩ := z4.cells
    go_upto_region 6 with fail
    have hfin2 : ∀ (W' : World), BoxE W' B x0 x1 x2 x3 x4 x5 → BoxE W' (B + 1) n0 n1 n2 n3 n4 n5 → OwnRow sptRec W' w.heap.size (.slice AL l.length cL) l → Below w.heap.size w W'.drew →
        ∀ tm : Array Value, tm[2]? = some (.slice AL l.length cL) → tm[3]? = some (.pointer (some ⟨B, 0, none⟩)) → tm[4]? = some (.pointer (some ⟨B + 1, 0, none⟩)) → bodyPost Tryd.prog Tryd.f14 (DrawnC w) Exit.ret ⟨tm, []⟩ W'.drew := by
      intro W' h1 h2 h3 h4 tm t2 t3 t4
      obtain ⟨r0, r1, r2, r3, r4, r5, _⟩ := h1.cells
      obtain ⟨s0, s1, s2, s3, s4, s5, _⟩ := h2.cells
      exact bodyPost_ret (v := .tuple #[.slice AL l.length cL, .agg #[.int .i64 x0, .int .i64 x1, .int .i64 x2, .int .i64 x3, .int .i64 x4, .int .i64 x5], .agg #[.int .i64 n0, .int .i64 n1, .int .i64 n2, .int .i64 n3, .int .i64 n4, .int .i64 n5]]) (by simp [results, Tryd.results14, go_sem, r0, r1, r2, r3, r4, r5, s0, s1, s2, s3, s4, s5, t2, t3, t4]) rfl ⟨_, l, ⟨x0, x1, x2, x3, x4, x5⟩, ⟨n0, n1, n2, n3, n4, n5⟩, rfl, h3, h4, hl13⟩
    have e0 : B + 1 ≠ B := by omega
    have e9 : B ≠ B + 1 := by omega
    have e1 : B7 ≠ B := by omega
    have e2 : B7 + 1 ≠ B := by omega
    have e3 : B7 ≠ B + 1 := by omega
    have e4 : B7 + 1 ≠ B + 1 := by omega
    have e5 : B ≠ B7 := by omega
    have e6 : B ≠ B7 + 1 := by omega
    have e7 : B + 1 ≠ B7 := by omega
    have e8 : B + 1 ≠ B7 + 1 := by omega
    go_region_held3 (fun w' => w'.cell? ⟨B7, 0, none⟩ = some (.int .i64 x0) ∧ w'.cell? ⟨B7, 1, none⟩ = some (.int .i64 x1) ∧ w'.cell? ⟨B7, 2, none⟩ = some (.int .i64 x2) ∧ w'.cell? ⟨B7, 3, none⟩ = some (.int .i64 x3) ∧ w'.cell? ⟨B7, 4, none⟩ = some (.int .i64 x4) ∧ w'.cell? ⟨B7, 5, none⟩ = some (.int .i64 x5) ∧ w'.cell? ⟨B7 + 1, 0, none⟩ = some (.int .i64 n0) ∧ w'.cell? ⟨B7 + 1, 1, none⟩ = some (.int .i64 n1) ∧ w'.cell? ⟨B7 + 1, 2, none⟩ = some (.int .i64 n2) ∧ w'.cell? ⟨B7 + 1, 3, none⟩ = some (.int .i64 n3) ∧ w'.cell? ⟨B7 + 1, 4, none⟩ = some (.int .i64 n4) ∧ w'.cell? ⟨B7 + 1, 5, none⟩ = some (.int .i64 n5)) (go_keep) (fail)
    have hlo : B < w0.heap.size ∧ B + 1 < w0.heap.size := by omega
    have zf := (((((((z3.set x0 x1 x2 x3 x4 x5).off (p := ⟨B + 1, 0, none⟩) e0 (.int .i64 n0)).off (p := ⟨B + 1, 1, none⟩) e0 (.int .i64 n1)).off (p := ⟨B + 1, 2, none⟩) e0 (.int .i64 n2)).off (p := ⟨B + 1, 3, none⟩) e0 (.int .i64 n3)).off (p := ⟨B + 1, 4, none⟩) e0 (.int .i64 n4)).off (p := ⟨B + 1, 5, none⟩) e0 (.int .i64 n5))
    have zg := ((((((z4.off (p := ⟨B, 0, none⟩) e9 (.int .i64 x0)).off (p := ⟨B, 1, none⟩) e9 (.int .i64 x1)).off (p := ⟨B, 2, none⟩) e9 (.int .i64 x2)).off (p := ⟨B, 3, none⟩) e9 (.int .i64 x3)).off (p := ⟨B, 4, none⟩) e9 (.int .i64 x4)).off (p := ⟨B, 5, none⟩) e9 (.int .i64 x5)).set n0 n1 n2 n3 n4 n5
    have of := (((((((((((o.setL hlo.1 0 (.int .i64 x0)).setL hlo.1 1 (.int .i64 x1)).setL hlo.1 2 (.int .i64 x2)).setL hlo.1 3 (.int .i64 x3)).setL hlo.1 4 (.int .i64 x4)).setL hlo.1 5 (.int .i64 x5)).setL hlo.2 0 (.int .i64 n0)).setL hlo.2 1 (.int .i64 n1)).setL hlo.2 2 (.int .i64 n2)).setL hlo.2 3 (.int .i64 n3)).setL hlo.2 4 (.int .i64 n4)).setL hlo.2 5 (.int .i64 n5)
    have bf := below_set6 (below_set6 (Hfin.out _ a) (b := B) (by have := HB.out; omega) x0 x1 x2 x3 x4 x5) (b := B + 1) (by have := HB.out; omega) n0 n1 n2 n3 n4 n5
    have Zf := Lib.hid (And.intro zf (And.intro zg (And.intro of bf)))
    have Hf2 := Lib.hid hfin2
    clear zf zg of bf hfin2
    go_wp2_with fail
    obtain ⟨zf, zg, of, bf⟩ := Zf.out
    refine Hf2.out _ zf zg ?_ bf.drew _ ?_ ?_ ?_
    · exact OwnRow.lo of (by have := HB.out; omega)
    · rfl
    · rfl
    · rfl
end Go.Proofs.YtiondgflpimdmaaDoor
