/- Contracts of DoCommute, in the program and in the reference. -/
import Derived.Test.YtiondgflpimdmaaDoorEditSame
import Derived.Test.YtiondgflpimdmaaDoorEditConf
import Derived.Deep.DeepCutAuto
set_option linter.unusedSimpArgs false
set_option linter.unusedVariables false
namespace Go.Proofs.YtiondgflpimdmaaDoor
open Go.RowKit

/-- An edit in a box. -/
def Box6 (w : World) (b : Nat) (x : Edt) : Prop :=
  w.cell? ⟨b, 0, none⟩ = some (.int .i64 x.e) ∧ w.cell? ⟨b, 1, none⟩ = some (.int .i64 x.p) ∧ w.cell? ⟨b, 2, none⟩ = some (.int .i64 x.bx) ∧ w.cell? ⟨b, 3, none⟩ = some (.int .i64 x.bY) ∧ w.cell? ⟨b, 4, none⟩ = some (.int .i64 x.ax) ∧ w.cell? ⟨b, 5, none⟩ = some (.int .i64 x.aY)
theorem Box6.out {w : World} {b : Nat} {x : Edt} (h : Box6 w b x) : w.cell? ⟨b, 0, none⟩ = some (.int .i64 x.e) ∧ w.cell? ⟨b, 1, none⟩ = some (.int .i64 x.p) ∧ w.cell? ⟨b, 2, none⟩ = some (.int .i64 x.bx) ∧ w.cell? ⟨b, 3, none⟩ = some (.int .i64 x.bY) ∧ w.cell? ⟨b, 4, none⟩ = some (.int .i64 x.ax) ∧ w.cell? ⟨b, 5, none⟩ = some (.int .i64 x.aY) := h
theorem Box6.keep {w w' : World} {b B : Nat} {x : Edt} (h : Box6 w b x) (hb : Below B w w') (hB : w.heap.size ≤ B) : Box6 w' b x := by
  obtain ⟨h0, h1, h2, h3, h4, h5⟩ := h
  exact ⟨Below.keepC hb h0 hB, Below.keepC hb h1 hB, Below.keepC hb h2 hB, Below.keepC hb h3 hB, Below.keepC hb h4 hB, Below.keepC hb h5 hB⟩
theorem RowAt.two {α : Type} (R : Rec α) (w : World) (x y : α) (cs : Array Value) (hcs : cs.toList = R.cells x ++ R.cells y) : RowAt R (w.alloc (.cells cs R.ty)) (.slice (some ⟨w.heap.size, 0, none⟩) 2 2) [x, y] := by
  have h := World.ownsRow_lit (base := 0) (e := R.ty) (size := R.sz) w cs 2 (Nat.zero_le _) (by simp [maxLen]) (by
    have h1 := R.clen x
    have h2 := R.clen y
    have h3 : cs.toList.length = (R.cells x ++ R.cells y).length := by rw [hcs]
    rw [List.length_append, Array.length_toList] at h3
    omega)
  have h2 := Sl.of_own h
  rw [hcs] at h2
  unfold RowAt
  have e : rcells R [x, y] = R.cells x ++ R.cells y := by simp [rcells]
  rw [e]
  exact h2
def nTwo (l : List Spt) (x y : Edt) : Bool := ((runE l [x, y] 0).2 : Int) == 2
def sTwo (l : List Spt) (x y : Edt) : List Spt := (runE l [x, y] 0).1
/-- What DoCommute returns. -/
def rComm (l : List Spt) (x y : Edt) : Bool × Bool := if isChart l && isEdt x && isEdt y then (nTwo l x y && nTwo l y x && decide (sTwo l x y = sTwo l y x), true) else (false, false)
theorem rComm_no1 {l : List Spt} {x y : Edt} (h : isChart l = false) : rComm l x y = (false, false) := by unfold rComm; rw [h]; rfl
theorem rComm_no2 {l : List Spt} {x y : Edt} (h : isEdt x = false) : rComm l x y = (false, false) := by unfold rComm; rw [h]; cases isChart l <;> rfl
theorem rComm_no3 {l : List Spt} {x y : Edt} (h : isEdt y = false) : rComm l x y = (false, false) := by unfold rComm; rw [h]; cases isChart l <;> cases isEdt x <;> rfl
theorem rComm_yes {l : List Spt} {x y : Edt} (h1 : isChart l = true) (h2 : isEdt x = true) (h3 : isEdt y = true) : rComm l x y = (nTwo l x y && nTwo l y x && decide (sTwo l x y = sTwo l y x), true) := by unfold rComm; rw [h1, h2, h3]; rfl
theorem two_to {x y : Edt} (h2 : isEdt x = true) (h3 : isEdt y = true) : edTo [x, y] [x, y].length := by
  intro i hi
  match i, hi with
  | 0, _ => exact h2
  | 1, _ => exact h3
theorem two_are {x y : Edt} (h2 : isEdt x = true) (h3 : isEdt y = true) : areEdts [x, y] = true := by
  rw [areEdts_to (two_to h2 h3)]; rfl
theorem two_len (l : List Spt) (x y u v : Edt) : (sTwo l x y).length = (sTwo l u v).length := by
  unfold sTwo; rw [← run_len1, ← run_len1]
def FreshTwo (w : World) (l : List Spt) (x y : Edt) (e : Ending) (w' : World) : Prop :=
  ∃ u, e = .returned (.tuple #[u, .bool (nTwo l x y)]) ∧ OwnRow sptRec w' w.heap.size u (sTwo l x y) ∧ Below w.heap.size w w'
def FreshTwoN (w : World) (l : List Spt) (x y : Edt) (e : Ending) (w' : World) : Prop :=
  ∃ (u : Value) (n : Nat), e = .returned (.tuple #[u, .int .i64 n]) ∧ Hid (nTwo l x y = ((n : Int) == 2)) ∧ OwnRow sptRec w' w.heap.size u (sTwo l x y) ∧ Below w.heap.size w w'
theorem applyTwo (v ve : Value) (l : List Spt) (x y : Edt) (w : World) (h : RowAt sptRec w v l) (hE : RowAt edtRec w ve [x, y]) (h1 : Hid (isChart l = true)) (h2 : Hid (isEdt x = true)) (h3 : Hid (isEdt y = true)) :
    Calls Tryd.prog 48 #[v, ve] w (FreshTwoN w l x y) := by
  have hp := chart_pos h1.out
  refine (applyEdits_any v ve l [x, y] w h hE hp.2 hp.1 (by simp) (two_to h2.out h3.out)).mono ?_
  rintro e w' ⟨u, he, ho, hb⟩
  exact ⟨u, (runE l [x, y] 0).2, he, rfl, ho, hb⟩
theorem wholeTwo (v ve : Value) (l : List Spt) (x y : Edt) (w : World) (h : RowAt sptRec w v l) (hE : RowAt edtRec w ve [x, y]) (h1 : Hid (isChart l = true)) (h2 : Hid (isEdt x = true)) (h3 : Hid (isEdt y = true)) :
    Calls Tryd.prog 37 #[v, ve] w (FreshTwo w l x y) := by
  have ha := two_are h2.out h3.out
  refine (mgWhole_any v ve l [x, y] w h hE h1 ha).mono ?_
  rintro e w' ⟨u, he, ho, hb⟩
  rw [rWhole_yes h1.out ha] at he ho
  exact ⟨u, by rw [he]; unfold nTwo; rw [show ((2 : Int)) = ((2 : Nat) : Int) from rfl, nat_beq]; rfl, ho, hb⟩
set_option maxRecDepth 100000 in
set_option maxHeartbeats 6400000 in
theorem implComm (v : Value) (l : List Spt) (x y : Edt) (w : World) (h : RowAt sptRec w v l) :
    Calls Tryd.prog 15 #[v, .agg #[.int .i64 x.e, .int .i64 x.p, .int .i64 x.bx, .int .i64 x.bY, .int .i64 x.ax, .int .i64 x.aY], .agg #[.int .i64 y.e, .int .i64 y.p, .int .i64 y.bx, .int .i64 y.bY, .int .i64 y.ax, .int .i64 y.aY]] w fun e w' => e = .returned (.tuple #[.bool (rComm l x y).1, .bool (rComm l x y).2]) ∧ Below w.heap.size w w' := by
  have hb0 := fun o o' => ((Below.refl w.heap.size w).alloc (Nat.le_refl _) o).alloc (by simp) o'
  have Hb0 := Lib.hid hb0
  clear hb0
  go_enter Tryd.func15, Tryd.ntmps15
  go_upto_region 0 with fail
  go_cut [4, 5, 6, 7] (fun b4 b5 r6 r7 wx => b4 = .pointer (some ⟨w.heap.size, 0, none⟩) ∧ b5 = .pointer (some ⟨w.heap.size + 1, 0, none⟩) ∧ r6 = .bool false ∧ r7 = .bool false ∧ Box6 wx w.heap.size x ∧ Box6 wx (w.heap.size + 1) y ∧ Below w.heap.size w wx)
  case first =>
    go_wp2_with fail
    go_meet
    exact ⟨rfl, rfl, rfl, rfl, ⟨by go_simp, by go_simp, by go_simp, by go_simp, by go_simp, by go_simp⟩, ⟨by go_simp, by go_simp, by go_simp, by go_simp, by go_simp, by go_simp⟩, Hb0.out _ _⟩
  case rest =>
    obtain ⟨rfl, rfl, rfl, rfl, bx0, by0, B0⟩ := hcut
    obtain ⟨w0, hw0⟩ : ∃ w0 : World, w0 = wc := ⟨_, rfl⟩
    subst hw0
    cases h1 : isChart l
    case false =>
      have hr := Lib.hid (rComm_no1 (x := x) (y := y) h1)
      go_wp2_with fail
      refine (implIsChart _ l _ (h.below B0 (Nat.le_refl _))).mono ?_; rintro e w1 ⟨rfl, b1⟩
      have B1 := B0.trans (b1.mono B0.size)
      go_wp2_with fail
      go_ret2
      exact ⟨by rw [hr.out]; rfl, B1⟩
    case true =>
      cases h2 : isEdt x
      case false =>
        have hr := Lib.hid (rComm_no2 (l := l) (y := y) h2)
        go_wp2_with fail
        refine (implIsChart _ l _ (h.below B0 (Nat.le_refl _))).mono ?_; rintro e w1 ⟨rfl, b1⟩
        have B1 := B0.trans (b1.mono B0.size)
        have bx1 := bx0.keep b1 (Nat.le_refl _)
        have by1 := by0.keep b1 (Nat.le_refl _)
        have hc := (bx1).out
        obtain ⟨c0, c1, c2, c3, c4, c5⟩ := hc
        go_wp2_with fail
        refine (implIsEdit x _).mono ?_; rintro e w2 ⟨rfl, b2⟩
        clear c0 c1 c2 c3 c4 c5
        have B2 := B1.trans (b2.mono B1.size)
        go_wp2_with fail
        go_ret2
        exact ⟨by rw [hr.out]; rfl, B2⟩
      case true =>
        cases h3 : isEdt y
        case false =>
          have hr := Lib.hid (rComm_no3 (l := l) (x := x) h3)
          go_wp2_with fail
          refine (implIsChart _ l _ (h.below B0 (Nat.le_refl _))).mono ?_; rintro e w1 ⟨rfl, b1⟩
          have B1 := B0.trans (b1.mono B0.size)
          have bx1 := bx0.keep b1 (Nat.le_refl _)
          have by1 := by0.keep b1 (Nat.le_refl _)
          have hc := (bx1).out
          obtain ⟨c0, c1, c2, c3, c4, c5⟩ := hc
          go_wp2_with fail
          refine (implIsEdit x _).mono ?_; rintro e w2 ⟨rfl, b2⟩
          clear c0 c1 c2 c3 c4 c5
          have B2 := B1.trans (b2.mono B1.size)
          have bx2 := bx1.keep b2 (Nat.le_refl _)
          have by2 := by1.keep b2 (Nat.le_refl _)
          have hc := (by2).out
          obtain ⟨c0, c1, c2, c3, c4, c5⟩ := hc
          go_wp2_with fail
          refine (implIsEdit y _).mono ?_; rintro e w3 ⟨rfl, b3⟩
          clear c0 c1 c2 c3 c4 c5
          have B3 := B2.trans (b3.mono B2.size)
          go_wp2_with fail
          go_ret2
          exact ⟨by rw [hr.out]; rfl, B3⟩
        case true =>
          have hr := Lib.hid (rComm_yes h1 h2 h3)
          have hll := two_len l x y y x
          have Hll := Lib.hid hll
          clear hll
          have H1 := Lib.hid h1
          have H2 := Lib.hid h2
          have H3 := Lib.hid h3
          go_wp2_with fail
          refine (implIsChart _ l _ (h.below B0 (Nat.le_refl _))).mono ?_; rintro e w1 ⟨rfl, b1⟩
          have B1 := B0.trans (b1.mono B0.size)
          have bx1 := bx0.keep b1 (Nat.le_refl _)
          have by1 := by0.keep b1 (Nat.le_refl _)
          have hc := (bx1).out
          obtain ⟨c0, c1, c2, c3, c4, c5⟩ := hc
          go_wp2_with fail
          refine (implIsEdit x _).mono ?_; rintro e w2 ⟨rfl, b2⟩
          clear c0 c1 c2 c3 c4 c5
          have B2 := B1.trans (b2.mono B1.size)
          have bx2 := bx1.keep b2 (Nat.le_refl _)
          have by2 := by1.keep b2 (Nat.le_refl _)
          have hc := (by2).out
          obtain ⟨c0, c1, c2, c3, c4, c5⟩ := hc
          go_wp2_with fail
          refine (implIsEdit y _).mono ?_; rintro e w3 ⟨rfl, b3⟩
          clear c0 c1 c2 c3 c4 c5
          have B3 := B2.trans (b3.mono B2.size)
          have bx3 := bx2.keep b3 (Nat.le_refl _)
          have by3 := by2.keep b3 (Nat.le_refl _)
          have hc := (bx3).out
          obtain ⟨c0, c1, c2, c3, c4, c5⟩ := hc
          have hd := (by3).out
          obtain ⟨d0, d1, d2, d3, d4, d5⟩ := hd
          have hX4 : Below w3.heap.size w3 (w3.alloc (.cells #[.int .i64 x.e, .int .i64 x.p, .int .i64 x.bx, .int .i64 x.bY, .int .i64 x.ax, .int .i64 x.aY, .int .i64 y.e, .int .i64 y.p, .int .i64 y.bx, .int .i64 y.bY, .int .i64 y.ax, .int .i64 y.aY] 41)) := (Below.refl _ _).alloc (Nat.le_refl _) _
          have hE4 : RowAt edtRec (w3.alloc (.cells #[.int .i64 x.e, .int .i64 x.p, .int .i64 x.bx, .int .i64 x.bY, .int .i64 x.ax, .int .i64 x.aY, .int .i64 y.e, .int .i64 y.p, .int .i64 y.bx, .int .i64 y.bY, .int .i64 y.ax, .int .i64 y.aY] 41)) (.slice (some ⟨w3.heap.size, 0, none⟩) 2 2) [x, y] := RowAt.two edtRec w3 x y _ rfl
          have BX4 := B3.trans (hX4.mono B3.size)
          go_wp2_with fail
          refine (applyTwo _ _ l x y _ (h.below BX4 (Nat.le_refl _)) hE4 H1 H2 H3).mono ?_; rintro e w4 ⟨u4_, n4, rfl, q4, o4, D4⟩
          clear c0 c1 c2 c3 c4 c5 d0 d1 d2 d3 d4 d5
          have b4 : Below w3.heap.size w3 w4 := hX4.trans (D4.mono (by simp))
          have B4 := B3.trans (b4.mono B3.size)
          have bx4 := bx3.keep b4 (Nat.le_refl _)
          have by4 := by3.keep b4 (Nat.le_refl _)
          have hc := (bx4).out
          obtain ⟨c0, c1, c2, c3, c4, c5⟩ := hc
          have hd := (by4).out
          obtain ⟨d0, d1, d2, d3, d4, d5⟩ := hd
          have hX5 : Below w4.heap.size w4 (w4.alloc (.cells #[.int .i64 y.e, .int .i64 y.p, .int .i64 y.bx, .int .i64 y.bY, .int .i64 y.ax, .int .i64 y.aY, .int .i64 x.e, .int .i64 x.p, .int .i64 x.bx, .int .i64 x.bY, .int .i64 x.ax, .int .i64 x.aY] 41)) := (Below.refl _ _).alloc (Nat.le_refl _) _
          have hE5 : RowAt edtRec (w4.alloc (.cells #[.int .i64 y.e, .int .i64 y.p, .int .i64 y.bx, .int .i64 y.bY, .int .i64 y.ax, .int .i64 y.aY, .int .i64 x.e, .int .i64 x.p, .int .i64 x.bx, .int .i64 x.bY, .int .i64 x.ax, .int .i64 x.aY] 41)) (.slice (some ⟨w4.heap.size, 0, none⟩) 2 2) [y, x] := RowAt.two edtRec w4 y x _ rfl
          have BX5 := B4.trans (hX5.mono B4.size)
          go_wp2_with fail
          refine (applyTwo _ _ l y x _ (h.below BX5 (Nat.le_refl _)) hE5 H1 H3 H2).mono ?_; rintro e w5 ⟨u5_, n5, rfl, q5, o5, D5⟩
          clear c0 c1 c2 c3 c4 c5 d0 d1 d2 d3 d4 d5
          have b5 : Below w4.heap.size w4 w5 := hX5.trans (D5.mono (by simp))
          have B5 := B4.trans (b5.mono B4.size)
          have r4 := (OwnRow.below o4 b5 (Nat.le_refl _)).reads
          have r5 := o5.reads
          obtain ⟨U4, cu4, rfl, hu4, hcu4⟩ := r4.shape
          obtain ⟨U5, cu5, rfl, hu5, hcu5⟩ := r5.shape
          clear o4 o5
          have e4 := q4.out
          have e5 := q5.out
          clear q4 q5
          cases k1 : ((n4 : Int) == 2)
          case false =>
            have hr2 : Hid (rComm l x y = (false, true)) := by show _ = _; rw [hr.out, e4, k1]; rfl
            clear e4 e5
            go_wp2_with fail
            go_ret2
            exact ⟨by rw [hr2.out]; rfl, B5⟩
          case true =>
            cases k2 : ((n5 : Int) == 2)
            case false =>
              have hr2 : Hid (rComm l x y = (false, true)) := by show _ = _; rw [hr.out, e4, e5, k1, k2]; rfl
              clear e4 e5
              go_wp2_with fail
              go_ret2
              exact ⟨by rw [hr2.out]; rfl, B5⟩
            case true =>
              have hr2 : Hid (rComm l x y = (decide (sTwo l x y = sTwo l y x), true)) := by show _ = _; rw [hr.out, e4, e5, k1, k2]; rfl
              clear e4 e5
              go_wp2_with fail
              refine (equalS_any _ _ (sTwo l x y) (sTwo l y x) _ r4 r5 Hll.out).mono ?_; rintro e w6 ⟨rfl, b6⟩
              go_wp2_with fail
              go_ret2
              exact ⟨by rw [hr2.out]; rfl, B5.trans (b6.mono B5.size)⟩
set_option maxRecDepth 100000 in
set_option maxHeartbeats 6400000 in
theorem specComm (v : Value) (l : List Spt) (x y : Edt) (w : World) (h : RowAt sptRec w v l) :
    Calls Tryd.prog 16 #[v, .agg #[.int .i64 x.e, .int .i64 x.p, .int .i64 x.bx, .int .i64 x.bY, .int .i64 x.ax, .int .i64 x.aY], .agg #[.int .i64 y.e, .int .i64 y.p, .int .i64 y.bx, .int .i64 y.bY, .int .i64 y.ax, .int .i64 y.aY]] w fun e w' => e = .returned (.tuple #[.bool (rComm l x y).1, .bool (rComm l x y).2]) ∧ Below w.heap.size w w' := by
  have hb0 := fun o o' => ((Below.refl w.heap.size w).alloc (Nat.le_refl _) o).alloc (by simp) o'
  have Hb0 := Lib.hid hb0
  clear hb0
  go_enter Tryd.func16, Tryd.ntmps16
  go_upto_region 0 with fail
  go_cut [4, 5, 6, 7] (fun b4 b5 r6 r7 wx => b4 = .pointer (some ⟨w.heap.size, 0, none⟩) ∧ b5 = .pointer (some ⟨w.heap.size + 1, 0, none⟩) ∧ r6 = .bool false ∧ r7 = .bool false ∧ Box6 wx w.heap.size x ∧ Box6 wx (w.heap.size + 1) y ∧ Below w.heap.size w wx)
  case first =>
    go_wp2_with fail
    go_meet
    exact ⟨rfl, rfl, rfl, rfl, ⟨by go_simp, by go_simp, by go_simp, by go_simp, by go_simp, by go_simp⟩, ⟨by go_simp, by go_simp, by go_simp, by go_simp, by go_simp, by go_simp⟩, Hb0.out _ _⟩
  case rest =>
    obtain ⟨rfl, rfl, rfl, rfl, bx0, by0, B0⟩ := hcut
    obtain ⟨w0, hw0⟩ : ∃ w0 : World, w0 = wc := ⟨_, rfl⟩
    subst hw0
    cases h1 : isChart l
    case false =>
      have hr := Lib.hid (rComm_no1 (x := x) (y := y) h1)
      go_wp2_with fail
      refine (chGood_any _ l _ (h.below B0 (Nat.le_refl _))).mono ?_; rintro e w1 ⟨rfl, b1⟩
      have B1 := B0.trans (b1.mono B0.size)
      go_wp2_with fail
      go_ret2
      exact ⟨by rw [hr.out]; rfl, B1⟩
    case true =>
      cases h2 : isEdt x
      case false =>
        have hr := Lib.hid (rComm_no2 (l := l) (y := y) h2)
        go_wp2_with fail
        refine (chGood_any _ l _ (h.below B0 (Nat.le_refl _))).mono ?_; rintro e w1 ⟨rfl, b1⟩
        have B1 := B0.trans (b1.mono B0.size)
        have bx1 := bx0.keep b1 (Nat.le_refl _)
        have by1 := by0.keep b1 (Nat.le_refl _)
        have hc := (bx1).out
        obtain ⟨c0, c1, c2, c3, c4, c5⟩ := hc
        go_wp2_with fail
        refine (edGood_any x _).mono ?_; rintro e w2 ⟨rfl, b2⟩
        clear c0 c1 c2 c3 c4 c5
        have B2 := B1.trans (b2.mono B1.size)
        go_wp2_with fail
        go_ret2
        exact ⟨by rw [hr.out]; rfl, B2⟩
      case true =>
        cases h3 : isEdt y
        case false =>
          have hr := Lib.hid (rComm_no3 (l := l) (x := x) h3)
          go_wp2_with fail
          refine (chGood_any _ l _ (h.below B0 (Nat.le_refl _))).mono ?_; rintro e w1 ⟨rfl, b1⟩
          have B1 := B0.trans (b1.mono B0.size)
          have bx1 := bx0.keep b1 (Nat.le_refl _)
          have by1 := by0.keep b1 (Nat.le_refl _)
          have hc := (bx1).out
          obtain ⟨c0, c1, c2, c3, c4, c5⟩ := hc
          go_wp2_with fail
          refine (edGood_any x _).mono ?_; rintro e w2 ⟨rfl, b2⟩
          clear c0 c1 c2 c3 c4 c5
          have B2 := B1.trans (b2.mono B1.size)
          have bx2 := bx1.keep b2 (Nat.le_refl _)
          have by2 := by1.keep b2 (Nat.le_refl _)
          have hc := (by2).out
          obtain ⟨c0, c1, c2, c3, c4, c5⟩ := hc
          go_wp2_with fail
          refine (edGood_any y _).mono ?_; rintro e w3 ⟨rfl, b3⟩
          clear c0 c1 c2 c3 c4 c5
          have B3 := B2.trans (b3.mono B2.size)
          go_wp2_with fail
          go_ret2
          exact ⟨by rw [hr.out]; rfl, B3⟩
        case true =>
          have hr := Lib.hid (rComm_yes h1 h2 h3)
          have hll := two_len l x y y x
          have Hll := Lib.hid hll
          clear hll
          have H1 := Lib.hid h1
          have H2 := Lib.hid h2
          have H3 := Lib.hid h3
          go_wp2_with fail
          refine (chGood_any _ l _ (h.below B0 (Nat.le_refl _))).mono ?_; rintro e w1 ⟨rfl, b1⟩
          have B1 := B0.trans (b1.mono B0.size)
          have bx1 := bx0.keep b1 (Nat.le_refl _)
          have by1 := by0.keep b1 (Nat.le_refl _)
          have hc := (bx1).out
          obtain ⟨c0, c1, c2, c3, c4, c5⟩ := hc
          go_wp2_with fail
          refine (edGood_any x _).mono ?_; rintro e w2 ⟨rfl, b2⟩
          clear c0 c1 c2 c3 c4 c5
          have B2 := B1.trans (b2.mono B1.size)
          have bx2 := bx1.keep b2 (Nat.le_refl _)
          have by2 := by1.keep b2 (Nat.le_refl _)
          have hc := (by2).out
          obtain ⟨c0, c1, c2, c3, c4, c5⟩ := hc
          go_wp2_with fail
          refine (edGood_any y _).mono ?_; rintro e w3 ⟨rfl, b3⟩
          clear c0 c1 c2 c3 c4 c5
          have B3 := B2.trans (b3.mono B2.size)
          have bx3 := bx2.keep b3 (Nat.le_refl _)
          have by3 := by2.keep b3 (Nat.le_refl _)
          have hc := (bx3).out
          obtain ⟨c0, c1, c2, c3, c4, c5⟩ := hc
          have hd := (by3).out
          obtain ⟨d0, d1, d2, d3, d4, d5⟩ := hd
          have hX4 : Below w3.heap.size w3 (w3.alloc (.cells #[.int .i64 x.e, .int .i64 x.p, .int .i64 x.bx, .int .i64 x.bY, .int .i64 x.ax, .int .i64 x.aY, .int .i64 y.e, .int .i64 y.p, .int .i64 y.bx, .int .i64 y.bY, .int .i64 y.ax, .int .i64 y.aY] 41)) := (Below.refl _ _).alloc (Nat.le_refl _) _
          have hE4 : RowAt edtRec (w3.alloc (.cells #[.int .i64 x.e, .int .i64 x.p, .int .i64 x.bx, .int .i64 x.bY, .int .i64 x.ax, .int .i64 x.aY, .int .i64 y.e, .int .i64 y.p, .int .i64 y.bx, .int .i64 y.bY, .int .i64 y.ax, .int .i64 y.aY] 41)) (.slice (some ⟨w3.heap.size, 0, none⟩) 2 2) [x, y] := RowAt.two edtRec w3 x y _ rfl
          have BX4 := B3.trans (hX4.mono B3.size)
          go_wp2_with fail
          refine (wholeTwo _ _ l x y _ (h.below BX4 (Nat.le_refl _)) hE4 H1 H2 H3).mono ?_; rintro e w4 ⟨u4_, rfl, o4, D4⟩
          clear c0 c1 c2 c3 c4 c5 d0 d1 d2 d3 d4 d5
          have b4 : Below w3.heap.size w3 w4 := hX4.trans (D4.mono (by simp))
          have B4 := B3.trans (b4.mono B3.size)
          have bx4 := bx3.keep b4 (Nat.le_refl _)
          have by4 := by3.keep b4 (Nat.le_refl _)
          have hc := (bx4).out
          obtain ⟨c0, c1, c2, c3, c4, c5⟩ := hc
          have hd := (by4).out
          obtain ⟨d0, d1, d2, d3, d4, d5⟩ := hd
          have hX5 : Below w4.heap.size w4 (w4.alloc (.cells #[.int .i64 y.e, .int .i64 y.p, .int .i64 y.bx, .int .i64 y.bY, .int .i64 y.ax, .int .i64 y.aY, .int .i64 x.e, .int .i64 x.p, .int .i64 x.bx, .int .i64 x.bY, .int .i64 x.ax, .int .i64 x.aY] 41)) := (Below.refl _ _).alloc (Nat.le_refl _) _
          have hE5 : RowAt edtRec (w4.alloc (.cells #[.int .i64 y.e, .int .i64 y.p, .int .i64 y.bx, .int .i64 y.bY, .int .i64 y.ax, .int .i64 y.aY, .int .i64 x.e, .int .i64 x.p, .int .i64 x.bx, .int .i64 x.bY, .int .i64 x.ax, .int .i64 x.aY] 41)) (.slice (some ⟨w4.heap.size, 0, none⟩) 2 2) [y, x] := RowAt.two edtRec w4 y x _ rfl
          have BX5 := B4.trans (hX5.mono B4.size)
          go_wp2_with fail
          refine (wholeTwo _ _ l y x _ (h.below BX5 (Nat.le_refl _)) hE5 H1 H3 H2).mono ?_; rintro e w5 ⟨u5_, rfl, o5, D5⟩
          clear c0 c1 c2 c3 c4 c5 d0 d1 d2 d3 d4 d5
          have b5 : Below w4.heap.size w4 w5 := hX5.trans (D5.mono (by simp))
          have B5 := B4.trans (b5.mono B4.size)
          have r4 := (OwnRow.below o4 b5 (Nat.le_refl _)).reads
          have r5 := o5.reads
          obtain ⟨U4, cu4, rfl, hu4, hcu4⟩ := r4.shape
          obtain ⟨U5, cu5, rfl, hu5, hcu5⟩ := r5.shape
          clear o4 o5
          cases k1 : nTwo l x y
          case false =>
            have hr2 : Hid (rComm l x y = (false, true)) := by show _ = _; rw [hr.out, k1]; rfl
            go_wp2_with fail
            go_ret2
            exact ⟨by rw [hr2.out]; rfl, B5⟩
          case true =>
            cases k2 : nTwo l y x
            case false =>
              have hr2 : Hid (rComm l x y = (false, true)) := by show _ = _; rw [hr.out, k1, k2]; rfl
              go_wp2_with fail
              go_ret2
              exact ⟨by rw [hr2.out]; rfl, B5⟩
            case true =>
              have hr2 : Hid (rComm l x y = (decide (sTwo l x y = sTwo l y x), true)) := by show _ = _; rw [hr.out, k1, k2]; rfl
              go_wp2_with fail
              refine (mgSame_any _ _ (sTwo l x y) (sTwo l y x) _ r4 r5 Hll.out).mono ?_; rintro e w6 ⟨rfl, b6⟩
              go_wp2_with fail
              go_ret2
              exact ⟨by rw [hr2.out]; rfl, B5.trans (b6.mono B5.size)⟩
end Go.Proofs.YtiondgflpimdmaaDoor
