/- The draws of edits: editOf. -/
import Derived.Test.YtnkbopnmfoplfaaDrawCa
import Derived.Test.YtnkbopnmfoplfaaRecEdit
set_option linter.unusedSimpArgs false
set_option linter.unusedVariables false
namespace Go.Proofs.Ytnkbopnmfoplfaa
open Go.RowKit Go.Sort
/-- An edit in a box of its own. -/
def BoxE (w : World) (b : Nat) (a0 a1 a2 a3 a4 a5 : Int) : Prop := w.heap[b]? = some (.cells #[.int .i64 a0, .int .i64 a1, .int .i64 a2, .int .i64 a3, .int .i64 a4, .int .i64 a5] 54 (0, 0))
theorem BoxE.new (w : World) (a0 a1 a2 a3 a4 a5 : Int) : BoxE (w.alloc (.cells #[.int .i64 a0, .int .i64 a1, .int .i64 a2, .int .i64 a3, .int .i64 a4, .int .i64 a5] 54)) w.heap.size a0 a1 a2 a3 a4 a5 := by
  show (w.heap.push _)[w.heap.size]? = _
  rw [Array.getElem?_push_size]
theorem BoxE.lt {w : World} {b : Nat} {a0 a1 a2 a3 a4 a5 : Int} (h : BoxE w b a0 a1 a2 a3 a4 a5) : b < w.heap.size := (Array.getElem?_eq_some_iff.1 h).1
theorem BoxE.al {w : World} {b : Nat} {a0 a1 a2 a3 a4 a5 : Int} (h : BoxE w b a0 a1 a2 a3 a4 a5) (o : Obj) : BoxE (w.alloc o) b a0 a1 a2 a3 a4 a5 := (heap_alloc_old' w o h.lt).trans h
theorem BoxE.apt {w w' : World} {b g : Nat} {a0 a1 a2 a3 a4 a5 : Int} (h : BoxE w b a0 a1 a2 a3 a4 a5) (ha : Apg g w w') (hb : g < b) : BoxE w' b a0 a1 a2 a3 a4 a5 := (ha.block b h.lt (.inr hb)).trans h
theorem BoxE.keep {w w' : World} {b B : Nat} {a0 a1 a2 a3 a4 a5 : Int} (h : BoxE w b a0 a1 a2 a3 a4 a5) (hb : Below B w w') (hB : w.heap.size ≤ B) : BoxE w' b a0 a1 a2 a3 a4 a5 := (hb.block b (by have := h.lt; omega)).trans h
theorem BoxE.cells {w : World} {b : Nat} {a0 a1 a2 a3 a4 a5 : Int} (h : BoxE w b a0 a1 a2 a3 a4 a5) : w.cell? ⟨b, 0, none⟩ = some (.int .i64 a0) ∧ w.cell? ⟨b, 1, none⟩ = some (.int .i64 a1) ∧ w.cell? ⟨b, 2, none⟩ = some (.int .i64 a2) ∧ w.cell? ⟨b, 3, none⟩ = some (.int .i64 a3) ∧ w.cell? ⟨b, 4, none⟩ = some (.int .i64 a4) ∧ w.cell? ⟨b, 5, none⟩ = some (.int .i64 a5) ∧ w.frozen? ⟨b, 0, none⟩ = false ∧ w.frozen? ⟨b, 1, none⟩ = false ∧ w.frozen? ⟨b, 2, none⟩ = false ∧ w.frozen? ⟨b, 3, none⟩ = false ∧ w.frozen? ⟨b, 4, none⟩ = false ∧ w.frozen? ⟨b, 5, none⟩ = false :=
  ⟨by rw [cell_of_row w b 0 _ _ _ h]; rfl, by rw [cell_of_row w b 1 _ _ _ h]; rfl, by rw [cell_of_row w b 2 _ _ _ h]; rfl, by rw [cell_of_row w b 3 _ _ _ h]; rfl, by rw [cell_of_row w b 4 _ _ _ h]; rfl, by rw [cell_of_row w b 5 _ _ _ h]; rfl, frozen_of_row w b 0 _ _ h, frozen_of_row w b 1 _ _ h, frozen_of_row w b 2 _ _ h, frozen_of_row w b 3 _ _ h, frozen_of_row w b 4 _ _ h, frozen_of_row w b 5 _ _ h⟩
theorem BoxE.set0 {w : World} {b : Nat} {a0 a1 a2 a3 a4 a5 : Int} (h : BoxE w b a0 a1 a2 a3 a4 a5) (x : Int) : BoxE (w.setCell ⟨b, 0, none⟩ (.int .i64 x)) b x a1 a2 a3 a4 a5 := heap_setCell_same w b 0 _ _ _ h
theorem BoxE.set1 {w : World} {b : Nat} {a0 a1 a2 a3 a4 a5 : Int} (h : BoxE w b a0 a1 a2 a3 a4 a5) (x : Int) : BoxE (w.setCell ⟨b, 1, none⟩ (.int .i64 x)) b a0 x a2 a3 a4 a5 := heap_setCell_same w b 1 _ _ _ h
theorem BoxE.set2 {w : World} {b : Nat} {a0 a1 a2 a3 a4 a5 : Int} (h : BoxE w b a0 a1 a2 a3 a4 a5) (x : Int) : BoxE (w.setCell ⟨b, 2, none⟩ (.int .i64 x)) b a0 a1 x a3 a4 a5 := heap_setCell_same w b 2 _ _ _ h
theorem BoxE.set3 {w : World} {b : Nat} {a0 a1 a2 a3 a4 a5 : Int} (h : BoxE w b a0 a1 a2 a3 a4 a5) (x : Int) : BoxE (w.setCell ⟨b, 3, none⟩ (.int .i64 x)) b a0 a1 a2 x a4 a5 := heap_setCell_same w b 3 _ _ _ h
theorem BoxE.set4 {w : World} {b : Nat} {a0 a1 a2 a3 a4 a5 : Int} (h : BoxE w b a0 a1 a2 a3 a4 a5) (x : Int) : BoxE (w.setCell ⟨b, 4, none⟩ (.int .i64 x)) b a0 a1 a2 a3 x a5 := heap_setCell_same w b 4 _ _ _ h
theorem BoxE.set5 {w : World} {b : Nat} {a0 a1 a2 a3 a4 a5 : Int} (h : BoxE w b a0 a1 a2 a3 a4 a5) (x : Int) : BoxE (w.setCell ⟨b, 5, none⟩ (.int .i64 x)) b a0 a1 a2 a3 a4 x := heap_setCell_same w b 5 _ _ _ h
theorem BoxE.off {w : World} {b : Nat} {a0 a1 a2 a3 a4 a5 : Int} (h : BoxE w b a0 a1 a2 a3 a4 a5) {p : Addr} (hp : p.block ≠ b) (u : Value) : BoxE (w.setCell p u) b a0 a1 a2 a3 a4 a5 := (heap_setCell_other w p b u (fun e => hp e.symm)).trans h
theorem BoxE.set {w : World} {b : Nat} {a0 a1 a2 a3 a4 a5 : Int} (h : BoxE w b a0 a1 a2 a3 a4 a5) (x0 x1 x2 x3 x4 x5 : Int) : BoxE ((((((w.setCell ⟨b, 0, none⟩ (.int .i64 x0)).setCell ⟨b, 1, none⟩ (.int .i64 x1)).setCell ⟨b, 2, none⟩ (.int .i64 x2)).setCell ⟨b, 3, none⟩ (.int .i64 x3)).setCell ⟨b, 4, none⟩ (.int .i64 x4)).setCell ⟨b, 5, none⟩ (.int .i64 x5)) b x0 x1 x2 x3 x4 x5 := (((((h.set0 x0).set1 x1).set2 x2).set3 x3).set4 x4).set5 x5
theorem below_set6 {B : Nat} {w0 w : World} (h : Below B w0 w) {b : Nat} (hb : B ≤ b) (x0 x1 x2 x3 x4 x5 : Int) : Below B w0 ((((((w.setCell ⟨b, 0, none⟩ (.int .i64 x0)).setCell ⟨b, 1, none⟩ (.int .i64 x1)).setCell ⟨b, 2, none⟩ (.int .i64 x2)).setCell ⟨b, 3, none⟩ (.int .i64 x3)).setCell ⟨b, 4, none⟩ (.int .i64 x4)).setCell ⟨b, 5, none⟩ (.int .i64 x5)) :=
  ((((((h.setCell (p := ⟨b, 0, none⟩) hb (.int .i64 x0)).setCell (p := ⟨b, 1, none⟩) hb (.int .i64 x1)).setCell (p := ⟨b, 2, none⟩) hb (.int .i64 x2)).setCell (p := ⟨b, 3, none⟩) hb (.int .i64 x3)).setCell (p := ⟨b, 4, none⟩) hb (.int .i64 x4)).setCell (p := ⟨b, 5, none⟩) hb (.int .i64 x5))
theorem OwnRow.setO {α : Type} {R : Rec α} {w : World} {lo b : Nat} {v : Value} {l : List α} (h : OwnRow R w lo v l) (hne : ∀ gb, v.ownBlock = some gb → gb < b) (o : Nat) (x : Value) : OwnRow R (w.setCell ⟨b, o, none⟩ x) lo v l := by
  have hn : v.ownBlock = none ∨ v.ownBlock ≠ some b := by
    right; intro e; have := hne b e; omega
  exact World.ownsRow.kept h (grown_set9 w b o x) hn
/-- What a draw of an edit leaves. -/
def DrawnE (w : World) (g : Nat) (v : Value) (code : List Nat) (Q : Nat → Prop) (e : Ending) (w' : World) : Prop :=
  ∃ (a0 a1 a2 a3 a4 a5 : Int) (n : Nat), e = .returned (.agg #[.int .i64 a0, .int .i64 a1, .int .i64 a2, .int .i64 a3, .int .i64 a4, .int .i64 a5]) ∧ CurAt w' g v code n ∧ Apg g w w' ∧ Q n
set_option maxRecDepth 100000 in
set_option maxHeartbeats 6400000 in
theorem editOf_any (g n : Nat) (v : Value) (code : List Nat) (lv : Value) (l : List Spt) (w : World) (h : CurAt w g v code n) (hl : OwnRow sptRec w (g + 1) lv l) (h13 : l.length ≤ 13) (hn : n ≤ 4611686018400000000) :
    Calls Try.prog 68 #[.pointer (some ⟨g, 0, none⟩), lv] w (DrawnE w g v code fun n' => n ≤ n' ∧ n' ≤ n + 300) := by
  have hg := h.lt
  have hfin : ∀ (W' : World) (a0 a1 a2 a3 a4 a5 : Int) (k : Nat), CurAt W' g v code k → Apg g w W' → BoxE W' w.heap.size a0 a1 a2 a3 a4 a5 → n ≤ k ∧ k ≤ n + 300 →
      ∀ tm : Array Value, tm[4]? = some (.pointer (some ⟨w.heap.size, 0, none⟩)) →
      bodyPost Try.prog Try.f68 (DrawnE w g v code fun n' => n ≤ n' ∧ n' ≤ n + 300) Exit.ret ⟨tm, []⟩ W' := by
    intro W' a0 a1 a2 a3 a4 a5 k hW ha hp hq tm t4
    obtain ⟨p0, p1, p2, p3, p4, p5, _⟩ := hp.cells
    exact bodyPost_ret (v := .agg #[.int .i64 a0, .int .i64 a1, .int .i64 a2, .int .i64 a3, .int .i64 a4, .int .i64 a5]) (by simp [results, Try.results68, go_sem, p0, p1, p2, p3, p4, p5, t4]) rfl ⟨a0, a1, a2, a3, a4, a5, k, rfl, hW, ha, hq⟩
  have Hfin := Lib.hid hfin
  clear hfin
  have z0 := BoxE.new w 0 0 0 0 0 0
  have a0 : Apg g w (w.alloc (.cells #[.int .i64 0, .int .i64 0, .int .i64 0, .int .i64 0, .int .i64 0, .int .i64 0] 54)) := apg_al (Apart.refl _ _ _) _
  have q0 := h.belowG ((Below.refl _ w).alloc (Nat.le_refl _) (.cells #[.int .i64 0, .int .i64 0, .int .i64 0, .int .i64 0, .int .i64 0, .int .i64 0] 54)) hg
  have o0 := hl.alS (.cells #[.int .i64 0, .int .i64 0, .int .i64 0, .int .i64 0, .int .i64 0, .int .i64 0] 54)
  obtain ⟨w0, hw0⟩ : ∃ w0, w0 = w.alloc (.cells #[.int .i64 0, .int .i64 0, .int .i64 0, .int .i64 0, .int .i64 0, .int .i64 0] 54) := ⟨_, rfl⟩
  have hs0 : w0.heap.size = w.heap.size + 1 := by rw [hw0]; simp
  rw [← hw0] at z0 a0 q0 o0
  have HW := Lib.hid hw0
  clear hw0 hl h
  obtain ⟨A, c, rfl, hnc, hc63⟩ := o0.reads.shape
  have C1 := Lib.hid (pick_ex g v code 3 n w0 (by omega) (by omega) q0)
  go_enter Try.func68, Try.ntmps68
  go_upto_region 1 with fail
  rw [← HW.out]
  go_wp2_with fail
  refine C1.out.mono ?_; rintro e w1 ⟨i1, k1, rfl, hi1, hk1, hj1, q1, a1⟩
  have C2 := Lib.hid (spot_any g k1 v code w1 q1 (by omega))
  go_wp2_with fail
  refine C2.out.mono ?_; rintro e w2 ⟨x, y, k2, rfl, q2, a2, x0, x1, y0, y1, hk2, hj2⟩
  have z2 := (z0.apt a1 hg).apt a2 hg
  have o2 := (o0.aptS a1 (Nat.le_refl _)).aptS a2 (Nat.le_refl _)
  have a22 := (a0.trans a1).trans a2
  have hg2 := q2.lt
  have hs2 : w.heap.size < w2.heap.size := by have := (a1.trans a2).size; omega
  have z3 := z2.al (.cells #[.int .i64 (1 + (i1 : Int)), .int .i64 0, .int .i64 0, .int .i64 0, .int .i64 x, .int .i64 y] 54)
  have o3 := o2.alS (.cells #[.int .i64 (1 + (i1 : Int)), .int .i64 0, .int .i64 0, .int .i64 0, .int .i64 x, .int .i64 y] 54)
  have a3 := apg_al a22 (.cells #[.int .i64 (1 + (i1 : Int)), .int .i64 0, .int .i64 0, .int .i64 0, .int .i64 x, .int .i64 y] 54)
  have q3 := q2.belowG ((Below.refl _ w2).alloc (Nat.le_refl _) (.cells #[.int .i64 (1 + (i1 : Int)), .int .i64 0, .int .i64 0, .int .i64 0, .int .i64 x, .int .i64 y] 54)) hg2
  have zb := BoxE.new w2 (1 + (i1 : Int)) 0 0 0 x y
  have hlB9 : ∀ gb, (Value.slice A l.length c).ownBlock = some gb → gb < w2.heap.size := fun gb h9 => (World.ownsRow.lt o2 gb h9).2
  obtain ⟨w3, hw3⟩ : ∃ w3, w3 = w2.alloc (.cells #[.int .i64 (1 + (i1 : Int)), .int .i64 0, .int .i64 0, .int .i64 0, .int .i64 x, .int .i64 y] 54) := ⟨_, rfl⟩
  rw [← hw3] at z3 o3 a3 q3 zb
  have HW3 := Lib.hid hw3
  obtain ⟨B, hB⟩ : ∃ B, B = w2.heap.size := ⟨_, rfl⟩
  rw [← hB] at zb hs2 hlB9
  have HB := Lib.hid hB
  have hlB := Lib.hid hlB9
  clear hw3 hB hlB9 C1 C2 z0 a0 q0 o0 a1 a2 q1 q2 z2 o2 a22 hs0 hg2
  have hgB : g < B := by omega
  obtain ⟨ed, hed⟩ : ∃ z, z = 1 + (i1 : Int) := ⟨_, rfl⟩
  have HED := Lib.hid hed
  rw [← hed] at zb
  clear hed
  go_upto_if 14 with fail
  rw [← HW3.out, ← HB.out, ← HED.out]
  go_cut [] (fun wx => ∃ (x1' x2' x3' x4' x5' : Int) (k' : Nat), n ≤ k' ∧ k' ≤ n + 100 ∧ BoxE wx B ed x1' x2' x3' x4' x5' ∧ BoxE wx w.heap.size 0 0 0 0 0 0 ∧ OwnRow sptRec wx (g + 1) (.slice A l.length c) l ∧ CurAt wx g v code k' ∧ Apg g w wx)
  case first =>
    rcases Nat.eq_zero_or_pos l.length with h0 | h0
    · have h0f : decide ((0 : Int) < (l.length : Int)) = false := decide_eq_false (by omega)
      go_wp2_with fail
      go_meet
      exact ⟨0, 0, 0, x, y, k2, by omega, by omega, zb, z3, o3, q3, a3⟩
    · have h0f : (0 : Int) < (l.length : Int) := by omega
      have C3 := Lib.hid (pick_ex g v code l.length k2 w3 (by omega) (by omega) q3)
      go_wp2_with fail
      refine C3.out.mono ?_; rintro e w4 ⟨j, k4, rfl, hj, hk4, hj4, q4, a4⟩
      have z4 := z3.apt a4 hg
      have zb4 := zb.apt a4 hgB
      have o4 := OwnRow.aptS o3 a4 (Nat.le_refl _)
      have a44 := a3.trans a4
      clear z3 zb o3 a3 a4 q3 C3
      obtain ⟨c0, c1, c2, c3, c4, c5, f0, f1, f2, f3, f4, f5⟩ := zb4.cells
      have hb5 := ((Below.refl w.heap.size w4).setCell (p := ⟨B, 1, none⟩) (by show _ ≤ B; omega) (.int .i64 (j : Int)))
      have z5 := (z4.off (p := ⟨B, 1, none⟩) (by show B ≠ _; omega) (.int .i64 (j : Int)))
      have zb5 := (zb4.set1 (j : Int))
      have o5 := (o4.setO hlB.out 1 (.int .i64 (j : Int)))
      have q5 := q4.belowG hb5 hg
      have a5 := a44.trans2 hb5 (Nat.le_refl _)
      obtain ⟨w5, hw5⟩ : ∃ W, W = (w4.setCell ⟨B, 1, none⟩ (.int .i64 (j : Int))) := ⟨_, rfl⟩
      rw [← hw5] at z5 zb5 o5 q5 a5
      have Hw5 := Lib.hid hw5
      clear hw5 hb5
      clear z4 zb4 o4 q4 a44
      go_upto_region 4 with fail
      rw [← Hw5.out]
      clear c0 c1 c2 c3 c4 c5 f0 f1 f2 f3 f4 f5
      obtain ⟨c0, c1, c2, c3, c4, c5, f0, f1, f2, f3, f4, f5⟩ := zb5.cells
      obtain ⟨bb, ob, rfl, e0, e1⟩ := spt_at o5.reads j (by omega)
      obtain ⟨u2, hu2⟩ : ∃ z, z = (gx sptRec l j).x := ⟨_, rfl⟩
      obtain ⟨u3, hu3⟩ : ∃ z, z = (gx sptRec l j).y := ⟨_, rfl⟩
      rw [← hu2] at e0
      rw [← hu3] at e1
      clear hu2 hu3
      have hj0 : (0 : Int) ≤ (j : Int) := by omega
      have hjl : (j : Int) < (l.length : Int) := by omega
      have hb6 := (((Below.refl w.heap.size w5).setCell (p := ⟨B, 2, none⟩) (by show _ ≤ B; omega) (.int .i64 u2)).setCell (p := ⟨B, 3, none⟩) (by show _ ≤ B; omega) (.int .i64 u3))
      have z6 := ((z5.off (p := ⟨B, 2, none⟩) (by show B ≠ _; omega) (.int .i64 u2)).off (p := ⟨B, 3, none⟩) (by show B ≠ _; omega) (.int .i64 u3))
      have zb6 := ((zb5.set2 u2).set3 u3)
      have o6 := ((o5.setO hlB.out 2 (.int .i64 u2)).setO hlB.out 3 (.int .i64 u3))
      have q6 := q5.belowG hb6 hg
      have a6 := a5.trans2 hb6 (Nat.le_refl _)
      obtain ⟨w6, hw6⟩ : ∃ W, W = ((w5.setCell ⟨B, 2, none⟩ (.int .i64 u2)).setCell ⟨B, 3, none⟩ (.int .i64 u3)) := ⟨_, rfl⟩
      rw [← hw6] at z6 zb6 o6 q6 a6
      have Hw6 := Lib.hid hw6
      clear hw6 hb6
      clear z5 zb5 o5 q5 a5
      go_upto_region 5 with fail
      rw [← Hw6.out]
      clear c0 c1 c2 c3 c4 c5 f0 f1 f2 f3 f4 f5 e0 e1
      have C6 := Lib.hid (one_ex g v code 6 k4 w6 (by omega) q6)
      go_wp2_with fail
      refine C6.out.mono ?_; rintro e w7 ⟨b7, k7, rfl, hk7, hj7, q7, a7⟩
      have z7 := z6.apt a7 hg
      have zb7 := zb6.apt a7 hgB
      have o7 := OwnRow.aptS o6 a7 (Nat.le_refl _)
      have a77 := a6.trans a7
      clear z6 zb6 o6 q6 a6 C6 a7
      cases b7
      case false =>
        go_wp2_with fail
        go_meet
        exact ⟨_, _, _, _, _, k7, by omega, by omega, zb7, z7, o7, q7, a77⟩
      case true =>
        have C7 := Lib.hid (pick_ex g v code l.length k7 w7 (by omega) (by omega) q7)
        go_wp2_with fail
        refine C7.out.mono ?_; rintro e w8 ⟨m, k8, rfl, hm, hk8, hj8, q8, a8⟩
        have z8 := z7.apt a8 hg
        have zb8 := zb7.apt a8 hgB
        have o8 := OwnRow.aptS o7 a8 (Nat.le_refl _)
        have a88 := a77.trans a8
        clear z7 zb7 o7 q7 a77 C7 a8
        obtain ⟨c0, c1, c2, c3, c4, c5, f0, f1, f2, f3, f4, f5⟩ := zb8.cells
        obtain ⟨bb9, ob9, hA9, e0, e1⟩ := spt_at o8.reads m (by omega)
        cases hA9
        obtain ⟨u4, hu4⟩ : ∃ z, z = (gx sptRec l m).x := ⟨_, rfl⟩
        obtain ⟨u5, hu5⟩ : ∃ z, z = (gx sptRec l m).y := ⟨_, rfl⟩
        rw [← hu4] at e0
        rw [← hu5] at e1
        clear hu4 hu5
        have hm0 : (0 : Int) ≤ (m : Int) := by omega
        have hml : (m : Int) < (l.length : Int) := by omega
        have hbS := ((Below.refl w.heap.size w8).setCell (p := ⟨B, 4, none⟩) (by show _ ≤ B; omega) (.int .i64 u4)).setCell (p := ⟨B, 5, none⟩) (by show _ ≤ B; omega) (.int .i64 u5)
        have ZB := Lib.hid ((zb8.set4 u4).set5 u5)
        have Z := Lib.hid ((z8.off (p := ⟨B, 4, none⟩) (by show B ≠ _; omega) (.int .i64 u4)).off (p := ⟨B, 5, none⟩) (by show B ≠ _; omega) (.int .i64 u5))
        have O := Lib.hid ((o8.setO hlB.out 4 (.int .i64 u4)).setO hlB.out 5 (.int .i64 u5))
        have Q := Lib.hid (q8.belowG hbS hg)
        have AP := Lib.hid (a88.trans2 hbS (Nat.le_refl _))
        clear hbS zb8 z8 o8 q8 a88
        go_wp2_with fail
        go_meet
        exact ⟨_, _, _, _, _, k8, by omega, by omega, ZB.out, Z.out, O.out, Q.out, AP.out⟩
  case rest =>
    obtain ⟨x1, x2, x3, x4, x5, k4, hk4, hj4, zb4, z4, o4, q4, a4⟩ := hcut
    clear zb z3 o3 q3 a3
    obtain ⟨w4, hw4⟩ : ∃ w9 : World, w9 = wc := ⟨_, rfl⟩
    subst hw4
    have C3 := Lib.hid (pick_ex g v code 40 k4 w4 (by omega) (by omega) q4)
    go_wp2_with fail
    refine C3.out.mono ?_; rintro e w5 ⟨y5, k5, rfl, hy5, hk5, hj5, q5, d5⟩
    have z5 := z4.apt d5 hg
    have zb5 := zb4.apt d5 hgB
    have o5 := OwnRow.aptS o4 d5 (Nat.le_refl _)
    have a5 := a4.trans d5
    have hg5 := q5.lt
    have hs5 := a5.size
    clear z4 zb4 o4 q4 a4 C3 d5
    have hy6 : y5 = 0 ∨ y5 = 1 ∨ y5 = 2 ∨ y5 = 3 ∨ 4 ≤ y5 := by omega
    rcases hy6 with rfl | rfl | rfl | rfl | hy6
    · have q6 := q5.belowG ((Below.refl _ w5).alloc (Nat.le_refl _) (.cells #[.int .i64 (0), .int .i64 (9), .int .i64 (10)] 3)) hg5
      have C4 := Lib.hid (among_lit g k5 v (.slice (some ⟨w5.heap.size, 0, none⟩) 3 3) code [0, 9, 10] _ q6 (by omega) (lit3 w5 (g + 1) (0) (9) (10) (by omega)) (by simp) (by simp) (fun _ => True) (fun _ _ => trivial))
      have z6 := Lib.hid (z5.al (.cells #[.int .i64 (0), .int .i64 (9), .int .i64 (10)] 3))
      have zb6 := zb5.al (.cells #[.int .i64 (0), .int .i64 (9), .int .i64 (10)] 3)
      have o6 := Lib.hid (o5.alS (.cells #[.int .i64 (0), .int .i64 (9), .int .i64 (10)] 3))
      have a6 := Lib.hid (apg_al a5 (.cells #[.int .i64 (0), .int .i64 (9), .int .i64 (10)] 3))
      obtain ⟨c0, c1, c2, c3, c4, c5, f0, f1, f2, f3, f4, f5⟩ := zb6.cells
      have ZB6 := Lib.hid zb6
      clear z5 zb5 o5 a5 q5 q6 zb6
      go_wp2_with fail
      refine C4.out.mono ?_; rintro e w7 ⟨u, k7, rfl, _, hk7, hj7, q7, d7⟩
      have z7 := z6.out.apt d7 hg
      have zb7 := ZB6.out.apt d7 hgB
      have o7 := OwnRow.aptS o6.out d7 (Nat.le_refl _)
      have a7 := a6.out.trans d7
      clear z6 ZB6 o6 a6 C4 d7 c0 c1 c2 c3 c4 c5 f0 f1 f2 f3 f4 f5
      obtain ⟨c0, c1, c2, c3, c4, c5, f0, f1, f2, f3, f4, f5⟩ := zb7.cells
      have hb8 := ((Below.refl w.heap.size w7).setCell (p := ⟨B, 0, none⟩) (by show _ ≤ B; omega) (.int .i64 u))
      have z8 := (z7.off (p := ⟨B, 0, none⟩) (by show B ≠ _; omega) (.int .i64 u))
      have zb8 := (zb7.set0 u)
      have o8 := (o7.setO hlB.out 0 (.int .i64 u))
      have q8 := q7.belowG hb8 hg
      have a8 := a7.trans2 hb8 (Nat.le_refl _)
      obtain ⟨w8, hw8⟩ : ∃ W, W = (w7.setCell ⟨B, 0, none⟩ (.int .i64 u)) := ⟨_, rfl⟩
      rw [← hw8] at z8 zb8 o8 q8 a8
      have Hw8 := Lib.hid hw8
      clear hw8 hb8
      clear z7 zb7 o7 q7 a7
      go_upto_region 16 with fail
      rw [← Hw8.out]
      clear c0 c1 c2 c3 c4 c5 f0 f1 f2 f3 f4 f5
      obtain ⟨c0, c1, c2, c3, c4, c5, f0, f1, f2, f3, f4, f5⟩ := zb8.cells
      obtain ⟨e0, e1, e2, e3, e4, e5, g0, g1, g2, g3, g4, g5⟩ := z8.cells
      have hbS := below_set6 (Below.refl w.heap.size w8) (Nat.le_refl _) u x1 x2 x3 x4 x5
      have qS := Lib.hid (q8.belowG hbS hg)
      have aS := Lib.hid (a8.trans2 hbS (Nat.le_refl _))
      have zS := Lib.hid (z8.set u x1 x2 x3 x4 x5)
      clear hbS q8 a8 z8 zb8
      go_wp2_with fail
      exact Hfin.out _ u x1 x2 x3 x4 x5 k7 qS.out aS.out zS.out ⟨by omega, by omega⟩ _ rfl
    · have q6 := q5.belowG ((Below.refl _ w5).alloc (Nat.le_refl _) (.cells #[.int .i64 (-1), .int .i64 (11), .int .i64 (12)] 3)) hg5
      have C4 := Lib.hid (among_lit g k5 v (.slice (some ⟨w5.heap.size, 0, none⟩) 3 3) code [-1, 11, 12] _ q6 (by omega) (lit3 w5 (g + 1) (-1) (11) (12) (by omega)) (by simp) (by simp) (fun _ => True) (fun _ _ => trivial))
      have z6 := Lib.hid (z5.al (.cells #[.int .i64 (-1), .int .i64 (11), .int .i64 (12)] 3))
      have zb6 := zb5.al (.cells #[.int .i64 (-1), .int .i64 (11), .int .i64 (12)] 3)
      have o6 := Lib.hid (o5.alS (.cells #[.int .i64 (-1), .int .i64 (11), .int .i64 (12)] 3))
      have a6 := Lib.hid (apg_al a5 (.cells #[.int .i64 (-1), .int .i64 (11), .int .i64 (12)] 3))
      obtain ⟨c0, c1, c2, c3, c4, c5, f0, f1, f2, f3, f4, f5⟩ := zb6.cells
      have ZB6 := Lib.hid zb6
      clear z5 zb5 o5 a5 q5 q6 zb6
      go_wp2_with fail
      refine C4.out.mono ?_; rintro e w7 ⟨u, k7, rfl, _, hk7, hj7, q7, d7⟩
      have z7 := z6.out.apt d7 hg
      have zb7 := ZB6.out.apt d7 hgB
      have o7 := OwnRow.aptS o6.out d7 (Nat.le_refl _)
      have a7 := a6.out.trans d7
      clear z6 ZB6 o6 a6 C4 d7 c0 c1 c2 c3 c4 c5 f0 f1 f2 f3 f4 f5
      obtain ⟨c0, c1, c2, c3, c4, c5, f0, f1, f2, f3, f4, f5⟩ := zb7.cells
      have hb8 := ((Below.refl w.heap.size w7).setCell (p := ⟨B, 1, none⟩) (by show _ ≤ B; omega) (.int .i64 u))
      have z8 := (z7.off (p := ⟨B, 1, none⟩) (by show B ≠ _; omega) (.int .i64 u))
      have zb8 := (zb7.set1 u)
      have o8 := (o7.setO hlB.out 1 (.int .i64 u))
      have q8 := q7.belowG hb8 hg
      have a8 := a7.trans2 hb8 (Nat.le_refl _)
      obtain ⟨w8, hw8⟩ : ∃ W, W = (w7.setCell ⟨B, 1, none⟩ (.int .i64 u)) := ⟨_, rfl⟩
      rw [← hw8] at z8 zb8 o8 q8 a8
      have Hw8 := Lib.hid hw8
      clear hw8 hb8
      clear z7 zb7 o7 q7 a7
      go_upto_region 16 with fail
      rw [← Hw8.out]
      clear c0 c1 c2 c3 c4 c5 f0 f1 f2 f3 f4 f5
      obtain ⟨c0, c1, c2, c3, c4, c5, f0, f1, f2, f3, f4, f5⟩ := zb8.cells
      obtain ⟨e0, e1, e2, e3, e4, e5, g0, g1, g2, g3, g4, g5⟩ := z8.cells
      have hbS := below_set6 (Below.refl w.heap.size w8) (Nat.le_refl _) ed u x2 x3 x4 x5
      have qS := Lib.hid (q8.belowG hbS hg)
      have aS := Lib.hid (a8.trans2 hbS (Nat.le_refl _))
      have zS := Lib.hid (z8.set ed u x2 x3 x4 x5)
      clear hbS q8 a8 z8 zb8
      go_wp2_with fail
      exact Hfin.out _ ed u x2 x3 x4 x5 k7 qS.out aS.out zS.out ⟨by omega, by omega⟩ _ rfl
    · have C4 := Lib.hid (anySpot_any g k5 v code w5 q5 (by omega))
      go_wp2_with fail
      refine C4.out.mono ?_; rintro e w7 ⟨u, u2, k7, rfl, q7, d7, hk7, hj7⟩
      have z7 := z5.apt d7 hg
      have zb7 := zb5.apt d7 hgB
      have o7 := OwnRow.aptS o5 d7 (Nat.le_refl _)
      have a7 := a5.trans d7
      clear z5 zb5 o5 a5 q5 C4 d7
      obtain ⟨c0, c1, c2, c3, c4, c5, f0, f1, f2, f3, f4, f5⟩ := zb7.cells
      have hb8 := (((Below.refl w.heap.size w7).setCell (p := ⟨B, 2, none⟩) (by show _ ≤ B; omega) (.int .i64 u)).setCell (p := ⟨B, 3, none⟩) (by show _ ≤ B; omega) (.int .i64 u2))
      have z8 := ((z7.off (p := ⟨B, 2, none⟩) (by show B ≠ _; omega) (.int .i64 u)).off (p := ⟨B, 3, none⟩) (by show B ≠ _; omega) (.int .i64 u2))
      have zb8 := ((zb7.set2 u).set3 u2)
      have o8 := ((o7.setO hlB.out 2 (.int .i64 u)).setO hlB.out 3 (.int .i64 u2))
      have q8 := q7.belowG hb8 hg
      have a8 := a7.trans2 hb8 (Nat.le_refl _)
      obtain ⟨w8, hw8⟩ : ∃ W, W = ((w7.setCell ⟨B, 2, none⟩ (.int .i64 u)).setCell ⟨B, 3, none⟩ (.int .i64 u2)) := ⟨_, rfl⟩
      rw [← hw8] at z8 zb8 o8 q8 a8
      have Hw8 := Lib.hid hw8
      clear hw8 hb8
      clear z7 zb7 o7 q7 a7
      go_upto_region 16 with fail
      rw [← Hw8.out]
      clear c0 c1 c2 c3 c4 c5 f0 f1 f2 f3 f4 f5
      obtain ⟨c0, c1, c2, c3, c4, c5, f0, f1, f2, f3, f4, f5⟩ := zb8.cells
      obtain ⟨e0, e1, e2, e3, e4, e5, g0, g1, g2, g3, g4, g5⟩ := z8.cells
      have hbS := below_set6 (Below.refl w.heap.size w8) (Nat.le_refl _) ed x1 u u2 x4 x5
      have qS := Lib.hid (q8.belowG hbS hg)
      have aS := Lib.hid (a8.trans2 hbS (Nat.le_refl _))
      have zS := Lib.hid (z8.set ed x1 u u2 x4 x5)
      clear hbS q8 a8 z8 zb8
      go_wp2_with fail
      exact Hfin.out _ ed x1 u u2 x4 x5 k7 qS.out aS.out zS.out ⟨by omega, by omega⟩ _ rfl
    · have C4 := Lib.hid (anySpot_any g k5 v code w5 q5 (by omega))
      go_wp2_with fail
      refine C4.out.mono ?_; rintro e w7 ⟨u, u2, k7, rfl, q7, d7, hk7, hj7⟩
      have z7 := z5.apt d7 hg
      have zb7 := zb5.apt d7 hgB
      have o7 := OwnRow.aptS o5 d7 (Nat.le_refl _)
      have a7 := a5.trans d7
      clear z5 zb5 o5 a5 q5 C4 d7
      obtain ⟨c0, c1, c2, c3, c4, c5, f0, f1, f2, f3, f4, f5⟩ := zb7.cells
      have hb8 := (((Below.refl w.heap.size w7).setCell (p := ⟨B, 4, none⟩) (by show _ ≤ B; omega) (.int .i64 u)).setCell (p := ⟨B, 5, none⟩) (by show _ ≤ B; omega) (.int .i64 u2))
      have z8 := ((z7.off (p := ⟨B, 4, none⟩) (by show B ≠ _; omega) (.int .i64 u)).off (p := ⟨B, 5, none⟩) (by show B ≠ _; omega) (.int .i64 u2))
      have zb8 := ((zb7.set4 u).set5 u2)
      have o8 := ((o7.setO hlB.out 4 (.int .i64 u)).setO hlB.out 5 (.int .i64 u2))
      have q8 := q7.belowG hb8 hg
      have a8 := a7.trans2 hb8 (Nat.le_refl _)
      obtain ⟨w8, hw8⟩ : ∃ W, W = ((w7.setCell ⟨B, 4, none⟩ (.int .i64 u)).setCell ⟨B, 5, none⟩ (.int .i64 u2)) := ⟨_, rfl⟩
      rw [← hw8] at z8 zb8 o8 q8 a8
      have Hw8 := Lib.hid hw8
      clear hw8 hb8
      clear z7 zb7 o7 q7 a7
      go_upto_region 16 with fail
      rw [← Hw8.out]
      clear c0 c1 c2 c3 c4 c5 f0 f1 f2 f3 f4 f5
      obtain ⟨c0, c1, c2, c3, c4, c5, f0, f1, f2, f3, f4, f5⟩ := zb8.cells
      obtain ⟨e0, e1, e2, e3, e4, e5, g0, g1, g2, g3, g4, g5⟩ := z8.cells
      have hbS := below_set6 (Below.refl w.heap.size w8) (Nat.le_refl _) ed x1 x2 x3 u u2
      have qS := Lib.hid (q8.belowG hbS hg)
      have aS := Lib.hid (a8.trans2 hbS (Nat.le_refl _))
      have zS := Lib.hid (z8.set ed x1 x2 x3 u u2)
      clear hbS q8 a8 z8 zb8
      go_wp2_with fail
      exact Hfin.out _ ed x1 x2 x3 u u2 k7 qS.out aS.out zS.out ⟨by omega, by omega⟩ _ rfl
    · have b0 : ((y5 : Int) == 0) = false := by rw [beq_eq_false_iff_ne]; omega
      have b1 : ((y5 : Int) == 1) = false := by rw [beq_eq_false_iff_ne]; omega
      have b2 : ((y5 : Int) == 2) = false := by rw [beq_eq_false_iff_ne]; omega
      have b3 : ((y5 : Int) == 3) = false := by rw [beq_eq_false_iff_ne]; omega
      obtain ⟨c0, c1, c2, c3, c4, c5, f0, f1, f2, f3, f4, f5⟩ := zb5.cells
      obtain ⟨e0, e1, e2, e3, e4, e5, g0, g1, g2, g3, g4, g5⟩ := z5.cells
      have hbS := below_set6 (Below.refl w.heap.size w5) (Nat.le_refl _) ed x1 x2 x3 x4 x5
      have qS := Lib.hid (q5.belowG hbS hg)
      have aS := Lib.hid (a5.trans2 hbS (Nat.le_refl _))
      have zS := Lib.hid (z5.set ed x1 x2 x3 x4 x5)
      clear hbS q5 a5 z5 zb5
      go_wp2_with fail
      exact Hfin.out _ ed x1 x2 x3 x4 x5 k5 qS.out aS.out zS.out ⟨by omega, by omega⟩ _ rfl
end Go.Proofs.Ytnkbopnmfoplfaa
