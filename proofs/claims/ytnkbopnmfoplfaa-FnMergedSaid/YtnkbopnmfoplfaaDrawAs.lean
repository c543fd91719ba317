/- The draws of spots: anySpot. -/
import Derived.Test.YtnkbopnmfoplfaaDrawSp
set_option linter.unusedSimpArgs false
set_option linter.unusedVariables false
namespace Go.Proofs.Ytnkbopnmfoplfaa
open Go.RowKit Go.Sort

theorem BoxS.set0 {w : World} {b : Nat} {x y : Int} (h : BoxS w b x y) (x' : Int) : BoxS (w.setCell ⟨b, 0, none⟩ (.int .i64 x')) b x' y := heap_setCell_same w b 0 _ _ _ h
theorem BoxS.set1 {w : World} {b : Nat} {x y : Int} (h : BoxS w b x y) (y' : Int) : BoxS (w.setCell ⟨b, 1, none⟩ (.int .i64 y')) b x y' := heap_setCell_same w b 1 _ _ _ h
theorem BoxS.off {w : World} {b : Nat} {x y : Int} (h : BoxS w b x y) {p : Addr} (hp : p.block ≠ b) (u : Value) : BoxS (w.setCell p u) b x y := (heap_setCell_other w p b u (fun e => hp e.symm)).trans h
set_option maxRecDepth 100000 in
set_option maxHeartbeats 6400000 in
theorem anySpot_any (g n : Nat) (v : Value) (code : List Nat) (w : World) (h : CurAt w g v code n) (hn : n ≤ 4611686018426000000) :
    Calls Try.prog 66 #[.pointer (some ⟨g, 0, none⟩)] w (DrawnS w g v code fun x y n' => n ≤ n' ∧ n' ≤ n + 40) := by
  have hg := h.lt
  have hfin : ∀ (W' : World) (x y : Int) (k : Nat), CurAt W' g v code k → Apg g w W' → BoxS W' w.heap.size x y → n ≤ k ∧ k ≤ n + 40 →
      ∀ tm : Array Value, tm[2]? = some (.pointer (some ⟨w.heap.size, 0, none⟩)) →
      bodyPost Try.prog Try.f66 (DrawnS w g v code fun x y n' => n ≤ n' ∧ n' ≤ n + 40) Exit.ret ⟨tm, []⟩ W' := by
    intro W' x y k hW ha hp hq tm t2
    obtain ⟨p0, p1, _, _⟩ := hp.cells
    exact bodyPost_ret (v := .agg #[.int .i64 x, .int .i64 y]) (by simp [results, Try.results66, go_sem, p0, p1, t2]) rfl ⟨x, y, k, rfl, hW, ha, hq⟩
  have Hfin := Lib.hid hfin
  clear hfin
  have z0 := BoxS.new w 0 0
  have a0 : Apg g w (w.alloc (.cells #[.int .i64 0, .int .i64 0] 42)) := apg_al (Apart.refl _ _ _) _
  have q0 := h.belowG ((Below.refl _ w).alloc (Nat.le_refl _) (.cells #[.int .i64 0, .int .i64 0] 42)) hg
  obtain ⟨w0, hw0⟩ : ∃ w0, w0 = w.alloc (.cells #[.int .i64 0, .int .i64 0] 42) := ⟨_, rfl⟩
  have hs0 : w0.heap.size = w.heap.size + 1 := by rw [hw0]; simp
  rw [← hw0] at z0 a0 q0
  have HW := Lib.hid hw0
  clear hw0
  have C1 := Lib.hid (spot_any g n v code w0 q0 (by omega))
  go_enter Try.func66, Try.ntmps66
  go_upto_region 1 with fail
  rw [← HW.out]
  go_wp2_with fail
  refine C1.out.mono ?_; rintro e w1 ⟨x, y, k1, rfl, q1, a1, x0, x1, y0, y1, hk1, hj1⟩
  have z1 := (z0.apt a1 hg).al (.cells #[.int .i64 x, .int .i64 y] 42)
  have a01 := apg_al (a0.trans a1) (.cells #[.int .i64 x, .int .i64 y] 42)
  have hg1 := q1.lt
  have hs1 : w.heap.size < w1.heap.size := by have := a1.size; omega
  have q1a := q1.belowG ((Below.refl _ w1).alloc (Nat.le_refl _) (.cells #[.int .i64 x, .int .i64 y] 42)) hg1
  have zb := BoxS.new w1 x y
  obtain ⟨w2, hw2⟩ : ∃ w2, w2 = w1.alloc (.cells #[.int .i64 x, .int .i64 y] 42) := ⟨_, rfl⟩
  rw [← hw2] at z1 a01 q1a zb
  have HW2 := Lib.hid hw2
  obtain ⟨B, hB⟩ : ∃ B, B = w1.heap.size := ⟨_, rfl⟩
  rw [← hB] at zb hs1
  have HB := Lib.hid hB
  clear hw2 hB
  have C2 := Lib.hid (pick_ex g v code 30 k1 w2 (by omega) (by omega) q1a)
  clear C1 a1 q1 hs0 z0 a0 q0 hg1
  go_upto_region 2 with fail
  rw [← HW2.out, ← HB.out]
  go_wp2_with fail
  refine C2.out.mono ?_; rintro e w3 ⟨p, k3, rfl, hp, hk3, hj3, q3, a3⟩
  have hgB : g < B := by omega
  have z3 := z1.apt a3 hg
  have zb3 := zb.apt a3 hgB
  have a33 := a01.trans a3
  have hs3 := a33.size
  clear C2 z1 zb a01 a3 q1a
  have hp3 : p = 0 ∨ p = 1 ∨ 2 ≤ p := by omega
  rcases hp3 with rfl | rfl | hp3
  · have hg3 := q3.lt
    have q4 := q3.belowG ((Below.refl _ w3).alloc (Nat.le_refl _) (.cells #[.int .i64 (-1), .int .i64 1281] 3)) hg3
    have C4 := Lib.hid (among_lit g k3 v (.slice (some ⟨w3.heap.size, 0, none⟩) 2 2) code [-1, 1281] _ q4 (by omega) (lit2 w3 (g + 1) (-1) 1281 (by omega)) (by simp) (by simp) (fun _ => True) (fun _ _ => trivial))
    have z4 := Lib.hid (fun o => z3.al o)
    have zb4 := Lib.hid (fun o => zb3.al o)
    have a4 := Lib.hid (fun o => apg_al a33 o)
    clear q4 z3 zb3 a33
    obtain ⟨c0, c1, c2, c3⟩ := (zb4.out (.cells #[.int .i64 (-1), .int .i64 1281] 3)).cells
    go_wp2_with fail
    refine C4.out.mono ?_; rintro e w5 ⟨u, k5, rfl, _, hk5, hj5, q5, d5⟩
    have z5 := (z4.out _).apt d5 hg
    have zb5 := (zb4.out _).apt d5 hgB
    have a5 := (a4.out _).trans d5
    clear z4 zb4 a4 d5 C4 q3 c0 c1 c2 c3
    obtain ⟨c0, c1, c2, c3⟩ := zb5.cells
    have hb6 := (Below.refl w.heap.size w5).setCell (p := ⟨B, 0, none⟩) (by show _ ≤ B; omega) (.int .i64 u)
    have z6 := z5.off (p := ⟨B, 0, none⟩) (by show B ≠ _; omega) (.int .i64 u)
    have zb6 := zb5.set0 u
    have q6 := q5.belowG hb6 hg
    have a6 := a5.trans2 hb6 (Nat.le_refl _)
    obtain ⟨w6, hw6⟩ : ∃ w6, w6 = w5.setCell ⟨B, 0, none⟩ (.int .i64 u) := ⟨_, rfl⟩
    rw [← hw6] at z6 zb6 q6 a6
    have HW6 := Lib.hid hw6
    clear hw6 hb6 z5 zb5 q5 a5
    go_upto_region 7 with fail
    rw [← HW6.out]
    obtain ⟨d0, d1, _, _⟩ := zb6.cells
    obtain ⟨e0, e1, f0, f1⟩ := z6.cells
    have hbS := below_set2 (Below.refl w.heap.size w6) (Nat.le_refl _) (.int .i64 u) (.int .i64 y)
    have qS := Lib.hid (q6.belowG hbS hg)
    have aS := Lib.hid (a6.trans2 hbS (Nat.le_refl _))
    have zS := Lib.hid (z6.set u y)
    clear q6 a6 z6 zb6 hbS
    go_wp2_with fail
    exact Hfin.out _ u y k5 qS.out aS.out zS.out ⟨by omega, by omega⟩ _ rfl
  · have hg3 := q3.lt
    have q4 := q3.belowG ((Below.refl _ w3).alloc (Nat.le_refl _) (.cells #[.int .i64 (-1), .int .i64 673] 3)) hg3
    have C4 := Lib.hid (among_lit g k3 v (.slice (some ⟨w3.heap.size, 0, none⟩) 2 2) code [-1, 673] _ q4 (by omega) (lit2 w3 (g + 1) (-1) 673 (by omega)) (by simp) (by simp) (fun _ => True) (fun _ _ => trivial))
    have z4 := Lib.hid (fun o => z3.al o)
    have zb4 := Lib.hid (fun o => zb3.al o)
    have a4 := Lib.hid (fun o => apg_al a33 o)
    clear q4 z3 zb3 a33
    obtain ⟨c0, c1, c2, c3⟩ := (zb4.out (.cells #[.int .i64 (-1), .int .i64 673] 3)).cells
    go_wp2_with fail
    refine C4.out.mono ?_; rintro e w5 ⟨u, k5, rfl, _, hk5, hj5, q5, d5⟩
    have z5 := (z4.out _).apt d5 hg
    have zb5 := (zb4.out _).apt d5 hgB
    have a5 := (a4.out _).trans d5
    clear z4 zb4 a4 d5 C4 q3 c0 c1 c2 c3
    obtain ⟨c0, c1, c2, c3⟩ := zb5.cells
    have hb6 := (Below.refl w.heap.size w5).setCell (p := ⟨B, 1, none⟩) (by show _ ≤ B; omega) (.int .i64 u)
    have z6 := z5.off (p := ⟨B, 1, none⟩) (by show B ≠ _; omega) (.int .i64 u)
    have zb6 := zb5.set1 u
    have q6 := q5.belowG hb6 hg
    have a6 := a5.trans2 hb6 (Nat.le_refl _)
    obtain ⟨w6, hw6⟩ : ∃ w6, w6 = w5.setCell ⟨B, 1, none⟩ (.int .i64 u) := ⟨_, rfl⟩
    rw [← hw6] at z6 zb6 q6 a6
    have HW6 := Lib.hid hw6
    clear hw6 hb6 z5 zb5 q5 a5
    go_upto_region 7 with fail
    rw [← HW6.out]
    obtain ⟨d0, d1, _, _⟩ := zb6.cells
    obtain ⟨e0, e1, f0, f1⟩ := z6.cells
    have hbS := below_set2 (Below.refl w.heap.size w6) (Nat.le_refl _) (.int .i64 x) (.int .i64 u)
    have qS := Lib.hid (q6.belowG hbS hg)
    have aS := Lib.hid (a6.trans2 hbS (Nat.le_refl _))
    have zS := Lib.hid (z6.set x u)
    clear q6 a6 z6 zb6 hbS
    go_wp2_with fail
    exact Hfin.out _ x u k5 qS.out aS.out zS.out ⟨by omega, by omega⟩ _ rfl
  · have b0 : ((p : Int) == 0) = false := by rw [beq_eq_false_iff_ne]; omega
    have b1 : ((p : Int) == 1) = false := by rw [beq_eq_false_iff_ne]; omega
    obtain ⟨d0, d1, _, _⟩ := zb3.cells
    obtain ⟨e0, e1, f0, f1⟩ := z3.cells
    have hbS := below_set2 (Below.refl w.heap.size w3) (Nat.le_refl _) (.int .i64 x) (.int .i64 y)
    have qS := Lib.hid (q3.belowG hbS hg)
    have aS := Lib.hid (a33.trans2 hbS (Nat.le_refl _))
    have zS := Lib.hid (z3.set x y)
    clear q3 a33 z3 zb3 hbS
    go_wp2_with fail
    exact Hfin.out _ x y k3 qS.out aS.out zS.out ⟨by omega, by omega⟩ _ rfl
end Go.Proofs.Ytnkbopnmfoplfaa
