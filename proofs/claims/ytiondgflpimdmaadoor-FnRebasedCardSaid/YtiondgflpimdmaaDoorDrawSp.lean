/- The draws of spots. -/
import Derived.Test.YtiondgflpimdmaaDoorDraw0
import Derived.Test.YtiondgflpimdmaaDoorBoxS
import Derived.Deep.DeepCutAuto
set_option linter.unusedSimpArgs false
set_option linter.unusedVariables false
namespace Go.Proofs.YtiondgflpimdmaaDoor
open Go.RowKit Go.Sort

theorem BoxS.apt {w w' : World} {b g : Nat} {x y : Int} (h : BoxS w b x y) (ha : Apg g w w') (hb : g < b) : BoxS w' b x y := (ha.block b h.lt (.inr hb)).trans h
theorem apg_al {g : Nat} {w w' : World} (h : Apg g w w') (o : Obj) : Apg g w (w'.alloc o) := h.next ((Below.refl _ w').alloc (Nat.le_refl _) o)
/-- What a draw of a spot leaves. -/
def DrawnS (w : World) (g : Nat) (v : Value) (code : List Nat) (Q : Int → Int → Nat → Prop) (e : Ending) (w' : World) : Prop :=
  ∃ (x y : Int) (n : Nat), e = .returned (.agg #[.int .i64 x, .int .i64 y]) ∧ CurAt w' g v code n ∧ Apg g w w' ∧ Q x y n
set_option maxRecDepth 100000 in
set_option maxHeartbeats 6400000 in
theorem spot_any (g n : Nat) (v : Value) (code : List Nat) (w : World) (h : CurAt w g v code n) (hn : n ≤ 4611686018427000000) :
    Calls Tryd.prog 78 #[.pointer (some ⟨g, 0, none⟩)] w (DrawnS w g v code fun x y n' => 0 ≤ x ∧ x ≤ 1280 ∧ 0 ≤ y ∧ y ≤ 672 ∧ n ≤ n' ∧ n' ≤ n + 20) := by
  have hg := h.lt
  have hfin : ∀ (W' : World) (x y : Int) (k : Nat), CurAt W' g v code k → Apg g w W' → BoxS W' w.heap.size x y → 0 ≤ x ∧ x ≤ 1280 ∧ 0 ≤ y ∧ y ≤ 672 ∧ n ≤ k ∧ k ≤ n + 20 →
      ∀ tm : Array Value, tm[2]? = some (.pointer (some ⟨w.heap.size, 0, none⟩)) →
      bodyPost Tryd.prog Tryd.f78 (DrawnS w g v code fun x y n' => 0 ≤ x ∧ x ≤ 1280 ∧ 0 ≤ y ∧ y ≤ 672 ∧ n ≤ n' ∧ n' ≤ n + 20) Exit.ret ⟨tm, []⟩ W' := by
    intro W' x y k hW ha hp hq tm t2
    obtain ⟨p0, p1, _, _⟩ := hp.cells
    exact bodyPost_ret (v := .agg #[.int .i64 x, .int .i64 y]) (by simp [results, Tryd.results78, go_sem, p0, p1, t2]) rfl ⟨x, y, k, rfl, hW, ha, hq⟩
  have Hfin := Lib.hid hfin
  clear hfin
  have z0 := BoxS.new w 0 0
  have a0 : Apg g w (w.alloc (.cells #[.int .i64 0, .int .i64 0] 39)) := apg_al (Apart.refl _ _ _) _
  have q0 := h.belowG ((Below.refl _ w).alloc (Nat.le_refl _) (.cells #[.int .i64 0, .int .i64 0] 39)) hg
  obtain ⟨w0, hw0⟩ : ∃ w0, w0 = w.alloc (.cells #[.int .i64 0, .int .i64 0] 39) := ⟨_, rfl⟩
  have hs0 : w0.heap.size = w.heap.size + 1 := by rw [hw0]; simp
  rw [← hw0] at z0 a0 q0
  have HW := Lib.hid hw0
  have HS := Lib.hid hs0
  clear hw0
  have C1 := Lib.hid (pick_ex g v code 161 n w0 (by omega) (by omega) q0)
  go_enter Tryd.func78, Tryd.ntmps78
  go_upto_region 1 with fail
  rw [← HW.out]
  go_wp2_with fail
  refine C1.out.mono ?_; rintro e w1 ⟨y1, k1, rfl, hy1, hk1, hj1, q1, a1⟩
  have C2 := Lib.hid (pick_ex g v code 1281 k1 w1 (by omega) (by omega) q1)
  go_wp2_with fail
  refine C2.out.mono ?_; rintro e w2 ⟨y2, k2, rfl, hy2, hk2, hj2, q2, a2⟩
  have z2 := (z0.apt a1 hg).apt a2 hg
  have a12 := (a0.trans a1).trans a2
  have hs2 := a12.size
  have hg2 := q2.lt
  have q3 := q2.belowG ((Below.refl _ w2).alloc (Nat.le_refl _) (.cells #[.int .i64 0, .int .i64 80, .int .i64 160, .int .i64 640, .int .i64 (8 * (y1 : Int)), .int .i64 y2, .int .i64 1280] 3)) hg2
  have C3 := Lib.hid (among_lit g k2 v (.slice (some ⟨w2.heap.size, 0, none⟩) 7 7) code [0, 80, 160, 640, 8 * (y1 : Int), (y2 : Int), 1280] _ q3 (by omega) (lit7 w2 (g + 1) 0 80 160 640 (8 * (y1 : Int)) (y2 : Int) 1280 (by omega)) (by simp) (by simp) (fun x => 0 ≤ x ∧ x ≤ 1280) (by
    intro x hx
    simp only [List.mem_cons, List.not_mem_nil, or_false] at hx
    omega))
  have z3 := Lib.hid (fun o => z2.al o)
  have a3 := Lib.hid (fun o => apg_al a12 o)
  clear q3 C1 C2 z0 a0 q0 a1 a2 q1
  go_wp2_with fail
  refine C3.out.mono ?_; rintro e w4 ⟨x4, k4, rfl, ⟨x40, x41⟩, hk4, hj4, q4, d4⟩
  have z4 := (z3.out _).apt d4 hg
  have a4 := (a3.out _).trans d4
  clear z3 a3 d4 C3 q2 z2 a12
  have C5 := Lib.hid (pick_ex g v code 85 k4 w4 (by omega) (by omega) q4)
  go_wp2_with fail
  refine C5.out.mono ?_; rintro e w5 ⟨y5, k5, rfl, hy5, hk5, hj5, q5, a5⟩
  have C6 := Lib.hid (pick_ex g v code 673 k5 w5 (by omega) (by omega) q5)
  go_wp2_with fail
  refine C6.out.mono ?_; rintro e w6 ⟨y6, k6, rfl, hy6, hk6, hj6, q6, a6⟩
  have z6 := (z4.apt a5 hg).apt a6 hg
  have a66 := (a4.trans a5).trans a6
  have hs6 := a66.size
  have hg6 := q6.lt
  have q7 := q6.belowG ((Below.refl _ w6).alloc (Nat.le_refl _) (.cells #[.int .i64 0, .int .i64 80, .int .i64 336, .int .i64 (8 * (y5 : Int)), .int .i64 y6, .int .i64 672] 3)) hg6
  have C7 := Lib.hid (among_lit g k6 v (.slice (some ⟨w6.heap.size, 0, none⟩) 6 6) code [0, 80, 336, 8 * (y5 : Int), (y6 : Int), 672] _ q7 (by omega) (lit6 w6 (g + 1) 0 80 336 (8 * (y5 : Int)) (y6 : Int) 672 (by omega)) (by simp) (by simp) (fun x => 0 ≤ x ∧ x ≤ 672) (by
    intro x hx
    simp only [List.mem_cons, List.not_mem_nil, or_false] at hx
    omega))
  have z7 := Lib.hid (fun o => z6.al o)
  have a7 := Lib.hid (fun o => apg_al a66 o)
  clear q7 C5 C6 z4 a4 q4 a5 a6 q5
  go_wp2_with fail
  refine C7.out.mono ?_; rintro e w8 ⟨x8, k8, rfl, ⟨x80, x81⟩, hk8, hj8, q8, d8⟩
  have z8 := (z7.out _).apt d8 hg
  have a8 := (a7.out _).trans d8
  clear z7 a7 d8 C7 q6 z6 a66
  obtain ⟨c0, c1, f0, f1⟩ := z8.cells
  have hbS := below_set2 (Below.refl w.heap.size w8) (Nat.le_refl _) (.int .i64 x4) (.int .i64 x8)
  have qS := Lib.hid (q8.belowG hbS hg)
  have aS := Lib.hid (a8.trans2 hbS (Nat.le_refl _))
  have zS := Lib.hid (z8.set x4 x8)
  clear q8 a8 z8 hbS
  go_wp2_with fail
  exact Hfin.out _ x4 x8 k8 qS.out aS.out zS.out ⟨by omega, by omega, by omega, by omega, by omega, by omega⟩ _ rfl
end Go.Proofs.YtiondgflpimdmaaDoor
/- The draws of spots: anySpot. -/
set_option linter.unusedSimpArgs false
set_option linter.unusedVariables false
namespace Go.Proofs.YtiondgflpimdmaaDoor
open Go.RowKit Go.Sort

theorem BoxS.set0 {w : World} {b : Nat} {x y : Int} (h : BoxS w b x y) (x' : Int) : BoxS (w.setCell ⟨b, 0, none⟩ (.int .i64 x')) b x' y := heap_setCell_same w b 0 _ _ _ h
theorem BoxS.set1 {w : World} {b : Nat} {x y : Int} (h : BoxS w b x y) (y' : Int) : BoxS (w.setCell ⟨b, 1, none⟩ (.int .i64 y')) b x y' := heap_setCell_same w b 1 _ _ _ h
theorem BoxS.off {w : World} {b : Nat} {x y : Int} (h : BoxS w b x y) {p : Addr} (hp : p.block ≠ b) (u : Value) : BoxS (w.setCell p u) b x y := (heap_setCell_other w p b u (fun e => hp e.symm)).trans h
set_option maxRecDepth 100000 in
set_option maxHeartbeats 6400000 in
theorem anySpot_any (g n : Nat) (v : Value) (code : List Nat) (w : World) (h : CurAt w g v code n) (hn : n ≤ 4611686018426000000) :
    Calls Tryd.prog 76 #[.pointer (some ⟨g, 0, none⟩)] w (DrawnS w g v code fun x y n' => n ≤ n' ∧ n' ≤ n + 40) := by
  have hg := h.lt
  have hfin : ∀ (W' : World) (x y : Int) (k : Nat), CurAt W' g v code k → Apg g w W' → BoxS W' w.heap.size x y → n ≤ k ∧ k ≤ n + 40 →
      ∀ tm : Array Value, tm[2]? = some (.pointer (some ⟨w.heap.size, 0, none⟩)) →
      bodyPost Tryd.prog Tryd.f76 (DrawnS w g v code fun x y n' => n ≤ n' ∧ n' ≤ n + 40) Exit.ret ⟨tm, []⟩ W' := by
    intro W' x y k hW ha hp hq tm t2
    obtain ⟨p0, p1, _, _⟩ := hp.cells
    exact bodyPost_ret (v := .agg #[.int .i64 x, .int .i64 y]) (by simp [results, Tryd.results76, go_sem, p0, p1, t2]) rfl ⟨x, y, k, rfl, hW, ha, hq⟩
  have Hfin := Lib.hid hfin
  clear hfin
  have z0 := BoxS.new w 0 0
  have a0 : Apg g w (w.alloc (.cells #[.int .i64 0, .int .i64 0] 39)) := apg_al (Apart.refl _ _ _) _
  have q0 := h.belowG ((Below.refl _ w).alloc (Nat.le_refl _) (.cells #[.int .i64 0, .int .i64 0] 39)) hg
  obtain ⟨w0, hw0⟩ : ∃ w0, w0 = w.alloc (.cells #[.int .i64 0, .int .i64 0] 39) := ⟨_, rfl⟩
  have hs0 : w0.heap.size = w.heap.size + 1 := by rw [hw0]; simp
  rw [← hw0] at z0 a0 q0
  have HW := Lib.hid hw0
  clear hw0
  have C1 := Lib.hid (spot_any g n v code w0 q0 (by omega))
  go_enter Tryd.func76, Tryd.ntmps76
  go_upto_region 1 with fail
  rw [← HW.out]
  go_wp2_with fail
  refine C1.out.mono ?_; rintro e w1 ⟨x, y, k1, rfl, q1, a1, x0, x1, y0, y1, hk1, hj1⟩
  have z1 := (z0.apt a1 hg).al (.cells #[.int .i64 x, .int .i64 y] 39)
  have a01 := apg_al (a0.trans a1) (.cells #[.int .i64 x, .int .i64 y] 39)
  have hg1 := q1.lt
  have hs1 : w.heap.size < w1.heap.size := by have := a1.size; omega
  have q1a := q1.belowG ((Below.refl _ w1).alloc (Nat.le_refl _) (.cells #[.int .i64 x, .int .i64 y] 39)) hg1
  have zb := BoxS.new w1 x y
  obtain ⟨w2, hw2⟩ : ∃ w2, w2 = w1.alloc (.cells #[.int .i64 x, .int .i64 y] 39) := ⟨_, rfl⟩
  rw [← hw2] at z1 a01 q1a zb
  have HW2 := Lib.hid hw2
  obtain ⟨B, hB⟩ : ∃ B, B = w1.heap.size := ⟨_, rfl⟩
  rw [← hB] at zb hs1
  have HB := Lib.hid hB
  clear hw2 hB
  have C2 := Lib.hid (pick_ex g v code 30 k1 w2 (by omega) (by omega) q1a)
  clear C1 a1 q1 hs0 z0 a0 q0 hg1
  go_upto_region 2 with fail
  rw [← HW2.out, ← HB.out]
  go_wp2_with fail
  refine C2.out.mono ?_; rintro e w3 ⟨p, k3, rfl, hp, hk3, hj3, q3, a3⟩
  have hgB : g < B := by omega
  have z3 := z1.apt a3 hg
  have zb3 := zb.apt a3 hgB
  have a33 := a01.trans a3
  have hs3 := a33.size
  clear C2 z1 zb a01 a3 q1a
  have hp3 : p = 0 ∨ p = 1 ∨ 2 ≤ p := by omega
  rcases hp3 with rfl | rfl | hp3
  · have hg3 := q3.lt
    have q4 := q3.belowG ((Below.refl _ w3).alloc (Nat.le_refl _) (.cells #[.int .i64 (-1), .int .i64 1281] 3)) hg3
    have C4 := Lib.hid (among_lit g k3 v (.slice (some ⟨w3.heap.size, 0, none⟩) 2 2) code [-1, 1281] _ q4 (by omega) (lit2 w3 (g + 1) (-1) 1281 (by omega)) (by simp) (by simp) (fun _ => True) (fun _ _ => trivial))
    have z4 := Lib.hid (fun o => z3.al o)
    have zb4 := Lib.hid (fun o => zb3.al o)
    have a4 := Lib.hid (fun o => apg_al a33 o)
    clear q4 z3 zb3 a33
    obtain ⟨c0, c1, c2, c3⟩ := (zb4.out (.cells #[.int .i64 (-1), .int .i64 1281] 3)).cells
    go_wp2_with fail
    refine C4.out.mono ?_; rintro e w5 ⟨u, k5, rfl, _, hk5, hj5, q5, d5⟩
    have z5 := (z4.out _).apt d5 hg
    have zb5 := (zb4.out _).apt d5 hgB
    have a5 := (a4.out _).trans d5
    clear z4 zb4 a4 d5 C4 q3 c0 c1 c2 c3
    obtain ⟨c0, c1, c2, c3⟩ := zb5.cells
    have hb6 := (Below.refl w.heap.size w5).setCell (p := ⟨B, 0, none⟩) (by show _ ≤ B; omega) (.int .i64 u)
    have z6 := z5.off (p := ⟨B, 0, none⟩) (by show B ≠ _; omega) (.int .i64 u)
    have zb6 := zb5.set0 u
    have q6 := q5.belowG hb6 hg
    have a6 := a5.trans2 hb6 (Nat.le_refl _)
    obtain ⟨w6, hw6⟩ : ∃ w6, w6 = w5.setCell ⟨B, 0, none⟩ (.int .i64 u) := ⟨_, rfl⟩
    rw [← hw6] at z6 zb6 q6 a6
    have HW6 := Lib.hid hw6
    clear hw6 hb6 z5 zb5 q5 a5
    go_upto_region 7 with fail
    rw [← HW6.out]
    obtain ⟨d0, d1, _, _⟩ := zb6.cells
    obtain ⟨e0, e1, f0, f1⟩ := z6.cells
    have hbS := below_set2 (Below.refl w.heap.size w6) (Nat.le_refl _) (.int .i64 u) (.int .i64 y)
    have qS := Lib.hid (q6.belowG hbS hg)
    have aS := Lib.hid (a6.trans2 hbS (Nat.le_refl _))
    have zS := Lib.hid (z6.set u y)
    clear q6 a6 z6 zb6 hbS
    go_wp2_with fail
    exact Hfin.out _ u y k5 qS.out aS.out zS.out ⟨by omega, by omega⟩ _ rfl
  · have hg3 := q3.lt
    have q4 := q3.belowG ((Below.refl _ w3).alloc (Nat.le_refl _) (.cells #[.int .i64 (-1), .int .i64 673] 3)) hg3
    have C4 := Lib.hid (among_lit g k3 v (.slice (some ⟨w3.heap.size, 0, none⟩) 2 2) code [-1, 673] _ q4 (by omega) (lit2 w3 (g + 1) (-1) 673 (by omega)) (by simp) (by simp) (fun _ => True) (fun _ _ => trivial))
    have z4 := Lib.hid (fun o => z3.al o)
    have zb4 := Lib.hid (fun o => zb3.al o)
    have a4 := Lib.hid (fun o => apg_al a33 o)
    clear q4 z3 zb3 a33
    obtain ⟨c0, c1, c2, c3⟩ := (zb4.out (.cells #[.int .i64 (-1), .int .i64 673] 3)).cells
    go_wp2_with fail
    refine C4.out.mono ?_; rintro e w5 ⟨u, k5, rfl, _, hk5, hj5, q5, d5⟩
    have z5 := (z4.out _).apt d5 hg
    have zb5 := (zb4.out _).apt d5 hgB
    have a5 := (a4.out _).trans d5
    clear z4 zb4 a4 d5 C4 q3 c0 c1 c2 c3
    obtain ⟨c0, c1, c2, c3⟩ := zb5.cells
    have hb6 := (Below.refl w.heap.size w5).setCell (p := ⟨B, 1, none⟩) (by show _ ≤ B; omega) (.int .i64 u)
    have z6 := z5.off (p := ⟨B, 1, none⟩) (by show B ≠ _; omega) (.int .i64 u)
    have zb6 := zb5.set1 u
    have q6 := q5.belowG hb6 hg
    have a6 := a5.trans2 hb6 (Nat.le_refl _)
    obtain ⟨w6, hw6⟩ : ∃ w6, w6 = w5.setCell ⟨B, 1, none⟩ (.int .i64 u) := ⟨_, rfl⟩
    rw [← hw6] at z6 zb6 q6 a6
    have HW6 := Lib.hid hw6
    clear hw6 hb6 z5 zb5 q5 a5
    go_upto_region 7 with fail
    rw [← HW6.out]
    obtain ⟨d0, d1, _, _⟩ := zb6.cells
    obtain ⟨e0, e1, f0, f1⟩ := z6.cells
    have hbS := below_set2 (Below.refl w.heap.size w6) (Nat.le_refl _) (.int .i64 x) (.int .i64 u)
    have qS := Lib.hid (q6.belowG hbS hg)
    have aS := Lib.hid (a6.trans2 hbS (Nat.le_refl _))
    have zS := Lib.hid (z6.set x u)
    clear q6 a6 z6 zb6 hbS
    go_wp2_with fail
    exact Hfin.out _ x u k5 qS.out aS.out zS.out ⟨by omega, by omega⟩ _ rfl
  · have b0 : ((p : Int) == 0) = false := by rw [beq_eq_false_iff_ne]; omega
    have b1 : ((p : Int) == 1) = false := by rw [beq_eq_false_iff_ne]; omega
    obtain ⟨d0, d1, _, _⟩ := zb3.cells
    obtain ⟨e0, e1, f0, f1⟩ := z3.cells
    have hbS := below_set2 (Below.refl w.heap.size w3) (Nat.le_refl _) (.int .i64 x) (.int .i64 y)
    have qS := Lib.hid (q3.belowG hbS hg)
    have aS := Lib.hid (a33.trans2 hbS (Nat.le_refl _))
    have zS := Lib.hid (z3.set x y)
    clear q3 a33 z3 zb3 hbS
    go_wp2_with fail
    exact Hfin.out _ x y k3 qS.out aS.out zS.out ⟨by omega, by omega⟩ _ rfl
end Go.Proofs.YtiondgflpimdmaaDoor
