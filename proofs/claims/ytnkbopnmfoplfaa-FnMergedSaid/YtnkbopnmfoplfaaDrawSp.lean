/- The draws of spots. -/
import Derived.Test.YtnkbopnmfoplfaaDraw0
import Derived.Test.YtnkbopnmfoplfaaBoxS
import Derived.Deep.DeepCutAuto
set_option linter.unusedSimpArgs false
set_option linter.unusedVariables false
namespace Go.Proofs.Ytnkbopnmfoplfaa
open Go.RowKit Go.Sort

theorem BoxS.apt {w w' : World} {b g : Nat} {x y : Int} (h : BoxS w b x y) (ha : Apg g w w') (hb : g < b) : BoxS w' b x y := (ha.block b h.lt (.inr hb)).trans h
theorem apg_al {g : Nat} {w w' : World} (h : Apg g w w') (o : Obj) : Apg g w (w'.alloc o) := h.next ((Below.refl _ w').alloc (Nat.le_refl _) o)
/-- What a draw of a spot leaves. -/
def DrawnS (w : World) (g : Nat) (v : Value) (code : List Nat) (Q : Int → Int → Nat → Prop) (e : Ending) (w' : World) : Prop :=
  ∃ (x y : Int) (n : Nat), e = .returned (.agg #[.int .i64 x, .int .i64 y]) ∧ CurAt w' g v code n ∧ Apg g w w' ∧ Q x y n
set_option maxRecDepth 100000 in
set_option maxHeartbeats 6400000 in
theorem spot_any (g n : Nat) (v : Value) (code : List Nat) (w : World) (h : CurAt w g v code n) (hn : n ≤ 4611686018427000000) :
    Calls Try.prog 71 #[.pointer (some ⟨g, 0, none⟩)] w (DrawnS w g v code fun x y n' => 0 ≤ x ∧ x ≤ 1280 ∧ 0 ≤ y ∧ y ≤ 672 ∧ n ≤ n' ∧ n' ≤ n + 20) := by
  have hg := h.lt
  have hfin : ∀ (W' : World) (x y : Int) (k : Nat), CurAt W' g v code k → Apg g w W' → BoxS W' w.heap.size x y → 0 ≤ x ∧ x ≤ 1280 ∧ 0 ≤ y ∧ y ≤ 672 ∧ n ≤ k ∧ k ≤ n + 20 →
      ∀ tm : Array Value, tm[2]? = some (.pointer (some ⟨w.heap.size, 0, none⟩)) →
      bodyPost Try.prog Try.f71 (DrawnS w g v code fun x y n' => 0 ≤ x ∧ x ≤ 1280 ∧ 0 ≤ y ∧ y ≤ 672 ∧ n ≤ n' ∧ n' ≤ n + 20) Exit.ret ⟨tm, []⟩ W' := by
    intro W' x y k hW ha hp hq tm t2
    obtain ⟨p0, p1, _, _⟩ := hp.cells
    exact bodyPost_ret (v := .agg #[.int .i64 x, .int .i64 y]) (by simp [results, Try.results71, go_sem, p0, p1, t2]) rfl ⟨x, y, k, rfl, hW, ha, hq⟩
  have Hfin := Lib.hid hfin
  clear hfin
  have z0 := BoxS.new w 0 0
  have a0 : Apg g w (w.alloc (.cells #[.int .i64 0, .int .i64 0] 42)) := apg_al (Apart.refl _ _ _) _
  have q0 := h.belowG ((Below.refl _ w).alloc (Nat.le_refl _) (.cells #[.int .i64 0, .int .i64 0] 42)) hg
  obtain ⟨w0, hw0⟩ : ∃ w0, w0 = w.alloc (.cells #[.int .i64 0, .int .i64 0] 42) := ⟨_, rfl⟩
  have hs0 : w0.heap.size = w.heap.size + 1 := by rw [hw0]; simp
  rw [← hw0] at z0 a0 q0
  have HW := Lib.hid hw0
  have HS := Lib.hid hs0
  clear hw0
  have C1 := Lib.hid (pick_ex g v code 161 n w0 (by omega) (by omega) q0)
  go_enter Try.func71, Try.ntmps71
  go_upto_region 1 with fail
  rw [← HW.out]
  go_wp2_with fail
  refine C1.out.mono ?_; rintro e w1 ⟨y1, k1, rfl, hy1, hk1, hj1, q1, a1⟩
  have C2 := Lib.hid (pick_ex g v code 1281 k1 w1 (by omega) (by omega) q1)
  go_wp2_with fail
  refine C2.out.mono ?_; rintro e w2 ⟨y2, k2, rfl, hy2, hk2, hj2, q2, a2⟩
  have z2 := (z0.apt a1 hg).apt a2 hg
  have a12 := (a0.trans a1).trans a2
  have hs2 := a12.size
  have hg2 := q2.lt
  have q3 := q2.belowG ((Below.refl _ w2).alloc (Nat.le_refl _) (.cells #[.int .i64 0, .int .i64 80, .int .i64 160, .int .i64 640, .int .i64 (8 * (y1 : Int)), .int .i64 y2, .int .i64 1280] 3)) hg2
  have C3 := Lib.hid (among_lit g k2 v (.slice (some ⟨w2.heap.size, 0, none⟩) 7 7) code [0, 80, 160, 640, 8 * (y1 : Int), (y2 : Int), 1280] _ q3 (by omega) (lit7 w2 (g + 1) 0 80 160 640 (8 * (y1 : Int)) (y2 : Int) 1280 (by omega)) (by simp) (by simp) (fun x => 0 ≤ x ∧ x ≤ 1280) (by
    intro x hx
    simp only [List.mem_cons, List.not_mem_nil, or_false] at hx
    omega))
  have z3 := Lib.hid (fun o => z2.al o)
  have a3 := Lib.hid (fun o => apg_al a12 o)
  clear q3 C1 C2 z0 a0 q0 a1 a2 q1
  go_wp2_with fail
  refine C3.out.mono ?_; rintro e w4 ⟨x4, k4, rfl, ⟨x40, x41⟩, hk4, hj4, q4, d4⟩
  have z4 := (z3.out _).apt d4 hg
  have a4 := (a3.out _).trans d4
  clear z3 a3 d4 C3 q2 z2 a12
  have C5 := Lib.hid (pick_ex g v code 85 k4 w4 (by omega) (by omega) q4)
  go_wp2_with fail
  refine C5.out.mono ?_; rintro e w5 ⟨y5, k5, rfl, hy5, hk5, hj5, q5, a5⟩
  have C6 := Lib.hid (pick_ex g v code 673 k5 w5 (by omega) (by omega) q5)
  go_wp2_with fail
  refine C6.out.mono ?_; rintro e w6 ⟨y6, k6, rfl, hy6, hk6, hj6, q6, a6⟩
  have z6 := (z4.apt a5 hg).apt a6 hg
  have a66 := (a4.trans a5).trans a6
  have hs6 := a66.size
  have hg6 := q6.lt
  have q7 := q6.belowG ((Below.refl _ w6).alloc (Nat.le_refl _) (.cells #[.int .i64 0, .int .i64 80, .int .i64 336, .int .i64 (8 * (y5 : Int)), .int .i64 y6, .int .i64 672] 3)) hg6
  have C7 := Lib.hid (among_lit g k6 v (.slice (some ⟨w6.heap.size, 0, none⟩) 6 6) code [0, 80, 336, 8 * (y5 : Int), (y6 : Int), 672] _ q7 (by omega) (lit6 w6 (g + 1) 0 80 336 (8 * (y5 : Int)) (y6 : Int) 672 (by omega)) (by simp) (by simp) (fun x => 0 ≤ x ∧ x ≤ 672) (by
    intro x hx
    simp only [List.mem_cons, List.not_mem_nil, or_false] at hx
    omega))
  have z7 := Lib.hid (fun o => z6.al o)
  have a7 := Lib.hid (fun o => apg_al a66 o)
  clear q7 C5 C6 z4 a4 q4 a5 a6 q5
  go_wp2_with fail
  refine C7.out.mono ?_; rintro e w8 ⟨x8, k8, rfl, ⟨x80, x81⟩, hk8, hj8, q8, d8⟩
  have z8 := (z7.out _).apt d8 hg
  have a8 := (a7.out _).trans d8
  clear z7 a7 d8 C7 q6 z6 a66
  obtain ⟨c0, c1, f0, f1⟩ := z8.cells
  have hbS := below_set2 (Below.refl w.heap.size w8) (Nat.le_refl _) (.int .i64 x4) (.int .i64 x8)
  have qS := Lib.hid (q8.belowG hbS hg)
  have aS := Lib.hid (a8.trans2 hbS (Nat.le_refl _))
  have zS := Lib.hid (z8.set x4 x8)
  clear q8 a8 z8 hbS
  go_wp2_with fail
  exact Hfin.out _ x4 x8 k8 qS.out aS.out zS.out ⟨by omega, by omega, by omega, by omega, by omega, by omega⟩ _ rfl
end Go.Proofs.Ytnkbopnmfoplfaa
