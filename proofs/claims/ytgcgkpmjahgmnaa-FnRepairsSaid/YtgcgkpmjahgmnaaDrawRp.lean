/- The draws of a transition to repair and of a least distance. -/
import Derived.Test.YtgcgkpmjahgmnaaDrawTr
import Derived.Deep.RegionHeld3
set_option linter.unusedSimpArgs false
set_option linter.unusedVariables false
namespace Go.Proofs.Ytgcgkpmjahgmnaa
open Go.RowKit Go.Sort

theorem BoxT.put0 {ty : Nat} {w : World} {b : Nat} {f t : Value} {c : Int} {p : Value} (h : BoxT ty w b f t c p) (u : Value) : BoxT ty (w.setCell ⟨b, 0, none⟩ u) b u t c p := heap_setCell_same w b 0 _ _ _ h
theorem BoxT.put1 {ty : Nat} {w : World} {b : Nat} {f t : Value} {c : Int} {p : Value} (h : BoxT ty w b f t c p) (u : Value) : BoxT ty (w.setCell ⟨b, 1, none⟩ u) b f u c p := heap_setCell_same w b 1 _ _ _ h
theorem BoxT.put2 {ty : Nat} {w : World} {b : Nat} {f t : Value} {c : Int} {p : Value} (h : BoxT ty w b f t c p) (u : Int) : BoxT ty (w.setCell ⟨b, 2, none⟩ (.int .i64 u)) b f t u p := heap_setCell_same w b 2 _ _ _ h
theorem BoxT.put3 {ty : Nat} {w : World} {b : Nat} {f t : Value} {c : Int} {p : Value} (h : BoxT ty w b f t c p) (u : Value) : BoxT ty (w.setCell ⟨b, 3, none⟩ u) b f t c u := heap_setCell_same w b 3 _ _ _ h
theorem ownsRow_off1 {w : World} {base e sz n : Nat} {v : Value} {xs : List Value} (h : w.ownsRow base e sz v n xs) {b : Nat} (hb : b < base) (o : Nat) (x : Value) : (w.setCell ⟨b, o, none⟩ x).ownsRow base e sz v n xs := World.ownsRow.kept h (grown_set8 w b o x) (ne_of_lo h hb)
theorem OwnRow.off1 {α : Type} {R : Rec α} {w : World} {base : Nat} {v : Value} {l : List α} (h : OwnRow R w base v l) {b : Nat} (hb : b < base) (o : Nat) (x : Value) : OwnRow R (w.setCell ⟨b, o, none⟩ x) base v l := ownsRow_off1 h hb o x
def Nx (v : Value) (b : Nat) : Prop := v.ownBlock = none ∨ v.ownBlock ≠ some b
theorem Own3.off1 {w : World} {base : Nat} {f t p : Value} {T : Tr} (h : Own3 w base f t p T) {b : Nat} (h1 : Nx f b) (h2 : Nx t b) (h3 : Nx p b) (o : Nat) (x : Value) : Own3 (w.setCell ⟨b, o, none⟩ x) base f t p T := ⟨World.ownsRow.kept h.rf (grown_set8 w b o x) h1, World.ownsRow.kept h.rt (grown_set8 w b o x) h2, World.ownsRow.kept h.rp (grown_set8 w b o x) h3⟩
theorem BoxT.dr1 {ty : Nat} {w : World} {b : Nat} {f t : Value} {c : Int} {p : Value} (h : BoxT ty w b f t c p) (n : Nat) : BoxT ty (w.drewN n) b f t c p := h
theorem BoxS.dr1 {w : World} {b : Nat} {x y : Int} (h : BoxS w b x y) (n : Nat) : BoxS (w.drewN n) b x y := h
theorem at21_0 (o0 o1 o2 o3 o4 o5 o6 o7 o8 o9 o10 o11 o12 o13 o14 o15 o16 o17 o18 o19 o20 : Oper) : (#[o0, o1, o2, o3, o4, o5, o6, o7, o8, o9, o10, o11, o12, o13, o14, o15, o16, o17, o18, o19, o20] : Array Oper)[0]? = some o0 := rfl
theorem at21_1 (o0 o1 o2 o3 o4 o5 o6 o7 o8 o9 o10 o11 o12 o13 o14 o15 o16 o17 o18 o19 o20 : Oper) : (#[o0, o1, o2, o3, o4, o5, o6, o7, o8, o9, o10, o11, o12, o13, o14, o15, o16, o17, o18, o19, o20] : Array Oper)[1]? = some o1 := rfl
theorem at21_2 (o0 o1 o2 o3 o4 o5 o6 o7 o8 o9 o10 o11 o12 o13 o14 o15 o16 o17 o18 o19 o20 : Oper) : (#[o0, o1, o2, o3, o4, o5, o6, o7, o8, o9, o10, o11, o12, o13, o14, o15, o16, o17, o18, o19, o20] : Array Oper)[2]? = some o2 := rfl
theorem at21_3 (o0 o1 o2 o3 o4 o5 o6 o7 o8 o9 o10 o11 o12 o13 o14 o15 o16 o17 o18 o19 o20 : Oper) : (#[o0, o1, o2, o3, o4, o5, o6, o7, o8, o9, o10, o11, o12, o13, o14, o15, o16, o17, o18, o19, o20] : Array Oper)[3]? = some o3 := rfl
theorem at21_4 (o0 o1 o2 o3 o4 o5 o6 o7 o8 o9 o10 o11 o12 o13 o14 o15 o16 o17 o18 o19 o20 : Oper) : (#[o0, o1, o2, o3, o4, o5, o6, o7, o8, o9, o10, o11, o12, o13, o14, o15, o16, o17, o18, o19, o20] : Array Oper)[4]? = some o4 := rfl
theorem at21_5 (o0 o1 o2 o3 o4 o5 o6 o7 o8 o9 o10 o11 o12 o13 o14 o15 o16 o17 o18 o19 o20 : Oper) : (#[o0, o1, o2, o3, o4, o5, o6, o7, o8, o9, o10, o11, o12, o13, o14, o15, o16, o17, o18, o19, o20] : Array Oper)[5]? = some o5 := rfl
theorem at21_6 (o0 o1 o2 o3 o4 o5 o6 o7 o8 o9 o10 o11 o12 o13 o14 o15 o16 o17 o18 o19 o20 : Oper) : (#[o0, o1, o2, o3, o4, o5, o6, o7, o8, o9, o10, o11, o12, o13, o14, o15, o16, o17, o18, o19, o20] : Array Oper)[6]? = some o6 := rfl
theorem at21_7 (o0 o1 o2 o3 o4 o5 o6 o7 o8 o9 o10 o11 o12 o13 o14 o15 o16 o17 o18 o19 o20 : Oper) : (#[o0, o1, o2, o3, o4, o5, o6, o7, o8, o9, o10, o11, o12, o13, o14, o15, o16, o17, o18, o19, o20] : Array Oper)[7]? = some o7 := rfl
theorem at21_8 (o0 o1 o2 o3 o4 o5 o6 o7 o8 o9 o10 o11 o12 o13 o14 o15 o16 o17 o18 o19 o20 : Oper) : (#[o0, o1, o2, o3, o4, o5, o6, o7, o8, o9, o10, o11, o12, o13, o14, o15, o16, o17, o18, o19, o20] : Array Oper)[8]? = some o8 := rfl
theorem at21_9 (o0 o1 o2 o3 o4 o5 o6 o7 o8 o9 o10 o11 o12 o13 o14 o15 o16 o17 o18 o19 o20 : Oper) : (#[o0, o1, o2, o3, o4, o5, o6, o7, o8, o9, o10, o11, o12, o13, o14, o15, o16, o17, o18, o19, o20] : Array Oper)[9]? = some o9 := rfl
theorem at21_10 (o0 o1 o2 o3 o4 o5 o6 o7 o8 o9 o10 o11 o12 o13 o14 o15 o16 o17 o18 o19 o20 : Oper) : (#[o0, o1, o2, o3, o4, o5, o6, o7, o8, o9, o10, o11, o12, o13, o14, o15, o16, o17, o18, o19, o20] : Array Oper)[10]? = some o10 := rfl
theorem at21_11 (o0 o1 o2 o3 o4 o5 o6 o7 o8 o9 o10 o11 o12 o13 o14 o15 o16 o17 o18 o19 o20 : Oper) : (#[o0, o1, o2, o3, o4, o5, o6, o7, o8, o9, o10, o11, o12, o13, o14, o15, o16, o17, o18, o19, o20] : Array Oper)[11]? = some o11 := rfl
theorem at21_12 (o0 o1 o2 o3 o4 o5 o6 o7 o8 o9 o10 o11 o12 o13 o14 o15 o16 o17 o18 o19 o20 : Oper) : (#[o0, o1, o2, o3, o4, o5, o6, o7, o8, o9, o10, o11, o12, o13, o14, o15, o16, o17, o18, o19, o20] : Array Oper)[12]? = some o12 := rfl
theorem at21_13 (o0 o1 o2 o3 o4 o5 o6 o7 o8 o9 o10 o11 o12 o13 o14 o15 o16 o17 o18 o19 o20 : Oper) : (#[o0, o1, o2, o3, o4, o5, o6, o7, o8, o9, o10, o11, o12, o13, o14, o15, o16, o17, o18, o19, o20] : Array Oper)[13]? = some o13 := rfl
theorem at21_14 (o0 o1 o2 o3 o4 o5 o6 o7 o8 o9 o10 o11 o12 o13 o14 o15 o16 o17 o18 o19 o20 : Oper) : (#[o0, o1, o2, o3, o4, o5, o6, o7, o8, o9, o10, o11, o12, o13, o14, o15, o16, o17, o18, o19, o20] : Array Oper)[14]? = some o14 := rfl
theorem at21_15 (o0 o1 o2 o3 o4 o5 o6 o7 o8 o9 o10 o11 o12 o13 o14 o15 o16 o17 o18 o19 o20 : Oper) : (#[o0, o1, o2, o3, o4, o5, o6, o7, o8, o9, o10, o11, o12, o13, o14, o15, o16, o17, o18, o19, o20] : Array Oper)[15]? = some o15 := rfl
theorem at21_16 (o0 o1 o2 o3 o4 o5 o6 o7 o8 o9 o10 o11 o12 o13 o14 o15 o16 o17 o18 o19 o20 : Oper) : (#[o0, o1, o2, o3, o4, o5, o6, o7, o8, o9, o10, o11, o12, o13, o14, o15, o16, o17, o18, o19, o20] : Array Oper)[16]? = some o16 := rfl
theorem at21_17 (o0 o1 o2 o3 o4 o5 o6 o7 o8 o9 o10 o11 o12 o13 o14 o15 o16 o17 o18 o19 o20 : Oper) : (#[o0, o1, o2, o3, o4, o5, o6, o7, o8, o9, o10, o11, o12, o13, o14, o15, o16, o17, o18, o19, o20] : Array Oper)[17]? = some o17 := rfl
theorem at21_18 (o0 o1 o2 o3 o4 o5 o6 o7 o8 o9 o10 o11 o12 o13 o14 o15 o16 o17 o18 o19 o20 : Oper) : (#[o0, o1, o2, o3, o4, o5, o6, o7, o8, o9, o10, o11, o12, o13, o14, o15, o16, o17, o18, o19, o20] : Array Oper)[18]? = some o18 := rfl
theorem at21_19 (o0 o1 o2 o3 o4 o5 o6 o7 o8 o9 o10 o11 o12 o13 o14 o15 o16 o17 o18 o19 o20 : Oper) : (#[o0, o1, o2, o3, o4, o5, o6, o7, o8, o9, o10, o11, o12, o13, o14, o15, o16, o17, o18, o19, o20] : Array Oper)[19]? = some o19 := rfl
theorem at21_20 (o0 o1 o2 o3 o4 o5 o6 o7 o8 o9 o10 o11 o12 o13 o14 o15 o16 o17 o18 o19 o20 : Oper) : (#[o0, o1, o2, o3, o4, o5, o6, o7, o8, o9, o10, o11, o12, o13, o14, o15, o16, o17, o18, o19, o20] : Array Oper)[20]? = some o20 := rfl
theorem BoxS.mk9 {w w' : World} {b : Nat} {x y : Int} (hb : w'.heap[b]? = w.heap[b]?) (h : BoxS w b x y) : BoxS w' b x y := hb.trans h
set_option maxRecDepth 100000 in
set_option maxHeartbeats 6400000 in
theorem inner_any (g n : Nat) (v : Value) (code : List Nat) (w : World) (h : CurAt w g v code n) (hn : n ≤ 4611686018426000000) :
    Calls Try.prog 76 #[.pointer (some ⟨g, 0, none⟩)] w (DrawnS w g v code fun x y n' => 0 ≤ x ∧ x ≤ 1280 ∧ 0 ≤ y ∧ y ≤ 672 ∧ n ≤ n' ∧ n' ≤ n + 20) := by
  have hg := h.lt
  have z0 := BoxS.new w 0 0
  have a0 : Apg g w (w.alloc (.cells #[.int .i64 0, .int .i64 0] 69)) := apg_al (Apart.refl _ _ _) _
  have q0 := h.belowG ((Below.refl _ w).alloc (Nat.le_refl _) (.cells #[.int .i64 0, .int .i64 0] 69)) hg
  obtain ⟨w0, hw0⟩ : ∃ w0, w0 = w.alloc (.cells #[.int .i64 0, .int .i64 0] 69) := ⟨_, rfl⟩
  rw [← hw0] at z0 a0 q0
  have HW := Lib.hid hw0
  clear hw0
  have C1 := Lib.hid (pick_ex g v code 400 n w0 (by omega) (by omega) q0)
  go_enter Try.func76, Try.ntmps76
  go_upto_region 1 with fail
  rw [← HW.out]
  go_wp2_with fail
  refine C1.out.mono ?_; rintro e w1 ⟨i, k1, rfl, hi, hk1, hj1, q1, a1⟩
  have C2 := Lib.hid (pick_ex g v code 100 k1 w1 (by omega) (by omega) q1)
  have z1 := z0.apt a1 hg
  have a01 := a0.trans a1
  clear C1 z0 a0 q0 a1
  go_wp2_with fail
  refine C2.out.mono ?_; rintro e w2 ⟨j, k2, rfl, hj, hk2, hj2, q2, a2⟩
  have z2 := z1.apt a2 hg
  have a02 := a01.trans a2
  clear C2 z1 a01 q1 a2
  obtain ⟨e0, e1, f0, f1⟩ := z2.cells
  have hbS := below_set2 (Below.refl w.heap.size w2) (Nat.le_refl _) (.int .i64 (400 + (i : Int))) (.int .i64 (250 + (j : Int)))
  have qS := Lib.hid (q2.belowG hbS hg)
  have aS := Lib.hid (a02.trans2 hbS (Nat.le_refl _))
  have zS := Lib.hid (z2.set (400 + (i : Int)) (250 + (j : Int)))
  clear q2 a02 z2 hbS
  go_wp2_with fail
  obtain ⟨p0, p1, _, _⟩ := zS.out.cells
  exact bodyPost_ret (v := .agg #[.int .i64 (400 + (i : Int)), .int .i64 (250 + (j : Int))]) (by simp [results, Try.results76, go_sem, p0, p1]) rfl ⟨_, _, k2, rfl, qS.out, aS.out, by omega, by omega, by omega, by omega, by omega, by omega⟩
set_option maxRecDepth 100000 in
set_option maxHeartbeats 6400000 in
theorem leastDistance_any (g n : Nat) (v : Value) (code : List Nat) (w : World) (h : CurAt w g v code n) (hn : n ≤ 4611686018426000000) :
    Calls Try.prog 58 #[.pointer (some ⟨g, 0, none⟩)] w fun e w' => ∃ (L : Int) (n' : Nat), e = .returned (.int .i64 L) ∧ n ≤ n' ∧ n' ≤ n + 10 ∧ CurAt w' g v code n' ∧ Apg g w w' := by
  have hg := h.lt
  have C1 := Lib.hid (pick_ex g v code 81 n w (by omega) (by omega) h)
  go_enter Try.func58, Try.ntmps58
  go_wp2_with fail
  refine C1.out.mono ?_; rintro e w1 ⟨i, k1, rfl, hi, hk1, hj1, q1, a1⟩
  have hg1 := q1.lt
  have bL := (Below.refl w1.heap.size w1).alloc (Nat.le_refl _) (.cells #[.int .i64 80, .int .i64 81, .int .i64 (-1)] 3)
  have oL := litI w1 (g + 1) 3 #[.int .i64 80, .int .i64 81, .int .i64 (-1)] [80, 81, -1] hg1 rfl rfl rfl (by omega)
  have CA := Lib.hid (among_lit g k1 v _ code [80, 81, -1] _ (q1.belowG bL hg1) (by omega) oL (by simp) (by simp) (fun _ => True) (fun _ _ => trivial))
  have a1b := a1.next bL
  clear bL oL a1 q1 C1
  go_wp2_with fail
  refine CA.out.mono ?_; rintro e w2 ⟨x1, k2, rfl, _, hk2, hj2, q2, a2⟩
  have aa := a1b.trans a2
  have hg2 := q2.lt
  clear a1b a2 CA
  have bL := (Below.refl w2.heap.size w2).alloc (Nat.le_refl _) (.cells #[.int .i64 0, .int .i64 1, .int .i64 8, .int .i64 16, .int .i64 24, .int .i64 (i : Int), .int .i64 x1] 3)
  have oL := litI w2 (g + 1) 7 #[.int .i64 0, .int .i64 1, .int .i64 8, .int .i64 16, .int .i64 24, .int .i64 (i : Int), .int .i64 x1] [0, 1, 8, 16, 24, (i : Int), x1] hg2 rfl rfl rfl (by omega)
  have CA := Lib.hid (among_lit g k2 v _ code [0, 1, 8, 16, 24, (i : Int), x1] _ (q2.belowG bL hg2) (by omega) oL (by simp) (by simp) (fun _ => True) (fun _ _ => trivial))
  have aab := aa.next bL
  clear bL oL aa q2
  go_wp2_with fail
  refine CA.out.mono ?_; rintro e w3 ⟨x2, k3, rfl, _, hk3, hj3, q3, a3⟩
  have aaa := aab.trans a3
  clear aab a3 CA
  go_wp2_with fail
  go_ret
  exact ⟨x2, k3, rfl, by omega, by omega, q3, aaa⟩
set_option maxRecDepth 100000 in
set_option maxHeartbeats 12800000 in
theorem repaired_any (g n : Nat) (v : Value) (code : List Nat) (w : World) (h : CurAt w g v code n) (hn : n ≤ 4611686018370000000) :
    Calls Try.prog 57 #[.pointer (some ⟨g, 0, none⟩)] w (TrPost w g v code n 600000) := by
  have hg := h.lt
  have bX := (Below.refl w.heap.size w).alloc (Nat.le_refl _) (.cells #[.slice none 0 0, .slice none 0 0, .int .i64 0, .slice none 0 0] 31)
  have zR := BoxT.new 31 w (.slice none 0 0) (.slice none 0 0) 0 (.slice none 0 0)
  have sX : (w.alloc (.cells #[.slice none 0 0, .slice none 0 0, .int .i64 0, .slice none 0 0] 31)).heap.size = w.heap.size + 1 := by simp
  obtain ⟨W, hW⟩ : ∃ W : World, W = w.alloc (.cells #[.slice none 0 0, .slice none 0 0, .int .i64 0, .slice none 0 0] 31) := ⟨_, rfl⟩
  rw [← hW] at bX zR sX
  have qW := h.belowG bX hg
  have HW := Lib.hid hW
  have ZR := Lib.hid zR
  have HS := Lib.hid sX
  have HB := Lib.hid bX
  have C1 := Lib.hid (transition_any g n v code W qW (by omega))
  have hgW : g < W.heap.size := qW.lt
  clear hW zR sX bX qW h
  go_enter Try.func57, Try.ntmps57
  go_upto_region 1 with fail
  rw [← HW.out]
  go_wp2_with fail
  refine C1.out.mono ?_; rintro e w1 ⟨f1, t1, p1, T, k1, rfl, o1, q1, a1, hk1, hj1⟩
  have hs1 := a1.size
  have hg1 := q1.lt
  obtain ⟨A1, c1, rfl, _, _⟩ := o1.rf.reads.shape
  obtain ⟨A2, c2, rfl, _, _⟩ := o1.rt.reads.shape
  obtain ⟨A3, c3, rfl, _, _⟩ := o1.rp.reads.shape
  have zB := BoxT.new 31 w1 (.slice A1 T.f.length c1) (.slice A2 T.t.length c2) T.c (.slice A3 T.p.length c3)
  have bN := (Below.refl w1.heap.size w1).alloc (Nat.le_refl _) (.cells #[.slice A1 T.f.length c1, .slice A2 T.t.length c2, .int .i64 T.c, .slice A3 T.p.length c3] 31)
  have O2 := o1.below bN (Nat.le_refl _)
  have q2 := q1.belowG bN hg1
  have a2 := a1.next bN
  obtain ⟨w2, hw2⟩ : ∃ W9 : World, W9 = w1.alloc (.cells #[.slice A1 T.f.length c1, .slice A2 T.t.length c2, .int .i64 T.c, .slice A3 T.p.length c3] 31) := ⟨_, rfl⟩
  have hX2 : w2.heap.size = w1.heap.size + 1 := by rw [hw2]; simp
  rw [← hw2] at zB O2 q2 a2
  have HW2 := Lib.hid hw2
  obtain ⟨X, hX⟩ : ∃ z, z = w1.heap.size := ⟨_, rfl⟩
  have hN1 : Hid (Nx (.slice A1 T.f.length c1) X ∧ Nx (.slice A2 T.t.length c2) X ∧ Nx (.slice A3 T.p.length c3) X) := by rw [hX]; exact ⟨ne_of_hi2 o1.rf, ne_of_hi2 o1.rt, ne_of_hi2 o1.rp⟩
  clear hw2 o1 q1 a1 C1 bN
  go_upto_region 2 with fail
  rw [← HW2.out]
  rw [← hX] at zB hX2
  rw [← hX]
  have hXW : W.heap.size ≤ X := by omega
  have hgX : g < X := by omega
  clear hX HW2
  obtain ⟨y0, y1, y2, y3⟩ := zB.cells
  have HZB := Lib.hid zB
  have HO2 := Lib.hid O2
  have HQ2 := Lib.hid q2
  have HA2 := Lib.hid a2
  clear zB O2 q2 a2
  go_upto_region 3 with fail
  go_cut [18] (fun s wx => ∃ (bq : Bool) (k' : Nat), s = .bool bq ∧ k1 ≤ k' ∧ k' ≤ k1 + 2 ∧ BoxT 31 wx X (.slice A1 T.f.length c1) (.slice A2 T.t.length c2) T.c (.slice A3 T.p.length c3) ∧ Own3 wx W.heap.size (.slice A1 T.f.length c1) (.slice A2 T.t.length c2) (.slice A3 T.p.length c3) T ∧ CurAt wx g v code k' ∧ Apg g W wx)
  case first =>
    by_cases hl5 : (5 : Int) < (T.f.length : Int)
    · have C3 := Lib.hid (one_ex g v code 12 k1 w2 (by omega) HQ2.out)
      go_wp2_with fail
      refine C3.out.mono ?_; rintro e w3 ⟨bb, k3, rfl, hk3, hj3, q3, a3⟩
      go_wp2_with fail
      go_meet
      exact ⟨!bb, k3, rfl, by omega, by omega, HZB.out.apg a3 hgX, HO2.out.apt a3 (by omega), q3, HA2.out.trans a3⟩
    · go_wp2_with fail
      go_meet
      exact ⟨false, k1, rfl, by omega, by omega, HZB.out, HO2.out, HQ2.out, HA2.out⟩
  case rest =>
    obtain ⟨bq, k4, rfl, hk4, hj4, z4, o4, q4, a4⟩ := hcut
    clear HZB HO2 HQ2 HA2 y0 y1 y2 y3
    obtain ⟨w4, hw4⟩ : ∃ w9 : World, w9 = wc := ⟨_, rfl⟩
    subst hw4
    go_upto_if 18 with fail
    go_cut [] (fun wx => ∃ (f9 t9 p9 : Value) (T9 : Tr) (k9 : Nat), Own3 wx W.heap.size f9 t9 p9 T9 ∧ BoxT 31 wx X f9 t9 T9.c p9 ∧ CurAt wx g v code k9 ∧ Apg g W wx ∧ n ≤ k9 ∧ k9 ≤ n + 510000 ∧ Nx f9 X ∧ Nx t9 X ∧ Nx p9 X)
    case first =>
      cases bq
      case false =>
        go_wp2_with fail
        go_meet
        exact ⟨_, _, _, T, k4, o4, z4, q4, a4, by omega, by omega, hN1.out.1, hN1.out.2.1, hN1.out.2.2⟩
      case true =>
        have z5 := z4.set (.slice none 0 0) (.slice none 0 0) T.c (.slice none 0 0)
        have bS := below_setT (Below.refl X w4) (Nat.le_refl _) (.slice none 0 0) (.slice none 0 0) T.c (.slice none 0 0)
        have q5 := q4.belowG bS hgX
        have a5 := a4.trans2 bS (by omega)
        have hX4 := z4.lt
        have hX5 := z5.lt
        obtain ⟨y0, y1, y2, y3⟩ := z4.cells
        obtain ⟨d0, d1, d2, d3⟩ := z4.free
        clear o4
        go_upto_region 5 with fail
        unfold setT at z5 q5 a5 hX5
        obtain ⟨w5, hw5⟩ : ∃ W9 : World, W9 = (((w4.setCell ⟨X, 0, none⟩ (.slice none 0 0)).setCell ⟨X, 1, none⟩ (.slice none 0 0)).setCell ⟨X, 2, none⟩ (.int .i64 T.c)).setCell ⟨X, 3, none⟩ (.slice none 0 0) := ⟨_, rfl⟩
        rw [← hw5] at z5 q5 a5 hX5
        rw [← hw5]
        clear hw5 y0 y1 y2 y3 d0 d1 d2 d3 z4 bS q4 a4 hX4
        have C6 := Lib.hid (pick_ex g v code 4 k4 w5 (by omega) (by omega) q5)
        go_wp2_with fail
        refine C6.out.mono ?_; rintro e w6 ⟨i6, k6, rfl, hi6, hk6, hj6, q6, a6⟩
        have z6 := z5.apg a6 hgX
        have aa6 := a5.trans a6
        clear C6 z5 q5 a5 a6
        go_upto_region 6 with fail
        obtain ⟨N, hN⟩ : ∃ N, N = 2 + i6 := ⟨_, rfl⟩
        have hNz : (2 : Int) + (i6 : Int) = (N : Int) := by omega
        have hN5 : N ≤ 5 := by omega
        rw [hNz]
        clear hNz hN
        have C7 := Lib.hid (inner_any g k6 v code w6 q6 (by omega))
        clear q6
        go_wp2_with fail
        refine C7.out.mono ?_; rintro e w7 ⟨x7, y7, k7, rfl, q7, a7, hx0, hx1, hy0, hy1, hk7, hj7⟩
        have z7 := z6.apg a7 hgX
        have aa7 := aa6.trans a7
        have hX7 := z7.lt
        have hg7 := q7.lt
        have bN := (Below.refl w7.heap.size w7).alloc (Nat.le_refl _) (.cells #[.int .i64 x7, .int .i64 y7] 69)
        have zI := BoxS.new w7 x7 y7
        have z8 := z7.keep bN hX7
        have q8 := q7.belowG bN hg7
        have a8 := aa7.next bN
        obtain ⟨w8, hw8⟩ : ∃ W9 : World, W9 = w7.alloc (.cells #[.int .i64 x7, .int .i64 y7] 69) := ⟨_, rfl⟩
        have hs8 : w8.heap.size = w7.heap.size + 1 := by rw [hw8]; simp
        rw [← hw8] at zI z8 q8 a8
        have HW8 := Lib.hid hw8
        obtain ⟨Y, hY⟩ : ∃ z, z = w7.heap.size := ⟨_, rfl⟩
        rw [← hY] at zI hs8 hX7 hg7
        have HY := Lib.hid hY
        have hs7 := aa7.size
        clear hw8 C7 z6 aa6 z7 q7 a7 aa7 bN
        go_upto_region 7 with fail
        rw [← HW8.out, ← HY.out]
        rw [← hY] at hs7
        clear HW8 HY hY
        have hXY : X < w8.heap.size := by omega
        have hYY : Y < w8.heap.size := by omega
        have hWW : W.heap.size ≤ w8.heap.size := by omega
        have hXneY : X ≠ Y := by omega
        have hgW8 : g < w8.heap.size := by omega
        have hgW81 : g + 1 ≤ w8.heap.size := hgW8
        have hgY : g < Y := hg7
        go_wp2_with fail
        go_loopw [6] (fun s wr => ∃ (j : Nat) (f t : Value) (a b : List Spt) (k : Nat), j ≤ N ∧ s = .int .i64 j ∧ a.length = j ∧ b.length = j ∧ k7 ≤ k ∧ k ≤ k7 + 4 * j ∧ BoxT 31 wr X f t T.c (.slice none 0 0) ∧ BoxS wr Y x7 y7 ∧ OwnRow sptRec wr w8.heap.size f a ∧ OwnRow sptRec wr w8.heap.size t b ∧ Apt f t ∧ CurAt wr g v code k ∧ Apg g W wr ∧ w8.heap.size ≤ wr.heap.size) (fun s _ => N - (intOf s).toNat)
        case atStart => exact ⟨0, .slice none 0 0, .slice none 0 0, [], [], k7, Nat.zero_le _, rfl, rfl, rfl, by omega, by omega, z8, zI, OwnRow.nil_ sptRec _ _, OwnRow.nil_ sptRec _ _, (fun _ h9 => by cases h9), q8, a8, Nat.le_refl _⟩
        case round =>
          obtain ⟨j, f, t, a, b, k, hj, rfl, hla, hlb, hk0, hk1', zr, ir, fr, tr, hapt, qr, ar, hsr⟩ := hrel
          clear z8 zI q8 a8
          have hsz8 := ar.size
          obtain ⟨E1, e1, rfl, _, _⟩ := fr.reads.shape
          obtain ⟨E2, e2, rfl, _, _⟩ := tr.reads.shape
          by_cases hlt : j < N
          · have hjn : (j : Int) < (N : Int) := by omega
            obtain ⟨m0, m1, m2, m3⟩ := zr.cells
            obtain ⟨d0, d1, d2, d3⟩ := zr.free
            obtain ⟨s0, s1, _, _⟩ := ir.cells
            have n1 : a.length + 1 ≤ 1099511627776 := by omega
            have n2 : b.length + 1 ≤ 1099511627776 := by omega
            have m16 : (16 : Int) * (j : Int) ≤ 80 := by omega
            have ZRR := Lib.hid zr
            have IRR := Lib.hid ir
            have TRR := Lib.hid tr
            have QRR := Lib.hid qr
            have ARR := Lib.hid ar
            have HAPT := Lib.hid hapt
            clear zr ir tr qr ar hapt
            have HLA := Lib.hid hla
            have HLB := Lib.hid hlb
            clear hla hlb
            go_upto_region 10 with fail
            go_upto_region 11 with (at_builtin; refine wp_app_spt _ rfl _ _ (by rfl) w8.heap.size _ a (by rfl) fr ⟨_, _⟩ _ (by rfl) rfl n1 hsr ?_; intro v2 w2' o2 g2; have z2 := ZRR.out.keep g2.below hXY; have HAP2 := Lib.hid (HAPT.out.grew TRR.out g2); have t2 := HAPT.out.keepR TRR.out g2; obtain ⟨A2', x2', rfl, _, _⟩ := o2.reads.shape; obtain ⟨r0, r1, r2, r3⟩ := z2.free; obtain ⟨u0, u1, u2, u3⟩ := z2.cells)
            have bG2 := g2.below
            have eV : (a ++ [(⟨x7 + 16 * (j : Int), y7⟩ : Spt)]).length = a.length + 1 := by simp
            rw [eV] at o2 HAP2
            clear eV
            have hs2 := bG2.size
            have z3 := z2.put0 (.slice A2' (a.length + 1) x2')
            have i3 := BoxS.off (b := Y) ((bG2.block Y hYY).trans IRR.out) (p := ⟨X, 0, none⟩) hXneY (.slice A2' (a.length + 1) x2')
            have f3 := o2.off1 hXY 0 (.slice A2' (a.length + 1) x2')
            have t3 := t2.off1 hXY 0 (.slice A2' (a.length + 1) x2')
            have q3 := (QRR.out.belowG bG2 hgW8).belowG ((Below.refl X w2').setCell (p := ⟨X, 0, none⟩) (Nat.le_refl _) (.slice A2' (a.length + 1) x2')) hgX
            have a3 := (ARR.out.trans2 bG2 hWW).trans2 ((Below.refl X w2').setCell (p := ⟨X, 0, none⟩) (Nat.le_refl _) (.slice A2' (a.length + 1) x2')) (by omega)
            have hs3 : (w2'.setCell ⟨X, 0, none⟩ (.slice A2' (a.length + 1) x2')).heap.size = w2'.heap.size := by simp
            obtain ⟨w3, hw3⟩ : ∃ W9 : World, W9 = w2'.setCell ⟨X, 0, none⟩ (.slice A2' (a.length + 1) x2') := ⟨_, rfl⟩
            rw [← hw3] at z3 i3 f3 t3 q3 a3 hs3
            rw [← hw3]
            have hw83 : w8.heap.size ≤ w3.heap.size := by omega
            have F3 := Lib.hid f3
            have T3 := Lib.hid t3
            have A3' := Lib.hid a3
            have hs3X := z3.lt
            clear hw3 z2 o2 t2 r0 r1 r2 r3 u0 u1 u2 u3 m0 m1 m2 m3 d0 d1 d2 d3 s0 s1 fr bG2 g2 f3 t3 a3 hs2 hs3
            obtain ⟨m0, m1, m2, m3⟩ := z3.cells
            obtain ⟨s0, s1, _, _⟩ := i3.cells
            have P1 := Lib.hid (pick_ex g v code 9 k w3.drew (by omega) (by omega) (q3.drewN 1))
            refine wp_region_noPanic ?_
            refine wp_region_held_drew (S := fun w' => w'.cell? ⟨Y, 0, none⟩ = some (.int .i64 x7) ∧ w'.cell? ⟨Y, 1, none⟩ = some (.int .i64 y7)) (by kernel_rfl) ?_ (fun hHeld => ?_)
            · exact ⟨(i3.dr1 1).cells.1, (i3.dr1 1).cells.2.1⟩
            refine wpAnyH_take (i := 0) (v := ?_) (at21_0 _ _ _ _ _ _ _ _ _ _ _ _ _ _ _ _ _ _ _ _ _) (by kernel_rfl) (by kernel_rfl) (by kernel_rfl) (fun _ _ _ h => h) (Or.inl ⟨by rfl, ?_⟩) (by assumption) ?_
            rotate_left
            · (intro w9 hSw; (try dsimp only at hSw); go_simp; (try with_reducible rfl))
            (try simp only [Act.put, List.setIfInBounds_toArray, List.set_cons_zero, List.set_cons_succ])
            refine wpAnyH_take (i := 2) (v := ?_) (at21_2 _ _ _ _ _ _ _ _ _ _ _ _ _ _ _ _ _ _ _ _ _) (by kernel_rfl) (by kernel_rfl) (by kernel_rfl) (fun _ _ _ h => h) (Or.inl ⟨by rfl, ?_⟩) (by assumption) ?_
            rotate_left
            · (intro w9 hSw; (try dsimp only at hSw); go_simp; (try with_reducible rfl))
            (try simp only [Act.put, List.setIfInBounds_toArray, List.set_cons_zero, List.set_cons_succ])
            refine wpAnyH_take (i := 3) (v := ?_) (at21_3 _ _ _ _ _ _ _ _ _ _ _ _ _ _ _ _ _ _ _ _ _) (by kernel_rfl) (by kernel_rfl) (by kernel_rfl) (fun _ _ _ h => h) (Or.inl ⟨by rfl, ?_⟩) (by assumption) ?_
            rotate_left
            · (intro w9 hSw; (try dsimp only at hSw); go_simp; (try with_reducible rfl))
            (try simp only [Act.put, List.setIfInBounds_toArray, List.set_cons_zero, List.set_cons_succ])
            refine wpAnyH_take (i := 4) (v := ?_) (at21_4 _ _ _ _ _ _ _ _ _ _ _ _ _ _ _ _ _ _ _ _ _) (by kernel_rfl) (by kernel_rfl) (by kernel_rfl) (fun _ _ _ h => h) (Or.inl ⟨by rfl, ?_⟩) (by assumption) ?_
            rotate_left
            · (intro w9 hSw; (try dsimp only at hSw); go_simp; (try with_reducible rfl))
            (try simp only [Act.put, List.setIfInBounds_toArray, List.set_cons_zero, List.set_cons_succ])
            refine wpAnyH_take (i := 5) (v := ?_) (at21_5 _ _ _ _ _ _ _ _ _ _ _ _ _ _ _ _ _ _ _ _ _) (by kernel_rfl) (by kernel_rfl) (by kernel_rfl) (fun _ _ _ h => h) (Or.inl ⟨by rfl, ?_⟩) (by assumption) ?_
            rotate_left
            · (intro w9 hSw; (try dsimp only at hSw); go_simp; (try with_reducible rfl))
            (try simp only [Act.put, List.setIfInBounds_toArray, List.set_cons_zero, List.set_cons_succ])
            refine wpAnyH_take (i := 6) (v := ?_) (at21_6 _ _ _ _ _ _ _ _ _ _ _ _ _ _ _ _ _ _ _ _ _) (by kernel_rfl) (by kernel_rfl) (by kernel_rfl) (fun _ _ _ h => h) (Or.inl ⟨by rfl, ?_⟩) (by assumption) ?_
            rotate_left
            · (intro w9 hSw; (try dsimp only at hSw); go_simp; (try with_reducible rfl))
            (try simp only [Act.put, List.setIfInBounds_toArray, List.set_cons_zero, List.set_cons_succ])
            refine wpAnyH_take (i := 7) (v := ?_) (at21_7 _ _ _ _ _ _ _ _ _ _ _ _ _ _ _ _ _ _ _ _ _) (by kernel_rfl) (by kernel_rfl) (by kernel_rfl) (fun _ _ _ h => h) (Or.inl ⟨by rfl, ?_⟩) (by assumption) ?_
            rotate_left
            · (intro w9 hSw; (try dsimp only at hSw); go_simp; (try with_reducible rfl))
            (try simp only [Act.put, List.setIfInBounds_toArray, List.set_cons_zero, List.set_cons_succ])
            refine wpAnyH_take (i := 10) (v := ?_) (at21_10 _ _ _ _ _ _ _ _ _ _ _ _ _ _ _ _ _ _ _ _ _) (by kernel_rfl) (by kernel_rfl) (by kernel_rfl) (fun _ _ _ h => h) (Or.inl ⟨by rfl, ?_⟩) (by assumption) ?_
            rotate_left
            · (intro w9 hSw; (try dsimp only at hSw); go_simp; (try with_reducible rfl))
            (try simp only [Act.put, List.setIfInBounds_toArray, List.set_cons_zero, List.set_cons_succ])
            refine wpAnyH_take (i := 11) (v := ?_) (at21_11 _ _ _ _ _ _ _ _ _ _ _ _ _ _ _ _ _ _ _ _ _) (by kernel_rfl) (by kernel_rfl) (by kernel_rfl) (fun _ _ _ h => h) (Or.inl ⟨by rfl, ?_⟩) (by assumption) ?_
            rotate_left
            · (intro w9 hSw; (try dsimp only at hSw); go_simp; (try with_reducible rfl))
            (try simp only [Act.put, List.setIfInBounds_toArray, List.set_cons_zero, List.set_cons_succ])
            refine wpAnyH_take (i := 12) (v := ?_) (at21_12 _ _ _ _ _ _ _ _ _ _ _ _ _ _ _ _ _ _ _ _ _) (by kernel_rfl) (by kernel_rfl) (by kernel_rfl) (fun _ _ _ h => h) (Or.inl ⟨by rfl, ?_⟩) (by assumption) ?_
            rotate_left
            · (intro w9 hSw; (try dsimp only at hSw); go_simp; (try with_reducible rfl))
            (try simp only [Act.put, List.setIfInBounds_toArray, List.set_cons_zero, List.set_cons_succ])
            refine wpAnyH_ready (rs := [1, 8]) (by kernel_rfl) (by simp) ?_
            refine AllReadyH.cons (at21_1 _ _ _ _ _ _ _ _ _ _ _ _ _ _ _ _ _ _ _ _ _) (fun K hK => ?_) ?_
            ·
              clear hHeld
              go_simp
              refine hK.out _ _ ?_ (fun hHeld => ?_)
              · exact ⟨(i3.dr1 1).cells.1, (i3.dr1 1).cells.2.1⟩
              clear hK K
              (try simp only [Act.put, List.setIfInBounds_toArray, List.set_cons_zero, List.set_cons_succ])
              refine wpAnyH_ready (rs := [8]) (by kernel_rfl) (by simp) ?_
              refine AllReadyH.cons (at21_8 _ _ _ _ _ _ _ _ _ _ _ _ _ _ _ _ _ _ _ _ _) (fun K hK => ?_) ?_
              ·
                clear hHeld
                go_simp
                go_at_call 75
                ((with_reducible refine P1.out.mono ?_); rintro e w4 ⟨y1, k4, rfl, hy1, hk4, hj4, q4, a4⟩; have z4 := (z3.dr1 1).apg a4 hgX; have i4 := (i3.dr1 1).apt a4 hgY; obtain ⟨c40, c41, c42, c43⟩ := z4.cells; have P2 := Lib.hid (pick_ex g v code 2 k4 w4 (by omega) (by omega) q4))
                go_wp2_with fail
                refine hK.out _ _ ?_ (fun hHeld => ?_)
                · exact ⟨i4.cells.1, i4.cells.2.1⟩
                clear hK K
                (try simp only [Act.put, List.setIfInBounds_toArray, List.set_cons_zero, List.set_cons_succ])
                refine wpAnyH_take (i := 9) (v := ?_) (at21_9 _ _ _ _ _ _ _ _ _ _ _ _ _ _ _ _ _ _ _ _ _) (by kernel_rfl) (by kernel_rfl) (by kernel_rfl) (fun _ _ _ h => h) (Or.inl ⟨by rfl, ?_⟩) (by assumption) ?_
                rotate_left
                · (intro w9 hSw; (try dsimp only at hSw); go_simp; (try with_reducible rfl))
                (try simp only [Act.put, List.setIfInBounds_toArray, List.set_cons_zero, List.set_cons_succ])
                refine wpAnyH_ready (rs := [13]) (by kernel_rfl) (by simp) ?_
                refine AllReadyH.cons (at21_13 _ _ _ _ _ _ _ _ _ _ _ _ _ _ _ _ _ _ _ _ _) (fun K hK => ?_) ?_
                ·
                  clear hHeld
                  go_simp
                  go_at_call 75
                  ((with_reducible refine P2.out.mono ?_); rintro e w5 ⟨y2, k5, rfl, hy2, hk5, hj5, q5, a5⟩; have z5 := z4.apg a5 hgX; have i5 := i4.apt a5 hgY; obtain ⟨c50, c51, c52, c53⟩ := z5.cells; have e51 : ∀ o, (w5.alloc o).cell? ⟨X, 1, none⟩ = some (.slice E2 b.length e2) := fun o => (z5.keep ((Below.refl w5.heap.size w5).alloc (Nat.le_refl _) o) z5.lt).cells.2.1; have hs5 : w3.heap.size ≤ w5.heap.size := Nat.le_trans a4.size a5.size; have t5 := OwnRow.aptS (OwnRow.aptS (OwnRow.drewN T3.out 1) a4 hgW81) a5 hgW81)
                  go_wp2_with fail
                  refine hK.out _ _ ?_ (fun hHeld => ?_)
                  · exact ⟨i5.cells.1, i5.cells.2.1⟩
                  clear hK K
                  (try simp only [Act.put, List.setIfInBounds_toArray, List.set_cons_zero, List.set_cons_succ])
                  refine wpAnyH_take (i := 14) (v := ?_) (at21_14 _ _ _ _ _ _ _ _ _ _ _ _ _ _ _ _ _ _ _ _ _) (by kernel_rfl) (by kernel_rfl) (by kernel_rfl) (fun _ _ _ h => h) (Or.inl ⟨by rfl, ?_⟩) (by assumption) ?_
                  rotate_left
                  · (intro w9 hSw; (try dsimp only at hSw); go_simp; (try with_reducible rfl))
                  (try simp only [Act.put, List.setIfInBounds_toArray, List.set_cons_zero, List.set_cons_succ])
                  refine wpAnyH_take (i := 15) (v := ?_) (at21_15 _ _ _ _ _ _ _ _ _ _ _ _ _ _ _ _ _ _ _ _ _) (by kernel_rfl) (by kernel_rfl) (by kernel_rfl) (fun _ _ _ h => h) (Or.inl ⟨by rfl, ?_⟩) (by assumption) ?_
                  rotate_left
                  · (intro w9 hSw; (try dsimp only at hSw); go_simp; (try with_reducible rfl))
                  (try simp only [Act.put, List.setIfInBounds_toArray, List.set_cons_zero, List.set_cons_succ])
                  refine wpAnyH_take (i := 16) (v := ?_) (at21_16 _ _ _ _ _ _ _ _ _ _ _ _ _ _ _ _ _ _ _ _ _) (by kernel_rfl) (by kernel_rfl) (by kernel_rfl) (fun _ _ _ h => h) (Or.inl ⟨by rfl, ?_⟩) (by assumption) ?_
                  rotate_left
                  · (intro w9 hSw; (try dsimp only at hSw); go_simp; (try with_reducible rfl))
                  (try simp only [Act.put, List.setIfInBounds_toArray, List.set_cons_zero, List.set_cons_succ])
                  refine wpAnyH_ready (rs := [17]) (by kernel_rfl) (by simp) ?_
                  refine AllReadyH.cons (at21_17 _ _ _ _ _ _ _ _ _ _ _ _ _ _ _ _ _ _ _ _ _) (fun K hK => ?_) ?_
                  ·
                    clear hHeld
                    go_simp
                    refine hK.out _ _ ?_ (fun hHeld => ?_)
                    · exact ⟨(BoxS.al i5 _).cells.1, (BoxS.al i5 _).cells.2.1⟩
                    clear hK K
                    (try simp only [Act.put, List.setIfInBounds_toArray, List.set_cons_zero, List.set_cons_succ])
                    refine wpAnyH_ready (rs := [18]) (by kernel_rfl) (by simp) ?_
                    refine AllReadyH.cons (at21_18 _ _ _ _ _ _ _ _ _ _ _ _ _ _ _ _ _ _ _ _ _) (fun K hK => ?_) ?_
                    ·
                      clear hHeld
                      (refine step_app_rec sptRec w5 (by rfl) _ _ 29 _ _ Try.underlying29 info_spt rfl (by omega) (by rfl) w8.heap.size _ b (by rfl) t5 ⟨_, _⟩ _ rfl _ _ rfl (by rfl) rfl n2 (Nat.le_trans hw83 hs5) ?_; intro v6 w6' o6 g6; have z6 := z5.keep g6.below hXY; have i6 := BoxS.mk9 (g6.below.block Y hYY) i5; obtain ⟨A6, x6, rfl, _, _⟩ := o6.reads.shape; obtain ⟨r0, r1, r2, r3⟩ := z6.free; obtain ⟨u0, u1, u2, u3⟩ := z6.cells)
                      refine hK.out _ _ ?_ (fun hHeld => ?_)
                      · exact ⟨i6.cells.1, i6.cells.2.1⟩
                      clear hK K
                      (try simp only [Act.put, List.setIfInBounds_toArray, List.set_cons_zero, List.set_cons_succ])
                      refine wpAnyH_take (i := 19) (v := ?_) (at21_19 _ _ _ _ _ _ _ _ _ _ _ _ _ _ _ _ _ _ _ _ _) (by kernel_rfl) (by kernel_rfl) (by kernel_rfl) (fun _ _ _ h => h) (Or.inl ⟨by rfl, ?_⟩) (by assumption) ?_
                      rotate_left
                      · (intro w9 hSw; (try dsimp only at hSw); go_simp; (try with_reducible rfl))
                      (try simp only [Act.put, List.setIfInBounds_toArray, List.set_cons_zero, List.set_cons_succ])
                      refine wpAnyH_ready (rs := [20]) (by kernel_rfl) (by simp) ?_
                      refine AllReadyH.cons (at21_20 _ _ _ _ _ _ _ _ _ _ _ _ _ _ _ _ _ _ _ _ _) (fun K hK => ?_) ?_
                      ·
                        clear hHeld
                        go_simp
                        refine hK.out _ _ ?_ (fun hHeld => ?_)
                        · exact ⟨(i6.off (p := ⟨X, 1, none⟩) hXneY _).cells.1, (i6.off (p := ⟨X, 1, none⟩) hXneY _).cells.2.1⟩
                        clear hK K
                        (try simp only [Act.put, List.setIfInBounds_toArray, List.set_cons_zero, List.set_cons_succ])
                        refine wpAnyH_done (by kernel_rfl) ?_ _
                        refine NoPanic.normal ?_
                        have F5 := OwnRow.aptS (OwnRow.aptS (OwnRow.drewN F3.out 1) a4 hgW81) a5 hgW81
                        have HSY := HAP2.out.symm
                        have F6 := HSY.keepR F5 g6
                        have AP6 := Lib.hid (HSY.grew F5 g6).symm
                        have eV : ∀ y : Spt, (b ++ [y]).length = b.length + 1 := fun y => by simp
                        rw [eV] at o6 AP6
                        have b6 := g6.below
                        have hs6 := b6.size
                        have zF := Lib.hid (z6.put1 (.slice A6 (b.length + 1) x6))
                        have iF := Lib.hid (i6.off (p := ⟨X, 1, none⟩) hXneY (.slice A6 (b.length + 1) x6))
                        have oF := Lib.hid (o6.off1 hXY 1 (.slice A6 (b.length + 1) x6))
                        have fF := Lib.hid (F6.off1 hXY 1 (.slice A6 (b.length + 1) x6))
                        have bSF := (Below.refl X w6').setCell (p := ⟨X, 1, none⟩) (Nat.le_refl _) (.slice A6 (b.length + 1) x6)
                        have qF := Lib.hid ((q5.belowG b6 hgW8).belowG bSF hgX)
                        have aF := Lib.hid (((((A3'.out.drewN 1).trans a4).trans a5).trans2 b6 hWW).trans2 bSF (by omega))
                        have sF : w8.heap.size ≤ (w6'.setCell ⟨X, 1, none⟩ (.slice A6 (b.length + 1) x6)).heap.size := by simp; omega
                        have SF := Lib.hid sF
                        clear F5 F6 HSY eV b6 bSF o6 z6 i6 g6 q5 a5 a4 q4 z4 z5 i4 i5 t5 c40 c41 c42 c43 c50 c51 c52 c53 e51 sF P1 P2
                        go_wp2_with fail
                        go_roundw
                        case rel => exact ⟨j + 1, _, _, _, _, k5, by omega, by go_num, by have := HLA.out; simp; omega, by have := HLB.out; simp; omega, by omega, by omega, zF.out, iF.out, fF.out, oF.out, AP6.out, qF.out, aF.out, SF.out⟩
                        case measure => simp [intOf]; omega
                      exact AllReadyH.nil
                    exact AllReadyH.nil
                  exact AllReadyH.nil
                exact AllReadyH.nil
              exact AllReadyH.nil
            refine AllReadyH.cons (at21_8 _ _ _ _ _ _ _ _ _ _ _ _ _ _ _ _ _ _ _ _ _) (fun K hK => ?_) ?_
            ·
              clear hHeld
              go_simp
              go_at_call 75
              ((with_reducible refine P1.out.mono ?_); rintro e w4 ⟨y1, k4, rfl, hy1, hk4, hj4, q4, a4⟩; have z4 := (z3.dr1 1).apg a4 hgX; have i4 := (i3.dr1 1).apt a4 hgY; obtain ⟨c40, c41, c42, c43⟩ := z4.cells; have P2 := Lib.hid (pick_ex g v code 2 k4 w4 (by omega) (by omega) q4))
              go_wp2_with fail
              refine hK.out _ _ ?_ (fun hHeld => ?_)
              · exact ⟨i4.cells.1, i4.cells.2.1⟩
              clear hK K
              (try simp only [Act.put, List.setIfInBounds_toArray, List.set_cons_zero, List.set_cons_succ])
              refine wpAnyH_take (i := 9) (v := ?_) (at21_9 _ _ _ _ _ _ _ _ _ _ _ _ _ _ _ _ _ _ _ _ _) (by kernel_rfl) (by kernel_rfl) (by kernel_rfl) (fun _ _ _ h => h) (Or.inl ⟨by rfl, ?_⟩) (by assumption) ?_
              rotate_left
              · (intro w9 hSw; (try dsimp only at hSw); go_simp; (try with_reducible rfl))
              (try simp only [Act.put, List.setIfInBounds_toArray, List.set_cons_zero, List.set_cons_succ])
              refine wpAnyH_ready (rs := [1, 13]) (by kernel_rfl) (by simp) ?_
              refine AllReadyH.cons (at21_1 _ _ _ _ _ _ _ _ _ _ _ _ _ _ _ _ _ _ _ _ _) (fun K hK => ?_) ?_
              ·
                clear hHeld
                go_simp
                refine hK.out _ _ ?_ (fun hHeld => ?_)
                · exact ⟨i4.cells.1, i4.cells.2.1⟩
                clear hK K
                (try simp only [Act.put, List.setIfInBounds_toArray, List.set_cons_zero, List.set_cons_succ])
                refine wpAnyH_ready (rs := [13]) (by kernel_rfl) (by simp) ?_
                refine AllReadyH.cons (at21_13 _ _ _ _ _ _ _ _ _ _ _ _ _ _ _ _ _ _ _ _ _) (fun K hK => ?_) ?_
                ·
                  clear hHeld
                  go_simp
                  go_at_call 75
                  ((with_reducible refine P2.out.mono ?_); rintro e w5 ⟨y2, k5, rfl, hy2, hk5, hj5, q5, a5⟩; have z5 := z4.apg a5 hgX; have i5 := i4.apt a5 hgY; obtain ⟨c50, c51, c52, c53⟩ := z5.cells; have e51 : ∀ o, (w5.alloc o).cell? ⟨X, 1, none⟩ = some (.slice E2 b.length e2) := fun o => (z5.keep ((Below.refl w5.heap.size w5).alloc (Nat.le_refl _) o) z5.lt).cells.2.1; have hs5 : w3.heap.size ≤ w5.heap.size := Nat.le_trans a4.size a5.size; have t5 := OwnRow.aptS (OwnRow.aptS (OwnRow.drewN T3.out 1) a4 hgW81) a5 hgW81)
                  go_wp2_with fail
                  refine hK.out _ _ ?_ (fun hHeld => ?_)
                  · exact ⟨i5.cells.1, i5.cells.2.1⟩
                  clear hK K
                  (try simp only [Act.put, List.setIfInBounds_toArray, List.set_cons_zero, List.set_cons_succ])
                  refine wpAnyH_take (i := 14) (v := ?_) (at21_14 _ _ _ _ _ _ _ _ _ _ _ _ _ _ _ _ _ _ _ _ _) (by kernel_rfl) (by kernel_rfl) (by kernel_rfl) (fun _ _ _ h => h) (Or.inl ⟨by rfl, ?_⟩) (by assumption) ?_
                  rotate_left
                  · (intro w9 hSw; (try dsimp only at hSw); go_simp; (try with_reducible rfl))
                  (try simp only [Act.put, List.setIfInBounds_toArray, List.set_cons_zero, List.set_cons_succ])
                  refine wpAnyH_take (i := 15) (v := ?_) (at21_15 _ _ _ _ _ _ _ _ _ _ _ _ _ _ _ _ _ _ _ _ _) (by kernel_rfl) (by kernel_rfl) (by kernel_rfl) (fun _ _ _ h => h) (Or.inl ⟨by rfl, ?_⟩) (by assumption) ?_
                  rotate_left
                  · (intro w9 hSw; (try dsimp only at hSw); go_simp; (try with_reducible rfl))
                  (try simp only [Act.put, List.setIfInBounds_toArray, List.set_cons_zero, List.set_cons_succ])
                  refine wpAnyH_take (i := 16) (v := ?_) (at21_16 _ _ _ _ _ _ _ _ _ _ _ _ _ _ _ _ _ _ _ _ _) (by kernel_rfl) (by kernel_rfl) (by kernel_rfl) (fun _ _ _ h => h) (Or.inl ⟨by rfl, ?_⟩) (by assumption) ?_
                  rotate_left
                  · (intro w9 hSw; (try dsimp only at hSw); go_simp; (try with_reducible rfl))
                  (try simp only [Act.put, List.setIfInBounds_toArray, List.set_cons_zero, List.set_cons_succ])
                  refine wpAnyH_ready (rs := [17]) (by kernel_rfl) (by simp) ?_
                  refine AllReadyH.cons (at21_17 _ _ _ _ _ _ _ _ _ _ _ _ _ _ _ _ _ _ _ _ _) (fun K hK => ?_) ?_
                  ·
                    clear hHeld
                    go_simp
                    refine hK.out _ _ ?_ (fun hHeld => ?_)
                    · exact ⟨(BoxS.al i5 _).cells.1, (BoxS.al i5 _).cells.2.1⟩
                    clear hK K
                    (try simp only [Act.put, List.setIfInBounds_toArray, List.set_cons_zero, List.set_cons_succ])
                    refine wpAnyH_ready (rs := [18]) (by kernel_rfl) (by simp) ?_
                    refine AllReadyH.cons (at21_18 _ _ _ _ _ _ _ _ _ _ _ _ _ _ _ _ _ _ _ _ _) (fun K hK => ?_) ?_
                    ·
                      clear hHeld
                      (refine step_app_rec sptRec w5 (by rfl) _ _ 29 _ _ Try.underlying29 info_spt rfl (by omega) (by rfl) w8.heap.size _ b (by rfl) t5 ⟨_, _⟩ _ rfl _ _ rfl (by rfl) rfl n2 (Nat.le_trans hw83 hs5) ?_; intro v6 w6' o6 g6; have z6 := z5.keep g6.below hXY; have i6 := BoxS.mk9 (g6.below.block Y hYY) i5; obtain ⟨A6, x6, rfl, _, _⟩ := o6.reads.shape; obtain ⟨r0, r1, r2, r3⟩ := z6.free; obtain ⟨u0, u1, u2, u3⟩ := z6.cells)
                      refine hK.out _ _ ?_ (fun hHeld => ?_)
                      · exact ⟨i6.cells.1, i6.cells.2.1⟩
                      clear hK K
                      (try simp only [Act.put, List.setIfInBounds_toArray, List.set_cons_zero, List.set_cons_succ])
                      refine wpAnyH_take (i := 19) (v := ?_) (at21_19 _ _ _ _ _ _ _ _ _ _ _ _ _ _ _ _ _ _ _ _ _) (by kernel_rfl) (by kernel_rfl) (by kernel_rfl) (fun _ _ _ h => h) (Or.inl ⟨by rfl, ?_⟩) (by assumption) ?_
                      rotate_left
                      · (intro w9 hSw; (try dsimp only at hSw); go_simp; (try with_reducible rfl))
                      (try simp only [Act.put, List.setIfInBounds_toArray, List.set_cons_zero, List.set_cons_succ])
                      refine wpAnyH_ready (rs := [20]) (by kernel_rfl) (by simp) ?_
                      refine AllReadyH.cons (at21_20 _ _ _ _ _ _ _ _ _ _ _ _ _ _ _ _ _ _ _ _ _) (fun K hK => ?_) ?_
                      ·
                        clear hHeld
                        go_simp
                        refine hK.out _ _ ?_ (fun hHeld => ?_)
                        · exact ⟨(i6.off (p := ⟨X, 1, none⟩) hXneY _).cells.1, (i6.off (p := ⟨X, 1, none⟩) hXneY _).cells.2.1⟩
                        clear hK K
                        (try simp only [Act.put, List.setIfInBounds_toArray, List.set_cons_zero, List.set_cons_succ])
                        refine wpAnyH_done (by kernel_rfl) ?_ _
                        refine NoPanic.normal ?_
                        have F5 := OwnRow.aptS (OwnRow.aptS (OwnRow.drewN F3.out 1) a4 hgW81) a5 hgW81
                        have HSY := HAP2.out.symm
                        have F6 := HSY.keepR F5 g6
                        have AP6 := Lib.hid (HSY.grew F5 g6).symm
                        have eV : ∀ y : Spt, (b ++ [y]).length = b.length + 1 := fun y => by simp
                        rw [eV] at o6 AP6
                        have b6 := g6.below
                        have hs6 := b6.size
                        have zF := Lib.hid (z6.put1 (.slice A6 (b.length + 1) x6))
                        have iF := Lib.hid (i6.off (p := ⟨X, 1, none⟩) hXneY (.slice A6 (b.length + 1) x6))
                        have oF := Lib.hid (o6.off1 hXY 1 (.slice A6 (b.length + 1) x6))
                        have fF := Lib.hid (F6.off1 hXY 1 (.slice A6 (b.length + 1) x6))
                        have bSF := (Below.refl X w6').setCell (p := ⟨X, 1, none⟩) (Nat.le_refl _) (.slice A6 (b.length + 1) x6)
                        have qF := Lib.hid ((q5.belowG b6 hgW8).belowG bSF hgX)
                        have aF := Lib.hid (((((A3'.out.drewN 1).trans a4).trans a5).trans2 b6 hWW).trans2 bSF (by omega))
                        have sF : w8.heap.size ≤ (w6'.setCell ⟨X, 1, none⟩ (.slice A6 (b.length + 1) x6)).heap.size := by simp; omega
                        have SF := Lib.hid sF
                        clear F5 F6 HSY eV b6 bSF o6 z6 i6 g6 q5 a5 a4 q4 z4 z5 i4 i5 t5 c40 c41 c42 c43 c50 c51 c52 c53 e51 sF P1 P2
                        go_wp2_with fail
                        go_roundw
                        case rel => exact ⟨j + 1, _, _, _, _, k5, by omega, by go_num, by have := HLA.out; simp; omega, by have := HLB.out; simp; omega, by omega, by omega, zF.out, iF.out, fF.out, oF.out, AP6.out, qF.out, aF.out, SF.out⟩
                        case measure => simp [intOf]; omega
                      exact AllReadyH.nil
                    exact AllReadyH.nil
                  exact AllReadyH.nil
                exact AllReadyH.nil
              refine AllReadyH.cons (at21_13 _ _ _ _ _ _ _ _ _ _ _ _ _ _ _ _ _ _ _ _ _) (fun K hK => ?_) ?_
              ·
                clear hHeld
                go_simp
                go_at_call 75
                ((with_reducible refine P2.out.mono ?_); rintro e w5 ⟨y2, k5, rfl, hy2, hk5, hj5, q5, a5⟩; have z5 := z4.apg a5 hgX; have i5 := i4.apt a5 hgY; obtain ⟨c50, c51, c52, c53⟩ := z5.cells; have e51 : ∀ o, (w5.alloc o).cell? ⟨X, 1, none⟩ = some (.slice E2 b.length e2) := fun o => (z5.keep ((Below.refl w5.heap.size w5).alloc (Nat.le_refl _) o) z5.lt).cells.2.1; have hs5 : w3.heap.size ≤ w5.heap.size := Nat.le_trans a4.size a5.size; have t5 := OwnRow.aptS (OwnRow.aptS (OwnRow.drewN T3.out 1) a4 hgW81) a5 hgW81)
                go_wp2_with fail
                refine hK.out _ _ ?_ (fun hHeld => ?_)
                · exact ⟨i5.cells.1, i5.cells.2.1⟩
                clear hK K
                (try simp only [Act.put, List.setIfInBounds_toArray, List.set_cons_zero, List.set_cons_succ])
                refine wpAnyH_take (i := 14) (v := ?_) (at21_14 _ _ _ _ _ _ _ _ _ _ _ _ _ _ _ _ _ _ _ _ _) (by kernel_rfl) (by kernel_rfl) (by kernel_rfl) (fun _ _ _ h => h) (Or.inl ⟨by rfl, ?_⟩) (by assumption) ?_
                rotate_left
                · (intro w9 hSw; (try dsimp only at hSw); go_simp; (try with_reducible rfl))
                (try simp only [Act.put, List.setIfInBounds_toArray, List.set_cons_zero, List.set_cons_succ])
                refine wpAnyH_take (i := 15) (v := ?_) (at21_15 _ _ _ _ _ _ _ _ _ _ _ _ _ _ _ _ _ _ _ _ _) (by kernel_rfl) (by kernel_rfl) (by kernel_rfl) (fun _ _ _ h => h) (Or.inl ⟨by rfl, ?_⟩) (by assumption) ?_
                rotate_left
                · (intro w9 hSw; (try dsimp only at hSw); go_simp; (try with_reducible rfl))
                (try simp only [Act.put, List.setIfInBounds_toArray, List.set_cons_zero, List.set_cons_succ])
                refine wpAnyH_take (i := 16) (v := ?_) (at21_16 _ _ _ _ _ _ _ _ _ _ _ _ _ _ _ _ _ _ _ _ _) (by kernel_rfl) (by kernel_rfl) (by kernel_rfl) (fun _ _ _ h => h) (Or.inl ⟨by rfl, ?_⟩) (by assumption) ?_
                rotate_left
                · (intro w9 hSw; (try dsimp only at hSw); go_simp; (try with_reducible rfl))
                (try simp only [Act.put, List.setIfInBounds_toArray, List.set_cons_zero, List.set_cons_succ])
                refine wpAnyH_ready (rs := [1, 17]) (by kernel_rfl) (by simp) ?_
                refine AllReadyH.cons (at21_1 _ _ _ _ _ _ _ _ _ _ _ _ _ _ _ _ _ _ _ _ _) (fun K hK => ?_) ?_
                ·
                  clear hHeld
                  go_simp
                  refine hK.out _ _ ?_ (fun hHeld => ?_)
                  · exact ⟨i5.cells.1, i5.cells.2.1⟩
                  clear hK K
                  (try simp only [Act.put, List.setIfInBounds_toArray, List.set_cons_zero, List.set_cons_succ])
                  refine wpAnyH_ready (rs := [17]) (by kernel_rfl) (by simp) ?_
                  refine AllReadyH.cons (at21_17 _ _ _ _ _ _ _ _ _ _ _ _ _ _ _ _ _ _ _ _ _) (fun K hK => ?_) ?_
                  ·
                    clear hHeld
                    go_simp
                    refine hK.out _ _ ?_ (fun hHeld => ?_)
                    · exact ⟨(BoxS.al i5 _).cells.1, (BoxS.al i5 _).cells.2.1⟩
                    clear hK K
                    (try simp only [Act.put, List.setIfInBounds_toArray, List.set_cons_zero, List.set_cons_succ])
                    refine wpAnyH_ready (rs := [18]) (by kernel_rfl) (by simp) ?_
                    refine AllReadyH.cons (at21_18 _ _ _ _ _ _ _ _ _ _ _ _ _ _ _ _ _ _ _ _ _) (fun K hK => ?_) ?_
                    ·
                      clear hHeld
                      (refine step_app_rec sptRec w5 (by rfl) _ _ 29 _ _ Try.underlying29 info_spt rfl (by omega) (by rfl) w8.heap.size _ b (by rfl) t5 ⟨_, _⟩ _ rfl _ _ rfl (by rfl) rfl n2 (Nat.le_trans hw83 hs5) ?_; intro v6 w6' o6 g6; have z6 := z5.keep g6.below hXY; have i6 := BoxS.mk9 (g6.below.block Y hYY) i5; obtain ⟨A6, x6, rfl, _, _⟩ := o6.reads.shape; obtain ⟨r0, r1, r2, r3⟩ := z6.free; obtain ⟨u0, u1, u2, u3⟩ := z6.cells)
                      refine hK.out _ _ ?_ (fun hHeld => ?_)
                      · exact ⟨i6.cells.1, i6.cells.2.1⟩
                      clear hK K
                      (try simp only [Act.put, List.setIfInBounds_toArray, List.set_cons_zero, List.set_cons_succ])
                      refine wpAnyH_take (i := 19) (v := ?_) (at21_19 _ _ _ _ _ _ _ _ _ _ _ _ _ _ _ _ _ _ _ _ _) (by kernel_rfl) (by kernel_rfl) (by kernel_rfl) (fun _ _ _ h => h) (Or.inl ⟨by rfl, ?_⟩) (by assumption) ?_
                      rotate_left
                      · (intro w9 hSw; (try dsimp only at hSw); go_simp; (try with_reducible rfl))
                      (try simp only [Act.put, List.setIfInBounds_toArray, List.set_cons_zero, List.set_cons_succ])
                      refine wpAnyH_ready (rs := [20]) (by kernel_rfl) (by simp) ?_
                      refine AllReadyH.cons (at21_20 _ _ _ _ _ _ _ _ _ _ _ _ _ _ _ _ _ _ _ _ _) (fun K hK => ?_) ?_
                      ·
                        clear hHeld
                        go_simp
                        refine hK.out _ _ ?_ (fun hHeld => ?_)
                        · exact ⟨(i6.off (p := ⟨X, 1, none⟩) hXneY _).cells.1, (i6.off (p := ⟨X, 1, none⟩) hXneY _).cells.2.1⟩
                        clear hK K
                        (try simp only [Act.put, List.setIfInBounds_toArray, List.set_cons_zero, List.set_cons_succ])
                        refine wpAnyH_done (by kernel_rfl) ?_ _
                        refine NoPanic.normal ?_
                        have F5 := OwnRow.aptS (OwnRow.aptS (OwnRow.drewN F3.out 1) a4 hgW81) a5 hgW81
                        have HSY := HAP2.out.symm
                        have F6 := HSY.keepR F5 g6
                        have AP6 := Lib.hid (HSY.grew F5 g6).symm
                        have eV : ∀ y : Spt, (b ++ [y]).length = b.length + 1 := fun y => by simp
                        rw [eV] at o6 AP6
                        have b6 := g6.below
                        have hs6 := b6.size
                        have zF := Lib.hid (z6.put1 (.slice A6 (b.length + 1) x6))
                        have iF := Lib.hid (i6.off (p := ⟨X, 1, none⟩) hXneY (.slice A6 (b.length + 1) x6))
                        have oF := Lib.hid (o6.off1 hXY 1 (.slice A6 (b.length + 1) x6))
                        have fF := Lib.hid (F6.off1 hXY 1 (.slice A6 (b.length + 1) x6))
                        have bSF := (Below.refl X w6').setCell (p := ⟨X, 1, none⟩) (Nat.le_refl _) (.slice A6 (b.length + 1) x6)
                        have qF := Lib.hid ((q5.belowG b6 hgW8).belowG bSF hgX)
                        have aF := Lib.hid (((((A3'.out.drewN 1).trans a4).trans a5).trans2 b6 hWW).trans2 bSF (by omega))
                        have sF : w8.heap.size ≤ (w6'.setCell ⟨X, 1, none⟩ (.slice A6 (b.length + 1) x6)).heap.size := by simp; omega
                        have SF := Lib.hid sF
                        clear F5 F6 HSY eV b6 bSF o6 z6 i6 g6 q5 a5 a4 q4 z4 z5 i4 i5 t5 c40 c41 c42 c43 c50 c51 c52 c53 e51 sF P1 P2
                        go_wp2_with fail
                        go_roundw
                        case rel => exact ⟨j + 1, _, _, _, _, k5, by omega, by go_num, by have := HLA.out; simp; omega, by have := HLB.out; simp; omega, by omega, by omega, zF.out, iF.out, fF.out, oF.out, AP6.out, qF.out, aF.out, SF.out⟩
                        case measure => simp [intOf]; omega
                      exact AllReadyH.nil
                    exact AllReadyH.nil
                  exact AllReadyH.nil
                refine AllReadyH.cons (at21_17 _ _ _ _ _ _ _ _ _ _ _ _ _ _ _ _ _ _ _ _ _) (fun K hK => ?_) ?_
                ·
                  clear hHeld
                  go_simp
                  refine hK.out _ _ ?_ (fun hHeld => ?_)
                  · exact ⟨(BoxS.al i5 _).cells.1, (BoxS.al i5 _).cells.2.1⟩
                  clear hK K
                  (try simp only [Act.put, List.setIfInBounds_toArray, List.set_cons_zero, List.set_cons_succ])
                  refine wpAnyH_ready (rs := [1]) (by kernel_rfl) (by simp) ?_
                  refine AllReadyH.cons (at21_1 _ _ _ _ _ _ _ _ _ _ _ _ _ _ _ _ _ _ _ _ _) (fun K hK => ?_) ?_
                  ·
                    clear hHeld
                    go_simp
                    refine hK.out _ _ ?_ (fun hHeld => ?_)
                    · exact ⟨(BoxS.al i5 _).cells.1, (BoxS.al i5 _).cells.2.1⟩
                    clear hK K
                    (try simp only [Act.put, List.setIfInBounds_toArray, List.set_cons_zero, List.set_cons_succ])
                    refine wpAnyH_ready (rs := [18]) (by kernel_rfl) (by simp) ?_
                    refine AllReadyH.cons (at21_18 _ _ _ _ _ _ _ _ _ _ _ _ _ _ _ _ _ _ _ _ _) (fun K hK => ?_) ?_
                    ·
                      clear hHeld
                      (refine step_app_rec sptRec w5 (by rfl) _ _ 29 _ _ Try.underlying29 info_spt rfl (by omega) (by rfl) w8.heap.size _ b (by rfl) t5 ⟨_, _⟩ _ rfl _ _ rfl (by rfl) rfl n2 (Nat.le_trans hw83 hs5) ?_; intro v6 w6' o6 g6; have z6 := z5.keep g6.below hXY; have i6 := BoxS.mk9 (g6.below.block Y hYY) i5; obtain ⟨A6, x6, rfl, _, _⟩ := o6.reads.shape; obtain ⟨r0, r1, r2, r3⟩ := z6.free; obtain ⟨u0, u1, u2, u3⟩ := z6.cells)
                      refine hK.out _ _ ?_ (fun hHeld => ?_)
                      · exact ⟨i6.cells.1, i6.cells.2.1⟩
                      clear hK K
                      (try simp only [Act.put, List.setIfInBounds_toArray, List.set_cons_zero, List.set_cons_succ])
                      refine wpAnyH_take (i := 19) (v := ?_) (at21_19 _ _ _ _ _ _ _ _ _ _ _ _ _ _ _ _ _ _ _ _ _) (by kernel_rfl) (by kernel_rfl) (by kernel_rfl) (fun _ _ _ h => h) (Or.inl ⟨by rfl, ?_⟩) (by assumption) ?_
                      rotate_left
                      · (intro w9 hSw; (try dsimp only at hSw); go_simp; (try with_reducible rfl))
                      (try simp only [Act.put, List.setIfInBounds_toArray, List.set_cons_zero, List.set_cons_succ])
                      refine wpAnyH_ready (rs := [20]) (by kernel_rfl) (by simp) ?_
                      refine AllReadyH.cons (at21_20 _ _ _ _ _ _ _ _ _ _ _ _ _ _ _ _ _ _ _ _ _) (fun K hK => ?_) ?_
                      ·
                        clear hHeld
                        go_simp
                        refine hK.out _ _ ?_ (fun hHeld => ?_)
                        · exact ⟨(i6.off (p := ⟨X, 1, none⟩) hXneY _).cells.1, (i6.off (p := ⟨X, 1, none⟩) hXneY _).cells.2.1⟩
                        clear hK K
                        (try simp only [Act.put, List.setIfInBounds_toArray, List.set_cons_zero, List.set_cons_succ])
                        refine wpAnyH_done (by kernel_rfl) ?_ _
                        refine NoPanic.normal ?_
                        have F5 := OwnRow.aptS (OwnRow.aptS (OwnRow.drewN F3.out 1) a4 hgW81) a5 hgW81
                        have HSY := HAP2.out.symm
                        have F6 := HSY.keepR F5 g6
                        have AP6 := Lib.hid (HSY.grew F5 g6).symm
                        have eV : ∀ y : Spt, (b ++ [y]).length = b.length + 1 := fun y => by simp
                        rw [eV] at o6 AP6
                        have b6 := g6.below
                        have hs6 := b6.size
                        have zF := Lib.hid (z6.put1 (.slice A6 (b.length + 1) x6))
                        have iF := Lib.hid (i6.off (p := ⟨X, 1, none⟩) hXneY (.slice A6 (b.length + 1) x6))
                        have oF := Lib.hid (o6.off1 hXY 1 (.slice A6 (b.length + 1) x6))
                        have fF := Lib.hid (F6.off1 hXY 1 (.slice A6 (b.length + 1) x6))
                        have bSF := (Below.refl X w6').setCell (p := ⟨X, 1, none⟩) (Nat.le_refl _) (.slice A6 (b.length + 1) x6)
                        have qF := Lib.hid ((q5.belowG b6 hgW8).belowG bSF hgX)
                        have aF := Lib.hid (((((A3'.out.drewN 1).trans a4).trans a5).trans2 b6 hWW).trans2 bSF (by omega))
                        have sF : w8.heap.size ≤ (w6'.setCell ⟨X, 1, none⟩ (.slice A6 (b.length + 1) x6)).heap.size := by simp; omega
                        have SF := Lib.hid sF
                        clear F5 F6 HSY eV b6 bSF o6 z6 i6 g6 q5 a5 a4 q4 z4 z5 i4 i5 t5 c40 c41 c42 c43 c50 c51 c52 c53 e51 sF P1 P2
                        go_wp2_with fail
                        go_roundw
                        case rel => exact ⟨j + 1, _, _, _, _, k5, by omega, by go_num, by have := HLA.out; simp; omega, by have := HLB.out; simp; omega, by omega, by omega, zF.out, iF.out, fF.out, oF.out, AP6.out, qF.out, aF.out, SF.out⟩
                        case measure => simp [intOf]; omega
                      exact AllReadyH.nil
                    exact AllReadyH.nil
                  exact AllReadyH.nil
                exact AllReadyH.nil
              exact AllReadyH.nil
            exact AllReadyH.nil

          · obtain rfl : j = N := by omega
            have OF := Lib.hid fr
            have OT := Lib.hid tr
            have ZF := Lib.hid zr
            have AF := Lib.hid ar
            have C9 := Lib.hid (matching_any g k v code j (by omega) wr qr (by omega))
            clear fr tr zr ar qr ir hapt
            go_wp2_with fail
            refine C9.out.mono ?_; rintro e w9 ⟨u9, l9, k9, rfl, o9, q9, a9, hl9, hk9, hj9⟩
            have HL9 := Lib.hid hl9
            clear hl9 hla hlb
            obtain ⟨A9, x9, rfl, _, _⟩ := o9.reads.shape
            have z9 := ZF.out.apg a9 hgX
            have of := OF.out.aptS a9 (by omega)
            have ot := OT.out.aptS a9 (by omega)
            have aa9 := AF.out.trans a9
            have hs9 := a9.size
            have O9 : Own3 w9 W.heap.size (.slice E1 a.length e1) (.slice E2 b.length e2) (.slice A9 l9.length x9) ⟨a, b, T.c, l9⟩ := ⟨of.lo hWW, ot.lo hWW, ownsRow_lo o9 (by omega)⟩
            have hN9 : Nx (.slice E1 a.length e1) X ∧ Nx (.slice E2 b.length e2) X ∧ Nx (.slice A9 l9.length x9) X := ⟨ne_of_lo of hXY, ne_of_lo ot hXY, ne_of_lo o9 (by omega)⟩
            have bS := (Below.refl X w9).setCell (p := ⟨X, 3, none⟩) (Nat.le_refl _) (.slice A9 l9.length x9)
            have FIN := Lib.hid (And.intro (O9.off1 (b := X) hN9.1 hN9.2.1 hN9.2.2 3 (.slice A9 l9.length x9)) (And.intro (z9.put3 (.slice A9 l9.length x9)) (And.intro (q9.belowG bS hgX) (aa9.trans2 bS (by omega)))))
            obtain ⟨m0, m1, m2, m3⟩ := z9.cells
            obtain ⟨d0, d1, d2, d3⟩ := z9.free
            clear z9 of ot aa9 O9 bS q9 o9
            go_wp2_with fail
            go_meet
            exact ⟨_, _, _, ⟨a, b, T.c, l9⟩, k9, FIN.out.1, FIN.out.2.1, FIN.out.2.2.1, FIN.out.2.2.2, by omega, by omega, hN9.1, hN9.2.1, hN9.2.2⟩
    case rest =>
      obtain ⟨f9, t9, p9, T9, k9, O9, z9, q9, a9, hk9, hj9, n9, m9, l9⟩ := hcut
      clear o4 z4 q4 a4 hN1
      obtain ⟨w9, hw9⟩ : ∃ w9 : World, w9 = wc := ⟨_, rfl⟩
      subst hw9
      obtain ⟨A1, c1, rfl, _, _⟩ := O9.rf.reads.shape
      obtain ⟨A2, c2, rfl, _, _⟩ := O9.rt.reads.shape
      obtain ⟨A3, c3, rfl, _, _⟩ := O9.rp.reads.shape
      have hs9 := a9.size
      -- the end: the transition in the box X is handed back
      have hfin : ∀ (w9 : World) (x : Int) (k9 : Nat), Own3 w9 W.heap.size (.slice A1 T9.f.length c1) (.slice A2 T9.t.length c2) (.slice A3 T9.p.length c3) ⟨T9.f, T9.t, x, T9.p⟩ → BoxT 31 w9 X (.slice A1 T9.f.length c1) (.slice A2 T9.t.length c2) x (.slice A3 T9.p.length c3) → CurAt w9 g v code k9 → Apg g W w9 → n ≤ k9 → k9 ≤ n + 600000 →
          BoxT 31 w9 w.heap.size (.slice none 0 0) (.slice none 0 0) 0 (.slice none 0 0) ∧
          TrPost w g v code n 600000 (.returned (.agg #[.slice A1 T9.f.length c1, .slice A2 T9.t.length c2, .int .i64 x, .slice A3 T9.p.length c3])) (setT w9 w.heap.size (.slice A1 T9.f.length c1) (.slice A2 T9.t.length c2) x (.slice A3 T9.p.length c3)) := by
        intro w9 x k9 h1 h2 h3 h4 h5 h6
        have hS := HS.out
        have r9 := ZR.out.apg h4 hg
        have bs := below_setT (Below.refl w.heap.size w9) (Nat.le_refl _) (.slice A1 T9.f.length c1) (.slice A2 T9.t.length c2) x (.slice A3 T9.p.length c3)
        have a9 : Apg g w w9 := (Apart.of_below HB.out (Nat.le_refl _)).trans h4
        exact ⟨r9, _, _, _, ⟨T9.f, T9.t, x, T9.p⟩, k9, rfl, (h1.setLo (by omega) (.slice A1 T9.f.length c1) (.slice A2 T9.t.length c2) x (.slice A3 T9.p.length c3)).lo (by omega), h3.belowG bs hg, a9.trans2 bs (Nat.le_refl _), h5, h6⟩
      have HFIN := Lib.hid hfin
      clear hfin
      obtain ⟨m0, m1, m2, m3⟩ := z9.cells
      obtain ⟨x9, hx9⟩ : ∃ x, x = T9.c := ⟨_, rfl⟩
      rw [← hx9] at m2 z9
      have O9' : Own3 w9 W.heap.size (.slice A1 T9.f.length c1) (.slice A2 T9.t.length c2) (.slice A3 T9.p.length c3) ⟨T9.f, T9.t, x9, T9.p⟩ := ⟨O9.rf, O9.rt, O9.rp⟩
      have HO9 := Lib.hid O9'
      have HZ9 := Lib.hid z9
      have HA9 := Lib.hid a9
      have HQ9 := Lib.hid q9
      have HN9 := Lib.hid (And.intro n9 (And.intro m9 l9))
      clear O9 O9' z9 a9 q9 n9 m9 l9 hx9
      by_cases hc : (16 : Int) < x9
      · have C5 := Lib.hid (one_ex g v code 16 k9 w9 (by omega) HQ9.out)
        go_wp2_with fail
        refine C5.out.mono ?_; rintro e w6 ⟨bb, k6, rfl, hk6, hj6, q6, a6⟩
        have o6 := HO9.out.apt a6 (by omega)
        have z6 := HZ9.out.apg a6 hgX
        have aa6 := HA9.out.trans a6
        have hg6 := q6.lt
        have hs6 := aa6.size
        clear C5 a6 m0 m1 m2 m3
        cases bb
        case true =>
          obtain ⟨r9, hpost⟩ := HFIN.out w6 x9 k6 o6 z6 q6 aa6 (by omega) (by omega)
          obtain ⟨m0, m1, m2, m3⟩ := z6.cells
          obtain ⟨s0, s1, s2, s3⟩ := r9.cells
          obtain ⟨d0, d1, d2, d3⟩ := r9.free
          have HPO := Lib.hid hpost
          have rs := (r9.set (.slice A1 T9.f.length c1) (.slice A2 T9.t.length c2) x9 (.slice A3 T9.p.length c3)).cells
          have P9 := Lib.hid rs
          clear hpost r9 rs
          go_wp2_with fail
          obtain ⟨p0, p1, p2, p3⟩ := P9.out
          unfold setT at p0 p1 p2 p3
          exact bodyPost_ret (v := .agg #[.slice A1 T9.f.length c1, .slice A2 T9.t.length c2, .int .i64 x9, .slice A3 T9.p.length c3]) (by simp [results, Try.results57, go_sem, p0, p1, p2, p3]) rfl HPO.out
        case false =>
          have bL := (Below.refl w6.heap.size w6).alloc (Nat.le_refl _) (.cells #[.int .i64 4, .int .i64 8, .int .i64 16] 3)
          have oL := litI w6 (g + 1) 3 #[.int .i64 4, .int .i64 8, .int .i64 16] [4, 8, 16] hg6 rfl rfl rfl (by omega)
          have CA := Lib.hid (among_lit g k6 v _ code [4, 8, 16] _ (q6.belowG bL hg6) (by omega) oL (by simp) (by simp) (fun _ => True) (fun _ _ => trivial))
          have o6b := o6.below bL (Nat.le_refl _)
          have z6b := z6.keep bL z6.lt
          have a6b := aa6.next bL
          clear bL oL o6 z6 aa6 q6
          go_wp2_with fail
          refine CA.out.mono ?_; rintro e w7 ⟨x7, k7, rfl, _, hk7, hj7, q7, a7⟩
          have o7 := o6b.apt a7 (by omega)
          have z7 := z6b.apg a7 hgX
          have aa7 := a6b.trans a7
          have hX7 := z7.lt
          clear o6b z6b a6b a7 CA
          obtain ⟨y0, y1, y2, y3⟩ := z7.cells
          obtain ⟨e0, e1, e2, e3⟩ := z7.free
          have bS := (Below.refl X w7).setCell (p := ⟨X, 2, none⟩) (Nat.le_refl _) (.int .i64 x7)
          have o8 := o7.off1 (b := X) HN9.out.1 HN9.out.2.1 HN9.out.2.2 2 (.int .i64 x7)
          have o8' : Own3 (w7.setCell ⟨X, 2, none⟩ (.int .i64 x7)) W.heap.size (.slice A1 T9.f.length c1) (.slice A2 T9.t.length c2) (.slice A3 T9.p.length c3) ⟨T9.f, T9.t, x7, T9.p⟩ := ⟨o8.rf, o8.rt, o8.rp⟩
          have z8 := z7.put2 x7
          have q8 := q7.belowG bS hgX
          have a8 := aa7.trans2 bS (by omega)
          clear o7 o8 q7 aa7 bS
          go_upto_region 15 with fail
          obtain ⟨w8, hw8⟩ : ∃ W9 : World, W9 = w7.setCell ⟨X, 2, none⟩ (.int .i64 x7) := ⟨_, rfl⟩
          rw [← hw8] at o8' z8 q8 a8
          rw [← hw8]
          clear hw8 z7 hX7 y0 y1 y2 y3 e0 e1 e2 e3
          obtain ⟨r9, hpost⟩ := HFIN.out w8 x7 k7 o8' z8 q8 a8 (by omega) (by omega)
          obtain ⟨m0, m1, m2, m3⟩ := z8.cells
          obtain ⟨s0, s1, s2, s3⟩ := r9.cells
          obtain ⟨d0, d1, d2, d3⟩ := r9.free
          have HPO := Lib.hid hpost
          have rs := (r9.set (.slice A1 T9.f.length c1) (.slice A2 T9.t.length c2) x7 (.slice A3 T9.p.length c3)).cells
          have P9 := Lib.hid rs
          clear hpost r9 rs
          go_wp2_with fail
          obtain ⟨p0, p1, p2, p3⟩ := P9.out
          unfold setT at p0 p1 p2 p3
          exact bodyPost_ret (v := .agg #[.slice A1 T9.f.length c1, .slice A2 T9.t.length c2, .int .i64 x7, .slice A3 T9.p.length c3]) (by simp [results, Try.results57, go_sem, p0, p1, p2, p3]) rfl HPO.out
      · obtain ⟨r9, hpost⟩ := HFIN.out w9 x9 k9 HO9.out HZ9.out HQ9.out HA9.out (by omega) (by omega)
        obtain ⟨s0, s1, s2, s3⟩ := r9.cells
        obtain ⟨d0, d1, d2, d3⟩ := r9.free
        have HPO := Lib.hid hpost
        have rs := (r9.set (.slice A1 T9.f.length c1) (.slice A2 T9.t.length c2) x9 (.slice A3 T9.p.length c3)).cells
        have P9 := Lib.hid rs
        clear hpost r9 rs
        go_wp2_with fail
        obtain ⟨p0, p1, p2, p3⟩ := P9.out
        unfold setT at p0 p1 p2 p3
        exact bodyPost_ret (v := .agg #[.slice A1 T9.f.length c1, .slice A2 T9.t.length c2, .int .i64 x9, .slice A3 T9.p.length c3]) (by simp [results, Try.results57, go_sem, p0, p1, p2, p3]) rfl HPO.out
end Go.Proofs.Ytgcgkpmjahgmnaa
/- The draws of a transition and of a least distance, as the law calls them. -/
set_option linter.unusedSimpArgs false
set_option linter.unusedVariables false
namespace Go.Proofs.Ytgcgkpmjahgmnaa
open Go.RowKit Go.Sort

def DrawnRp (w : World) (e : Ending) (w' : World) : Prop := ∃ (f t p : Value) (T : Tr) (L : Int), e = .returned (.tuple #[.agg #[f, t, .int .i64 T.c, p], .int .i64 L]) ∧ Own3 w' w.heap.size f t p T ∧ Below w.heap.size w w'
theorem BoxT.apl {ty : Nat} {w w' : World} {b g : Nat} {f t : Value} {c : Int} {p : Value} (h : BoxT ty w b f t c p) (ha : Apg g w w') (hb : b < g) : BoxT ty w' b f t c p := (ha.block b h.lt (.inl hb)).trans h
set_option maxRecDepth 100000 in
set_option maxHeartbeats 6400000 in
theorem drawRepairSwap_any (v : Value) (code : List Nat) (w : World) (h : BytesAt w v code) (hw : WfCode code) :
    Calls Try.prog 37 #[v] w (DrawnRp w) := by
  obtain ⟨A, c, rfl, hnc, hc63⟩ := Sl.shape h
  have z0 := BoxT.new 31 w (.slice none 0 0) (.slice none 0 0) 0 (.slice none 0 0)
  have bw := (Below.refl w.heap.size w).alloc (Nat.le_refl _) (.cells #[.slice none 0 0, .slice none 0 0, .int .i64 0, .slice none 0 0] 31)
  have hszv : (w.alloc (.cells #[.slice none 0 0, .slice none 0 0, .int .i64 0, .slice none 0 0] 31)).heap.size = w.heap.size + 1 := by simp
  obtain ⟨wv, hwv⟩ : ∃ wv, wv = w.alloc (.cells #[.slice none 0 0, .slice none 0 0, .int .i64 0, .slice none 0 0] 31) := ⟨_, rfl⟩
  rw [← hwv] at z0 bw hszv
  have HWV := Lib.hid hwv
  clear hwv
  have hv : BytesAt wv (.slice A code.length c) code := h.below bw (Nat.le_refl _)
  obtain ⟨g, hgg⟩ : ∃ g, g = wv.heap.size := ⟨_, rfl⟩
  obtain ⟨B, hBB⟩ : ∃ B, B = w.heap.size := ⟨_, rfl⟩
  have q0 := CurAt.start hv hw
  have hs0 := start_size wv (.slice A code.length c)
  have z1 := z0.keep ((Below.refl wv.heap.size wv).alloc (Nat.le_refl _) (.cells #[.slice A code.length c, .int .i64 0, .int .u64 0] 96)) z0.lt
  obtain ⟨w0, hw0⟩ : ∃ w0, w0 = curW wv (.slice A code.length c) := ⟨_, rfl⟩
  have hfin : ∀ w', Apg g w0 w' → Below w.heap.size w w' := fun w' a => by rw [hgg, hw0] at a; exact bw.next (Nat.le_refl _) (Apart.start a)
  have Hfin := Lib.hid hfin
  have HW9 : Hid (w0 = wv.alloc (.cells #[.slice A code.length c, .int .i64 0, .int .u64 0] 96)) := hw0
  have hw9 := HW9.out
  rw [← hgg, ← hw0] at q0
  rw [← hw0, ← hgg] at hs0
  rw [← hw9] at z1
  rw [← hgg] at hszv
  rw [← hBB] at z1 hszv
  have HG := Lib.hid hgg
  have HB := Lib.hid hBB
  clear hfin hgg hw0 hw9 hBB z0 hv bw h
  have hBg : B < g := by omega
  have hwB : w.heap.size ≤ B := by rw [HB.out]; exact Nat.le_refl _
  have HSZ := Lib.hid hszv
  clear hszv
  have C1 := Lib.hid (repaired_any g 0 _ code w0 q0 (by omega))
  have hB0 : B < w0.heap.size := by omega
  have hgw0 : g < w0.heap.size := by omega
  go_enter Try.func37, Try.ntmps37
  go_upto_region 1 with fail
  rw [← HWV.out]
  go_upto_region 2 with fail
  rw [← HW9.out, ← HG.out]
  go_wp2_with fail
  refine C1.out.mono ?_; rintro e w1 ⟨f1, t1, p1, T, k1, rfl, o1, q1, a1, hk1, hj1⟩
  have z2 := z1.apl a1 hBg
  have C2 := Lib.hid (leastDistance_any g k1 _ code w1 q1 (by omega))
  clear C1 z1 q0
  go_wp2_with fail
  refine C2.out.mono ?_; rintro e w2 ⟨L, k2, rfl, hk2, hj2, q2, a2⟩
  have z3 := z2.apl a2 hBg
  have o2 := o1.apt a2 (by omega)
  have a3 := a1.trans a2
  clear C2 z2 o1 q1 a1 a2
  obtain ⟨A1, c1, rfl, _, _⟩ := o2.rf.reads.shape
  obtain ⟨A2, c2, rfl, _, _⟩ := o2.rt.reads.shape
  obtain ⟨A3, c3, rfl, _, _⟩ := o2.rp.reads.shape
  obtain ⟨s0, s1, s2, s3⟩ := z3.cells
  obtain ⟨d0, d1, d2, d3⟩ := z3.free
  have rs := Lib.hid (z3.set (.slice A1 T.f.length c1) (.slice A2 T.t.length c2) T.c (.slice A3 T.p.length c3)).cells
  have of := Lib.hid ((o2.setLo (b := B) (by omega) (.slice A1 T.f.length c1) (.slice A2 T.t.length c2) T.c (.slice A3 T.p.length c3)).lo (show w.heap.size ≤ w0.heap.size by omega))
  have bf := Lib.hid (below_setT (Hfin.out _ a3) hwB (.slice A1 T.f.length c1) (.slice A2 T.t.length c2) T.c (.slice A3 T.p.length c3))
  clear z3 o2 q2 a3
  rw [← HB.out]
  go_wp2_with fail
  obtain ⟨p0, p1, p2, p3⟩ := rs.out
  unfold setT at p0 p1 p2 p3
  exact bodyPost_ret (v := .tuple #[.agg #[.slice A1 T.f.length c1, .slice A2 T.t.length c2, .int .i64 T.c, .slice A3 T.p.length c3], .int .i64 L]) (by simp [results, Try.results37, go_sem, p0, p1, p2, p3]) rfl ⟨_, _, _, T, L, rfl, of.out, bf.out⟩
set_option maxRecDepth 100000 in
set_option maxHeartbeats 6400000 in
theorem drawRepairKind_any (v : Value) (code : List Nat) (w : World) (h : BytesAt w v code) (hw : WfCode code) :
    Calls Try.prog 10 #[v] w (DrawnRp w) := by
  obtain ⟨A, c, rfl, hnc, hc63⟩ := Sl.shape h
  have z0 := BoxT.new 31 w (.slice none 0 0) (.slice none 0 0) 0 (.slice none 0 0)
  have bw := (Below.refl w.heap.size w).alloc (Nat.le_refl _) (.cells #[.slice none 0 0, .slice none 0 0, .int .i64 0, .slice none 0 0] 31)
  have hszv : (w.alloc (.cells #[.slice none 0 0, .slice none 0 0, .int .i64 0, .slice none 0 0] 31)).heap.size = w.heap.size + 1 := by simp
  obtain ⟨wv, hwv⟩ : ∃ wv, wv = w.alloc (.cells #[.slice none 0 0, .slice none 0 0, .int .i64 0, .slice none 0 0] 31) := ⟨_, rfl⟩
  rw [← hwv] at z0 bw hszv
  have HWV := Lib.hid hwv
  clear hwv
  have hv : BytesAt wv (.slice A code.length c) code := h.below bw (Nat.le_refl _)
  have HBW := Lib.hid bw
  have C1 := Lib.hid (drawRepairSwap_any _ code wv hv hw)
  clear bw h hv
  go_enter Try.func10, Try.ntmps10
  go_upto_region 1 with fail
  rw [← HWV.out]
  go_wp2_with fail
  refine C1.out.mono ?_; rintro e w1 ⟨f1, t1, p1, T, L, rfl, o1, b1⟩
  have z3 := z0.keep b1 z0.lt
  have b2 := HBW.out.next (Nat.le_refl _) b1
  clear C1 z0 b1
  obtain ⟨A1, c1, rfl, _, _⟩ := o1.rf.reads.shape
  obtain ⟨A2, c2, rfl, _, _⟩ := o1.rt.reads.shape
  obtain ⟨A3, c3, rfl, _, _⟩ := o1.rp.reads.shape
  obtain ⟨s0, s1, s2, s3⟩ := z3.cells
  obtain ⟨d0, d1, d2, d3⟩ := z3.free
  have rs := Lib.hid (z3.set (.slice A1 T.f.length c1) (.slice A2 T.t.length c2) T.c (.slice A3 T.p.length c3)).cells
  have of := Lib.hid ((o1.setLo (b := w.heap.size) (by omega) (.slice A1 T.f.length c1) (.slice A2 T.t.length c2) T.c (.slice A3 T.p.length c3)).lo (show w.heap.size ≤ wv.heap.size by omega))
  have bf := Lib.hid (below_setT b2 (Nat.le_refl _) (.slice A1 T.f.length c1) (.slice A2 T.t.length c2) T.c (.slice A3 T.p.length c3))
  clear z3 o1 b2
  go_wp2_with fail
  obtain ⟨p0, p1, p2, p3⟩ := rs.out
  unfold setT at p0 p1 p2 p3
  exact bodyPost_ret (v := .tuple #[.agg #[.slice A1 T.f.length c1, .slice A2 T.t.length c2, .int .i64 T.c, .slice A3 T.p.length c3], .int .i64 L]) (by simp [results, Try.results10, go_sem, p0, p1, p2, p3]) rfl ⟨_, _, _, T, L, rfl, of.out, bf.out⟩
end Go.Proofs.Ytgcgkpmjahgmnaa
