/- Contracts: whether nothing is needed; the first swap that repairs, in the program and in the reference. -/
import Derived.Test.YtgcgkpmjahgmnaaTrC
import Derived.Test.YtgcgkpmjahgmnaaTrS
import Derived.BigRegion
set_option linter.unusedSimpArgs false
set_option linter.unusedVariables false
namespace Go.Proofs.Ytgcgkpmjahgmnaa
open Go.RowKit Go.Sort

theorem zrow_ints (w : World) (base n : Nat) (hb : base ≤ w.heap.size) (hn : n ≤ 1000) : OwnInts (w.alloc (.cells (madeCells #[.int .i64 0] n) 3)) base (.slice (some ⟨w.heap.size, 0, none⟩) n n) (zeros n) := by
  have h := World.ownsRow_lit (base := base) (e := 3) (size := 1) w (madeCells #[.int .i64 0] n) n hb (by simp [maxLen]; omega) (by simp [size_madeCells])
  rw [toList_madeCells_one] at h
  unfold OwnInts
  have e : ints (zeros n) = List.replicate n (.int .i64 0) := by simp [ints, zeros]
  have e2 : (zeros n).length = n := by simp [zeros]
  rw [e, e2]
  exact h
theorem zeros_len (n : Nat) : (zeros n).length = n := by simp [zeros]
set_option maxRecDepth 100000 in
set_option maxHeartbeats 3200000 in
theorem needsNothing_any (f t p : Value) (T : Tr) (L : Int) (w : World) (h : TrAt w f t p T) (hT : isRp T = true) (hL0 : 0 ≤ L) (hL : L ≤ 80) :
    Calls Try.prog 32 #[.agg #[f, t, .int .i64 T.c, p], .int .i64 L] w fun e w' => e = .returned (.bool (needsNo T L)) ∧ Below w.heap.size w w' := by
  obtain ⟨i1, i2, i3, i4⟩ := isRp_t hT
  have bX := (Below.refl w.heap.size w).alloc (Nat.le_refl _) (.cells #[f, t, .int .i64 T.c, p] 31)
  have zT := BoxT.new 31 w f t T.c p
  obtain ⟨W, hW⟩ : ∃ W : World, W = w.alloc (.cells #[f, t, .int .i64 T.c, p] 31) := ⟨_, rfl⟩
  rw [← hW] at bX zT
  have HW := Lib.hid hW
  have ZT := Lib.hid zT
  clear hW zT
  have hX := h.below bX (Nat.le_refl _)
  obtain ⟨A1, c1, e1, g1, hc1⟩ := h.f.shape
  subst e1
  have hzl := fun i => gi_zeros T.f.length i
  have C := Lib.hid (fun W9 (hb : Below W.heap.size W W9) dv (hd : IntsAt W9 dv (zeros T.f.length)) => delayedPairs_any _ t p dv T (zeros T.f.length) L W9 (hX.below hb (Nat.le_refl _)) hT hd (zeros_len _) (fun i _ => by rw [hzl]; omega) hL0 hL)
  have hr : Hid (needsNo T L = decide (closeN T L (zeros T.f.length) = 0)) := rfl
  obtain ⟨N, hN⟩ : ∃ N, N = T.f.length := ⟨_, rfl⟩
  rw [← hN] at C ZT HW hr g1 i3 i4
  rw [← hN]
  have HB := Lib.hid bX
  clear hN hX h bX hzl i1 i2 hT
  have hmk := fun W => run_make_row' (P := Try.prog) 23 3 _ 8 Try.underlying23 info_int rfl .i64 .i64 N (by omega) (by omega) W
  obtain ⟨a0, a1, a2, a3⟩ := ZT.out.cells
  have bd : ∀ o, Below W.heap.size W (W.drew.alloc o) := fun o => ((Below.refl W.heap.size W).drewN 1).alloc (Nat.le_refl _) o
  have BD := Lib.hid bd
  have hz := zrow_ints W.drew W.heap.size N (Nat.le_refl _) (by omega)
  have HZ := Lib.hid hz.reads
  have zz := (ZT.out.keep ((Below.refl W.heap.size W).alloc (Nat.le_refl _) (.cells (madeCells #[.int .i64 0] N) 3)) ZT.out.lt)
  obtain ⟨y0, y1, y2, y3⟩ := zz.cells
  clear bd hz zz
  go_enter Try.func32, Try.ntmps32
  go_upto_region 1 with fail
  rw [← HW.out]
  go_region_law (go_simp; go_at_call 39; refine (C.out _ (BD.out _) _ HZ.out).mono ?_; rintro e w5 ⟨A9, c9, rfl, q1, q2, b9⟩)
  all_goals
    go_wp2_with fail
    go_ret
    exact ⟨ret_bool (by rw [hr.out, Bool.eq_iff_iff]; simp), HB.out.next (Nat.le_refl _) ((BD.out _).next (Nat.le_refl _) b9)⟩
theorem ints_set (l : List Int) (k : Nat) (y : Int) : (ints l).set k (.int .i64 y) = ints (l.set k y) := by unfold ints; rw [List.map_set]
theorem OwnInts.put {w : World} {lo g n c : Nat} {l : List Int} (h : OwnInts w lo (.slice (some ⟨g, 0, none⟩) n c) l) (k : Nat) (y : Int) : OwnInts (w.setCell ⟨g, k, none⟩ (.int .i64 y)) lo (.slice (some ⟨g, 0, none⟩) n c) (l.set k y) := by
  have hn : n = l.length := by
    obtain ⟨A, c', he, _⟩ := Sl.shape (OwnInts.reads h)
    injection he
  subst hn
  have := (World.ownsRow.stored h k (.int .i64 y)).1
  unfold OwnInts
  rw [List.length_set, ← ints_set]
  exact this
theorem OwnInts.lit {w : World} {lo g n c : Nat} {l : List Int} (h : OwnInts w lo (.slice (some ⟨g, 0, none⟩) n c) l) (k : Nat) (hk : k < l.length) : w.cell? ⟨g, k, none⟩ = some (.int .i64 (gi l k)) ∧ w.frozen? ⟨g, k, none⟩ = false := by
  have hn : n = l.length := by
    obtain ⟨A, c', he, _⟩ := Sl.shape (OwnInts.reads h)
    injection he
  subst hn
  refine ⟨?_, World.ownsRow.frozenAt h k⟩
  have h1 : w.cell? ⟨g, k, none⟩ = (ints l)[k]? := World.ownsRow.cellAt (n := l.length) h k (by omega)
  rw [h1]
  unfold ints
  rw [List.getElem?_map, List.getElem?_eq_getElem hk, gi_eq hk]
  rfl
theorem OwnT.put {w : World} {base : Nat} {f t : Value} {g n c : Nat} {T : Tr} (h : OwnT w base f t (.slice (some ⟨g, 0, none⟩) n c) T) (i : Nat) (y : Int) : OwnT (w.setCell ⟨g, i, none⟩ (.int .i64 y)) base f t (.slice (some ⟨g, 0, none⟩) n c) ⟨T.f, T.t, T.c, T.p.set i y⟩ := by
  have n1 : f.ownBlock = none ∨ f.ownBlock ≠ some g := h.pf
  have n2 : t.ownBlock = none ∨ t.ownBlock ≠ some g := h.pt
  exact ⟨World.ownsRow.kept h.rf (grown_set8 w g i _) n1, World.ownsRow.kept h.rt (grown_set8 w g i _) n2, h.rp.put i _, h.pf, h.pt⟩
theorem OwnT.dr {w : World} {base : Nat} {f t p : Value} {T : Tr} (h : OwnT w base f t p T) : OwnT w.drew base f t p T := ⟨h.rf, h.rt, h.rp, h.pf, h.pt⟩
theorem BoxT.dr {ty : Nat} {w : World} {b : Nat} {f t : Value} {c : Int} {p : Value} (h : BoxT ty w b f t c p) : BoxT ty w.drew b f t c p := h
theorem BoxT.off {ty : Nat} {w : World} {b : Nat} {f t : Value} {c : Int} {p : Value} (h : BoxT ty w b f t c p) {g : Nat} (hg : ¬ b = g) (o : Nat) (y : Value) : BoxT ty (w.setCell ⟨g, o, none⟩ y) b f t c p := (heap_setCell_other w _ b y hg).trans h
/-- Two places swapped in a copy of its own. -/
theorem OwnT.swap {w : World} {base : Nat} {f t : Value} {g n c : Nat} {T : Tr} (h : OwnT w base f t (.slice (some ⟨g, 0, none⟩) n c) T) (i k : Nat) : OwnT ((w.setCell ⟨g, i, none⟩ (.int .i64 (gi T.p k))).setCell ⟨g, k, none⟩ (.int .i64 (gi T.p i))) base f t (.slice (some ⟨g, 0, none⟩) n c) (swapT T i k) := by
  have n1 : f.ownBlock = none ∨ f.ownBlock ≠ some g := h.pf
  have n2 : t.ownBlock = none ∨ t.ownBlock ≠ some g := h.pt
  exact ⟨World.ownsRow.kept (World.ownsRow.kept h.rf (grown_set8 w g i _) n1) (grown_set8 _ g k _) n1, World.ownsRow.kept (World.ownsRow.kept h.rt (grown_set8 w g i _) n2) (grown_set8 _ g k _) n2, (h.rp.put i _).put k _, h.pf, h.pt⟩

set_option maxRecDepth 100000 in
set_option maxHeartbeats 6400000 in
theorem swapPlaces_any (f t p : Value) (T : Tr) (i k : Nat) (w : World) (h : TrAt w f t p T) (hT : isTr T = true) (hi : i < T.f.length) (hk : k < T.f.length) (hik : i < k) :
    Calls Try.prog 42 #[.agg #[f, t, .int .i64 T.c, p], .int .i64 (i : Int), .int .i64 (k : Int)] w (CopyT w (swapT T i k) T.c) := by
  obtain ⟨i1, i2, i3, i4, i5, i6⟩ := isTr_t hT
  have hlf := isChart_t i1
  have hpl := (isMat_t i6).1
  have bX := ((Below.refl w.heap.size w).alloc (Nat.le_refl _) (.cells #[f, t, .int .i64 T.c, p] 31)).alloc (by simp) (.cells #[.slice none 0 0, .slice none 0 0, .int .i64 0, .slice none 0 0] 31)
  have zT := (BoxT.new 31 w f t T.c p).keep ((Below.refl (w.alloc (.cells #[f, t, .int .i64 T.c, p] 31)).heap.size (w.alloc (.cells #[f, t, .int .i64 T.c, p] 31))).alloc (Nat.le_refl _) (.cells #[.slice none 0 0, .slice none 0 0, .int .i64 0, .slice none 0 0] 31)) (by simp)
  have zR := BoxT.new 31 (w.alloc (.cells #[f, t, .int .i64 T.c, p] 31)) (.slice none 0 0) (.slice none 0 0) 0 (.slice none 0 0)
  have hs1 : (w.alloc (.cells #[f, t, .int .i64 T.c, p] 31)).heap.size = w.heap.size + 1 := by simp
  rw [hs1] at zR
  obtain ⟨W, hW⟩ : ∃ W : World, W = (w.alloc (.cells #[f, t, .int .i64 T.c, p] 31)).alloc (.cells #[.slice none 0 0, .slice none 0 0, .int .i64 0, .slice none 0 0] 31) := ⟨_, rfl⟩
  have hsW : W.heap.size = w.heap.size + 2 := by rw [hW]; simp
  rw [← hW] at bX zT zR
  have HW := Lib.hid hW
  have ZT := Lib.hid zT
  have ZR := Lib.hid zR
  have HS := Lib.hid hsW
  clear hW zT zR hs1 hsW
  have hX := h.below bX (Nat.le_refl _)
  have HX := Lib.hid hX
  have C := Lib.hid (newTr_any f t p T T.c W hX (by omega) (by omega) (by omega))
  obtain ⟨A3, c3, e3, g3, hc3⟩ := h.p.shape
  subst e3
  obtain ⟨N, hN⟩ : ∃ N, N = T.f.length := ⟨_, rfl⟩
  have h3 : T.p.length = N := by rw [hN]; exact hpl
  rw [← hN] at hi hk
  rw [h3] at C ZT HW g3 HX
  rw [h3]
  have H3 := Lib.hid h3
  have HB := Lib.hid bX
  clear hX h bX i1 i2 i3 i4 i5 i6 hT hlf hpl hN h3
  go_enter Try.func42, Try.ntmps42
  go_upto_region 1 with fail
  rw [← HW.out]
  obtain ⟨a0, a1, a2, a3⟩ := ZT.out.cells
  go_wp2_with fail
  refine C.out.mono ?_; rintro e w3 ⟨f', t', p', rfl, o3, b3⟩
  obtain ⟨A1, x1, rfl, _, _⟩ := o3.rf.reads.shape
  obtain ⟨A2, x2, rfl, _, _⟩ := o3.rt.reads.shape
  obtain ⟨g, x3, hp', hbg, _⟩ := World.ownsRow.form o3.rp (by rw [H3.out]; omega)
  rw [H3.out] at hp'
  subst hp'
  have hgl : g < w3.heap.size := (World.ownsRow.lt o3.rp g rfl).2
  have zB := BoxT.new 31 w3 (.slice A1 T.f.length x1) (.slice A2 T.t.length x2) T.c (.slice (some ⟨g, 0, none⟩) N x3)
  have bL := (Below.refl w3.heap.size w3).alloc (Nat.le_refl _) (.cells #[.slice A1 T.f.length x1, .slice A2 T.t.length x2, .int .i64 T.c, .slice (some ⟨g, 0, none⟩) N x3] 31)
  have o4 := o3.keep bL (Nat.le_refl _)
  have b4 := b3.trans (bL.mono b3.size)
  obtain ⟨B, hB⟩ : ∃ B, B = w3.heap.size := ⟨_, rfl⟩
  have hBW : W.heap.size ≤ B := by rw [hB]; exact b3.size
  obtain ⟨w4, hw4⟩ : ∃ W9 : World, W9 = w3.alloc (.cells #[.slice A1 T.f.length x1, .slice A2 T.t.length x2, .int .i64 T.c, .slice (some ⟨g, 0, none⟩) N x3] 31) := ⟨_, rfl⟩
  rw [← hw4] at zB bL o4 b4
  have HW4 := Lib.hid hw4
  clear a0 a1 a2 a3 hw4 C b3 o3
  go_upto_region 2 with fail
  rw [← HW4.out]
  rw [← hB] at zB hgl
  rw [← hB]
  clear hB bL HW4
  obtain ⟨y0, y1, y2, y3⟩ := zB.cells
  have hgB : ¬ g = B := by omega
  have hBg : ¬ B = g := by omega
  have hik1 : ¬ i = k := by omega
  have hik2 : ¬ k = i := by omega
  obtain ⟨hci, hfi⟩ := OwnInts.lit o4.rp i (by rw [H3.out]; exact hi)
  obtain ⟨hck, hfk⟩ := OwnInts.lit o4.rp k (by rw [H3.out]; exact hk)
  have hw9 : W.heap.size ≤ g := hbg
  obtain ⟨P, hP⟩ : ∃ z, z = gi T.p i := ⟨_, rfl⟩
  obtain ⟨Q, hQ⟩ : ∃ z, z = gi T.p k := ⟨_, rfl⟩
  rw [← hP] at hci
  rw [← hQ] at hck

  have HP := Lib.hid hP
  have HQ := Lib.hid hQ
  have O4 := Lib.hid o4
  have B4 := Lib.hid b4
  have Z4 := Lib.hid zB
  have HG := Lib.hid hbg
  clear hP hQ o4 b4 zB hbg hw9
  go_big_region
  obtain ⟨w7, hw7⟩ : ∃ W9 : World, W9 = ((w4.setCell ⟨g, i, none⟩ (.int .i64 Q)).setCell ⟨g, k, none⟩ (.int .i64 P)).drew := ⟨_, rfl⟩
  have o7 : OwnT w7 W.heap.size (.slice A1 T.f.length x1) (.slice A2 T.t.length x2) (.slice (some ⟨g, 0, none⟩) N x3) (swapT T i k) := by
    rw [hw7]
    have h9 := ((O4.out.put i Q).put k P).dr
    rw [HP.out, HQ.out] at h9 ⊢
    exact h9
  have b7 : Below W.heap.size W w7 := by rw [hw7]; exact ((B4.out.setCell (p := ⟨g, i, none⟩) HG.out _).setCell (p := ⟨g, k, none⟩) HG.out _).drewN 1
  have z7 : BoxT 31 w7 B (.slice A1 T.f.length x1) (.slice A2 T.t.length x2) T.c (.slice (some ⟨g, 0, none⟩) N x3) := by rw [hw7]; exact ((Z4.out.off hBg i _).off hBg k _).dr
  rw [← hw7]
  clear hw7 hci hck hfi hfk y0 y1 y2 y3
  have r7 := ZR.out.keep b7 (show w.heap.size + 1 < W.heap.size by have := HS.out; omega)
  obtain ⟨q0, q1, q2, q3⟩ := r7.cells
  obtain ⟨d0, d1, d2, d3⟩ := r7.free
  obtain ⟨s0, s1, s2, s3⟩ := z7.cells
  have hS : w.heap.size + 1 < W.heap.size := by have := HS.out; omega
  have fin := (o7.setHi (.inl hS) (.slice A1 T.f.length x1) (.slice A2 T.t.length x2) T.c (.slice (some ⟨g, 0, none⟩) N x3)).lo (show w.heap.size ≤ W.heap.size by omega)
  have bfin := below_setT (HB.out.next (Nat.le_refl _) b7) (show w.heap.size ≤ w.heap.size + 1 by omega) (.slice A1 T.f.length x1) (.slice A2 T.t.length x2) T.c (.slice (some ⟨g, 0, none⟩) N x3)
  have FIN := Lib.hid fin
  have BFIN := Lib.hid bfin
  obtain ⟨p0, p1, p2, p3⟩ := (r7.set (.slice A1 T.f.length x1) (.slice A2 T.t.length x2) T.c (.slice (some ⟨g, 0, none⟩) N x3)).cells
  have P9 := Lib.hid (And.intro p0 (And.intro p1 (And.intro p2 p3)))
  clear fin bfin o7 b7 z7 r7 p0 p1 p2 p3 hS
  go_wp2_with fail
  obtain ⟨p0, p1, p2, p3⟩ := P9.out
  unfold setT at p0 p1 p2 p3
  exact bodyPost_ret (v := .agg #[.slice A1 T.f.length x1, .slice A2 T.t.length x2, .int .i64 T.c, .slice (some ⟨g, 0, none⟩) N x3]) (by simp [results, Try.results42, go_sem, p0, p1, p2, p3]) rfl ⟨_, _, _, rfl, FIN.out, BFIN.out⟩
set_option maxRecDepth 100000 in
set_option maxHeartbeats 6400000 in
theorem asSwap_any (f t p : Value) (T : Tr) (i k : Nat) (w : World) (h : TrAt w f t p T) (hT : isTr T = true) (hi : i < T.f.length) (hk : k < T.f.length) (hik : i < k) :
    Calls Try.prog 44 #[.agg #[f, t, .int .i64 T.c, p], .int .i64 (i : Int), .int .i64 (k : Int)] w (CopyT w (swapT T i k) T.c) := by
  obtain ⟨i1, i2, i3, i4, i5, i6⟩ := isTr_t hT
  have hlf := isChart_t i1
  have hpl := (isMat_t i6).1
  have bX := ((Below.refl w.heap.size w).alloc (Nat.le_refl _) (.cells #[f, t, .int .i64 T.c, p] 31)).alloc (by simp) (.cells #[.slice none 0 0, .slice none 0 0, .int .i64 0, .slice none 0 0] 31)
  have zT := (BoxT.new 31 w f t T.c p).keep ((Below.refl (w.alloc (.cells #[f, t, .int .i64 T.c, p] 31)).heap.size (w.alloc (.cells #[f, t, .int .i64 T.c, p] 31))).alloc (Nat.le_refl _) (.cells #[.slice none 0 0, .slice none 0 0, .int .i64 0, .slice none 0 0] 31)) (by simp)
  have zR := BoxT.new 31 (w.alloc (.cells #[f, t, .int .i64 T.c, p] 31)) (.slice none 0 0) (.slice none 0 0) 0 (.slice none 0 0)
  have hs1 : (w.alloc (.cells #[f, t, .int .i64 T.c, p] 31)).heap.size = w.heap.size + 1 := by simp
  rw [hs1] at zR
  obtain ⟨W, hW⟩ : ∃ W : World, W = (w.alloc (.cells #[f, t, .int .i64 T.c, p] 31)).alloc (.cells #[.slice none 0 0, .slice none 0 0, .int .i64 0, .slice none 0 0] 31) := ⟨_, rfl⟩
  have hsW : W.heap.size = w.heap.size + 2 := by rw [hW]; simp
  rw [← hW] at bX zT zR
  have HW := Lib.hid hW
  have ZT := Lib.hid zT
  have ZR := Lib.hid zR
  have HS := Lib.hid hsW
  clear hW zT zR hs1 hsW
  have hX := h.below bX (Nat.le_refl _)
  have HX := Lib.hid hX
  have C := Lib.hid (asWith_any f t p T T.c W hX (by omega) (by omega) (by omega))
  obtain ⟨A3, c3, e3, g3, hc3⟩ := h.p.shape
  subst e3
  obtain ⟨N, hN⟩ : ∃ N, N = T.f.length := ⟨_, rfl⟩
  have h3 : T.p.length = N := by rw [hN]; exact hpl
  rw [← hN] at hi hk
  rw [h3] at C ZT HW g3 HX
  rw [h3]
  have H3 := Lib.hid h3
  have HB := Lib.hid bX
  clear hX h bX i1 i2 i3 i4 i5 i6 hT hlf hpl hN h3
  go_enter Try.func44, Try.ntmps44
  go_upto_region 1 with fail
  rw [← HW.out]
  obtain ⟨a0, a1, a2, a3⟩ := ZT.out.cells
  go_wp2_with fail
  refine C.out.mono ?_; rintro e w3 ⟨f', t', p', rfl, o3, b3⟩
  obtain ⟨A1, x1, rfl, _, _⟩ := o3.rf.reads.shape
  obtain ⟨A2, x2, rfl, _, _⟩ := o3.rt.reads.shape
  obtain ⟨g, x3, hp', hbg, _⟩ := World.ownsRow.form o3.rp (by rw [H3.out]; omega)
  rw [H3.out] at hp'
  subst hp'
  have hgl : g < w3.heap.size := (World.ownsRow.lt o3.rp g rfl).2
  have zB := BoxT.new 31 w3 (.slice A1 T.f.length x1) (.slice A2 T.t.length x2) T.c (.slice (some ⟨g, 0, none⟩) N x3)
  have bL := (Below.refl w3.heap.size w3).alloc (Nat.le_refl _) (.cells #[.slice A1 T.f.length x1, .slice A2 T.t.length x2, .int .i64 T.c, .slice (some ⟨g, 0, none⟩) N x3] 31)
  have o4 := o3.keep bL (Nat.le_refl _)
  have b4 := b3.trans (bL.mono b3.size)
  obtain ⟨B, hB⟩ : ∃ B, B = w3.heap.size := ⟨_, rfl⟩
  have hBW : W.heap.size ≤ B := by rw [hB]; exact b3.size
  obtain ⟨w4, hw4⟩ : ∃ W9 : World, W9 = w3.alloc (.cells #[.slice A1 T.f.length x1, .slice A2 T.t.length x2, .int .i64 T.c, .slice (some ⟨g, 0, none⟩) N x3] 31) := ⟨_, rfl⟩
  rw [← hw4] at zB bL o4 b4
  have HW4 := Lib.hid hw4
  clear a0 a1 a2 a3 hw4 C b3 o3
  go_upto_region 2 with fail
  rw [← HW4.out]
  rw [← hB] at zB hgl
  rw [← hB]
  clear hB bL HW4
  obtain ⟨y0, y1, y2, y3⟩ := zB.cells
  have hgB : ¬ g = B := by omega
  have hBg : ¬ B = g := by omega
  have hik1 : ¬ i = k := by omega
  have hik2 : ¬ k = i := by omega
  obtain ⟨hci, hfi⟩ := OwnInts.lit o4.rp i (by rw [H3.out]; exact hi)
  obtain ⟨hck, hfk⟩ := OwnInts.lit o4.rp k (by rw [H3.out]; exact hk)
  have hw9 : W.heap.size ≤ g := hbg
  obtain ⟨P, hP⟩ : ∃ z, z = gi T.p i := ⟨_, rfl⟩
  obtain ⟨Q, hQ⟩ : ∃ z, z = gi T.p k := ⟨_, rfl⟩
  rw [← hP] at hci
  rw [← hQ] at hck
  obtain ⟨z0, z1, z2, z3⟩ := (ZT.out.keep b4 ZT.out.lt).cells
  have d3 := HX.out.p.below b4 (Nat.le_refl _)
  obtain ⟨b9, o9, rfl, hdi⟩ := IntsAt.at_ d3 i (by rw [H3.out]; exact hi)
  obtain ⟨b9', o9', heq, hdk⟩ := IntsAt.at_ d3 k (by rw [H3.out]; exact hk)
  injection heq with heq
  injection heq with e1 e2
  subst e1 e2
  rw [← hP] at hdi
  rw [← hQ] at hdk
  clear d3
  have HP := Lib.hid hP
  have HQ := Lib.hid hQ
  have O4 := Lib.hid o4
  have B4 := Lib.hid b4
  have Z4 := Lib.hid zB
  have HG := Lib.hid hbg
  clear hP hQ o4 b4 zB hbg hw9
  go_big_region
  have hk5 : (w4.setCell ⟨g, i, none⟩ (.int .i64 Q)).drew.frozen? ⟨g, k, none⟩ = false := (OwnInts.lit (O4.out.put i Q).dr.rp k (by rw [List.length_set, H3.out]; exact hk)).2
  obtain ⟨_u, hck5⟩ : ∃ u, (w4.setCell ⟨g, i, none⟩ (.int .i64 Q)).drew.cell? ⟨g, k, none⟩ = some u := ⟨_, (OwnInts.lit (O4.out.put i Q).dr.rp k (by rw [List.length_set, H3.out]; exact hk)).1⟩
  obtain ⟨w5, hw5⟩ : ∃ W9 : World, W9 = (w4.setCell ⟨g, i, none⟩ (.int .i64 Q)).drew := ⟨_, rfl⟩
  have o5 : OwnT w5 W.heap.size (.slice A1 T.f.length x1) (.slice A2 T.t.length x2) (.slice (some ⟨g, 0, none⟩) N x3) ⟨T.f, T.t, T.c, T.p.set i Q⟩ := by rw [hw5]; exact (O4.out.put i Q).dr
  have b5 : Below W.heap.size W w5 := by rw [hw5]; exact (B4.out.setCell (p := ⟨g, i, none⟩) HG.out _).drewN 1
  have z5 : BoxT 31 w5 B (.slice A1 T.f.length x1) (.slice A2 T.t.length x2) T.c (.slice (some ⟨g, 0, none⟩) N x3) := by rw [hw5]; exact (Z4.out.off hBg i _).dr
  rw [← hw5] at hk5 hck5
  rw [← hw5]
  have O5 := Lib.hid o5
  have B5 := Lib.hid b5
  have Z5 := Lib.hid z5
  obtain ⟨v0, v1, v2, v3⟩ := z5.cells
  obtain ⟨u0, u1, u2, u3⟩ := (ZT.out.keep b5 ZT.out.lt).cells
  have d5 := HX.out.p.below b5 (Nat.le_refl _)
  obtain ⟨b9', o9', heq, hdi5⟩ := IntsAt.at_ d5 i (by rw [H3.out]; exact hi)
  injection heq with heq
  injection heq with e1 e2
  subst e1 e2
  rw [← HP.out] at hdi5
  clear hw5 hci hck hfi hfk y0 y1 y2 y3 z0 z1 z2 z3 hdi hdk o5 b5 z5 d5
  go_upto_region 3 with fail
  go_big_region
  obtain ⟨w7, hw7⟩ : ∃ W9 : World, W9 = (w5.setCell ⟨g, k, none⟩ (.int .i64 P)).drew := ⟨_, rfl⟩
  have o7 : OwnT w7 W.heap.size (.slice A1 T.f.length x1) (.slice A2 T.t.length x2) (.slice (some ⟨g, 0, none⟩) N x3) (swapT T i k) := by
    rw [hw7]
    have h9 := (O5.out.put k P).dr
    rw [HP.out, HQ.out] at h9
    rw [HP.out]
    exact h9
  have b7 : Below W.heap.size W w7 := by rw [hw7]; exact (B5.out.setCell (p := ⟨g, k, none⟩) HG.out _).drewN 1
  have z7 : BoxT 31 w7 B (.slice A1 T.f.length x1) (.slice A2 T.t.length x2) T.c (.slice (some ⟨g, 0, none⟩) N x3) := by rw [hw7]; exact (Z5.out.off hBg k _).dr
  rw [← hw7]
  clear hw7 hk5 hck5 v0 v1 v2 v3 u0 u1 u2 u3 hdi5
  have r7 := ZR.out.keep b7 (show w.heap.size + 1 < W.heap.size by have := HS.out; omega)
  obtain ⟨q0, q1, q2, q3⟩ := r7.cells
  obtain ⟨d0, d1, d2, d3⟩ := r7.free
  obtain ⟨s0, s1, s2, s3⟩ := z7.cells
  have hS : w.heap.size + 1 < W.heap.size := by have := HS.out; omega
  have fin := (o7.setHi (.inl hS) (.slice A1 T.f.length x1) (.slice A2 T.t.length x2) T.c (.slice (some ⟨g, 0, none⟩) N x3)).lo (show w.heap.size ≤ W.heap.size by omega)
  have bfin := below_setT (HB.out.next (Nat.le_refl _) b7) (show w.heap.size ≤ w.heap.size + 1 by omega) (.slice A1 T.f.length x1) (.slice A2 T.t.length x2) T.c (.slice (some ⟨g, 0, none⟩) N x3)
  have FIN := Lib.hid fin
  have BFIN := Lib.hid bfin
  obtain ⟨p0, p1, p2, p3⟩ := (r7.set (.slice A1 T.f.length x1) (.slice A2 T.t.length x2) T.c (.slice (some ⟨g, 0, none⟩) N x3)).cells
  have P9 := Lib.hid (And.intro p0 (And.intro p1 (And.intro p2 p3)))
  clear fin bfin o7 b7 z7 r7 p0 p1 p2 p3 hS
  go_wp2_with fail
  obtain ⟨p0, p1, p2, p3⟩ := P9.out
  unfold setT at p0 p1 p2 p3
  exact bodyPost_ret (v := .agg #[.slice A1 T.f.length x1, .slice A2 T.t.length x2, .int .i64 T.c, .slice (some ⟨g, 0, none⟩) N x3]) (by simp [results, Try.results44, go_sem, p0, p1, p2, p3]) rfl ⟨_, _, _, rfl, FIN.out, BFIN.out⟩
end Go.Proofs.Ytgcgkpmjahgmnaa
