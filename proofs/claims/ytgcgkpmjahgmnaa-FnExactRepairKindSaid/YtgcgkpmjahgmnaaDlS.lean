/- Contract: who stays apart, in the reference: a table that is filled when asked. -/
import Derived.Test.YtgcgkpmjahgmnaaDlF
set_option linter.unusedSimpArgs false
set_option linter.unusedVariables false
namespace Go.Proofs.Ytgcgkpmjahgmnaa
open Go.RowKit Go.Sort

def knV (b : Bool) : Int := if b then 2 else 1
def Known (C : Tb) (N : Nat) (cur : Array Value) : Prop := ∀ i k p q, i < k → k < N → p < 5 → q < 5 → ∃ v : Int, cur[2 + ix i k p q]? = some (.int .i64 v) ∧ (v = 0 ∨ v = knV (C i k p q))
/-- The block of the reference's search. -/
def RsAt (w : World) (b : Nat) (C : Tb) (N : Nat) (mv : Value) (L : Int) : Prop := ∃ cur : Array Value, w.heap[b]? = some (.cells cur 80 (0, 0)) ∧ cur.size = 902 ∧ Known C N cur ∧ cur[0]? = some mv ∧ cur[1]? = some (.int .i64 L)
theorem zero80 : Try.zeroCells80.toList = .slice none 0 0 :: List.replicate 901 (Value.int .i64 0) := by kernel_rfl
theorem z80_at (j : Nat) (hj : j < 901) : Try.zeroCells80[1 + j]? = some (.int .i64 0) := by
  rw [← Array.getElem?_toList, zero80, Nat.add_comm, List.getElem?_cons_succ, List.getElem?_replicate, if_pos hj]
theorem z80_size : Try.zeroCells80.size = 902 := by
  rw [← Array.length_toList, zero80, List.length_cons, List.length_replicate]
theorem RsAt.new (w : World) (C : Tb) (N : Nat) (hN : N ≤ 6) (mv : Value) (L : Int) : RsAt (w.alloc (.cells ((Try.zeroCells80.setIfInBounds 0 mv).setIfInBounds 1 (.int .i64 L)) 80)) w.heap.size C N mv L := by
  refine ⟨(Try.zeroCells80.setIfInBounds 0 mv).setIfInBounds 1 (.int .i64 L), by show (w.heap.push _)[w.heap.size]? = _; rw [Array.getElem?_push_size], by rw [Array.size_setIfInBounds, Array.size_setIfInBounds, z80_size], fun i k p q h1 h2 h3 h4 => ⟨0, ?_, .inl rfl⟩, ?_, ?_⟩
  · have hx : ix i k p q < 900 := by unfold ix; omega
    rw [Array.getElem?_setIfInBounds_ne (by omega), Array.getElem?_setIfInBounds_ne (by omega)]
    have := z80_at (1 + ix i k p q) (by omega)
    rw [show 1 + (1 + ix i k p q) = 2 + ix i k p q from by omega] at this
    exact this
  · rw [Array.getElem?_setIfInBounds_ne (by omega), Array.getElem?_setIfInBounds_self_of_lt (by rw [z80_size]; omega)]
  · rw [Array.getElem?_setIfInBounds_self_of_lt (by rw [Array.size_setIfInBounds, z80_size]; omega)]
theorem RsAt.lt {w : World} {b : Nat} {C : Tb} {N : Nat} {mv : Value} {L : Int} (h : RsAt w b C N mv L) : b < w.heap.size := by
  obtain ⟨cur, h1, _⟩ := h
  exact (Array.getElem?_eq_some_iff.1 h1).1
theorem RsAt.keep {w w' : World} {b B : Nat} {C : Tb} {N : Nat} {mv : Value} {L : Int} (h : RsAt w b C N mv L) (hb : Below B w w') (hB : b < B) : RsAt w' b C N mv L := by
  obtain ⟨cur, h1, h2⟩ := h
  exact ⟨cur, (hb.block b hB).trans h1, h2⟩
theorem RsAt.cells {w : World} {b : Nat} {C : Tb} {N : Nat} {mv : Value} {L : Int} (h : RsAt w b C N mv L) : w.cell? ⟨b, 0, none⟩ = some mv ∧ w.cell? ⟨b, 1, none⟩ = some (.int .i64 L) := by
  obtain ⟨cur, h1, h2, h3, h4, h5⟩ := h
  exact ⟨by rw [cell_of_row w b 0 _ _ _ h1]; exact h4, by rw [cell_of_row w b 1 _ _ _ h1]; exact h5⟩
theorem RsAt.at_ {w : World} {b : Nat} {C : Tb} {N : Nat} {mv : Value} {L : Int} (h : RsAt w b C N mv L) {i k p q : Nat} (hik : i < k) (hk : k < N) (hp : p < 5) (hq : q < 5) : w.frozen? ⟨b, 2 + ix i k p q, none⟩ = false ∧ ∃ v : Int, w.cell? ⟨b, 2 + ix i k p q, none⟩ = some (.int .i64 v) ∧ (v = 0 ∨ v = knV (C i k p q)) := by
  obtain ⟨cur, h1, h2, h3, _⟩ := h
  obtain ⟨v, hv, hc⟩ := h3 i k p q hik hk hp hq
  exact ⟨frozen_of_row w b _ _ _ h1, v, by rw [cell_of_row w b _ _ _ _ h1]; exact hv, hc⟩
theorem RsAt.put {w : World} {b : Nat} {C : Tb} {N i k p q : Nat} {mv : Value} {L : Int} (h : RsAt w b C N mv L) (hik : i < k) (hk : k < N) (hN : N ≤ 6) (hp : p < 5) (hq : q < 5) : RsAt (w.setCell ⟨b, 2 + ix i k p q, none⟩ (.int .i64 (knV (C i k p q)))) b C N mv L := by
  obtain ⟨cur, h1, h2, h3, h4, h5⟩ := h
  have hx : ix i k p q < 900 := by unfold ix; omega
  refine ⟨_, heap_setCell_same w b _ _ _ _ h1, by rw [Array.size_setIfInBounds]; exact h2, fun i' k' p' q' a1 a2 a3 a4 => ?_, ?_, ?_⟩
  · by_cases e : ix i k p q = ix i' k' p' q'
    · obtain ⟨rfl, rfl, rfl, rfl⟩ := ix_inj (by omega) hp hq (by omega) a3 a4 e
      exact ⟨_, Array.getElem?_setIfInBounds_self_of_lt (by omega), .inr rfl⟩
    · rw [Array.getElem?_setIfInBounds_ne (by omega)]; exact h3 i' k' p' q' a1 a2 a3 a4
  · rw [Array.getElem?_setIfInBounds_ne (by omega)]; exact h4
  · rw [Array.getElem?_setIfInBounds_ne (by omega)]; exact h5
def FitPost (w : World) (B : Nat) (C : Tb) (N : Nat) (mv : Value) (L : Int) (r : Bool) (e : Ending) (w' : World) : Prop := e = .returned (.bool r) ∧ Apg B w w' ∧ RsAt w' B C N mv L
set_option maxRecDepth 100000 in
set_option maxHeartbeats 12800000 in
theorem fits_any (T : Tr) (L : Int) (hT : isRp T = true) (hL0 : 0 ≤ L) (hL : L ≤ 80) (N B : Nat) (hNT : N = T.f.length) (w1 : World) (mv : Value) (hm : RowAt mvRec w1 mv (mvsOf T)) (hwB : w1.heap.size ≤ B)
    (i k p q : Nat) (hik : i < k) (hk : k < N) (hp : p < 5) (hq : q < 5) (w : World) (hR : RsAt w B (tbOf (clOf T L)) N mv L) (hb : Below w1.heap.size w1 w) :
    Calls Try.prog 67 #[.pointer (some ⟨B, 0, none⟩), .int .i64 (i : Int), .int .i64 (k : Int), .int .i64 (p : Int), .int .i64 (q : Int)] w (FitPost w B (tbOf (clOf T L)) N mv L (!tbOf (clOf T L) i k p q)) := by
  obtain ⟨i1, i2, i3, i4⟩ := isRp_t hT
  have hpl := (isMat_t (isTr_t i1).2.2.2.2.2).1
  rw [← hNT] at i3 i4 hpl
  have gi' := mvOf_good i1 i2 (i := i) (by omega)
  have gk' := mvOf_good i1 i2 (i := k) (by omega)
  have hmi : gx mvRec (mvsOf T) i = mvOf T i := gx_mvsOf (by omega)
  have hmk : gx mvRec (mvsOf T) k = mvOf T k := gx_mvsOf (by omega)
  have hml : (mvsOf T).length = N := by rw [mvsOf_len]; exact hpl
  obtain ⟨Am, cm, rfl, gm, hcm⟩ := hm.shape
  rw [hml] at hm gm hR
  rw [hml]
  obtain ⟨bm, om_, rfl, m0, m1, m2, m3, m4⟩ := mv_at (n := N) hm i (by omega)
  obtain ⟨bm', om_', heq, l0, l1, l2, l3, l4⟩ := mv_at (n := N) hm k (by omega)
  injection heq with heq
  injection heq with e1 e2
  subst e1 e2
  rw [hmi] at m0 m1 m2 m3 m4
  rw [hmk] at l0 l1 l2 l3 l4
  obtain ⟨fx, hfx⟩ : ∃ z, z = (mvOf T i).fx := ⟨_, rfl⟩
  obtain ⟨fy, hfy⟩ : ∃ z, z = (mvOf T i).fy := ⟨_, rfl⟩
  obtain ⟨tx, htx⟩ : ∃ z, z = (mvOf T i).tx := ⟨_, rfl⟩
  obtain ⟨ty, hty⟩ : ∃ z, z = (mvOf T i).ty := ⟨_, rfl⟩
  have en : mvOf T i = ⟨fx, fy, tx, ty, T.c⟩ := by rw [hfx, hfy, htx, hty]; rfl
  obtain ⟨gxx, hgx⟩ : ∃ z, z = (mvOf T k).fx := ⟨_, rfl⟩
  obtain ⟨gy, hgy⟩ : ∃ z, z = (mvOf T k).fy := ⟨_, rfl⟩
  obtain ⟨ux, hux⟩ : ∃ z, z = (mvOf T k).tx := ⟨_, rfl⟩
  obtain ⟨uy, huy⟩ : ∃ z, z = (mvOf T k).ty := ⟨_, rfl⟩
  have ek : mvOf T k = ⟨gxx, gy, ux, uy, T.c⟩ := by rw [hgx, hgy, hux, huy]; rfl
  rw [en] at gi' m0 m1 m2 m3 m4
  rw [ek] at gk' l0 l1 l2 l3 l4
  simp only at m0 m1 m2 m3 m4 l0 l1 l2 l3 l4
  have hpc : tbOf (clOf T L) i k p q = closeB ⟨fx, fy, tx, ty, T.c⟩ ⟨gxx, gy, ux, uy, T.c⟩ (p : Int) (q : Int) L := by
    show closeB (mvOf T i) (mvOf T k) (p : Int) (q : Int) L = _
    rw [en, ek]
  have CC := Lib.hid (fun W9 => rpFits_any fx fy tx ty gxx gy ux uy T.c (p : Int) (q : Int) L W9 gi' gk' (by omega) (by omega) (by omega) (by omega) hL0 hL)
  rw [← hpc] at CC
  obtain ⟨ff, x, hx, hv⟩ := hR.at_ hik hk hp hq
  have hput := fun (W : World) (h : RsAt W B (tbOf (clOf T L)) N (.slice (some ⟨bm, om_, none⟩) N cm) L) => h.put (i := i) (k := k) (p := p) (q := q) hik hk i3 hp hq
  have hat := fun (W : World) (h : RsAt W B (tbOf (clOf T L)) N (.slice (some ⟨bm, om_, none⟩) N cm) L) => h.at_ (i := i) (k := k) (p := p) (q := q) hik hk hp hq
  obtain ⟨R, hRR⟩ : ∃ R, R = tbOf (clOf T L) i k p q := ⟨_, rfl⟩
  rw [← hRR] at CC hv hput hat
  rw [← hRR]
  have HPUT := Lib.hid hput
  have HAT := Lib.hid hat
  obtain ⟨z0, z1⟩ := hR.cells
  have HRS := Lib.hid hR
  have hi6 : i < 6 := by omega
  have hk6 : k < 6 := by omega
  replace m0 := Below.keepCell hb m0 (Nat.le_refl _)
  replace m1 := Below.keepCell hb m1 (Nat.le_refl _)
  replace m2 := Below.keepCell hb m2 (Nat.le_refl _)
  replace m3 := Below.keepCell hb m3 (Nat.le_refl _)
  replace m4 := Below.keepCell hb m4 (Nat.le_refl _)
  replace l0 := Below.keepCell hb l0 (Nat.le_refl _)
  replace l1 := Below.keepCell hb l1 (Nat.le_refl _)
  replace l2 := Below.keepCell hb l2 (Nat.le_refl _)
  replace l3 := Below.keepCell hb l3 (Nat.le_refl _)
  replace l4 := Below.keepCell hb l4 (Nat.le_refl _)
  have hiN : i < N := by omega
  have hO : 2 + ix i k p q = 2 + i * 150 + k * 25 + p * 5 + q := by unfold ix; omega
  have HO := Lib.hid hO
  have hfr := ff
  rw [hO] at hx hfr
  have hxx : ∀ (W : World) (h : RsAt W B (tbOf (clOf T L)) N (.slice (some ⟨bm, om_, none⟩) N cm) L), W.frozen? ⟨B, 2 + i * 150 + k * 25 + p * 5 + q, none⟩ = false ∧ ∃ v : Int, W.cell? ⟨B, 2 + i * 150 + k * 25 + p * 5 + q, none⟩ = some (.int .i64 v) := by
    intro W h
    obtain ⟨f1, v, f2, _⟩ := hat W h
    rw [hO] at f1 f2
    exact ⟨f1, v, f2⟩
  have HXX := Lib.hid hxx
  clear hO ff hxx hput hat hR hpc hRR en ek gi' gk' hmi hmk hml hm hpl hNT hT i1 i2 hfx hfy htx hty hgx hgy hux huy hb hwB
  by_cases hx0 : x = 0
  · subst hx0
    clear hv hfr
    cases R
    case false =>
      have cC := fun (d9 : Nat) (os : Array Obj) => rg_below (w := w) (d := d9) (os := os) (CC.out _)
      have k0 := cell_regrown m0
      have k1 := cell_regrown m1
      have k2 := cell_regrown m2
      have k3 := cell_regrown m3
      have k4 := cell_regrown m4
      have k5 := cell_regrown l0
      have k6 := cell_regrown l1
      have k7 := cell_regrown l2
      have k8 := cell_regrown l3
      have k9 := cell_regrown l4
      have k10 := cell_regrown z0
      have k11 := cell_regrown z1
      clear m0 m1 m2 m3 m4 l0 l1 l2 l3 l4 z0 z1
      go_enter Try.func67, Try.ntmps67
      go_upto_region 3 with fail
      (refine wp_region_quiet_below (by kernel_rfl) (by kernel_rfl) ?_; (repeat (go_big_quiet_step (first | with_reducible exact cC _ _))); refine wpQuiet_nil ?_; intro _ hw'; obtain ⟨⟨dq, osq⟩, hw''⟩ := hw'; subst hw'')
      have bb3 := below_regrown w dq osq
      obtain ⟨w3, hw3⟩ : ∃ W9 : World, W9 = grow (redrawn w dq) osq := ⟨_, rfl⟩
      rw [← hw3] at bb3
      rw [← hw3]
      have r3 := HRS.out.keep bb3 HRS.out.lt
      obtain ⟨fz, x9, hc9⟩ := HXX.out w3 r3
      have a3 : Apg B w w3 := Apart.of_below bb3 (Nat.le_refl _)
      have FIN := Lib.hid (HPUT.out w3 r3)
      rw [HO.out] at FIN
      have A3 := Lib.hid (a3.setCell (p := ⟨B, 2 + i * 150 + k * 25 + p * 5 + q, none⟩) (Nat.le_refl _) (Nat.lt_succ_self _) (.int .i64 (knV false)))
      clear hw3 k0 k1 k2 k3 k4 k5 k6 k7 k8 k9 k10 k11 cC bb3 a3 r3
      go_wp2_with fail
      go_ret
      exact ⟨rfl, A3.out, FIN.out⟩
    case true =>
      have cC := fun (d9 : Nat) (os : Array Obj) => rg_below (w := w) (d := d9) (os := os) (CC.out _)
      have k0 := cell_regrown m0
      have k1 := cell_regrown m1
      have k2 := cell_regrown m2
      have k3 := cell_regrown m3
      have k4 := cell_regrown m4
      have k5 := cell_regrown l0
      have k6 := cell_regrown l1
      have k7 := cell_regrown l2
      have k8 := cell_regrown l3
      have k9 := cell_regrown l4
      have k10 := cell_regrown z0
      have k11 := cell_regrown z1
      clear m0 m1 m2 m3 m4 l0 l1 l2 l3 l4 z0 z1
      go_enter Try.func67, Try.ntmps67
      go_upto_region 3 with fail
      (refine wp_region_quiet_below (by kernel_rfl) (by kernel_rfl) ?_; (repeat (go_big_quiet_step (first | with_reducible exact cC _ _))); refine wpQuiet_nil ?_; intro _ hw'; obtain ⟨⟨dq, osq⟩, hw''⟩ := hw'; subst hw'')
      have bb3 := below_regrown w dq osq
      obtain ⟨w3, hw3⟩ : ∃ W9 : World, W9 = grow (redrawn w dq) osq := ⟨_, rfl⟩
      rw [← hw3] at bb3
      rw [← hw3]
      have r3 := HRS.out.keep bb3 HRS.out.lt
      obtain ⟨fz, x9, hc9⟩ := HXX.out w3 r3
      have a3 : Apg B w w3 := Apart.of_below bb3 (Nat.le_refl _)
      have FIN := Lib.hid (HPUT.out w3 r3)
      rw [HO.out] at FIN
      have A3 := Lib.hid (a3.setCell (p := ⟨B, 2 + i * 150 + k * 25 + p * 5 + q, none⟩) (Nat.le_refl _) (Nat.lt_succ_self _) (.int .i64 (knV true)))
      clear hw3 k0 k1 k2 k3 k4 k5 k6 k7 k8 k9 k10 k11 cC bb3 a3 r3
      go_wp2_with fail
      go_ret
      exact ⟨rfl, A3.out, FIN.out⟩
  · have hxv : x = knV R := by rcases hv with h | h; exact absurd h hx0; exact h
    clear hv hfr m0 m1 m2 m3 m4 l0 l1 l2 l3 l4 z0 z1 CC HXX HPUT HAT HO hx0
    subst hxv
    cases R
    all_goals
      go_enter Try.func67, Try.ntmps67
      unfold knV at hx
      simp only [if_true, Bool.false_eq_true, if_false, ↓reduceIte] at hx
      go_wp2_with fail
      go_ret
      exact ⟨rfl, Apart.refl _ _ _, HRS.out⟩
end Go.Proofs.Ytgcgkpmjahgmnaa
