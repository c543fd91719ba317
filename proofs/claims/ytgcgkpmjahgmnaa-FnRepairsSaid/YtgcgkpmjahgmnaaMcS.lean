/- Contracts: the least square of the way between two moves with delays, in the reference. -/
import Derived.Test.YtgcgkpmjahgmnaaMcI
set_option linter.unusedSimpArgs false
set_option linter.unusedVariables false
namespace Go.Proofs.Ytgcgkpmjahgmnaa
open Go.RowKit Go.Sort

set_option maxRecDepth 100000 in
set_option maxHeartbeats 3200000 in
theorem rpPart_any (px py qx qy : Int) (w : World) (hp : okP ⟨px, py⟩) (hq : okP ⟨qx, qy⟩) :
    Calls Try.prog 84 #[.int .i64 px, .int .i64 py, .int .i64 qx, .int .i64 qy] w fun e w' => e = .returned (.tuple #[.int .i64 (segS ⟨px, py⟩ ⟨qx, qy⟩).1, .int .i64 (segS ⟨px, py⟩ ⟨qx, qy⟩).2]) ∧ w = w' := by
  have s1 := sizI_bd hp hq
  have s2 := dotI_bd hp hq
  have s3 := crI_bd hp hq
  have s4 := crsq_bd hp hq
  have s5 := sqI_bd hp
  have s6 := sqI_bd hq
  have s7 := sqI_nn px py
  have s8 := sqI_nn qx qy
  have hseg : segS ⟨px, py⟩ ⟨qx, qy⟩ = if inn px py qx qy then ((crI px py qx qy * crI px py qx qy).toNat, (sizI px py qx qy).toNat) else ((min (sqI px py) (sqI qx qy)).toNat, 1) := rfl
  obtain ⟨p1, p2, p3, p4⟩ := hp
  obtain ⟨q1, q2, q3, q4⟩ := hq
  simp only at s1 s2 s3 s4 s5 s6 p1 p2 p3 p4 q1 q2 q3 q4
  obtain ⟨vx, hvx⟩ : ∃ z, z = qx - px := ⟨_, rfl⟩
  obtain ⟨vy, hvy⟩ : ∃ z, z = qy - py := ⟨_, rfl⟩
  obtain ⟨dt, hdt⟩ : ∃ z, z = dotI px py qx qy := ⟨_, rfl⟩
  obtain ⟨cr, hcr⟩ : ∃ z, z = crI px py qx qy := ⟨_, rfl⟩
  obtain ⟨sz, hsz⟩ := nn_cast s1.1
  obtain ⟨cc, hcc⟩ := nn_cast s4.1
  obtain ⟨op, hop⟩ := nn_cast s7
  obtain ⟨oq, hoq⟩ := nn_cast s8
  have hin : inn px py qx qy = (decide (dt < 0) && decide (-dt < (sz : Int))) := by unfold inn; rw [← hdt, hsz]
  have m1 : px * vx + py * vy = dt := by rw [hdt, hvx, hvy]; rfl
  have m2 : vx * vx + vy * vy = (sz : Int) := by rw [hvx, hvy]; exact hsz
  have m3 : px * px + py * py = (op : Int) := hop
  have m3' : qx * qx + qy * qy = (oq : Int) := hoq
  have m4 : px * qy - py * qx = cr := by rw [hcr]; rfl
  have m5 : cr * cr = (cc : Int) := by rw [hcr]; exact hcc
  rw [hsz] at s1
  rw [← hdt] at s2
  rw [← hcr] at s3
  rw [hcc] at s4
  rw [hop] at s5
  rw [hoq] at s6
  rw [hin, hcc, hsz, hop, hoq] at hseg
  rw [hseg]
  clear hdt hcr hsz hcc hop hoq hin hseg s7 s8
  have t1 := mul_abs_le (x := px) (y := vx) (A := 20480) (B := 40960) (by omega) (by omega) (by omega) (by omega)
  have t2 := mul_abs_le (x := py) (y := vy) (A := 10752) (B := 21504) (by omega) (by omega) (by omega) (by omega)
  have t3 := mul_abs_le (x := vx) (y := vx) (A := 40960) (B := 40960) (by omega) (by omega) (by omega) (by omega)
  have t4 := mul_abs_le (x := vy) (y := vy) (A := 21504) (B := 21504) (by omega) (by omega) (by omega) (by omega)
  have t5 := mul_abs_le (x := px) (y := px) (A := 20480) (B := 20480) (by omega) (by omega) (by omega) (by omega)
  have t6 := mul_abs_le (x := py) (y := py) (A := 10752) (B := 10752) (by omega) (by omega) (by omega) (by omega)
  have t5' := mul_abs_le (x := qx) (y := qx) (A := 20480) (B := 20480) (by omega) (by omega) (by omega) (by omega)
  have t6' := mul_abs_le (x := qy) (y := qy) (A := 10752) (B := 10752) (by omega) (by omega) (by omega) (by omega)
  have t7 := mul_abs_le (x := px) (y := qy) (A := 20480) (B := 10752) (by omega) (by omega) (by omega) (by omega)
  have t8 := mul_abs_le (x := py) (y := qx) (A := 10752) (B := 20480) (by omega) (by omega) (by omega) (by omega)
  obtain ⟨e1, h1⟩ : ∃ z, px * vx = z := ⟨_, rfl⟩
  obtain ⟨e2, h2⟩ : ∃ z, py * vy = z := ⟨_, rfl⟩
  obtain ⟨e3, h3⟩ : ∃ z, vx * vx = z := ⟨_, rfl⟩
  obtain ⟨e4, h4⟩ : ∃ z, vy * vy = z := ⟨_, rfl⟩
  obtain ⟨e5, h5⟩ : ∃ z, px * px = z := ⟨_, rfl⟩
  obtain ⟨e6, h6⟩ : ∃ z, py * py = z := ⟨_, rfl⟩
  obtain ⟨e9, h9⟩ : ∃ z, qx * qx = z := ⟨_, rfl⟩
  obtain ⟨e10, h10⟩ : ∃ z, qy * qy = z := ⟨_, rfl⟩
  obtain ⟨e7, h7⟩ : ∃ z, px * qy = z := ⟨_, rfl⟩
  obtain ⟨e8, h8⟩ : ∃ z, py * qx = z := ⟨_, rfl⟩
  rw [h1] at m1 t1
  rw [h2] at m1 t2
  rw [h3] at m2 t3
  rw [h4] at m2 t4
  rw [h5] at m3 t5
  rw [h6] at m3 t6
  rw [h9] at m3' t5'
  rw [h10] at m3' t6'
  rw [h7] at m4 t7
  rw [h8] at m4 t8
  have g3 : qx - px = vx := hvx.symm
  have g4 : qy - py = vy := hvy.symm
  clear hvx hvy
  have C := Lib.hid (fun W => l1Least_min (op : Int) (oq : Int) W)
  have hcase : (dt < 0 ∧ -dt < (sz : Int)) ∨ (dt < 0 ∧ ¬ -dt < (sz : Int)) ∨ ¬ dt < 0 := by omega
  rcases hcase with ⟨i1, i2⟩ | ⟨i1, i2⟩ | i1
  · rw [decide_eq_true i1, decide_eq_true i2]
    have i0 : 0 < -dt := by omega
    go_enter Try.func84, Try.ntmps84
    go_wp2_with fail
    go_ret2
    exact ⟨by simp, rfl⟩
  · rw [decide_eq_true i1, decide_eq_false i2]
    have i0 : 0 < -dt := by omega
    go_enter Try.func84, Try.ntmps84
    go_wp2_with fail
    refine (C.out _).mono ?_; rintro e _ ⟨rfl, rfl⟩
    go_wp2_with fail
    go_ret2
    exact ⟨by simp; omega, rfl⟩
  · rw [decide_eq_false i1]
    have i0 : ¬ 0 < -dt := by omega
    go_enter Try.func84, Try.ntmps84
    go_wp2_with fail
    refine (C.out _).mono ?_; rintro e _ ⟨rfl, rfl⟩
    go_wp2_with fail
    go_ret2
    exact ⟨by simp; omega, rfl⟩

def SpSt (P : Nat → Pt) (k : Nat) (s t : Value) : Prop := (k = 0 ∧ s = .int .i64 (-1) ∧ t = .int .i64 1) ∨ (∃ m, k = m + 1 ∧ s = .int .i64 (sF P m).1 ∧ t = .int .i64 (sF P m).2)
/-- What the reference's least square is, in lowest terms. -/
def lowS (f : Fr) (C : Nat) : Fr := lowN f.1 (f.2 * C * C)
theorem lastN_pos {c p q : Int} (hc : 1 ≤ c) (hp : 0 ≤ p) : 1 ≤ lastN c p q := by unfold lastN; omega
theorem ltK_lowS {f : Fr} {C K : Nat} (hf : 0 < f.2) (hC : 0 < C) : ltK (lowS f C) K = ltK f (K * (C * C)) := by
  unfold lowS
  rw [ltK_low (Nat.mul_pos (Nat.mul_pos hf hC) hC), ltK_mul, ltK_mul]
  show ltK (f.1, f.2) (K * C * C) = _
  rw [Nat.mul_assoc]
/-- The reference's least square tells the same. -/
theorem closeB_s {a b : Mv} (ha : goodM a) (hb : goodM b) (p q L : Int) (hp : 0 ≤ p) : closeB a b p q L = ltK (lowS (sF (wayP a b p q) (lastN a.c p q - 1)) a.c.toNat) (L.toNat * L.toNat) := by
  have hok := wayP_ok ha hb p q
  have hN := lastN_pos (c := a.c) (p := p) (q := q) ha.2.2.1 hp
  have hC : 0 < a.c.toNat := by have := ha.2.2.1; omega
  obtain ⟨n, hn⟩ : ∃ n, lastN a.c p q = n + 1 := ⟨lastN a.c p q - 1, by omega⟩
  unfold closeB
  rw [hn, Nat.add_sub_cancel, ltK_lowS (sF_ok hok n).2.1 hC]
  obtain ⟨h1, h2, _⟩ := both_F hok n
  exact ltK_eq (iF_ok hok (n + 1)).2.1 (sF_ok hok n).2.1 h1 h2

set_option maxRecDepth 100000 in
set_option maxHeartbeats 12800000 in
theorem rpFirst_any (fx fy tx ty gx gy ux uy c p q : Int) (w : World) (ha : goodM ⟨fx, fy, tx, ty, c⟩) (hb : goodM ⟨gx, gy, ux, uy, c⟩) (hp0 : 0 ≤ p) (hp4 : p ≤ 4) (hq0 : 0 ≤ q) (hq4 : q ≤ 4) :
    Calls Try.prog 65 #[.agg #[.int .i64 fx, .int .i64 fy, .int .i64 tx, .int .i64 ty, .int .i64 c], .agg #[.int .i64 gx, .int .i64 gy, .int .i64 ux, .int .i64 uy, .int .i64 c], .int .i64 p, .int .i64 q] w fun e w' => e = .returned (.tuple #[.int .i64 (lowS (sF (wayP ⟨fx, fy, tx, ty, c⟩ ⟨gx, gy, ux, uy, c⟩ p q) (lastN c p q - 1)) c.toNat).1, .int .i64 (lowS (sF (wayP ⟨fx, fy, tx, ty, c⟩ ⟨gx, gy, ux, uy, c⟩ p q) (lastN c p q - 1)) c.toNat).2]) ∧ Below w.heap.size w w' := by
  have hc1 : 1 ≤ c := ha.2.2.1
  have hc16 : c ≤ 16 := ha.2.2.2
  have HP := Lib.hid (wayP_ok ha hb p q)
  have HF := Lib.hid (sF_ok (wayP_ok ha hb p q))
  have HA := Lib.hid ha
  have HB := Lib.hid hb
  clear ha hb
  have zA := (BoxM.new w fx fy tx ty c).al (.cells #[.int .i64 gx, .int .i64 gy, .int .i64 ux, .int .i64 uy, .int .i64 c] 71)
  have zB := BoxM.new (w.alloc (.cells #[.int .i64 fx, .int .i64 fy, .int .i64 tx, .int .i64 ty, .int .i64 c] 71)) gx gy ux uy c
  have bw := ((Below.refl w.heap.size w).alloc (Nat.le_refl _) (.cells #[.int .i64 fx, .int .i64 fy, .int .i64 tx, .int .i64 ty, .int .i64 c] 71)).alloc (by simp) (.cells #[.int .i64 gx, .int .i64 gy, .int .i64 ux, .int .i64 uy, .int .i64 c] 71)
  have hs1 : (w.alloc (.cells #[.int .i64 fx, .int .i64 fy, .int .i64 tx, .int .i64 ty, .int .i64 c] 71)).heap.size = w.heap.size + 1 := by simp
  rw [hs1] at zB
  obtain ⟨W, hW⟩ : ∃ W : World, W = (w.alloc (.cells #[.int .i64 fx, .int .i64 fy, .int .i64 tx, .int .i64 ty, .int .i64 c] 71)).alloc (.cells #[.int .i64 gx, .int .i64 gy, .int .i64 ux, .int .i64 uy, .int .i64 c] 71) := ⟨_, rfl⟩
  rw [← hW] at zA zB bw
  have HW := Lib.hid hW
  have ZA := Lib.hid zA
  have ZB := Lib.hid zB
  clear hW hs1
  obtain ⟨N, hN⟩ : ∃ N, N = lastN c p q := ⟨_, rfl⟩
  rw [← hN]
  obtain ⟨MM, hMM⟩ : ∃ z, z = max p q := ⟨_, rfl⟩
  have hN2 : (N : Int) = c + MM := by rw [hN]; unfold lastN; omega
  have hMb : 0 ≤ MM ∧ MM ≤ 4 := by omega
  have CM := Lib.hid (fun W9 => l1Most_max p q W9)
  rw [← hMM] at CM
  clear hN hMM
  go_enter Try.func65, Try.ntmps65
  go_upto_region 1 with fail
  rw [← HW.out]
  go_wp2_with fail
  go_loopw [10, 11, 12] (fun s t u wr => ∃ k : Nat, k ≤ N ∧ u = .int .i64 k ∧ SpSt (wayP ⟨fx, fy, tx, ty, c⟩ ⟨gx, gy, ux, uy, c⟩ p q) k s t ∧ Below W.heap.size W wr) (fun _ _ u _ => N - (intOf u).toNat)
  case atStart => exact ⟨0, Nat.zero_le _, rfl, .inl ⟨rfl, rfl, rfl⟩, Below.refl _ _⟩
  case round =>
    obtain ⟨k, hk, rfl, hst, hb⟩ := hrel
    have zA1 := ZA.out.keep hb ZA.out.lt
    obtain ⟨a0, a1, a2, a3, a4⟩ := zA1.cells
    have k4 := cell_regrown a4
    have cM : ∀ d os, Calls Try.prog 82 #[.int .i64 p, .int .i64 q] (grow (redrawn wr d) os) (fun e w'' => e = .returned (.int .i64 MM) ∧ ∃ p9 : Regrown, w'' = grow (redrawn wr p9.d) p9.os) := fun d os => rg_same (CM.out _)
    have zc : IntKind.i64.wrap (c + MM) = c + MM := IntWalk.i64_in _ (by omega)
    rcases hst with ⟨hk0_, rfl, rfl⟩ | ⟨m, hm_, rfl, rfl⟩
    · have hk0 := Lib.hid hk0_
      clear hk0_
      by_cases hlt : k < N
      · have hlt2 : (k : Int) < c + MM := by omega
        have hkN : (k : Int) ≤ 20 := by omega
        go_upto_region 3 with fail
        (refine wp_region_quiet_below (by kernel_rfl) (by kernel_rfl) ?_; (repeat (go_big_quiet_step (first | with_reducible exact cM _ _))); refine wpQuiet_nil ?_; intro _ hw'; obtain ⟨⟨dq, osq⟩, hw''⟩ := hw'; subst hw'')
        have bb3 := RG.below hb hb.size dq osq
        obtain ⟨w3, hw3⟩ : ∃ W9 : World, W9 = grow (redrawn wr dq) osq := ⟨_, rfl⟩
        rw [← hw3] at bb3
        rw [← hw3]
        clear hw3 k4 cM zc a0 a1 a2 a3 a4
        have zz := ZA.out.keep bb3 ZA.out.lt
        obtain ⟨a0, a1, a2, a3, a4⟩ := zz.cells
        obtain ⟨x, hx⟩ : ∃ z, z = mvX ⟨fx, fy, tx, ty, c⟩ (kD c p ((k : Int))) := ⟨_, rfl⟩
        obtain ⟨y, hy⟩ : ∃ z, z = mvY ⟨fx, fy, tx, ty, c⟩ (kD c p ((k : Int))) := ⟨_, rfl⟩
        have bdx := mvX_bd HA.out (k := kD c p ((k : Int))) (kD_bd (by omega)).1 (kD_bd (by omega)).2
        have bdy := mvY_bd HA.out (k := kD c p ((k : Int))) (kD_bd (by omega)).1 (kD_bd (by omega)).2
        rw [← hx] at bdx
        rw [← hy] at bdy
        have C := Lib.hid (rpAt_any fx fy tx ty c p ((k : Int)) w3 HA.out hp0 hp4 (by omega) (by omega))
        rw [← hx, ← hy] at C
        have Hx := Lib.hid hx
        have Hy := Lib.hid hy
        clear hx hy
        go_wp2_with fail
        refine C.out.mono ?_; rintro e w4 ⟨rfl, b9⟩
        have bb4 := bb3.next (Nat.le_refl _) b9
        clear C a0 a1 a2 a3 a4 zz b9
        have zz := ZB.out.keep bb4 ZB.out.lt
        obtain ⟨a0, a1, a2, a3, a4⟩ := zz.cells
        obtain ⟨u, hu⟩ : ∃ z, z = mvX ⟨gx, gy, ux, uy, c⟩ (kD c q ((k : Int))) := ⟨_, rfl⟩
        obtain ⟨v, hv⟩ : ∃ z, z = mvY ⟨gx, gy, ux, uy, c⟩ (kD c q ((k : Int))) := ⟨_, rfl⟩
        have bdu := mvX_bd HB.out (k := kD c q ((k : Int))) (kD_bd (by omega)).1 (kD_bd (by omega)).2
        have bdv := mvY_bd HB.out (k := kD c q ((k : Int))) (kD_bd (by omega)).1 (kD_bd (by omega)).2
        rw [← hu] at bdu
        rw [← hv] at bdv
        have C := Lib.hid (rpAt_any gx gy ux uy c q ((k : Int)) w4 HB.out hq0 hq4 (by omega) (by omega))
        rw [← hu, ← hv] at C
        have Hu := Lib.hid hu
        have Hv := Lib.hid hv
        clear hu hv
        go_wp2_with fail
        refine C.out.mono ?_; rintro e w5 ⟨rfl, b9⟩
        have bb5 := bb4.next (Nat.le_refl _) b9
        clear C a0 a1 a2 a3 a4 zz b9
        have zz := ZA.out.keep bb5 ZA.out.lt
        obtain ⟨a0, a1, a2, a3, a4⟩ := zz.cells
        obtain ⟨z, hz⟩ : ∃ z, z = mvX ⟨fx, fy, tx, ty, c⟩ (kD c p ((k : Int) + 1)) := ⟨_, rfl⟩
        obtain ⟨t, ht⟩ : ∃ z, z = mvY ⟨fx, fy, tx, ty, c⟩ (kD c p ((k : Int) + 1)) := ⟨_, rfl⟩
        have bdz := mvX_bd HA.out (k := kD c p ((k : Int) + 1)) (kD_bd (by omega)).1 (kD_bd (by omega)).2
        have bdt := mvY_bd HA.out (k := kD c p ((k : Int) + 1)) (kD_bd (by omega)).1 (kD_bd (by omega)).2
        rw [← hz] at bdz
        rw [← ht] at bdt
        have C := Lib.hid (rpAt_any fx fy tx ty c p ((k : Int) + 1) w5 HA.out hp0 hp4 (by omega) (by omega))
        rw [← hz, ← ht] at C
        have Hz := Lib.hid hz
        have Ht := Lib.hid ht
        clear hz ht
        go_wp2_with fail
        refine C.out.mono ?_; rintro e w6 ⟨rfl, b9⟩
        have bb6 := bb5.next (Nat.le_refl _) b9
        clear C a0 a1 a2 a3 a4 zz b9
        have zz := ZB.out.keep bb6 ZB.out.lt
        obtain ⟨a0, a1, a2, a3, a4⟩ := zz.cells
        obtain ⟨r, hr⟩ : ∃ z, z = mvX ⟨gx, gy, ux, uy, c⟩ (kD c q ((k : Int) + 1)) := ⟨_, rfl⟩
        obtain ⟨s, hs⟩ : ∃ z, z = mvY ⟨gx, gy, ux, uy, c⟩ (kD c q ((k : Int) + 1)) := ⟨_, rfl⟩
        have bdr := mvX_bd HB.out (k := kD c q ((k : Int) + 1)) (kD_bd (by omega)).1 (kD_bd (by omega)).2
        have bds := mvY_bd HB.out (k := kD c q ((k : Int) + 1)) (kD_bd (by omega)).1 (kD_bd (by omega)).2
        rw [← hr] at bdr
        rw [← hs] at bds
        have C := Lib.hid (rpAt_any gx gy ux uy c q ((k : Int) + 1) w6 HB.out hq0 hq4 (by omega) (by omega))
        rw [← hr, ← hs] at C
        have Hr := Lib.hid hr
        have Hs := Lib.hid hs
        clear hr hs
        go_wp2_with fail
        refine C.out.mono ?_; rintro e w7 ⟨rfl, b9⟩
        have bb7 := bb6.next (Nat.le_refl _) b9
        clear C a0 a1 a2 a3 a4 zz b9
        obtain ⟨px, hpx⟩ : ∃ z9, z9 = x - u := ⟨_, rfl⟩
        obtain ⟨py, hpy⟩ : ∃ z9, z9 = y - v := ⟨_, rfl⟩
        obtain ⟨qx, hqx⟩ : ∃ z9, z9 = z - r := ⟨_, rfl⟩
        obtain ⟨qy, hqy⟩ : ∃ z9, z9 = t - s := ⟨_, rfl⟩
        have eP : (wayP ⟨fx, fy, tx, ty, c⟩ ⟨gx, gy, ux, uy, c⟩ p q) k = ⟨px, py⟩ := by rw [hpx, hpy, Hx.out, Hy.out, Hu.out, Hv.out]; rfl
        have eQ : (wayP ⟨fx, fy, tx, ty, c⟩ ⟨gx, gy, ux, uy, c⟩ p q) (k + 1) = ⟨qx, qy⟩ := by rw [hqx, hqy, Hz.out, Ht.out, Hr.out, Hs.out]; rfl
        have okp := HP.out k
        have okq := HP.out (k + 1)
        rw [eP] at okp
        rw [eQ] at okq
        have hsf := segS_ok okp okq
        have C := Lib.hid (fun W9 => rpPart_any px py qx qy W9 okp okq)
        obtain ⟨S, hS⟩ : ∃ S, S = segS ⟨px, py⟩ ⟨qx, qy⟩ := ⟨_, rfl⟩
        rw [← hS] at C hsf
        have ES : Hid (segS ((wayP ⟨fx, fy, tx, ty, c⟩ ⟨gx, gy, ux, uy, c⟩ p q) k) ((wayP ⟨fx, fy, tx, ty, c⟩ ⟨gx, gy, ux, uy, c⟩ p q) (k + 1)) = S) := by show _ = _; rw [eP, eQ]; exact hS.symm
        have g1 : x - u = px := hpx.symm
        have g2 : y - v = py := hpy.symm
        have g3 : z - r = qx := hqx.symm
        have g4 : t - s = qy := hqy.symm
        clear hpx hpy hqx hqy eP eQ okp okq hS
        obtain ⟨S1, S2⟩ := S
        obtain ⟨f1, f2, f3⟩ := hsf
        have f1 : S1 ≤ 193953851139686400 := f1
        have f2 : 0 < S2 := f2
        have f3 : S2 ≤ 2140143616 := f3
        go_wp2_with fail
        refine (C.out _).mono ?_; rintro e _ ⟨rfl, rfl⟩
        clear C
        go_wp2_with fail
        go_roundw
        case rel => exact ⟨k + 1, by omega, by go_num, .inr ⟨k, rfl, by rw [hk0.out] at ES ⊢; rw [show sF (wayP ⟨fx, fy, tx, ty, c⟩ ⟨gx, gy, ux, uy, c⟩ p q) 0 = _ from ES.out], by rw [hk0.out] at ES ⊢; rw [show sF (wayP ⟨fx, fy, tx, ty, c⟩ ⟨gx, gy, ux, uy, c⟩ p q) 0 = _ from ES.out]⟩, bb7⟩
        case measure => simp [intOf]; omega
      · exact absurd hk0.out (by have := hN2; omega)
    · have hm := Lib.hid hm_
      clear hm_
      by_cases hlt : k < N
      · have hlt2 : (k : Int) < c + MM := by omega
        have hkN : (k : Int) ≤ 20 := by omega
        go_upto_region 3 with fail
        (refine wp_region_quiet_below (by kernel_rfl) (by kernel_rfl) ?_; (repeat (go_big_quiet_step (first | with_reducible exact cM _ _))); refine wpQuiet_nil ?_; intro _ hw'; obtain ⟨⟨dq, osq⟩, hw''⟩ := hw'; subst hw'')
        have bb3 := RG.below hb hb.size dq osq
        obtain ⟨w3, hw3⟩ : ∃ W9 : World, W9 = grow (redrawn wr dq) osq := ⟨_, rfl⟩
        rw [← hw3] at bb3
        rw [← hw3]
        clear hw3 k4 cM zc a0 a1 a2 a3 a4
        have zz := ZA.out.keep bb3 ZA.out.lt
        obtain ⟨a0, a1, a2, a3, a4⟩ := zz.cells
        obtain ⟨x, hx⟩ : ∃ z, z = mvX ⟨fx, fy, tx, ty, c⟩ (kD c p ((k : Int))) := ⟨_, rfl⟩
        obtain ⟨y, hy⟩ : ∃ z, z = mvY ⟨fx, fy, tx, ty, c⟩ (kD c p ((k : Int))) := ⟨_, rfl⟩
        have bdx := mvX_bd HA.out (k := kD c p ((k : Int))) (kD_bd (by omega)).1 (kD_bd (by omega)).2
        have bdy := mvY_bd HA.out (k := kD c p ((k : Int))) (kD_bd (by omega)).1 (kD_bd (by omega)).2
        rw [← hx] at bdx
        rw [← hy] at bdy
        have C := Lib.hid (rpAt_any fx fy tx ty c p ((k : Int)) w3 HA.out hp0 hp4 (by omega) (by omega))
        rw [← hx, ← hy] at C
        have Hx := Lib.hid hx
        have Hy := Lib.hid hy
        clear hx hy
        go_wp2_with fail
        refine C.out.mono ?_; rintro e w4 ⟨rfl, b9⟩
        have bb4 := bb3.next (Nat.le_refl _) b9
        clear C a0 a1 a2 a3 a4 zz b9
        have zz := ZB.out.keep bb4 ZB.out.lt
        obtain ⟨a0, a1, a2, a3, a4⟩ := zz.cells
        obtain ⟨u, hu⟩ : ∃ z, z = mvX ⟨gx, gy, ux, uy, c⟩ (kD c q ((k : Int))) := ⟨_, rfl⟩
        obtain ⟨v, hv⟩ : ∃ z, z = mvY ⟨gx, gy, ux, uy, c⟩ (kD c q ((k : Int))) := ⟨_, rfl⟩
        have bdu := mvX_bd HB.out (k := kD c q ((k : Int))) (kD_bd (by omega)).1 (kD_bd (by omega)).2
        have bdv := mvY_bd HB.out (k := kD c q ((k : Int))) (kD_bd (by omega)).1 (kD_bd (by omega)).2
        rw [← hu] at bdu
        rw [← hv] at bdv
        have C := Lib.hid (rpAt_any gx gy ux uy c q ((k : Int)) w4 HB.out hq0 hq4 (by omega) (by omega))
        rw [← hu, ← hv] at C
        have Hu := Lib.hid hu
        have Hv := Lib.hid hv
        clear hu hv
        go_wp2_with fail
        refine C.out.mono ?_; rintro e w5 ⟨rfl, b9⟩
        have bb5 := bb4.next (Nat.le_refl _) b9
        clear C a0 a1 a2 a3 a4 zz b9
        have zz := ZA.out.keep bb5 ZA.out.lt
        obtain ⟨a0, a1, a2, a3, a4⟩ := zz.cells
        obtain ⟨z, hz⟩ : ∃ z, z = mvX ⟨fx, fy, tx, ty, c⟩ (kD c p ((k : Int) + 1)) := ⟨_, rfl⟩
        obtain ⟨t, ht⟩ : ∃ z, z = mvY ⟨fx, fy, tx, ty, c⟩ (kD c p ((k : Int) + 1)) := ⟨_, rfl⟩
        have bdz := mvX_bd HA.out (k := kD c p ((k : Int) + 1)) (kD_bd (by omega)).1 (kD_bd (by omega)).2
        have bdt := mvY_bd HA.out (k := kD c p ((k : Int) + 1)) (kD_bd (by omega)).1 (kD_bd (by omega)).2
        rw [← hz] at bdz
        rw [← ht] at bdt
        have C := Lib.hid (rpAt_any fx fy tx ty c p ((k : Int) + 1) w5 HA.out hp0 hp4 (by omega) (by omega))
        rw [← hz, ← ht] at C
        have Hz := Lib.hid hz
        have Ht := Lib.hid ht
        clear hz ht
        go_wp2_with fail
        refine C.out.mono ?_; rintro e w6 ⟨rfl, b9⟩
        have bb6 := bb5.next (Nat.le_refl _) b9
        clear C a0 a1 a2 a3 a4 zz b9
        have zz := ZB.out.keep bb6 ZB.out.lt
        obtain ⟨a0, a1, a2, a3, a4⟩ := zz.cells
        obtain ⟨r, hr⟩ : ∃ z, z = mvX ⟨gx, gy, ux, uy, c⟩ (kD c q ((k : Int) + 1)) := ⟨_, rfl⟩
        obtain ⟨s, hs⟩ : ∃ z, z = mvY ⟨gx, gy, ux, uy, c⟩ (kD c q ((k : Int) + 1)) := ⟨_, rfl⟩
        have bdr := mvX_bd HB.out (k := kD c q ((k : Int) + 1)) (kD_bd (by omega)).1 (kD_bd (by omega)).2
        have bds := mvY_bd HB.out (k := kD c q ((k : Int) + 1)) (kD_bd (by omega)).1 (kD_bd (by omega)).2
        rw [← hr] at bdr
        rw [← hs] at bds
        have C := Lib.hid (rpAt_any gx gy ux uy c q ((k : Int) + 1) w6 HB.out hq0 hq4 (by omega) (by omega))
        rw [← hr, ← hs] at C
        have Hr := Lib.hid hr
        have Hs := Lib.hid hs
        clear hr hs
        go_wp2_with fail
        refine C.out.mono ?_; rintro e w7 ⟨rfl, b9⟩
        have bb7 := bb6.next (Nat.le_refl _) b9
        clear C a0 a1 a2 a3 a4 zz b9
        obtain ⟨px, hpx⟩ : ∃ z9, z9 = x - u := ⟨_, rfl⟩
        obtain ⟨py, hpy⟩ : ∃ z9, z9 = y - v := ⟨_, rfl⟩
        obtain ⟨qx, hqx⟩ : ∃ z9, z9 = z - r := ⟨_, rfl⟩
        obtain ⟨qy, hqy⟩ : ∃ z9, z9 = t - s := ⟨_, rfl⟩
        have eP : (wayP ⟨fx, fy, tx, ty, c⟩ ⟨gx, gy, ux, uy, c⟩ p q) k = ⟨px, py⟩ := by rw [hpx, hpy, Hx.out, Hy.out, Hu.out, Hv.out]; rfl
        have eQ : (wayP ⟨fx, fy, tx, ty, c⟩ ⟨gx, gy, ux, uy, c⟩ p q) (k + 1) = ⟨qx, qy⟩ := by rw [hqx, hqy, Hz.out, Ht.out, Hr.out, Hs.out]; rfl
        have okp := HP.out k
        have okq := HP.out (k + 1)
        rw [eP] at okp
        rw [eQ] at okq
        have hsf := segS_ok okp okq
        have C := Lib.hid (fun W9 => rpPart_any px py qx qy W9 okp okq)
        obtain ⟨S, hS⟩ : ∃ S, S = segS ⟨px, py⟩ ⟨qx, qy⟩ := ⟨_, rfl⟩
        rw [← hS] at C hsf
        have ES : Hid (segS ((wayP ⟨fx, fy, tx, ty, c⟩ ⟨gx, gy, ux, uy, c⟩ p q) k) ((wayP ⟨fx, fy, tx, ty, c⟩ ⟨gx, gy, ux, uy, c⟩ p q) (k + 1)) = S) := by show _ = _; rw [eP, eQ]; exact hS.symm
        have g1 : x - u = px := hpx.symm
        have g2 : y - v = py := hpy.symm
        have g3 : z - r = qx := hqx.symm
        have g4 : t - s = qy := hqy.symm
        clear hpx hpy hqx hqy eP eQ okp okq hS
        obtain ⟨S1, S2⟩ := S
        obtain ⟨f1, f2, f3⟩ := hsf
        have f1 : S1 ≤ 193953851139686400 := f1
        have f2 : 0 < S2 := f2
        have f3 : S2 ≤ 2140143616 := f3
        go_wp2_with fail
        refine (C.out _).mono ?_; rintro e _ ⟨rfl, rfl⟩
        clear C
        have hs : sF (wayP ⟨fx, fy, tx, ty, c⟩ ⟨gx, gy, ux, uy, c⟩ p q) k = updF (sF (wayP ⟨fx, fy, tx, ty, c⟩ ⟨gx, gy, ux, uy, c⟩ p q) m) (S1, S2) := by
          have h9 := ES.out
          rw [hm.out] at h9 ⊢
          show updF (sF (wayP ⟨fx, fy, tx, ty, c⟩ ⟨gx, gy, ux, uy, c⟩ p q) m) (segS ((wayP ⟨fx, fy, tx, ty, c⟩ ⟨gx, gy, ux, uy, c⟩ p q) (m + 1)) ((wayP ⟨fx, fy, tx, ty, c⟩ ⟨gx, gy, ux, uy, c⟩ p q) (m + 2))) = _
          rw [h9]
        have hf := HF.out m
        obtain ⟨T, hT⟩ : ∃ T, T = sF (wayP ⟨fx, fy, tx, ty, c⟩ ⟨gx, gy, ux, uy, c⟩ p q) m := ⟨_, rfl⟩
        rw [← hT] at hf hs
        rw [← hT]
        obtain ⟨T1, T2⟩ := T
        obtain ⟨d1, d2, d3⟩ := hf
        have d1 : T1 ≤ 193953851139686400 := d1
        have d2 : 0 < T2 := d2
        have d3 : T2 ≤ 2140143616 := d3
        have C := Lib.hid (apLess_any S1 S2 T1 T2 w7 (by omega) (by omega) f2 (by omega) d2 (by omega))
        have ht0 : ¬ ((T1 : Int) < 0) := by omega
        have HT := Lib.hid hT
        clear hT HF
        by_cases hl : S1 * T2 < T1 * S2
        · rw [decide_eq_true hl] at C
          rw [updF_yes hl] at hs
          have Hs9 := Lib.hid hs
          clear hl hs
          go_wp2_with fail
          refine C.out.mono ?_; rintro e w8 ⟨rfl, b9⟩
          go_wp2_with fail
          go_roundw
          case rel => exact ⟨k + 1, by omega, by go_num, .inr ⟨k, rfl, by rw [Hs9.out], by rw [Hs9.out]⟩, bb7.next (Nat.le_refl _) b9⟩
          case measure => simp [intOf]; omega
        · rw [decide_eq_false hl] at C
          rw [updF_no hl] at hs
          have Hs9 := Lib.hid hs
          clear hl hs
          go_wp2_with fail
          refine C.out.mono ?_; rintro e w8 ⟨rfl, b9⟩
          go_wp2_with fail
          go_roundw
          case rel => exact ⟨k + 1, by omega, by go_num, .inr ⟨k, rfl, by rw [Hs9.out], by rw [Hs9.out]⟩, bb7.next (Nat.le_refl _) b9⟩
          case measure => simp [intOf]; omega
      · have hkN : k = N := by omega
        have hlt2 : ¬ (k : Int) < c + MM := by omega
        go_upto_region 3 with fail
        (refine wp_region_quiet_below (by kernel_rfl) (by kernel_rfl) ?_; (repeat (go_big_quiet_step (first | with_reducible exact cM _ _))); refine wpQuiet_nil ?_; intro _ hw'; obtain ⟨⟨dq, osq⟩, hw''⟩ := hw'; subst hw'')
        have bb3 := RG.below hb hb.size dq osq
        obtain ⟨w3, hw3⟩ : ∃ W9 : World, W9 = grow (redrawn wr dq) osq := ⟨_, rfl⟩
        rw [← hw3] at bb3
        rw [← hw3]
        clear hw3 k4 cM zc a0 a1 a2 a3 a4
        have zz := ZA.out.keep bb3 ZA.out.lt
        obtain ⟨a0, a1, a2, a3, a4⟩ := zz.cells
        have hf := HF.out m
        have hmN : Hid (sF (wayP ⟨fx, fy, tx, ty, c⟩ ⟨gx, gy, ux, uy, c⟩ p q) (N - 1) = sF (wayP ⟨fx, fy, tx, ty, c⟩ ⟨gx, gy, ux, uy, c⟩ p q) m) := by show _ = _; rw [show N - 1 = m by have := hm.out; omega]
        obtain ⟨T, hT⟩ : ∃ T, T = sF (wayP ⟨fx, fy, tx, ty, c⟩ ⟨gx, gy, ux, uy, c⟩ p q) m := ⟨_, rfl⟩
        rw [← hT] at hf hmN
        rw [← hT]
        obtain ⟨T1, T2⟩ := T
        obtain ⟨d1, d2, d3⟩ := hf
        have d1 : T1 ≤ 193953851139686400 := d1
        have d2 : 0 < T2 := d2
        have d3 : T2 ≤ 2140143616 := d3
        have HT := Lib.hid hT
        clear hT HF
        have hfin : lowS (T1, T2) c.toNat = lowN T1 (T2 * c.toNat * c.toNat) := rfl
        obtain ⟨C, rfl⟩ := Int.eq_ofNat_of_zero_le (show 0 ≤ c by omega)
        simp only [Int.toNat_natCast] at hfin ⊢
        have hC : C ≤ 16 := by omega
        have u1 : T2 * C ≤ 2140143616 * 16 := Nat.mul_le_mul (by omega) hC
        have u2 : T2 * C * C ≤ 2140143616 * 16 * 16 := Nat.mul_le_mul u1 hC
        have u3 : 0 < T2 * C * C := Nat.mul_pos (Nat.mul_pos d2 (by omega)) (by omega)
        have v1 : (T2 : Int) * (C : Int) = ((T2 * C : Nat) : Int) := (Int.natCast_mul _ _).symm
        have v2 : ((T2 * C : Nat) : Int) * (C : Int) = ((T2 * C * C : Nat) : Int) := (Int.natCast_mul _ _).symm
        have C2 := Lib.hid (fun W9 => mvPart_any T1 (T2 * C * C) W9 (by omega) (by omega) u3)
        rw [← hfin] at C2
        obtain ⟨m1, hm1⟩ : ∃ z, z = T2 * C := ⟨_, rfl⟩
        rw [← hm1] at v1 v2 u1
        rw [← hm1] at C2 u2
        obtain ⟨m2, hm2⟩ : ∃ z, z = m1 * C := ⟨_, rfl⟩
        rw [← hm2] at v2 C2 u2
        have HL := Lib.hid hfin
        clear hfin hm1 hm2 u3
        go_wp2_with fail
        refine (C2.out _).mono ?_; rintro e w4 ⟨rfl, b4⟩
        go_wp2_with fail
        go_ret2
        exact ⟨by rw [hmN.out]; rfl, (bw.next (Nat.le_refl _) bb3).next (Nat.le_refl _) b4⟩
theorem lowS_bd {f : Fr} {C : Nat} (h : okF f) (hC : 0 < C) (hC2 : C ≤ 16) : (lowS f C).1 ≤ 193953851139686400 ∧ (lowS f C).2 ≤ 547876765696 ∧ 0 < (lowS f C).2 := by
  obtain ⟨h1, h2, h3⟩ := h
  have l5 := lowN_le f.1 (f.2 * C * C)
  have u1 : f.2 * C ≤ 2140143616 * 16 := Nat.mul_le_mul (by omega) hC2
  have u2 : f.2 * C * C ≤ 2140143616 * 16 * 16 := Nat.mul_le_mul u1 hC2
  obtain ⟨_, _, _, _, l6⟩ := lowN_mul (a := f.1) (Nat.mul_pos (Nat.mul_pos h2 hC) hC)
  unfold lowS
  exact ⟨by omega, by omega, l6⟩
set_option maxRecDepth 100000 in
set_option maxHeartbeats 3200000 in
theorem rpFits_any (fx fy tx ty gx gy ux uy c p q L : Int) (w : World) (ha : goodM ⟨fx, fy, tx, ty, c⟩) (hb : goodM ⟨gx, gy, ux, uy, c⟩) (hp0 : 0 ≤ p) (hp4 : p ≤ 4) (hq0 : 0 ≤ q) (hq4 : q ≤ 4) (hL0 : 0 ≤ L) (hL : L ≤ 80) :
    Calls Try.prog 48 #[.agg #[.int .i64 fx, .int .i64 fy, .int .i64 tx, .int .i64 ty, .int .i64 c], .agg #[.int .i64 gx, .int .i64 gy, .int .i64 ux, .int .i64 uy, .int .i64 c], .int .i64 p, .int .i64 q, .int .i64 L] w fun e w' => e = .returned (.bool (!closeB ⟨fx, fy, tx, ty, c⟩ ⟨gx, gy, ux, uy, c⟩ p q L)) ∧ Below w.heap.size w w' := by
  have hc1 : 1 ≤ c := ha.2.2.1
  have hc16 : c ≤ 16 := ha.2.2.2
  have C1 := Lib.hid (fun W => rpFirst_any fx fy tx ty gx gy ux uy c p q W ha hb hp0 hp4 hq0 hq4)
  have hbd := lowS_bd (sF_ok (wayP_ok ha hb p q) (lastN c p q - 1)) (C := c.toNat) (by omega) (by omega)
  have hcl : closeB ⟨fx, fy, tx, ty, c⟩ ⟨gx, gy, ux, uy, c⟩ p q L = ltK (lowS (sF (wayP ⟨fx, fy, tx, ty, c⟩ ⟨gx, gy, ux, uy, c⟩ p q) (lastN c p q - 1)) c.toNat) (L.toNat * L.toNat) := closeB_s ha hb p q L hp0
  generalize lowS (sF (wayP ⟨fx, fy, tx, ty, c⟩ ⟨gx, gy, ux, uy, c⟩ p q) (lastN c p q - 1)) c.toNat = f at C1 hbd hcl
  obtain ⟨F1, F2⟩ := f
  obtain ⟨r1, r2, r3⟩ := hbd
  have r1 : F1 ≤ 193953851139686400 := r1
  have r2 : F2 ≤ 547876765696 := r2
  have r3 : 0 < F2 := r3
  obtain ⟨l, rfl⟩ := Int.eq_ofNat_of_zero_le hL0
  rw [Int.toNat_natCast] at hcl
  have hl : l ≤ 80 := by omega
  have u1 : l * l ≤ 80 * 80 := Nat.mul_le_mul hl hl
  have v1 : (l : Int) * (l : Int) = ((l * l : Nat) : Int) := (Int.natCast_mul _ _).symm
  have hfin : (!closeB ⟨fx, fy, tx, ty, c⟩ ⟨gx, gy, ux, uy, c⟩ p q (l : Int)) = decide (l * l ≤ F1 / F2) := by
    rw [hcl]
    show (!decide (F1 < l * l * F2)) = _
    rw [← decide_not]
    exact decide_eq_decide.2 (by rw [Nat.le_div_iff_mul_le r3]; omega)
  have zb := ((Below.refl w.heap.size w).alloc (Nat.le_refl _) (.cells #[.int .i64 fx, .int .i64 fy, .int .i64 tx, .int .i64 ty, .int .i64 c] 71)).alloc (by simp) (.cells #[.int .i64 gx, .int .i64 gy, .int .i64 ux, .int .i64 uy, .int .i64 c] 71)
  have ZB := Lib.hid zb
  have hq9 := tdivN F1 F2
  have hle : F1 / F2 ≤ F1 := Nat.div_le_self _ _
  obtain ⟨m1, hm1⟩ : ∃ z, z = l * l := ⟨_, rfl⟩
  obtain ⟨m2, hm2⟩ : ∃ z, z = F1 / F2 := ⟨_, rfl⟩
  rw [← hm1] at v1 u1 hfin
  rw [← hm2] at hq9 hle hfin
  have hq8 : (F1 : Int) / (F2 : Int) = (m2 : Int) := by rw [hm2]; rfl
  have g0 : ¬ (F2 : Int) = 0 := by omega
  have g1 : ¬ (F2 : Int) = -1 := by omega
  rw [hfin]
  clear hcl hfin hm1 hm2 zb ha hb
  simp only at C1
  go_enter Try.func48, Try.ntmps48
  go_wp2_with fail
  refine (C1.out _).mono ?_; rintro e w1 ⟨rfl, b1⟩
  go_wp2_with fail
  go_ret
  exact ⟨ret_bool (by simp), ZB.out.next (Nat.le_refl _) b1⟩
end Go.Proofs.Ytgcgkpmjahgmnaa
