/- Contracts: the least square of the way between two moves with delays, in the program. -/
import Derived.Test.YtgcgkpmjahgmnaaMv
set_option linter.unusedSimpArgs false
set_option linter.unusedVariables false
namespace Go.Proofs.Ytgcgkpmjahgmnaa
open Go.RowKit Go.Sort

def wayP (a b : Mv) (p q : Int) (n : Nat) : Pt := ⟨wX a b p q (n : Int), wY a b p q (n : Int)⟩
theorem wayP_ok {a b : Mv} (ha : goodM a) (hb : goodM b) (p q : Int) (n : Nat) : okP (wayP a b p q n) := by
  have h1 := wX_bd ha hb p q (n : Int)
  have h2 := wY_bd ha hb p q (n : Int)
  exact ⟨h1.1, h1.2, h2.1, h2.2⟩
/-- How many parts there are. -/
def lastN (c p q : Int) : Nat := (c + max p q).toNat
def lowI (f : Fr) (C : Nat) : Fr := lowN (lowN f.1 f.2).1 ((lowN f.1 f.2).2 * C * C)
/-- Do two moves with delays come too close? -/
def closeB (a b : Mv) (p q L : Int) : Bool := ltK (iF (wayP a b p q) (lastN a.c p q)) (L.toNat * L.toNat * (a.c.toNat * a.c.toNat))
/-- A box with a move. -/
def BoxM (w : World) (b : Nat) (x y z t c : Int) : Prop := w.heap[b]? = some (.cells #[.int .i64 x, .int .i64 y, .int .i64 z, .int .i64 t, .int .i64 c] 71 (0, 0))
theorem BoxM.new (w : World) (x y z t c : Int) : BoxM (w.alloc (.cells #[.int .i64 x, .int .i64 y, .int .i64 z, .int .i64 t, .int .i64 c] 71)) w.heap.size x y z t c := by
  show (w.heap.push _)[w.heap.size]? = _
  rw [Array.getElem?_push_size]
theorem BoxM.lt {w : World} {b : Nat} {x y z t c : Int} (h : BoxM w b x y z t c) : b < w.heap.size := (Array.getElem?_eq_some_iff.1 h).1
theorem BoxM.al {w : World} {b : Nat} {x y z t c : Int} (h : BoxM w b x y z t c) (o : Obj) : BoxM (w.alloc o) b x y z t c := by
  have hl := h.lt
  show (w.heap.push o)[b]? = _
  rw [Array.getElem?_push_lt hl]
  exact (Array.getElem?_eq_getElem hl).symm.trans h
theorem BoxM.keep {w w' : World} {b B : Nat} {x y z t c : Int} (h : BoxM w b x y z t c) (hb : Below B w w') (hB : b < B) : BoxM w' b x y z t c := (hb.block b hB).trans h
theorem BoxM.cells {w : World} {b : Nat} {x y z t c : Int} (h : BoxM w b x y z t c) : w.cell? ⟨b, 0, none⟩ = some (.int .i64 x) ∧ w.cell? ⟨b, 1, none⟩ = some (.int .i64 y) ∧ w.cell? ⟨b, 2, none⟩ = some (.int .i64 z) ∧ w.cell? ⟨b, 3, none⟩ = some (.int .i64 t) ∧ w.cell? ⟨b, 4, none⟩ = some (.int .i64 c) :=
  ⟨by rw [cell_of_row w b 0 _ _ _ h]; rfl, by rw [cell_of_row w b 1 _ _ _ h]; rfl, by rw [cell_of_row w b 2 _ _ _ h]; rfl, by rw [cell_of_row w b 3 _ _ _ h]; rfl, by rw [cell_of_row w b 4 _ _ _ h]; rfl⟩
theorem kD_0 {c p : Int} (hc : 0 ≤ c) (hp : 0 ≤ p) : kD c p 0 = 0 := by unfold kD; omega
theorem nn_cast {x : Int} (h : 0 ≤ x) : ∃ n : Nat, x = n := ⟨x.toNat, by omega⟩
theorem iF_step (P : Nat → Pt) (n : Nat) : iF P (n + 1) = updF (iF P n) (segI (P n) (P (n + 1))) := rfl
theorem updF_yes {t o : Fr} (h : o.1 * t.2 < t.1 * o.2) : updF t o = o := by unfold updF lessF; rw [decide_eq_true h]; rfl
theorem updF_no {t o : Fr} (h : ¬ o.1 * t.2 < t.1 * o.2) : updF t o = t := by unfold updF lessF; rw [decide_eq_false h]; rfl

set_option maxRecDepth 100000 in
set_option maxHeartbeats 12800000 in
theorem leastDelayed_L (fx fy tx ty gx gy ux uy c p q : Int) (w : World) (ha : goodM ⟨fx, fy, tx, ty, c⟩) (hb : goodM ⟨gx, gy, ux, uy, c⟩) (hp0 : 0 ≤ p) (hp4 : p ≤ 4) (hq0 : 0 ≤ q) (hq4 : q ≤ 4) (hpq : p < q) :
    Calls Try.prog 71 #[.agg #[.int .i64 fx, .int .i64 fy, .int .i64 tx, .int .i64 ty, .int .i64 c], .agg #[.int .i64 gx, .int .i64 gy, .int .i64 ux, .int .i64 uy, .int .i64 c], .int .i64 p, .int .i64 q] w fun e w' => e = .returned (.tuple #[.int .i64 (lowI (iF (wayP ⟨fx, fy, tx, ty, c⟩ ⟨gx, gy, ux, uy, c⟩ p q) (lastN c p q)) c.toNat).1, .int .i64 (lowI (iF (wayP ⟨fx, fy, tx, ty, c⟩ ⟨gx, gy, ux, uy, c⟩ p q) (lastN c p q)) c.toNat).2]) ∧ Below w.heap.size w w' := by
  have hc1 : 1 ≤ c := ha.2.2.1
  have hc16 : c ≤ 16 := ha.2.2.2
  have HP := Lib.hid (wayP_ok ha hb p q)
  have HF := Lib.hid (iF_ok (wayP_ok ha hb p q))
  have HA := Lib.hid ha
  have HB := Lib.hid hb
  clear ha hb
  have zA := (BoxM.new w fx fy tx ty c).al (.cells #[.int .i64 gx, .int .i64 gy, .int .i64 ux, .int .i64 uy, .int .i64 c] 71)
  have zB := BoxM.new (w.alloc (.cells #[.int .i64 fx, .int .i64 fy, .int .i64 tx, .int .i64 ty, .int .i64 c] 71)) gx gy ux uy c
  have bw := ((Below.refl w.heap.size w).alloc (Nat.le_refl _) (.cells #[.int .i64 fx, .int .i64 fy, .int .i64 tx, .int .i64 ty, .int .i64 c] 71)).alloc (by simp) (.cells #[.int .i64 gx, .int .i64 gy, .int .i64 ux, .int .i64 uy, .int .i64 c] 71)
  have hs1 : (w.alloc (.cells #[.int .i64 fx, .int .i64 fy, .int .i64 tx, .int .i64 ty, .int .i64 c] 71)).heap.size = w.heap.size + 1 := by simp
  rw [hs1] at zB
  obtain ⟨W, hW⟩ : ∃ W : World, W = (w.alloc (.cells #[.int .i64 fx, .int .i64 fy, .int .i64 tx, .int .i64 ty, .int .i64 c] 71)).alloc (.cells #[.int .i64 gx, .int .i64 gy, .int .i64 ux, .int .i64 uy, .int .i64 c] 71) := ⟨_, rfl⟩
  rw [← hW] at zA zB bw
  have HW := Lib.hid hW
  have ZA := Lib.hid zA
  have ZB := Lib.hid zB
  clear hW hs1
  obtain ⟨N, hN⟩ : ∃ N, N = lastN c p q := ⟨_, rfl⟩
  rw [← hN]
  have hN2 : (N : Int) = c + max p q := by rw [hN]; unfold lastN; omega
  clear hN
  have hN2 : (N : Int) = c + q := by omega
  have P0 := HP.out 0
  have k1 := mvX_bd HA.out (k := 0) (by omega) (by show (0 : Int) ≤ c; omega)
  have k2 := mvY_bd HA.out (k := 0) (by omega) (by show (0 : Int) ≤ c; omega)
  have k3 := mvX_bd HB.out (k := 0) (by omega) (by show (0 : Int) ≤ c; omega)
  have k4 := mvY_bd HB.out (k := 0) (by omega) (by show (0 : Int) ≤ c; omega)
  have C1 := Lib.hid (fun W => placeAt_any fx fy tx ty c 0 W HA.out (by omega) (by omega))
  have C2 := Lib.hid (fun W => placeAt_any gx gy ux uy c 0 W HB.out (by omega) (by omega))
  have eX : (wayP ⟨fx, fy, tx, ty, c⟩ ⟨gx, gy, ux, uy, c⟩ p q 0).x = mvX ⟨fx, fy, tx, ty, c⟩ 0 - mvX ⟨gx, gy, ux, uy, c⟩ 0 := by show mvX ⟨fx, fy, tx, ty, c⟩ (kD c p 0) - mvX ⟨gx, gy, ux, uy, c⟩ (kD c q 0) = _; first | rw [kD_0 (by omega) hp0, kD_0 (by omega) hq0] | rw [kD_0 (by omega) hp0]
  have eY : (wayP ⟨fx, fy, tx, ty, c⟩ ⟨gx, gy, ux, uy, c⟩ p q 0).y = mvY ⟨fx, fy, tx, ty, c⟩ 0 - mvY ⟨gx, gy, ux, uy, c⟩ 0 := by show mvY ⟨fx, fy, tx, ty, c⟩ (kD c p 0) - mvY ⟨gx, gy, ux, uy, c⟩ (kD c q 0) = _; first | rw [kD_0 (by omega) hp0, kD_0 (by omega) hq0] | rw [kD_0 (by omega) hp0]
  obtain ⟨x, hx⟩ : ∃ z, z = mvX ⟨fx, fy, tx, ty, c⟩ 0 := ⟨_, rfl⟩
  obtain ⟨y, hy⟩ : ∃ z, z = mvY ⟨fx, fy, tx, ty, c⟩ 0 := ⟨_, rfl⟩
  obtain ⟨u, hu⟩ : ∃ z, z = mvX ⟨gx, gy, ux, uy, c⟩ 0 := ⟨_, rfl⟩
  obtain ⟨v, hv⟩ : ∃ z, z = mvY ⟨gx, gy, ux, uy, c⟩ 0 := ⟨_, rfl⟩
  rw [← hx, ← hy] at C1
  rw [← hu, ← hv] at C2
  rw [← hx] at k1
  rw [← hy] at k2
  rw [← hu] at k3
  rw [← hv] at k4
  rw [← hx, ← hu] at eX
  rw [← hy, ← hv] at eY
  obtain ⟨px, hpx⟩ : ∃ z, z = (wayP ⟨fx, fy, tx, ty, c⟩ ⟨gx, gy, ux, uy, c⟩ p q 0).x := ⟨_, rfl⟩
  obtain ⟨py, hpy⟩ : ∃ z, z = (wayP ⟨fx, fy, tx, ty, c⟩ ⟨gx, gy, ux, uy, c⟩ p q 0).y := ⟨_, rfl⟩
  have g1 : x - u = px := by rw [hpx, eX]
  have g2 : y - v = py := by rw [hpy, eY]
  have s5 := sqI_bd P0
  have s6 := sqI_nn (wayP ⟨fx, fy, tx, ty, c⟩ ⟨gx, gy, ux, uy, c⟩ p q 0).x (wayP ⟨fx, fy, tx, ty, c⟩ ⟨gx, gy, ux, uy, c⟩ p q 0).y
  have hi0 : iF (wayP ⟨fx, fy, tx, ty, c⟩ ⟨gx, gy, ux, uy, c⟩ p q) 0 = ((sqI (wayP ⟨fx, fy, tx, ty, c⟩ ⟨gx, gy, ux, uy, c⟩ p q 0).x (wayP ⟨fx, fy, tx, ty, c⟩ ⟨gx, gy, ux, uy, c⟩ p q 0).y).toNat, 1) := rfl
  obtain ⟨p1, p2, p3, p4⟩ := P0
  rw [← hpx] at p1 p2
  rw [← hpy] at p3 p4
  rw [← hpx, ← hpy] at s5 s6 hi0
  obtain ⟨ow, how⟩ := nn_cast s6
  rw [how] at s5 hi0
  simp only [Int.toNat_natCast] at hi0
  have m3 : px * px + py * py = (ow : Int) := how
  have t5 := mul_abs_le (x := px) (y := px) (A := 20480) (B := 20480) (by omega) (by omega) (by omega) (by omega)
  have t6 := mul_abs_le (x := py) (y := py) (A := 10752) (B := 10752) (by omega) (by omega) (by omega) (by omega)
  obtain ⟨e5, h5⟩ : ∃ z, px * px = z := ⟨_, rfl⟩
  obtain ⟨e6, h6⟩ : ∃ z, py * py = z := ⟨_, rfl⟩
  rw [h5] at m3 t5
  rw [h6] at m3 t6
  have HI0 := Lib.hid hi0
  have HPX := Lib.hid hpx
  have HPY := Lib.hid hpy
  clear hx hy hu hv hpx hpy eX eY how s6 hi0
  obtain ⟨a0, a1, a2, a3, a4⟩ := zA.cells
  go_enter Try.func71, Try.ntmps71
  go_upto_region 1 with fail
  rw [← HW.out]
  go_wp2_with fail
  refine (C1.out _).mono ?_; rintro e w1 ⟨rfl, b1⟩
  clear a0 a1 a2 a3 a4
  have zB1 := ZB.out.keep b1 ZB.out.lt
  obtain ⟨b0, b1', b2, b3, b4⟩ := zB1.cells
  go_wp2_with fail
  refine (C2.out _).mono ?_; rintro e w2 ⟨rfl, bb⟩
  have b12 := b1.next (Nat.le_refl _) bb
  clear b0 b1' b2 b3 b4 C1 C2 zA zB zB1
  go_wp2_with fail
  clear h5 h6 m3 t5 t6 s5 g1 g2 k1 k2 k3 k4
  go_loopw [14, 15, 16, 17, 18] (fun s1 s2 s3 s4 s5 wr => ∃ n k : Nat, Hid (k = n + 1) ∧ k ≤ N + 1 ∧ s1 = .int .i64 (wayP ⟨fx, fy, tx, ty, c⟩ ⟨gx, gy, ux, uy, c⟩ p q n).x ∧ s2 = .int .i64 (wayP ⟨fx, fy, tx, ty, c⟩ ⟨gx, gy, ux, uy, c⟩ p q n).y ∧ s3 = .int .i64 (iF (wayP ⟨fx, fy, tx, ty, c⟩ ⟨gx, gy, ux, uy, c⟩ p q) n).1 ∧ s4 = .int .i64 (iF (wayP ⟨fx, fy, tx, ty, c⟩ ⟨gx, gy, ux, uy, c⟩ p q) n).2 ∧ s5 = .int .i64 k ∧ Below W.heap.size W wr) (fun _ _ _ _ s _ => N + 1 - (intOf s).toNat)
  case atStart => exact ⟨0, 1, rfl, by omega, by rw [← HPX.out], by rw [← HPY.out], by rw [HI0.out], by rw [HI0.out]; rfl, rfl, b12⟩
  case round =>
      obtain ⟨n, k, hkn, hk, rfl, rfl, rfl, rfl, rfl, hb⟩ := hrel
      have hP1 := HP.out n
      have hP2 := HP.out (n + 1)
      have hf := HF.out n
      have hst := iF_step (wayP ⟨fx, fy, tx, ty, c⟩ ⟨gx, gy, ux, uy, c⟩ p q) n
      have zA := ZA.out.keep hb ZA.out.lt
      have zB := ZB.out.keep hb ZB.out.lt
      obtain ⟨a0, a1, a2, a3, a4⟩ := zA.cells
      have hk0 : (k : Int) ≤ 21 := by omega
      by_cases hlt : k ≤ N
      · have hle : (k : Int) ≤ c + q := by omega
        obtain ⟨x, hx⟩ : ∃ x, x = mvX ⟨fx, fy, tx, ty, c⟩ (kD c p (k : Int)) := ⟨_, rfl⟩
        obtain ⟨y, hy⟩ : ∃ x, x = mvY ⟨fx, fy, tx, ty, c⟩ (kD c p (k : Int)) := ⟨_, rfl⟩
        obtain ⟨u, hu⟩ : ∃ x, x = mvX ⟨gx, gy, ux, uy, c⟩ (kD c q (k : Int)) := ⟨_, rfl⟩
        obtain ⟨v, hv⟩ : ∃ x, x = mvY ⟨gx, gy, ux, uy, c⟩ (kD c q (k : Int)) := ⟨_, rfl⟩
        have C1 := Lib.hid (fun W => placeDelayed_any fx fy tx ty c p (k : Int) W HA.out hp0 hp4 (by omega) (by omega))
        have C2 := Lib.hid (fun W => placeDelayed_any gx gy ux uy c q (k : Int) W HB.out hq0 hq4 (by omega) (by omega))
        rw [← hx, ← hy] at C1
        rw [← hu, ← hv] at C2
        obtain ⟨qx, hqx⟩ : ∃ z, z = (wayP ⟨fx, fy, tx, ty, c⟩ ⟨gx, gy, ux, uy, c⟩ p q (n + 1)).x := ⟨_, rfl⟩
        obtain ⟨qy, hqy⟩ : ∃ z, z = (wayP ⟨fx, fy, tx, ty, c⟩ ⟨gx, gy, ux, uy, c⟩ p q (n + 1)).y := ⟨_, rfl⟩
        have g1 : x - u = qx := by rw [hx, hu, hqx, hkn.out]; rfl
        have g2 : y - v = qy := by rw [hy, hv, hqy, hkn.out]; rfl
        obtain ⟨px, hpx⟩ : ∃ z, z = (wayP ⟨fx, fy, tx, ty, c⟩ ⟨gx, gy, ux, uy, c⟩ p q n).x := ⟨_, rfl⟩
        obtain ⟨py, hpy⟩ : ∃ z, z = (wayP ⟨fx, fy, tx, ty, c⟩ ⟨gx, gy, ux, uy, c⟩ p q n).y := ⟨_, rfl⟩
        have bx := mvX_bd HA.out (k := kD c p (k : Int)) (kD_bd (by omega)).1 (kD_bd (by omega)).2
        have by_ := mvY_bd HA.out (k := kD c p (k : Int)) (kD_bd (by omega)).1 (kD_bd (by omega)).2
        have bu := mvX_bd HB.out (k := kD c q (k : Int)) (kD_bd (by omega)).1 (kD_bd (by omega)).2
        have bv := mvY_bd HB.out (k := kD c q (k : Int)) (kD_bd (by omega)).1 (kD_bd (by omega)).2
        rw [← hx] at bx
        rw [← hy] at by_
        rw [← hu] at bu
        rw [← hv] at bv
        have s1 := sizI_bd hP1 hP2
        have s2 := dotI_bd hP1 hP2
        have s3 := crI_bd hP1 hP2
        have s4 := crsq_bd hP1 hP2
        have s5 := sqI_bd hP2
        have s6 := sqI_nn (wayP ⟨fx, fy, tx, ty, c⟩ ⟨gx, gy, ux, uy, c⟩ p q (n + 1)).x (wayP ⟨fx, fy, tx, ty, c⟩ ⟨gx, gy, ux, uy, c⟩ p q (n + 1)).y
        have hseg : segI (wayP ⟨fx, fy, tx, ty, c⟩ ⟨gx, gy, ux, uy, c⟩ p q n) (wayP ⟨fx, fy, tx, ty, c⟩ ⟨gx, gy, ux, uy, c⟩ p q (n + 1)) = if inn px py qx qy then ((crI px py qx qy * crI px py qx qy).toNat, (sizI px py qx qy).toNat) else ((sqI qx qy).toNat, 1) := by rw [hpx, hpy, hqx, hqy]; rfl
        obtain ⟨p1, p2, p3, p4⟩ := hP1
        obtain ⟨q1, q2, q3, q4⟩ := hP2
        rw [← hpx] at p1 p2
        rw [← hpy] at p3 p4
        rw [← hqx] at q1 q2
        rw [← hqy] at q3 q4
        rw [← hpx, ← hpy, ← hqx, ← hqy] at s1 s2 s3 s4
        rw [← hqx, ← hqy] at s5 s6
        rw [← hpx, ← hpy]
        rw [hseg] at hst
        obtain ⟨T, hT⟩ : ∃ T, T = iF (wayP ⟨fx, fy, tx, ty, c⟩ ⟨gx, gy, ux, uy, c⟩ p q) n := ⟨_, rfl⟩
        rw [← hT] at hst hf
        rw [← hT]
        have HPX := Lib.hid hpx
        have HQX : Hid ((wayP ⟨fx, fy, tx, ty, c⟩ ⟨gx, gy, ux, uy, c⟩ p q (n + 1)).x = qx) := hqx.symm
        have HQY : Hid ((wayP ⟨fx, fy, tx, ty, c⟩ ⟨gx, gy, ux, uy, c⟩ p q (n + 1)).y = qy) := hqy.symm
        clear hx hy hu hv hqx hqy hpx hpy hseg hT
        obtain ⟨vx, hvx⟩ : ∃ z, z = qx - px := ⟨_, rfl⟩
        obtain ⟨vy, hvy⟩ : ∃ z, z = qy - py := ⟨_, rfl⟩
        obtain ⟨dt, hdt⟩ : ∃ z, z = dotI px py qx qy := ⟨_, rfl⟩
        obtain ⟨cr, hcr⟩ : ∃ z, z = crI px py qx qy := ⟨_, rfl⟩
        obtain ⟨sz, hsz⟩ := nn_cast s1.1
        obtain ⟨cc, hcc⟩ := nn_cast s4.1
        obtain ⟨ow, how⟩ := nn_cast s6
        have hin : inn px py qx qy = (decide (dt < 0) && decide (-dt < (sz : Int))) := by unfold inn; rw [← hdt, hsz]
        have m1 : px * vx + py * vy = dt := by rw [hdt, hvx, hvy]; rfl
        have m2 : vx * vx + vy * vy = (sz : Int) := by rw [hvx, hvy]; exact hsz
        have m3 : qx * qx + qy * qy = (ow : Int) := how
        have m4 : px * vy - py * vx = cr := by rw [hcr, hvx, hvy]; unfold crI; grind
        have m5 : cr * cr = (cc : Int) := by rw [hcr]; exact hcc
        rw [hsz] at s1
        rw [← hdt] at s2
        rw [← hcr] at s3
        rw [hcc] at s4
        rw [how] at s5
        rw [hin, hcc, hsz, how] at hst
        simp only [Int.toNat_natCast] at hst
        clear hdt hcr hsz hcc how hin s6
        have t1 := mul_abs_le (x := px) (y := vx) (A := 20480) (B := 40960) (by omega) (by omega) (by omega) (by omega)
        have t2 := mul_abs_le (x := py) (y := vy) (A := 10752) (B := 21504) (by omega) (by omega) (by omega) (by omega)
        have t3 := mul_abs_le (x := vx) (y := vx) (A := 40960) (B := 40960) (by omega) (by omega) (by omega) (by omega)
        have t4 := mul_abs_le (x := vy) (y := vy) (A := 21504) (B := 21504) (by omega) (by omega) (by omega) (by omega)
        have t5 := mul_abs_le (x := qx) (y := qx) (A := 20480) (B := 20480) (by omega) (by omega) (by omega) (by omega)
        have t6 := mul_abs_le (x := qy) (y := qy) (A := 10752) (B := 10752) (by omega) (by omega) (by omega) (by omega)
        have t7 := mul_abs_le (x := px) (y := vy) (A := 20480) (B := 21504) (by omega) (by omega) (by omega) (by omega)
        have t8 := mul_abs_le (x := py) (y := vx) (A := 10752) (B := 40960) (by omega) (by omega) (by omega) (by omega)
        obtain ⟨e1, h1⟩ : ∃ z, px * vx = z := ⟨_, rfl⟩
        obtain ⟨e2, h2⟩ : ∃ z, py * vy = z := ⟨_, rfl⟩
        obtain ⟨e3, h3⟩ : ∃ z, vx * vx = z := ⟨_, rfl⟩
        obtain ⟨e4, h4⟩ : ∃ z, vy * vy = z := ⟨_, rfl⟩
        obtain ⟨e5, h5⟩ : ∃ z, qx * qx = z := ⟨_, rfl⟩
        obtain ⟨e6, h6⟩ : ∃ z, qy * qy = z := ⟨_, rfl⟩
        obtain ⟨e7, h7⟩ : ∃ z, px * vy = z := ⟨_, rfl⟩
        obtain ⟨e8, h8⟩ : ∃ z, py * vx = z := ⟨_, rfl⟩
        rw [h1] at m1 t1
        rw [h2] at m1 t2
        rw [h3] at m2 t3
        rw [h4] at m2 t4
        rw [h5] at m3 t5
        rw [h6] at m3 t6
        rw [h7] at m4 t7
        rw [h8] at m4 t8
        have g3 : qx - px = vx := hvx.symm
        have g4 : qy - py = vy := hvy.symm
        clear hvx hvy
        obtain ⟨T1, T2⟩ := T
        obtain ⟨f1, f2, f3⟩ := hf
        have f1 : T1 ≤ 193953851139686400 := f1
        have f2 : 0 < T2 := f2
        have f3 : T2 ≤ 2140143616 := f3
        have Hst := Lib.hid hst
        clear hst HF
        go_wp2_with fail
        refine (C1.out _).mono ?_; rintro e w1 ⟨rfl, b1⟩
        have hb1 := hb.next (Nat.le_refl _) b1
        have zB1 := zB.keep b1 zB.lt
        obtain ⟨d0, d1, d2, d3, d4⟩ := zB1.cells
        clear a0 a1 a2 a3 a4
        go_wp2_with fail
        refine (C2.out _).mono ?_; rintro e w2 ⟨rfl, bq⟩
        have hb2 := hb1.next (Nat.le_refl _) bq
        clear C1 C2 d0 d1 d2 d3 d4 zB1 zA zB b1 bq hb hb1
        have hcase : (dt < 0 ∧ -dt < (sz : Int)) ∨ (dt < 0 ∧ ¬ -dt < (sz : Int)) ∨ ¬ dt < 0 := by omega
        rcases hcase with ⟨i1, i2⟩ | ⟨i1, i2⟩ | i1
        · have ho : iF (wayP ⟨fx, fy, tx, ty, c⟩ ⟨gx, gy, ux, uy, c⟩ p q) (n + 1) = updF (T1, T2) (cc, sz) := by rw [Hst.out, decide_eq_true i1, decide_eq_true i2]; rfl
          have hszp : 0 < sz := by omega
          have C3 := Lib.hid (lessFraction_any cc sz T1 T2 w2 (by omega) (by omega) (by omega) (by omega))
          by_cases hl : cc * T2 < T1 * sz
          · rw [decide_eq_true hl] at C3
            rw [updF_yes hl] at ho
            have Ho := Lib.hid ho
            clear hl ho
            go_wp2_with fail
            refine C3.out.mono ?_; rintro e _ ⟨rfl, rfl⟩
            go_wp2_with fail
            go_roundw
            case rel => exact ⟨n + 1, k + 1, by show _ = _; have := hkn.out; omega, by omega, by rw [HQX.out], by rw [HQY.out], by rw [Ho.out], by rw [Ho.out], by go_num, hb2⟩
            case measure => simp [intOf]; omega
          · rw [decide_eq_false hl] at C3
            rw [updF_no hl] at ho
            have Ho := Lib.hid ho
            clear hl ho
            go_wp2_with fail
            refine C3.out.mono ?_; rintro e _ ⟨rfl, rfl⟩
            go_wp2_with fail
            go_roundw
            case rel => exact ⟨n + 1, k + 1, by show _ = _; have := hkn.out; omega, by omega, by rw [HQX.out], by rw [HQY.out], by rw [Ho.out], by rw [Ho.out], by go_num, hb2⟩
            case measure => simp [intOf]; omega
        all_goals
          have ho : iF (wayP ⟨fx, fy, tx, ty, c⟩ ⟨gx, gy, ux, uy, c⟩ p q) (n + 1) = updF (T1, T2) (ow, 1) := by
            rw [Hst.out]
            first
              | (rw [decide_eq_true i1, decide_eq_false i2]; rfl)
              | (rw [decide_eq_false i1]; rfl)
          have C3 := Lib.hid (lessFraction_any ow 1 T1 T2 w2 (by omega) (by omega) (by omega) (by omega))
          by_cases hl : ow * T2 < T1 * 1
          · rw [decide_eq_true hl] at C3
            rw [updF_yes hl] at ho
            have Ho := Lib.hid ho
            clear hl ho
            go_wp2_with fail
            refine C3.out.mono ?_; rintro e _ ⟨rfl, rfl⟩
            go_wp2_with fail
            go_roundw
            case rel => exact ⟨n + 1, k + 1, by show _ = _; have := hkn.out; omega, by omega, by rw [HQX.out], by rw [HQY.out], by rw [Ho.out], by rw [Ho.out]; rfl, by go_num, hb2⟩
            case measure => simp [intOf]; omega
          · rw [decide_eq_false hl] at C3
            rw [updF_no hl] at ho
            have Ho := Lib.hid ho
            clear hl ho
            go_wp2_with fail
            refine C3.out.mono ?_; rintro e _ ⟨rfl, rfl⟩
            go_wp2_with fail
            go_roundw
            case rel => exact ⟨n + 1, k + 1, by show _ = _; have := hkn.out; omega, by omega, by rw [HQX.out], by rw [HQY.out], by rw [Ho.out], by rw [Ho.out], by go_num, hb2⟩
            case measure => simp [intOf]; omega
      · have hnN : n = N := by have := hkn.out; omega
        subst hnN
        have hgt : ¬ (k : Int) ≤ c + q := by omega
        obtain ⟨T, hT⟩ : ∃ T, T = iF (wayP ⟨fx, fy, tx, ty, c⟩ ⟨gx, gy, ux, uy, c⟩ p q) n := ⟨_, rfl⟩
        rw [← hT] at hf
        rw [← hT]
        obtain ⟨T1, T2⟩ := T
        obtain ⟨f1, f2, f3⟩ := hf
        have f1 : T1 ≤ 193953851139686400 := f1
        have f2 : 0 < T2 := f2
        have f3 : T2 ≤ 2140143616 := f3
        have HT := Lib.hid hT
        clear hT hst HF
        obtain ⟨g, hg, l1, l2, l3⟩ := lowN_mul (a := T1) f2
        have ll := lowN_le T1 T2
        have C1 := Lib.hid (fun W9 => lowestTerms_any T1 T2 W9 (by omega) (by omega) f2)
        have hfin : lowI (T1, T2) c.toNat = lowN (lowN T1 T2).1 ((lowN T1 T2).2 * c.toNat * c.toNat) := rfl
        generalize lowN T1 T2 = l at l1 l2 l3 ll C1 hfin
        obtain ⟨la, lb⟩ := l
        simp only at l3 ll C1 hfin
        obtain ⟨C, rfl⟩ := Int.eq_ofNat_of_zero_le (show 0 ≤ c by omega)
        simp only [Int.toNat_natCast] at hfin
        have hC : C ≤ 16 := by omega
        have u1 : lb * C ≤ 2140143616 * 16 := Nat.mul_le_mul (by omega) hC
        have u2 : lb * C * C ≤ 2140143616 * 16 * 16 := Nat.mul_le_mul u1 hC
        have u3 : 0 < lb * C * C := Nat.mul_pos (Nat.mul_pos l3 (by omega)) (by omega)
        have v1 : (lb : Int) * (C : Int) = ((lb * C : Nat) : Int) := (Int.natCast_mul _ _).symm
        have v2 : ((lb * C : Nat) : Int) * (C : Int) = ((lb * C * C : Nat) : Int) := (Int.natCast_mul _ _).symm
        have C2 := Lib.hid (fun W9 => lowestTerms_any la (lb * C * C) W9 (by omega) (by omega) u3)
        rw [← hfin] at C2
        obtain ⟨m1, hm1⟩ : ∃ z, z = lb * C := ⟨_, rfl⟩
        rw [← hm1] at v1 v2 u1
        rw [← hm1] at C2 u2
        obtain ⟨m2, hm2⟩ : ∃ z, z = m1 * C := ⟨_, rfl⟩
        rw [← hm2] at v2 C2 u2
        have HL := Lib.hid hfin
        clear l1 l2 hfin hm1 hm2 u3
        go_wp2_with fail
        refine (C1.out _).mono ?_; rintro e w1 ⟨rfl, b1⟩
        have zA1 := zA.keep b1 zA.lt
        obtain ⟨d0, d1, d2, d3, d4⟩ := zA1.cells
        clear a0 a1 a2 a3 a4
        go_wp2_with fail
        refine (C2.out _).mono ?_; rintro e w2 ⟨rfl, b2⟩
        go_wp2_with fail
        go_ret2
        exact ⟨by rw [HT.out]; rfl, (bw.next (Nat.le_refl _) hb).next (Nat.le_refl _) b1 |>.next (Nat.le_refl _) b2⟩

set_option maxRecDepth 100000 in
set_option maxHeartbeats 12800000 in
theorem leastDelayed_G (fx fy tx ty gx gy ux uy c p q : Int) (w : World) (ha : goodM ⟨fx, fy, tx, ty, c⟩) (hb : goodM ⟨gx, gy, ux, uy, c⟩) (hp0 : 0 ≤ p) (hp4 : p ≤ 4) (hq0 : 0 ≤ q) (hq4 : q ≤ 4) (hpq : q < p) :
    Calls Try.prog 71 #[.agg #[.int .i64 fx, .int .i64 fy, .int .i64 tx, .int .i64 ty, .int .i64 c], .agg #[.int .i64 gx, .int .i64 gy, .int .i64 ux, .int .i64 uy, .int .i64 c], .int .i64 p, .int .i64 q] w fun e w' => e = .returned (.tuple #[.int .i64 (lowI (iF (wayP ⟨fx, fy, tx, ty, c⟩ ⟨gx, gy, ux, uy, c⟩ p q) (lastN c p q)) c.toNat).1, .int .i64 (lowI (iF (wayP ⟨fx, fy, tx, ty, c⟩ ⟨gx, gy, ux, uy, c⟩ p q) (lastN c p q)) c.toNat).2]) ∧ Below w.heap.size w w' := by
  have hc1 : 1 ≤ c := ha.2.2.1
  have hc16 : c ≤ 16 := ha.2.2.2
  have HP := Lib.hid (wayP_ok ha hb p q)
  have HF := Lib.hid (iF_ok (wayP_ok ha hb p q))
  have HA := Lib.hid ha
  have HB := Lib.hid hb
  clear ha hb
  have zA := (BoxM.new w fx fy tx ty c).al (.cells #[.int .i64 gx, .int .i64 gy, .int .i64 ux, .int .i64 uy, .int .i64 c] 71)
  have zB := BoxM.new (w.alloc (.cells #[.int .i64 fx, .int .i64 fy, .int .i64 tx, .int .i64 ty, .int .i64 c] 71)) gx gy ux uy c
  have bw := ((Below.refl w.heap.size w).alloc (Nat.le_refl _) (.cells #[.int .i64 fx, .int .i64 fy, .int .i64 tx, .int .i64 ty, .int .i64 c] 71)).alloc (by simp) (.cells #[.int .i64 gx, .int .i64 gy, .int .i64 ux, .int .i64 uy, .int .i64 c] 71)
  have hs1 : (w.alloc (.cells #[.int .i64 fx, .int .i64 fy, .int .i64 tx, .int .i64 ty, .int .i64 c] 71)).heap.size = w.heap.size + 1 := by simp
  rw [hs1] at zB
  obtain ⟨W, hW⟩ : ∃ W : World, W = (w.alloc (.cells #[.int .i64 fx, .int .i64 fy, .int .i64 tx, .int .i64 ty, .int .i64 c] 71)).alloc (.cells #[.int .i64 gx, .int .i64 gy, .int .i64 ux, .int .i64 uy, .int .i64 c] 71) := ⟨_, rfl⟩
  rw [← hW] at zA zB bw
  have HW := Lib.hid hW
  have ZA := Lib.hid zA
  have ZB := Lib.hid zB
  clear hW hs1
  obtain ⟨N, hN⟩ : ∃ N, N = lastN c p q := ⟨_, rfl⟩
  rw [← hN]
  have hN2 : (N : Int) = c + max p q := by rw [hN]; unfold lastN; omega
  clear hN
  have hN2 : (N : Int) = c + p := by omega
  have P0 := HP.out 0
  have k1 := mvX_bd HA.out (k := 0) (by omega) (by show (0 : Int) ≤ c; omega)
  have k2 := mvY_bd HA.out (k := 0) (by omega) (by show (0 : Int) ≤ c; omega)
  have k3 := mvX_bd HB.out (k := 0) (by omega) (by show (0 : Int) ≤ c; omega)
  have k4 := mvY_bd HB.out (k := 0) (by omega) (by show (0 : Int) ≤ c; omega)
  have C1 := Lib.hid (fun W => placeAt_any fx fy tx ty c 0 W HA.out (by omega) (by omega))
  have C2 := Lib.hid (fun W => placeAt_any gx gy ux uy c 0 W HB.out (by omega) (by omega))
  have eX : (wayP ⟨fx, fy, tx, ty, c⟩ ⟨gx, gy, ux, uy, c⟩ p q 0).x = mvX ⟨fx, fy, tx, ty, c⟩ 0 - mvX ⟨gx, gy, ux, uy, c⟩ 0 := by show mvX ⟨fx, fy, tx, ty, c⟩ (kD c p 0) - mvX ⟨gx, gy, ux, uy, c⟩ (kD c q 0) = _; first | rw [kD_0 (by omega) hp0, kD_0 (by omega) hq0] | rw [kD_0 (by omega) hp0]
  have eY : (wayP ⟨fx, fy, tx, ty, c⟩ ⟨gx, gy, ux, uy, c⟩ p q 0).y = mvY ⟨fx, fy, tx, ty, c⟩ 0 - mvY ⟨gx, gy, ux, uy, c⟩ 0 := by show mvY ⟨fx, fy, tx, ty, c⟩ (kD c p 0) - mvY ⟨gx, gy, ux, uy, c⟩ (kD c q 0) = _; first | rw [kD_0 (by omega) hp0, kD_0 (by omega) hq0] | rw [kD_0 (by omega) hp0]
  obtain ⟨x, hx⟩ : ∃ z, z = mvX ⟨fx, fy, tx, ty, c⟩ 0 := ⟨_, rfl⟩
  obtain ⟨y, hy⟩ : ∃ z, z = mvY ⟨fx, fy, tx, ty, c⟩ 0 := ⟨_, rfl⟩
  obtain ⟨u, hu⟩ : ∃ z, z = mvX ⟨gx, gy, ux, uy, c⟩ 0 := ⟨_, rfl⟩
  obtain ⟨v, hv⟩ : ∃ z, z = mvY ⟨gx, gy, ux, uy, c⟩ 0 := ⟨_, rfl⟩
  rw [← hx, ← hy] at C1
  rw [← hu, ← hv] at C2
  rw [← hx] at k1
  rw [← hy] at k2
  rw [← hu] at k3
  rw [← hv] at k4
  rw [← hx, ← hu] at eX
  rw [← hy, ← hv] at eY
  obtain ⟨px, hpx⟩ : ∃ z, z = (wayP ⟨fx, fy, tx, ty, c⟩ ⟨gx, gy, ux, uy, c⟩ p q 0).x := ⟨_, rfl⟩
  obtain ⟨py, hpy⟩ : ∃ z, z = (wayP ⟨fx, fy, tx, ty, c⟩ ⟨gx, gy, ux, uy, c⟩ p q 0).y := ⟨_, rfl⟩
  have g1 : x - u = px := by rw [hpx, eX]
  have g2 : y - v = py := by rw [hpy, eY]
  have s5 := sqI_bd P0
  have s6 := sqI_nn (wayP ⟨fx, fy, tx, ty, c⟩ ⟨gx, gy, ux, uy, c⟩ p q 0).x (wayP ⟨fx, fy, tx, ty, c⟩ ⟨gx, gy, ux, uy, c⟩ p q 0).y
  have hi0 : iF (wayP ⟨fx, fy, tx, ty, c⟩ ⟨gx, gy, ux, uy, c⟩ p q) 0 = ((sqI (wayP ⟨fx, fy, tx, ty, c⟩ ⟨gx, gy, ux, uy, c⟩ p q 0).x (wayP ⟨fx, fy, tx, ty, c⟩ ⟨gx, gy, ux, uy, c⟩ p q 0).y).toNat, 1) := rfl
  obtain ⟨p1, p2, p3, p4⟩ := P0
  rw [← hpx] at p1 p2
  rw [← hpy] at p3 p4
  rw [← hpx, ← hpy] at s5 s6 hi0
  obtain ⟨ow, how⟩ := nn_cast s6
  rw [how] at s5 hi0
  simp only [Int.toNat_natCast] at hi0
  have m3 : px * px + py * py = (ow : Int) := how
  have t5 := mul_abs_le (x := px) (y := px) (A := 20480) (B := 20480) (by omega) (by omega) (by omega) (by omega)
  have t6 := mul_abs_le (x := py) (y := py) (A := 10752) (B := 10752) (by omega) (by omega) (by omega) (by omega)
  obtain ⟨e5, h5⟩ : ∃ z, px * px = z := ⟨_, rfl⟩
  obtain ⟨e6, h6⟩ : ∃ z, py * py = z := ⟨_, rfl⟩
  rw [h5] at m3 t5
  rw [h6] at m3 t6
  have HI0 := Lib.hid hi0
  have HPX := Lib.hid hpx
  have HPY := Lib.hid hpy
  clear hx hy hu hv hpx hpy eX eY how s6 hi0
  obtain ⟨a0, a1, a2, a3, a4⟩ := zA.cells
  go_enter Try.func71, Try.ntmps71
  go_upto_region 1 with fail
  rw [← HW.out]
  go_wp2_with fail
  refine (C1.out _).mono ?_; rintro e w1 ⟨rfl, b1⟩
  clear a0 a1 a2 a3 a4
  have zB1 := ZB.out.keep b1 ZB.out.lt
  obtain ⟨b0, b1', b2, b3, b4⟩ := zB1.cells
  go_wp2_with fail
  refine (C2.out _).mono ?_; rintro e w2 ⟨rfl, bb⟩
  have b12 := b1.next (Nat.le_refl _) bb
  clear b0 b1' b2 b3 b4 C1 C2 zA zB zB1
  go_wp2_with fail
  clear h5 h6 m3 t5 t6 s5 g1 g2 k1 k2 k3 k4
  go_loopw [14, 15, 16, 17, 18] (fun s1 s2 s3 s4 s5 wr => ∃ n k : Nat, Hid (k = n + 1) ∧ k ≤ N + 1 ∧ s1 = .int .i64 (wayP ⟨fx, fy, tx, ty, c⟩ ⟨gx, gy, ux, uy, c⟩ p q n).x ∧ s2 = .int .i64 (wayP ⟨fx, fy, tx, ty, c⟩ ⟨gx, gy, ux, uy, c⟩ p q n).y ∧ s3 = .int .i64 (iF (wayP ⟨fx, fy, tx, ty, c⟩ ⟨gx, gy, ux, uy, c⟩ p q) n).1 ∧ s4 = .int .i64 (iF (wayP ⟨fx, fy, tx, ty, c⟩ ⟨gx, gy, ux, uy, c⟩ p q) n).2 ∧ s5 = .int .i64 k ∧ Below W.heap.size W wr) (fun _ _ _ _ s _ => N + 1 - (intOf s).toNat)
  case atStart => exact ⟨0, 1, rfl, by omega, by rw [← HPX.out], by rw [← HPY.out], by rw [HI0.out], by rw [HI0.out]; rfl, rfl, b12⟩
  case round =>
      obtain ⟨n, k, hkn, hk, rfl, rfl, rfl, rfl, rfl, hb⟩ := hrel
      have hP1 := HP.out n
      have hP2 := HP.out (n + 1)
      have hf := HF.out n
      have hst := iF_step (wayP ⟨fx, fy, tx, ty, c⟩ ⟨gx, gy, ux, uy, c⟩ p q) n
      have zA := ZA.out.keep hb ZA.out.lt
      have zB := ZB.out.keep hb ZB.out.lt
      obtain ⟨a0, a1, a2, a3, a4⟩ := zA.cells
      have hk0 : (k : Int) ≤ 21 := by omega
      by_cases hlt : k ≤ N
      · have hle : (k : Int) ≤ c + p := by omega
        obtain ⟨x, hx⟩ : ∃ x, x = mvX ⟨fx, fy, tx, ty, c⟩ (kD c p (k : Int)) := ⟨_, rfl⟩
        obtain ⟨y, hy⟩ : ∃ x, x = mvY ⟨fx, fy, tx, ty, c⟩ (kD c p (k : Int)) := ⟨_, rfl⟩
        obtain ⟨u, hu⟩ : ∃ x, x = mvX ⟨gx, gy, ux, uy, c⟩ (kD c q (k : Int)) := ⟨_, rfl⟩
        obtain ⟨v, hv⟩ : ∃ x, x = mvY ⟨gx, gy, ux, uy, c⟩ (kD c q (k : Int)) := ⟨_, rfl⟩
        have C1 := Lib.hid (fun W => placeDelayed_any fx fy tx ty c p (k : Int) W HA.out hp0 hp4 (by omega) (by omega))
        have C2 := Lib.hid (fun W => placeDelayed_any gx gy ux uy c q (k : Int) W HB.out hq0 hq4 (by omega) (by omega))
        rw [← hx, ← hy] at C1
        rw [← hu, ← hv] at C2
        obtain ⟨qx, hqx⟩ : ∃ z, z = (wayP ⟨fx, fy, tx, ty, c⟩ ⟨gx, gy, ux, uy, c⟩ p q (n + 1)).x := ⟨_, rfl⟩
        obtain ⟨qy, hqy⟩ : ∃ z, z = (wayP ⟨fx, fy, tx, ty, c⟩ ⟨gx, gy, ux, uy, c⟩ p q (n + 1)).y := ⟨_, rfl⟩
        have g1 : x - u = qx := by rw [hx, hu, hqx, hkn.out]; rfl
        have g2 : y - v = qy := by rw [hy, hv, hqy, hkn.out]; rfl
        obtain ⟨px, hpx⟩ : ∃ z, z = (wayP ⟨fx, fy, tx, ty, c⟩ ⟨gx, gy, ux, uy, c⟩ p q n).x := ⟨_, rfl⟩
        obtain ⟨py, hpy⟩ : ∃ z, z = (wayP ⟨fx, fy, tx, ty, c⟩ ⟨gx, gy, ux, uy, c⟩ p q n).y := ⟨_, rfl⟩
        have bx := mvX_bd HA.out (k := kD c p (k : Int)) (kD_bd (by omega)).1 (kD_bd (by omega)).2
        have by_ := mvY_bd HA.out (k := kD c p (k : Int)) (kD_bd (by omega)).1 (kD_bd (by omega)).2
        have bu := mvX_bd HB.out (k := kD c q (k : Int)) (kD_bd (by omega)).1 (kD_bd (by omega)).2
        have bv := mvY_bd HB.out (k := kD c q (k : Int)) (kD_bd (by omega)).1 (kD_bd (by omega)).2
        rw [← hx] at bx
        rw [← hy] at by_
        rw [← hu] at bu
        rw [← hv] at bv
        have s1 := sizI_bd hP1 hP2
        have s2 := dotI_bd hP1 hP2
        have s3 := crI_bd hP1 hP2
        have s4 := crsq_bd hP1 hP2
        have s5 := sqI_bd hP2
        have s6 := sqI_nn (wayP ⟨fx, fy, tx, ty, c⟩ ⟨gx, gy, ux, uy, c⟩ p q (n + 1)).x (wayP ⟨fx, fy, tx, ty, c⟩ ⟨gx, gy, ux, uy, c⟩ p q (n + 1)).y
        have hseg : segI (wayP ⟨fx, fy, tx, ty, c⟩ ⟨gx, gy, ux, uy, c⟩ p q n) (wayP ⟨fx, fy, tx, ty, c⟩ ⟨gx, gy, ux, uy, c⟩ p q (n + 1)) = if inn px py qx qy then ((crI px py qx qy * crI px py qx qy).toNat, (sizI px py qx qy).toNat) else ((sqI qx qy).toNat, 1) := by rw [hpx, hpy, hqx, hqy]; rfl
        obtain ⟨p1, p2, p3, p4⟩ := hP1
        obtain ⟨q1, q2, q3, q4⟩ := hP2
        rw [← hpx] at p1 p2
        rw [← hpy] at p3 p4
        rw [← hqx] at q1 q2
        rw [← hqy] at q3 q4
        rw [← hpx, ← hpy, ← hqx, ← hqy] at s1 s2 s3 s4
        rw [← hqx, ← hqy] at s5 s6
        rw [← hpx, ← hpy]
        rw [hseg] at hst
        obtain ⟨T, hT⟩ : ∃ T, T = iF (wayP ⟨fx, fy, tx, ty, c⟩ ⟨gx, gy, ux, uy, c⟩ p q) n := ⟨_, rfl⟩
        rw [← hT] at hst hf
        rw [← hT]
        have HPX := Lib.hid hpx
        have HQX : Hid ((wayP ⟨fx, fy, tx, ty, c⟩ ⟨gx, gy, ux, uy, c⟩ p q (n + 1)).x = qx) := hqx.symm
        have HQY : Hid ((wayP ⟨fx, fy, tx, ty, c⟩ ⟨gx, gy, ux, uy, c⟩ p q (n + 1)).y = qy) := hqy.symm
        clear hx hy hu hv hqx hqy hpx hpy hseg hT
        obtain ⟨vx, hvx⟩ : ∃ z, z = qx - px := ⟨_, rfl⟩
        obtain ⟨vy, hvy⟩ : ∃ z, z = qy - py := ⟨_, rfl⟩
        obtain ⟨dt, hdt⟩ : ∃ z, z = dotI px py qx qy := ⟨_, rfl⟩
        obtain ⟨cr, hcr⟩ : ∃ z, z = crI px py qx qy := ⟨_, rfl⟩
        obtain ⟨sz, hsz⟩ := nn_cast s1.1
        obtain ⟨cc, hcc⟩ := nn_cast s4.1
        obtain ⟨ow, how⟩ := nn_cast s6
        have hin : inn px py qx qy = (decide (dt < 0) && decide (-dt < (sz : Int))) := by unfold inn; rw [← hdt, hsz]
        have m1 : px * vx + py * vy = dt := by rw [hdt, hvx, hvy]; rfl
        have m2 : vx * vx + vy * vy = (sz : Int) := by rw [hvx, hvy]; exact hsz
        have m3 : qx * qx + qy * qy = (ow : Int) := how
        have m4 : px * vy - py * vx = cr := by rw [hcr, hvx, hvy]; unfold crI; grind
        have m5 : cr * cr = (cc : Int) := by rw [hcr]; exact hcc
        rw [hsz] at s1
        rw [← hdt] at s2
        rw [← hcr] at s3
        rw [hcc] at s4
        rw [how] at s5
        rw [hin, hcc, hsz, how] at hst
        simp only [Int.toNat_natCast] at hst
        clear hdt hcr hsz hcc how hin s6
        have t1 := mul_abs_le (x := px) (y := vx) (A := 20480) (B := 40960) (by omega) (by omega) (by omega) (by omega)
        have t2 := mul_abs_le (x := py) (y := vy) (A := 10752) (B := 21504) (by omega) (by omega) (by omega) (by omega)
        have t3 := mul_abs_le (x := vx) (y := vx) (A := 40960) (B := 40960) (by omega) (by omega) (by omega) (by omega)
        have t4 := mul_abs_le (x := vy) (y := vy) (A := 21504) (B := 21504) (by omega) (by omega) (by omega) (by omega)
        have t5 := mul_abs_le (x := qx) (y := qx) (A := 20480) (B := 20480) (by omega) (by omega) (by omega) (by omega)
        have t6 := mul_abs_le (x := qy) (y := qy) (A := 10752) (B := 10752) (by omega) (by omega) (by omega) (by omega)
        have t7 := mul_abs_le (x := px) (y := vy) (A := 20480) (B := 21504) (by omega) (by omega) (by omega) (by omega)
        have t8 := mul_abs_le (x := py) (y := vx) (A := 10752) (B := 40960) (by omega) (by omega) (by omega) (by omega)
        obtain ⟨e1, h1⟩ : ∃ z, px * vx = z := ⟨_, rfl⟩
        obtain ⟨e2, h2⟩ : ∃ z, py * vy = z := ⟨_, rfl⟩
        obtain ⟨e3, h3⟩ : ∃ z, vx * vx = z := ⟨_, rfl⟩
        obtain ⟨e4, h4⟩ : ∃ z, vy * vy = z := ⟨_, rfl⟩
        obtain ⟨e5, h5⟩ : ∃ z, qx * qx = z := ⟨_, rfl⟩
        obtain ⟨e6, h6⟩ : ∃ z, qy * qy = z := ⟨_, rfl⟩
        obtain ⟨e7, h7⟩ : ∃ z, px * vy = z := ⟨_, rfl⟩
        obtain ⟨e8, h8⟩ : ∃ z, py * vx = z := ⟨_, rfl⟩
        rw [h1] at m1 t1
        rw [h2] at m1 t2
        rw [h3] at m2 t3
        rw [h4] at m2 t4
        rw [h5] at m3 t5
        rw [h6] at m3 t6
        rw [h7] at m4 t7
        rw [h8] at m4 t8
        have g3 : qx - px = vx := hvx.symm
        have g4 : qy - py = vy := hvy.symm
        clear hvx hvy
        obtain ⟨T1, T2⟩ := T
        obtain ⟨f1, f2, f3⟩ := hf
        have f1 : T1 ≤ 193953851139686400 := f1
        have f2 : 0 < T2 := f2
        have f3 : T2 ≤ 2140143616 := f3
        have Hst := Lib.hid hst
        clear hst HF
        go_wp2_with fail
        refine (C1.out _).mono ?_; rintro e w1 ⟨rfl, b1⟩
        have hb1 := hb.next (Nat.le_refl _) b1
        have zB1 := zB.keep b1 zB.lt
        obtain ⟨d0, d1, d2, d3, d4⟩ := zB1.cells
        clear a0 a1 a2 a3 a4
        go_wp2_with fail
        refine (C2.out _).mono ?_; rintro e w2 ⟨rfl, bq⟩
        have hb2 := hb1.next (Nat.le_refl _) bq
        clear C1 C2 d0 d1 d2 d3 d4 zB1 zA zB b1 bq hb hb1
        have hcase : (dt < 0 ∧ -dt < (sz : Int)) ∨ (dt < 0 ∧ ¬ -dt < (sz : Int)) ∨ ¬ dt < 0 := by omega
        rcases hcase with ⟨i1, i2⟩ | ⟨i1, i2⟩ | i1
        · have ho : iF (wayP ⟨fx, fy, tx, ty, c⟩ ⟨gx, gy, ux, uy, c⟩ p q) (n + 1) = updF (T1, T2) (cc, sz) := by rw [Hst.out, decide_eq_true i1, decide_eq_true i2]; rfl
          have hszp : 0 < sz := by omega
          have C3 := Lib.hid (lessFraction_any cc sz T1 T2 w2 (by omega) (by omega) (by omega) (by omega))
          by_cases hl : cc * T2 < T1 * sz
          · rw [decide_eq_true hl] at C3
            rw [updF_yes hl] at ho
            have Ho := Lib.hid ho
            clear hl ho
            go_wp2_with fail
            refine C3.out.mono ?_; rintro e _ ⟨rfl, rfl⟩
            go_wp2_with fail
            go_roundw
            case rel => exact ⟨n + 1, k + 1, by show _ = _; have := hkn.out; omega, by omega, by rw [HQX.out], by rw [HQY.out], by rw [Ho.out], by rw [Ho.out], by go_num, hb2⟩
            case measure => simp [intOf]; omega
          · rw [decide_eq_false hl] at C3
            rw [updF_no hl] at ho
            have Ho := Lib.hid ho
            clear hl ho
            go_wp2_with fail
            refine C3.out.mono ?_; rintro e _ ⟨rfl, rfl⟩
            go_wp2_with fail
            go_roundw
            case rel => exact ⟨n + 1, k + 1, by show _ = _; have := hkn.out; omega, by omega, by rw [HQX.out], by rw [HQY.out], by rw [Ho.out], by rw [Ho.out], by go_num, hb2⟩
            case measure => simp [intOf]; omega
        all_goals
          have ho : iF (wayP ⟨fx, fy, tx, ty, c⟩ ⟨gx, gy, ux, uy, c⟩ p q) (n + 1) = updF (T1, T2) (ow, 1) := by
            rw [Hst.out]
            first
              | (rw [decide_eq_true i1, decide_eq_false i2]; rfl)
              | (rw [decide_eq_false i1]; rfl)
          have C3 := Lib.hid (lessFraction_any ow 1 T1 T2 w2 (by omega) (by omega) (by omega) (by omega))
          by_cases hl : ow * T2 < T1 * 1
          · rw [decide_eq_true hl] at C3
            rw [updF_yes hl] at ho
            have Ho := Lib.hid ho
            clear hl ho
            go_wp2_with fail
            refine C3.out.mono ?_; rintro e _ ⟨rfl, rfl⟩
            go_wp2_with fail
            go_roundw
            case rel => exact ⟨n + 1, k + 1, by show _ = _; have := hkn.out; omega, by omega, by rw [HQX.out], by rw [HQY.out], by rw [Ho.out], by rw [Ho.out]; rfl, by go_num, hb2⟩
            case measure => simp [intOf]; omega
          · rw [decide_eq_false hl] at C3
            rw [updF_no hl] at ho
            have Ho := Lib.hid ho
            clear hl ho
            go_wp2_with fail
            refine C3.out.mono ?_; rintro e _ ⟨rfl, rfl⟩
            go_wp2_with fail
            go_roundw
            case rel => exact ⟨n + 1, k + 1, by show _ = _; have := hkn.out; omega, by omega, by rw [HQX.out], by rw [HQY.out], by rw [Ho.out], by rw [Ho.out], by go_num, hb2⟩
            case measure => simp [intOf]; omega
      · have hnN : n = N := by have := hkn.out; omega
        subst hnN
        have hgt : ¬ (k : Int) ≤ c + p := by omega
        obtain ⟨T, hT⟩ : ∃ T, T = iF (wayP ⟨fx, fy, tx, ty, c⟩ ⟨gx, gy, ux, uy, c⟩ p q) n := ⟨_, rfl⟩
        rw [← hT] at hf
        rw [← hT]
        obtain ⟨T1, T2⟩ := T
        obtain ⟨f1, f2, f3⟩ := hf
        have f1 : T1 ≤ 193953851139686400 := f1
        have f2 : 0 < T2 := f2
        have f3 : T2 ≤ 2140143616 := f3
        have HT := Lib.hid hT
        clear hT hst HF
        obtain ⟨g, hg, l1, l2, l3⟩ := lowN_mul (a := T1) f2
        have ll := lowN_le T1 T2
        have C1 := Lib.hid (fun W9 => lowestTerms_any T1 T2 W9 (by omega) (by omega) f2)
        have hfin : lowI (T1, T2) c.toNat = lowN (lowN T1 T2).1 ((lowN T1 T2).2 * c.toNat * c.toNat) := rfl
        generalize lowN T1 T2 = l at l1 l2 l3 ll C1 hfin
        obtain ⟨la, lb⟩ := l
        simp only at l3 ll C1 hfin
        obtain ⟨C, rfl⟩ := Int.eq_ofNat_of_zero_le (show 0 ≤ c by omega)
        simp only [Int.toNat_natCast] at hfin
        have hC : C ≤ 16 := by omega
        have u1 : lb * C ≤ 2140143616 * 16 := Nat.mul_le_mul (by omega) hC
        have u2 : lb * C * C ≤ 2140143616 * 16 * 16 := Nat.mul_le_mul u1 hC
        have u3 : 0 < lb * C * C := Nat.mul_pos (Nat.mul_pos l3 (by omega)) (by omega)
        have v1 : (lb : Int) * (C : Int) = ((lb * C : Nat) : Int) := (Int.natCast_mul _ _).symm
        have v2 : ((lb * C : Nat) : Int) * (C : Int) = ((lb * C * C : Nat) : Int) := (Int.natCast_mul _ _).symm
        have C2 := Lib.hid (fun W9 => lowestTerms_any la (lb * C * C) W9 (by omega) (by omega) u3)
        rw [← hfin] at C2
        obtain ⟨m1, hm1⟩ : ∃ z, z = lb * C := ⟨_, rfl⟩
        rw [← hm1] at v1 v2 u1
        rw [← hm1] at C2 u2
        obtain ⟨m2, hm2⟩ : ∃ z, z = m1 * C := ⟨_, rfl⟩
        rw [← hm2] at v2 C2 u2
        have HL := Lib.hid hfin
        clear l1 l2 hfin hm1 hm2 u3
        go_wp2_with fail
        refine (C1.out _).mono ?_; rintro e w1 ⟨rfl, b1⟩
        have zA1 := zA.keep b1 zA.lt
        obtain ⟨d0, d1, d2, d3, d4⟩ := zA1.cells
        clear a0 a1 a2 a3 a4
        go_wp2_with fail
        refine (C2.out _).mono ?_; rintro e w2 ⟨rfl, b2⟩
        go_wp2_with fail
        go_ret2
        exact ⟨by rw [HT.out]; rfl, (bw.next (Nat.le_refl _) hb).next (Nat.le_refl _) b1 |>.next (Nat.le_refl _) b2⟩

set_option maxRecDepth 100000 in
set_option maxHeartbeats 12800000 in
theorem leastDelayed_E (fx fy tx ty gx gy ux uy c p : Int) (w : World) (ha : goodM ⟨fx, fy, tx, ty, c⟩) (hb : goodM ⟨gx, gy, ux, uy, c⟩) (hp0 : 0 ≤ p) (hp4 : p ≤ 4) (hq0 : 0 ≤ p) (hq4 : p ≤ 4) (hpq : 0 ≤ p) :
    Calls Try.prog 71 #[.agg #[.int .i64 fx, .int .i64 fy, .int .i64 tx, .int .i64 ty, .int .i64 c], .agg #[.int .i64 gx, .int .i64 gy, .int .i64 ux, .int .i64 uy, .int .i64 c], .int .i64 p, .int .i64 p] w fun e w' => e = .returned (.tuple #[.int .i64 (lowI (iF (wayP ⟨fx, fy, tx, ty, c⟩ ⟨gx, gy, ux, uy, c⟩ p p) (lastN c p p)) c.toNat).1, .int .i64 (lowI (iF (wayP ⟨fx, fy, tx, ty, c⟩ ⟨gx, gy, ux, uy, c⟩ p p) (lastN c p p)) c.toNat).2]) ∧ Below w.heap.size w w' := by
  have hc1 : 1 ≤ c := ha.2.2.1
  have hc16 : c ≤ 16 := ha.2.2.2
  have HP := Lib.hid (wayP_ok ha hb p p)
  have HF := Lib.hid (iF_ok (wayP_ok ha hb p p))
  have HA := Lib.hid ha
  have HB := Lib.hid hb
  clear ha hb
  have zA := (BoxM.new w fx fy tx ty c).al (.cells #[.int .i64 gx, .int .i64 gy, .int .i64 ux, .int .i64 uy, .int .i64 c] 71)
  have zB := BoxM.new (w.alloc (.cells #[.int .i64 fx, .int .i64 fy, .int .i64 tx, .int .i64 ty, .int .i64 c] 71)) gx gy ux uy c
  have bw := ((Below.refl w.heap.size w).alloc (Nat.le_refl _) (.cells #[.int .i64 fx, .int .i64 fy, .int .i64 tx, .int .i64 ty, .int .i64 c] 71)).alloc (by simp) (.cells #[.int .i64 gx, .int .i64 gy, .int .i64 ux, .int .i64 uy, .int .i64 c] 71)
  have hs1 : (w.alloc (.cells #[.int .i64 fx, .int .i64 fy, .int .i64 tx, .int .i64 ty, .int .i64 c] 71)).heap.size = w.heap.size + 1 := by simp
  rw [hs1] at zB
  obtain ⟨W, hW⟩ : ∃ W : World, W = (w.alloc (.cells #[.int .i64 fx, .int .i64 fy, .int .i64 tx, .int .i64 ty, .int .i64 c] 71)).alloc (.cells #[.int .i64 gx, .int .i64 gy, .int .i64 ux, .int .i64 uy, .int .i64 c] 71) := ⟨_, rfl⟩
  rw [← hW] at zA zB bw
  have HW := Lib.hid hW
  have ZA := Lib.hid zA
  have ZB := Lib.hid zB
  clear hW hs1
  obtain ⟨N, hN⟩ : ∃ N, N = lastN c p p := ⟨_, rfl⟩
  rw [← hN]
  have hN2 : (N : Int) = c + max p p := by rw [hN]; unfold lastN; omega
  clear hN
  have hN2 : (N : Int) = c + p := by omega
  have P0 := HP.out 0
  have k1 := mvX_bd HA.out (k := 0) (by omega) (by show (0 : Int) ≤ c; omega)
  have k2 := mvY_bd HA.out (k := 0) (by omega) (by show (0 : Int) ≤ c; omega)
  have k3 := mvX_bd HB.out (k := 0) (by omega) (by show (0 : Int) ≤ c; omega)
  have k4 := mvY_bd HB.out (k := 0) (by omega) (by show (0 : Int) ≤ c; omega)
  have C1 := Lib.hid (fun W => placeAt_any fx fy tx ty c 0 W HA.out (by omega) (by omega))
  have C2 := Lib.hid (fun W => placeAt_any gx gy ux uy c 0 W HB.out (by omega) (by omega))
  have eX : (wayP ⟨fx, fy, tx, ty, c⟩ ⟨gx, gy, ux, uy, c⟩ p p 0).x = mvX ⟨fx, fy, tx, ty, c⟩ 0 - mvX ⟨gx, gy, ux, uy, c⟩ 0 := by show mvX ⟨fx, fy, tx, ty, c⟩ (kD c p 0) - mvX ⟨gx, gy, ux, uy, c⟩ (kD c p 0) = _; first | rw [kD_0 (by omega) hp0, kD_0 (by omega) hq0] | rw [kD_0 (by omega) hp0]
  have eY : (wayP ⟨fx, fy, tx, ty, c⟩ ⟨gx, gy, ux, uy, c⟩ p p 0).y = mvY ⟨fx, fy, tx, ty, c⟩ 0 - mvY ⟨gx, gy, ux, uy, c⟩ 0 := by show mvY ⟨fx, fy, tx, ty, c⟩ (kD c p 0) - mvY ⟨gx, gy, ux, uy, c⟩ (kD c p 0) = _; first | rw [kD_0 (by omega) hp0, kD_0 (by omega) hq0] | rw [kD_0 (by omega) hp0]
  obtain ⟨x, hx⟩ : ∃ z, z = mvX ⟨fx, fy, tx, ty, c⟩ 0 := ⟨_, rfl⟩
  obtain ⟨y, hy⟩ : ∃ z, z = mvY ⟨fx, fy, tx, ty, c⟩ 0 := ⟨_, rfl⟩
  obtain ⟨u, hu⟩ : ∃ z, z = mvX ⟨gx, gy, ux, uy, c⟩ 0 := ⟨_, rfl⟩
  obtain ⟨v, hv⟩ : ∃ z, z = mvY ⟨gx, gy, ux, uy, c⟩ 0 := ⟨_, rfl⟩
  rw [← hx, ← hy] at C1
  rw [← hu, ← hv] at C2
  rw [← hx] at k1
  rw [← hy] at k2
  rw [← hu] at k3
  rw [← hv] at k4
  rw [← hx, ← hu] at eX
  rw [← hy, ← hv] at eY
  obtain ⟨px, hpx⟩ : ∃ z, z = (wayP ⟨fx, fy, tx, ty, c⟩ ⟨gx, gy, ux, uy, c⟩ p p 0).x := ⟨_, rfl⟩
  obtain ⟨py, hpy⟩ : ∃ z, z = (wayP ⟨fx, fy, tx, ty, c⟩ ⟨gx, gy, ux, uy, c⟩ p p 0).y := ⟨_, rfl⟩
  have g1 : x - u = px := by rw [hpx, eX]
  have g2 : y - v = py := by rw [hpy, eY]
  have s5 := sqI_bd P0
  have s6 := sqI_nn (wayP ⟨fx, fy, tx, ty, c⟩ ⟨gx, gy, ux, uy, c⟩ p p 0).x (wayP ⟨fx, fy, tx, ty, c⟩ ⟨gx, gy, ux, uy, c⟩ p p 0).y
  have hi0 : iF (wayP ⟨fx, fy, tx, ty, c⟩ ⟨gx, gy, ux, uy, c⟩ p p) 0 = ((sqI (wayP ⟨fx, fy, tx, ty, c⟩ ⟨gx, gy, ux, uy, c⟩ p p 0).x (wayP ⟨fx, fy, tx, ty, c⟩ ⟨gx, gy, ux, uy, c⟩ p p 0).y).toNat, 1) := rfl
  obtain ⟨p1, p2, p3, p4⟩ := P0
  rw [← hpx] at p1 p2
  rw [← hpy] at p3 p4
  rw [← hpx, ← hpy] at s5 s6 hi0
  obtain ⟨ow, how⟩ := nn_cast s6
  rw [how] at s5 hi0
  simp only [Int.toNat_natCast] at hi0
  have m3 : px * px + py * py = (ow : Int) := how
  have t5 := mul_abs_le (x := px) (y := px) (A := 20480) (B := 20480) (by omega) (by omega) (by omega) (by omega)
  have t6 := mul_abs_le (x := py) (y := py) (A := 10752) (B := 10752) (by omega) (by omega) (by omega) (by omega)
  obtain ⟨e5, h5⟩ : ∃ z, px * px = z := ⟨_, rfl⟩
  obtain ⟨e6, h6⟩ : ∃ z, py * py = z := ⟨_, rfl⟩
  rw [h5] at m3 t5
  rw [h6] at m3 t6
  have HI0 := Lib.hid hi0
  have HPX := Lib.hid hpx
  have HPY := Lib.hid hpy
  clear hx hy hu hv hpx hpy eX eY how s6 hi0
  obtain ⟨a0, a1, a2, a3, a4⟩ := zA.cells
  go_enter Try.func71, Try.ntmps71
  go_upto_region 1 with fail
  rw [← HW.out]
  go_wp2_with fail
  refine (C1.out _).mono ?_; rintro e w1 ⟨rfl, b1⟩
  clear a0 a1 a2 a3 a4
  have zB1 := ZB.out.keep b1 ZB.out.lt
  obtain ⟨b0, b1', b2, b3, b4⟩ := zB1.cells
  go_wp2_with fail
  refine (C2.out _).mono ?_; rintro e w2 ⟨rfl, bb⟩
  have b12 := b1.next (Nat.le_refl _) bb
  clear b0 b1' b2 b3 b4 C1 C2 zA zB zB1
  go_wp2_with fail
  clear h5 h6 m3 t5 t6 s5 g1 g2 k1 k2 k3 k4
  go_loopw [14, 15, 16, 17, 18] (fun s1 s2 s3 s4 s5 wr => ∃ n k : Nat, Hid (k = n + 1) ∧ k ≤ N + 1 ∧ s1 = .int .i64 (wayP ⟨fx, fy, tx, ty, c⟩ ⟨gx, gy, ux, uy, c⟩ p p n).x ∧ s2 = .int .i64 (wayP ⟨fx, fy, tx, ty, c⟩ ⟨gx, gy, ux, uy, c⟩ p p n).y ∧ s3 = .int .i64 (iF (wayP ⟨fx, fy, tx, ty, c⟩ ⟨gx, gy, ux, uy, c⟩ p p) n).1 ∧ s4 = .int .i64 (iF (wayP ⟨fx, fy, tx, ty, c⟩ ⟨gx, gy, ux, uy, c⟩ p p) n).2 ∧ s5 = .int .i64 k ∧ Below W.heap.size W wr) (fun _ _ _ _ s _ => N + 1 - (intOf s).toNat)
  case atStart => exact ⟨0, 1, rfl, by omega, by rw [← HPX.out], by rw [← HPY.out], by rw [HI0.out], by rw [HI0.out]; rfl, rfl, b12⟩
  case round =>
      obtain ⟨n, k, hkn, hk, rfl, rfl, rfl, rfl, rfl, hb⟩ := hrel
      have hP1 := HP.out n
      have hP2 := HP.out (n + 1)
      have hf := HF.out n
      have hst := iF_step (wayP ⟨fx, fy, tx, ty, c⟩ ⟨gx, gy, ux, uy, c⟩ p p) n
      have zA := ZA.out.keep hb ZA.out.lt
      have zB := ZB.out.keep hb ZB.out.lt
      obtain ⟨a0, a1, a2, a3, a4⟩ := zA.cells
      have hk0 : (k : Int) ≤ 21 := by omega
      by_cases hlt : k ≤ N
      · have hle : (k : Int) ≤ c + p := by omega
        obtain ⟨x, hx⟩ : ∃ x, x = mvX ⟨fx, fy, tx, ty, c⟩ (kD c p (k : Int)) := ⟨_, rfl⟩
        obtain ⟨y, hy⟩ : ∃ x, x = mvY ⟨fx, fy, tx, ty, c⟩ (kD c p (k : Int)) := ⟨_, rfl⟩
        obtain ⟨u, hu⟩ : ∃ x, x = mvX ⟨gx, gy, ux, uy, c⟩ (kD c p (k : Int)) := ⟨_, rfl⟩
        obtain ⟨v, hv⟩ : ∃ x, x = mvY ⟨gx, gy, ux, uy, c⟩ (kD c p (k : Int)) := ⟨_, rfl⟩
        have C1 := Lib.hid (fun W => placeDelayed_any fx fy tx ty c p (k : Int) W HA.out hp0 hp4 (by omega) (by omega))
        have C2 := Lib.hid (fun W => placeDelayed_any gx gy ux uy c p (k : Int) W HB.out hq0 hq4 (by omega) (by omega))
        rw [← hx, ← hy] at C1
        rw [← hu, ← hv] at C2
        obtain ⟨qx, hqx⟩ : ∃ z, z = (wayP ⟨fx, fy, tx, ty, c⟩ ⟨gx, gy, ux, uy, c⟩ p p (n + 1)).x := ⟨_, rfl⟩
        obtain ⟨qy, hqy⟩ : ∃ z, z = (wayP ⟨fx, fy, tx, ty, c⟩ ⟨gx, gy, ux, uy, c⟩ p p (n + 1)).y := ⟨_, rfl⟩
        have g1 : x - u = qx := by rw [hx, hu, hqx, hkn.out]; rfl
        have g2 : y - v = qy := by rw [hy, hv, hqy, hkn.out]; rfl
        obtain ⟨px, hpx⟩ : ∃ z, z = (wayP ⟨fx, fy, tx, ty, c⟩ ⟨gx, gy, ux, uy, c⟩ p p n).x := ⟨_, rfl⟩
        obtain ⟨py, hpy⟩ : ∃ z, z = (wayP ⟨fx, fy, tx, ty, c⟩ ⟨gx, gy, ux, uy, c⟩ p p n).y := ⟨_, rfl⟩
        have bx := mvX_bd HA.out (k := kD c p (k : Int)) (kD_bd (by omega)).1 (kD_bd (by omega)).2
        have by_ := mvY_bd HA.out (k := kD c p (k : Int)) (kD_bd (by omega)).1 (kD_bd (by omega)).2
        have bu := mvX_bd HB.out (k := kD c p (k : Int)) (kD_bd (by omega)).1 (kD_bd (by omega)).2
        have bv := mvY_bd HB.out (k := kD c p (k : Int)) (kD_bd (by omega)).1 (kD_bd (by omega)).2
        rw [← hx] at bx
        rw [← hy] at by_
        rw [← hu] at bu
        rw [← hv] at bv
        have s1 := sizI_bd hP1 hP2
        have s2 := dotI_bd hP1 hP2
        have s3 := crI_bd hP1 hP2
        have s4 := crsq_bd hP1 hP2
        have s5 := sqI_bd hP2
        have s6 := sqI_nn (wayP ⟨fx, fy, tx, ty, c⟩ ⟨gx, gy, ux, uy, c⟩ p p (n + 1)).x (wayP ⟨fx, fy, tx, ty, c⟩ ⟨gx, gy, ux, uy, c⟩ p p (n + 1)).y
        have hseg : segI (wayP ⟨fx, fy, tx, ty, c⟩ ⟨gx, gy, ux, uy, c⟩ p p n) (wayP ⟨fx, fy, tx, ty, c⟩ ⟨gx, gy, ux, uy, c⟩ p p (n + 1)) = if inn px py qx qy then ((crI px py qx qy * crI px py qx qy).toNat, (sizI px py qx qy).toNat) else ((sqI qx qy).toNat, 1) := by rw [hpx, hpy, hqx, hqy]; rfl
        obtain ⟨p1, p2, p3, p4⟩ := hP1
        obtain ⟨q1, q2, q3, q4⟩ := hP2
        rw [← hpx] at p1 p2
        rw [← hpy] at p3 p4
        rw [← hqx] at q1 q2
        rw [← hqy] at q3 q4
        rw [← hpx, ← hpy, ← hqx, ← hqy] at s1 s2 s3 s4
        rw [← hqx, ← hqy] at s5 s6
        rw [← hpx, ← hpy]
        rw [hseg] at hst
        obtain ⟨T, hT⟩ : ∃ T, T = iF (wayP ⟨fx, fy, tx, ty, c⟩ ⟨gx, gy, ux, uy, c⟩ p p) n := ⟨_, rfl⟩
        rw [← hT] at hst hf
        rw [← hT]
        have HPX := Lib.hid hpx
        have HQX : Hid ((wayP ⟨fx, fy, tx, ty, c⟩ ⟨gx, gy, ux, uy, c⟩ p p (n + 1)).x = qx) := hqx.symm
        have HQY : Hid ((wayP ⟨fx, fy, tx, ty, c⟩ ⟨gx, gy, ux, uy, c⟩ p p (n + 1)).y = qy) := hqy.symm
        clear hx hy hu hv hqx hqy hpx hpy hseg hT
        obtain ⟨vx, hvx⟩ : ∃ z, z = qx - px := ⟨_, rfl⟩
        obtain ⟨vy, hvy⟩ : ∃ z, z = qy - py := ⟨_, rfl⟩
        obtain ⟨dt, hdt⟩ : ∃ z, z = dotI px py qx qy := ⟨_, rfl⟩
        obtain ⟨cr, hcr⟩ : ∃ z, z = crI px py qx qy := ⟨_, rfl⟩
        obtain ⟨sz, hsz⟩ := nn_cast s1.1
        obtain ⟨cc, hcc⟩ := nn_cast s4.1
        obtain ⟨ow, how⟩ := nn_cast s6
        have hin : inn px py qx qy = (decide (dt < 0) && decide (-dt < (sz : Int))) := by unfold inn; rw [← hdt, hsz]
        have m1 : px * vx + py * vy = dt := by rw [hdt, hvx, hvy]; rfl
        have m2 : vx * vx + vy * vy = (sz : Int) := by rw [hvx, hvy]; exact hsz
        have m3 : qx * qx + qy * qy = (ow : Int) := how
        have m4 : px * vy - py * vx = cr := by rw [hcr, hvx, hvy]; unfold crI; grind
        have m5 : cr * cr = (cc : Int) := by rw [hcr]; exact hcc
        rw [hsz] at s1
        rw [← hdt] at s2
        rw [← hcr] at s3
        rw [hcc] at s4
        rw [how] at s5
        rw [hin, hcc, hsz, how] at hst
        simp only [Int.toNat_natCast] at hst
        clear hdt hcr hsz hcc how hin s6
        have t1 := mul_abs_le (x := px) (y := vx) (A := 20480) (B := 40960) (by omega) (by omega) (by omega) (by omega)
        have t2 := mul_abs_le (x := py) (y := vy) (A := 10752) (B := 21504) (by omega) (by omega) (by omega) (by omega)
        have t3 := mul_abs_le (x := vx) (y := vx) (A := 40960) (B := 40960) (by omega) (by omega) (by omega) (by omega)
        have t4 := mul_abs_le (x := vy) (y := vy) (A := 21504) (B := 21504) (by omega) (by omega) (by omega) (by omega)
        have t5 := mul_abs_le (x := qx) (y := qx) (A := 20480) (B := 20480) (by omega) (by omega) (by omega) (by omega)
        have t6 := mul_abs_le (x := qy) (y := qy) (A := 10752) (B := 10752) (by omega) (by omega) (by omega) (by omega)
        have t7 := mul_abs_le (x := px) (y := vy) (A := 20480) (B := 21504) (by omega) (by omega) (by omega) (by omega)
        have t8 := mul_abs_le (x := py) (y := vx) (A := 10752) (B := 40960) (by omega) (by omega) (by omega) (by omega)
        obtain ⟨e1, h1⟩ : ∃ z, px * vx = z := ⟨_, rfl⟩
        obtain ⟨e2, h2⟩ : ∃ z, py * vy = z := ⟨_, rfl⟩
        obtain ⟨e3, h3⟩ : ∃ z, vx * vx = z := ⟨_, rfl⟩
        obtain ⟨e4, h4⟩ : ∃ z, vy * vy = z := ⟨_, rfl⟩
        obtain ⟨e5, h5⟩ : ∃ z, qx * qx = z := ⟨_, rfl⟩
        obtain ⟨e6, h6⟩ : ∃ z, qy * qy = z := ⟨_, rfl⟩
        obtain ⟨e7, h7⟩ : ∃ z, px * vy = z := ⟨_, rfl⟩
        obtain ⟨e8, h8⟩ : ∃ z, py * vx = z := ⟨_, rfl⟩
        rw [h1] at m1 t1
        rw [h2] at m1 t2
        rw [h3] at m2 t3
        rw [h4] at m2 t4
        rw [h5] at m3 t5
        rw [h6] at m3 t6
        rw [h7] at m4 t7
        rw [h8] at m4 t8
        have g3 : qx - px = vx := hvx.symm
        have g4 : qy - py = vy := hvy.symm
        clear hvx hvy
        obtain ⟨T1, T2⟩ := T
        obtain ⟨f1, f2, f3⟩ := hf
        have f1 : T1 ≤ 193953851139686400 := f1
        have f2 : 0 < T2 := f2
        have f3 : T2 ≤ 2140143616 := f3
        have Hst := Lib.hid hst
        clear hst HF
        go_wp2_with fail
        refine (C1.out _).mono ?_; rintro e w1 ⟨rfl, b1⟩
        have hb1 := hb.next (Nat.le_refl _) b1
        have zB1 := zB.keep b1 zB.lt
        obtain ⟨d0, d1, d2, d3, d4⟩ := zB1.cells
        clear a0 a1 a2 a3 a4
        go_wp2_with fail
        refine (C2.out _).mono ?_; rintro e w2 ⟨rfl, bq⟩
        have hb2 := hb1.next (Nat.le_refl _) bq
        clear C1 C2 d0 d1 d2 d3 d4 zB1 zA zB b1 bq hb hb1
        have hcase : (dt < 0 ∧ -dt < (sz : Int)) ∨ (dt < 0 ∧ ¬ -dt < (sz : Int)) ∨ ¬ dt < 0 := by omega
        rcases hcase with ⟨i1, i2⟩ | ⟨i1, i2⟩ | i1
        · have ho : iF (wayP ⟨fx, fy, tx, ty, c⟩ ⟨gx, gy, ux, uy, c⟩ p p) (n + 1) = updF (T1, T2) (cc, sz) := by rw [Hst.out, decide_eq_true i1, decide_eq_true i2]; rfl
          have hszp : 0 < sz := by omega
          have C3 := Lib.hid (lessFraction_any cc sz T1 T2 w2 (by omega) (by omega) (by omega) (by omega))
          by_cases hl : cc * T2 < T1 * sz
          · rw [decide_eq_true hl] at C3
            rw [updF_yes hl] at ho
            have Ho := Lib.hid ho
            clear hl ho
            go_wp2_with fail
            refine C3.out.mono ?_; rintro e _ ⟨rfl, rfl⟩
            go_wp2_with fail
            go_roundw
            case rel => exact ⟨n + 1, k + 1, by show _ = _; have := hkn.out; omega, by omega, by rw [HQX.out], by rw [HQY.out], by rw [Ho.out], by rw [Ho.out], by go_num, hb2⟩
            case measure => simp [intOf]; omega
          · rw [decide_eq_false hl] at C3
            rw [updF_no hl] at ho
            have Ho := Lib.hid ho
            clear hl ho
            go_wp2_with fail
            refine C3.out.mono ?_; rintro e _ ⟨rfl, rfl⟩
            go_wp2_with fail
            go_roundw
            case rel => exact ⟨n + 1, k + 1, by show _ = _; have := hkn.out; omega, by omega, by rw [HQX.out], by rw [HQY.out], by rw [Ho.out], by rw [Ho.out], by go_num, hb2⟩
            case measure => simp [intOf]; omega
        all_goals
          have ho : iF (wayP ⟨fx, fy, tx, ty, c⟩ ⟨gx, gy, ux, uy, c⟩ p p) (n + 1) = updF (T1, T2) (ow, 1) := by
            rw [Hst.out]
            first
              | (rw [decide_eq_true i1, decide_eq_false i2]; rfl)
              | (rw [decide_eq_false i1]; rfl)
          have C3 := Lib.hid (lessFraction_any ow 1 T1 T2 w2 (by omega) (by omega) (by omega) (by omega))
          by_cases hl : ow * T2 < T1 * 1
          · rw [decide_eq_true hl] at C3
            rw [updF_yes hl] at ho
            have Ho := Lib.hid ho
            clear hl ho
            go_wp2_with fail
            refine C3.out.mono ?_; rintro e _ ⟨rfl, rfl⟩
            go_wp2_with fail
            go_roundw
            case rel => exact ⟨n + 1, k + 1, by show _ = _; have := hkn.out; omega, by omega, by rw [HQX.out], by rw [HQY.out], by rw [Ho.out], by rw [Ho.out]; rfl, by go_num, hb2⟩
            case measure => simp [intOf]; omega
          · rw [decide_eq_false hl] at C3
            rw [updF_no hl] at ho
            have Ho := Lib.hid ho
            clear hl ho
            go_wp2_with fail
            refine C3.out.mono ?_; rintro e _ ⟨rfl, rfl⟩
            go_wp2_with fail
            go_roundw
            case rel => exact ⟨n + 1, k + 1, by show _ = _; have := hkn.out; omega, by omega, by rw [HQX.out], by rw [HQY.out], by rw [Ho.out], by rw [Ho.out], by go_num, hb2⟩
            case measure => simp [intOf]; omega
      · have hnN : n = N := by have := hkn.out; omega
        subst hnN
        have hgt : ¬ (k : Int) ≤ c + p := by omega
        obtain ⟨T, hT⟩ : ∃ T, T = iF (wayP ⟨fx, fy, tx, ty, c⟩ ⟨gx, gy, ux, uy, c⟩ p p) n := ⟨_, rfl⟩
        rw [← hT] at hf
        rw [← hT]
        obtain ⟨T1, T2⟩ := T
        obtain ⟨f1, f2, f3⟩ := hf
        have f1 : T1 ≤ 193953851139686400 := f1
        have f2 : 0 < T2 := f2
        have f3 : T2 ≤ 2140143616 := f3
        have HT := Lib.hid hT
        clear hT hst HF
        obtain ⟨g, hg, l1, l2, l3⟩ := lowN_mul (a := T1) f2
        have ll := lowN_le T1 T2
        have C1 := Lib.hid (fun W9 => lowestTerms_any T1 T2 W9 (by omega) (by omega) f2)
        have hfin : lowI (T1, T2) c.toNat = lowN (lowN T1 T2).1 ((lowN T1 T2).2 * c.toNat * c.toNat) := rfl
        generalize lowN T1 T2 = l at l1 l2 l3 ll C1 hfin
        obtain ⟨la, lb⟩ := l
        simp only at l3 ll C1 hfin
        obtain ⟨C, rfl⟩ := Int.eq_ofNat_of_zero_le (show 0 ≤ c by omega)
        simp only [Int.toNat_natCast] at hfin
        have hC : C ≤ 16 := by omega
        have u1 : lb * C ≤ 2140143616 * 16 := Nat.mul_le_mul (by omega) hC
        have u2 : lb * C * C ≤ 2140143616 * 16 * 16 := Nat.mul_le_mul u1 hC
        have u3 : 0 < lb * C * C := Nat.mul_pos (Nat.mul_pos l3 (by omega)) (by omega)
        have v1 : (lb : Int) * (C : Int) = ((lb * C : Nat) : Int) := (Int.natCast_mul _ _).symm
        have v2 : ((lb * C : Nat) : Int) * (C : Int) = ((lb * C * C : Nat) : Int) := (Int.natCast_mul _ _).symm
        have C2 := Lib.hid (fun W9 => lowestTerms_any la (lb * C * C) W9 (by omega) (by omega) u3)
        rw [← hfin] at C2
        obtain ⟨m1, hm1⟩ : ∃ z, z = lb * C := ⟨_, rfl⟩
        rw [← hm1] at v1 v2 u1
        rw [← hm1] at C2 u2
        obtain ⟨m2, hm2⟩ : ∃ z, z = m1 * C := ⟨_, rfl⟩
        rw [← hm2] at v2 C2 u2
        have HL := Lib.hid hfin
        clear l1 l2 hfin hm1 hm2 u3
        go_wp2_with fail
        refine (C1.out _).mono ?_; rintro e w1 ⟨rfl, b1⟩
        have zA1 := zA.keep b1 zA.lt
        obtain ⟨d0, d1, d2, d3, d4⟩ := zA1.cells
        clear a0 a1 a2 a3 a4
        go_wp2_with fail
        refine (C2.out _).mono ?_; rintro e w2 ⟨rfl, b2⟩
        go_wp2_with fail
        go_ret2
        exact ⟨by rw [HT.out]; rfl, (bw.next (Nat.le_refl _) hb).next (Nat.le_refl _) b1 |>.next (Nat.le_refl _) b2⟩

theorem leastDelayed_any (fx fy tx ty gx gy ux uy c p q : Int) (w : World) (ha : goodM ⟨fx, fy, tx, ty, c⟩) (hb : goodM ⟨gx, gy, ux, uy, c⟩) (hp0 : 0 ≤ p) (hp4 : p ≤ 4) (hq0 : 0 ≤ q) (hq4 : q ≤ 4) :
    Calls Try.prog 71 #[.agg #[.int .i64 fx, .int .i64 fy, .int .i64 tx, .int .i64 ty, .int .i64 c], .agg #[.int .i64 gx, .int .i64 gy, .int .i64 ux, .int .i64 uy, .int .i64 c], .int .i64 p, .int .i64 q] w fun e w' => e = .returned (.tuple #[.int .i64 (lowI (iF (wayP ⟨fx, fy, tx, ty, c⟩ ⟨gx, gy, ux, uy, c⟩ p q) (lastN c p q)) c.toNat).1, .int .i64 (lowI (iF (wayP ⟨fx, fy, tx, ty, c⟩ ⟨gx, gy, ux, uy, c⟩ p q) (lastN c p q)) c.toNat).2]) ∧ Below w.heap.size w w' := by
  rcases Int.lt_trichotomy p q with h | rfl | h
  · exact leastDelayed_L fx fy tx ty gx gy ux uy c p q w ha hb hp0 hp4 hq0 hq4 h
  · exact leastDelayed_E fx fy tx ty gx gy ux uy c p w ha hb hp0 hp4 hq0 hq4 hp0
  · exact leastDelayed_G fx fy tx ty gx gy ux uy c p q w ha hb hp0 hp4 hq0 hq4 h
theorem ltK_lowI {f : Fr} {C K : Nat} (hf : 0 < f.2) (hC : 0 < C) : ltK (lowI f C) K = ltK f (K * (C * C)) := by
  obtain ⟨g, hg, l1, l2, l3⟩ := lowN_mul (a := f.1) hf
  unfold lowI
  rw [ltK_low (Nat.mul_pos (Nat.mul_pos l3 hC) hC), ltK_mul, ltK_mul]
  show ltK (lowN f.1 f.2) (K * C * C) = _
  rw [ltK_low hf, Nat.mul_assoc]
theorem lowI_bd {f : Fr} {C : Nat} (h : okF f) (hC : 0 < C) (hC2 : C ≤ 16) : (lowI f C).1 ≤ 193953851139686400 ∧ (lowI f C).2 ≤ 547876765696 ∧ 0 < (lowI f C).2 := by
  obtain ⟨h1, h2, h3⟩ := h
  obtain ⟨g, hg, l1, l2, l3⟩ := lowN_mul (a := f.1) h2
  have l4 := lowN_le f.1 f.2
  have l5 := lowN_le (lowN f.1 f.2).1 ((lowN f.1 f.2).2 * C * C)
  have u1 : (lowN f.1 f.2).2 * C ≤ 2140143616 * 16 := Nat.mul_le_mul (by omega) hC2
  have u2 : (lowN f.1 f.2).2 * C * C ≤ 2140143616 * 16 * 16 := Nat.mul_le_mul u1 hC2
  obtain ⟨_, _, _, _, l6⟩ := lowN_mul (a := (lowN f.1 f.2).1) (Nat.mul_pos (Nat.mul_pos l3 hC) hC)
  unfold lowI
  exact ⟨by omega, by omega, l6⟩
set_option maxRecDepth 100000 in
set_option maxHeartbeats 3200000 in
theorem closeDelayed_any (fx fy tx ty gx gy ux uy c p q L : Int) (w : World) (ha : goodM ⟨fx, fy, tx, ty, c⟩) (hb : goodM ⟨gx, gy, ux, uy, c⟩) (hp0 : 0 ≤ p) (hp4 : p ≤ 4) (hq0 : 0 ≤ q) (hq4 : q ≤ 4) (hL0 : 0 ≤ L) (hL : L ≤ 80) :
    Calls Try.prog 54 #[.agg #[.int .i64 fx, .int .i64 fy, .int .i64 tx, .int .i64 ty, .int .i64 c], .agg #[.int .i64 gx, .int .i64 gy, .int .i64 ux, .int .i64 uy, .int .i64 c], .int .i64 p, .int .i64 q, .int .i64 L] w fun e w' => e = .returned (.bool (closeB ⟨fx, fy, tx, ty, c⟩ ⟨gx, gy, ux, uy, c⟩ p q L)) ∧ Below w.heap.size w w' := by
  have hc1 : 1 ≤ c := ha.2.2.1
  have hc16 : c ≤ 16 := ha.2.2.2
  have C1 := Lib.hid (fun W => leastDelayed_any fx fy tx ty gx gy ux uy c p q W ha hb hp0 hp4 hq0 hq4)
  have hok := iF_ok (wayP_ok ha hb p q) (lastN c p q)
  have hbd := lowI_bd hok (C := c.toNat) (by omega) (by omega)
  have hk := ltK_lowI (K := L.toNat * L.toNat) hok.2.1 (show 0 < c.toNat by omega)
  have hcl : closeB ⟨fx, fy, tx, ty, c⟩ ⟨gx, gy, ux, uy, c⟩ p q L = ltK (lowI (iF (wayP ⟨fx, fy, tx, ty, c⟩ ⟨gx, gy, ux, uy, c⟩ p q) (lastN c p q)) c.toNat) (L.toNat * L.toNat) := hk.symm
  generalize lowI (iF (wayP ⟨fx, fy, tx, ty, c⟩ ⟨gx, gy, ux, uy, c⟩ p q) (lastN c p q)) c.toNat = f at C1 hbd hcl
  obtain ⟨F1, F2⟩ := f
  obtain ⟨r1, r2, r3⟩ := hbd
  have r1 : F1 ≤ 193953851139686400 := r1
  have r2 : F2 ≤ 547876765696 := r2
  obtain ⟨l, rfl⟩ := Int.eq_ofNat_of_zero_le hL0
  rw [Int.toNat_natCast] at hcl
  have hl : l ≤ 80 := by omega
  have u1 : l * l ≤ 80 * 80 := Nat.mul_le_mul hl hl
  have u2 : l * l * F2 ≤ 80 * 80 * 547876765696 := Nat.mul_le_mul u1 r2
  have v1 : (l : Int) * (l : Int) = ((l * l : Nat) : Int) := (Int.natCast_mul _ _).symm
  have v2 : ((l * l : Nat) : Int) * (F2 : Int) = ((l * l * F2 : Nat) : Int) := (Int.natCast_mul _ _).symm
  have hfin : closeB ⟨fx, fy, tx, ty, c⟩ ⟨gx, gy, ux, uy, c⟩ p q (l : Int) = decide (F1 < l * l * F2) := hcl
  have zb := ((Below.refl w.heap.size w).alloc (Nat.le_refl _) (.cells #[.int .i64 fx, .int .i64 fy, .int .i64 tx, .int .i64 ty, .int .i64 c] 71)).alloc (by simp) (.cells #[.int .i64 gx, .int .i64 gy, .int .i64 ux, .int .i64 uy, .int .i64 c] 71)
  have ZB := Lib.hid zb
  have HF := Lib.hid hfin
  obtain ⟨m1, hm1⟩ : ∃ z, z = l * l := ⟨_, rfl⟩
  rw [← hm1] at v1 v2 u1 u2
  have hfin2 : closeB ⟨fx, fy, tx, ty, c⟩ ⟨gx, gy, ux, uy, c⟩ p q (l : Int) = decide (F1 < m1 * F2) := by rw [hm1]; exact HF.out
  obtain ⟨m2, hm2⟩ : ∃ z, z = m1 * F2 := ⟨_, rfl⟩
  rw [← hm2] at v2 u2 hfin2
  rw [hfin2]
  clear hcl hfin hfin2 HF hm1 hm2 hok hk zb ha hb
  simp only at C1
  go_enter Try.func54, Try.ntmps54
  go_wp2_with fail
  refine (C1.out _).mono ?_; rintro e w1 ⟨rfl, b1⟩
  go_wp2_with fail
  go_ret
  exact ⟨ret_bool (by simp), ZB.out.next (Nat.le_refl _) b1⟩
end Go.Proofs.Ytgcgkpmjahgmnaa
