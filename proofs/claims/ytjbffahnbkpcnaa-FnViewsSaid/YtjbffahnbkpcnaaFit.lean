/- Contracts of BoundsOf and FitFrame, in the program and in the reference. -/
import Derived.Test.YtjbffahnbkpcnaaMoved
import Derived.RegionTactic
import Derived.BigRegion
import Derived.StillTailTactics
set_option linter.unusedSimpArgs false
set_option linter.unusedVariables false
namespace Go.Proofs.Ytjbffahnbkpcnaa
open Go.RowKit
/-- A spot in a box that may be written. -/
def Box2 (w : World) (b : Nat) (a : Spt) : Prop :=
  w.cell? ⟨b, 0, none⟩ = some (.int .i64 a.x) ∧ w.cell? ⟨b, 1, none⟩ = some (.int .i64 a.y) ∧ w.frozen? ⟨b, 0, none⟩ = false ∧ w.frozen? ⟨b, 1, none⟩ = false
theorem Box2.out {w : World} {b : Nat} {a : Spt} (h : Box2 w b a) : w.cell? ⟨b, 0, none⟩ = some (.int .i64 a.x) ∧ w.cell? ⟨b, 1, none⟩ = some (.int .i64 a.y) ∧ w.frozen? ⟨b, 0, none⟩ = false ∧ w.frozen? ⟨b, 1, none⟩ = false := h
theorem Box2.lt {w : World} {b : Nat} {a : Spt} (h : Box2 w b a) : b < w.heap.size := World.block_lt_of_cell? w _ h.1
theorem Box2.keep {w w' : World} {b B : Nat} {a : Spt} (h : Box2 w b a) (hb : Below B w w') (hB : w.heap.size ≤ B) : Box2 w' b a := by
  have hl := h.lt
  obtain ⟨h0, h1, h2, h3⟩ := h
  exact ⟨Below.keepC hb h0 hB, Below.keepC hb h1 hB, (hb.frozen (p := ⟨b, 0, none⟩) (show b < B by omega)).trans h2, (hb.frozen (p := ⟨b, 1, none⟩) (show b < B by omega)).trans h3⟩
theorem Box2.eq {w : World} {b : Nat} {x y : Int} {a : Spt} (h : Box2 w b ⟨x, y⟩) (hx : x = a.x) (hy : y = a.y) : Box2 w b a := by
  subst hx hy; exact h
theorem Box2.set {w : World} {b : Nat} {a : Spt} (h : Box2 w b a) (x y : Int) : Box2 ((w.setCell ⟨b, 0, none⟩ (.int .i64 x)).setCell ⟨b, 1, none⟩ (.int .i64 y)) b ⟨x, y⟩ := by
  have hl := h.lt
  obtain ⟨h0, h1, h2, h3⟩ := h
  exact ⟨by go_simp, by go_simp, by go_simp, by go_simp⟩
theorem Box2.off {w : World} {b p : Nat} {a : Spt} (h : Box2 w b a) (hne : p ≠ b) (u v : Value) : Box2 ((w.setCell ⟨p, 0, none⟩ u).setCell ⟨p, 1, none⟩ v) b a := by
  have hl := h.lt
  have hne2 : b ≠ p := fun e => hne e.symm
  obtain ⟨h0, h1, h2, h3⟩ := h
  exact ⟨by go_simp, by go_simp, by go_simp, by go_simp⟩
def mnS (a b : Spt) : Spt := ⟨min a.x b.x, min a.y b.y⟩
def mxS (a b : Spt) : Spt := ⟨max a.x b.x, max a.y b.y⟩
def loS (l : List Spt) : Nat → Spt
  | 0 => gx sptRec l 0
  | k + 1 => mnS (loS l k) (gx sptRec l k)
def hiS (l : List Spt) : Nat → Spt
  | 0 => gx sptRec l 0
  | k + 1 => mxS (hiS l k) (gx sptRec l k)
theorem lohi_bd {l : List Spt} (h : isChart l = true) (k : Nat) (hk : k ≤ l.length) :
    0 ≤ (loS l k).x ∧ 0 ≤ (loS l k).y ∧ (loS l k).x ≤ (hiS l k).x ∧ (loS l k).y ≤ (hiS l k).y ∧ (hiS l k).x ≤ 1280 ∧ (hiS l k).y ≤ 672 := by
  have hp := isChart_t h
  induction k with
  | zero =>
    have := isSpot_t (chart_spot h 0 (by omega))
    show 0 ≤ (gx sptRec l 0).x ∧ 0 ≤ (gx sptRec l 0).y ∧ (gx sptRec l 0).x ≤ (gx sptRec l 0).x ∧ (gx sptRec l 0).y ≤ (gx sptRec l 0).y ∧ (gx sptRec l 0).x ≤ 1280 ∧ (gx sptRec l 0).y ≤ 672
    omega
  | succ k ih =>
    have h1 := ih (by omega)
    have h2 := isSpot_t (chart_spot h k (by omega))
    show 0 ≤ min (loS l k).x (gx sptRec l k).x ∧ 0 ≤ min (loS l k).y (gx sptRec l k).y ∧ min (loS l k).x (gx sptRec l k).x ≤ max (hiS l k).x (gx sptRec l k).x ∧ min (loS l k).y (gx sptRec l k).y ≤ max (hiS l k).y (gx sptRec l k).y ∧ max (hiS l k).x (gx sptRec l k).x ≤ 1280 ∧ max (hiS l k).y (gx sptRec l k).y ≤ 672
    omega
theorem l1Least_s (a b : Int) (w : World) : Calls Try.prog 80 #[.int .i64 a, .int .i64 b] w fun e w' => e = .returned (.int .i64 (min a b)) ∧ w' = w := by
  rcases Int.lt_or_le a b with h | h
  · have e : Hid (min a b = a) := by show _ = _; omega
    go_enter Try.func80, Try.ntmps80
    go_wp2_with fail
    go_ret
    exact ⟨ret_int e.out.symm, rfl⟩
  · have e : Hid (min a b = b) := by show _ = _; omega
    go_enter Try.func80, Try.ntmps80
    go_wp2_with fail
    go_ret
    exact ⟨ret_int e.out.symm, rfl⟩
theorem l1Most_s (a b : Int) (w : World) : Calls Try.prog 81 #[.int .i64 a, .int .i64 b] w fun e w' => e = .returned (.int .i64 (max a b)) ∧ w' = w := by
  rcases Int.lt_or_le b a with h | h
  · have e : Hid (max a b = a) := by show _ = _; omega
    go_enter Try.func81, Try.ntmps81
    go_wp2_with fail
    go_ret
    exact ⟨ret_int e.out.symm, rfl⟩
  · have e : Hid (max a b = b) := by show _ = _; omega
    go_enter Try.func81, Try.ntmps81
    go_wp2_with fail
    go_ret
    exact ⟨ret_int e.out.symm, rfl⟩
/-- What BoundsOf returns. -/
def rLo (l : List Spt) : Spt := if isChart l then loS l l.length else ⟨0, 0⟩
def rHi (l : List Spt) : Spt := if isChart l then hiS l l.length else ⟨0, 0⟩
theorem rLo_no {l : List Spt} (h : isChart l = false) : rLo l = ⟨0, 0⟩ ∧ rHi l = ⟨0, 0⟩ := by unfold rLo rHi; rw [h]; exact ⟨rfl, rfl⟩
theorem rLo_yes {l : List Spt} (h : isChart l = true) : rLo l = loS l l.length ∧ rHi l = hiS l l.length := by unfold rLo rHi; rw [h]; exact ⟨rfl, rfl⟩
set_option maxRecDepth 100000 in
set_option maxHeartbeats 12800000 in
theorem implBounds (v : Value) (l : List Spt) (w : World) (h : RowAt sptRec w v l) :
    Calls Try.prog 63 #[v] w fun e w' => e = .returned (.tuple #[.agg #[.int .i64 (rLo l).x, .int .i64 (rLo l).y], .agg #[.int .i64 (rHi l).x, .int .i64 (rHi l).y], .bool (isChart l)]) ∧ Below w.heap.size w w' := by
  obtain ⟨A, c, rfl, hnc, hc63⟩ := h.shape
  have hb0 := fun o o' => ((Below.refl w.heap.size w).alloc (Nat.le_refl _) o).alloc (by simp) o'
  have Hb0 := Lib.hid hb0
  clear hb0
  have hfin : ∀ (W' : World) (p q : Spt) (r : Bool), Below w.heap.size w W' → Box2 W' w.heap.size p → Box2 W' (w.heap.size + 1) q →
      ∀ tm : Array Value, tm[2]? = some (.pointer (some ⟨w.heap.size, 0, none⟩)) → tm[3]? = some (.pointer (some ⟨w.heap.size + 1, 0, none⟩)) → tm[4]? = some (.bool r) →
      bodyPost Try.prog Try.f63 (fun e w' => e = .returned (.tuple #[.agg #[.int .i64 p.x, .int .i64 p.y], .agg #[.int .i64 q.x, .int .i64 q.y], .bool r]) ∧ Below w.heap.size w w') Exit.ret ⟨tm, []⟩ W' := by
    intro W' p q r hW hp hq tm t2 t3 t4
    obtain ⟨p0, p1, _, _⟩ := hp
    obtain ⟨q0, q1, _, _⟩ := hq
    exact bodyPost_ret (v := .tuple #[.agg #[.int .i64 p.x, .int .i64 p.y], .agg #[.int .i64 q.x, .int .i64 q.y], .bool r]) (by simp [results, Try.results63, go_sem, p0, p1, q0, q1, t2, t3, t4]) rfl ⟨rfl, hW⟩
  have Hfin := Lib.hid hfin
  clear hfin
  go_enter Try.func63, Try.ntmps63
  go_upto_region 0 with fail
  go_cut [2, 3, 4] (fun s t u wx => s = .pointer (some ⟨w.heap.size, 0, none⟩) ∧ t = .pointer (some ⟨w.heap.size + 1, 0, none⟩) ∧ u = .bool false ∧ Box2 wx w.heap.size ⟨0, 0⟩ ∧ Box2 wx (w.heap.size + 1) ⟨0, 0⟩ ∧ Below w.heap.size w wx)
  case first =>
    go_wp2_with fail
    go_meet
    exact ⟨rfl, rfl, rfl, ⟨by go_simp, by go_simp, by go_simp, by go_simp⟩, ⟨by go_simp, by go_simp, by go_simp, by go_simp⟩, Hb0.out _ _⟩
  case rest =>
  obtain ⟨rfl, rfl, rfl, z0, z1, B0⟩ := hcut
  obtain ⟨w0, hw0⟩ : ∃ w0 : World, w0 = wc := ⟨_, rfl⟩
  subst hw0
  cases hc : isChart l
  case false =>
    have hr := Lib.hid (rLo_no hc)
    have Hc := Lib.hid hc
    go_wp2_with fail
    refine (implIsChart _ l _ (h.below B0 (Nat.le_refl _))).mono ?_; rintro e w1 ⟨rfl, b1⟩
    have B1 := B0.trans (b1.mono B0.size)
    have y0 := z0.keep b1 (Nat.le_refl _)
    have y1 := z1.keep b1 (Nat.le_refl _)
    have hy0 := y0.out
    have hy1 := y1.out
    obtain ⟨q0, q1, q2, q3⟩ := hy0
    obtain ⟨r0, r1, r2, r3⟩ := hy1
    go_wp2_with fail
    rw [hr.out.1, hr.out.2, Hc.out]
    refine Hfin.out _ ⟨0, 0⟩ ⟨0, 0⟩ false ?_ ?_ ?_ _ ?_ ?_ ?_
    · exact (((B1.setCell (p := ⟨w.heap.size, 0, none⟩) (Nat.le_refl _) _).setCell (p := ⟨w.heap.size, 1, none⟩) (Nat.le_refl _) _).setCell (p := ⟨w.heap.size + 1, 0, none⟩) (Nat.le_succ _) _).setCell (p := ⟨w.heap.size + 1, 1, none⟩) (Nat.le_succ _) _
    · exact (y0.set 0 0).off (Nat.succ_ne_self _) _ _
    · exact ((y1.off (Nat.ne_of_lt (Nat.lt_succ_self _)) _ _).set 0 0)
    · rfl
    · rfl
    · rfl
  case true =>
  have hp := isChart_t hc
  obtain ⟨p1, p2, _⟩ := hp
  have hr := Lib.hid (rLo_yes hc)
  have Hc := Lib.hid hc
  have hbd := Lib.hid (lohi_bd hc)
  have hsp := Lib.hid (chart_spot hc)
  go_wp2_with fail
  refine (implIsChart _ l _ (h.below B0 (Nat.le_refl _))).mono ?_; rintro e w1 ⟨rfl, b1⟩
  have B1 := B0.trans (b1.mono B0.size)
  have h1 := h.below B1 (Nat.le_refl _)
  have y0 := z0.keep b1 (Nat.le_refl _)
  have y1 := z1.keep b1 (Nat.le_refl _)
  obtain ⟨b, o, rfl, c0, c1⟩ := spt_at h1 0 (by omega)
  have hi1 : (0 : Int) < (l.length : Int) := by omega
  have d0 : w1.cell? ⟨b, o, none⟩ = some (.int .i64 (gx sptRec l 0).x) := by simpa using c0
  have d1 : w1.cell? ⟨b, o + 1, none⟩ = some (.int .i64 (gx sptRec l 0).y) := by simpa using c1
  have hbl : b < w1.heap.size := World.block_lt_of_cell? w1 _ d0
  clear c0 c1 z0 z1
  have hb2 := fun o o' => (((Below.refl w1.heap.size w1).alloc (Nat.le_refl _) o).alloc (by simp) o').drew
  have Hb2 := Lib.hid hb2
  clear hb2
  go_upto_region 3 with fail
  clear hc
  go_cut [5, 6] (fun s t wx => ∃ p q : Nat, s = .pointer (some ⟨p, 0, none⟩) ∧ t = .pointer (some ⟨q, 0, none⟩) ∧ p ≠ q ∧ w1.heap.size ≤ p ∧ w1.heap.size ≤ q ∧ Box2 wx p (gx sptRec l 0) ∧ Box2 wx q (gx sptRec l 0) ∧ Below w1.heap.size w1 wx)
  case first =>
    go_region
    all_goals
      go_wp2_with fail
      go_meet
      refine ⟨_, _, rfl, rfl, by omega, by omega, by omega, ⟨by go_simp, by go_simp, by go_simp, by go_simp⟩, ⟨by go_simp, by go_simp, by go_simp, by go_simp⟩, Hb2.out _ _⟩
  case rest =>
    obtain ⟨p, q, rfl, rfl, hpq, hp, hq, bp, bq, B2⟩ := hcut
    clear d0 d1 hbl
    go_wp2_with fail
    go_loopw [22] (fun s wr => ∃ k : Nat, k ≤ l.length ∧ s = .int .i64 k ∧ Box2 wr p (loS l k) ∧ Box2 wr q (hiS l k) ∧ Below w1.heap.size w1 wr) (fun s _ => l.length - (intOf s).toNat)
    case atStart => exact ⟨0, Nat.zero_le _, rfl, bp, bq, B2⟩
    case round =>
      obtain ⟨k, hk, rfl, bp2, bq2, hb⟩ := hrel
      clear bp bq B2
      by_cases hlt : k < l.length
      · obtain ⟨b', o', he, c0, c1⟩ := spt_at (h1.below hb (Nat.le_refl _)) k hlt
        injection he with he; injection he with e1 e2; subst e1 e2
        have hbk := hbd.out k (by omega)
        have hsk := isSpot_t (hsp.out k hlt)
        obtain ⟨k1, k2, k3, k4, k5, k6⟩ := hbk
        obtain ⟨k7, k8, k9, k10⟩ := hsk
        have hqp : q ≠ p := fun e => hpq e.symm
        go_upto_region 7 with fail
        go_cut [] (fun wx => Box2 wx p (loS l (k + 1)) ∧ Box2 wx q (hiS l k) ∧ wx.cell? ⟨wr.heap.size, 0, none⟩ = some (.int .i64 (gx sptRec l k).x) ∧ wx.cell? ⟨wr.heap.size, 1, none⟩ = some (.int .i64 (gx sptRec l k).y) ∧ Below w1.heap.size w1 wx)
        case first =>
          have hbp := bp2.out
          obtain ⟨q0, q1, q2, q3⟩ := hbp
          have hlp := bp2.lt
          have hlq := bq2.lt
          rcases Int.lt_trichotomy (loS l k).x (gx sptRec l k).x with x1 | x1 | x1 <;> rcases Int.lt_trichotomy (loS l k).y (gx sptRec l k).y with y1 | y1 | y1
          all_goals
            have X1 := Lib.hid x1
            have Y1 := Lib.hid y1
            go_wp2_with fail
            all_goals
              go_meet
              have x2 := X1.out
              have y2 := Y1.out
              exact ⟨((bp2.set _ _).keep ((Below.refl _ _).alloc (Nat.le_refl _) _) (Nat.le_refl _)).eq (by show _ = min _ _; omega) (by show _ = min _ _; omega), (bq2.off hpq _ _).keep ((Below.refl _ _).alloc (Nat.le_refl _) _) (Nat.le_refl _), by go_simp, by go_simp, ((hb.setCell (p := ⟨p, 0, none⟩) hp _).setCell (p := ⟨p, 1, none⟩) hp _).alloc (by simpa using hb.size) _⟩
        case rest =>
          obtain ⟨cp, cq, y0', y1', hb3⟩ := hcut
          obtain ⟨W3, hW3⟩ : ∃ W3 : World, W3 = wc := ⟨_, rfl⟩
          subst hW3
          clear c0 c1
          have hbp := cq.out
          obtain ⟨q0, q1, q2, q3⟩ := hbp
          have hlp := cp.lt
          have hlq := cq.lt
          rcases Int.lt_trichotomy (hiS l k).x (gx sptRec l k).x with x1 | x1 | x1 <;> rcases Int.lt_trichotomy (hiS l k).y (gx sptRec l k).y with y1 | y1 | y1
          all_goals
            have X1 := Lib.hid x1
            have Y1 := Lib.hid y1
            go_wp2_with fail
            all_goals
              go_roundw
              case rel =>
                have x2 := X1.out
                have y2 := Y1.out
                exact ⟨k + 1, by omega, by go_num, cp.off hqp _ _, (cq.set _ _).eq (by show _ = max _ _; omega) (by show _ = max _ _; omega), (hb3.setCell (p := ⟨q, 0, none⟩) hq _).setCell (p := ⟨q, 1, none⟩) hq _⟩
              case measure => simp [intOf]; omega
      · obtain rfl : k = l.length := by omega
        have u0 := y0.keep hb (Nat.le_refl _)
        have u1 := y1.keep hb (Nat.le_refl _)
        have hu0 := u0.out
        have hu1 := u1.out
        obtain ⟨q0, q1, q2, q3⟩ := hu0
        obtain ⟨r0, r1, r2, r3⟩ := hu1
        have hbp := bp2.out
        obtain ⟨s0, s1, s2, s3⟩ := hbp
        have hbq := bq2.out
        obtain ⟨t0, t1, t2, t3⟩ := hbq
        have l0 := u0.lt
        have l1 := u1.lt
        have l2 := bp2.lt
        have l3 := bq2.lt
        have hz := b1.size
        have hz1 := y1.lt
        have m0 : p ≠ w.heap.size := by omega
        have m1 : p ≠ w.heap.size + 1 := by omega
        have m2 : q ≠ w.heap.size := by omega
        have m3 : q ≠ w.heap.size + 1 := by omega
        have BB := B1.trans (hb.mono B1.size)
        go_upto_region 10 with fail
        go_cut [4] (fun s wx => s = .bool true ∧ Box2 wx w.heap.size (loS l l.length) ∧ Box2 wx (w.heap.size + 1) (hiS l l.length) ∧ Below w.heap.size w wx)
        case first =>
          go_region
          all_goals
            go_wp2_with fail
            go_meet
            refine ⟨rfl, ⟨by go_simp, by go_simp, by go_simp, by go_simp⟩, ⟨by go_simp, by go_simp, by go_simp, by go_simp⟩, ?_⟩
            first
              | exact ((((BB.setCell (p := ⟨w.heap.size, 0, none⟩) (Nat.le_refl _) _).setCell (p := ⟨w.heap.size, 1, none⟩) (Nat.le_refl _) _).setCell (p := ⟨w.heap.size + 1, 0, none⟩) (Nat.le_succ _) _).setCell (p := ⟨w.heap.size + 1, 1, none⟩) (Nat.le_succ _) _).drew
              | exact ((((BB.setCell (p := ⟨w.heap.size + 1, 0, none⟩) (Nat.le_succ _) _).setCell (p := ⟨w.heap.size + 1, 1, none⟩) (Nat.le_succ _) _).setCell (p := ⟨w.heap.size, 0, none⟩) (Nat.le_refl _) _).setCell (p := ⟨w.heap.size, 1, none⟩) (Nat.le_refl _) _).drew
        case rest =>
          obtain ⟨rfl, f0, f1, hB⟩ := hcut
          go_wp2_with fail
          rw [hr.out.1, hr.out.2, Hc.out]
          refine Hfin.out _ (loS l l.length) (hiS l l.length) true hB f0 f1 _ ?_ ?_ ?_
          all_goals rfl
set_option maxRecDepth 100000 in
set_option maxHeartbeats 12800000 in
theorem specBounds (v : Value) (l : List Spt) (w : World) (h : RowAt sptRec w v l) :
    Calls Try.prog 65 #[v] w fun e w' => e = .returned (.tuple #[.agg #[.int .i64 (rLo l).x, .int .i64 (rLo l).y], .agg #[.int .i64 (rHi l).x, .int .i64 (rHi l).y], .bool (isChart l)]) ∧ Below w.heap.size w w' := by
  obtain ⟨A, c, rfl, hnc, hc63⟩ := h.shape
  have hb0 := fun o o' => ((Below.refl w.heap.size w).alloc (Nat.le_refl _) o).alloc (by simp) o'
  have Hb0 := Lib.hid hb0
  clear hb0
  have hfin : ∀ (W' : World) (p q : Spt) (r : Bool), Below w.heap.size w W' → Box2 W' w.heap.size p → Box2 W' (w.heap.size + 1) q →
      ∀ tm : Array Value, tm[2]? = some (.pointer (some ⟨w.heap.size, 0, none⟩)) → tm[3]? = some (.pointer (some ⟨w.heap.size + 1, 0, none⟩)) → tm[4]? = some (.bool r) →
      bodyPost Try.prog Try.f65 (fun e w' => e = .returned (.tuple #[.agg #[.int .i64 p.x, .int .i64 p.y], .agg #[.int .i64 q.x, .int .i64 q.y], .bool r]) ∧ Below w.heap.size w w') Exit.ret ⟨tm, []⟩ W' := by
    intro W' p q r hW hp hq tm t2 t3 t4
    obtain ⟨p0, p1, _, _⟩ := hp
    obtain ⟨q0, q1, _, _⟩ := hq
    exact bodyPost_ret (v := .tuple #[.agg #[.int .i64 p.x, .int .i64 p.y], .agg #[.int .i64 q.x, .int .i64 q.y], .bool r]) (by simp [results, Try.results65, go_sem, p0, p1, q0, q1, t2, t3, t4]) rfl ⟨rfl, hW⟩
  have Hfin := Lib.hid hfin
  clear hfin
  go_enter Try.func65, Try.ntmps65
  go_upto_region 0 with fail
  go_cut [2, 3, 4] (fun s t u wx => s = .pointer (some ⟨w.heap.size, 0, none⟩) ∧ t = .pointer (some ⟨w.heap.size + 1, 0, none⟩) ∧ u = .bool false ∧ Box2 wx w.heap.size ⟨0, 0⟩ ∧ Box2 wx (w.heap.size + 1) ⟨0, 0⟩ ∧ Below w.heap.size w wx)
  case first =>
    go_wp2_with fail
    go_meet
    exact ⟨rfl, rfl, rfl, ⟨by go_simp, by go_simp, by go_simp, by go_simp⟩, ⟨by go_simp, by go_simp, by go_simp, by go_simp⟩, Hb0.out _ _⟩
  case rest =>
  obtain ⟨rfl, rfl, rfl, z0, z1, B0⟩ := hcut
  obtain ⟨w0, hw0⟩ : ∃ w0 : World, w0 = wc := ⟨_, rfl⟩
  subst hw0
  cases hc : isChart l
  case false =>
    have hr := Lib.hid (rLo_no hc)
    have Hc := Lib.hid hc
    go_wp2_with fail
    refine (chGood_any _ l _ (h.below B0 (Nat.le_refl _))).mono ?_; rintro e w1 ⟨rfl, b1⟩
    have B1 := B0.trans (b1.mono B0.size)
    have y0 := z0.keep b1 (Nat.le_refl _)
    have y1 := z1.keep b1 (Nat.le_refl _)
    have hy0 := y0.out
    have hy1 := y1.out
    obtain ⟨q0, q1, q2, q3⟩ := hy0
    obtain ⟨r0, r1, r2, r3⟩ := hy1
    go_wp2_with fail
    rw [hr.out.1, hr.out.2, Hc.out]
    refine Hfin.out _ ⟨0, 0⟩ ⟨0, 0⟩ false ?_ ?_ ?_ _ ?_ ?_ ?_
    · exact (((B1.setCell (p := ⟨w.heap.size, 0, none⟩) (Nat.le_refl _) _).setCell (p := ⟨w.heap.size, 1, none⟩) (Nat.le_refl _) _).setCell (p := ⟨w.heap.size + 1, 0, none⟩) (Nat.le_succ _) _).setCell (p := ⟨w.heap.size + 1, 1, none⟩) (Nat.le_succ _) _
    · exact (y0.set 0 0).off (Nat.succ_ne_self _) _ _
    · exact ((y1.off (Nat.ne_of_lt (Nat.lt_succ_self _)) _ _).set 0 0)
    · rfl
    · rfl
    · rfl
  case true =>
  have hp := isChart_t hc
  obtain ⟨p1, p2, _⟩ := hp
  have hr := Lib.hid (rLo_yes hc)
  have Hc := Lib.hid hc
  have hbd := Lib.hid (lohi_bd hc)
  have hsp := Lib.hid (chart_spot hc)
  go_wp2_with fail
  refine (chGood_any _ l _ (h.below B0 (Nat.le_refl _))).mono ?_; rintro e w1 ⟨rfl, b1⟩
  have B1 := B0.trans (b1.mono B0.size)
  have h1 := h.below B1 (Nat.le_refl _)
  have y0 := z0.keep b1 (Nat.le_refl _)
  have y1 := z1.keep b1 (Nat.le_refl _)
  obtain ⟨b, o, rfl, c0, c1⟩ := spt_at h1 0 (by omega)
  have hi1 : (0 : Int) < (l.length : Int) := by omega
  have d0 : w1.cell? ⟨b, o, none⟩ = some (.int .i64 (gx sptRec l 0).x) := by simpa using c0
  have d1 : w1.cell? ⟨b, o + 1, none⟩ = some (.int .i64 (gx sptRec l 0).y) := by simpa using c1
  have hbl : b < w1.heap.size := World.block_lt_of_cell? w1 _ d0
  clear c0 c1 z0 z1
  have hb2 := fun o o' => (((Below.refl w1.heap.size w1).alloc (Nat.le_refl _) o).alloc (by simp) o').drew
  have Hb2 := Lib.hid hb2
  clear hb2
  go_upto_region 3 with fail
  clear hc
  go_cut [5, 6] (fun s t wx => ∃ p q : Nat, s = .pointer (some ⟨p, 0, none⟩) ∧ t = .pointer (some ⟨q, 0, none⟩) ∧ p ≠ q ∧ w1.heap.size ≤ p ∧ w1.heap.size ≤ q ∧ Box2 wx p (gx sptRec l 0) ∧ Box2 wx q (gx sptRec l 0) ∧ Below w1.heap.size w1 wx)
  case first =>
    go_region
    all_goals
      go_wp2_with fail
      go_meet
      refine ⟨_, _, rfl, rfl, by omega, by omega, by omega, ⟨by go_simp, by go_simp, by go_simp, by go_simp⟩, ⟨by go_simp, by go_simp, by go_simp, by go_simp⟩, Hb2.out _ _⟩
  case rest =>
    obtain ⟨p, q, rfl, rfl, hpq, hp, hq, bp, bq, B2⟩ := hcut
    clear d0 d1 hbl
    go_wp2_with fail
    go_loopw [22] (fun s wr => ∃ k : Nat, k ≤ l.length ∧ s = .int .i64 k ∧ Box2 wr p (loS l k) ∧ Box2 wr q (hiS l k) ∧ Below w1.heap.size w1 wr) (fun s _ => l.length - (intOf s).toNat)
    case atStart => exact ⟨0, Nat.zero_le _, rfl, bp, bq, B2⟩
    case round =>
      obtain ⟨k, hk, rfl, bp2, bq2, hb⟩ := hrel
      clear bp bq B2
      by_cases hlt : k < l.length
      · obtain ⟨b', o', he, c0, c1⟩ := spt_at (h1.below hb (Nat.le_refl _)) k hlt
        injection he with he; injection he with e1 e2; subst e1 e2
        have hbk := hbd.out k (by omega)
        have hsk := isSpot_t (hsp.out k hlt)
        obtain ⟨k1, k2, k3, k4, k5, k6⟩ := hbk
        obtain ⟨k7, k8, k9, k10⟩ := hsk
        have hqp : q ≠ p := fun e => hpq e.symm
        have hpw := bp2.lt
        go_upto_region 6 with fail
        go_cut [8] (fun s wx => s = .pointer (some ⟨wr.heap.size, 0, none⟩) ∧ wx.cell? ⟨wr.heap.size, 0, none⟩ = some (.int .i64 (gx sptRec l k).x) ∧ wx.cell? ⟨wr.heap.size, 1, none⟩ = some (.int .i64 (gx sptRec l k).y) ∧ Box2 wx p (loS l k) ∧ Box2 wx q (hiS l k) ∧ Below w1.heap.size w1 wx)
        case first =>
          go_wp2_with fail
          go_meet
          exact ⟨rfl, by go_simp, by go_simp, bp2.keep ((Below.refl _ _).alloc (Nat.le_refl _) _) (Nat.le_refl _), bq2.keep ((Below.refl _ _).alloc (Nat.le_refl _) _) (Nat.le_refl _), hb.alloc hb.size _⟩
        case rest =>
        obtain ⟨rfl, v0, v1, bp2, bq2, hb⟩ := hcut
        obtain ⟨w9, hw9⟩ : ∃ w9 : World, w9 = wc := ⟨_, rfl⟩
        subst hw9
        go_upto_region 7 with fail
        go_cut [] (fun wx => Box2 wx p (loS l (k + 1)) ∧ Box2 wx q (hiS l k) ∧ wx.cell? ⟨wr.heap.size, 0, none⟩ = some (.int .i64 (gx sptRec l k).x) ∧ wx.cell? ⟨wr.heap.size, 1, none⟩ = some (.int .i64 (gx sptRec l k).y) ∧ Below w1.heap.size w1 wx)
        case first =>
          have hbp := bp2.out
          obtain ⟨q0, q1, q2, q3⟩ := hbp
          have hlp := bp2.lt
          have hlq := bq2.lt
          refine wp_region_still_tail 11 (by kernel_rfl) (by kernel_rfl) ?_
          simp only [List.take_succ_cons, List.take_zero, List.drop_succ_cons, List.drop_zero]
          repeat (first | still_step | (refine wpStill_step (fun K hK => ?_); go_simp; refine ⟨_, l1Least_s _ _ _, hK _ ?_⟩; clear hK K))
          refine wpStill_nil ?_
          go_wp2_with fail
          go_meet
          have hpz : wr.heap.size ≠ p := fun h9 => by omega
          exact ⟨(bp2.set _ _).eq rfl rfl, bq2.off hpq _ _, by go_simp, by go_simp, ((hb.setCell (p := ⟨p, 0, none⟩) hp _).setCell (p := ⟨p, 1, none⟩) hp _).drew⟩
        case rest =>
          obtain ⟨cp, cq, y0', y1', hb3⟩ := hcut
          obtain ⟨W3, hW3⟩ : ∃ W3 : World, W3 = wc := ⟨_, rfl⟩
          subst hW3
          clear c0 c1
          have hbp := cq.out
          obtain ⟨q0, q1, q2, q3⟩ := hbp
          have hlp := cp.lt
          have hlq := cq.lt
          go_upto_region 8 with fail
          refine wp_region_still_tail 11 (by kernel_rfl) (by kernel_rfl) ?_
          simp only [List.take_succ_cons, List.take_zero, List.drop_succ_cons, List.drop_zero]
          repeat (first | still_step | (refine wpStill_step (fun K hK => ?_); go_simp; refine ⟨_, l1Most_s _ _ _, hK _ ?_⟩; clear hK K))
          refine wpStill_nil ?_
          go_wp2_with fail
          go_roundw
          case rel => exact ⟨k + 1, by omega, by go_num, cp.off hqp _ _, (cq.set _ _).eq rfl rfl, ((hb3.setCell (p := ⟨q, 0, none⟩) hq _).setCell (p := ⟨q, 1, none⟩) hq _).drew⟩
          case measure => simp [intOf]; omega
      · obtain rfl : k = l.length := by omega
        have u0 := y0.keep hb (Nat.le_refl _)
        have u1 := y1.keep hb (Nat.le_refl _)
        have hu0 := u0.out
        have hu1 := u1.out
        obtain ⟨q0, q1, q2, q3⟩ := hu0
        obtain ⟨r0, r1, r2, r3⟩ := hu1
        have hbp := bp2.out
        obtain ⟨s0, s1, s2, s3⟩ := hbp
        have hbq := bq2.out
        obtain ⟨t0, t1, t2, t3⟩ := hbq
        have l0 := u0.lt
        have l1 := u1.lt
        have l2 := bp2.lt
        have l3 := bq2.lt
        have hz := b1.size
        have hz1 := y1.lt
        have m0 : p ≠ w.heap.size := by omega
        have m1 : p ≠ w.heap.size + 1 := by omega
        have m2 : q ≠ w.heap.size := by omega
        have m3 : q ≠ w.heap.size + 1 := by omega
        have BB := B1.trans (hb.mono B1.size)
        go_upto_region 10 with fail
        go_cut [4] (fun s wx => s = .bool true ∧ Box2 wx w.heap.size (loS l l.length) ∧ Box2 wx (w.heap.size + 1) (hiS l l.length) ∧ Below w.heap.size w wx)
        case first =>
          go_region
          all_goals
            go_wp2_with fail
            go_meet
            refine ⟨rfl, ⟨by go_simp, by go_simp, by go_simp, by go_simp⟩, ⟨by go_simp, by go_simp, by go_simp, by go_simp⟩, ?_⟩
            first
              | exact ((((BB.setCell (p := ⟨w.heap.size, 0, none⟩) (Nat.le_refl _) _).setCell (p := ⟨w.heap.size, 1, none⟩) (Nat.le_refl _) _).setCell (p := ⟨w.heap.size + 1, 0, none⟩) (Nat.le_succ _) _).setCell (p := ⟨w.heap.size + 1, 1, none⟩) (Nat.le_succ _) _).drew
              | exact ((((BB.setCell (p := ⟨w.heap.size + 1, 0, none⟩) (Nat.le_succ _) _).setCell (p := ⟨w.heap.size + 1, 1, none⟩) (Nat.le_succ _) _).setCell (p := ⟨w.heap.size, 0, none⟩) (Nat.le_refl _) _).setCell (p := ⟨w.heap.size, 1, none⟩) (Nat.le_refl _) _).drew
        case rest =>
          obtain ⟨rfl, f0, f1, hB⟩ := hcut
          go_wp2_with fail
          rw [hr.out.1, hr.out.2, Hc.out]
          refine Hfin.out _ (loS l l.length) (hiS l l.length) true hB f0 f1 _ ?_ ?_ ?_
          all_goals rfl
end Go.Proofs.Ytjbffahnbkpcnaa
