/- Contracts of FitFrame, in the program and in the reference. -/
import Derived.Test.YtjbffahnbkpcnaaFit
set_option linter.unusedSimpArgs false
set_option linter.unusedVariables false
namespace Go.Proofs.Ytjbffahnbkpcnaa
open Go.RowKit
/-- A frame in a box that may be written. -/
def BoxF (w : World) (b : Nat) (x y c r : Int) : Prop :=
  Box4 w b x y c r ∧ w.frozen? ⟨b, 0, none⟩ = false ∧ w.frozen? ⟨b, 1, none⟩ = false ∧ w.frozen? ⟨b, 2, none⟩ = false ∧ w.frozen? ⟨b, 3, none⟩ = false
theorem BoxF.keep {w w' : World} {b B : Nat} {x y c r : Int} (h : BoxF w b x y c r) (hb : Below B w w') (hB : w.heap.size ≤ B) : BoxF w' b x y c r := by
  have hl := h.1.lt
  obtain ⟨h0, h1, h2, h3, h4⟩ := h
  exact ⟨h0.keep hb hB, (hb.frozen (p := ⟨b, 0, none⟩) (show b < B by omega)).trans h1, (hb.frozen (p := ⟨b, 1, none⟩) (show b < B by omega)).trans h2, (hb.frozen (p := ⟨b, 2, none⟩) (show b < B by omega)).trans h3, (hb.frozen (p := ⟨b, 3, none⟩) (show b < B by omega)).trans h4⟩
theorem BoxF.set {w : World} {b : Nat} {x y c r : Int} (h : BoxF w b x y c r) (x2 y2 c2 r2 : Int) :
    Box4 ((((w.setCell ⟨b, 0, none⟩ (.int .i64 x2)).setCell ⟨b, 1, none⟩ (.int .i64 y2)).setCell ⟨b, 2, none⟩ (.int .i64 c2)).setCell ⟨b, 3, none⟩ (.int .i64 r2)) b x2 y2 c2 r2 := by
  have hl := h.1.lt
  obtain ⟨⟨h0, h1, h2, h3⟩, h4, h5, h6, h7⟩ := h
  exact ⟨by go_simp, by go_simp, by go_simp, by go_simp⟩
theorem below_al2 {B : Nat} {w w1 : World} (h : Below B w w1) (hB : B ≤ w1.heap.size) (o1 o2 : Obj) : Below B w ((w1.alloc o1).alloc o2) := (h.alloc hB o1).alloc (by simp; omega) o2
theorem below_al3 {B : Nat} {w w1 : World} (h : Below B w w1) (hB : B ≤ w1.heap.size) (o1 o2 o3 : Obj) : Below B w (((w1.alloc o1).alloc o2).alloc o3) := (below_al2 h hB o1 o2).alloc (by simp; omega) o3
theorem below_z4 {w w1 : World} (h : Below w.heap.size w w1) (u0 u1 u2 u3 : Value) : Below w.heap.size w ((((w1.setCell ⟨w.heap.size, 0, none⟩ u0).setCell ⟨w.heap.size, 1, none⟩ u1).setCell ⟨w.heap.size, 2, none⟩ u2).setCell ⟨w.heap.size, 3, none⟩ u3) :=
  (((h.setCell (p := ⟨w.heap.size, 0, none⟩) (Nat.le_refl _) _).setCell (p := ⟨w.heap.size, 1, none⟩) (Nat.le_refl _) _).setCell (p := ⟨w.heap.size, 2, none⟩) (Nat.le_refl _) _).setCell (p := ⟨w.heap.size, 3, none⟩) (Nat.le_refl _) _
def fitX (l : List Spt) : Int := (loS l l.length).x / 8 * 8
def fitY (l : List Spt) : Int := (loS l l.length).y / 8 * 8
def fitC (l : List Spt) : Int := ((hiS l l.length).x - fitX l) / 8 + 1
def fitR (l : List Spt) : Int := ((hiS l l.length).y - fitY l) / 8 + 1
def fitOk (l : List Spt) : Bool := isChart l && isFrm (fitX l) (fitY l) (fitC l) (fitR l)
/-- What FitFrame returns. -/
structure Fr4 where
  x : Int
  y : Int
  c : Int
  r : Int
def rFit (l : List Spt) : Fr4 := if fitOk l then ⟨fitX l, fitY l, fitC l, fitR l⟩ else ⟨0, 0, 0, 0⟩
theorem fitOk_no1 {l : List Spt} (h : isChart l = false) : fitOk l = false := by unfold fitOk; rw [h]; rfl
theorem fitOk_no2 {l : List Spt} (h : isFrm (fitX l) (fitY l) (fitC l) (fitR l) = false) : fitOk l = false := by unfold fitOk; rw [h]; simp
theorem fitOk_yes {l : List Spt} (h1 : isChart l = true) (h : isFrm (fitX l) (fitY l) (fitC l) (fitR l) = true) : fitOk l = true := by unfold fitOk; rw [h1, h]; rfl
theorem rFit_no {l : List Spt} (h : fitOk l = false) : rFit l = ⟨0, 0, 0, 0⟩ := by unfold rFit; rw [h]; rfl
theorem rFit_yes {l : List Spt} (h : fitOk l = true) : rFit l = ⟨fitX l, fitY l, fitC l, fitR l⟩ := by unfold rFit; rw [h]; rfl
set_option maxRecDepth 100000 in
set_option maxHeartbeats 12800000 in
theorem implFit (v : Value) (l : List Spt) (w : World) (h : RowAt sptRec w v l) :
    Calls Try.prog 32 #[v] w fun e w' => e = .returned (.tuple #[.agg #[.int .i64 (rFit l).x, .int .i64 (rFit l).y, .int .i64 (rFit l).c, .int .i64 (rFit l).r], .bool (fitOk l)]) ∧ Below w.heap.size w w' := by
  obtain ⟨A, c, rfl, hnc, hc63⟩ := h.shape
  have hb0 := fun o => (Below.refl w.heap.size w).alloc (Nat.le_refl _) o
  have Hb0 := Lib.hid hb0
  clear hb0
  have hfin : ∀ (W' : World) (x y c r : Int) (k : Bool), Below w.heap.size w W' → Box4 W' w.heap.size x y c r →
      ∀ tm : Array Value, tm[2]? = some (.pointer (some ⟨w.heap.size, 0, none⟩)) → tm[3]? = some (.bool k) →
      bodyPost Try.prog Try.f32 (fun e w' => e = .returned (.tuple #[.agg #[.int .i64 x, .int .i64 y, .int .i64 c, .int .i64 r], .bool k]) ∧ Below w.heap.size w w') Exit.ret ⟨tm, []⟩ W' := by
    intro W' x y c r k hW hp tm t2 t3
    obtain ⟨p0, p1, p2, p3⟩ := hp
    exact bodyPost_ret (v := .tuple #[.agg #[.int .i64 x, .int .i64 y, .int .i64 c, .int .i64 r], .bool k]) (by simp [results, Try.results32, go_sem, p0, p1, p2, p3, t2, t3]) rfl ⟨rfl, hW⟩
  have Hfin := Lib.hid hfin
  clear hfin
  go_enter Try.func32, Try.ntmps32
  go_upto_region 0 with fail
  go_cut [2, 3] (fun s u wx => s = .pointer (some ⟨w.heap.size, 0, none⟩) ∧ u = .bool false ∧ BoxF wx w.heap.size 0 0 0 0 ∧ Below w.heap.size w wx)
  case first =>
    go_wp2_with fail
    go_meet
    exact ⟨rfl, rfl, ⟨⟨by go_simp, by go_simp, by go_simp, by go_simp⟩, by go_simp, by go_simp, by go_simp, by go_simp⟩, Hb0.out _⟩
  case rest =>
  obtain ⟨rfl, rfl, z0, B0⟩ := hcut
  obtain ⟨w0, hw0⟩ : ∃ w0 : World, w0 = wc := ⟨_, rfl⟩
  subst hw0
  cases hc : isChart l
  case false =>
    have hr := Lib.hid (fitOk_no1 hc)
    go_wp2_with fail
    refine (implBounds _ l _ (h.below B0 (Nat.le_refl _))).mono ?_; rintro e w1 ⟨rfl, b1⟩
    have B1 := B0.trans (b1.mono B0.size)
    have z1 := z0.keep b1 (Nat.le_refl _)
    have hz := z1
    obtain ⟨⟨q0, q1, q2, q3⟩, q4, q5, q6, q7⟩ := hz
    have hl0 := z1.1.lt
    go_wp2_with fail
    rw [hr.out, rFit_no hr.out]
    refine Hfin.out _ 0 0 0 0 false ?_ ?_ _ ?_ ?_
    · exact below_al2 (below_z4 B1 _ _ _ _) (by simpa using B1.size) _ _
    · exact (z1.set 0 0 0 0).keep (below_al2 (Below.refl _ _) (Nat.le_refl _) _ _) (Nat.le_refl _)
    · rfl
    · rfl
  case true =>
    have hbd := lohi_bd hc l.length (Nat.le_refl _)
    obtain ⟨k1, k2, k3, k4, k5, k6⟩ := hbd
    have e1 := Lib.hid (rLo_yes hc)
    have Hc := Lib.hid hc
    go_wp2_with fail
    refine (implBounds _ l _ (h.below B0 (Nat.le_refl _))).mono ?_; rintro e w1 ⟨he, b1⟩
    rw [e1.out.1, e1.out.2, Hc.out] at he
    subst he
    have B1 := B0.trans (b1.mono B0.size)
    have z1 := z0.keep b1 (Nat.le_refl _)
    have f1 : 0 ≤ (loS l l.length).x / 8 * 8 := by omega
    have f2 : (loS l l.length).x / 8 * 8 ≤ 1280 := by omega
    have f3 : 0 ≤ (loS l l.length).y / 8 * 8 := by omega
    have f4 : (loS l l.length).y / 8 * 8 ≤ 672 := by omega
    have f5 : 0 ≤ (hiS l l.length).x - (loS l l.length).x / 8 * 8 := by omega
    have f6 : (hiS l l.length).x - (loS l l.length).x / 8 * 8 ≤ 1280 := by omega
    have f7 : 0 ≤ (hiS l l.length).y - (loS l l.length).y / 8 * 8 := by omega
    have f8 : (hiS l l.length).y - (loS l l.length).y / 8 * 8 ≤ 672 := by omega
    have g1 : 0 ≤ (loS l l.length).x := by omega
    have g2 : 0 ≤ (loS l l.length).y := by omega
    have hs1 := b1.size
    have hl0 := z1.1.lt
    go_upto_region 6 with fail
    clear hc
    go_cut [7] (fun s wx => ∃ b : Nat, s = .pointer (some ⟨b, 0, none⟩) ∧ Box4 wx b (fitX l) (fitY l) (fitC l) (fitR l) ∧ BoxF wx w.heap.size 0 0 0 0 ∧ Below w.heap.size w wx)
    case first =>
      go_wp2_with fail
      go_meet
      refine ⟨_, rfl, ⟨?_, ?_, ?_, ?_⟩, ?_, ?_⟩
      · unfold fitX; go_simp
      · unfold fitY; go_simp
      · unfold fitC fitX; go_simp
      · unfold fitR fitY; go_simp
      · exact z1.keep (below_al3 (Below.refl w1.heap.size w1) (Nat.le_refl _) _ _ _) (Nat.le_refl _)
      · exact below_al3 B1 B1.size _ _ _
    case rest =>
      obtain ⟨b, rfl, bx, z2, B2⟩ := hcut
      obtain ⟨w2, hw2⟩ : ∃ w2 : World, w2 = wc := ⟨_, rfl⟩
      subst hw2
      have hbx := bx.out
      obtain ⟨c0, c1, c2, c3⟩ := hbx
      cases hf : isFrm (fitX l) (fitY l) (fitC l) (fitR l)
      case false =>
        have hr := Lib.hid (fitOk_no2 hf)
        go_wp2_with fail
        refine (implIsFrameOf _ _ _ _ _).mono ?_; rintro e w3 ⟨rfl, b3⟩
        have B3 := B2.trans (b3.mono B2.size)
        have z3 := z2.keep b3 (Nat.le_refl _)
        have hz := z3
        obtain ⟨⟨q0, q1, q2, q3⟩, q4, q5, q6, q7⟩ := hz
        go_wp2_with fail
        rw [hr.out, rFit_no hr.out]
        refine Hfin.out _ 0 0 0 0 false ?_ ?_ _ ?_ ?_
        · exact below_z4 B3 _ _ _ _
        · exact z3.set 0 0 0 0
        · rfl
        · rfl
      case true =>
        have hr := Lib.hid (fitOk_yes Hc.out hf)
        go_wp2_with fail
        refine (implIsFrameOf _ _ _ _ _).mono ?_; rintro e w3 ⟨rfl, b3⟩
        have B3 := B2.trans (b3.mono B2.size)
        have z3 := z2.keep b3 (Nat.le_refl _)
        have x3 := (bx.keep b3 (Nat.le_refl _)).out
        obtain ⟨d0, d1, d2, d3⟩ := x3
        have hz := z3
        obtain ⟨⟨q0, q1, q2, q3⟩, q4, q5, q6, q7⟩ := hz
        go_wp2_with fail
        rw [hr.out, rFit_yes hr.out]
        refine Hfin.out _ (fitX l) (fitY l) (fitC l) (fitR l) true ?_ ?_ _ ?_ ?_
        · exact below_z4 B3 _ _ _ _
        · exact z3.set _ _ _ _
        · rfl
        · rfl
set_option maxRecDepth 100000 in
set_option maxHeartbeats 12800000 in
theorem specFit (v : Value) (l : List Spt) (w : World) (h : RowAt sptRec w v l) :
    Calls Try.prog 33 #[v] w fun e w' => e = .returned (.tuple #[.agg #[.int .i64 (rFit l).x, .int .i64 (rFit l).y, .int .i64 (rFit l).c, .int .i64 (rFit l).r], .bool (fitOk l)]) ∧ Below w.heap.size w w' := by
  obtain ⟨A, c, rfl, hnc, hc63⟩ := h.shape
  have hb0 := fun o => (Below.refl w.heap.size w).alloc (Nat.le_refl _) o
  have Hb0 := Lib.hid hb0
  clear hb0
  have hfin : ∀ (W' : World) (x y c r : Int) (k : Bool), Below w.heap.size w W' → Box4 W' w.heap.size x y c r →
      ∀ tm : Array Value, tm[2]? = some (.pointer (some ⟨w.heap.size, 0, none⟩)) → tm[3]? = some (.bool k) →
      bodyPost Try.prog Try.f33 (fun e w' => e = .returned (.tuple #[.agg #[.int .i64 x, .int .i64 y, .int .i64 c, .int .i64 r], .bool k]) ∧ Below w.heap.size w w') Exit.ret ⟨tm, []⟩ W' := by
    intro W' x y c r k hW hp tm t2 t3
    obtain ⟨p0, p1, p2, p3⟩ := hp
    exact bodyPost_ret (v := .tuple #[.agg #[.int .i64 x, .int .i64 y, .int .i64 c, .int .i64 r], .bool k]) (by simp [results, Try.results33, go_sem, p0, p1, p2, p3, t2, t3]) rfl ⟨rfl, hW⟩
  have Hfin := Lib.hid hfin
  clear hfin
  go_enter Try.func33, Try.ntmps33
  go_upto_region 0 with fail
  go_cut [2, 3] (fun s u wx => s = .pointer (some ⟨w.heap.size, 0, none⟩) ∧ u = .bool false ∧ BoxF wx w.heap.size 0 0 0 0 ∧ Below w.heap.size w wx)
  case first =>
    go_wp2_with fail
    go_meet
    exact ⟨rfl, rfl, ⟨⟨by go_simp, by go_simp, by go_simp, by go_simp⟩, by go_simp, by go_simp, by go_simp, by go_simp⟩, Hb0.out _⟩
  case rest =>
  obtain ⟨rfl, rfl, z0, B0⟩ := hcut
  obtain ⟨w0, hw0⟩ : ∃ w0 : World, w0 = wc := ⟨_, rfl⟩
  subst hw0
  cases hc : isChart l
  case false =>
    have hr := Lib.hid (fitOk_no1 hc)
    go_wp2_with fail
    refine (chGood_any _ l _ (h.below B0 (Nat.le_refl _))).mono ?_; rintro e w5 ⟨rfl, b5⟩
    have B5 := B0.trans (b5.mono B0.size)
    have z5 := z0.keep b5 (Nat.le_refl _)
    have hz := z5
    obtain ⟨⟨q0, q1, q2, q3⟩, q4, q5, q6, q7⟩ := hz
    go_wp2_with fail
    rw [hr.out, rFit_no hr.out]
    refine Hfin.out _ 0 0 0 0 false ?_ ?_ _ ?_ ?_
    · exact below_z4 B5 _ _ _ _
    · exact z5.set 0 0 0 0
    · rfl
    · rfl
  case true =>
    have hbd := lohi_bd hc l.length (Nat.le_refl _)
    obtain ⟨k1, k2, k3, k4, k5, k6⟩ := hbd
    have e1 := Lib.hid (rLo_yes hc)
    have Hc := Lib.hid hc
    go_wp2_with fail
    refine (chGood_any _ l _ (h.below B0 (Nat.le_refl _))).mono ?_; rintro e w5 ⟨rfl, b5⟩
    have B5 := B0.trans (b5.mono B0.size)
    have z5 := z0.keep b5 (Nat.le_refl _)
    go_wp2_with fail
    refine (specBounds _ l _ (h.below B5 (Nat.le_refl _))).mono ?_; rintro e w1 ⟨he, b1⟩
    rw [e1.out.1, e1.out.2, Hc.out] at he
    subst he
    have B1 := B5.trans (b1.mono B5.size)
    have z1 := z5.keep b1 (Nat.le_refl _)
    have f1 : 0 ≤ (loS l l.length).x / 8 * 8 := by omega
    have f2 : (loS l l.length).x / 8 * 8 ≤ 1280 := by omega
    have f3 : 0 ≤ (loS l l.length).y / 8 * 8 := by omega
    have f4 : (loS l l.length).y / 8 * 8 ≤ 672 := by omega
    have f5 : 0 ≤ (hiS l l.length).x - (loS l l.length).x / 8 * 8 := by omega
    have f6 : (hiS l l.length).x - (loS l l.length).x / 8 * 8 ≤ 1280 := by omega
    have f7 : 0 ≤ (hiS l l.length).y - (loS l l.length).y / 8 * 8 := by omega
    have f8 : (hiS l l.length).y - (loS l l.length).y / 8 * 8 ≤ 672 := by omega
    have g1 : 0 ≤ (loS l l.length).x := by omega
    have g2 : 0 ≤ (loS l l.length).y := by omega
    have hs1 := b1.size
    have hl0 := z1.1.lt
    go_upto_region 6 with fail
    clear hc
    go_cut [7] (fun s wx => ∃ b : Nat, s = .pointer (some ⟨b, 0, none⟩) ∧ Box4 wx b (fitX l) (fitY l) (fitC l) (fitR l) ∧ BoxF wx w.heap.size 0 0 0 0 ∧ Below w.heap.size w wx)
    case first =>
      go_wp2_with fail
      go_meet
      refine ⟨_, rfl, ⟨?_, ?_, ?_, ?_⟩, ?_, ?_⟩
      · unfold fitX; go_simp
      · unfold fitY; go_simp
      · unfold fitC fitX; go_simp
      · unfold fitR fitY; go_simp
      · exact z1.keep (below_al3 (Below.refl w1.heap.size w1) (Nat.le_refl _) _ _ _) (Nat.le_refl _)
      · exact below_al3 B1 B1.size _ _ _
    case rest =>
      obtain ⟨b, rfl, bx, z2, B2⟩ := hcut
      obtain ⟨w2, hw2⟩ : ∃ w2 : World, w2 = wc := ⟨_, rfl⟩
      subst hw2
      have hbx := bx.out
      obtain ⟨c0, c1, c2, c3⟩ := hbx
      cases hf : isFrm (fitX l) (fitY l) (fitC l) (fitR l)
      case false =>
        have hr := Lib.hid (fitOk_no2 hf)
        go_wp2_with fail
        refine (vwFrame_any _ _ _ _ _).mono ?_; rintro e w3 ⟨rfl, b3⟩
        have B3 := B2.trans (b3.mono B2.size)
        have z3 := z2.keep b3 (Nat.le_refl _)
        have hz := z3
        obtain ⟨⟨q0, q1, q2, q3⟩, q4, q5, q6, q7⟩ := hz
        go_wp2_with fail
        rw [hr.out, rFit_no hr.out]
        refine Hfin.out _ 0 0 0 0 false ?_ ?_ _ ?_ ?_
        · exact below_z4 B3 _ _ _ _
        · exact z3.set 0 0 0 0
        · rfl
        · rfl
      case true =>
        have hr := Lib.hid (fitOk_yes Hc.out hf)
        go_wp2_with fail
        refine (vwFrame_any _ _ _ _ _).mono ?_; rintro e w3 ⟨rfl, b3⟩
        have B3 := B2.trans (b3.mono B2.size)
        have z3 := z2.keep b3 (Nat.le_refl _)
        have x3 := (bx.keep b3 (Nat.le_refl _)).out
        obtain ⟨d0, d1, d2, d3⟩ := x3
        have hz := z3
        obtain ⟨⟨q0, q1, q2, q3⟩, q4, q5, q6, q7⟩ := hz
        go_wp2_with fail
        rw [hr.out, rFit_yes hr.out]
        refine Hfin.out _ (fitX l) (fitY l) (fitC l) (fitR l) true ?_ ?_ _ ?_ ?_
        · exact below_z4 B3 _ _ _ _
        · exact z3.set _ _ _ _
        · rfl
        · rfl
end Go.Proofs.Ytjbffahnbkpcnaa
