/- Contracts of MovedCells, in the program and in the reference. -/
import Derived.Test.YtjbffahnbkpcnaaChartI
import Derived.Test.YtjbffahnbkpcnaaCell
import Derived.Deep.DeepCutAuto
set_option linter.unusedSimpArgs false
set_option linter.unusedVariables false
namespace Go.Proofs.Ytjbffahnbkpcnaa
open Go.RowKit

/-- A frame in a box. -/
def Box4 (w : World) (b : Nat) (x y c r : Int) : Prop :=
  w.cell? ⟨b, 0, none⟩ = some (.int .i64 x) ∧ w.cell? ⟨b, 1, none⟩ = some (.int .i64 y) ∧ w.cell? ⟨b, 2, none⟩ = some (.int .i64 c) ∧ w.cell? ⟨b, 3, none⟩ = some (.int .i64 r)
theorem Box4.out {w : World} {b : Nat} {x y c r : Int} (h : Box4 w b x y c r) : w.cell? ⟨b, 0, none⟩ = some (.int .i64 x) ∧ w.cell? ⟨b, 1, none⟩ = some (.int .i64 y) ∧ w.cell? ⟨b, 2, none⟩ = some (.int .i64 c) ∧ w.cell? ⟨b, 3, none⟩ = some (.int .i64 r) := h
theorem Box4.keep {w w' : World} {b B : Nat} {x y c r : Int} (h : Box4 w b x y c r) (hb : Below B w w') (hB : w.heap.size ≤ B) : Box4 w' b x y c r := by
  obtain ⟨h0, h1, h2, h3⟩ := h
  exact ⟨Below.keepC hb h0 hB, Below.keepC hb h1 hB, Below.keepC hb h2 hB, Below.keepC hb h3 hB⟩
theorem Box4.lt {w : World} {b : Nat} {x y c r : Int} (h : Box4 w b x y c r) : b < w.heap.size := World.block_lt_of_cell? w _ h.1
def isPair (a b : List Spt) : Bool := isChart a && isChart b && decide (a.length = b.length)
theorem isPair_t {a b : List Spt} (h : isPair a b = true) : isChart a = true ∧ isChart b = true ∧ a.length = b.length := by
  unfold isPair at h
  simp only [Bool.and_eq_true] at h
  exact ⟨h.1.1, h.1.2, of_decide_eq_true h.2⟩
theorem len_beq (a b : List Spt) : ((a.length : Int) == (b.length : Int)) = decide (a.length = b.length) := by
  rw [Bool.eq_iff_iff, decide_eq_true_iff, beq_iff_eq]; omega
theorem chPair_any (va vb : Value) (a b : List Spt) (w : World) (hA : RowAt sptRec w va a) (hB : RowAt sptRec w vb b) :
    Calls Try.prog 67 #[va, vb] w fun e w' => e = .returned (.bool (isPair a b)) ∧ Below w.heap.size w w' := by
  obtain ⟨A, c, rfl, hnc, hc63⟩ := hA.shape
  obtain ⟨B, d, rfl, hnd, hd63⟩ := hB.shape
  cases h1 : isChart a
  · have hr : Hid (isPair a b = false) := by show _ = _; unfold isPair; rw [h1]; rfl
    go_enter Try.func67, Try.ntmps67
    go_wp2_with fail
    refine (chGood_any _ a _ hA).mono ?_; rintro e w1 ⟨rfl, b1⟩
    go_wp2_with fail
    go_ret
    exact ⟨ret_bool hr.out.symm, b1⟩
  cases h2 : isChart b
  · have hr : Hid (isPair a b = false) := by show _ = _; unfold isPair; rw [h1, h2]; rfl
    go_enter Try.func67, Try.ntmps67
    go_wp2_with fail
    refine (chGood_any _ a _ hA).mono ?_; rintro e w1 ⟨rfl, b1⟩
    have hB1 := hB.below b1 (Nat.le_refl _)
    go_wp2_with fail
    refine (chGood_any _ b _ hB1).mono ?_; rintro e w2 ⟨rfl, b2⟩
    go_wp2_with fail
    go_ret
    exact ⟨ret_bool hr.out.symm, b1.next (Nat.le_refl _) b2⟩
  · have hr : Hid (isPair a b = ((a.length : Int) == (b.length : Int))) := by show _ = _; unfold isPair; rw [h1, h2, len_beq]; rfl
    go_enter Try.func67, Try.ntmps67
    go_wp2_with fail
    refine (chGood_any _ a _ hA).mono ?_; rintro e w1 ⟨rfl, b1⟩
    have hB1 := hB.below b1 (Nat.le_refl _)
    go_wp2_with fail
    refine (chGood_any _ b _ hB1).mono ?_; rintro e w2 ⟨rfl, b2⟩
    cases h3 : ((a.length : Int) == (b.length : Int))
    all_goals
      rw [h3] at hr
      go_wp2_with fail
      go_ret
      exact ⟨ret_bool hr.out.symm, b1.next (Nat.le_refl _) b2⟩
theorem isPair_no1 {a b : List Spt} (h : isChart a = false) : isPair a b = false := by unfold isPair; rw [h]; rfl
theorem isPair_no2 {a b : List Spt} (h : isChart b = false) : isPair a b = false := by unfold isPair; rw [h]; simp
theorem isPair_eq {a b : List Spt} (h1 : isChart a = true) (h2 : isChart b = true) : isPair a b = !((a.length : Int) != (b.length : Int)) := by
  unfold isPair; rw [h1, h2, bne, len_beq]; simp
def mvAt (fx fy fc fr : Int) (a b : Spt) : Bool :=
  (cellAt fx fy fc fr a.x a.y).2.2 && (cellAt fx fy fc fr b.x b.y).2.2 && (((cellAt fx fy fc fr a.x a.y).1 != (cellAt fx fy fc fr b.x b.y).1) || ((cellAt fx fy fc fr a.x a.y).2.1 != (cellAt fx fy fc fr b.x b.y).2.1))
def mvN (fx fy fc fr : Int) (a b : List Spt) : Nat → Int
  | 0 => 0
  | k + 1 => mvN fx fy fc fr a b k + if mvAt fx fy fc fr (gx sptRec a k) (gx sptRec b k) then 1 else 0
theorem mvN_bd (fx fy fc fr : Int) (a b : List Spt) (k : Nat) : 0 ≤ mvN fx fy fc fr a b k ∧ mvN fx fy fc fr a b k ≤ k := by
  induction k with
  | zero => exact ⟨Int.le_refl _, Int.le_refl _⟩
  | succ k ih => unfold mvN; split <;> omega
theorem mvN_t {fx fy fc fr : Int} {a b : List Spt} {k : Nat} (h : mvAt fx fy fc fr (gx sptRec a k) (gx sptRec b k) = true) : mvN fx fy fc fr a b (k + 1) = mvN fx fy fc fr a b k + 1 := by
  conv => lhs; unfold mvN
  rw [if_pos h]
theorem mvN_f {fx fy fc fr : Int} {a b : List Spt} {k : Nat} (h : mvAt fx fy fc fr (gx sptRec a k) (gx sptRec b k) = false) : mvN fx fy fc fr a b (k + 1) = mvN fx fy fc fr a b k := by
  conv => lhs; unfold mvN
  rw [if_neg (by rw [h]; decide), Int.add_zero]
/-- What MovedCells returns. -/
def rMoved (fx fy fc fr : Int) (a b : List Spt) : Int × Bool := if isFrm fx fy fc fr && isPair a b then (mvN fx fy fc fr a b a.length, true) else (0, false)
theorem rMoved_no1 {fx fy fc fr : Int} {a b : List Spt} (h : isFrm fx fy fc fr = false) : rMoved fx fy fc fr a b = (0, false) := by unfold rMoved; rw [h]; rfl
theorem rMoved_no2 {fx fy fc fr : Int} {a b : List Spt} (h : isPair a b = false) : rMoved fx fy fc fr a b = (0, false) := by unfold rMoved; rw [h]; simp
theorem rMoved_yes {fx fy fc fr : Int} {a b : List Spt} (h1 : isFrm fx fy fc fr = true) (h2 : isPair a b = true) : rMoved fx fy fc fr a b = (mvN fx fy fc fr a b a.length, true) := by unfold rMoved; rw [h1, h2]; rfl
def CellRel (fx fy fc fr : Int) (a : Spt) (s t u : Value) : Prop := ∃ (x y : Int) (o : Bool), s = .int .i64 x ∧ t = .int .i64 y ∧ u = .bool o ∧ cellAt fx fy fc fr a.x a.y = (x, y, o)
theorem CellRel.out {fx fy fc fr : Int} {a : Spt} {s t u : Value} (h : CellRel fx fy fc fr a s t u) : ∃ (x y : Int) (o : Bool), s = .int .i64 x ∧ t = .int .i64 y ∧ u = .bool o ∧ cellAt fx fy fc fr a.x a.y = (x, y, o) := h
set_option maxRecDepth 100000 in
set_option maxHeartbeats 6400000 in
theorem implMoved (va vb : Value) (a b : List Spt) (fx fy fc fr : Int) (w : World) (hA : RowAt sptRec w va a) (hB : RowAt sptRec w vb b) :
    Calls Try.prog 35 #[.agg #[.int .i64 fx, .int .i64 fy, .int .i64 fc, .int .i64 fr], va, vb] w fun e w' => e = .returned (.tuple #[.int .i64 (rMoved fx fy fc fr a b).1, .bool (rMoved fx fy fc fr a b).2]) ∧ Below w.heap.size w w' := by
  obtain ⟨A, ca, rfl, hnA, hcA⟩ := hA.shape
  obtain ⟨B, cb, rfl, hnB, hcB⟩ := hB.shape
  have hb0 := fun o => (Below.refl w.heap.size w).alloc (Nat.le_refl _) o
  have Hb0 := Lib.hid hb0
  clear hb0
  go_enter Try.func35, Try.ntmps35
  go_upto_region 0 with fail
  go_cut [3, 6, 7] (fun b3 r6 r7 wx => b3 = .pointer (some ⟨w.heap.size, 0, none⟩) ∧ r6 = .int .i64 0 ∧ r7 = .bool false ∧ Box4 wx w.heap.size fx fy fc fr ∧ Below w.heap.size w wx)
  case first =>
    go_wp2_with fail
    go_meet
    exact ⟨rfl, rfl, rfl, ⟨by go_simp, by go_simp, by go_simp, by go_simp⟩, Hb0.out _⟩
  case rest =>
    obtain ⟨rfl, rfl, rfl, bx0, B0⟩ := hcut
    obtain ⟨w0, hw0⟩ : ∃ w0 : World, w0 = wc := ⟨_, rfl⟩
    subst hw0
    have hc := bx0.out
    obtain ⟨c0, c1, c2, c3⟩ := hc
    cases hf : isFrm fx fy fc fr
    case false =>
      have hr := Lib.hid (rMoved_no1 (a := a) (b := b) hf)
      go_wp2_with fail
      refine (implIsFrameOf fx fy fc fr _).mono ?_; rintro e w1 ⟨rfl, b1⟩
      have B1 := B0.trans (b1.mono B0.size)
      go_wp2_with fail
      go_ret2
      exact ⟨by rw [hr.out]; rfl, B1⟩
    case true =>
      have Hf := Lib.hid hf
      cases h1 : isChart a
      case false =>
        have hr := Lib.hid (rMoved_no2 (fx := fx) (fy := fy) (fc := fc) (fr := fr) (isPair_no1 (b := b) h1))
        go_wp2_with fail
        refine (implIsFrameOf fx fy fc fr _).mono ?_; rintro e w1 ⟨rfl, b1⟩
        have B1 := B0.trans (b1.mono B0.size)
        have h2 := (hA).below B1 (Nat.le_refl _)
        go_wp2_with fail
        refine (implIsChart _ a _ h2).mono ?_; rintro e w2 ⟨rfl, b2⟩
        have B2 := B1.trans (b2.mono B1.size)
        go_wp2_with fail
        go_ret2
        exact ⟨by rw [hr.out]; rfl, B2⟩
      case true =>
        cases h2 : isChart b
        case false =>
          have hr := Lib.hid (rMoved_no2 (fx := fx) (fy := fy) (fc := fc) (fr := fr) (isPair_no2 (a := a) h2))
          go_wp2_with fail
          refine (implIsFrameOf fx fy fc fr _).mono ?_; rintro e w1 ⟨rfl, b1⟩
          have B1 := B0.trans (b1.mono B0.size)
          have h2 := (hA).below B1 (Nat.le_refl _)
          go_wp2_with fail
          refine (implIsChart _ a _ h2).mono ?_; rintro e w2 ⟨rfl, b2⟩
          have B2 := B1.trans (b2.mono B1.size)
          have h3 := (hB).below B2 (Nat.le_refl _)
          go_wp2_with fail
          refine (implIsChart _ b _ h3).mono ?_; rintro e w3 ⟨rfl, b3⟩
          have B3 := B2.trans (b3.mono B2.size)
          go_wp2_with fail
          go_ret2
          exact ⟨by rw [hr.out]; rfl, B3⟩
        case true =>
          have hpe := isPair_eq h1 h2
          cases hl : ((a.length : Int) != (b.length : Int))
          case true =>
            have hr := Lib.hid (rMoved_no2 (fx := fx) (fy := fy) (fc := fc) (fr := fr) (show isPair a b = false by rw [hpe, hl]; rfl))
            clear hpe
            go_wp2_with fail
            refine (implIsFrameOf fx fy fc fr _).mono ?_; rintro e w1 ⟨rfl, b1⟩
            have B1 := B0.trans (b1.mono B0.size)
            have h2 := (hA).below B1 (Nat.le_refl _)
            go_wp2_with fail
            refine (implIsChart _ a _ h2).mono ?_; rintro e w2 ⟨rfl, b2⟩
            have B2 := B1.trans (b2.mono B1.size)
            have h3 := (hB).below B2 (Nat.le_refl _)
            go_wp2_with fail
            refine (implIsChart _ b _ h3).mono ?_; rintro e w3 ⟨rfl, b3⟩
            have B3 := B2.trans (b3.mono B2.size)
            go_wp2_with fail
            go_ret2
            exact ⟨by rw [hr.out]; rfl, B3⟩
          case false =>
            have hpp : isPair a b = true := by rw [hpe, hl]; rfl
            clear hpe
            have hr := Lib.hid (rMoved_yes hf hpp)
            have hpt := isPair_t hpp
            obtain ⟨g1, g2, g3⟩ := hpt
            have Ga := Lib.hid (chart_spot g1)
            have Gb := Lib.hid (chart_spot g2)
            have h12 := (isChart_t g1).2.1
            have Hl := Lib.hid g3
            clear g1 g2 g3
            go_wp2_with fail
            refine (implIsFrameOf fx fy fc fr _).mono ?_; rintro e w1 ⟨rfl, b1⟩
            have B1 := B0.trans (b1.mono B0.size)
            have h2 := (hA).below B1 (Nat.le_refl _)
            go_wp2_with fail
            refine (implIsChart _ a _ h2).mono ?_; rintro e w2 ⟨rfl, b2⟩
            have B2 := B1.trans (b2.mono B1.size)
            have h3 := (hB).below B2 (Nat.le_refl _)
            go_wp2_with fail
            refine (implIsChart _ b _ h3).mono ?_; rintro e w3 ⟨rfl, b3⟩
            have B3 := B2.trans (b3.mono B2.size)
            have BL := b1.next (Nat.le_refl _) b2
            have BM := BL.next (Nat.le_refl _) b3
            have bx1 := bx0.keep BM (Nat.le_refl _)
            have hA2 := hA.below B3 (Nat.le_refl _)
            have hB2 := hB.below B3 (Nat.le_refl _)
            clear c0 c1 c2 c3 bx0
            go_wp2_with fail
            clear hf hpp hl h1 h2
            go_loopg [8, 38] a.length (fun g s t wr => ∃ k : Nat, k ≤ a.length ∧ a.length ≤ k + g ∧ t = .int .i64 k ∧ s = .int .i64 (mvN fx fy fc fr a b k) ∧ Below w3.heap.size w3 wr)
            case atStart => exact ⟨0, Nat.zero_le _, by omega, rfl, rfl, Below.refl _ _⟩
            case round =>
              obtain ⟨k, hk, hkg, rfl, rfl, hb⟩ := hrel
              have hmv := mvN_bd fx fy fc fr a b k
              obtain ⟨mv0, mv1⟩ := hmv
              by_cases hlt : k < a.length
              · obtain ⟨ba, oa, rfl, ha0, ha1⟩ := spt_at (hA2.below hb (Nat.le_refl _)) k hlt
                obtain ⟨bb, ob, rfl, hb0, hb1⟩ := spt_at (hB2.below hb (Nat.le_refl _)) k (by have := Hl.out; omega)
                have hc := (bx1.keep hb (Nat.le_refl _)).out
                obtain ⟨c0, c1, c2, c3⟩ := hc
                have D0 := (Below.refl wr.heap.size wr).drew
                have hi0 : (0 : Int) ≤ (k : Int) := by omega
                have hi1 : (k : Int) < (a.length : Int) := by omega
                have hi2 : (k : Int) < (b.length : Int) := by have := Hl.out; omega
                have hi3 : k < b.length := by have := Hl.out; omega
                go_upto_region 7 with fail
                go_cut [10, 11, 12] (fun s t u wx => CellRel fx fy fc fr (gx sptRec a k) s t u ∧ Below wr.heap.size wr wx)
                case first =>
                  (first | (go_region_held3 (fun w' => w'.cell? ⟨w.heap.size, 0, none⟩ = some (.int .i64 fx) ∧ w'.cell? ⟨w.heap.size, 1, none⟩ = some (.int .i64 fy) ∧ w'.cell? ⟨w.heap.size, 2, none⟩ = some (.int .i64 fc) ∧ w'.cell? ⟨w.heap.size, 3, none⟩ = some (.int .i64 fr) ∧ w'.cell? ⟨ba, oa + k * 2, none⟩ = some (.int .i64 (gx sptRec a k).x) ∧ w'.cell? ⟨ba, oa + k * 2 + 1, none⟩ = some (.int .i64 (gx sptRec a k).y))
                    (first | go_keep | exact ⟨Below.keepC (D0.next (Nat.le_refl _) d9) c0 (Nat.le_refl _), Below.keepC (D0.next (Nat.le_refl _) d9) c1 (Nat.le_refl _), Below.keepC (D0.next (Nat.le_refl _) d9) c2 (Nat.le_refl _), Below.keepC (D0.next (Nat.le_refl _) d9) c3 (Nat.le_refl _), Below.keepC (D0.next (Nat.le_refl _) d9) ha0 (Nat.le_refl _), Below.keepC (D0.next (Nat.le_refl _) d9) ha1 (Nat.le_refl _)⟩)
                    ((go_at_call 44; refine (cellOf_any _ _ _ _ _ _ _ Hf.out (Ga.out k hlt)).mono ?_; rintro e w9 ⟨rfl, d9⟩))) | fail)
                  all_goals
                    go_wp2_with fail
                    go_meet
                    exact ⟨⟨_, _, _, rfl, rfl, rfl, rfl⟩, D0.next (Nat.le_refl _) d9⟩
                case rest =>
                  obtain ⟨hcr, d1⟩ := hcut
                  have hcr2 := hcr.out
                  obtain ⟨x1, y1, o1, rfl, rfl, rfl, e1⟩ := hcr2
                  have E1 := Lib.hid e1
                  clear e1 hcr
                  obtain ⟨W1, hW1⟩ : ∃ W1 : World, W1 = wc := ⟨_, rfl⟩
                  subst hW1
                  have c0n := Below.keepC d1 c0 (Nat.le_refl _)
                  have c1n := Below.keepC d1 c1 (Nat.le_refl _)
                  have c2n := Below.keepC d1 c2 (Nat.le_refl _)
                  have c3n := Below.keepC d1 c3 (Nat.le_refl _)
                  have hb0n := Below.keepC d1 hb0 (Nat.le_refl _)
                  have hb1n := Below.keepC d1 hb1 (Nat.le_refl _)
                  clear c0 c1 c2 c3 hb0 hb1 ha0 ha1
                  have D1 := (Below.refl W1.heap.size W1).drew
                  go_upto_region 8 with fail
                  go_cut [13, 14, 15] (fun s t u wx => CellRel fx fy fc fr (gx sptRec b k) s t u ∧ Below W1.heap.size W1 wx)
                  case first =>
                    (first | (go_region_held3 (fun w' => w'.cell? ⟨w.heap.size, 0, none⟩ = some (.int .i64 fx) ∧ w'.cell? ⟨w.heap.size, 1, none⟩ = some (.int .i64 fy) ∧ w'.cell? ⟨w.heap.size, 2, none⟩ = some (.int .i64 fc) ∧ w'.cell? ⟨w.heap.size, 3, none⟩ = some (.int .i64 fr) ∧ w'.cell? ⟨bb, ob + k * 2, none⟩ = some (.int .i64 (gx sptRec b k).x) ∧ w'.cell? ⟨bb, ob + k * 2 + 1, none⟩ = some (.int .i64 (gx sptRec b k).y))
                      (first | go_keep | exact ⟨Below.keepC (D1.next (Nat.le_refl _) d9) c0n (Nat.le_refl _), Below.keepC (D1.next (Nat.le_refl _) d9) c1n (Nat.le_refl _), Below.keepC (D1.next (Nat.le_refl _) d9) c2n (Nat.le_refl _), Below.keepC (D1.next (Nat.le_refl _) d9) c3n (Nat.le_refl _), Below.keepC (D1.next (Nat.le_refl _) d9) hb0n (Nat.le_refl _), Below.keepC (D1.next (Nat.le_refl _) d9) hb1n (Nat.le_refl _)⟩)
                      ((go_at_call 44; refine (cellOf_any _ _ _ _ _ _ _ Hf.out (Gb.out k hi3)).mono ?_; rintro e w9 ⟨rfl, d9⟩))) | fail)
                    all_goals
                      go_wp2_with fail
                      go_meet
                      exact ⟨⟨_, _, _, rfl, rfl, rfl, rfl⟩, D1.next (Nat.le_refl _) d9⟩
                  case rest =>
                    obtain ⟨hcr, d2⟩ := hcut
                    have hcr2 := hcr.out
                    obtain ⟨x2, y2, o2, rfl, rfl, rfl, e2⟩ := hcr2
                    have E2 := Lib.hid e2
                    clear e2 hcr
                    have hbN := (hb.next (Nat.le_refl _) d1).next (Nat.le_refl _) d2
                    have hm : Hid (mvAt fx fy fc fr (gx sptRec a k) (gx sptRec b k) = (o1 && o2 && ((x1 != x2) || (y1 != y2)))) := by show _ = _; unfold mvAt; rw [E1.out, E2.out]
                    clear c0n c1n c2n c3n hb0n hb1n D0 D1
                    cases o1
                    case false =>
                      have hs := Lib.hid (mvN_f (show mvAt fx fy fc fr (gx sptRec a k) (gx sptRec b k) = false by rw [hm.out]; rfl))
                      go_wp2_with fail
                      go_roundg (gk - 1)
                      case measure => omega
                      case rel => exact ⟨k + 1, by omega, by omega, by go_num, by rw [hs.out], hbN⟩
                    case true =>
                      cases o2
                      case false =>
                        have hs := Lib.hid (mvN_f (show mvAt fx fy fc fr (gx sptRec a k) (gx sptRec b k) = false by rw [hm.out]; rfl))
                        go_wp2_with fail
                        go_roundg (gk - 1)
                        case measure => omega
                        case rel => exact ⟨k + 1, by omega, by omega, by go_num, by rw [hs.out], hbN⟩
                      case true =>
                        cases q1 : (x1 != x2)
                        case true =>
                          have hs := Lib.hid (mvN_t (show mvAt fx fy fc fr (gx sptRec a k) (gx sptRec b k) = true by rw [hm.out, q1]; rfl))
                          go_wp2_with fail
                          go_roundg (gk - 1)
                          case measure => omega
                          case rel => exact ⟨k + 1, by omega, by omega, by go_num, by rw [hs.out], hbN⟩
                        case false =>
                          cases q2 : (y1 != y2)
                          case true =>
                            have hs := Lib.hid (mvN_t (show mvAt fx fy fc fr (gx sptRec a k) (gx sptRec b k) = true by rw [hm.out, q1, q2]; rfl))
                            go_wp2_with fail
                            go_roundg (gk - 1)
                            case measure => omega
                            case rel => exact ⟨k + 1, by omega, by omega, by go_num, by rw [hs.out], hbN⟩
                          case false =>
                            have hs := Lib.hid (mvN_f (show mvAt fx fy fc fr (gx sptRec a k) (gx sptRec b k) = false by rw [hm.out, q1, q2]; rfl))
                            go_wp2_with fail
                            go_roundg (gk - 1)
                            case measure => omega
                            case rel => exact ⟨k + 1, by omega, by omega, by go_num, by rw [hs.out], hbN⟩
              · obtain rfl : k = a.length := by omega
                go_wp2_with fail
                go_ret2
                exact ⟨by rw [hr.out]; rfl, B3.trans (hb.mono B3.size)⟩
set_option maxRecDepth 100000 in
set_option maxHeartbeats 6400000 in
theorem specMoved (va vb : Value) (a b : List Spt) (fx fy fc fr : Int) (w : World) (hA : RowAt sptRec w va a) (hB : RowAt sptRec w vb b) :
    Calls Try.prog 36 #[.agg #[.int .i64 fx, .int .i64 fy, .int .i64 fc, .int .i64 fr], va, vb] w fun e w' => e = .returned (.tuple #[.int .i64 (rMoved fx fy fc fr a b).1, .bool (rMoved fx fy fc fr a b).2]) ∧ Below w.heap.size w w' := by
  obtain ⟨A, ca, rfl, hnA, hcA⟩ := hA.shape
  obtain ⟨B, cb, rfl, hnB, hcB⟩ := hB.shape
  have hb0 := fun o => (Below.refl w.heap.size w).alloc (Nat.le_refl _) o
  have Hb0 := Lib.hid hb0
  clear hb0
  go_enter Try.func36, Try.ntmps36
  go_upto_region 0 with fail
  go_cut [3, 6, 7] (fun b3 r6 r7 wx => b3 = .pointer (some ⟨w.heap.size, 0, none⟩) ∧ r6 = .int .i64 0 ∧ r7 = .bool false ∧ Box4 wx w.heap.size fx fy fc fr ∧ Below w.heap.size w wx)
  case first =>
    go_wp2_with fail
    go_meet
    exact ⟨rfl, rfl, rfl, ⟨by go_simp, by go_simp, by go_simp, by go_simp⟩, Hb0.out _⟩
  case rest =>
    obtain ⟨rfl, rfl, rfl, bx0, B0⟩ := hcut
    obtain ⟨w0, hw0⟩ : ∃ w0 : World, w0 = wc := ⟨_, rfl⟩
    subst hw0
    have hc := bx0.out
    obtain ⟨c0, c1, c2, c3⟩ := hc
    cases hf : isFrm fx fy fc fr
    case false =>
      have hr := Lib.hid (rMoved_no1 (a := a) (b := b) hf)
      go_wp2_with fail
      refine (vwFrame_any fx fy fc fr _).mono ?_; rintro e w1 ⟨rfl, b1⟩
      have B1 := B0.trans (b1.mono B0.size)
      go_wp2_with fail
      go_ret2
      exact ⟨by rw [hr.out]; rfl, B1⟩
    case true =>
      have Hf := Lib.hid hf
      cases hpp : isPair a b
      case false =>
        have hr := Lib.hid (rMoved_no2 (fx := fx) (fy := fy) (fc := fc) (fr := fr) hpp)
        go_wp2_with fail
        refine (vwFrame_any fx fy fc fr _).mono ?_; rintro e w1 ⟨rfl, b1⟩
        have B1 := B0.trans (b1.mono B0.size)
        have hA1 := hA.below B1 (Nat.le_refl _)
        have hB1 := hB.below B1 (Nat.le_refl _)
        go_wp2_with fail
        refine (chPair_any _ _ a b _ hA1 hB1).mono ?_; rintro e w2 ⟨rfl, b2⟩
        have B2 := B1.trans (b2.mono B1.size)
        go_wp2_with fail
        go_ret2
        exact ⟨by rw [hr.out]; rfl, B2⟩
      case true =>
        have hr := Lib.hid (rMoved_yes hf hpp)
        have hpt := isPair_t hpp
        obtain ⟨g1, g2, g3⟩ := hpt
        have Ga := Lib.hid (chart_spot g1)
        have Gb := Lib.hid (chart_spot g2)
        have h12 := (isChart_t g1).2.1
        have Hl := Lib.hid g3
        clear g1 g2 g3
        go_wp2_with fail
        refine (vwFrame_any fx fy fc fr _).mono ?_; rintro e w1 ⟨rfl, b1⟩
        have B1 := B0.trans (b1.mono B0.size)
        have hA1 := hA.below B1 (Nat.le_refl _)
        have hB1 := hB.below B1 (Nat.le_refl _)
        go_wp2_with fail
        refine (chPair_any _ _ a b _ hA1 hB1).mono ?_; rintro e w2 ⟨rfl, b2⟩
        have B2 := B1.trans (b2.mono B1.size)
        have BL := b1.next (Nat.le_refl _) b2
        have bx1 := bx0.keep BL (Nat.le_refl _)
        have hA2 := hA.below B2 (Nat.le_refl _)
        have hB2 := hB.below B2 (Nat.le_refl _)
        clear c0 c1 c2 c3 bx0
        go_wp2_with fail
        clear hf hpp
        go_loopg [8, 27] a.length (fun g s t wr => ∃ k : Nat, k ≤ a.length ∧ a.length ≤ k + g ∧ t = .int .i64 k ∧ s = .int .i64 (mvN fx fy fc fr a b k) ∧ Below w2.heap.size w2 wr)
        case atStart => exact ⟨0, Nat.zero_le _, by omega, rfl, rfl, Below.refl _ _⟩
        case round =>
          obtain ⟨k, hk, hkg, rfl, rfl, hb⟩ := hrel
          have hmv := mvN_bd fx fy fc fr a b k
          obtain ⟨mv0, mv1⟩ := hmv
          by_cases hlt : k < a.length
          · obtain ⟨ba, oa, rfl, ha0, ha1⟩ := spt_at (hA2.below hb (Nat.le_refl _)) k hlt
            obtain ⟨bb, ob, rfl, hb0, hb1⟩ := spt_at (hB2.below hb (Nat.le_refl _)) k (by have := Hl.out; omega)
            have hc := (bx1.keep hb (Nat.le_refl _)).out
            obtain ⟨c0, c1, c2, c3⟩ := hc
            have D0 := (Below.refl wr.heap.size wr).drew
            have hi0 : (0 : Int) ≤ (k : Int) := by omega
            have hi1 : (k : Int) < (a.length : Int) := by omega
            have hi2 : (k : Int) < (b.length : Int) := by have := Hl.out; omega
            have hi3 : k < b.length := by have := Hl.out; omega
            go_upto_region 7 with fail
            go_cut [10, 11, 12] (fun s t u wx => CellRel fx fy fc fr (gx sptRec a k) s t u ∧ Below wr.heap.size wr wx)
            case first =>
              (first | (go_region_held3 (fun w' => w'.cell? ⟨w.heap.size, 0, none⟩ = some (.int .i64 fx) ∧ w'.cell? ⟨w.heap.size, 1, none⟩ = some (.int .i64 fy) ∧ w'.cell? ⟨w.heap.size, 2, none⟩ = some (.int .i64 fc) ∧ w'.cell? ⟨w.heap.size, 3, none⟩ = some (.int .i64 fr) ∧ w'.cell? ⟨ba, oa + k * 2, none⟩ = some (.int .i64 (gx sptRec a k).x) ∧ w'.cell? ⟨ba, oa + k * 2 + 1, none⟩ = some (.int .i64 (gx sptRec a k).y))
                (first | go_keep | exact ⟨Below.keepC (D0.next (Nat.le_refl _) d9) c0 (Nat.le_refl _), Below.keepC (D0.next (Nat.le_refl _) d9) c1 (Nat.le_refl _), Below.keepC (D0.next (Nat.le_refl _) d9) c2 (Nat.le_refl _), Below.keepC (D0.next (Nat.le_refl _) d9) c3 (Nat.le_refl _), Below.keepC (D0.next (Nat.le_refl _) d9) ha0 (Nat.le_refl _), Below.keepC (D0.next (Nat.le_refl _) d9) ha1 (Nat.le_refl _)⟩)
                ((go_at_call 46; refine (vwCell_any _ _ _ _ _ _ _ Hf.out (Ga.out k hlt)).mono ?_; rintro e w9 ⟨rfl, d9⟩))) | fail)
              all_goals
                go_wp2_with fail
                go_meet
                exact ⟨⟨_, _, _, rfl, rfl, rfl, rfl⟩, D0.next (Nat.le_refl _) d9⟩
            case rest =>
              obtain ⟨hcr, d1⟩ := hcut
              have hcr2 := hcr.out
              obtain ⟨x1, y1, o1, rfl, rfl, rfl, e1⟩ := hcr2
              have E1 := Lib.hid e1
              clear e1 hcr
              obtain ⟨W1, hW1⟩ : ∃ W1 : World, W1 = wc := ⟨_, rfl⟩
              subst hW1
              have c0n := Below.keepC d1 c0 (Nat.le_refl _)
              have c1n := Below.keepC d1 c1 (Nat.le_refl _)
              have c2n := Below.keepC d1 c2 (Nat.le_refl _)
              have c3n := Below.keepC d1 c3 (Nat.le_refl _)
              have hb0n := Below.keepC d1 hb0 (Nat.le_refl _)
              have hb1n := Below.keepC d1 hb1 (Nat.le_refl _)
              clear c0 c1 c2 c3 hb0 hb1 ha0 ha1
              have D1 := (Below.refl W1.heap.size W1).drew
              go_upto_region 8 with fail
              go_cut [13, 14, 15] (fun s t u wx => CellRel fx fy fc fr (gx sptRec b k) s t u ∧ Below W1.heap.size W1 wx)
              case first =>
                (first | (go_region_held3 (fun w' => w'.cell? ⟨w.heap.size, 0, none⟩ = some (.int .i64 fx) ∧ w'.cell? ⟨w.heap.size, 1, none⟩ = some (.int .i64 fy) ∧ w'.cell? ⟨w.heap.size, 2, none⟩ = some (.int .i64 fc) ∧ w'.cell? ⟨w.heap.size, 3, none⟩ = some (.int .i64 fr) ∧ w'.cell? ⟨bb, ob + k * 2, none⟩ = some (.int .i64 (gx sptRec b k).x) ∧ w'.cell? ⟨bb, ob + k * 2 + 1, none⟩ = some (.int .i64 (gx sptRec b k).y))
                  (first | go_keep | exact ⟨Below.keepC (D1.next (Nat.le_refl _) d9) c0n (Nat.le_refl _), Below.keepC (D1.next (Nat.le_refl _) d9) c1n (Nat.le_refl _), Below.keepC (D1.next (Nat.le_refl _) d9) c2n (Nat.le_refl _), Below.keepC (D1.next (Nat.le_refl _) d9) c3n (Nat.le_refl _), Below.keepC (D1.next (Nat.le_refl _) d9) hb0n (Nat.le_refl _), Below.keepC (D1.next (Nat.le_refl _) d9) hb1n (Nat.le_refl _)⟩)
                  ((go_at_call 46; refine (vwCell_any _ _ _ _ _ _ _ Hf.out (Gb.out k hi3)).mono ?_; rintro e w9 ⟨rfl, d9⟩))) | fail)
                all_goals
                  go_wp2_with fail
                  go_meet
                  exact ⟨⟨_, _, _, rfl, rfl, rfl, rfl⟩, D1.next (Nat.le_refl _) d9⟩
              case rest =>
                obtain ⟨hcr, d2⟩ := hcut
                have hcr2 := hcr.out
                obtain ⟨x2, y2, o2, rfl, rfl, rfl, e2⟩ := hcr2
                have E2 := Lib.hid e2
                clear e2 hcr
                have hbN := (hb.next (Nat.le_refl _) d1).next (Nat.le_refl _) d2
                have hm : Hid (mvAt fx fy fc fr (gx sptRec a k) (gx sptRec b k) = (o1 && o2 && ((x1 != x2) || (y1 != y2)))) := by show _ = _; unfold mvAt; rw [E1.out, E2.out]
                clear c0n c1n c2n c3n hb0n hb1n D0 D1
                cases o1
                case false =>
                  have hs := Lib.hid (mvN_f (show mvAt fx fy fc fr (gx sptRec a k) (gx sptRec b k) = false by rw [hm.out]; rfl))
                  go_wp2_with fail
                  go_roundg (gk - 1)
                  case measure => omega
                  case rel => exact ⟨k + 1, by omega, by omega, by go_num, by rw [hs.out], hbN⟩
                case true =>
                  cases o2
                  case false =>
                    have hs := Lib.hid (mvN_f (show mvAt fx fy fc fr (gx sptRec a k) (gx sptRec b k) = false by rw [hm.out]; rfl))
                    go_wp2_with fail
                    go_roundg (gk - 1)
                    case measure => omega
                    case rel => exact ⟨k + 1, by omega, by omega, by go_num, by rw [hs.out], hbN⟩
                  case true =>
                    cases q1 : (x1 != x2)
                    case true =>
                      have hs := Lib.hid (mvN_t (show mvAt fx fy fc fr (gx sptRec a k) (gx sptRec b k) = true by rw [hm.out, q1]; rfl))
                      go_wp2_with fail
                      go_roundg (gk - 1)
                      case measure => omega
                      case rel => exact ⟨k + 1, by omega, by omega, by go_num, by rw [hs.out], hbN⟩
                    case false =>
                      cases q2 : (y1 != y2)
                      case true =>
                        have hs := Lib.hid (mvN_t (show mvAt fx fy fc fr (gx sptRec a k) (gx sptRec b k) = true by rw [hm.out, q1, q2]; rfl))
                        go_wp2_with fail
                        go_roundg (gk - 1)
                        case measure => omega
                        case rel => exact ⟨k + 1, by omega, by omega, by go_num, by rw [hs.out], hbN⟩
                      case false =>
                        have hs := Lib.hid (mvN_f (show mvAt fx fy fc fr (gx sptRec a k) (gx sptRec b k) = false by rw [hm.out, q1, q2]; rfl))
                        go_wp2_with fail
                        go_roundg (gk - 1)
                        case measure => omega
                        case rel => exact ⟨k + 1, by omega, by omega, by go_num, by rw [hs.out], hbN⟩
          · obtain rfl : k = a.length := by omega
            go_wp2_with fail
            go_ret2
            exact ⟨by rw [hr.out]; rfl, B2.trans (hb.mono B2.size)⟩
end Go.Proofs.Ytjbffahnbkpcnaa
