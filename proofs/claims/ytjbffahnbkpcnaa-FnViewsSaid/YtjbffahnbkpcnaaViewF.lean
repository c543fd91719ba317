/- Contracts of ViewOf, in the program and in the reference. -/
import Derived.Test.YtjbffahnbkpcnaaViewOf
set_option linter.unusedSimpArgs false
set_option linter.unusedVariables false
namespace Go.Proofs.Ytjbffahnbkpcnaa
open Go.RowKit

/-- What ViewOf returns. -/
def rView (fx fy fc fr : Int) (l : List Spt) : List ByteArray × Bool :=
  if isAsk fx fy fc fr l then (vwL (shw fx fy fc.toNat fr.toNat l l.length) fr.toNat fr.toNat, true) else ([], false)
theorem rView_no {fx fy fc fr : Int} {l : List Spt} (h : isAsk fx fy fc fr l = false) : rView fx fy fc fr l = ([], false) := by unfold rView; rw [h]; rfl
theorem rView_yes {fx fy : Int} {C R : Nat} {l : List Spt} (h : isAsk fx fy C R l = true) : rView fx fy C R l = (vwL (shw fx fy C R l l.length) R R, true) := by unfold rView; rw [h]; simp
theorem rView_len (fx fy fc fr : Int) (l : List Spt) : (rView fx fy fc fr l).1.length ≤ 30 := by
  cases h : isAsk fx fy fc fr l
  · rw [rView_no h]; simp
  · have hf := isFrm_t (isAsk_t h).1
    obtain ⟨C, rfl⟩ := Int.eq_ofNat_of_zero_le (show 0 ≤ fc by omega)
    obtain ⟨R, rfl⟩ := Int.eq_ofNat_of_zero_le (show 0 ≤ fr by omega)
    rw [rView_yes h]
    show (vwL (shw fx fy C R l l.length) R R).length ≤ 30
    rw [vwL_len]; omega
def FreshStrsV (w : World) (r : List ByteArray × Bool) (e : Ending) (w' : World) : Prop :=
  ∃ v, e = .returned (.tuple #[v, .bool r.2]) ∧ OwnRow strRec w' w.heap.size v r.1 ∧ Below w.heap.size w w'
set_option maxRecDepth 100000 in
set_option maxHeartbeats 12800000 in
theorem implViewOf (v : Value) (l : List Spt) (fx fy fc fr : Int) (w : World) (h : RowAt sptRec w v l) :
    Calls Try.prog 7 #[.agg #[.int .i64 fx, .int .i64 fy, .int .i64 fc, .int .i64 fr], v] w (FreshStrsV w (rView fx fy fc fr l)) := by
  obtain ⟨A, ca, rfl, hnA, hcA⟩ := h.shape
  have hb0 := fun o => (Below.refl w.heap.size w).alloc (Nat.le_refl _) o
  have Hb0 := Lib.hid hb0
  clear hb0
  go_enter Try.func7, Try.ntmps7
  go_upto_region 0 with fail
  go_cut [2, 4, 5] (fun b2 r4 r5 wx => b2 = .pointer (some ⟨w.heap.size, 0, none⟩) ∧ r4 = .slice none 0 0 ∧ r5 = .bool false ∧ Box4 wx w.heap.size fx fy fc fr ∧ Below w.heap.size w wx)
  case first =>
    go_wp2_with fail
    go_meet
    exact ⟨rfl, rfl, rfl, ⟨by go_simp, by go_simp, by go_simp, by go_simp⟩, Hb0.out _⟩
  case rest =>
    obtain ⟨rfl, rfl, rfl, bx0, B0⟩ := hcut
    obtain ⟨w0, hw0⟩ : ∃ w0 : World, w0 = wc := ⟨_, rfl⟩
    subst hw0
    have hc := bx0.out
    obtain ⟨c0, c1, c2, c3⟩ := hc
    have h00 := h.below B0 (Nat.le_refl _)
    cases hf : isFrm fx fy fc fr
    case false =>
      have hr := Lib.hid (rView_no (isAsk_no1 (l := l) hf))
      go_wp2_with fail
      refine (implIsFrameOf _ _ _ _ _).mono ?_; rintro e w1 ⟨rfl, b1⟩
      have B1 := B0.trans (b1.mono B0.size)
      go_wp2_with fail
      go_ret2
      exact ⟨_, by rw [hr.out]; rfl, by rw [hr.out]; exact OwnRow.nil_ strRec _ _, B1⟩
    case true =>
    cases hg : isChart l
    case false =>
      have hr := Lib.hid (rView_no (isAsk_no2 (fx := fx) (fy := fy) (fc := fc) (fr := fr) hg))
      go_wp2_with fail
      refine (implIsFrameOf _ _ _ _ _).mono ?_; rintro e w1 ⟨rfl, b1⟩
      have B1 := B0.trans (b1.mono B0.size)
      have h01 := h.below B1 (Nat.le_refl _)
      go_wp2_with fail
      refine (implIsChart _ l _ h01).mono ?_; rintro e w2 ⟨rfl, b2⟩
      have B2 := B1.trans (b2.mono B1.size)
      go_wp2_with fail
      go_ret2
      exact ⟨_, by rw [hr.out]; rfl, by rw [hr.out]; exact OwnRow.nil_ strRec _ _, B2⟩
    case true =>
    have hk := isAsk_yes hf hg
    have hft := isFrm_t hf
    obtain ⟨p1, p2, p3, p4, _⟩ := hft
    obtain ⟨C, rfl⟩ := Int.eq_ofNat_of_zero_le (show 0 ≤ fc by omega)
    obtain ⟨R, rfl⟩ := Int.eq_ofNat_of_zero_le (show 0 ≤ fr by omega)
    have hr := Lib.hid (rView_yes hk)
    have Hf := Lib.hid hf
    have Hs := Lib.hid (chart_spot hg)
    have h12 := (isChart_t hg).2.1
    go_wp2_with fail
    refine (implIsFrameOf _ _ _ _ _).mono ?_; rintro e w1 ⟨rfl, b1⟩
    have B1 := B0.trans (b1.mono B0.size)
    have h01 := h.below B1 (Nat.le_refl _)
    go_wp2_with fail
    refine (implIsChart _ l _ h01).mono ?_; rintro e w2 ⟨rfl, b2⟩
    have B2 := B1.trans (b2.mono B1.size)
    have bx1 := (bx0.keep b1 (Nat.le_refl _)).keep b2 (Nat.le_refl _)
    clear c0 c1 c2 c3
    have hc := bx1.out
    obtain ⟨c0, c1, c2, c3⟩ := hc
    have h02 := h.below B2 (Nat.le_refl _)
    go_wp2_with fail
    refine (viewOf_any _ l fx fy C R _ h02 Hf.out Hs h12).mono ?_; rintro e w5 ⟨vS, rfl, oS, b5⟩
    have ho2 := Lib.hid (OwnRow.lo oS B2.size)
    clear oS
    go_wp2_with fail
    go_ret2
    exact ⟨_, by rw [hr.out]; rfl, by rw [hr.out]; exact ho2.out, B2.trans (b5.mono B2.size)⟩
set_option maxRecDepth 100000 in
set_option maxHeartbeats 12800000 in
theorem specViewOf (v : Value) (l : List Spt) (fx fy fc fr : Int) (w : World) (h : RowAt sptRec w v l) :
    Calls Try.prog 8 #[.agg #[.int .i64 fx, .int .i64 fy, .int .i64 fc, .int .i64 fr], v] w (FreshStrsV w (rView fx fy fc fr l)) := by
  obtain ⟨A, ca, rfl, hnA, hcA⟩ := h.shape
  have hb0 := fun o => (Below.refl w.heap.size w).alloc (Nat.le_refl _) o
  have Hb0 := Lib.hid hb0
  clear hb0
  go_enter Try.func8, Try.ntmps8
  go_upto_region 0 with fail
  go_cut [2, 4, 5] (fun b2 r4 r5 wx => b2 = .pointer (some ⟨w.heap.size, 0, none⟩) ∧ r4 = .slice none 0 0 ∧ r5 = .bool false ∧ Box4 wx w.heap.size fx fy fc fr ∧ Below w.heap.size w wx)
  case first =>
    go_wp2_with fail
    go_meet
    exact ⟨rfl, rfl, rfl, ⟨by go_simp, by go_simp, by go_simp, by go_simp⟩, Hb0.out _⟩
  case rest =>
    obtain ⟨rfl, rfl, rfl, bx0, B0⟩ := hcut
    obtain ⟨w0, hw0⟩ : ∃ w0 : World, w0 = wc := ⟨_, rfl⟩
    subst hw0
    have hc := bx0.out
    obtain ⟨c0, c1, c2, c3⟩ := hc
    have h00 := h.below B0 (Nat.le_refl _)
    cases hk : isAsk fx fy fc fr l
    case false =>
      have hr := Lib.hid (rView_no hk)
      go_wp2_with fail
      refine (vwAsked_any _ l _ _ _ _ _ h00).mono ?_; rintro e w1 ⟨rfl, b1⟩
      have B1 := B0.trans (b1.mono B0.size)
      go_wp2_with fail
      go_ret2
      exact ⟨_, by rw [hr.out]; rfl, by rw [hr.out]; exact OwnRow.nil_ strRec _ _, B1⟩
    case true =>
    have hk2 := isAsk_t hk
    obtain ⟨hf, hg⟩ := hk2
    have hft := isFrm_t hf
    obtain ⟨p1, p2, p3, p4, _⟩ := hft
    obtain ⟨C, rfl⟩ := Int.eq_ofNat_of_zero_le (show 0 ≤ fc by omega)
    obtain ⟨R, rfl⟩ := Int.eq_ofNat_of_zero_le (show 0 ≤ fr by omega)
    have hr := Lib.hid (rView_yes hk)
    have Hf := Lib.hid hf
    have Hs := Lib.hid (chart_spot hg)
    have h12 := (isChart_t hg).2.1
    go_wp2_with fail
    refine (vwAsked_any _ l _ _ _ _ _ h00).mono ?_; rintro e w1 ⟨rfl, b1⟩
    have B1 := B0.trans (b1.mono B0.size)
    have bx1 := bx0.keep b1 (Nat.le_refl _)
    clear c0 c1 c2 c3
    have hc := bx1.out
    obtain ⟨c0, c1, c2, c3⟩ := hc
    have h02 := h.below B1 (Nat.le_refl _)
    go_wp2_with fail
    refine (vwView_any _ l fx fy C R _ h02 Hf.out Hs h12).mono ?_; rintro e w5 ⟨vS, rfl, oS, b5⟩
    have ho2 := Lib.hid (OwnRow.lo oS B1.size)
    clear oS
    go_wp2_with fail
    go_ret2
    exact ⟨_, by rw [hr.out]; rfl, by rw [hr.out]; exact ho2.out, B1.trans (b5.mono B1.size)⟩
end Go.Proofs.Ytjbffahnbkpcnaa
