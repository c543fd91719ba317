/- Contracts of FittingEdits, in the program and in the reference. -/
import Derived.Test.YtkefeigkaflakaaEditFitS
set_option linter.unusedSimpArgs false
set_option linter.unusedVariables false
namespace Go.Proofs.Ytkefeigkaflakaa
open Go.RowKit

/-- What FittingEdits returns. -/
def rFitting (l : List Spt) (es : List Edt) : List Int × Bool := if isChart l && areEdts es then ((fitSt l es es.length).2.1, true) else ([], false)
theorem rFitting_no1 {l : List Spt} {es : List Edt} (h : isChart l = false) : rFitting l es = ([], false) := by unfold rFitting; rw [h]; rfl
theorem rFitting_no2 {l : List Spt} {es : List Edt} (h : areEdts es = false) : rFitting l es = ([], false) := by unfold rFitting; rw [h]; cases isChart l <;> rfl
theorem rFitting_yes {l : List Spt} {es : List Edt} (h1 : isChart l = true) (h2 : areEdts es = true) : rFitting l es = ((fitSt l es es.length).2.1, true) := by unfold rFitting; rw [h1, h2]; rfl
theorem rFitting_len (l : List Spt) (es : List Edt) : (rFitting l es).1.length ≤ 30 := by
  cases h1 : isChart l
  · rw [rFitting_no1 h1]; simp
  · cases h2 : areEdts es
    · rw [rFitting_no2 h2]; simp
    · rw [rFitting_yes h1 h2]
      have h3 := (fitSt_len l es es.length).2
      have h4 := (areEdts_t h2).1
      show (fitSt l es es.length).2.1.length ≤ 30
      omega
set_option maxHeartbeats 1600000 in
theorem implFitting (v ve : Value) (l : List Spt) (es : List Edt) (w : World) (h : RowAt sptRec w v l) (hE : RowAt edtRec w ve es) :
    Calls Try.prog 36 #[v, ve] w (FreshIntsC w (rFitting l es)) := by
  obtain ⟨B, d, rfl, hnd, hd63⟩ := hE.shape
  cases h1 : isChart l
  · have hr := Lib.hid (rFitting_no1 (es := es) h1)
    go_enter Try.func36, Try.ntmps36
    go_wp2_with fail
    refine (implIsChart _ l _ h).mono ?_; rintro e w1 ⟨rfl, b1⟩
    go_wp2_with fail
    go_ret2
    exact ⟨_, by rw [hr.out]; rfl, by rw [hr.out]; exact OwnInts.nil_ _ _, b1⟩
  · cases h2 : areEdts es
    · have hr := Lib.hid (rFitting_no2 (l := l) h2)
      go_enter Try.func36, Try.ntmps36
      go_wp2_with fail
      refine (implIsChart _ l _ h).mono ?_; rintro e w1 ⟨rfl, b1⟩
      have hE1 := hE.below b1 (Nat.le_refl _)
      go_wp2_with fail
      refine (areEdits_any _ es _ hE1).mono ?_; rintro e w2 ⟨rfl, b2⟩
      go_wp2_with fail
      go_ret2
      exact ⟨_, by rw [hr.out]; rfl, by rw [hr.out]; exact OwnInts.nil_ _ _, b1.next (Nat.le_refl _) b2⟩
    · have hr := Lib.hid (rFitting_yes h1 h2)
      have hp := chart_pos h1
      obtain ⟨hl0, hl12⟩ := hp
      have hg0 := areEdts_t h2
      obtain ⟨h30, hg1⟩ := hg0
      have hg := Lib.hid hg1
      clear hg1
      go_enter Try.func36, Try.ntmps36
      go_wp2_with fail
      refine (implIsChart _ l _ h).mono ?_; rintro e w1 ⟨rfl, b1⟩
      have hE1 := hE.below b1 (Nat.le_refl _)
      go_wp2_with fail
      refine (areEdits_any _ es _ hE1).mono ?_; rintro e w2 ⟨rfl, b2⟩
      have b12 := b1.next (Nat.le_refl _) b2
      go_wp2_with fail
      refine (fittingEdits_any _ _ l es _ (h.below b12 (Nat.le_refl _)) (hE.below b12 (Nat.le_refl _)) hl12 hl0 (by omega) hg).mono ?_; rintro e w3 ⟨x, y, rfl, ox, ou, ap, b3⟩
      have ou2 := Lib.hid (ints_lo ou b12.size)
      clear ou
      go_wp2_with fail
      go_ret2
      exact ⟨_, by rw [hr.out]; rfl, by rw [hr.out]; exact ou2.out, b12.next (Nat.le_refl _) b3⟩
set_option maxHeartbeats 1600000 in
theorem specFitting (v ve : Value) (l : List Spt) (es : List Edt) (w : World) (h : RowAt sptRec w v l) (hE : RowAt edtRec w ve es) :
    Calls Try.prog 35 #[v, ve] w (FreshIntsC w (rFitting l es)) := by
  obtain ⟨B, d, rfl, hnd, hd63⟩ := hE.shape
  cases h1 : isChart l
  · have hr := Lib.hid (rFitting_no1 (es := es) h1)
    go_enter Try.func35, Try.ntmps35
    go_wp2_with fail
    refine (chGood_any _ l _ h).mono ?_; rintro e w1 ⟨rfl, b1⟩
    go_wp2_with fail
    go_ret2
    exact ⟨_, by rw [hr.out]; rfl, by rw [hr.out]; exact OwnInts.nil_ _ _, b1⟩
  · cases h2 : areEdts es
    · have hr := Lib.hid (rFitting_no2 (l := l) h2)
      go_enter Try.func35, Try.ntmps35
      go_wp2_with fail
      refine (chGood_any _ l _ h).mono ?_; rintro e w1 ⟨rfl, b1⟩
      have hE1 := hE.below b1 (Nat.le_refl _)
      go_wp2_with fail
      refine (edAll_any _ es _ hE1).mono ?_; rintro e w2 ⟨rfl, b2⟩
      go_wp2_with fail
      go_ret2
      exact ⟨_, by rw [hr.out]; rfl, by rw [hr.out]; exact OwnInts.nil_ _ _, b1.next (Nat.le_refl _) b2⟩
    · have hr := Lib.hid (rFitting_yes h1 h2)
      have hp := chart_pos h1
      obtain ⟨hl0, hl12⟩ := hp
      have hg0 := areEdts_t h2
      obtain ⟨h30, hg1⟩ := hg0
      have hg := Lib.hid hg1
      clear hg1
      go_enter Try.func35, Try.ntmps35
      go_wp2_with fail
      refine (chGood_any _ l _ h).mono ?_; rintro e w1 ⟨rfl, b1⟩
      have hE1 := hE.below b1 (Nat.le_refl _)
      go_wp2_with fail
      refine (edAll_any _ es _ hE1).mono ?_; rintro e w2 ⟨rfl, b2⟩
      have b12 := b1.next (Nat.le_refl _) b2
      go_wp2_with fail
      refine (mgFit_any _ _ l es _ (h.below b12 (Nat.le_refl _)) (hE.below b12 (Nat.le_refl _)) hl12 hl0 (by omega) hg).mono ?_; rintro e w3 ⟨x, y, z, rfl, ox, ou, oz, ap1, ap2, ap3, b3⟩
      have ou2 := Lib.hid (ints_lo ou b12.size)
      clear ou
      go_wp2_with fail
      go_ret2
      exact ⟨_, by rw [hr.out]; rfl, by rw [hr.out]; exact ou2.out, b12.next (Nat.le_refl _) b3⟩
end Go.Proofs.Ytkefeigkaflakaa
