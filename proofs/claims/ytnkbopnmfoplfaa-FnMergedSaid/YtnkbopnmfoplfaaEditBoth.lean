/- Contracts: the results of whole edits of two editors; whether they are the same. -/
import Derived.Test.YtnkbopnmfoplfaaEditRuns
set_option linter.unusedSimpArgs false
set_option linter.unusedVariables false
namespace Go.Proofs.Ytnkbopnmfoplfaa
open Go.RowKit

def rWhole (l : List Spt) (es : List Edt) : List Spt × Bool := if isChart l && areEdts es then ((runE l es 0).1, decide ((runE l es 0).2 = es.length)) else ([], false)
def okBoth (l : List Spt) (a b : List Edt) : Bool := (rWhole l a).2 && (rWhole l b).2
theorem rWhole_t {l : List Spt} {es : List Edt} (h : (rWhole l es).2 = true) : isChart l = true ∧ areEdts es = true ∧ (rWhole l es).1 = (runE l es 0).1 := by
  unfold rWhole at h ⊢
  by_cases h9 : (isChart l && areEdts es) = true
  · rw [if_pos h9]
    rw [Bool.and_eq_true] at h9
    exact ⟨h9.1, h9.2, rfl⟩
  · rw [if_neg h9] at h; cases h
theorem rWhole_no1 {l : List Spt} {es : List Edt} (h : isChart l = false) : rWhole l es = ([], false) := by unfold rWhole; rw [h]; rfl
theorem rWhole_no2 {l : List Spt} {es : List Edt} (h : areEdts es = false) : rWhole l es = ([], false) := by unfold rWhole; rw [h]; cases isChart l <;> rfl
theorem rWhole_yes {l : List Spt} {es : List Edt} (h1 : isChart l = true) (h2 : areEdts es = true) : rWhole l es = ((runE l es 0).1, decide ((runE l es 0).2 = es.length)) := by unfold rWhole; rw [h1, h2]; rfl
theorem chart_pos {l : List Spt} (h : isChart l = true) : 0 < l.length ∧ l.length ≤ 12 := by have := isChart_t h; omega
theorem okBoth_t {l : List Spt} {a b : List Edt} (h : okBoth l a b = true) : isChart l = true ∧ (rWhole l a).1 = (runE l a 0).1 ∧ (rWhole l b).1 = (runE l b 0).1 := by
  unfold okBoth at h
  rw [Bool.and_eq_true] at h
  have h1 := rWhole_t h.1
  have h2 := rWhole_t h.2
  exact ⟨h1.1, h1.2.2, h2.2.2⟩
theorem nat_beq (a b : Nat) : ((a : Int) == (b : Int)) = decide (a = b) := by
  rw [Bool.eq_iff_iff, decide_eq_true_iff, beq_iff_eq]; omega
def FreshRes (w : World) (r : List Spt × Bool) (e : Ending) (w' : World) : Prop :=
  ∃ x, e = .returned (.tuple #[x, .bool r.2]) ∧ OwnRow sptRec w' w.heap.size x r.1 ∧ Below w.heap.size w w'
def FreshBoth (w : World) (l : List Spt) (a b : List Edt) (e : Ending) (w' : World) : Prop :=
  ∃ x y, e = .returned (.tuple #[x, y, .bool (okBoth l a b)]) ∧ (okBoth l a b = true → OwnRow sptRec w' w.heap.size x (runE l a 0).1 ∧ OwnRow sptRec w' w.heap.size y (runE l b 0).1) ∧ Below w.heap.size w w'

set_option maxHeartbeats 1600000 in
theorem resultOf_any (v ve : Value) (l : List Spt) (es : List Edt) (w : World) (h : RowAt sptRec w v l) (hE : RowAt edtRec w ve es) :
    Calls Try.prog 43 #[v, ve] w (FreshRes w (rWhole l es)) := by
  obtain ⟨B, d, rfl, hnd, hd63⟩ := hE.shape
  cases h1 : isChart l
  · have hr := Lib.hid (rWhole_no1 (es := es) h1)
    go_enter Try.func43, Try.ntmps43
    go_wp2_with fail
    refine (implIsChart _ l _ h).mono ?_; rintro e w1 ⟨rfl, b1⟩
    go_wp2_with fail
    go_ret2
    exact ⟨_, by rw [hr.out]; rfl, by rw [hr.out]; exact OwnRow.nil_ sptRec _ _, b1⟩
  · cases h2 : areEdts es
    · have hr := Lib.hid (rWhole_no2 (l := l) h2)
      go_enter Try.func43, Try.ntmps43
      go_wp2_with fail
      refine (implIsChart _ l _ h).mono ?_; rintro e w1 ⟨rfl, b1⟩
      have hE1 := hE.below b1 (Nat.le_refl _)
      go_wp2_with fail
      refine (areEdits_any _ es _ hE1).mono ?_; rintro e w2 ⟨rfl, b2⟩
      go_wp2_with fail
      go_ret2
      exact ⟨_, by rw [hr.out]; rfl, by rw [hr.out]; exact OwnRow.nil_ sptRec _ _, b1.next (Nat.le_refl _) b2⟩
    · have hr := Lib.hid (rWhole_yes h1 h2)
      have hp := chart_pos h1
      obtain ⟨hl0, hl12⟩ := hp
      have hg0 := areEdts_t h2
      obtain ⟨h30, hg1⟩ := hg0
      have hg := Lib.hid hg1
      clear hg1
      go_enter Try.func43, Try.ntmps43
      go_wp2_with fail
      refine (implIsChart _ l _ h).mono ?_; rintro e w1 ⟨rfl, b1⟩
      have hE1 := hE.below b1 (Nat.le_refl _)
      go_wp2_with fail
      refine (areEdits_any _ es _ hE1).mono ?_; rintro e w2 ⟨rfl, b2⟩
      have b12 := b1.next (Nat.le_refl _) b2
      go_wp2_with fail
      refine (applyEdits_any _ _ l es _ (h.below b12 (Nat.le_refl _)) (hE.below b12 (Nat.le_refl _)) hl12 hl0 (by omega) hg).mono ?_; rintro e w3 ⟨x, rfl, ox, b3⟩
      have ox2 := OwnRow.lo ox b12.size
      go_wp2_with fail
      go_ret2
      exact ⟨_, by rw [hr.out, ← nat_beq]; rfl, by rw [hr.out]; exact ox2, b12.next (Nat.le_refl _) b3⟩
set_option maxHeartbeats 1600000 in
theorem mgWhole_any (v ve : Value) (l : List Spt) (es : List Edt) (w : World) (h : RowAt sptRec w v l) (hE : RowAt edtRec w ve es) (h1 : Hid (isChart l = true)) (h2 : Hid (areEdts es = true)) :
    Calls Try.prog 44 #[v, ve] w (FreshRes w (rWhole l es)) := by
  obtain ⟨B, d, rfl, hnd, hd63⟩ := hE.shape
  have hr := Lib.hid (rWhole_yes h1.out h2.out)
  have hp := chart_pos h1.out
  obtain ⟨hl0, hl12⟩ := hp
  have hg0 := areEdts_t h2.out
  obtain ⟨h30, hg1⟩ := hg0
  have hg := Lib.hid hg1
  clear hg1
  go_enter Try.func44, Try.ntmps44
  go_wp2_with fail
  refine (edRun_any _ _ l es _ h hE hl12 hl0 (by omega) hg).mono ?_; rintro e w3 ⟨x, rfl, ox, b3⟩
  go_wp2_with fail
  go_ret2
  exact ⟨_, by rw [hr.out, ← nat_beq]; rfl, by rw [hr.out]; exact ox, b3⟩

set_option maxHeartbeats 1600000 in
theorem bothResults_any (v va vb : Value) (l : List Spt) (a b : List Edt) (w : World) (h : RowAt sptRec w v l) (hA : RowAt edtRec w va a) (hB : RowAt edtRec w vb b) :
    Calls Try.prog 21 #[v, va, vb] w (FreshBoth w l a b) := by
  cases h1 : (rWhole l a).2 <;> cases h2 : (rWhole l b).2
  all_goals
    have hk : Hid (okBoth l a b = ((rWhole l a).2 && (rWhole l b).2)) := rfl
    rw [h1, h2] at hk
    go_enter Try.func21, Try.ntmps21
    go_wp2_with fail
    refine (resultOf_any _ _ l a _ h hA).mono ?_; rintro e w1 ⟨x, rfl, ox, b1⟩
    go_wp2_with fail
    refine (resultOf_any _ _ l b _ (h.below b1 (Nat.le_refl _)) (hB.below b1 (Nat.le_refl _))).mono ?_; rintro e w2 ⟨y, rfl, oy, b2⟩
    have ox2 := OwnRow.below ox b2 (Nat.le_refl _)
    have oy2 := OwnRow.lo oy b1.size
    have b12 := b1.next (Nat.le_refl _) b2
    have hfin : Hid (okBoth l a b = true → OwnRow sptRec w2 w.heap.size x (runE l a 0).1 ∧ OwnRow sptRec w2 w.heap.size y (runE l b 0).1) := fun h9 => by
      have h8 := okBoth_t h9
      rw [← h8.2.1, ← h8.2.2]
      exact ⟨ox2, oy2⟩
    clear ox oy ox2 oy2
    go_wp2_with fail
    go_ret3
    exact ⟨_, _, by rw [hk.out]; rfl, hfin.out, b12⟩
theorem mgTwo_any (va vb : Value) (a b : List Edt) (w : World) (hA : RowAt edtRec w va a) (hB : RowAt edtRec w vb b) :
    Calls Try.prog 33 #[va, vb] w fun e w' => e = .returned (.bool (areEdts a && areEdts b)) ∧ Below w.heap.size w w' := by
  cases h1 : areEdts a
  · go_enter Try.func33, Try.ntmps33
    go_wp2_with fail
    refine (edAll_any _ a _ hA).mono ?_; rintro e w1 ⟨rfl, b1⟩
    go_wp2_with fail
    go_ret
    exact ⟨rfl, b1⟩
  · cases h2 : areEdts b
    all_goals
      go_enter Try.func33, Try.ntmps33
      go_wp2_with fail
      refine (edAll_any _ a _ hA).mono ?_; rintro e w1 ⟨rfl, b1⟩
      have hB1 := hB.below b1 (Nat.le_refl _)
      go_wp2_with fail
      refine (edAll_any _ b _ hB1).mono ?_; rintro e w2 ⟨rfl, b2⟩
      go_wp2_with fail
      go_ret
      exact ⟨rfl, b1.next (Nat.le_refl _) b2⟩
theorem mgTwo_lit (va vb : Value) (a b : List Edt) (c : Bool) (w : World) (hA : RowAt edtRec w va a) (hB : RowAt edtRec w vb b) (hc : (areEdts a && areEdts b) = c) :
    Calls Try.prog 33 #[va, vb] w fun e w' => e = .returned (.bool c) ∧ Below w.heap.size w w' := by subst hc; exact mgTwo_any va vb a b w hA hB
theorem okBoth_no1 {l : List Spt} {a b : List Edt} (h : isChart l = false) : okBoth l a b = false := by unfold okBoth; rw [rWhole_no1 h]; rfl
theorem okBoth_no2 {l : List Spt} {a b : List Edt} (h : (areEdts a && areEdts b) = false) : okBoth l a b = false := by
  unfold okBoth
  cases h1 : areEdts a
  · rw [rWhole_no2 h1]; rfl
  · rw [h1] at h
    have h2 : areEdts b = false := by simpa using h
    rw [rWhole_no2 h2]; simp
set_option maxHeartbeats 1600000 in
theorem mgBoth_any (v va vb : Value) (l : List Spt) (a b : List Edt) (w : World) (h : RowAt sptRec w v l) (hA : RowAt edtRec w va a) (hB : RowAt edtRec w vb b) :
    Calls Try.prog 23 #[v, va, vb] w (FreshBoth w l a b) := by
  cases h0 : isChart l
  · have hk := Lib.hid (okBoth_no1 (a := a) (b := b) h0)
    go_enter Try.func23, Try.ntmps23
    go_wp2_with fail
    refine (chGood_any _ l _ h).mono ?_; rintro e w1 ⟨rfl, b1⟩
    go_wp2_with fail
    go_ret3
    exact ⟨_, _, by rw [hk.out]; rfl, (fun h9 => by rw [hk.out] at h9; cases h9), b1⟩
  cases hab : (areEdts a && areEdts b)
  · have hk := Lib.hid (okBoth_no2 (l := l) hab)
    go_enter Try.func23, Try.ntmps23
    go_wp2_with fail
    refine (chGood_any _ l _ h).mono ?_; rintro e w1 ⟨rfl, b1⟩
    have hA1 := hA.below b1 (Nat.le_refl _)
    have hB1 := hB.below b1 (Nat.le_refl _)
    go_wp2_with fail
    refine (mgTwo_lit _ _ a b false _ hA1 hB1 hab).mono ?_; rintro e w2 ⟨rfl, b2⟩
    go_wp2_with fail
    go_ret3
    exact ⟨_, _, by rw [hk.out]; rfl, (fun h9 => by rw [hk.out] at h9; cases h9), b1.next (Nat.le_refl _) b2⟩
  have hab2 := hab
  rw [Bool.and_eq_true] at hab2
  obtain ⟨ha, hb⟩ := hab2
  have Hc := Lib.hid h0
  have Ha := Lib.hid ha
  have Hb := Lib.hid hb
  have Hab := Lib.hid hab
  clear ha hb hab
  cases h1 : (rWhole l a).2 <;> cases h2 : (rWhole l b).2
  all_goals
    have hk : Hid (okBoth l a b = ((rWhole l a).2 && (rWhole l b).2)) := rfl
    rw [h1, h2] at hk
    go_enter Try.func23, Try.ntmps23
    go_wp2_with fail
    refine (chGood_any _ l _ h).mono ?_; rintro e w0 ⟨rfl, b0⟩
    have hA0 := hA.below b0 (Nat.le_refl _)
    have hB0 := hB.below b0 (Nat.le_refl _)
    go_wp2_with fail
    refine (mgTwo_lit _ _ a b true _ hA0 hB0 Hab.out).mono ?_; rintro e w9 ⟨rfl, b9⟩
    have b09 := b0.next (Nat.le_refl _) b9
    go_wp2_with fail
    refine (mgWhole_any _ _ l a _ (h.below b09 (Nat.le_refl _)) (hA.below b09 (Nat.le_refl _)) Hc Ha).mono ?_; rintro e w1 ⟨x, rfl, ox, b1⟩
    have b01 := b09.next (Nat.le_refl _) b1
    go_wp2_with fail
    refine (mgWhole_any _ _ l b _ (h.below b01 (Nat.le_refl _)) (hB.below b01 (Nat.le_refl _)) Hc Hb).mono ?_; rintro e w2 ⟨y, rfl, oy, b2⟩
    have ox2 := OwnRow.lo (OwnRow.below ox b2 (Nat.le_refl _)) b09.size
    have oy2 := OwnRow.lo oy b01.size
    have b12 := b01.next (Nat.le_refl _) b2
    have hfin : Hid (okBoth l a b = true → OwnRow sptRec w2 w.heap.size x (runE l a 0).1 ∧ OwnRow sptRec w2 w.heap.size y (runE l b 0).1) := fun h9 => by
      have h8 := okBoth_t h9
      rw [← h8.2.1, ← h8.2.2]
      exact ⟨ox2, oy2⟩
    clear ox oy ox2 oy2
    go_wp2_with fail
    go_ret3
    exact ⟨_, _, by rw [hk.out]; rfl, hfin.out, b12⟩

end Go.Proofs.Ytnkbopnmfoplfaa
