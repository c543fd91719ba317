/- Plain facts for the laws on merged edits. No function of the program. -/
import Derived.Test.YtnkbopnmfoplfaaEditMerged
import Derived.Test.YtnkbopnmfoplfaaEditConfl
import Derived.Test.YtnkbopnmfoplfaaEditSame
import Derived.Test.YtnkbopnmfoplfaaEditTouch
set_option linter.unusedSimpArgs false
set_option linter.unusedVariables false
namespace Go.Proofs.Ytnkbopnmfoplfaa
open Go.RowKit

def hasN (l : List Int) (n : Int) : Bool := l.any fun x => x == n
theorem gx_append_left {α : Type} {R : Rec α} {a b : List α} {n : Nat} (h : n < a.length) : gx R (a ++ b) n = gx R a n := by
  unfold gx List.getD; rw [List.getElem?_append_left h]
theorem gx_append_at {α : Type} {R : Rec α} {a : List α} {x : α} : gx R (a ++ [x]) a.length = x := by
  unfold gx List.getD; rw [List.getElem?_append_right (Nat.le_refl _)]; simp
theorem gx_mgS (l x y : List Spt) (m n : Nat) (h : n < m) : gx sptRec (mgS l x y m) n = mgSpot (gx sptRec l n) (gx sptRec x n) (gx sptRec y n) := by
  induction m with
  | zero => omega
  | succ m ih =>
    unfold mgS
    by_cases e : n = m
    · subst e
      have h9 := gx_append_at (R := sptRec) (a := mgS l x y n) (x := mgSpot (gx sptRec l n) (gx sptRec x n) (gx sptRec y n))
      rw [mgS_len] at h9
      exact h9
    · rw [gx_append_left (by rw [mgS_len]; omega)]
      exact ih (by omega)
theorem hasN_mgC (l x y : List Spt) (m n : Nat) : hasN (mgC l x y m) (n : Int) = (decide (n < m) && mgConf (gx sptRec l n) (gx sptRec x n) (gx sptRec y n)) := by
  induction m with
  | zero => simp [mgC, hasN]
  | succ m ih =>
    unfold hasN at ih ⊢
    unfold mgC
    rw [List.any_append, ih]
    by_cases e : n = m
    · subst e
      cases h : mgConf (gx sptRec l n) (gx sptRec x n) (gx sptRec y n) <;> simp
    · have h1 : decide (n < m + 1) = decide (n < m) := by
        rw [Bool.eq_iff_iff, decide_eq_true_iff, decide_eq_true_iff]; omega
      rw [h1]
      cases h : mgConf (gx sptRec l m) (gx sptRec x m) (gx sptRec y m)
      · simp
      · have h2 : ((m : Int) == (n : Int)) = false := by rw [beq_eq_false_iff_ne]; omega
        simp [h2]
theorem mgConf_sym (s x y : Spt) : mgConf s x y = mgConf s y x := by
  unfold mgConf
  rw [Bool.eq_iff_iff]
  simp only [Bool.and_eq_true, decide_eq_true_eq]
  constructor
  · rintro ⟨⟨a, b⟩, c⟩; exact ⟨⟨b, a⟩, fun h => c h.symm⟩
  · rintro ⟨⟨a, b⟩, c⟩; exact ⟨⟨b, a⟩, fun h => c h.symm⟩
theorem mgC_sym (l x y : List Spt) (n : Nat) : mgC l x y n = mgC l y x n := by
  induction n with
  | zero => rfl
  | succ n ih => unfold mgC; rw [ih, mgConf_sym]
theorem mgC_same (l x : List Spt) (n : Nat) : mgC l x x n = [] := by
  induction n with
  | zero => rfl
  | succ n ih => unfold mgC; rw [ih]; unfold mgConf; simp
theorem mgS_same (l x : List Spt) (n : Nat) (h : n ≤ x.length) : mgS l x x n = x.take n := by
  induction n with
  | zero => rfl
  | succ n ih =>
    unfold mgS
    rw [ih (by omega), take_succ_gx sptRec x n (by omega)]
    unfold mgSpot
    rw [if_pos (.inl rfl)]
/-- Charts in other words. -/
theorem chart_iff {l : List Spt} : isChart l = true ↔ (1 ≤ l.length ∧ l.length ≤ 12) ∧ ∀ i, i < l.length → isSpot (gx sptRec l i).x (gx sptRec l i).y = true ∧ gx sptRec l i ∉ l.take i := by
  unfold isChart
  rw [Bool.and_eq_true, List.all_eq_true]
  have h1 : inR l.length 1 12 = true ↔ 1 ≤ l.length ∧ l.length ≤ 12 := by
    unfold inR; rw [Bool.and_eq_true, decide_eq_true_iff, decide_eq_true_iff]; omega
  rw [h1]
  refine and_congr_right fun _ => ?_
  constructor
  · intro h i hi
    have h2 := h i (List.mem_range.2 hi)
    unfold chOk at h2
    rw [Bool.and_eq_true, decide_eq_true_iff] at h2
    refine ⟨h2.1, (findS_no _ _).1 ?_⟩
    have := findS_bd (l.take i) (gx sptRec l i)
    omega
  · intro h i hi
    obtain ⟨h2, h3⟩ := h i (List.mem_range.1 hi)
    unfold chOk
    rw [Bool.and_eq_true, decide_eq_true_iff]
    exact ⟨h2, by have := (findS_no _ _).2 h3; omega⟩
theorem gx_set {l : List Spt} {n i : Nat} {a : Spt} (h : i < l.length) : gx sptRec (l.set n a) i = if n = i then a else gx sptRec l i := by
  rw [gx_eq (by rw [List.length_set]; exact h), gx_eq h, List.getElem_set]
theorem chart_set {l : List Spt} {n : Nat} {a : Spt} (h : isChart l = true) (ha : isSpot a.x a.y = true) (hn : a ∉ l) : isChart (l.set n a) = true := by
  obtain ⟨h1, h2⟩ := chart_iff.1 h
  refine chart_iff.2 ⟨by rw [List.length_set]; exact h1, fun i hi => ?_⟩
  rw [List.length_set] at hi
  obtain ⟨h3, h4⟩ := h2 i hi
  rw [gx_set hi, List.take_set]
  by_cases e : n = i
  · rw [if_pos e]
    subst e
    refine ⟨ha, fun h9 => ?_⟩
    rw [List.set_eq_of_length_le (by rw [List.length_take]; omega)] at h9
    exact hn (List.mem_of_mem_take h9)
  · rw [if_neg e]
    refine ⟨h3, fun h9 => ?_⟩
    rcases List.mem_or_eq_of_mem_set h9 with h9 | h9
    · exact h4 h9
    · exact hn (h9 ▸ gx_mem hi)
theorem fits_t {l : List Spt} {n : Nat} {b a : Spt} (h : fitsB l n b a = true) : a ∉ l := by
  unfold fitsB at h
  rw [Bool.and_eq_true, decide_eq_true_iff] at h
  have := findS_bd l a
  exact (findS_no l a).1 (by omega)
theorem edt_spot {x : Edt} (h : isEdt x = true) : isSpot x.a.x x.a.y = true := by
  unfold isEdt at h
  simp only [Bool.and_eq_true] at h
  exact h.1.2
theorem runE_chart (es : List Edt) : ∀ (l : List Spt) (n : Nat), isChart l = true → (∀ e ∈ es, isEdt e = true) → isChart (runE l es n).1 = true := by
  induction es with
  | nil => intro l n h _; exact h
  | cons e es ih =>
    intro l n h he
    unfold runE
    split
    · rename_i hf
      exact ih _ _ (chart_set h (edt_spot (he e (by simp))) (fits_t hf)) fun x hx => he x (by simp [hx])
    · exact h
theorem edts_all {es : List Edt} (h : areEdts es = true) : ∀ e ∈ es, isEdt e = true := by
  unfold areEdts at h
  rw [Bool.and_eq_true, List.all_eq_true] at h
  exact h.1
theorem rWhole_n {l : List Spt} {es : List Edt} (h : (rWhole l es).2 = true) : (runE l es 0).2 = es.length := by
  obtain ⟨h1, h2, _⟩ := rWhole_t h
  rw [rWhole_yes h1 h2] at h
  exact of_decide_eq_true h
/-- What is known when both editors' edits are whole. -/
structure OkF (l : List Spt) (a b : List Edt) (x y : List Spt) (C : List Int) : Prop where
  ch : isChart l = true
  ea : areEdts a = true
  eb : areEdts b = true
  ra : runE l a 0 = (x, a.length)
  rb : runE l b 0 = (y, b.length)
  lx : x.length = l.length
  ly : y.length = l.length
  c1 : rConfl l a b = (C, true)
  c2 : rConfl l b a = (C, true)
  sm : rSame l a b = (decide (x = y), true)
  hc : ∀ n : Nat, n < l.length → hasN C n = mgConf (gx sptRec l n) (gx sptRec x n) (gx sptRec y n)
  ma : rMerged l a a = (x, [], true)
theorem okF {l : List Spt} {a b : List Edt} (h : okBoth l a b = true) : OkF l a b (runE l a 0).1 (runE l b 0).1 (mgC l (runE l a 0).1 (runE l b 0).1 l.length) := by
  have h0 := h
  unfold okBoth at h0
  rw [Bool.and_eq_true] at h0
  obtain ⟨w1, w2⟩ := h0
  obtain ⟨t1, t2, _⟩ := rWhole_t w1
  obtain ⟨_, t4, _⟩ := rWhole_t w2
  have lx := (run_len1 l a).symm
  have ly := (run_len1 l b).symm
  have hba : okBoth l b a = true := by unfold okBoth; rw [w1, w2]; rfl
  have haa : okBoth l a a = true := by unfold okBoth; rw [w1]; rfl
  have hx : mgAllS l a a = (runE l a 0).1 := by
    unfold mgAllS
    rw [mgS_same _ _ _ (by omega), List.take_of_length_le (by omega)]
  refine ⟨t1, t2, t4, Prod.ext rfl (rWhole_n w1), Prod.ext rfl (rWhole_n w2), lx, ly, rConfl_yes h, ?_, ?_, ?_, ?_⟩
  · rw [rConfl_yes hba, mgC_sym]
  · unfold rSame; rw [if_pos h]
  · intro n hn
    rw [hasN_mgC, decide_eq_true hn]; rfl
  · have h9 : isChart (mgAllS l a a) = true := by rw [hx]; exact runE_chart a l 0 t1 (edts_all t2)
    rw [rMerged_yes haa h9, hx]
    unfold mgAllC
    rw [mgC_same]
theorem no_all {l : List Spt} {a b : List Edt} (h : okBoth l a b = false) : rMerged l a b = ([], [], false) ∧ rConfl l a b = ([], false) ∧ rSame l a b = (false, false) :=
  ⟨rMerged_no1 h, rConfl_no h, by unfold rSame; rw [h]; rfl⟩
/-- What MergedChart returns when both are whole. -/
theorem mg_ex {l : List Spt} {a b : List Edt} (h : okBoth l a b = true) (h2 : isChart (mgAllS l a b) = true) :
    ∃ M, rMerged l a b = (M, mgC l (runE l a 0).1 (runE l b 0).1 l.length, true) ∧ isChart M = true ∧ M.length = l.length ∧ ∀ n, n < l.length → gx sptRec M n = mgSpot (gx sptRec l n) (gx sptRec (runE l a 0).1 n) (gx sptRec (runE l b 0).1 n) := by
  refine ⟨mgAllS l a b, rMerged_yes h h2, h2, mgS_len _ _ _ _, fun n hn => gx_mgS _ _ _ _ _ hn⟩
theorem mg_ex2 {l : List Spt} {a b : List Edt} (h : okBoth l a b = true) : ∃ M C ok, rMerged l a b = (M, C, ok) ∧ (ok = true → C = mgC l (runE l a 0).1 (runE l b 0).1 l.length ∧ isChart M = true ∧ M.length = l.length ∧ ∀ n, n < l.length → gx sptRec M n = mgSpot (gx sptRec l n) (gx sptRec (runE l a 0).1 n) (gx sptRec (runE l b 0).1 n)) := by
  cases h2 : isChart (mgAllS l a b)
  · exact ⟨[], [], false, rMerged_no2 h2, fun h9 => by cases h9⟩
  · obtain ⟨M, e, r⟩ := mg_ex h h2
    exact ⟨M, _, true, e, fun _ => ⟨rfl, r⟩⟩
theorem touch_ex (a b : List Edt) : ∃ T five, rTouch a b = (T, five) ∧ rTouch b a = (T, five) := by
  refine ⟨(rTouch a b).1, (rTouch a b).2, rfl, ?_⟩
  have h1 : (areEdts a && areEdts b) = (areEdts b && areEdts a) := Bool.and_comm _ _
  have h2 : touchB a b = touchB b a := by
    unfold touchB
    congr 1
    funext n
    exact Bool.and_comm _ _
  unfold rTouch
  rw [h1, h2]
end Go.Proofs.Ytnkbopnmfoplfaa
