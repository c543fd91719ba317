/- Plain law of ReadView: of each letter how often it stands in a view, and where. No function of the program. -/
import Derived.Test.YtjbffahnbkpcnaaChart
import Derived.Test.YtjbffahnbkpcnaaView
import Derived.Test.YtjbffahnbkpcnaaCell
import Derived.Test.YtjbffahnbkpcnaaRev
set_option linter.unusedSimpArgs false
set_option linter.unusedVariables false
namespace Go.Proofs.Ytjbffahnbkpcnaa
open Go.RowKit

/-- One more of a letter; it stands there. -/
def rvPut (st : List Int × List Spt) (i : Nat) (a : Spt) : List Int × List Spt := (st.1.set i (gi st.1 i + 1), st.2.set i a)
/-- A row of a view, up to a column. -/
def rvRow (fx fy : Int) (R : Nat) (s : ByteArray) (k : Nat) (st : List Int × List Spt) : Nat → List Int × List Spt
  | 0 => st
  | c + 1 => if bt s c = 46 then rvRow fx fy R s k st c else rvPut (rvRow fx fy R s k st c) (bt s c - 65) ⟨fx + 8 * (c : Int), fy + 8 * ((R : Int) - 1 - (k : Int))⟩
/-- A view, up to a row. -/
def rvAll (fx fy : Int) (R : Nat) (l : List ByteArray) : Nat → List Int × List Spt
  | 0 => (List.replicate 26 0, List.replicate 26 ⟨0, 0⟩)
  | k + 1 => rvRow fx fy R (gx strRec l k) k (rvAll fx fy R l k) (gx strRec l k).size
theorem rvRow_dot {fx fy : Int} {R k c : Nat} {s : ByteArray} {st : List Int × List Spt} (h : bt s c = 46) : rvRow fx fy R s k st (c + 1) = rvRow fx fy R s k st c := by
  conv => lhs; unfold rvRow
  rw [if_pos h]
theorem rvRow_put {fx fy : Int} {R k c : Nat} {s : ByteArray} {st : List Int × List Spt} (h : bt s c ≠ 46) :
    rvRow fx fy R s k st (c + 1) = rvPut (rvRow fx fy R s k st c) (bt s c - 65) ⟨fx + 8 * (c : Int), fy + 8 * ((R : Int) - 1 - (k : Int))⟩ := by
  conv => lhs; unfold rvRow
  rw [if_neg h]
def St26 (st : List Int × List Spt) : Prop := st.1.length = 26 ∧ st.2.length = 26
theorem rvPut_26 {st : List Int × List Spt} (h : St26 st) (i : Nat) (a : Spt) : St26 (rvPut st i a) := by
  unfold St26 rvPut; simp only [List.length_set]; exact h
theorem rvRow_26 {fx fy : Int} {R k : Nat} {s : ByteArray} {st : List Int × List Spt} (h : St26 st) (c : Nat) : St26 (rvRow fx fy R s k st c) := by
  induction c with
  | zero => exact h
  | succ c ih => unfold rvRow; split; exact ih; exact rvPut_26 ih _ _
theorem rvAll_26 (fx fy : Int) (R : Nat) (l : List ByteArray) (k : Nat) : St26 (rvAll fx fy R l k) := by
  induction k with
  | zero => exact ⟨by simp [rvAll], by simp [rvAll]⟩
  | succ k ih => exact rvRow_26 ih _
theorem gi_put {st : List Int × List Spt} {i j : Nat} {a : Spt} (hj : j < st.1.length) : gi (rvPut st i a).1 j = if i = j then gi st.1 i + 1 else gi st.1 j := by
  unfold rvPut; exact gi_set _ hj
theorem rvRow_up {fx fy : Int} {R k : Nat} {s : ByteArray} {st : List Int × List Spt} (h : St26 st) (c : Nat) {j : Nat} (hj : j < 26) :
    gi (rvRow fx fy R s k st c).1 j ≤ gi (rvRow fx fy R s k st (c + 1)).1 j ∧ gi (rvRow fx fy R s k st (c + 1)).1 j ≤ gi (rvRow fx fy R s k st c).1 j + 1 := by
  have h9 := (rvRow_26 (fx := fx) (fy := fy) (R := R) (k := k) (s := s) h c).1
  by_cases e : bt s c = 46
  · rw [rvRow_dot e]; omega
  · rw [rvRow_put e, gi_put (by omega)]
    split
    · subst_vars; omega
    · omega
theorem rvRow_mono {fx fy : Int} {R k : Nat} {s : ByteArray} {st : List Int × List Spt} (h : St26 st) {j : Nat} (hj : j < 26) (c n : Nat) (hn : c ≤ n) : gi (rvRow fx fy R s k st c).1 j ≤ gi (rvRow fx fy R s k st n).1 j := by
  induction n with
  | zero => obtain rfl : c = 0 := by omega
            exact Int.le_refl _
  | succ n ih =>
    by_cases e : c = n + 1
    · subst e; exact Int.le_refl _
    · have := ih (by omega)
      have := (rvRow_up (fx := fx) (fy := fy) (R := R) (k := k) (s := s) h n hj).1
      omega
theorem rvRow_le {fx fy : Int} {R k : Nat} {s : ByteArray} {st : List Int × List Spt} (h : St26 st) {j : Nat} (hj : j < 26) (c : Nat) : gi (rvRow fx fy R s k st c).1 j ≤ gi st.1 j + c := by
  induction c with
  | zero => show gi st.1 j ≤ _; omega
  | succ c ih =>
    have := (rvRow_up (fx := fx) (fy := fy) (R := R) (k := k) (s := s) h c hj).2
    omega
theorem rvAll_mono {fx fy : Int} {R : Nat} {l : List ByteArray} {j : Nat} (hj : j < 26) (k n : Nat) (hn : k ≤ n) : gi (rvAll fx fy R l k).1 j ≤ gi (rvAll fx fy R l n).1 j := by
  induction n with
  | zero => obtain rfl : k = 0 := by omega
            exact Int.le_refl _
  | succ n ih =>
    by_cases e : k = n + 1
    · subst e; exact Int.le_refl _
    · have := ih (by omega)
      have h2 := rvRow_mono (fx := fx) (fy := fy) (R := R) (k := n) (s := gx strRec l n) (rvAll_26 fx fy R l n) hj 0 (gx strRec l n).size (Nat.zero_le _)
      have : gi (rvAll fx fy R l n).1 j ≤ gi (rvAll fx fy R l (n + 1)).1 j := h2
      omega
theorem gi_zeros {n j : Nat} (h : j < n) : gi (List.replicate n 0) j = 0 := by rw [gi_eq (by simpa using h), List.getElem_replicate]
theorem rvAll_ge {fx fy : Int} {R : Nat} {l : List ByteArray} {j : Nat} (hj : j < 26) (k : Nat) : 0 ≤ gi (rvAll fx fy R l k).1 j := by
  have h := rvAll_mono (fx := fx) (fy := fy) (R := R) (l := l) hj 0 k (Nat.zero_le _)
  have e : gi (rvAll fx fy R l 0).1 j = 0 := by
    exact gi_zeros hj
  omega
theorem rvAll_le {fx fy : Int} {R : Nat} {l : List ByteArray} {j m : Nat} (hj : j < 26) (k : Nat) (hs : ∀ i, i < k → (gx strRec l i).size ≤ m) : gi (rvAll fx fy R l k).1 j ≤ (k * m : Nat) := by
  induction k with
  | zero =>
    have e : gi (rvAll fx fy R l 0).1 j = 0 := by
      exact gi_zeros hj
    rw [e]; omega
  | succ k ih =>
    have h1 := ih fun i hi => hs i (by omega)
    have h2 : gi (rvAll fx fy R l (k + 1)).1 j ≤ gi (rvAll fx fy R l k).1 j + (gx strRec l k).size := rvRow_le (rvAll_26 fx fy R l k) hj _
    have h3 := hs k (by omega)
    have h4 : (k + 1) * m = k * m + m := Nat.succ_mul k m
    rw [h4]
    omega
/-- How many ones lead. -/
def ones (F : List Int) : Nat := (F.takeWhile (· == 1)).length
theorem ones_le (F : List Int) : ones F ≤ F.length := by unfold ones; exact (List.takeWhile_sublist _).length_le
theorem ones_at (F : List Int) : ∀ i, i < ones F → gi F i = 1 := by
  induction F with
  | nil => intro i hi; simp [ones] at hi
  | cons x F ih =>
    intro i hi
    unfold ones at hi
    rw [List.takeWhile_cons] at hi
    split at hi
    · rename_i hx
      have hx2 : x = 1 := by simpa using hx
      cases i with
      | zero => simp [gi]; exact hx2
      | succ i =>
        have := ih i (by unfold ones; simp at hi; omega)
        simpa [gi] using this
    · simp at hi
theorem ones_end (F : List Int) (h : ones F < F.length) : gi F (ones F) ≠ 1 := by
  induction F with
  | nil => simp [ones] at h
  | cons x F ih =>
    by_cases hx : x = 1
    · have e : ones (x :: F) = ones F + 1 := by unfold ones; rw [List.takeWhile_cons, if_pos (by simpa using hx)]; rfl
      rw [e] at h ⊢
      have := ih (by simpa using h)
      simpa [gi] using this
    · have e : ones (x :: F) = 0 := by unfold ones; rw [List.takeWhile_cons, if_neg (by simpa using hx)]; rfl
      rw [e]
      simpa [gi] using hx
theorem ones_is {F : List Int} {n : Nat} (h1 : ∀ i, i < n → gi F i = 1) (hn : n ≤ F.length) (h2 : n < F.length → gi F n ≠ 1) : ones F = n := by
  rcases Nat.lt_trichotomy (ones F) n with h | h | h
  · exact absurd (h1 _ h) (ones_end F (by omega))
  · exact h
  · exact absurd (ones_at F n h) (h2 (by have := ones_le F; omega))
def restZero (F : List Int) : Bool := (F.drop (ones F)).all (· == 0)
theorem restZero_no {F : List Int} {i : Nat} (hi : i < F.length) (h0 : ones F ≤ i) (hx : gi F i ≠ 0) : restZero F = false := by
  unfold restZero
  rw [List.all_eq_false]
  refine ⟨gi F i, ?_, by simpa using hx⟩
  rw [List.mem_iff_getElem?]
  exact ⟨i - ones F, by rw [List.getElem?_drop, show ones F + (i - ones F) = i by omega, gi_eq hi, List.getElem?_eq_getElem hi]⟩
theorem restZero_yes {F : List Int} (h : ∀ i, ones F ≤ i → i < F.length → gi F i = 0) : restZero F = true := by
  unfold restZero
  rw [List.all_eq_true]
  intro x hx
  obtain ⟨i, hi, rfl⟩ := List.getElem_of_mem hx
  rw [List.length_drop] at hi
  rw [List.getElem_drop]
  have := h (ones F + i) (by omega) (by omega)
  rw [gi_eq (by omega)] at this
  simpa using this
def chartR (l : List Spt) : List Spt × Bool := if isChart l then (l, true) else ([], false)
theorem chartR_yes {l : List Spt} (h : isChart l = true) : chartR l = (l, true) := by unfold chartR; rw [h]; rfl
theorem chartR_no {l : List Spt} (h : isChart l = false) : chartR l = ([], false) := by unfold chartR; rw [h]; rfl
def rvRes (st : List Int × List Spt) : List Spt × Bool := if restZero st.1 then chartR (st.2.take (ones st.1)) else ([], false)
theorem rvRes_no {st : List Int × List Spt} (h : restZero st.1 = false) : rvRes st = ([], false) := by unfold rvRes; rw [h]; rfl
theorem rvRes_yes {st : List Int × List Spt} (h : restZero st.1 = true) : rvRes st = chartR (st.2.take (ones st.1)) := by unfold rvRes; rw [h]; rfl
/-- Twice a letter: no chart. -/
theorem rvRes_twice {st : List Int × List Spt} {i : Nat} (hi : i < st.1.length) (h : 2 ≤ gi st.1 i) : rvRes st = ([], false) := by
  refine rvRes_no (restZero_no hi ?_ (by omega))
  rcases Nat.lt_or_ge i (ones st.1) with h2 | h2
  · have := ones_at _ i h2; omega
  · exact h2
/-- The sum of numbers. -/
def sumI : List Int → Int
  | [] => 0
  | x :: l => x + sumI l
theorem sumI_append (a b : List Int) : sumI (a ++ b) = sumI a + sumI b := by
  induction a with
  | nil => simp [sumI]
  | cons x a ih => simp [sumI, ih]; omega
theorem sumI_set (F : List Int) : ∀ i, i < F.length → ∀ x, sumI (F.set i x) = sumI F - gi F i + x := by
  induction F with
  | nil => intro i h; simp at h
  | cons y F ih =>
    intro i h x
    cases i with
    | zero => simp [sumI, gi]; omega
    | succ i =>
      have := ih i (by simpa using h) x
      have e : gi (y :: F) (i + 1) = gi F i := by simp [gi]
      simp only [List.set_cons_succ, sumI, e]
      omega
def Bits (F : List Int) : Prop := ∀ i, i < F.length → gi F i = 0 ∨ gi F i = 1
theorem sumI_bd (F : List Int) (h : Bits F) : 0 ≤ sumI F ∧ sumI F ≤ F.length := by
  induction F with
  | nil => simp [sumI]
  | cons x F ih =>
    have h0 := h 0 (by simp)
    have e0 : gi (x :: F) 0 = x := by simp [gi]
    rw [e0] at h0
    have := ih fun i hi => by
      have := h (i + 1) (by simpa using hi)
      simpa [gi] using this
    simp only [sumI, List.length_cons]
    omega
theorem sumI_pos {F : List Int} (h : Bits F) {i : Nat} (hi : i < F.length) (hx : gi F i = 1) : 1 ≤ sumI F := by
  have h2 := sumI_set F i hi 0
  have hb : Bits (F.set i 0) := by
    intro j hj
    rw [List.length_set] at hj
    rw [gi_set _ hj]
    split
    · exact .inl rfl
    · exact h j hj
  have := (sumI_bd _ hb).1
  omega
theorem sumI_ones (n : Nat) : ∀ F : List Int, n ≤ F.length → (∀ i, i < n → gi F i = 1) → sumI (F.take n) = n := by
  induction n with
  | zero => intro F _ _; simp [sumI]
  | succ n ih =>
    intro F h h1
    cases F with
    | nil => simp at h
    | cons x F =>
      have h0 := h1 0 (by omega)
      have e0 : gi (x :: F) 0 = x := by simp [gi]
      rw [e0] at h0
      have := ih F (by simpa using h) fun i hi => by
        have := h1 (i + 1) (by omega)
        simpa [gi] using this
      simp only [List.take_succ_cons, sumI, this, h0]
      omega
theorem bits_drop {F : List Int} (h : Bits F) (n : Nat) : Bits (F.drop n) := by
  intro i hi
  rw [List.length_drop] at hi
  have := h (n + i) (by omega)
  rw [gi_eq (by omega)] at this
  rw [gi_eq (by rw [List.length_drop]; exact hi), List.getElem_drop]
  exact this
theorem gi_drop {F : List Int} {n i : Nat} (hi : n + i < F.length) : gi (F.drop n) i = gi F (n + i) := by
  rw [gi_eq hi, gi_eq (by rw [List.length_drop]; omega), List.getElem_drop]
/-- A letter lacks: no chart. -/
theorem rvRes_lack {st : List Int × List Spt} (hb : Bits st.1) {i : Nat} (hi : (i : Int) < sumI st.1) (h1 : ∀ j, j < i → gi st.1 j = 1) (h0 : gi st.1 i = 0) : rvRes st = ([], false) := by
  have h26 := (sumI_bd _ hb).2
  have hn : ones st.1 = i := ones_is h1 (by omega) (fun _ => by omega)
  have ht := sumI_ones i st.1 (by omega) h1
  have hs : sumI st.1 = sumI (st.1.take i) + sumI (st.1.drop i) := by rw [← sumI_append, List.take_append_drop]
  cases hz : restZero st.1
  · exact rvRes_no hz
  · exfalso
    have : ∀ n, ∀ G : List Int, G.length = n → G.all (· == 0) = true → sumI G = 0 := by
      intro n
      induction n with
      | zero => intro G hG _; rw [List.length_eq_zero_iff] at hG; subst hG; rfl
      | succ n ih =>
        intro G hG hall
        cases G with
        | nil => rfl
        | cons x G =>
          rw [List.all_cons, Bool.and_eq_true] at hall
          have hx : x = 0 := by simpa using hall.1
          have := ih G (by simpa using hG) hall.2
          simp only [sumI, hx, this]; omega
    unfold restZero at hz
    rw [hn] at hz
    have := this _ _ rfl hz
    omega
/-- All letters there: a chart, if it is one. -/
theorem rvRes_full {st : List Int × List Spt} (hb : Bits st.1) {m : Nat} (hm : sumI st.1 = m) (h1 : ∀ j, j < m → gi st.1 j = 1) : rvRes st = chartR (st.2.take m) := by
  have h26 := (sumI_bd _ hb).2
  have ht := sumI_ones m st.1 (by omega) h1
  have hs : sumI st.1 = sumI (st.1.take m) + sumI (st.1.drop m) := by rw [← sumI_append, List.take_append_drop]
  have hd : ∀ i, m ≤ i → i < st.1.length → gi st.1 i = 0 := by
    intro i hi hl
    rcases hb i hl with h | h
    · exact h
    · exfalso
      have h2 : gi (st.1.drop m) (i - m) = 1 := by rw [gi_drop (by omega), show m + (i - m) = i by omega]; exact h
      have := sumI_pos (bits_drop hb m) (i := i - m) (by rw [List.length_drop]; omega) h2
      omega
  have hn : ones st.1 = m := ones_is h1 (by omega) (fun h => by rw [hd m (Nat.le_refl _) h]; decide)
  rw [rvRes_yes (restZero_yes fun i hi hl => hd i (by omega) hl), hn]
def rvAsk (fx fy fc fr : Int) (l : List ByteArray) : Bool := isFrm fx fy fc fr && isVw l && decide ((l.length : Int) = fr) && decide (((gx strRec l 0).size : Int) = fc)
/-- What ReadView returns. -/
def rRV (fx fy fc fr : Int) (l : List ByteArray) : List Spt × Bool := if rvAsk fx fy fc fr l then rvRes (rvAll fx fy l.length l l.length) else ([], false)
theorem rRV_no1 {fx fy fc fr : Int} {l : List ByteArray} (h : isFrm fx fy fc fr = false) : rRV fx fy fc fr l = ([], false) := by unfold rRV rvAsk; rw [h]; rfl
theorem rRV_no2 {fx fy fc fr : Int} {l : List ByteArray} (h : isVw l = false) : rRV fx fy fc fr l = ([], false) := by unfold rRV rvAsk; rw [h]; simp
theorem rRV_no3 {fx fy fc fr : Int} {l : List ByteArray} (h : (l.length : Int) ≠ fr) : rRV fx fy fc fr l = ([], false) := by unfold rRV rvAsk; rw [decide_eq_false h]; simp
theorem rRV_no4 {fx fy fc fr : Int} {l : List ByteArray} (h : ((gx strRec l 0).size : Int) ≠ fc) : rRV fx fy fc fr l = ([], false) := by unfold rRV rvAsk; rw [decide_eq_false h]; simp
theorem rRV_yes {fx fy fc fr : Int} {l : List ByteArray} (h1 : isFrm fx fy fc fr = true) (h2 : isVw l = true) (h3 : (l.length : Int) = fr) (h4 : ((gx strRec l 0).size : Int) = fc) :
    rRV fx fy fc fr l = rvRes (rvAll fx fy l.length l l.length) := by unfold rRV rvAsk; rw [h1, h2, decide_eq_true h3, decide_eq_true h4]; rfl
theorem chartR_len (l : List Spt) : (chartR l).1.length ≤ l.length := by unfold chartR; split <;> simp
theorem rRV_len (fx fy fc fr : Int) (l : List ByteArray) : (rRV fx fy fc fr l).1.length ≤ 26 := by
  unfold rRV
  split
  · unfold rvRes
    split
    · have h1 := chartR_len ((rvAll fx fy l.length l l.length).2.take (ones (rvAll fx fy l.length l l.length).1))
      have h2 := (rvAll_26 fx fy l.length l l.length).2
      rw [List.length_take] at h1
      omega
    · simp
  · simp
end Go.Proofs.Ytjbffahnbkpcnaa
