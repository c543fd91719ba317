/- What the law FnStates asks of versions, in plain words. No function of the program. -/
import Derived.Test.YtleiijhnjaagmaaStP
set_option linter.unusedSimpArgs false
set_option linter.unusedVariables false
namespace Go.Proofs.Ytleiijhnjaagmaa

theorem hasV1_of {l : List Ver} {i : Int} (h : areVers l = true) (h0 : 0 ≤ i) (h1 : i < l.length) : hasV l [i] = true := by
  unfold hasV
  simp only [List.all_cons, List.all_nil, Bool.and_true]
  rw [inR_t.2 (by omega), h]; rfl
theorem rState_of {l : List Ver} {i : Int} (h : areVers l = true) (h0 : 0 ≤ i) (h1 : i < l.length) : rState l i = (stateAt l i, true) := by
  unfold rState
  rw [if_pos (hasV1_of h h0 h1)]
/-- What a merge, the changed keys and the states are, key by key. -/
def KeysAre (B X Y M Cf D : List Int) : Prop := ∀ n : Nat, n < 8 → hasI D n = !decide (gi X n = gi Y n) ∧ hasI Cf n = conflictKey (gi B n) (gi X n) (gi Y n) ∧ gi M n = mergeKey (gi B n) (gi X n) (gi Y n)
theorem merge_whole (l : List Ver) (i k : Int) : ∃ M Cf D ok, rMerge l i k = (M, Cf, ok) ∧ rChanged l i k = (D, ok) ∧ rMerge l k i = (M, Cf, ok) ∧ rChanged l k i = (D, ok) ∧
    (ok = true → ∃ c B X Y, rCommonV l i k = (c, true) ∧ rState l c = (B, true) ∧ rState l i = (X, true) ∧ rState l k = (Y, true) ∧ B.length = 8 ∧ X.length = 8 ∧ Y.length = 8 ∧ M.length = 8 ∧ KeysAre B X Y M Cf D) := by
  by_cases h : hasV l [i, k] = true
  · obtain ⟨hv, i0, i1, k0, k1⟩ := hasV2_t h
    have hc := common_bd hv (i + k).toNat i k (by omega) i0 i1 k0 k1
    have e1 : rMerge l i k = (merged (stateAt l (common l i k)) (stateAt l i) (stateAt l k) 8, conflicts (stateAt l (common l i k)) (stateAt l i) (stateAt l k) 8, true) := by unfold rMerge; rw [if_pos h]
    have e2 : rChanged l i k = (changed (stateAt l i) (stateAt l k) 8, true) := by unfold rChanged; rw [if_pos h]
    refine ⟨_, _, _, true, e1, e2, by rw [rMerge_sym]; exact e1, by rw [rChanged_sym]; exact e2, fun _ => ⟨common l i k, stateAt l (common l i k), stateAt l i, stateAt l k, by unfold rCommonV; rw [if_pos h], rState_of hv (by omega) (by omega), rState_of hv i0 i1, rState_of hv k0 k1, stateAt_len _ _, stateAt_len _ _, stateAt_len _ _, merged_len _ _ _ _, fun n hn => ⟨hasI_changed _ _ 8 n hn, hasI_conflicts _ _ _ 8 n hn, gi_merged _ _ _ 8 n hn⟩⟩⟩
  · have e1 : rMerge l i k = ([], [], false) := by unfold rMerge; rw [if_neg h]
    have e2 : rChanged l i k = ([], false) := by unfold rChanged; rw [if_neg h]
    exact ⟨_, _, _, false, e1, e2, by rw [rMerge_sym]; exact e1, by rw [rChanged_sym]; exact e2, fun h => by cases h⟩
theorem rState_len8 (l : List Ver) (i : Int) (h : (rState l i).2 = true) : (rState l i).1.length = 8 := by
  unfold rState at h ⊢
  split
  · exact stateAt_len _ _
  · rename_i h2; rw [if_neg h2] at h; cases h
theorem rState_ex (l : List Ver) (i : Int) : ∃ S ok, rState l i = (S, ok) ∧ (ok = true → S.length = 8) := ⟨(rState l i).1, (rState l i).2, rfl, rState_len8 l i⟩
theorem behind_zero (c : Int) (l : List Int) : behind c (l.take 0) = 0 := by simp [behind]
theorem behind_succ (c : Int) (l : List Int) (k : Nat) (h : k < l.length) : behind c (l.take (k + 1)) = behind c (l.take k) + if c < gi l k then 1 else 0 := by
  unfold behind
  rw [take_succ_gi l k h, List.filter_append, List.length_append]
  by_cases hc : c < gi l k
  · rw [if_pos hc]; simp [hc]
  · rw [if_neg hc]; simp; omega
theorem behind_le (c : Int) (l : List Int) : behind c l ≤ l.length := List.length_filter_le _ _
theorem key_at {l : List Ver} (h : areVers l = true) (j : Nat) (hj : j < l.length) : 0 ≤ (gv l j).k ∧ (gv l j).k ≤ 7 := by
  have := ver_at h j hj
  omega
/-- What the walk asks of three values of a key, and of the merged one. -/
def KC (x y z mm : Int) (b1 b2 b3 b4 b5 b6 b7 : Bool) : Prop :=
  (x != y) = b1 ∧ (x != z) = b2 ∧ (y != z) = b3 ∧ (mm == -1) = b4 ∧ (mm != x) = b5 ∧ (mm != y) = b6 ∧ conflictKey z x y = b7 ∧ (!decide (x = y)) = b1
theorem key_cases (x y z mm : Int) (h : mm = mergeKey z x y) :
    KC x y z mm false false false true false false false ∨ KC x y z mm false false false false false false false ∨ KC x y z mm false true true true false false false ∨ KC x y z mm false true true false false false false ∨
    KC x y z mm true true false true false true false ∨ KC x y z mm true true false false false true false ∨ KC x y z mm true false true true true false false ∨ KC x y z mm true false true false true false false ∨
    ∃ b5 b6, KC x y z mm true true true true b5 b6 true := by
  subst h
  by_cases h1 : x = y
  · subst h1
    have e : mergeKey z x x = x := by simp [mergeKey]
    have e2 : conflictKey z x x = false := by simp [conflictKey]
    rw [e]
    by_cases h2 : x = z
    · subst h2
      by_cases h4 : x = -1
      · left; simp [KC, h4, conflictKey]
      · right; left; simp [KC, h4, conflictKey]
    · by_cases h4 : x = -1
      · right; right; left; simp [KC, h4, e2, conflictKey]; subst h4; exact h2
      · right; right; right; left; simp [KC, h4, h2, conflictKey]
  · by_cases h3 : y = z
    · subst h3
      have e : mergeKey y x y = x := by simp [mergeKey]
      rw [e]
      by_cases h4 : x = -1
      · right; right; right; right; left; subst h4; simp [KC, h1, conflictKey]
      · right; right; right; right; right; left; simp [KC, h1, h4, conflictKey]
    · by_cases h2 : x = z
      · subst h2
        have h1' : ¬ y = x := fun h => h1 h.symm
        have e : mergeKey x x y = y := by simp [mergeKey, h1, h1']
        rw [e]
        by_cases h4 : y = -1
        · right; right; right; right; right; right; left; subst h4; simp [KC, h1, h1', conflictKey]
        · right; right; right; right; right; right; right; left; simp [KC, h1, h1', h4, conflictKey]
      · have e : mergeKey z x y = -1 := by simp [mergeKey, h1, h2, h3]
        rw [e]
        right; right; right; right; right; right; right; right
        exact ⟨_, _, by simp [h1], by simp [h2], by simp [h3], rfl, rfl, rfl, by simp [conflictKey, h1, h2, h3], by simp [h1]⟩
end Go.Proofs.Ytleiijhnjaagmaa
