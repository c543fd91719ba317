/- Plain facts for the law on versions: ways, common versions, added ones, last ones. No function of the program. -/
import Derived.Test.YtgngnkndebkbmaaDoorStP
import Derived.Test.YtgngnkndebkbmaaDoorVPlain
set_option linter.unusedSimpArgs false
set_option linter.unusedVariables false
namespace Go.Proofs.YtgngnkndebkbmaaDoor

theorem gi_l9 {W : List Int} {x : Int} {j : Nat} (h : j < W.length) : gi (W ++ [x]) j = gi W j := by
  rw [gi_eq (by rw [List.length_append]; omega), gi_eq h, List.getElem_append_left h]
theorem gi_r9 (W : List Int) (x : Int) : gi (W ++ [x]) W.length = x := by
  rw [gi_eq (by simp)]; simp
theorem wayTo_step {l : List Ver} (h : areVers l = true) (i : Int) (h0 : 0 ≤ i) (h1 : i < l.length) : wayTo l i = wayTo l (par l i) ++ [i] := by
  unfold wayTo; rw [up_step h i h0 h1, List.reverse_cons]
theorem wayTo_neg {l : List Ver} (i : Int) (h : i < 0) : wayTo l i = [] := by unfold wayTo; rw [up_neg l i h]; rfl
def WayOk (l : List Ver) (i : Int) (W : List Int) : Prop := 1 ≤ W.length ∧ gi W 0 = 0 ∧ gi W (W.length - 1) = i ∧ ∀ j, 1 ≤ j → j < W.length → par l (gi W j) = gi W (j - 1)
theorem way_ok {l : List Ver} (h : areVers l = true) (n : Nat) : ∀ i : Int, i < n → 0 ≤ i → i < l.length → WayOk l i (wayTo l i) := by
  induction n with
  | zero => intro i hn h0; omega
  | succ n ih =>
    intro i hn h0 h1
    have hp := par_bd h i h0 h1
    rw [wayTo_step h i h0 h1]
    by_cases e : i = 0
    · subst e
      rw [wayTo_neg _ (by omega)]
      exact ⟨by simp, by simp [gi], by simp [gi], fun j hj hl => by simp at hl; omega⟩
    · obtain ⟨q1, q2, q3, q4⟩ := ih (par l i) (by omega) (hp.2.2 (by omega)) (by omega)
      obtain ⟨W, hW⟩ : ∃ W, W = wayTo l (par l i) := ⟨_, rfl⟩
      rw [← hW] at q1 q2 q3 q4 ⊢
      have hl : (W ++ [i]).length = W.length + 1 := by simp
      refine ⟨by omega, by rw [gi_l9 (by omega)]; exact q2, by rw [hl, Nat.add_sub_cancel, gi_r9], fun j hj hjl => ?_⟩
      rcases Nat.lt_or_ge j W.length with h9 | h9
      · rw [gi_l9 h9, gi_l9 (by omega)]; exact q4 j hj h9
      · obtain rfl : j = W.length := by omega
        rw [gi_r9, gi_l9 (by omega), q3]
/-- What is asked of a way that is told. -/
theorem rWay_ex (l : List Ver) (i : Int) : ∃ W ok, rWay l i = (W, ok) ∧ W.length ≤ 60 ∧ (ok = true → WayOk l i W ∧ (∀ j, j < W.length → 0 ≤ gi W j ∧ gi W j < l.length) ∧ 0 ≤ i ∧ i < l.length ∧ areVers l = true) := by
  have hlen := rWay_len l i
  refine ⟨(rWay l i).1, (rWay l i).2, rfl, hlen, fun hok => ?_⟩
  unfold rWay at hok ⊢
  split at hok
  · rename_i hh
    obtain ⟨h1, h2, h3⟩ := hasV1_t hh
    rw [if_pos hh]
    refine ⟨way_ok h1 (i + 1).toNat i (by omega) h2 h3, fun j hj => ?_, h2, h3, h1⟩
    have := wayTo_in h1 h3 (gi (wayTo l i) j) (by rw [gi_eq hj]; exact List.getElem_mem hj)
    show 0 ≤ gi (wayTo l i) j ∧ gi (wayTo l i) j < (l.length : Int)
    omega
  · cases hok
theorem common_up {l : List Ver} (h : areVers l = true) (n : Nat) : ∀ i k : Int, i + k ≤ n → 0 ≤ i → i < l.length → 0 ≤ k → k < l.length →
    common l i k ∈ up l i ∧ common l i k ∈ up l k ∧ ∀ j ∈ up l i, common l i k < j → j ∉ up l k := by
  induction n with
  | zero =>
    intro i k hn h1 h2 h3 h4
    obtain rfl : i = 0 := by omega
    obtain rfl : k = 0 := by omega
    rw [common_eq]
    refine ⟨by rw [up_step h 0 h1 h2]; simp, by rw [up_step h 0 h1 h2]; simp, fun j hj hlt => ?_⟩
    have := up_in h h2 j hj
    omega
  | succ n ih =>
    intro i k hn h1 h2 h3 h4
    have hpi := par_bd h i h1 h2
    have hpk := par_bd h k h3 h4
    rcases Int.lt_trichotomy i k with g | g | g
    · rw [common_lt h i k ⟨h1, h2⟩ h4 g]
      obtain ⟨a1, a2, a3⟩ := ih i (par l k) (by omega) h1 h2 (hpk.2.2 (by omega)) (by omega)
      refine ⟨a1, by rw [up_step h k h3 h4]; exact List.mem_cons_of_mem _ a2, fun j hj hlt => ?_⟩
      rw [up_step h k h3 h4]
      intro hm
      rcases List.mem_cons.1 hm with e | e
      · have := up_in h h2 j hj; omega
      · exact a3 j hj hlt e
    · subst g
      rw [common_eq]
      refine ⟨by rw [up_step h i h1 h2]; simp, by rw [up_step h i h1 h2]; simp, fun j hj hlt => ?_⟩
      have := up_in h h2 j hj
      omega
    · rw [common_gt h i k h2 ⟨h3, h4⟩ g]
      obtain ⟨a1, a2, a3⟩ := ih (par l i) k (by omega) (hpi.2.2 (by omega)) (by omega) h3 h4
      refine ⟨by rw [up_step h i h1 h2]; exact List.mem_cons_of_mem _ a1, a2, fun j hj hlt hm => ?_⟩
      rw [up_step h i h1 h2] at hj
      rcases List.mem_cons.1 hj with e | e
      · have := up_in h h4 j hm; omega
      · exact a3 j e hlt hm
theorem hasI_mem {l : List Int} {n : Int} (h : n ∈ l) : hasI l n = true := by
  unfold hasI; rw [List.any_eq_true]; exact ⟨n, h, by simp⟩
theorem hasI_not {l : List Int} {n : Int} (h : n ∉ l) : hasI l n = false := by
  unfold hasI; rw [List.any_eq_false]; intro x hx he; have : x = n := by simpa using he
  subst this; exact h hx
theorem hasV_both {l : List Ver} {i k : Int} (h : hasV l [i, k] = true) : hasV l [i] = true ∧ hasV l [k] = true := by
  unfold hasV at h ⊢
  simp only [List.all_cons, List.all_nil, Bool.and_true, Bool.and_eq_true] at h ⊢
  exact ⟨⟨h.1.1, h.2⟩, ⟨h.1.2, h.2⟩⟩
/-- What is asked of a common version that is told. -/
theorem rCommon_ex (l : List Ver) (i k : Int) : ∃ c ok, rCommonV l i k = (c, ok) ∧ (ok = true → ∃ X Y, rWay l i = (X, true) ∧ rWay l k = (Y, true) ∧ X.length ≤ 60 ∧ Y.length ≤ 60 ∧ hasI X c = true ∧ hasI Y c = true ∧ ∀ j, j < X.length → c < gi X j → hasI Y (gi X j) = false) := by
  refine ⟨(rCommonV l i k).1, (rCommonV l i k).2, rfl, fun hok => ?_⟩
  unfold rCommonV at hok ⊢
  split at hok
  · rename_i hh
    obtain ⟨h1, h2, h3, h4, h5⟩ := hasV2_t hh
    obtain ⟨b1, b2⟩ := hasV_both hh
    obtain ⟨a1, a2, a3⟩ := common_up h1 (i + k).toNat i k (by omega) h2 h3 h4 h5
    have e1 : rWay l i = (wayTo l i, true) := by unfold rWay; rw [if_pos b1]
    have e2 : rWay l k = (wayTo l k, true) := by unfold rWay; rw [if_pos b2]
    have l1 := rWay_len l i
    have l2 := rWay_len l k
    rw [e1] at l1
    rw [e2] at l2
    rw [if_pos hh]
    refine ⟨wayTo l i, wayTo l k, e1, e2, l1, l2, hasI_mem (by unfold wayTo; rw [List.mem_reverse]; exact a1), hasI_mem (by unfold wayTo; rw [List.mem_reverse]; exact a2), fun j hj hlt => hasI_not ?_⟩
    have hm : gi (wayTo l i) j ∈ up l i := by
      rw [gi_eq hj]
      exact List.mem_reverse.1 (List.getElem_mem hj)
    have := a3 _ hm hlt
    unfold wayTo
    rw [List.mem_reverse]
    exact this
  · cases hok
/-- What is asked of a version that is added. -/
theorem rAdd_ex (u : List Ver) (x : Ver) : ∃ V ok, rAdd u x = (V, ok) ∧ V.length ≤ 60 ∧ (ok = true → ∃ S, rState V (u.length : Int) = (S, true) ∧ S.length = 8 ∧ 0 ≤ x.k ∧ x.k ≤ 7 ∧ gi S x.k.toNat = x.v ∧ V.take u.length = u ∧ V.length = u.length + 1) := by
  have hlen := rAdd_len u x
  refine ⟨(rAdd u x).1, (rAdd u x).2, rfl, hlen, fun hok => ?_⟩
  unfold rAdd at hok ⊢
  split at hok
  · rename_i hh
    rw [if_pos hh]
    rw [Bool.and_eq_true] at hh
    obtain ⟨h1, h2⟩ := hh
    have hv := ver_at h2 u.length (by simp)
    rw [gv_last] at hv
    have hs := state_new h1 h2 (by omega)
    refine ⟨stateAt (u ++ [x]) u.length, ?_, stateAt_len _ _, by omega, by omega, ?_, by simp, by simp⟩
    · unfold rState
      rw [if_pos]
      unfold hasV
      simp only [List.all_cons, List.all_nil, Bool.and_true, Bool.and_eq_true]
      exact ⟨inR_t.2 ⟨by omega, by simp <;> omega⟩, h2⟩
    · rw [hs]
      exact gi_set_at _ (by rw [stateAt_len]; omega)
  · cases hok
theorem hasI_lasts (l : List Ver) (n i : Nat) : hasI (lasts l n) (i : Int) = (decide (i < n) && !follows l i) := by
  induction n with
  | zero => simp [lasts, hasI]
  | succ n ih =>
    have e : hasI (lasts l (n + 1)) (i : Int) = (hasI (lasts l n) (i : Int) || hasI (if follows l n then [] else [(n : Int)]) (i : Int)) := by
      conv => lhs; unfold lasts
      unfold hasI
      rw [List.any_append]
    rw [e, ih]
    by_cases h : i = n
    · subst h
      cases hf : follows l i <;> simp [hasI]
    · have h2 : decide (i < n + 1) = decide (i < n) := decide_eq_decide.2 (by omega)
      rw [h2]
      cases hf : follows l n
      · have h3 : ((n : Int) == (i : Int)) = false := by simp; omega
        simp [hasI, h3]
      · simp [hasI]
/-- What is asked of the last versions. -/
theorem lasts_has (l : List Ver) (i : Nat) (h : i < l.length) : hasI (lasts l l.length) (i : Int) = !follows l i := by
  rw [hasI_lasts, decide_eq_true h]; rfl
/-- Whether one of the first n versions goes on from a version. -/
def followsTo (l : List Ver) (i n : Nat) : Bool := (l.take n).any fun x => x.p == (i : Int)
theorem followsTo_zero (l : List Ver) (i : Nat) : followsTo l i 0 = false := by simp [followsTo]
theorem followsTo_succ {l : List Ver} {i n : Nat} (h : n < l.length) : followsTo l i (n + 1) = (followsTo l i n || (gv l n).p == (i : Int)) := by
  unfold followsTo
  have e : l.take (n + 1) = l.take n ++ [gv l n] := by
    rw [List.take_succ_eq_append_getElem h]
    simp [gv, List.getD, h]
  rw [e, List.any_append]
  simp
theorem followsTo_all (l : List Ver) (i : Nat) : followsTo l i l.length = follows l i := by unfold followsTo follows; rw [List.take_length]
end Go.Proofs.YtgngnkndebkbmaaDoor
