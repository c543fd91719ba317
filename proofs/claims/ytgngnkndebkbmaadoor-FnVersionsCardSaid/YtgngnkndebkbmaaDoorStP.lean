/- Plain facts on versions: merges are told both ways, copied changes lead to the same values. No function of the program. -/
import Derived.Test.YtgngnkndebkbmaaDoorVPlain
import Derived.Test.YtgngnkndebkbmaaDoorVCopy
set_option linter.unusedSimpArgs false
set_option linter.unusedVariables false
namespace Go.Proofs.YtgngnkndebkbmaaDoor

theorem common_sym {l : List Ver} (h : areVers l = true) (n : Nat) : ∀ i k : Int, i + k ≤ n → 0 ≤ i → i < l.length → 0 ≤ k → k < l.length → common l i k = common l k i := by
  induction n with
  | zero =>
    intro i k hn h1 h2 h3 h4
    obtain rfl : i = 0 := by omega
    obtain rfl : k = 0 := by omega
    rfl
  | succ n ih =>
    intro i k hn h1 h2 h3 h4
    by_cases e : i = k
    · subst e; rfl
    · by_cases g : k < i
      · have hp := par_bd h i h1 h2
        rw [common_gt h i k h2 ⟨h3, h4⟩ g, common_lt h k i ⟨h3, h4⟩ h2 g]
        exact ih (par l i) k (by omega) (by omega) (by omega) h3 h4
      · have hp := par_bd h k h3 h4
        rw [common_lt h i k ⟨h1, h2⟩ h4 (by omega), common_gt h k i h4 ⟨h1, h2⟩ (by omega)]
        exact ih i (par l k) (by omega) h1 h2 (by omega) (by omega)
theorem hasV_swap (l : List Ver) (i k : Int) : hasV l [i, k] = hasV l [k, i] := by
  unfold hasV
  simp only [List.all_cons, List.all_nil, Bool.and_true]
  rw [Bool.and_comm (inR i 0 _)]
theorem rCommonV_sym (l : List Ver) (i k : Int) : rCommonV l i k = rCommonV l k i := by
  unfold rCommonV
  rw [hasV_swap l k i]
  split
  · rename_i h
    obtain ⟨hv, h1, h2, h3, h4⟩ := hasV2_t h
    rw [common_sym hv (i + k).toNat i k (by omega) h1 h2 h3 h4]
  · rfl
theorem mergeKey_sym (b x y : Int) : mergeKey b x y = mergeKey b y x := by
  unfold mergeKey
  by_cases h1 : x = y
  · subst h1; rfl
  · by_cases h2 : y = b
    · subst h2
      by_cases h3 : x = y
      · exact absurd h3 h1
      · rw [if_pos (.inr rfl), if_neg (by rintro (h | h); exact h1 h.symm; exact h3 h), if_pos rfl]
    · by_cases h3 : x = b
      · subst h3
        rw [if_neg (by rintro (h | h); exact h1 h; exact h2 h), if_pos rfl, if_pos (.inr rfl)]
      · rw [if_neg (by rintro (h | h); exact h1 h; exact h2 h), if_neg h3, if_neg (by rintro (h | h); exact h1 h.symm; exact h3 h), if_neg h2]
theorem conflictKey_eq (b x y : Int) : conflictKey b x y = (!decide (x = y) && !decide (x = b) && !decide (y = b)) := by
  unfold conflictKey
  by_cases h1 : x = y <;> by_cases h2 : y = b <;> by_cases h3 : x = b <;> simp [h1, h2, h3]
theorem conflictKey_sym (b x y : Int) : conflictKey b x y = conflictKey b y x := by
  rw [conflictKey_eq, conflictKey_eq]
  have : decide (x = y) = decide (y = x) := by rw [Bool.eq_iff_iff, decide_eq_true_iff, decide_eq_true_iff]; exact eq_comm
  rw [this, Bool.and_assoc, Bool.and_assoc, Bool.and_comm (!decide (x = b))]
theorem merged_sym (b x y : List Int) (n : Nat) : merged b x y n = merged b y x n := by
  induction n with
  | zero => rfl
  | succ n ih => unfold merged; rw [ih, mergeKey_sym]
theorem conflicts_sym (b x y : List Int) (n : Nat) : conflicts b x y n = conflicts b y x n := by
  induction n with
  | zero => rfl
  | succ n ih => unfold conflicts; rw [ih, conflictKey_sym]
theorem rMerge_sym (l : List Ver) (i k : Int) : rMerge l i k = rMerge l k i := by
  unfold rMerge
  rw [hasV_swap l k i]
  split
  · rename_i h
    obtain ⟨hv, h1, h2, h3, h4⟩ := hasV2_t h
    rw [common_sym hv (i + k).toNat i k (by omega) h1 h2 h3 h4, merged_sym, conflicts_sym]
  · rfl
/-- Whether a list has a number. -/
def hasI (l : List Int) (n : Int) : Bool := l.any fun x => x == n
theorem changed_sym (a b : List Int) (n : Nat) : changed a b n = changed b a n := by
  induction n with
  | zero => rfl
  | succ n ih =>
    unfold changed
    rw [ih]
    by_cases h : gi a n = gi b n
    · rw [if_pos h, if_pos h.symm]
    · rw [if_neg h, if_neg (fun e => h e.symm)]
theorem hasI_changed (a b : List Int) (n k : Nat) (hk : k < n) : hasI (changed a b n) k = !decide (gi a k = gi b k) := by
  induction n with
  | zero => omega
  | succ n ih =>
    unfold changed hasI
    rw [List.any_append]
    by_cases e : k = n
    · subst e
      have h0 : (changed a b k).any (fun x => x == (k : Int)) = false := by
        rw [List.any_eq_false]
        intro x hx
        have : ∀ m, ∀ x ∈ changed a b m, x < (m : Int) := by
          intro m
          induction m with
          | zero => intro x hx; cases hx
          | succ m ihm =>
            intro x hx
            unfold changed at hx
            rcases List.mem_append.1 hx with h | h
            · have := ihm x h; omega
            · split at h
              · cases h
              · simp at h; omega
        have := this k x hx
        simp; omega
      rw [h0]
      by_cases h : gi a k = gi b k
      · rw [if_pos h]; simp [h]
      · rw [if_neg h]; simp [h]
    · have := ih (by omega)
      unfold hasI at this
      rw [this]
      have h1 : (if gi a n = gi b n then [] else [(n : Int)]).any (fun x => x == (k : Int)) = false := by
        rw [List.any_eq_false]
        intro x hx
        split at hx
        · cases hx
        · simp at hx; subst hx; simp; omega
      rw [h1, Bool.or_false]
theorem rChanged_sym (l : List Ver) (i k : Int) : rChanged l i k = rChanged l k i := by
  unfold rChanged
  rw [hasV_swap l k i, changed_sym]
theorem hasI_conflicts (b x y : List Int) (n k : Nat) (hk : k < n) : hasI (conflicts b x y n) k = conflictKey (gi b k) (gi x k) (gi y k) := by
  have hb : ∀ m, ∀ z ∈ conflicts b x y m, z < (m : Int) := by
    intro m
    induction m with
    | zero => intro z hz; cases hz
    | succ m ihm =>
      intro z hz
      unfold conflicts at hz
      rcases List.mem_append.1 hz with h | h
      · have := ihm z h; omega
      · split at h
        · simp at h; omega
        · cases h
  induction n with
  | zero => omega
  | succ n ih =>
    unfold conflicts hasI
    rw [List.any_append]
    by_cases e : k = n
    · subst e
      have h0 : (conflicts b x y k).any (fun z => z == (k : Int)) = false := by
        rw [List.any_eq_false]
        intro z hz
        have := hb k z hz
        simp; omega
      rw [h0]
      cases conflictKey (gi b k) (gi x k) (gi y k) <;> simp
    · have := ih (by omega)
      unfold hasI at this
      rw [this]
      have h1 : (if conflictKey (gi b n) (gi x n) (gi y n) = true then [(n : Int)] else []).any (fun z => z == (k : Int)) = false := by
        rw [List.any_eq_false]
        intro z hz
        split at hz
        · simp at hz; subst hz; simp; omega
        · cases hz
      rw [h1, Bool.or_false]
theorem gi_merged (b x y : List Int) (n k : Nat) (hk : k < n) : gi (merged b x y n) k = mergeKey (gi b k) (gi x k) (gi y k) := by
  induction n with
  | zero => omega
  | succ n ih =>
    unfold merged
    by_cases e : k = n
    · subst e
      unfold gi
      rw [List.getD_eq_getElem?_getD, List.getElem?_append_right (by rw [merged_len]; exact Nat.le_refl _), merged_len, Nat.sub_self]; rfl
    · have := ih (by omega)
      rw [← this]
      unfold gi
      rw [List.getD_eq_getElem?_getD, List.getElem?_append_left (by rw [merged_len]; omega), ← List.getD_eq_getElem?_getD]
/-! ### Copied changes -/
theorem gv_left {l : List Ver} {x : Ver} {i : Nat} (h : i < l.length) : gv (l ++ [x]) i = gv l i := by simp [gv, List.getD, List.getElem?_append_left h]
theorem gv_last (l : List Ver) (x : Ver) : gv (l ++ [x]) l.length = x := by simp [gv, List.getD]
/-- The way to an old version is what it was. -/
theorem up_snoc {l : List Ver} {x : Ver} (h : areVers l = true) (h2 : areVers (l ++ [x]) = true) (n : Nat) : ∀ i : Int, i < n → i < l.length → up (l ++ [x]) i = up l i := by
  induction n with
  | zero => intro i hi _; rw [up_neg _ _ (by omega), up_neg _ _ (by omega)]
  | succ n ih =>
    intro i hi hl
    by_cases h0 : i < 0
    · rw [up_neg _ _ h0, up_neg _ _ h0]
    · have hp := par_bd h i (by omega) hl
      have e : par (l ++ [x]) i = par l i := by unfold par; rw [gv_left (by omega)]
      rw [up_step h i (by omega) hl, up_step h2 i (by omega) (by rw [List.length_append]; simp; omega), e, ih _ (by omega) (by omega)]
theorem fold_same {l l' : List Ver} (ks : List Int) (h : ∀ k ∈ ks, gv l k.toNat = gv l' k.toNat) : ∀ s : List Int, ks.foldl (put1 l) s = ks.foldl (put1 l') s := by
  induction ks with
  | nil => intro s; rfl
  | cons k ks ih =>
    intro s
    have e : put1 l s k = put1 l' s k := by unfold put1; rw [h k (by simp)]
    rw [List.foldl_cons, List.foldl_cons, e]
    exact ih (fun j hj => h j (by simp [hj])) _
theorem state_old {l : List Ver} {x : Ver} (h : areVers l = true) (h2 : areVers (l ++ [x]) = true) {i : Int} (hl : i < l.length) : stateAt (l ++ [x]) i = stateAt l i := by
  unfold stateAt wayTo
  rw [up_snoc h h2 (i + 1).toNat i (by omega) hl]
  unfold stateOf
  refine fold_same _ (fun k hk => ?_) _
  have := up_in h hl k (List.mem_reverse.1 hk)
  exact gv_left (by omega)
theorem state_new {l : List Ver} {x : Ver} (h : areVers l = true) (h2 : areVers (l ++ [x]) = true) (hx : x.p < l.length) : stateAt (l ++ [x]) (l.length : Int) = (stateAt l x.p).set x.k.toNat x.v := by
  have hlen : ((l.length : Nat) : Int) < ((l ++ [x]).length : Int) := by rw [List.length_append, List.length_singleton]; omega
  have e : par (l ++ [x]) (l.length : Int) = x.p := by unfold par; rw [Int.toNat_natCast, gv_last]
  have h3 := state_old h h2 hx
  unfold stateAt wayTo at h3 ⊢
  rw [up_step h2 _ (by omega) hlen, e, List.reverse_cons]
  unfold stateOf at h3 ⊢
  rw [List.foldl_append, h3, List.foldl_cons, List.foldl_nil]
  unfold put1
  rw [Int.toNat_natCast, gv_last]
/-- The state behind the copies: the changes of the way that lie behind the common version are put. -/
def putBehind (l : List Ver) (c : Int) (s : List Int) (j : Int) : List Int := if j ≤ c then s else put1 l s j
theorem copied_state {l : List Ver} (hv : areVers l = true) {i k : Int} (i0 : 0 ≤ i) (i1 : i < l.length) (k1 : k < l.length) (n : Nat) (h : n ≤ (wayTo l k).length) (h60 : (copySt l i k n).1.length ≤ 60) :
    stateAt (copySt l i k n).1 (copySt l i k n).2 = ((wayTo l k).take n).foldl (putBehind l (common l i k)) (stateAt l i) := by
  induction n with
  | zero => rw [copySt_zero]; simp
  | succ n ih =>
    have hlt : n < (wayTo l k).length := h
    rw [take_succ_gi _ n hlt, List.foldl_append]
    obtain ⟨q1, q2, q3, q4⟩ := copySt_ok hv i0 i1 k1 n (by omega)
    by_cases hj : gi (wayTo l k) n ≤ common l i k
    · rw [copySt_no hlt hj] at h60 ⊢
      rw [ih (by omega) h60]
      simp [putBehind, hj]
    · have hin := wayTo_in hv k1 _ (gi_mem hlt)
      obtain ⟨j, hje⟩ := Int.eq_ofNat_of_zero_le hin.1
      obtain ⟨r1, r2, r3, r4⟩ := copySt_ok hv i0 i1 k1 (n + 1) h
      have hok2 := r4 h60
      have hy := copySt_yes (i := i) hlt hje (by omega)
      rw [hy] at h60 hok2 ⊢
      have hle : (copySt l i k n).1.length ≤ 60 := by simp at h60; omega
      have hok := q4 hle
      show stateAt ((copySt l i k n).1 ++ [_]) (((copySt l i k n).1.length : Nat) : Int) = _
      rw [state_new hok hok2 (by exact q3), ih (by omega) hle, List.foldl_cons, List.foldl_nil]
      generalize List.foldl (putBehind l (common l i k)) (stateAt l i) (List.take n (wayTo l k)) = s
      unfold putBehind
      rw [if_neg hj, hje]
      unfold put1
      rw [Int.toNat_natCast]
/-- How many of the way lie behind. -/
def behind (c : Int) (ks : List Int) : Nat := (ks.filter fun j => decide (c < j)).length
theorem copiedB_len {l : List Ver} {i k : Int} (hv : areVers l = true) (k1 : k < l.length) (n : Nat) (h : n ≤ (wayTo l k).length) : (copySt l i k n).1.length = l.length + behind (common l i k) ((wayTo l k).take n) ∧ (copySt l i k n).1.take l.length = l ∧
    (0 < behind (common l i k) ((wayTo l k).take n) → (copySt l i k n).2 = ((copySt l i k n).1.length : Int) - 1) := by
  induction n with
  | zero => rw [copySt_zero]; simp [behind]
  | succ n ih =>
    have hlt : n < (wayTo l k).length := h
    obtain ⟨a1, a2, a3⟩ := ih (by omega)
    unfold behind at *
    rw [take_succ_gi _ n hlt, List.filter_append, List.length_append]
    by_cases hj : gi (wayTo l k) n ≤ common l i k
    · have e : [gi (wayTo l k) n].filter (fun j => decide (common l i k < j)) = [] := by simp; omega
      rw [copySt_no hlt hj, e]
      exact ⟨a1, a2, a3⟩
    · have e : [gi (wayTo l k) n].filter (fun j => decide (common l i k < j)) = [gi (wayTo l k) n] := by simp; omega
      have hin := wayTo_in hv k1 _ (gi_mem hlt)
      obtain ⟨j, hje⟩ := Int.eq_ofNat_of_zero_le hin.1
      rw [copySt_yes (i := i) hlt hje (by omega), e]
      refine ⟨by simp [a1]; omega, ?_, fun _ => by simp⟩
      rw [List.take_append_of_le_length (by omega)]; exact a2
theorem gi_set_at {l : List Int} {j : Nat} (y : Int) (h : j < l.length) : gi (l.set j y) j = y := by
  unfold gi; rw [List.getD_eq_getElem?_getD, List.getElem?_set_self h]; rfl
theorem gi_set_off {l : List Int} {j i : Nat} (y : Int) (h : j ≠ i) : gi (l.set j y) i = gi l i := by
  unfold gi; rw [List.getD_eq_getElem?_getD, List.getElem?_set_ne h, ← List.getD_eq_getElem?_getD]
theorem gi_out {l : List Int} {i : Nat} (h : l.length ≤ i) : gi l i = 0 := by
  unfold gi; rw [List.getD_eq_getElem?_getD, List.getElem?_eq_none h]; rfl
theorem fold_keys (l : List Ver) (c : Int) (K : Nat) (ks : List Int) : ∀ (s s' : List Int), s.length = s'.length → (∀ x ∈ ks, c < x) → (gi s K = gi s' K ∨ ∃ j ∈ ks, (gv l j.toNat).k.toNat = K) →
    gi (ks.foldl (putBehind l c) s) K = gi (ks.foldl (put1 l) s') K := by
  induction ks with
  | nil =>
    intro s s' _ _ h
    rcases h with h | ⟨j, hj, _⟩
    · exact h
    · cases hj
  | cons x ks ih =>
    intro s s' hl hc h
    rw [List.foldl_cons, List.foldl_cons]
    have e : putBehind l c s x = put1 l s x := by unfold putBehind; rw [if_neg (by have := hc x (by simp); omega)]
    rw [e]
    refine ih _ _ (by rw [put1_len, put1_len, hl]) (fun y hy => hc y (by simp [hy])) ?_
    by_cases hk : (gv l x.toNat).k.toNat = K
    · left
      unfold put1
      by_cases hK : K < s.length
      · rw [hk, gi_set_at _ hK, gi_set_at _ (by omega)]
      · rw [gi_out (by rw [List.length_set]; omega), gi_out (by rw [List.length_set]; omega)]
    · rcases h with h | ⟨j, hj, hjk⟩
      · left; unfold put1; rw [gi_set_off _ hk, gi_set_off _ hk]; exact h
      · rcases List.mem_cons.1 hj with rfl | hj
        · exact absurd hjk hk
        · right; exact ⟨j, hj, hjk⟩
/-- What is put last at a key stands there, whatever stood before. -/
theorem fold_last (l : List Ver) (c j : Int) (hcj : c < j) (ks : List Int) : ∀ (s s' : List Int), s.length = s'.length → ks.Pairwise (· < ·) → j ∈ ks →
    gi (ks.foldl (putBehind l c) s) (gv l j.toNat).k.toNat = gi (ks.foldl (put1 l) s') (gv l j.toNat).k.toNat := by
  induction ks with
  | nil => intro s s' _ _ hj; cases hj
  | cons x ks ih =>
    intro s s' hl hp hj
    rw [List.pairwise_cons] at hp
    by_cases hx : x ≤ c
    · rw [List.foldl_cons, List.foldl_cons]
      have e : putBehind l c s x = s := by unfold putBehind; rw [if_pos hx]
      rw [e]
      rcases List.mem_cons.1 hj with rfl | hj
      · omega
      · exact ih _ _ (by rw [put1_len]; exact hl) hp.2 hj
    · exact fold_keys l c _ (x :: ks) s s' hl (fun y hy => by
        rcases List.mem_cons.1 hy with rfl | hy
        · omega
        · have := hp.1 y hy; omega) (.inr ⟨j, hj, rfl⟩)
theorem up_sorted {l : List Ver} (h : areVers l = true) (n : Nat) : ∀ i : Int, i < n → i < l.length → (up l i).Pairwise (fun a b => b < a) := by
  induction n with
  | zero => intro i hi _; rw [up_neg _ _ (by omega)]; exact List.Pairwise.nil
  | succ n ih =>
    intro i hi hl
    by_cases h0 : i < 0
    · rw [up_neg _ _ h0]; exact List.Pairwise.nil
    · have hp := par_bd h i (by omega) hl
      rw [up_step h i (by omega) hl, List.pairwise_cons]
      exact ⟨fun y hy => by have := (up_in h (i := par l i) (by omega) y hy).2; omega, ih _ (by omega) (by omega)⟩
theorem wayTo_sorted {l : List Ver} (h : areVers l = true) {i : Int} (hl : i < l.length) : (wayTo l i).Pairwise (· < ·) := by
  unfold wayTo
  rw [List.pairwise_reverse]
  exact up_sorted h (i + 1).toNat i (by omega) hl
/-- All about copied changes. -/
theorem copy_whole {l cs : List Ver} {i k : Int} (h : rCopy l i k = (cs, true)) : areVers l = true ∧ 0 ≤ i ∧ i < l.length ∧ 0 ≤ k ∧ k < l.length ∧ hasV l [i, k] = true ∧ areVers cs = true ∧ cs.take l.length = l ∧ l.length ≤ cs.length ∧ cs.length = l.length + behind (common l i k) (wayTo l k) ∧
    (0 < behind (common l i k) (wayTo l k) → ∀ j ∈ wayTo l k, common l i k < j → gi (stateAt cs ((cs.length : Int) - 1)) (gv l j.toNat).k.toNat = gi (stateAt l k) (gv l j.toNat).k.toNat) := by
  unfold rCopy at h
  split at h
  · rename_i hh
    split at h
    · rename_i h60
      injection h with e _
      obtain ⟨hv, i0, i1, k0, k1⟩ := hasV2_t hh
      have hall := copySt_all l i k
      rw [← hall] at h60 e
      obtain ⟨q1, q2, q3, q4⟩ := copySt_ok hv i0 i1 k1 _ (Nat.le_refl (wayTo l k).length)
      obtain ⟨r1, r2, r3⟩ := copiedB_len (i := i) hv k1 _ (Nat.le_refl (wayTo l k).length)
      rw [List.take_length] at r1 r3
      have hst := copied_state hv i0 i1 k1 _ (Nat.le_refl (wayTo l k).length) h60
      rw [List.take_length] at hst
      rw [e] at q1 q4 r1 r2 r3 hst h60
      refine ⟨hv, i0, i1, k0, k1, hh, q4 h60, r2, q1, r1, fun hpos j hj hcj => ?_⟩
      rw [r3 hpos] at hst
      rw [hst]
      show gi ((wayTo l k).foldl (putBehind l (common l i k)) (stateAt l i)) _ = gi ((wayTo l k).foldl (put1 l) blank) _
      exact fold_last l (common l i k) j hcj (wayTo l k) _ _ (by rw [stateAt_len]; rfl) (wayTo_sorted hv k1) hj
    · cases h
  · cases h
end Go.Proofs.YtgngnkndebkbmaaDoor
