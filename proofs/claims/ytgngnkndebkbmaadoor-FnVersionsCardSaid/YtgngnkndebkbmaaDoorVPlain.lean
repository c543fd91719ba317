/- Plain functions on versions: ways, states, common versions; nothing of the program. -/
import Derived.Test.YtgngnkndebkbmaaDoorVers
set_option linter.unusedSimpArgs false
set_option linter.unusedVariables false
namespace Go.Proofs.YtgngnkndebkbmaaDoor

/-- The parent of a version. -/
def par (l : List Ver) (i : Int) : Int := (gv l i.toNat).p
theorem areVers_parts {l : List Ver} (h : areVers l = true) : 1 ≤ l.length ∧ l.length ≤ 60 ∧ (gv l 0).p = -1 ∧ okTo l l.length := by
  unfold areVers at h
  simp only [Bool.and_eq_true, List.all_eq_true] at h
  obtain ⟨⟨h1, h2⟩, h3⟩ := h
  have := inR_t.1 h1
  refine ⟨by omega, by omega, by simpa using h2, fun i hi => h3 i (by simpa using hi)⟩
theorem ver_at {l : List Ver} (h : areVers l = true) (i : Nat) (hi : i < l.length) :
    -1 ≤ (gv l i).p ∧ (gv l i).p < (i : Int) ∧ (0 < i → 0 ≤ (gv l i).p) ∧ 0 ≤ (gv l i).k ∧ (gv l i).k ≤ 7 ∧ 0 ≤ (gv l i).v ∧ (gv l i).v ≤ 999 := by
  obtain ⟨h1, h2, h3, h4⟩ := areVers_parts h
  have h5 := h4 i hi
  unfold verOk at h5
  simp only [Bool.and_eq_true, Bool.or_eq_true] at h5
  obtain ⟨⟨h6, h7⟩, h8⟩ := h5
  have := inR_t.1 h7
  have := inR_t.1 h8
  rcases h6 with h6 | h6
  · have : i = 0 := by simpa using h6
    subst this
    omega
  · have := inR_t.1 h6
    omega
theorem par_bd {l : List Ver} (h : areVers l = true) (i : Int) (h0 : 0 ≤ i) (h1 : i < l.length) : -1 ≤ par l i ∧ par l i < i ∧ (0 < i → 0 ≤ par l i) := by
  have := ver_at h i.toNat (by omega)
  unfold par
  omega
/-- The way up from a version: itself, its parent, .. -/
def way (l : List Ver) : Nat → Int → List Int
  | 0, _ => []
  | f + 1, i => if i < 0 then [] else i :: way l f (par l i)
theorem way_neg (l : List Ver) (f : Nat) (i : Int) (h : i < 0) : way l f i = [] := by
  cases f with
  | zero => rfl
  | succ f => unfold way; rw [if_pos h]
theorem way_more {l : List Ver} (h : areVers l = true) (f f' : Nat) (i : Int) (hf : i < f) (hf' : i < f') (hi : i < l.length) : way l f i = way l f' i := by
  induction f generalizing i f' with
  | zero => rw [way_neg l 0 i (by omega), way_neg l f' i (by omega)]
  | succ f ih =>
    by_cases h0 : i < 0
    · rw [way_neg _ _ _ h0, way_neg _ _ _ h0]
    · have hp := par_bd h i (by omega) hi
      match f', hf' with
      | 0, hf' => omega
      | f' + 1, hf' =>
        unfold way
        rw [if_neg h0, if_neg h0, ih f' (par l i) (by omega) (by omega) (by omega)]
/-- The way up, of as many steps as it takes. -/
def up (l : List Ver) (i : Int) : List Int := way l (i + 1).toNat i
theorem up_neg (l : List Ver) (i : Int) (h : i < 0) : up l i = [] := way_neg _ _ _ h
theorem up_step {l : List Ver} (h : areVers l = true) (i : Int) (h0 : 0 ≤ i) (h1 : i < l.length) : up l i = i :: up l (par l i) := by
  have hp := par_bd h i h0 h1
  unfold up
  obtain ⟨f, hf⟩ : ∃ f : Nat, (i + 1).toNat = f + 1 := ⟨i.toNat, by omega⟩
  rw [hf]
  conv => lhs; unfold way
  rw [if_neg (by omega), way_more h f (par l i + 1).toNat (par l i) (by omega) (by omega) (by omega)]
theorem up_mem {l : List Ver} (h : areVers l = true) (n : Nat) : ∀ i : Int, i < n → i < l.length → ∀ k ∈ up l i, 0 ≤ k ∧ k ≤ i := by
  induction n with
  | zero => intro i hi _ k hk; rw [up_neg l i (by omega)] at hk; simp at hk
  | succ n ih =>
    intro i hi hl k hk
    by_cases h0 : i < 0
    · rw [up_neg l i h0] at hk; simp at hk
    · rw [up_step h i (by omega) hl] at hk
      have hp := par_bd h i (by omega) hl
      rcases List.mem_cons.1 hk with rfl | hk
      · omega
      · have := ih (par l i) (by omega) (by omega) k hk
        omega
theorem up_in {l : List Ver} (h : areVers l = true) {i : Int} (hl : i < l.length) : ∀ k ∈ up l i, 0 ≤ k ∧ k ≤ i := up_mem h (i + 1).toNat i (by omega) hl
theorem up_len {l : List Ver} (h : areVers l = true) (n : Nat) : ∀ i : Int, i < n → i < l.length → ((up l i).length : Int) ≤ i + 1 ∨ i < 0 := by
  induction n with
  | zero => intro i hi _; right; omega
  | succ n ih =>
    intro i hi hl
    by_cases h0 : i < 0
    · right; exact h0
    · left
      have hp := par_bd h i (by omega) hl
      rw [up_step h i (by omega) hl, List.length_cons]
      rcases ih (par l i) (by omega) (by omega) with h1 | h1
      · omega
      · rw [up_neg l _ h1]; simp; omega
theorem up_bd {l : List Ver} (h : areVers l = true) {i : Int} (hl : i < l.length) : (up l i).length ≤ l.length := by
  have h2 := (areVers_parts h).1
  rcases up_len h (i + 1).toNat i (by omega) hl with h1 | h1
  · omega
  · rw [up_neg l i h1]; simp
/-- The way to a version. -/
def wayTo (l : List Ver) (i : Int) : List Int := (up l i).reverse
theorem wayTo_in {l : List Ver} (h : areVers l = true) {i : Int} (hl : i < l.length) : ∀ k ∈ wayTo l i, 0 ≤ k ∧ k ≤ i := fun k hk => up_in h hl k (List.mem_reverse.1 hk)
theorem wayTo_len {l : List Ver} (h : areVers l = true) {i : Int} (hl : i < l.length) : (wayTo l i).length ≤ l.length := by
  unfold wayTo; rw [List.length_reverse]; exact up_bd h hl
/-- A state after one version more. -/
def put1 (l : List Ver) (s : List Int) (k : Int) : List Int := s.set (gv l k.toNat).k.toNat (gv l k.toNat).v
def blank : List Int := List.replicate 8 (-1)
def stateOf (l : List Ver) (ks : List Int) : List Int := ks.foldl (put1 l) blank
theorem put1_len (l : List Ver) (s : List Int) (k : Int) : (put1 l s k).length = s.length := by unfold put1; rw [List.length_set]
theorem stateOf_len (l : List Ver) (ks : List Int) : (stateOf l ks).length = 8 := by
  unfold stateOf
  suffices ∀ s : List Int, s.length = 8 → (ks.foldl (put1 l) s).length = 8 from this _ rfl
  intro s hs
  induction ks generalizing s with
  | nil => exact hs
  | cons k ks ih => exact ih _ (by rw [put1_len]; exact hs)
def stateAt (l : List Ver) (i : Int) : List Int := stateOf l (wayTo l i)
theorem stateAt_len (l : List Ver) (i : Int) : (stateAt l i).length = 8 := stateOf_len _ _
/-- The last common version, by a number of steps. -/
def comm2 (l : List Ver) : Nat → Int → Int → Int
  | 0, i, _ => i
  | f + 1, i, k => if i = k then i else if k < i then comm2 l f (par l i) k else comm2 l f i (par l k)
theorem comm2_more {l : List Ver} (h : areVers l = true) (f f' : Nat) (i k : Int) (hi : 0 ≤ i ∧ i < l.length) (hk : 0 ≤ k ∧ k < l.length) (hf : i + k ≤ f) (hf' : i + k ≤ f') : comm2 l f i k = comm2 l f' i k := by
  induction f generalizing i k f' with
  | zero =>
    have : i = 0 := by omega
    have : k = 0 := by omega
    subst i k
    cases f' with
    | zero => rfl
    | succ f' => simp [comm2]
  | succ f ih =>
    cases f' with
    | zero =>
      have : i = 0 := by omega
      have : k = 0 := by omega
      subst i k
      simp [comm2]
    | succ f' =>
      unfold comm2
      by_cases e : i = k
      · rw [if_pos e, if_pos e]
      · rw [if_neg e, if_neg e]
        by_cases g : k < i
        · have hp := par_bd h i hi.1 hi.2
          rw [if_pos g, if_pos g]
          exact ih f' _ _ (by omega) hk (by omega) (by omega)
        · have hp := par_bd h k hk.1 hk.2
          rw [if_neg g, if_neg g]
          exact ih f' _ _ hi (by omega) (by omega) (by omega)
def common (l : List Ver) (i k : Int) : Int := comm2 l (i + k).toNat i k
theorem common_eq (l : List Ver) (i : Int) : common l i i = i := by
  unfold common
  cases (i + i).toNat with
  | zero => rfl
  | succ f => simp [comm2]
theorem common_gt {l : List Ver} (h : areVers l = true) (i k : Int) (hi : i < l.length) (hk : 0 ≤ k ∧ k < l.length) (hg : k < i) : common l i k = common l (par l i) k := by
  have hp := par_bd h i (by omega) hi
  unfold common
  obtain ⟨f, hf⟩ : ∃ f : Nat, (i + k).toNat = f + 1 := ⟨(i + k).toNat - 1, by omega⟩
  rw [hf]
  conv => lhs; unfold comm2
  rw [if_neg (by omega), if_pos hg]
  exact comm2_more h _ _ _ _ (by omega) hk (by omega) (by omega)
theorem common_lt {l : List Ver} (h : areVers l = true) (i k : Int) (hi : 0 ≤ i ∧ i < l.length) (hk : k < l.length) (hg : i < k) : common l i k = common l i (par l k) := by
  have hp := par_bd h k (by omega) hk
  unfold common
  obtain ⟨f, hf⟩ : ∃ f : Nat, (i + k).toNat = f + 1 := ⟨(i + k).toNat - 1, by omega⟩
  rw [hf]
  conv => lhs; unfold comm2
  rw [if_neg (by omega), if_neg (by omega)]
  exact comm2_more h _ _ _ _ hi (by omega) (by omega) (by omega)
theorem common_bd {l : List Ver} (h : areVers l = true) (n : Nat) : ∀ i k : Int, i + k ≤ n → 0 ≤ i → i < l.length → 0 ≤ k → k < l.length → 0 ≤ common l i k ∧ common l i k ≤ i ∧ common l i k ≤ k := by
  induction n with
  | zero =>
    intro i k hn h1 h2 h3 h4
    have : i = 0 := by omega
    have : k = 0 := by omega
    subst i k
    rw [common_eq]; omega
  | succ n ih =>
    intro i k hn h1 h2 h3 h4
    by_cases e : i = k
    · subst e; rw [common_eq]; omega
    · by_cases g : k < i
      · have hp := par_bd h i h1 h2
        rw [common_gt h i k h2 ⟨h3, h4⟩ g]
        have := ih (par l i) k (by omega) (by omega) (by omega) h3 h4
        omega
      · have hp := par_bd h k h3 h4
        rw [common_lt h i k ⟨h1, h2⟩ h4 (by omega)]
        have := ih i (par l k) (by omega) h1 h2 (by omega) (by omega)
        omega
/-- Versions are valid and have all these indices. -/
def hasV (l : List Ver) (is : List Int) : Bool := (is.all fun i => inR i 0 ((l.length : Int) - 1)) && areVers l
theorem hasV1_t {l : List Ver} {i : Int} (h : hasV l [i] = true) : areVers l = true ∧ 0 ≤ i ∧ i < l.length := by
  unfold hasV at h
  simp only [List.all_cons, List.all_nil, Bool.and_true, Bool.and_eq_true] at h
  have := inR_t.1 h.1
  exact ⟨h.2, by omega, by omega⟩
theorem hasV2_t {l : List Ver} {i k : Int} (h : hasV l [i, k] = true) : areVers l = true ∧ 0 ≤ i ∧ i < l.length ∧ 0 ≤ k ∧ k < l.length := by
  unfold hasV at h
  simp only [List.all_cons, List.all_nil, Bool.and_true, Bool.and_eq_true] at h
  have h1 := inR_t.1 h.1.1
  have h2 := inR_t.1 h.1.2
  exact ⟨h.2, by omega, by omega, by omega, by omega⟩
/-- What the functions return. -/
def rWay (l : List Ver) (i : Int) : List Int × Bool := if hasV l [i] then (wayTo l i, true) else ([], false)
def rState (l : List Ver) (i : Int) : List Int × Bool := if hasV l [i] then (stateAt l i, true) else ([], false)
def rCommonV (l : List Ver) (i k : Int) : Int × Bool := if hasV l [i, k] then (common l i k, true) else (0, false)
/-- The keys whose values part. -/
def changed (a b : List Int) : Nat → List Int
  | 0 => []
  | n + 1 => changed a b n ++ if gi a n = gi b n then [] else [(n : Int)]
def rChanged (l : List Ver) (i k : Int) : List Int × Bool := if hasV l [i, k] then (changed (stateAt l i) (stateAt l k) 8, true) else ([], false)
theorem changed_len (a b : List Int) (n : Nat) : (changed a b n).length ≤ n := by
  induction n with
  | zero => simp [changed]
  | succ n ih => unfold changed; rw [List.length_append]; split <;> simp <;> omega
def rAdd (l : List Ver) (x : Ver) : List Ver × Bool := if areVers l && areVers (l ++ [x]) then (l ++ [x], true) else ([], false)
/-- The versions that none goes on from. -/
def follows (l : List Ver) (i : Nat) : Bool := l.any fun x => x.p == (i : Int)
def lasts (l : List Ver) : Nat → List Int
  | 0 => []
  | n + 1 => lasts l n ++ if follows l n then [] else [(n : Int)]
theorem lasts_len (l : List Ver) (n : Nat) : (lasts l n).length ≤ n := by
  induction n with
  | zero => simp [lasts]
  | succ n ih => unfold lasts; rw [List.length_append]; split <;> simp <;> omega
def rLasts (l : List Ver) : List Int × Bool := if areVers l then (lasts l l.length, true) else ([], false)
/-- Merged states: what a key has, and the keys in conflict. -/
def mergeKey (b x y : Int) : Int := if x = y ∨ y = b then x else if x = b then y else -1
def conflictKey (b x y : Int) : Bool := !(decide (x = y ∨ y = b) || decide (x = b))
def merged (b x y : List Int) : Nat → List Int
  | 0 => []
  | n + 1 => merged b x y n ++ [mergeKey (gi b n) (gi x n) (gi y n)]
def conflicts (b x y : List Int) : Nat → List Int
  | 0 => []
  | n + 1 => conflicts b x y n ++ if conflictKey (gi b n) (gi x n) (gi y n) then [(n : Int)] else []
theorem merged_len (b x y : List Int) (n : Nat) : (merged b x y n).length = n := by
  induction n with
  | zero => rfl
  | succ n ih => unfold merged; rw [List.length_append, ih]; rfl
theorem conflicts_len (b x y : List Int) (n : Nat) : (conflicts b x y n).length ≤ n := by
  induction n with
  | zero => simp [conflicts]
  | succ n ih => unfold conflicts; rw [List.length_append]; split <;> simp <;> omega
def rMerge (l : List Ver) (i k : Int) : List Int × List Int × Bool :=
  if hasV l [i, k] then (merged (stateAt l (common l i k)) (stateAt l i) (stateAt l k) 8, conflicts (stateAt l (common l i k)) (stateAt l i) (stateAt l k) 8, true) else ([], [], false)
/-- Changes copied behind a version. -/
def copyOne (l : List Ver) (c : Int) (s : List Ver × Int) (j : Int) : List Ver × Int :=
  if j ≤ c then s else (s.1 ++ [⟨s.2, (gv l j.toNat).k, (gv l j.toNat).v⟩], (s.1.length : Int))
def copied2 (l : List Ver) (i k : Int) (ks : List Int) : List Ver × Int := ks.foldl (copyOne l (common l i k)) (l, i)
def rCopy (l : List Ver) (i k : Int) : List Ver × Bool :=
  if hasV l [i, k] then if (copied2 l i k (wayTo l k)).1.length ≤ 60 then ((copied2 l i k (wayTo l k)).1, true) else ([], false) else ([], false)
theorem rWay_len (l : List Ver) (i : Int) : (rWay l i).1.length ≤ 60 := by
  unfold rWay
  split
  · rename_i h
    obtain ⟨hv, _, h1⟩ := hasV1_t h
    have := wayTo_len hv h1
    have := (areVers_parts hv).2.1
    show (wayTo l i).length ≤ 60
    omega
  · simp
theorem rState_len (l : List Ver) (i : Int) : (rState l i).1.length ≤ 8 := by
  unfold rState
  split
  · show (stateAt l i).length ≤ 8; rw [stateAt_len]; omega
  · simp
theorem rChanged_len (l : List Ver) (i k : Int) : (rChanged l i k).1.length ≤ 8 := by
  unfold rChanged
  split
  · exact changed_len _ _ 8
  · simp
theorem rLasts_len (l : List Ver) : (rLasts l).1.length ≤ 60 := by
  unfold rLasts
  split
  · rename_i h
    have := lasts_len l l.length
    have := (areVers_parts h).2.1
    show (lasts l l.length).length ≤ 60
    omega
  · simp
theorem rAdd_len (l : List Ver) (x : Ver) : (rAdd l x).1.length ≤ 60 := by
  unfold rAdd
  split
  · rename_i h
    rw [Bool.and_eq_true] at h
    exact (areVers_parts h.2).2.1
  · simp
theorem rMerge_len (l : List Ver) (i k : Int) : (rMerge l i k).1.length ≤ 8 ∧ (rMerge l i k).2.1.length ≤ 8 := by
  unfold rMerge
  split
  · exact ⟨by show (merged _ _ _ 8).length ≤ 8; rw [merged_len]; omega, conflicts_len _ _ _ 8⟩
  · simp
theorem rCopy_len (l : List Ver) (i k : Int) : (rCopy l i k).1.length ≤ 60 := by
  unfold rCopy
  split
  · split
    · assumption
    · simp
  · simp
end Go.Proofs.YtgngnkndebkbmaaDoor
