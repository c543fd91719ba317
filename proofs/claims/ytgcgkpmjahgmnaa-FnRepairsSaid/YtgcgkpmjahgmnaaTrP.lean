/- Plain facts on transitions: matchings, moves, swaps; nothing of the program. -/
import Derived.Test.YtgcgkpmjahgmnaaChart
import Derived.Test.YtgcgkpmjahgmnaaMcI
set_option linter.unusedSimpArgs false
set_option linter.unusedVariables false
namespace Go.Proofs.Ytgcgkpmjahgmnaa
open Go.RowKit

structure Tr where
  f : List Spt
  t : List Spt
  c : Int
  p : List Int
def hasN (l : List Int) (n : Int) : Bool := l.any fun x => x == n
theorem hasN_succ (l : List Int) (n : Int) (k : Nat) (h : k < l.length) : hasN (l.take (k + 1)) n = (hasN (l.take k) n || gi l k == n) := by
  unfold hasN
  rw [take_succ_gi l k h, List.any_append]; simp
theorem hasN_t {l : List Int} {n : Int} : hasN l n = true ↔ n ∈ l := by
  unfold hasN
  rw [List.any_eq_true]
  constructor
  · rintro ⟨x, hx, h⟩
    have : x = n := by simpa using h
    exact this ▸ hx
  · intro h; exact ⟨n, h, by simp⟩
/-- The place of performer i is in range and no other one's. -/
def mOk (p : List Int) (n i : Nat) : Bool := inR (gi p i) 0 ((n : Int) - 1) && !hasN (p.take i) (gi p i)
def isMat (p : List Int) (n : Nat) : Bool := (List.range p.length).all (mOk p n) && (p.length == n)
def mTo (p : List Int) (n k : Nat) : Prop := ∀ i, i < k → mOk p n i = true
theorem mTo_succ {p : List Int} {n k : Nat} (h : mTo p n k) (hk : mOk p n k = true) : mTo p n (k + 1) := by
  intro i hi
  by_cases e : i = k
  · subst e; exact hk
  · exact h i (by omega)
theorem isMat_no {p : List Int} {n k : Nat} (hk : k < p.length) (h : mOk p n k = false) : isMat p n = false := by
  unfold isMat
  have : (List.range p.length).all (mOk p n) = false := by
    rw [List.all_eq_false]
    exact ⟨k, by simpa using hk, by rw [h]; decide⟩
  rw [this]; rfl
theorem isMat_to {p : List Int} {n : Nat} (h : mTo p n p.length) : isMat p n = (p.length == n) := by
  unfold isMat
  have : (List.range p.length).all (mOk p n) = true := by
    rw [List.all_eq_true]
    intro i hi
    exact h i (by simpa using hi)
  rw [this]; rfl
theorem isMat_t {p : List Int} {n : Nat} (h : isMat p n = true) : p.length = n ∧ mTo p n n := by
  unfold isMat at h
  rw [Bool.and_eq_true, List.all_eq_true] at h
  have e : p.length = n := by simpa using h.2
  exact ⟨e, fun i hi => h.1 i (by simp; omega)⟩
theorem mat_in {p : List Int} {n : Nat} (h : isMat p n = true) {i : Nat} (hi : i < n) : 0 ≤ gi p i ∧ gi p i < (n : Int) := by
  have := (isMat_t h).2 i hi
  unfold mOk at this
  rw [Bool.and_eq_true] at this
  have := inR_t.1 this.1
  omega
/-- Which places are taken, bit by bit. -/
def bitsOf (l : List Int) : Nat := l.foldl (fun u k => u ||| 2 ^ k.toNat) 0
theorem bitsOf_succ (l : List Int) (k : Nat) (h : k < l.length) : bitsOf (l.take (k + 1)) = bitsOf (l.take k) ||| 2 ^ (gi l k).toNat := by
  unfold bitsOf
  rw [foldl_take_gi _ _ _ _ h]
theorem testBit_foldl (l : List Int) (u m : Nat) (h : ∀ x ∈ l, 0 ≤ x) : (l.foldl (fun u k => u ||| 2 ^ k.toNat) u).testBit m = (u.testBit m || hasN l (m : Int)) := by
  induction l generalizing u with
  | nil => simp [hasN]
  | cons x l ih =>
    rw [List.foldl_cons, ih _ (fun y hy => h y (List.mem_cons_of_mem _ hy)), Nat.testBit_or, Nat.testBit_two_pow]
    have hx := h x (List.mem_cons_self ..)
    have e : decide (x.toNat = m) = (x == (m : Int)) := by
      rw [Bool.eq_iff_iff]
      simp
      omega
    rw [e]
    show (u.testBit m || (x == (m : Int)) || hasN l m) = (u.testBit m || hasN (x :: l) m)
    unfold hasN
    rw [List.any_cons, Bool.or_assoc]
theorem testBit_bitsOf {l : List Int} {m : Nat} (h : ∀ x ∈ l, 0 ≤ x) : (bitsOf l).testBit m = hasN l (m : Int) := by
  unfold bitsOf
  rw [testBit_foldl _ _ _ h]; simp
theorem foldl_or_lt (l : List Int) (u n : Nat) (hu : u < 2 ^ n) (h : ∀ x ∈ l, x < (n : Int)) (hn : 0 < n) : l.foldl (fun u k => u ||| 2 ^ k.toNat) u < 2 ^ n := by
  induction l generalizing u with
  | nil => exact hu
  | cons x l ih =>
    rw [List.foldl_cons]
    refine ih _ (Nat.or_lt_two_pow hu (Nat.pow_lt_pow_right (by omega) ?_)) fun y hy => h y (List.mem_cons_of_mem _ hy)
    have := h x (List.mem_cons_self ..)
    omega
theorem bitsOf_lt {l : List Int} {n : Nat} (h : ∀ x ∈ l, x < (n : Int)) (hn : 0 < n) : bitsOf l < 2 ^ n := foldl_or_lt l 0 n (Nat.two_pow_pos n) h hn
theorem mTo_mem {p : List Int} {n k : Nat} (h : mTo p n k) (hk : k ≤ p.length) : ∀ x ∈ p.take k, 0 ≤ x ∧ x < (n : Int) := by
  intro x hx
  obtain ⟨i, hi, rfl⟩ := List.getElem_of_mem hx
  have hi' : i < k := by rw [List.length_take] at hi; omega
  have := h i hi'
  unfold mOk at this
  rw [Bool.and_eq_true] at this
  have h2 := inR_t.1 this.1
  rw [List.getElem_take, ← gi_eq (show i < p.length by omega)]
  omega
/-- A transition. -/
def isTr (T : Tr) : Bool := isChart T.f && isChart T.t && (T.f.length == T.t.length) && inR T.c 1 64 && isMat T.p T.f.length
def isRp (T : Tr) : Bool := isTr T && decide (T.c ≤ 16) && decide (T.f.length ≤ 6)
theorem isTr_t {T : Tr} (h : isTr T = true) : isChart T.f = true ∧ isChart T.t = true ∧ T.f.length = T.t.length ∧ 1 ≤ T.c ∧ T.c ≤ 64 ∧ isMat T.p T.f.length = true := by
  unfold isTr at h
  rw [Bool.and_eq_true, Bool.and_eq_true, Bool.and_eq_true, Bool.and_eq_true] at h
  obtain ⟨⟨⟨⟨h1, h2⟩, h3⟩, h4⟩, h5⟩ := h
  have := inR_t.1 h4
  exact ⟨h1, h2, by simpa using h3, this.1, this.2, h5⟩
theorem isRp_t {T : Tr} (h : isRp T = true) : isTr T = true ∧ T.c ≤ 16 ∧ T.f.length ≤ 6 ∧ 1 ≤ T.f.length := by
  unfold isRp at h
  rw [Bool.and_eq_true, Bool.and_eq_true] at h
  exact ⟨h.1.1, of_decide_eq_true h.1.2, of_decide_eq_true h.2, (isChart_t (isTr_t h.1.1).1).1⟩
/-- The move of a performer. -/
def mvOf (T : Tr) (i : Nat) : Mv := ⟨(gx sptRec T.f i).x, (gx sptRec T.f i).y, (gx sptRec T.t (gi T.p i).toNat).x, (gx sptRec T.t (gi T.p i).toNat).y, T.c⟩
def mvsOf (T : Tr) : List Mv := (List.range T.p.length).map (mvOf T)
theorem mvsOf_len (T : Tr) : (mvsOf T).length = T.p.length := by simp [mvsOf]
theorem mvOf_good {T : Tr} (h : isTr T = true) (hc : T.c ≤ 16) {i : Nat} (hi : i < T.f.length) : goodM (mvOf T i) := by
  obtain ⟨h1, h2, h3, h4, _, h6⟩ := isTr_t h
  have hp := mat_in h6 hi
  exact ⟨chart_spot h1 i hi, chart_spot h2 _ (by omega), h4, hc⟩
/-- The pair of performers i, k comes too close with delays. -/
def pairC (T : Tr) (L : Int) (ds : List Int) (i k : Nat) : Bool := closeB (mvOf T i) (mvOf T k) (gi ds i) (gi ds k) L
/-- How many pairs come too close: of i and those before k; in all. -/
def rowN (T : Tr) (L : Int) (ds : List Int) (i : Nat) : Nat → Nat
  | 0 => 0
  | k + 1 => rowN T L ds i k + if i < k ∧ pairC T L ds i k = true then 1 else 0
def allN (T : Tr) (L : Int) (ds : List Int) (n : Nat) : Nat → Nat
  | 0 => 0
  | i + 1 => allN T L ds n i + rowN T L ds i n
def closeN (T : Tr) (L : Int) (ds : List Int) : Nat := allN T L ds T.p.length T.p.length
def zeros (n : Nat) : List Int := List.replicate n 0
theorem gi_zeros (n i : Nat) : gi (zeros n) i = 0 := by
  unfold gi zeros
  rw [List.getD_eq_getElem?_getD, List.getElem?_replicate]
  split <;> rfl
/-- No two come too close. -/
def needsNo (T : Tr) (L : Int) : Bool := decide (closeN T L (zeros T.f.length) = 0)
def swapT (T : Tr) (i k : Nat) : Tr := ⟨T.f, T.t, T.c, (T.p.set i (gi T.p k)).set k (gi T.p i)⟩
theorem rowN_le (T : Tr) (L : Int) (ds : List Int) (i k : Nat) : rowN T L ds i k ≤ k := by
  induction k with
  | zero => exact Nat.le_refl _
  | succ k ih => unfold rowN; split <;> omega
theorem rowN_skip (T : Tr) (L : Int) (ds : List Int) (i : Nat) (k : Nat) (h : k ≤ i + 1) : rowN T L ds i k = 0 := by
  induction k with
  | zero => rfl
  | succ k ih =>
    unfold rowN
    rw [ih (by omega), if_neg (by omega)]
theorem allN_le (T : Tr) (L : Int) (ds : List Int) (n i : Nat) : allN T L ds n i ≤ i * n := by
  induction i with
  | zero => exact Nat.zero_le _
  | succ i ih =>
    unfold allN
    have := rowN_le T L ds i n
    rw [Nat.add_mul]; omega
theorem allN_0 {T : Tr} {L : Int} {ds : List Int} {n m : Nat} : allN T L ds n m = 0 ↔ ∀ i, i < m → rowN T L ds i n = 0 := by
  induction m with
  | zero => exact ⟨fun _ i hi => absurd hi (by omega), fun _ => rfl⟩
  | succ m ih =>
    unfold allN
    constructor
    · intro h i hi
      by_cases e : i = m
      · subst e; omega
      · exact ih.1 (by omega) i (by omega)
    · intro h
      rw [ih.2 (fun i hi => h i (by omega)), h m (by omega)]
theorem rowN_0 {T : Tr} {L : Int} {ds : List Int} {i n : Nat} : rowN T L ds i n = 0 ↔ ∀ k, k < n → i < k → pairC T L ds i k = false := by
  induction n with
  | zero => exact ⟨fun _ k hk => absurd hk (by omega), fun _ => rfl⟩
  | succ n ih =>
    unfold rowN
    constructor
    · intro h k hk hik
      by_cases e : k = n
      · subst e
        cases hp : pairC T L ds i k
        · rfl
        · rw [if_pos ⟨hik, hp⟩] at h; omega
      · exact ih.1 (by omega) k (by omega) hik
    · intro h
      rw [ih.2 (fun k hk => h k (by omega)), if_neg]
      rintro ⟨h1, h2⟩
      rw [h n (by omega) h1] at h2
      cases h2
theorem closeN_0 {T : Tr} {L : Int} {ds : List Int} : closeN T L ds = 0 ↔ ∀ i k, i < k → k < T.p.length → pairC T L ds i k = false := by
  unfold closeN
  rw [allN_0]
  constructor
  · intro h i k hik hk
    exact rowN_0.1 (h i (by omega)) k hk hik
  · intro h i hi
    exact rowN_0.2 fun k hk hik => h i k hik hk
/-! ### swaps -/
theorem gi_set2 (p : List Int) (i k : Nat) (hi : i < p.length) (hk : k < p.length) (a b : Int) (j : Nat) : gi ((p.set i a).set k b) j = if j = k then b else if j = i then a else gi p j := by
  unfold gi
  rw [List.getD_eq_getElem?_getD, List.getElem?_set, List.getElem?_set, List.getD_eq_getElem?_getD]
  simp only [List.length_set]
  by_cases e1 : j = k
  · subst e1; rw [if_pos rfl, if_pos rfl, if_pos hk]; rfl
  · rw [if_neg (fun h => e1 h.symm), if_neg e1]
    by_cases e2 : j = i
    · subst e2; rw [if_pos rfl, if_pos rfl, if_pos hi]; rfl
    · rw [if_neg (fun h => e2 h.symm), if_neg e2]
theorem hasN_take {p : List Int} {k : Nat} {x : Int} (hk : k ≤ p.length) : hasN (p.take k) x = true ↔ ∃ j, j < k ∧ gi p j = x := by
  rw [hasN_t]
  constructor
  · intro h
    obtain ⟨j, hj, rfl⟩ := List.getElem_of_mem h
    have hj' : j < k := by rw [List.length_take] at hj; omega
    exact ⟨j, hj', by rw [List.getElem_take, gi_eq (by omega)]⟩
  · rintro ⟨j, hj, rfl⟩
    rw [gi_eq (by omega)]
    have : (p.take k)[j]'(by rw [List.length_take]; omega) = p[j] := List.getElem_take
    rw [← this]
    exact List.getElem_mem _
theorem isMat_iff {p : List Int} {n : Nat} : isMat p n = true ↔ p.length = n ∧ (∀ i, i < n → 0 ≤ gi p i ∧ gi p i < (n : Int)) ∧ ∀ i j, j < i → i < n → gi p j ≠ gi p i := by
  constructor
  · intro h
    obtain ⟨h1, h2⟩ := isMat_t h
    refine ⟨h1, fun i hi => mat_in h hi, fun i j hj hi e => ?_⟩
    have := h2 i hi
    unfold mOk at this
    rw [Bool.and_eq_true, (hasN_take (by omega)).2 ⟨j, hj, e⟩] at this
    exact absurd this.2 (by decide)
  · rintro ⟨h1, h2, h3⟩
    unfold isMat
    rw [Bool.and_eq_true, List.all_eq_true]
    refine ⟨fun i hi => ?_, by simpa using h1⟩
    have hi : i < n := by simp at hi; omega
    unfold mOk
    rw [Bool.and_eq_true]
    refine ⟨inR_t.2 (by have := h2 i hi; omega), ?_⟩
    cases hh : hasN (p.take i) (gi p i)
    · rfl
    · obtain ⟨j, hj, e⟩ := (hasN_take (by omega)).1 hh
      exact absurd e (h3 i j hj hi)
theorem swap_mat {p : List Int} {n i k : Nat} (h : isMat p n = true) (hi : i < n) (hk : k < n) : isMat ((p.set i (gi p k)).set k (gi p i)) n = true := by
  rw [isMat_iff] at h ⊢
  obtain ⟨h1, h2, h3⟩ := h
  have h3' : ∀ a b, a < n → b < n → a ≠ b → gi p a ≠ gi p b := by
    intro a b ha hb hab e
    rcases Nat.lt_or_ge a b with h | h
    · exact h3 b a h hb e
    · exact h3 a b (by omega) ha e.symm
  refine ⟨by simp [h1], fun j hj => ?_, fun a b hb ha => ?_⟩
  · rw [gi_set2 _ _ _ (by omega) (by omega)]
    have ha := h2 i hi
    have hb := h2 k hk
    have hc := h2 j hj
    split
    · exact ha
    · split
      · exact hb
      · exact hc
  · rw [gi_set2 _ _ _ (by omega) (by omega), gi_set2 _ _ _ (by omega) (by omega)]
    have e : ∀ x, (if x = k then gi p i else if x = i then gi p k else gi p x) = gi p (if x = k then i else if x = i then k else x) := by
      intro x
      split
      · rfl
      · split <;> rfl
    have lt : ∀ x, x < n → (if x = k then i else if x = i then k else x) < n := by
      intro x hx
      split
      · exact hi
      · split
        · exact hk
        · exact hx
    rw [e, e]
    refine h3' _ _ (lt _ (by omega)) (lt _ ha) ?_
    by_cases q1 : b = k <;> by_cases q2 : b = i <;> by_cases q3 : a = k <;> by_cases q4 : a = i <;> simp only [q1, q2, q3, q4, if_true, if_false] <;> (try simp only [if_pos, ↓reduceIte]) <;> (try split) <;> omega
theorem swap_tr {T : Tr} {i k : Nat} (h : isTr T = true) (hi : i < T.f.length) (hk : k < T.f.length) : isTr (swapT T i k) = true := by
  have h6 := (isTr_t h).2.2.2.2.2
  unfold isTr at h ⊢
  rw [Bool.and_eq_true] at h ⊢
  exact ⟨h.1, swap_mat h6 hi hk⟩
theorem swap_rp {T : Tr} {i k : Nat} (h : isRp T = true) (hi : i < T.f.length) (hk : k < T.f.length) : isRp (swapT T i k) = true := by
  have h2 := swap_tr (isRp_t h).1 hi hk
  unfold isRp at h ⊢
  rw [Bool.and_eq_true, Bool.and_eq_true] at h ⊢
  exact ⟨⟨h2, h.1.2⟩, h.2⟩
/-- The first k behind i (from k on) whose swap with i repairs; the first such pair. -/
def swK (T : Tr) (L : Int) (i : Nat) : Nat → Nat → Option Nat
  | 0, _ => none
  | f + 1, k => if needsNo (swapT T i k) L then some k else swK T L i f (k + 1)
def swI (T : Tr) (L : Int) : Nat → Nat → Option (Nat × Nat)
  | 0, _ => none
  | f + 1, i => match swK T L i (T.f.length - (i + 1)) (i + 1) with
    | some k => some (i, k)
    | none => swI T L f (i + 1)
def swapR (T : Tr) (L : Int) : Option (Nat × Nat) := swI T L T.f.length 0
theorem swK_go {T : Tr} {L : Int} {i k f : Nat} (h : needsNo (swapT T i k) L = false) : swK T L i (f + 1) k = swK T L i f (k + 1) := by
  conv => lhs; unfold swK
  rw [if_neg (by rw [h]; decide)]
theorem swK_hit {T : Tr} {L : Int} {i k f : Nat} (h : needsNo (swapT T i k) L = true) : swK T L i (f + 1) k = some k := by
  unfold swK
  rw [if_pos h]
theorem swI_go {T : Tr} {L : Int} {i f : Nat} (h : swK T L i (T.f.length - (i + 1)) (i + 1) = none) : swI T L (f + 1) i = swI T L f (i + 1) := by
  conv => lhs; unfold swI
  rw [h]
theorem swI_hit {T : Tr} {L : Int} {i k f : Nat} (h : swK T L i (T.f.length - (i + 1)) (i + 1) = some k) : swI T L (f + 1) i = some (i, k) := by
  unfold swI
  rw [h]
theorem swK_some {T : Tr} {L : Int} {i f k r : Nat} (h : swK T L i f k = some r) : k ≤ r ∧ r < k + f ∧ needsNo (swapT T i r) L = true := by
  induction f generalizing k with
  | zero => cases h
  | succ f ih =>
    unfold swK at h
    split at h
    · rename_i hn
      injection h with h
      subst h
      exact ⟨Nat.le_refl _, by omega, hn⟩
    · have := ih h
      exact ⟨by omega, by omega, this.2.2⟩
theorem swI_some {T : Tr} {L : Int} {f i : Nat} {r : Nat × Nat} (h : swI T L f i = some r) : i ≤ r.1 ∧ r.1 < r.2 ∧ r.2 < T.f.length ∧ needsNo (swapT T r.1 r.2) L = true := by
  induction f generalizing i with
  | zero => cases h
  | succ f ih =>
    unfold swI at h
    split at h
    · rename_i k hk
      injection h with h
      subst h
      have := swK_some hk
      exact ⟨Nat.le_refl _, by show i < k; omega, by show k < _; omega, this.2.2⟩
    · have := ih h
      exact ⟨by omega, this.2.1, this.2.2.1, this.2.2.2⟩
end Go.Proofs.Ytgcgkpmjahgmnaa
