/- Plain: the search for delays with the least sum, in two ways; nothing of the program. -/
import Derived.Test.YtgcgkpmjahgmnaaPlain
set_option linter.unusedSimpArgs false
set_option linter.unusedVariables false
namespace Go.Proofs.Ytgcgkpmjahgmnaa

abbrev Cl := Nat → Nat → Int → Int → Bool
/-- Does the next performer with delay d go with those before? -/
def okTo_ (cl : Cl) (ds : List Int) (d : Int) (k : Nat) : Bool := (List.range k).all fun j => !cl j ds.length (gi ds j) d
def okAdd (cl : Cl) (ds : List Int) (d : Int) : Bool := okTo_ cl ds d ds.length
theorem okTo_0 (cl : Cl) (ds : List Int) (d : Int) : okTo_ cl ds d 0 = true := rfl
theorem okTo_s (cl : Cl) (ds : List Int) (d : Int) (k : Nat) : okTo_ cl ds d (k + 1) = (okTo_ cl ds d k && !cl k ds.length (gi ds k) d) := by
  unfold okTo_
  rw [List.range_succ, List.all_append]; simp
def sumI (l : List Int) : Int := l.foldl (· + ·) 0
theorem foldl_add (l : List Int) (a : Int) : l.foldl (· + ·) a = a + sumI l := by
  unfold sumI
  induction l generalizing a with
  | nil => simp
  | cons x l ih => rw [List.foldl_cons, List.foldl_cons, ih, ih (0 + x)]; omega
theorem sumI_snoc (l : List Int) (x : Int) : sumI (l ++ [x]) = sumI l + x := by
  unfold sumI
  rw [List.foldl_append]; rfl
theorem sumI_cons (l : List Int) (x : Int) : sumI (x :: l) = x + sumI l := by
  unfold sumI
  rw [List.foldl_cons, foldl_add]
  unfold sumI; omega
/-- All that delays can be continued to, in their order. -/
def extD (cl : Cl) : Nat → List Int → List (List Int)
  | 0, ds => [ds]
  | f + 1, ds => (List.range 5).flatMap fun (d : Nat) => if okAdd cl ds d then extD cl f (ds ++ [(d : Int)]) else []
theorem extD_sum (cl : Cl) (f : Nat) (ds v : List Int) (h : v ∈ extD cl f ds) : sumI ds ≤ sumI v ∧ v.length = ds.length + f ∧ sumI v ≤ sumI ds + 4 * (f : Int) := by
  induction f generalizing ds with
  | zero =>
    unfold extD at h
    rw [List.mem_singleton] at h
    subst h
    exact ⟨Int.le_refl _, rfl, by omega⟩
  | succ f ih =>
    unfold extD at h
    rw [List.mem_flatMap] at h
    obtain ⟨d, hd, h⟩ := h
    have hd := List.mem_range.1 hd
    split at h
    · have := ih _ h
      rw [sumI_snoc, List.length_append] at this
      simp only [List.length_singleton] at this
      refine ⟨by omega, by omega, by omega⟩
    · cases h
/-! ### the program's way -/
def cutD (ds : List Int) (st : Option (List Int)) : Bool := match st with | none => false | some b => decide (sumI b ≤ sumI ds)
def goOnP (cl : Cl) : Nat → List Int → Option (List Int) → Option (List Int)
  | 0, ds, st => if cutD ds st then st else some ds
  | f + 1, ds, st => if cutD ds st then st else (List.range 5).foldl (fun s (d : Nat) => if okAdd cl ds d then goOnP cl f (ds ++ [(d : Int)]) s else s) st
def stepD (cl : Cl) (f : Nat) (ds : List Int) (st : Option (List Int)) (j : Nat) : Option (List Int) := (List.range j).foldl (fun s (d : Nat) => if okAdd cl ds d then goOnP cl f (ds ++ [(d : Int)]) s else s) st
theorem stepD_0 (cl : Cl) (f : Nat) (ds : List Int) (st : Option (List Int)) : stepD cl f ds st 0 = st := rfl
theorem stepD_s (cl : Cl) (f : Nat) (ds : List Int) (st : Option (List Int)) (j : Nat) : stepD cl f ds st (j + 1) = if okAdd cl ds j then goOnP cl f (ds ++ [(j : Int)]) (stepD cl f ds st j) else stepD cl f ds st j := by
  unfold stepD
  rw [List.range_succ, List.foldl_append]; rfl
theorem goOnP_cut {cl : Cl} {f : Nat} {ds : List Int} {st : Option (List Int)} (h : cutD ds st = true) : goOnP cl f ds st = st := by
  cases f <;> (unfold goOnP; rw [if_pos h])
theorem goOnP_0 {cl : Cl} {ds : List Int} {st : Option (List Int)} (h : cutD ds st = false) : goOnP cl 0 ds st = some ds := by
  unfold goOnP; rw [if_neg (by rw [h]; decide)]
theorem goOnP_s {cl : Cl} {f : Nat} {ds : List Int} {st : Option (List Int)} (h : cutD ds st = false) : goOnP cl (f + 1) ds st = stepD cl f ds st 5 := by
  unfold goOnP; rw [if_neg (by rw [h]; decide)]; rfl
def updD (st : Option (List Int)) (v : List Int) : Option (List Int) := match st with | none => some v | some b => if sumI v < sumI b then some v else some b
theorem foldl_upd_stay (E : List (List Int)) (b : List Int) (h : ∀ v ∈ E, sumI b ≤ sumI v) : E.foldl updD (some b) = some b := by
  induction E with
  | nil => rfl
  | cons v E ih =>
    rw [List.foldl_cons]
    have h1 := h v (List.mem_cons_self ..)
    have : updD (some b) v = some b := by unfold updD; simp only; rw [if_neg (by omega)]
    rw [this]
    exact ih fun u hu => h u (List.mem_cons_of_mem _ hu)
theorem foldl_flatMap_ {α β γ : Type} (l : List α) (g : α → List β) (h : γ → β → γ) (s : γ) : (l.flatMap g).foldl h s = l.foldl (fun s a => (g a).foldl h s) s := by
  induction l generalizing s with
  | nil => rfl
  | cons x l ih => rw [List.flatMap_cons, List.foldl_append, ih]; rfl
theorem foldl_congr_ {α γ : Type} (l : List α) (g h : γ → α → γ) (s : γ) (e : ∀ s a, g s a = h s a) : l.foldl g s = l.foldl h s := by
  have : g = h := by funext s a; exact e s a
  rw [this]
theorem goOnP_ext (cl : Cl) (f : Nat) (ds : List Int) (st : Option (List Int)) : goOnP cl f ds st = (extD cl f ds).foldl updD st := by
  induction f generalizing ds st with
  | zero =>
    unfold extD
    show goOnP cl 0 ds st = updD st ds
    cases h : cutD ds st
    · rw [goOnP_0 h]
      cases st with
      | none => rfl
      | some b =>
        unfold cutD at h
        have h := of_decide_eq_false h
        unfold updD
        simp only
        rw [if_pos (by omega)]
    · rw [goOnP_cut h]
      cases st with
      | none => cases h
      | some b =>
        unfold cutD at h
        have h := of_decide_eq_true h
        unfold updD
        simp only
        rw [if_neg (by omega)]
  | succ f ih =>
    cases h : cutD ds st
    · rw [goOnP_s h]
      unfold extD stepD
      rw [foldl_flatMap_]
      refine foldl_congr_ _ _ _ _ fun s d => ?_
      split
      · exact ih _ _
      · rfl
    · rw [goOnP_cut h]
      cases st with
      | none => cases h
      | some b =>
        unfold cutD at h
        have h := of_decide_eq_true h
        refine (foldl_upd_stay _ _ fun v hv => ?_).symm
        have := (extD_sum cl _ _ _ hv).1
        omega
/-! ### the reference's way -/
def findL {α : Type} (g : Nat → Option α) : Nat → Nat → Option α
  | 0, _ => none
  | m + 1, p => match g p with | some v => some v | none => findL g m (p + 1)
theorem findL_go {α : Type} {g : Nat → Option α} {m p : Nat} (h : g p = none) : findL g (m + 1) p = findL g m (p + 1) := by
  conv => lhs; unfold findL
  rw [h]
theorem findL_hit {α : Type} {g : Nat → Option α} {m p : Nat} {v : α} (h : g p = some v) : findL g (m + 1) p = some v := by
  unfold findL
  rw [h]
def findP (cl : Cl) : Nat → List Int → Nat → Option (List Int)
  | 0, ds, s => if 0 < s then none else some ds
  | f + 1, ds, s => findL (fun (d : Nat) => if okAdd cl ds d then findP cl f (ds ++ [(d : Int)]) (s - d) else none) (min s 4 + 1) 0
theorem findL_range {α : Type} (g : Nat → Option α) (m p : Nat) : findL g m p = (List.range m).findSome? fun i => g (p + i) := by
  induction m generalizing p with
  | zero => rfl
  | succ m ih =>
    rw [List.range_succ_eq_map, List.findSome?_cons]
    unfold findL
    simp only [Nat.add_zero]
    cases g p with
    | some v => rfl
    | none =>
      simp only
      rw [ih, List.findSome?_map]
      congr 1
      funext i
      show g (p + 1 + i) = g (p + (i + 1))
      rw [show p + 1 + i = p + (i + 1) from by omega]
theorem findSome_none {α β : Type} (l : List α) (g : α → Option β) (h : ∀ a ∈ l, g a = none) : l.findSome? g = none := List.findSome?_eq_none_iff.2 h
theorem findP_ext (cl : Cl) (f : Nat) (ds : List Int) (s : Nat) : findP cl f ds s = (extD cl f ds).find? fun v => decide (sumI v = sumI ds + (s : Int)) := by
  induction f generalizing ds s with
  | zero =>
    unfold findP extD
    rw [List.find?_cons]
    by_cases h : 0 < s
    · rw [if_pos h, decide_eq_false (by omega)]; rfl
    · rw [if_neg h, decide_eq_true (by omega)]
  | succ f ih =>
    unfold findP extD
    rw [List.find?_flatMap, findL_range]
    have e : (fun i => (fun d : Nat => if okAdd cl ds d = true then findP cl f (ds ++ [(d : Int)]) (s - d) else none) (0 + i)) = fun d : Nat => if okAdd cl ds d = true then findP cl f (ds ++ [(d : Int)]) (s - d) else none := by
      funext i; rw [Nat.zero_add]
    rw [e]
    have key : ∀ d : Nat, d ≤ s → (if okAdd cl ds d = true then findP cl f (ds ++ [(d : Int)]) (s - d) else none) = List.find? (fun v => decide (sumI v = sumI ds + (s : Int))) (if okAdd cl ds d = true then extD cl f (ds ++ [(d : Int)]) else []) := by
      intro d hd
      split
      · rw [ih]
        congr 1
        funext v
        rw [sumI_snoc, decide_eq_decide]
        omega
      · rfl
    have far : ∀ d : Nat, s < d → List.find? (fun v => decide (sumI v = sumI ds + (s : Int))) (if okAdd cl ds d = true then extD cl f (ds ++ [(d : Int)]) else []) = none := by
      intro d hd
      rw [List.find?_eq_none]
      intro v hv
      split at hv
      · have := (extD_sum cl _ _ _ hv).1
        rw [sumI_snoc] at this
        simp
        omega
      · cases hv
    have split5 : (List.range 5) = List.range (min s 4 + 1) ++ (List.range (5 - (min s 4 + 1))).map (fun i => min s 4 + 1 + i) := by
      rw [← List.range_add]
      congr 1
      omega
    rw [split5, List.findSome?_append]
    have h2 : List.findSome? (fun d : Nat => List.find? (fun v => decide (sumI v = sumI ds + (s : Int))) (if okAdd cl ds d = true then extD cl f (ds ++ [(d : Int)]) else [])) ((List.range (5 - (min s 4 + 1))).map (fun i => min s 4 + 1 + i)) = none := by
      refine findSome_none _ _ fun d hd => far d ?_
      rw [List.mem_map] at hd
      obtain ⟨i, hi, rfl⟩ := hd
      have := List.mem_range.1 hi
      omega
    rw [h2, Option.or_none]
    have : ∀ (l : List Nat), (∀ d ∈ l, d ≤ s) → List.findSome? (fun d : Nat => if okAdd cl ds d = true then findP cl f (ds ++ [(d : Int)]) (s - d) else none) l = List.findSome? (fun d : Nat => List.find? (fun v => decide (sumI v = sumI ds + (s : Int))) (if okAdd cl ds d = true then extD cl f (ds ++ [(d : Int)]) else [])) l := by
      intro l
      induction l with
      | nil => intro _; rfl
      | cons x l ihl =>
        intro h
        rw [List.findSome?_cons, List.findSome?_cons, key x (h x (List.mem_cons_self ..)), ihl fun d hd => h d (List.mem_cons_of_mem _ hd)]
    exact this _ fun d hd => by have := List.mem_range.1 hd; omega
/-- The least sum's first delays. -/
theorem foldl_upd_some (E : List (List Int)) (a : List Int) : ∃ b, E.foldl updD (some a) = some b ∧ sumI b ≤ sumI a ∧ (∀ v ∈ E, sumI b ≤ sumI v) ∧ (a :: E).find? (fun v => decide (sumI v = sumI b)) = some b := by
  induction E generalizing a with
  | nil => exact ⟨a, rfl, Int.le_refl _, fun v hv => absurd hv (by simp), by simp⟩
  | cons x E ih =>
    rw [List.foldl_cons]
    by_cases h : sumI x < sumI a
    · have e : updD (some a) x = some x := by unfold updD; simp only; rw [if_pos h]
      rw [e]
      obtain ⟨b, h1, h2, h3, h4⟩ := ih x
      refine ⟨b, h1, by omega, fun v hv => ?_, ?_⟩
      · rcases List.mem_cons.1 hv with rfl | hv
        · exact h2
        · exact h3 v hv
      · rw [List.find?_cons, decide_eq_false (by omega)]
        exact h4
    · have e : updD (some a) x = some a := by unfold updD; simp only; rw [if_neg h]
      rw [e]
      obtain ⟨b, h1, h2, h3, h4⟩ := ih a
      refine ⟨b, h1, h2, fun v hv => ?_, ?_⟩
      · rcases List.mem_cons.1 hv with rfl | hv
        · omega
        · exact h3 v hv
      · rw [List.find?_cons] at h4 ⊢
        by_cases ha : sumI a = sumI b
        · rw [decide_eq_true ha] at h4 ⊢; exact h4
        · rw [decide_eq_false ha] at h4 ⊢
          simp only at h4 ⊢
          rw [List.find?_cons, decide_eq_false (by omega)]
          exact h4
def delR (cl : Cl) (n : Nat) : Option (List Int) := goOnP cl n [] none
theorem delR_none {cl : Cl} {n : Nat} (h : delR cl n = none) : extD cl n [] = [] := by
  unfold delR at h
  rw [goOnP_ext] at h
  cases he : extD cl n [] with
  | nil => rfl
  | cons a E =>
    rw [he, List.foldl_cons] at h
    obtain ⟨b, h1, _⟩ := foldl_upd_some E a
    have e : updD none a = some a := rfl
    rw [e, h1] at h
    cases h
theorem delR_some {cl : Cl} {n : Nat} {b : List Int} (h : delR cl n = some b) : b ∈ extD cl n [] ∧ (∀ v ∈ extD cl n [], sumI b ≤ sumI v) ∧ (extD cl n []).find? (fun v => decide (sumI v = sumI b)) = some b := by
  unfold delR at h
  rw [goOnP_ext] at h
  cases he : extD cl n [] with
  | nil => rw [he] at h; cases h
  | cons a E =>
    rw [he, List.foldl_cons] at h
    obtain ⟨b', h1, h2, h3, h4⟩ := foldl_upd_some E a
    have e : updD none a = some a := rfl
    rw [e, h1] at h
    injection h with h
    subst h
    refine ⟨List.mem_of_find?_eq_some h4, fun v hv => ?_, h4⟩
    rcases List.mem_cons.1 hv with rfl | hv
    · exact h2
    · exact h3 v hv
/-- What the reference finds, sum by sum. -/
theorem find_none {cl : Cl} {n : Nat} (h : delR cl n = none) (s : Nat) : findP cl n [] s = none := by
  rw [findP_ext, delR_none h]; rfl
theorem find_less {cl : Cl} {n : Nat} {b : List Int} (h : delR cl n = some b) (s : Nat) (hs : (s : Int) < sumI b) : findP cl n [] s = none := by
  rw [findP_ext, List.find?_eq_none]
  intro v hv
  have := (delR_some h).2.1 v hv
  have e : sumI ([] : List Int) = 0 := rfl
  simp
  omega
theorem find_at {cl : Cl} {n : Nat} {b : List Int} (h : delR cl n = some b) (s : Nat) (hs : (s : Int) = sumI b) : findP cl n [] s = some b := by
  rw [findP_ext]
  have e : sumI ([] : List Int) = 0 := rfl
  rw [e, Int.zero_add, hs]
  exact (delR_some h).2.2
theorem delR_bd {cl : Cl} {n : Nat} {b : List Int} (h : delR cl n = some b) : 0 ≤ sumI b ∧ sumI b ≤ 4 * (n : Int) ∧ b.length = n := by
  have := extD_sum cl _ _ _ (delR_some h).1
  have e : sumI ([] : List Int) = 0 := rfl
  rw [e] at this
  simp only [List.length_nil] at this
  omega
/-- What is in the list of all continuations. -/
theorem mem_ext {cl : Cl} {f : Nat} {ds v : List Int} : v ∈ extD cl f ds ↔ v.length = ds.length + f ∧ v.take ds.length = ds ∧ ∀ k, ds.length ≤ k → k < ds.length + f → (0 ≤ gi v k ∧ gi v k ≤ 4 ∧ okAdd cl (v.take k) (gi v k) = true) := by
  induction f generalizing ds with
  | zero =>
    unfold extD
    rw [List.mem_singleton]
    constructor
    · rintro rfl; exact ⟨rfl, List.take_length .., fun k h1 h2 => absurd h2 (by omega)⟩
    · rintro ⟨h1, h2, _⟩
      rw [List.take_of_length_le (by omega)] at h2
      exact h2
  | succ f ih =>
    unfold extD
    rw [List.mem_flatMap]
    constructor
    · rintro ⟨d, hd, h⟩
      have hd := List.mem_range.1 hd
      split at h
      · rename_i hok
        obtain ⟨h1, h2, h3⟩ := ih.1 h
        rw [List.length_append, List.length_singleton] at h1 h2 h3
        have ht : v.take ds.length = ds := by
          have := congrArg (List.take ds.length) h2
          rw [List.take_take, Nat.min_eq_left (by omega), List.take_append_of_le_length (Nat.le_refl _), List.take_length] at this
          exact this
        refine ⟨by omega, ht, fun k hk1 hk2 => ?_⟩
        by_cases e : k = ds.length
        · subst e
          have e2 : gi v ds.length = (d : Int) := by
            have h5 := take_succ_gi v ds.length (by omega)
            rw [h2, ht] at h5
            have := List.append_cancel_left h5
            injection this with h6
            exact h6.symm
          rw [e2, ht]
          exact ⟨by omega, by omega, hok⟩
        · exact h3 k (by omega) (by omega)
      · cases h
    · rintro ⟨h1, h2, h3⟩
      obtain ⟨g1, g2, g3⟩ := h3 ds.length (Nat.le_refl _) (by omega)
      rw [h2] at g3
      obtain ⟨d, hd⟩ := Int.eq_ofNat_of_zero_le g1
      refine ⟨d, List.mem_range.2 (by omega), ?_⟩
      rw [hd] at g3
      rw [if_pos g3]
      refine ih.2 ⟨by rw [List.length_append, List.length_singleton]; omega, ?_, fun k hk1 hk2 => ?_⟩
      · rw [List.length_append, List.length_singleton, take_succ_gi v _ (by omega), h2, hd]
      · rw [List.length_append, List.length_singleton] at hk1 hk2
        exact h3 k (by omega) (by omega)
end Go.Proofs.Ytgcgkpmjahgmnaa
