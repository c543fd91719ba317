/- Contracts of BothTouch, in the program and in the reference. -/
import Derived.Test.YtiondgflpimdmaaDoorEditEditors
import Derived.Test.YtiondgflpimdmaaDoorEditBoth
set_option linter.unusedSimpArgs false
set_option linter.unusedVariables false
namespace Go.Proofs.YtiondgflpimdmaaDoor
open Go.RowKit

/-- The index of the last edit of a performer, or -1. -/
def lastE (es : List Edt) (p : Int) : Nat → Int
  | 0 => -1
  | k + 1 => if (gx edtRec es k).p = p then (k : Int) else lastE es p k
theorem lastE_cases (es : List Edt) (p : Int) (k : Nat) (hk : k ≤ es.length) : (lastE es p k = -1 ∧ ((es.take k).any fun x => x.p == p) = false) ∨ (0 ≤ lastE es p k ∧ lastE es p k < k ∧ ((es.take k).any fun x => x.p == p) = true) := by
  induction k with
  | zero => left; exact ⟨rfl, by simp⟩
  | succ k ih =>
    rw [take_succ_gx edtRec es k (by omega), List.any_append]
    unfold lastE
    by_cases h : (gx edtRec es k).p = p
    · right; rw [if_pos h]; exact ⟨by omega, by omega, by simp [h]⟩
    · rw [if_neg h]
      have h2 : ((gx edtRec es k).p == p) = false := by simpa using h
      rcases ih (by omega) with ⟨h3, h4⟩ | ⟨h3, h4, h5⟩
      · left; exact ⟨h3, by rw [h4]; simp [h2]⟩
      · right; exact ⟨h3, by omega, by rw [h5]; rfl⟩
theorem lastE_pos (es : List Edt) (p : Int) : decide (0 ≤ lastE es p es.length) = es.any fun x => x.p == p := by
  have := lastE_cases es p es.length (Nat.le_refl _)
  rw [List.take_length] at this
  rcases this with ⟨h1, h2⟩ | ⟨h1, _, h2⟩
  · rw [h1, h2]; rfl
  · rw [h2]; exact decide_eq_true h1
theorem lastE_t {es : List Edt} {p : Int} {k : Nat} (h : ((gx edtRec es k).p == p) = true) : lastE es p (k + 1) = (k : Int) := by
  unfold lastE; rw [if_pos (by simpa using h)]
theorem lastE_f {es : List Edt} {p : Int} {k : Nat} (h : ((gx edtRec es k).p == p) = false) : lastE es p (k + 1) = lastE es p k := by
  conv => lhs; unfold lastE
  rw [if_neg (by simpa using h)]
/-- The performers whom both touch. -/
def touchB (a b : List Edt) : List Int := (rng 0 12).filter fun n => (a.any fun x => x.p == n) && (b.any fun x => x.p == n)
def rTouch (a b : List Edt) : List Int × Bool := if areEdts a && areEdts b then (touchB a b, true) else ([], false)
theorem rTouch_no1 {a b : List Edt} (h : areEdts a = false) : rTouch a b = ([], false) := by unfold rTouch; rw [h]; rfl
theorem rTouch_no {a b : List Edt} (h : (areEdts a && areEdts b) = false) : rTouch a b = ([], false) := by unfold rTouch; rw [h]; rfl
theorem rTouch_no2 {a b : List Edt} (h : areEdts b = false) : rTouch a b = ([], false) := rTouch_no (by rw [h]; simp)
theorem rTouch_yes {a b : List Edt} (h : (areEdts a && areEdts b) = true) : rTouch a b = (touchB a b, true) := by unfold rTouch; rw [h]; rfl
theorem touchB_len (a b : List Edt) : (touchB a b).length ≤ 12 := by
  have := List.length_filter_le (fun n => (a.any fun x => x.p == n) && (b.any fun x => x.p == n)) (rng 0 12)
  rw [rng_len] at this
  exact this
theorem rTouch_len (a b : List Edt) : (rTouch a b).1.length ≤ 12 := by
  cases h : (areEdts a && areEdts b)
  · rw [rTouch_no h]; simp
  · rw [rTouch_yes h]; exact touchB_len a b
theorem touchB_put {a b : List Edt} {k : Nat} (hk : k < a.length) (hn : (gx edtRec a k).p ∈ rng 0 12) (h : (b.any fun x => x.p == (gx edtRec a k).p) = true) :
    putI (touchB (a.take k) b) (gx edtRec a k).p = touchB (a.take (k + 1)) b := by
  unfold touchB
  rw [putI_filter _ _ _ (rng_sorted 0 12) hn, take_succ_gx edtRec a k hk]
  apply List.filter_congr
  intro x _
  rw [List.any_append]
  simp only [List.any_cons, List.any_nil, Bool.or_false]
  by_cases e : x = (gx edtRec a k).p
  · subst e; rw [h]; simp
  · have e1 : (x == (gx edtRec a k).p) = false := by simpa using e
    have e2 : ((gx edtRec a k).p == x) = false := by simp; exact fun h9 => e h9.symm
    rw [e1, e2, Bool.or_false, Bool.or_false]
theorem touchB_skip {a b : List Edt} {k : Nat} (hk : k < a.length) (h : (b.any fun x => x.p == (gx edtRec a k).p) = false) : touchB (a.take (k + 1)) b = touchB (a.take k) b := by
  unfold touchB
  rw [take_succ_gx edtRec a k hk]
  apply List.filter_congr
  intro x _
  rw [List.any_append]
  simp only [List.any_cons, List.any_nil, Bool.or_false]
  by_cases e : (gx edtRec a k).p = x
  · subst e; rw [h]; simp
  · have e2 : ((gx edtRec a k).p == x) = false := by simpa using e
    rw [e2, Bool.or_false]
/-- Of the first ones those that the second ones hold. -/
def common2 (A B : List Int) (k : Nat) : List Int := (A.take k).filter fun n => decide (n ∈ B)
theorem common2_yes {A B : List Int} {k : Nat} (hk : k < A.length) (h : decide (gi A k ∈ B) = true) : common2 A B (k + 1) = common2 A B k ++ [gi A k] := by
  unfold common2; rw [take_succ_gi A k hk, List.filter_append]; simp only [List.filter_cons, List.filter_nil, h]; simp
theorem common2_no {A B : List Int} {k : Nat} (hk : k < A.length) (h : decide (gi A k ∈ B) = false) : common2 A B (k + 1) = common2 A B k := by
  unfold common2; rw [take_succ_gi A k hk, List.filter_append]; simp only [List.filter_cons, List.filter_nil, h]; simp
theorem common2_len (A B : List Int) (k : Nat) : (common2 A B k).length ≤ k := by
  have h1 := List.length_filter_le (fun n => decide (n ∈ B)) (A.take k)
  have h2 : (A.take k).length ≤ k := List.length_take_le _ _
  unfold common2; omega
theorem common2_all (a b : List Edt) : common2 (occ (rng 0 12) Edt.p a) (occ (rng 0 12) Edt.p b) (occ (rng 0 12) Edt.p a).length = touchB a b := by
  unfold common2 touchB
  rw [List.take_length]
  unfold occ
  rw [List.filter_filter]
  apply List.filter_congr
  intro x hx
  have : decide (x ∈ (rng 0 12).filter fun n => b.any fun y => y.p == n) = b.any fun y => y.p == x := by
    rw [Bool.eq_iff_iff, decide_eq_true_iff, List.mem_filter]
    exact ⟨fun h => h.2, fun h => ⟨hx, h⟩⟩
  rw [this, Bool.and_comm]
end Go.Proofs.YtiondgflpimdmaaDoor
