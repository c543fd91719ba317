/- Contracts: closures over edits, EditorsOf, in the program and in the reference. -/
import Derived.Test.YtnkbopnmfoplfaaEditFitting
import Derived.Test.YtnkbopnmfoplfaaPut
set_option linter.unusedSimpArgs false
set_option linter.unusedVariables false
namespace Go.Proofs.Ytnkbopnmfoplfaa
open Go.RowKit

/-- The first edit of which p holds, or -1. -/
def fndE (p : Edt → Bool) : List Edt → Nat → Int
  | [], _ => -1
  | x :: l, k => if p x then (k : Int) else fndE p l (k + 1)
theorem fndE_cases (p : Edt → Bool) (l : List Edt) (k : Nat) : (fndE p l k = -1 ∧ l.any p = false) ∨ (0 ≤ fndE p l k ∧ l.any p = true) := by
  induction l generalizing k with
  | nil => left; exact ⟨rfl, rfl⟩
  | cons x l ih =>
    unfold fndE
    cases h : p x
    · rw [if_neg (by decide)]
      rcases ih (k + 1) with ⟨h1, h2⟩ | ⟨h1, h2⟩
      · left; exact ⟨h1, by rw [List.any_cons, h, h2]; rfl⟩
      · right; exact ⟨h1, by rw [List.any_cons, h2]; simp⟩
    · right; rw [if_pos rfl]; exact ⟨by omega, by rw [List.any_cons, h]; rfl⟩
theorem fndE_hit {p : Edt → Bool} {l : List Edt} {k : Nat} (h : k < l.length) (e : p (gx edtRec l k) = true) : fndE p (l.drop k) k = (k : Int) := by
  rw [drop_gx edtRec l k h]; unfold fndE; rw [if_pos e]
theorem fndE_miss {p : Edt → Bool} {l : List Edt} {k : Nat} (h : k < l.length) (e : p (gx edtRec l k) = false) : fndE p (l.drop k) k = fndE p (l.drop (k + 1)) (k + 1) := by
  rw [drop_gx edtRec l k h]
  conv => lhs; unfold fndE
  rw [if_neg (by rw [e]; decide)]
/-- Of an increasing row those that occur. -/
def occ (R : List Int) (f : Edt → Int) (es : List Edt) : List Int := R.filter fun n => es.any fun x => f x == n
theorem occ_put (R : List Int) (f : Edt → Int) (es : List Edt) (k : Nat) (hs : R.Pairwise (· < ·)) (hk : k < es.length) (hn : f (gx edtRec es k) ∈ R) :
    putI (occ R f (es.take k)) (f (gx edtRec es k)) = occ R f (es.take (k + 1)) := by
  unfold occ
  rw [putI_filter R _ _ hs hn, take_succ_gx edtRec es k hk]
  apply List.filter_congr
  intro x _
  rw [List.any_append]
  simp only [List.any_cons, List.any_nil, Bool.or_false]
  congr 1
  rw [Bool.eq_iff_iff, beq_iff_eq, beq_iff_eq]; exact eq_comm
theorem occ_nil (R : List Int) (f : Edt → Int) : occ R f [] = [] := by simp [occ]
theorem occ_len (R : List Int) (f : Edt → Int) (es : List Edt) : (occ R f es).length ≤ R.length := List.length_filter_le _ _
theorem occ_no {R : List Int} {f : Edt → Int} {es : List Edt} {x : Int} (h : (es.any fun y => f y == x) = false) : occ (R ++ [x]) f es = occ R f es := by
  unfold occ; rw [List.filter_append]; simp only [List.filter_cons, List.filter_nil, h]; simp
theorem occ_yes {R : List Int} {f : Edt → Int} {es : List Edt} {x : Int} (h : (es.any fun y => f y == x) = true) : occ (R ++ [x]) f es = occ R f es ++ [x] := by
  unfold occ; rw [List.filter_append]; simp only [List.filter_cons, List.filter_nil, h]; simp

theorem off_keep {w w5 : World} {t : Value} {b o : Nat} {u : Value} (hg : w.grownBy w5 t.ownBlock) (hne : t.ownBlock ≠ some b) (hc : w.cell? ⟨b, o, none⟩ = some u) : w5.cell? ⟨b, o, none⟩ = some u := by
  have hlt := World.block_lt_of_cell? w ⟨b, o, none⟩ hc
  exact (World.cell?_of_block (w := w) (w' := w5) (hg.block b hlt (fun e => hne e.symm))).trans hc
/-! ### EditorsOf -/
/-- What EditorsOf returns. -/
def rEditors (es : List Edt) : List Int × Bool := if areEdts es then (occ (rng 1 9) Edt.e es, true) else ([], false)
theorem rEditors_no {es : List Edt} (h : areEdts es = false) : rEditors es = ([], false) := by unfold rEditors; rw [h]; rfl
theorem rEditors_yes {es : List Edt} (h : areEdts es = true) : rEditors es = (occ (rng 1 9) Edt.e es, true) := by unfold rEditors; rw [h]; rfl
theorem rEditors_len (es : List Edt) : (rEditors es).1.length ≤ 9 := by
  cases h : areEdts es
  · rw [rEditors_no h]; simp
  · rw [rEditors_yes h]
    have := occ_len (rng 1 9) Edt.e es
    rw [rng_len] at this
    exact this
end Go.Proofs.Ytnkbopnmfoplfaa
