/- Contracts: slices.Index and slices.Contains at integers. -/
import Derived.Test.YtombnhnhbocceaaGreatDoorHelp
import Derived.Deep.QuietTactic
import Derived.BigQuiet
set_option linter.unusedSimpArgs false
set_option linter.unusedVariables false
namespace Go.Proofs.YtombnhnhbocceaaGreatDoor
open Go.RowKit

/-- The first index of an integer, or -1. -/
def fndI (a : Int) : List Int → Nat → Int
  | [], _ => -1
  | x :: l, k => if x = a then (k : Int) else fndI a l (k + 1)
theorem fndI_cases (a : Int) (l : List Int) (k : Nat) : (fndI a l k = -1 ∧ a ∉ l) ∨ (0 ≤ fndI a l k ∧ a ∈ l) := by
  induction l generalizing k with
  | nil => left; exact ⟨rfl, by simp⟩
  | cons x l ih =>
    unfold fndI
    by_cases h : x = a
    · right; rw [if_pos h]; exact ⟨by omega, by simp [h]⟩
    · rw [if_neg h]
      rcases ih (k + 1) with ⟨h1, h2⟩ | ⟨h1, h2⟩
      · left; exact ⟨h1, by simp; exact ⟨fun e => h e.symm, h2⟩⟩
      · right; exact ⟨h1, by simp [h2]⟩
theorem drop_gi (l : List Int) (k : Nat) (h : k < l.length) : l.drop k = gi l k :: l.drop (k + 1) := by
  rw [gi_eq h]; exact List.drop_eq_getElem_cons h
theorem fndI_hit {a : Int} {l : List Int} {k : Nat} (h : k < l.length) (e : gi l k = a) : fndI a (l.drop k) k = (k : Int) := by
  rw [drop_gi l k h]; unfold fndI; rw [if_pos e]
theorem fndI_miss {a : Int} {l : List Int} {k : Nat} (h : k < l.length) (e : gi l k ≠ a) : fndI a (l.drop k) k = fndI a (l.drop (k + 1)) (k + 1) := by
  rw [drop_gi l k h]
  conv => lhs; unfold fndI
  rw [if_neg e]

end Go.Proofs.YtombnhnhbocceaaGreatDoor
