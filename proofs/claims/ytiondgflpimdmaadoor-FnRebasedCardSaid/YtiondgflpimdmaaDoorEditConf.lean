/- Contracts: the performers in conflict; merged charts. -/
import Derived.Test.YtiondgflpimdmaaDoorEditSame
set_option linter.unusedSimpArgs false
set_option linter.unusedVariables false
namespace Go.Proofs.YtiondgflpimdmaaDoor
open Go.RowKit

/-- What a performer's spot becomes, and whether there is a conflict: s before, x and y behind. -/
def mgSpot (s x y : Spt) : Spt := if x = y ∨ y = s then x else if x = s then y else s
def mgConf (s x y : Spt) : Bool := decide (x ≠ s) && decide (y ≠ s) && decide (x ≠ y)
def mgS (l x y : List Spt) : Nat → List Spt
  | 0 => []
  | n + 1 => mgS l x y n ++ [mgSpot (gx sptRec l n) (gx sptRec x n) (gx sptRec y n)]
def mgC (l x y : List Spt) : Nat → List Int
  | 0 => []
  | n + 1 => mgC l x y n ++ if mgConf (gx sptRec l n) (gx sptRec x n) (gx sptRec y n) then [(n : Int)] else []
theorem mgS_len (l x y : List Spt) (n : Nat) : (mgS l x y n).length = n := by
  induction n with
  | zero => rfl
  | succ n ih => unfold mgS; rw [List.length_append, ih]; rfl
theorem mgC_len (l x y : List Spt) (n : Nat) : (mgC l x y n).length ≤ n := by
  induction n with
  | zero => simp [mgC]
  | succ n ih => unfold mgC; rw [List.length_append]; split <;> simp <;> omega
theorem mgC_no {l x y : List Spt} {n : Nat} (h : mgConf (gx sptRec l n) (gx sptRec x n) (gx sptRec y n) = false) : mgC l x y (n + 1) = mgC l x y n := by
  conv => lhs; unfold mgC
  rw [h]; simp
theorem mgC_yes {l x y : List Spt} {n : Nat} (h : mgConf (gx sptRec l n) (gx sptRec x n) (gx sptRec y n) = true) : mgC l x y (n + 1) = mgC l x y n ++ [(n : Int)] := by
  conv => lhs; unfold mgC
  rw [h]; simp
theorem mgS_succ {l x y : List Spt} {n : Nat} {u : Spt} (h : mgSpot (gx sptRec l n) (gx sptRec x n) (gx sptRec y n) = u) : mgS l x y (n + 1) = mgS l x y n ++ [u] := by
  conv => lhs; unfold mgS
  rw [h]
theorem spt_cases (a b : Spt) : (a = b ∧ (a.x == b.x) = true ∧ (a.y == b.y) = true ∧ (a.x != b.x) = false ∧ (a.y != b.y) = false) ∨
    (a ≠ b ∧ (a.x == b.x) = true ∧ (a.y == b.y) = false ∧ (a.x != b.x) = false ∧ (a.y != b.y) = true) ∨
    (a ≠ b ∧ (a.x == b.x) = false ∧ (a.y == b.y) = true ∧ (a.x != b.x) = true ∧ (a.y != b.y) = false) ∨
    (a ≠ b ∧ (a.x == b.x) = false ∧ (a.y == b.y) = false ∧ (a.x != b.x) = true ∧ (a.y != b.y) = true) := by
  cases a; cases b
  rename_i x y z t
  by_cases h1 : x = z <;> by_cases h2 : y = t <;> simp [h1, h2]

end Go.Proofs.YtiondgflpimdmaaDoor
/- Contract of mgAll: the merged spots and the conflicts, in the reference. -/
set_option linter.unusedSimpArgs false
set_option linter.unusedVariables false
namespace Go.Proofs.YtiondgflpimdmaaDoor
open Go.RowKit

theorem mg_A {s x y : Spt} (h : x = y ∨ y = s) : mgSpot s x y = x ∧ mgConf s x y = false := by
  refine ⟨by unfold mgSpot; rw [if_pos h], ?_⟩
  unfold mgConf
  rcases h with h | h <;> simp [h]
theorem mg_C {s x y : Spt} (h1 : ¬ (x = y ∨ y = s)) (h : x = s) : mgSpot s x y = y ∧ mgConf s x y = false :=
  ⟨by unfold mgSpot; rw [if_neg h1, if_pos h], by unfold mgConf; simp [h]⟩
theorem mg_D {s x y : Spt} (h1 : ¬ (x = y ∨ y = s)) (h : x ≠ s) : mgSpot s x y = s ∧ mgConf s x y = true :=
  ⟨by unfold mgSpot; rw [if_neg h1, if_neg h], by unfold mgConf; rw [decide_eq_true h, decide_eq_true (show y ≠ s from fun e => h1 (.inr e)), decide_eq_true (show x ≠ y from fun e => h1 (.inl e))]; rfl⟩
def FreshMg (w : World) (a : List Spt) (b : List Int) (e : Ending) (w' : World) : Prop :=
  ∃ v u, e = .returned (.tuple #[v, u]) ∧ OwnRow sptRec w' w.heap.size v a ∧ OwnInts w' w.heap.size u b ∧ Apt v u ∧ Below w.heap.size w w'

end Go.Proofs.YtiondgflpimdmaaDoor
/- Contracts of EditConflicts, in the program and in the reference. -/
set_option linter.unusedSimpArgs false
set_option linter.unusedVariables false
namespace Go.Proofs.YtiondgflpimdmaaDoor
open Go.RowKit

def FreshIntsC (w : World) (r : List Int × Bool) (e : Ending) (w' : World) : Prop :=
  ∃ v, e = .returned (.tuple #[v, .bool r.2]) ∧ OwnInts w' w.heap.size v r.1 ∧ Below w.heap.size w w'
theorem ints_lo {w : World} {lo lo' : Nat} {v : Value} {l : List Int} (h : OwnInts w lo v l) (hl : lo' ≤ lo) : OwnInts w lo' v l := ownsRow_lo h hl
/-- What EditConflicts returns. -/
def rConfl (l : List Spt) (a b : List Edt) : List Int × Bool := if okBoth l a b then (mgC l (runE l a 0).1 (runE l b 0).1 l.length, true) else ([], false)
theorem rConfl_no {l : List Spt} {a b : List Edt} (h : okBoth l a b = false) : rConfl l a b = ([], false) := by unfold rConfl; rw [h]; rfl
theorem rConfl_yes {l : List Spt} {a b : List Edt} (h : okBoth l a b = true) : rConfl l a b = (mgC l (runE l a 0).1 (runE l b 0).1 l.length, true) := by unfold rConfl; rw [h]; rfl
theorem rConfl_len (l : List Spt) (a b : List Edt) : (rConfl l a b).1.length ≤ 12 := by
  cases h : okBoth l a b
  · rw [rConfl_no h]; simp
  · rw [rConfl_yes h]
    have h1 := mgC_len l (runE l a 0).1 (runE l b 0).1 l.length
    have h2 := chart_pos (okBoth_t h).1
    show (mgC l (runE l a 0).1 (runE l b 0).1 l.length).length ≤ 12
    omega
theorem run_len1 (l : List Spt) (a : List Edt) : l.length = (runE l a 0).1.length := (runE_len a l 0).1.symm
end Go.Proofs.YtiondgflpimdmaaDoor
