/- One field of a version stored into a row of the call's own. -/
import Derived.Test.YtgngnkndebkbmaaDoorDrawV
set_option linter.unusedSimpArgs false
set_option linter.unusedVariables false
namespace Go.Proofs.YtgngnkndebkbmaaDoor
open Go.RowKit Go.Sort
theorem set_same {xs : List Value} {j : Nat} {u : Value} (h : xs[j]? = some u) : xs.set j u = xs := by
  apply List.ext_getElem?
  intro i
  by_cases e : j = i
  · subst e; rw [List.getElem?_set_self (List.getElem?_eq_some_iff.1 h).1, h]
  · rw [List.getElem?_set_ne e]
theorem verCells_at (l : List Ver) (i : Nat) (hi : i < l.length) : (rcells verRec l)[i * 3]? = some (I (gx verRec l i).p) ∧ (rcells verRec l)[i * 3 + 1]? = some (I (gx verRec l i).k) ∧ (rcells verRec l)[i * 3 + 2]? = some (I (gx verRec l i).v) :=
  ⟨rcells_at verRec l i 0 hi (by decide), rcells_at verRec l i 1 hi (by decide), rcells_at verRec l i 2 hi (by decide)⟩
/-- A store into one field: some versions are left. -/
theorem OwnRow.setF {w : World} {lo g n c : Nat} {l : List Ver} (h : OwnRow verRec w lo (.slice (some ⟨g, 0, none⟩) n c) l) (i f : Nat) (hf : f < 3) (x : Int) (hi : i < l.length) :
    ∃ l' : List Ver, l'.length = l.length ∧ OwnRow verRec (w.setCell ⟨g, i * 3 + f, none⟩ (.int .i64 x)) lo (.slice (some ⟨g, 0, none⟩) n c) l' := by
  have hn : n = l.length := by
    obtain ⟨A, c', he, _⟩ := Sl.shape (OwnRow.reads h)
    injection he
  subst hn
  obtain ⟨e0, e1, e2⟩ := verCells_at l i hi
  have hst := (World.ownsRow.stored h (i * 3 + f) (.int .i64 x)).1
  match f, hf with
  | 0, _ =>
    refine ⟨l.set i ⟨x, (gx verRec l i).k, (gx verRec l i).v⟩, by simp, ?_⟩
    unfold OwnRow
    rw [List.length_set, ← rcells_set verRec l i _ hi]
    show World.ownsRow _ lo _ _ _ _ ((((rcells verRec l).set (i * 3) (I x)).set (i * 3 + 1) (I (gx verRec l i).k)).set (i * 3 + 1 + 1) (I (gx verRec l i).v))
    rw [set_same (j := i * 3 + 1) (by rw [List.getElem?_set_ne (by omega)]; exact e1), set_same (j := i * 3 + 1 + 1) (by rw [List.getElem?_set_ne (by omega)]; exact e2)]
    exact hst
  | 1, _ =>
    refine ⟨l.set i ⟨(gx verRec l i).p, x, (gx verRec l i).v⟩, by simp, ?_⟩
    unfold OwnRow
    rw [List.length_set, ← rcells_set verRec l i _ hi]
    show World.ownsRow _ lo _ _ _ _ ((((rcells verRec l).set (i * 3) (I (gx verRec l i).p)).set (i * 3 + 1) (I x)).set (i * 3 + 1 + 1) (I (gx verRec l i).v))
    rw [set_same (xs := rcells verRec l) e0, set_same (j := i * 3 + 1 + 1) (by rw [List.getElem?_set_ne (by omega)]; exact e2)]
    exact hst
  | 2, _ =>
    refine ⟨l.set i ⟨(gx verRec l i).p, (gx verRec l i).k, x⟩, by simp, ?_⟩
    unfold OwnRow
    rw [List.length_set, ← rcells_set verRec l i _ hi]
    show World.ownsRow _ lo _ _ _ _ ((((rcells verRec l).set (i * 3) (I (gx verRec l i).p)).set (i * 3 + 1) (I (gx verRec l i).k)).set (i * 3 + 1 + 1) (I x))
    rw [set_same (xs := rcells verRec l) e0, set_same (xs := rcells verRec l) e1]
    exact hst
end Go.Proofs.YtgngnkndebkbmaaDoor
