/- Contracts of the exported functions on versions: CopyChanges, AddVersion; in the program and in the reference. -/
import Derived.Test.YtgngnkndebkbmaaDoorVFns
import Derived.Test.YtgngnkndebkbmaaDoorMark
import Derived.Deep.DeepCutAuto
set_option linter.unusedSimpArgs false
set_option linter.unusedVariables false
namespace Go.Proofs.YtgngnkndebkbmaaDoor
open Go.RowKit

def FreshVersB (w : World) (r : List Ver × Bool) (e : Ending) (w' : World) : Prop :=
  ∃ v, e = .returned (.tuple #[v, .bool r.2]) ∧ OwnVers w' w.heap.size v r.1 ∧ Below w.heap.size w w'
theorem info_ver3 : (Tryd.prog.info? verRec.ty).map (fun i => (i.zero, i.size, i.bytes)) = some (some (.agg #[.int .i64 0, .int .i64 0, .int .i64 0]), verRec.sz, 24) := info_ver
/-- What has been copied after n steps of the way. -/
def copySt (l : List Ver) (i k : Int) (n : Nat) : List Ver × Int := copied2 l i k ((wayTo l k).take n)
theorem copySt_zero (l : List Ver) (i k : Int) : copySt l i k 0 = (l, i) := by simp [copySt, copied2]
theorem copySt_succ (l : List Ver) (i k : Int) (n : Nat) (h : n < (wayTo l k).length) : copySt l i k (n + 1) = copyOne l (common l i k) (copySt l i k n) (gi (wayTo l k) n) := by
  unfold copySt copied2
  rw [foldl_take_gi _ _ _ _ h]
theorem copySt_all (l : List Ver) (i k : Int) : copySt l i k (wayTo l k).length = copied2 l i k (wayTo l k) := by unfold copySt; rw [List.take_length]
theorem copySt_len (l : List Ver) (i k : Int) (n : Nat) (h : n ≤ (wayTo l k).length) : (copySt l i k n).1.length ≤ l.length + n := by
  induction n with
  | zero => rw [copySt_zero]; exact Nat.le_refl _
  | succ n ih =>
    rw [copySt_succ l i k n h]
    have := ih (by omega)
    unfold copyOne
    split
    · omega
    · rw [List.length_append]; simp; omega
theorem copySt_no {l : List Ver} {i k : Int} {n : Nat} (h : n < (wayTo l k).length) (hj : gi (wayTo l k) n ≤ common l i k) : copySt l i k (n + 1) = copySt l i k n := by
  rw [copySt_succ l i k n h]; unfold copyOne; rw [if_pos hj]
theorem copySt_yes {l : List Ver} {i k : Int} {n j : Nat} (h : n < (wayTo l k).length) (e : gi (wayTo l k) n = (j : Int)) (hj : common l i k < (j : Int)) :
    copySt l i k (n + 1) = ((copySt l i k n).1 ++ [⟨(copySt l i k n).2, (gv l j).k, (gv l j).v⟩], ((copySt l i k n).1.length : Int)) := by
  rw [copySt_succ l i k n h, e]; unfold copyOne; rw [if_neg (by omega)]; rfl
/-- All is well with the copies: a valid list of versions, and the parent is among them. -/
theorem areVers_snoc {l : List Ver} {x : Ver} (h : areVers l = true) (h60 : l.length < 60) (hp : 0 ≤ x.p ∧ x.p < l.length) (hk : 0 ≤ x.k ∧ x.k ≤ 7) (hv : 0 ≤ x.v ∧ x.v ≤ 999) : areVers (l ++ [x]) = true := by
  obtain ⟨a1, a2, a3, a4⟩ := areVers_parts h
  have g : ∀ i, i < l.length → gv (l ++ [x]) i = gv l i := fun i hi => by simp [gv, List.getD, List.getElem?_append_left hi]
  refine areVers_yes (inR_t.2 (by simp; omega)) (by rw [g 0 (by omega)]; exact a3) ?_
  intro i hi
  by_cases hl : i < l.length
  · rw [g i hl]; exact a4 i hl
  · have hx : i = l.length := by simp at hi; omega
    subst hx
    have e : gv (l ++ [x]) l.length = x := by simp [gv, List.getD]
    rw [e]
    exact verOk_yes (.inr (inR_t.2 (by omega))) (inR_t.2 (by omega)) (inR_t.2 (by omega))
theorem rCopy_no {l : List Ver} {i k : Int} (h : hasV l [i, k] = false) : rCopy l i k = ([], false) := by unfold rCopy; rw [if_neg (by rw [h]; decide)]
theorem rCopy_yes {l : List Ver} {i k : Int} (h : hasV l [i, k] = true) (h6 : (copied2 l i k (wayTo l k)).1.length ≤ 60) : rCopy l i k = ((copied2 l i k (wayTo l k)).1, true) := by unfold rCopy; rw [if_pos h, if_pos h6]
theorem rCopy_big {l : List Ver} {i k : Int} (h : hasV l [i, k] = true) (h6 : ¬ (copied2 l i k (wayTo l k)).1.length ≤ 60) : rCopy l i k = ([], false) := by unfold rCopy; rw [if_pos h, if_neg h6]
theorem areVers_long {l : List Ver} (h : 60 < l.length) : areVers l = false := areVers_len (inR_f.2 (by omega))
theorem copySt_ok {l : List Ver} (hv : areVers l = true) {i k : Int} (i0 : 0 ≤ i) (i1 : i < l.length) (k1 : k < l.length) (n : Nat) (h : n ≤ (wayTo l k).length) :
    l.length ≤ (copySt l i k n).1.length ∧ 0 ≤ (copySt l i k n).2 ∧ (copySt l i k n).2 < ((copySt l i k n).1.length : Int) ∧ ((copySt l i k n).1.length ≤ 60 → areVers (copySt l i k n).1 = true) := by
  induction n with
  | zero => rw [copySt_zero]; exact ⟨Nat.le_refl _, i0, i1, fun _ => hv⟩
  | succ n ih =>
    obtain ⟨q1, q2, q3, q4⟩ := ih (by omega)
    have hin := wayTo_in hv k1 _ (gi_mem (show n < (wayTo l k).length by omega))
    by_cases hj : gi (wayTo l k) n ≤ common l i k
    · rw [copySt_no (by omega) hj]; exact ⟨q1, q2, q3, q4⟩
    · obtain ⟨j, hje⟩ := Int.eq_ofNat_of_zero_le hin.1
      rw [copySt_yes (by omega) hje (by omega)]
      have hva := ver_at hv j (by omega)
      refine ⟨by simp; omega, by simp, by simp; omega, fun h60 => ?_⟩
      have h60' : (copySt l i k n).1.length < 60 := by simp at h60; omega
      exact areVers_snoc (q4 (by omega)) h60' ⟨q2, q3⟩ ⟨hva.2.2.2.1, hva.2.2.2.2.1⟩ ⟨hva.2.2.2.2.2.1, hva.2.2.2.2.2.2⟩

end Go.Proofs.YtgngnkndebkbmaaDoor
