/- Contracts of RebaseEdits, in the program and in the reference. -/
import Derived.Test.YtnkbopnmfoplfaaEditFitting
import Derived.Test.YtnkbopnmfoplfaaIdxI
set_option linter.unusedSimpArgs false
set_option linter.unusedVariables false
namespace Go.Proofs.Ytnkbopnmfoplfaa
open Go.RowKit

theorem fitSt_in (l : List Spt) (es : List Edt) (n : Nat) : ∀ i ∈ (fitSt l es n).2.1, 0 ≤ i ∧ i < (n : Int) := by
  induction n with
  | zero => intro i hi; cases hi
  | succ n ih =>
    intro i hi
    unfold fitSt at hi
    split at hi
    · rw [List.mem_append] at hi
      rcases hi with hi | hi
      · have := ih i hi; omega
      · simp at hi; omega
    · have := ih i hi; omega
def fitAt (l : List Spt) (es : List Edt) (k : Nat) : Bool := fitsB (fitSt l es k).1 (gx edtRec es k).p.toNat (gx edtRec es k).b (gx edtRec es k).a
theorem fitSt_t {l : List Spt} {es : List Edt} {k : Nat} (h : fitAt l es k = true) : (fitSt l es (k + 1)).2.1 = (fitSt l es k).2.1 ++ [(k : Int)] ∧ (fitSt l es (k + 1)).2.2 = (fitSt l es k).2.2 := by
  unfold fitAt at h
  conv => lhs; lhs; unfold fitSt
  conv => rhs; lhs; unfold fitSt
  rw [if_pos h]; exact ⟨rfl, rfl⟩
theorem fitSt_f {l : List Spt} {es : List Edt} {k : Nat} (h : fitAt l es k = false) : (fitSt l es (k + 1)).2.1 = (fitSt l es k).2.1 ∧ (fitSt l es (k + 1)).2.2 = (fitSt l es k).2.2 ++ [(k : Int)] := by
  unfold fitAt at h
  conv => lhs; lhs; unfold fitSt
  conv => rhs; lhs; unfold fitSt
  rw [if_neg (by rw [h]; decide)]; exact ⟨rfl, rfl⟩
theorem fitSt_mem (l : List Spt) (es : List Edt) (n k : Nat) (hk : k < n) : (k : Int) ∈ (fitSt l es n).2.1 ↔ fitAt l es k = true := by
  induction n with
  | zero => omega
  | succ n ih =>
    by_cases e : k = n
    · subst e
      have hno : (k : Int) ∉ (fitSt l es k).2.1 := fun h9 => by have := fitSt_in l es k _ h9; omega
      cases h : fitAt l es k
      · rw [(fitSt_f h).1]; simp [hno]
      · rw [(fitSt_t h).1]; simp
    · have := ih (by omega)
      cases h : fitAt l es n
      · rw [(fitSt_f h).1]; exact this
      · rw [(fitSt_t h).1, List.mem_append]
        rw [this]
        constructor
        · rintro (h1 | h1)
          · exact h1
          · simp at h1; omega
        · exact .inl
/-- The edits that fit. -/
def outE (es : List Edt) (I : List Int) : List Edt := I.map fun i => gx edtRec es i.toNat
theorem outE_len (es : List Edt) (I : List Int) : (outE es I).length = I.length := by simp [outE]
theorem outE_take (es : List Edt) (I : List Int) (j : Nat) (h : j < I.length) : outE es (I.take (j + 1)) = outE es (I.take j) ++ [gx edtRec es (gi I j).toNat] := by
  rw [take_succ_gi I j h]; simp [outE]
theorem outE_snoc (es : List Edt) (I : List Int) (k : Nat) : outE es (I ++ [(k : Int)]) = outE es I ++ [gx edtRec es k] := by simp [outE]
def rebO (l : List Spt) (es : List Edt) (n : Nat) : List Edt := outE es (fitSt l es n).2.1
def rebL (l : List Spt) (es : List Edt) (n : Nat) : List Int := (fitSt l es n).2.2
theorem reb_len (l : List Spt) (es : List Edt) (n : Nat) : (rebO l es n).length ≤ n ∧ (rebL l es n).length ≤ n := by
  have := (fitSt_len l es n).2
  unfold rebO rebL
  rw [outE_len]; omega
theorem reb_t {l : List Spt} {es : List Edt} {n k : Nat} (hk : k < n) (h : decide ((k : Int) ∈ (fitSt l es n).2.1) = true) : rebO l es (k + 1) = rebO l es k ++ [gx edtRec es k] ∧ rebL l es (k + 1) = rebL l es k := by
  have h1 := fitSt_t ((fitSt_mem l es n k hk).1 (of_decide_eq_true h))
  unfold rebO rebL
  rw [h1.1, h1.2, outE_snoc]; exact ⟨rfl, rfl⟩
theorem reb_f {l : List Spt} {es : List Edt} {n k : Nat} (hk : k < n) (h : decide ((k : Int) ∈ (fitSt l es n).2.1) = false) : rebO l es (k + 1) = rebO l es k ∧ rebL l es (k + 1) = rebL l es k ++ [(k : Int)] := by
  have h0 : fitAt l es k = false := by
    cases h9 : fitAt l es k
    · rfl
    · exact absurd ((fitSt_mem l es n k hk).2 h9) (of_decide_eq_false h)
  have h1 := fitSt_f h0
  unfold rebO rebL
  rw [h1.1, h1.2]; exact ⟨rfl, rfl⟩
/-- What RebaseEdits returns. -/
def rRebase (l : List Spt) (a b : List Edt) : List Edt × List Int × Bool :=
  if (rWhole l a).2 && areEdts b then (rebO (runE l a 0).1 b b.length, rebL (runE l a 0).1 b b.length, true) else ([], [], false)
theorem rRebase_no1 {l : List Spt} {a b : List Edt} (h : (rWhole l a).2 = false) : rRebase l a b = ([], [], false) := by unfold rRebase; rw [h]; rfl
theorem rRebase_no2 {l : List Spt} {a b : List Edt} (h : areEdts b = false) : rRebase l a b = ([], [], false) := by unfold rRebase; rw [h]; cases (rWhole l a).2 <;> rfl
theorem rRebase_no0 {l : List Spt} {a b : List Edt} (h : (areEdts a && areEdts b) = false) : rRebase l a b = ([], [], false) := by
  cases h1 : areEdts a
  · exact rRebase_no1 (by rw [rWhole_no2 h1])
  · rw [h1] at h
    exact rRebase_no2 (by simpa using h)
theorem rRebase_yes {l : List Spt} {a b : List Edt} (h1 : (rWhole l a).2 = true) (h2 : areEdts b = true) : rRebase l a b = (rebO (runE l a 0).1 b b.length, rebL (runE l a 0).1 b b.length, true) := by unfold rRebase; rw [h1, h2]; rfl
theorem rRebase_len (l : List Spt) (a b : List Edt) : (rRebase l a b).1.length ≤ 30 ∧ (rRebase l a b).2.1.length ≤ 30 := by
  cases h1 : (rWhole l a).2
  · rw [rRebase_no1 h1]; simp
  · cases h2 : areEdts b
    · rw [rRebase_no2 h2]; simp
    · rw [rRebase_yes h1 h2]
      have h3 := reb_len (runE l a 0).1 b b.length
      have h4 := (areEdts_t h2).1
      refine ⟨?_, ?_⟩
      · show (rebO (runE l a 0).1 b b.length).length ≤ 30
        omega
      · show (rebL (runE l a 0).1 b b.length).length ≤ 30
        omega
def FreshRebase (w : World) (r : List Edt × List Int × Bool) (e : Ending) (w' : World) : Prop :=
  ∃ v u, e = .returned (.tuple #[v, u, .bool r.2.2]) ∧ OwnRow edtRec w' w.heap.size v r.1 ∧ OwnInts w' w.heap.size u r.2.1 ∧ Apt v u ∧ Below w.heap.size w w'
end Go.Proofs.Ytnkbopnmfoplfaa
