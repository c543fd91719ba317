/- How an argument is opened that is a slice of versions. -/
import Derived.Test.YtleiijhnjaagmaaDoorOpenF
import Derived.Test.YtleiijhnjaagmaaDoorVersH
set_option linter.unusedSimpArgs false
set_option linter.unusedVariables false
namespace Go.Proofs.YtleiijhnjaagmaaDoor
open Go.ChangeShapes Go.WideShapes Go.ChangeAt Go.RowKit

theorem vers_of_flat (n : Nat) (zs : List Int) (h : zs.length = n * 3) : ∃ l : List Ver, l.length = n ∧ vflat l = zs := by
  induction n generalizing zs with
  | zero => exact ⟨[], rfl, (List.eq_nil_of_length_eq_zero (by simpa using h)).symm⟩
  | succ n ih =>
    match zs, h with
    | a :: b :: c :: r, h =>
      obtain ⟨l, h1, h2⟩ := ih r (by simp at h; omega)
      exact ⟨⟨a, b, c⟩ :: l, by simp [h1], by rw [← h2]; rfl⟩
    | [], h => simp at h
    | [_], h => simp at h; omega
    | [_, _], h => simp at h; omega
def WfVers (l : List Ver) : Prop := WfInts (vflat l)
set_option maxRecDepth 100000 in
theorem open_VersAt {H : Type} {enc : TypeId × Value → H} {W : World} {base : Nat} {v : Value} {d : DataW H} {p : List MemPlace}
    (hv : Value.okWide Tryd.prog W .any base 22 v) (h : DataW.Trod enc Tryd.prog W 0 (fun _ => true) true 22 v d p) : ∃ l, VersAt W v l ∧ WfVers l := by
  obtain ⟨n, zs, hs, hw⟩ := open_flat 3 (by omega) Tryd.underlying22 Tryd.underlying58 (by kernel_rfl) (by rfl) (by kernel_rfl)
    (fun i f hf => by
      match i, hf with
      | 0, hf => simp at hf; subst hf; exact Tryd.underlying3
      | 1, hf => simp at hf; subst hf; exact Tryd.underlying3
      | 2, hf => simp at hf; subst hf; exact Tryd.underlying3
      | i + 3, hf => simp at hf) hv h
  obtain ⟨l, h1, h2⟩ := vers_of_flat n zs (by have := hs.len; rwa [ints_len] at this)
  subst h1 h2
  refine ⟨l, ?_, hw⟩
  unfold VersAt
  rw [vcells_flat]
  exact hs
end Go.Proofs.YtleiijhnjaagmaaDoor
