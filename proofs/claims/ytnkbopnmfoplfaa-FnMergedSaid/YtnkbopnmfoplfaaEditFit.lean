/- Contracts: the edits that fit, one after the other; in the program and in the reference. -/
import Derived.Test.YtnkbopnmfoplfaaEditConfl
set_option linter.unusedSimpArgs false
set_option linter.unusedVariables false
namespace Go.Proofs.Ytnkbopnmfoplfaa
open Go.RowKit

/-- The chart after n edits of which those that fit are carried out, and which do and which do not. -/
def fitSt (l : List Spt) (es : List Edt) : Nat → List Spt × List Int × List Int
  | 0 => (l, [], [])
  | n + 1 => if fitsB (fitSt l es n).1 (gx edtRec es n).p.toNat (gx edtRec es n).b (gx edtRec es n).a then ((fitSt l es n).1.set (gx edtRec es n).p.toNat (gx edtRec es n).a, (fitSt l es n).2.1 ++ [(n : Int)], (fitSt l es n).2.2)
    else ((fitSt l es n).1, (fitSt l es n).2.1, (fitSt l es n).2.2 ++ [(n : Int)])
theorem fitSt_len (l : List Spt) (es : List Edt) (n : Nat) : (fitSt l es n).1.length = l.length ∧ (fitSt l es n).2.1.length + (fitSt l es n).2.2.length = n := by
  induction n with
  | zero => exact ⟨rfl, rfl⟩
  | succ n ih =>
    unfold fitSt
    split
    · exact ⟨by rw [List.length_set]; exact ih.1, by simp only [List.length_append, List.length_cons, List.length_nil]; omega⟩
    · exact ⟨ih.1, by simp only [List.length_append, List.length_cons, List.length_nil]; omega⟩
theorem fitSt_no {l : List Spt} {es : List Edt} {k n : Nat} (hp : (gx edtRec es k).p = (n : Int)) (hf : fitsB (fitSt l es k).1 n ⟨(gx edtRec es k).bx, (gx edtRec es k).bY⟩ ⟨(gx edtRec es k).ax, (gx edtRec es k).aY⟩ = false) :
    fitSt l es (k + 1) = ((fitSt l es k).1, (fitSt l es k).2.1, (fitSt l es k).2.2 ++ [(k : Int)]) := by
  have e1 : (gx edtRec es k).p.toNat = n := by omega
  have h9 : fitsB (fitSt l es k).1 n (gx edtRec es k).b (gx edtRec es k).a = false := hf
  conv => lhs; unfold fitSt
  rw [e1, h9]; rfl
theorem fitSt_yes {l : List Spt} {es : List Edt} {k n : Nat} (hp : (gx edtRec es k).p = (n : Int)) (hf : fitsB (fitSt l es k).1 n ⟨(gx edtRec es k).bx, (gx edtRec es k).bY⟩ ⟨(gx edtRec es k).ax, (gx edtRec es k).aY⟩ = true) :
    fitSt l es (k + 1) = ((fitSt l es k).1.set n ⟨(gx edtRec es k).ax, (gx edtRec es k).aY⟩, (fitSt l es k).2.1 ++ [(k : Int)], (fitSt l es k).2.2) := by
  have e1 : (gx edtRec es k).p.toNat = n := by omega
  have h9 : fitsB (fitSt l es k).1 n (gx edtRec es k).b (gx edtRec es k).a = true := hf
  conv => lhs; unfold fitSt
  rw [e1, h9]; rfl
def FreshFit (w : World) (a : List Spt) (b : List Int) (e : Ending) (w' : World) : Prop :=
  ∃ v u, e = .returned (.tuple #[v, u]) ∧ OwnRow sptRec w' w.heap.size v a ∧ OwnInts w' w.heap.size u b ∧ Apt v u ∧ Below w.heap.size w w'
end Go.Proofs.Ytnkbopnmfoplfaa
