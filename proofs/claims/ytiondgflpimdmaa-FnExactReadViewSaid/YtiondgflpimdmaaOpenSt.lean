/- How an argument is opened that is a slice of strings. -/
import Derived.Test.YtiondgflpimdmaaOpen
import Derived.Test.YtiondgflpimdmaaStr
import Derived.Deep.Strs
set_option linter.unusedSimpArgs false
set_option linter.unusedVariables false
namespace Go.Proofs.Ytiondgflpimdmaa
open Go.ChangeShapes Go.WideShapes Go.ChangeAt Go.RowKit Go.Deep

theorem strs_rcells (l : List ByteArray) : rcells strRec l = l.map Value.string := by
  induction l with
  | nil => rfl
  | cons x l ih => show strRec.cells x ++ rcells strRec l = _; rw [ih]; rfl
set_option maxRecDepth 100000 in
theorem open_StrsAt {H : Type} {enc : TypeId × Value → H} {W : World} {base : Nat} {v : Value} {d : DataW H} {p : List MemPlace}
    (hv : Value.okWide Try.prog W .any base 26 v) (h : DataW.Trod enc Try.prog W 0 (fun _ => true) true 26 v d p) : ∃ l, RowAt strRec W v l ∧ WfStrs l := by
  obtain ⟨a0, len0, cap0, rfl⟩ := okWide_slice Try.underlying26 hv
  obtain ⟨fuel, hf⟩ := h
  rcases open_strs Try.underlying26 Try.underlying9 (by kernel_rfl) hf with ⟨hcs, _⟩ | ⟨a, len, cap, m, Sx, hcs, _, hl, hm, hmm, _, hcell⟩
  · simp [Value.cells] at hcs
    obtain ⟨rfl, rfl, rfl⟩ := hcs
    exact ⟨[], RowAt.nil_ strRec W, fun i hi => absurd hi (by simp)⟩
  · simp [Value.cells] at hcs
    obtain ⟨rfl, rfl, rfl⟩ := hcs
    have hmc : m = cap0 := by simpa using hmm
    subst hmc
    have hlen : ((List.range len0).map Sx).length = len0 := by simp
    refine ⟨(List.range len0).map Sx, ?_, ?_⟩
    · unfold RowAt
      rw [strs_rcells, hlen]
      refine ⟨by simp [strRec], some a, m, rfl, hl, hm, (fun h => by cases h), fun hn => ?_⟩
      have hn0 : 0 < len0 := by rw [show len0 * strRec.sz = len0 from Nat.mul_one _] at hn; exact hn
      obtain ⟨bb, off, spot⟩ := a
      have hsp : spot = none := by
        have := (hcell 0 (by omega)).1
        have h2 := World.cell?_spot this
        simpa [Addr.add] using h2
      subst hsp
      refine ⟨bb, off, rfl, fun j u hu => ?_⟩
      rw [List.getElem?_map, List.getElem?_map] at hu
      by_cases hj : j < len0
      · rw [List.getElem?_range hj] at hu
        simp at hu
        subst hu
        have := (hcell j (by omega)).1
        rwa [Addr.add_lit] at this
      · rw [List.getElem?_eq_none (by simpa using hj)] at hu
        cases hu
    · intro i hi
      rw [hlen] at hi
      have h9 := (hcell i (by omega)).2
      unfold maxLen at h9
      have e : gx strRec ((List.range len0).map Sx) i = Sx i := by simp [gx, List.getD, hi]
      rw [e]
      omega
end Go.Proofs.Ytiondgflpimdmaa
