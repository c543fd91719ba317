/- How arguments are opened into what the walks ask; the end of a law's walk. -/
import Derived.Test.YtnkbopnmfoplfaaBase
import Derived.ProofKit
import Derived.OpenShut
import Derived.ShutString
set_option linter.unusedSimpArgs false
set_option linter.unusedVariables false
namespace Go.Proofs.Ytnkbopnmfoplfaa
open Go.ChangeShapes Go.WideShapes Go.ChangeAt Go.RowKit

def LawPost (w : World) (e : Ending) (w' : World) : Prop := e = .returned (.bool true) ∧ Below w.heap.size w w'

/-- Each integer fits int. -/
def WfInts (l : List Int) : Prop := ∀ x ∈ l, -9223372036854775808 ≤ x ∧ x ≤ 9223372036854775807
theorem wf_bounds {x : Int} (h : (Lit.int .i64 x).wf = true) : -9223372036854775808 ≤ x ∧ x ≤ 9223372036854775807 := bounds_i64 h

set_option maxRecDepth 100000 in
theorem open_IntsAt {H : Type} {enc : TypeId × Value → H} {W : World} {base : Nat} {v : Value} {d : DataW H} {p : List MemPlace}
    (hv : Value.okWide Try.prog W .any base 27 v) (h : DataW.Trod enc Try.prog W 0 (fun _ => true) true 27 v d p) : ∃ l, IntsAt W v l ∧ WfInts l := by
  obtain ⟨a0, len0, cap0, rfl⟩ := okWide_slice Try.underlying27 hv
  obtain ⟨fuel, hf⟩ := h
  rcases open_ints Try.underlying27 Try.underlying3 (by kernel_rfl) hf with ⟨hcs, _⟩ | ⟨x, l, c, zs, hcs, _, hl, hm, hz, _, hcell, hwz⟩
  · simp [Value.cells] at hcs
    obtain ⟨rfl, rfl, rfl⟩ := hcs
    exact ⟨[], ⟨rfl, none, 0, rfl, Nat.le_refl _, by simp [maxLen], fun _ => ⟨rfl, rfl⟩, fun h => by simp at h⟩, fun x hx => by cases hx⟩
  · simp [Value.cells] at hcs
    obtain ⟨rfl, rfl, rfl⟩ := hcs
    have hzl : zs.length = cap0 := by simpa using hz
    have htl : (zs.take len0).length = len0 := by rw [List.length_take]; omega
    refine ⟨zs.take len0, ⟨by rw [ints_len, Nat.mul_one], some x, cap0, by rw [htl], by omega, hm, fun h => (by cases h), fun hn => ?_⟩, fun y hy => wf_bounds (hwz y (List.mem_of_mem_take hy))⟩
    obtain ⟨bb, off, spot⟩ := x
    have hsp : spot = none := by
      have := hcell 0 (by omega)
      have h2 := World.cell?_spot this
      simpa [Addr.add] using h2
    subst hsp
    refine ⟨bb, off, rfl, fun j u hu => ?_⟩
    have hj := (List.getElem?_eq_some_iff.1 hu).1
    rw [ints_len, htl] at hj
    have := hcell j (by omega)
    rw [Addr.add_lit] at this
    rw [this, ints_at hu]
    congr 2
    simp [gi, List.getD, List.getElem?_take, hj]
theorem Trod_lt {H : Type} {enc : TypeId × Value → H} {W : World} {t : TypeId} {v : Value} {d : DataW H} {p : List MemPlace} (h : DataW.Trod enc Try.prog W 0 (fun _ => true) true t v d p) : ∀ x ∈ p, x.block < W.heap.size := by
  obtain ⟨m, hm⟩ := h
  exact DataW.trod_lt m _ _ _ hm
end Go.Proofs.Ytnkbopnmfoplfaa
