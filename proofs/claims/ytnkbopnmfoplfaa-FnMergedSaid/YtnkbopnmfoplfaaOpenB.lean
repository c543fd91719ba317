/- How an argument is opened that is a slice of bytes. -/
import Derived.Test.YtnkbopnmfoplfaaOpen
import Derived.Test.YtnkbopnmfoplfaaDraw0
import Derived.Deep.Slices
set_option linter.unusedSimpArgs false
set_option linter.unusedVariables false
namespace Go.Proofs.Ytnkbopnmfoplfaa
open Go.ChangeShapes Go.WideShapes Go.ChangeAt Go.RowKit Go.Deep

def natOf : Value → Nat
  | .int _ y => y.toNat
  | _ => 0
theorem u8_bounds {y : Int} (h : (Lit.int .u8 y).wf = true) : 0 ≤ y ∧ y < 256 := by
  have h2 : IntKind.u8.min ≤ y ∧ y ≤ IntKind.u8.max := by simpa [Lit.wf] using h
  have e1 : IntKind.u8.min = 0 := rfl
  have e2 : IntKind.u8.max = 255 := rfl
  omega
set_option maxRecDepth 100000 in
theorem open_BytesAt {H : Type} {enc : TypeId × Value → H} {W : World} {base : Nat} {v : Value} {d : DataW H} {p : List MemPlace}
    (hv : Value.okWide Try.prog W .any base 22 v) (h : DataW.Trod enc Try.prog W 0 (fun _ => true) true 22 v d p) : ∃ l, BytesAt W v l ∧ WfCode l := by
  have hC : Try.prog.cellsOf 5 = 1 := by kernel_rfl
  obtain ⟨a0, len0, cap0, rfl⟩ := okWide_slice Try.underlying22 hv
  obtain ⟨fuel, hf⟩ := h
  rcases open_slice Try.underlying22 hf with ⟨hcs, _⟩ | ⟨x, l, c, mm, n, D, Pl, hcs, _, hl, hm, hmm, _, hx⟩
  · simp [Value.cells] at hcs
    obtain ⟨rfl, rfl, rfl⟩ := hcs
    exact ⟨[], ⟨by simp [u8s], none, 0, rfl, Nat.le_refl _, by simp [maxLen], fun _ => ⟨rfl, rfl⟩, fun h => by simp at h⟩, fun i => by simp [cb]⟩
  · simp [Value.cells] at hcs
    obtain ⟨rfl, rfl, rfl⟩ := hcs
    have hmc : mm = cap0 := by simpa using hmm
    subst hmc
    rw [hC] at hx
    have key : ∀ j, j < len0 → ∃ y : Nat, W.cell? (x.add j) = some (.int .u8 (y : Int)) ∧ y < 256 := by
      intro j hj
      obtain ⟨cs', hc, htr⟩ := hx j (by omega)
      obtain ⟨_, hcl, hat⟩ := World.cells?_some hc
      obtain ⟨y, hy, _, hw⟩ := DataW.trod_int Try.underlying5 htr
      have := hat 0 (by omega)
      rw [Go.Deep.add_add, hy] at this
      simp only [Nat.mul_one, Nat.add_zero, List.getElem?_cons_zero] at this
      have hb := hw
      have hb := u8_bounds hw
      refine ⟨y.toNat, ?_, by omega⟩
      rw [this, Int.toNat_of_nonneg hb.1]
    have hlen : ((List.range len0).map (fun j => natOf ((W.cell? (x.add j)).getD undef))).length = len0 := by simp
    refine ⟨(List.range len0).map (fun j => natOf ((W.cell? (x.add j)).getD undef)), ?_, ?_⟩
    · unfold BytesAt
      rw [hlen]
      refine ⟨by simp [u8s], some x, mm, rfl, hl, hm, fun h => (by cases h), fun hn => ?_⟩
      obtain ⟨bb, off, spot⟩ := x
      have hsp : spot = none := by
        obtain ⟨y, hy, _⟩ := key 0 (by omega)
        have h2 := World.cell?_spot hy
        simpa [Addr.add] using h2
      subst hsp
      refine ⟨bb, off, rfl, fun j u hu => ?_⟩
      have hj : j < len0 := by have := (List.getElem?_eq_some_iff.1 hu).1; simpa [u8s] using this
      obtain ⟨y, hy, _⟩ := key j hj
      have h3 := hy
      rw [Addr.add_lit] at h3
      rw [h3]
      simp [u8s, hj] at hu
      rw [← hu, hy]
      simp [natOf]
    · intro i
      unfold cb
      rw [List.getD_eq_getElem?_getD]
      by_cases hi : i < len0
      · obtain ⟨y, hy, hw⟩ := key i hi
        simp [hi, hy, natOf]
        exact hw
      · rw [List.getElem?_eq_none (by rw [hlen]; omega)]
        simp
end Go.Proofs.Ytnkbopnmfoplfaa
