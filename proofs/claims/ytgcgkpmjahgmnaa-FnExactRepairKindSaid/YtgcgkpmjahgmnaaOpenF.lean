/- How an argument is opened that is a slice of structs of integers. -/
import Derived.Test.YtgcgkpmjahgmnaaOpen
import Derived.Deep.Slices
import Derived.Deep.Fields
set_option linter.unusedSimpArgs false
set_option linter.unusedVariables false
namespace Go.Proofs.Ytgcgkpmjahgmnaa
open Go.ChangeShapes Go.WideShapes Go.ChangeAt Go.RowKit Go.Deep

section
variable {H : Type} {enc : TypeId × Value → H} {P : Program} {w : World} {base : Nat} {spare : Nat → Bool} {held : Bool}
/-- The cells of a struct of integers. -/
theorem trod_intStruct {t : TypeId} {fs : Array Field} {fuel : Nat} {cs : List Value} {x : DataW H × List MemPlace} (ht : P.underlying t = some (.struct fs)) (hone : oneCellFields P fs = true) (hC : P.cellsOf t = fs.size)
    (hint : ∀ (i : Nat) (f : Field), fs[i]? = some f → P.underlying f.type = some (.int .i64)) (h : DataW.trod enc P w base spare held fuel t cs = some x) :
    cs.length = fs.size ∧ ∀ (i : Nat) (u : Value), cs[i]? = some u → ∃ y : Int, u = .int .i64 y ∧ -9223372036854775808 ≤ y ∧ y ≤ 9223372036854775807 := by
  obtain ⟨xs, n, _, _, hl, hxl, hf⟩ := DataW.trod_struct ht h
  refine ⟨hl.trans hC, fun i u hu => ?_⟩
  have hi : i < cs.length := (List.getElem?_eq_some_iff.1 hu).1
  have hif : i < fs.size := by omega
  have hfi : fs[i]? = some fs[i] := Array.getElem?_eq_getElem hif
  obtain ⟨ho, hk⟩ := hone_of hone i _ hfi
  have h1 := hf i _ hfi
  rw [ho, hk] at h1
  have h2 : (cs.drop i).take 1 = [u] := by
    rw [List.drop_eq_getElem_cons hi]
    have : cs[i] = u := by rw [List.getElem?_eq_getElem hi] at hu; injection hu
    rw [this]; rfl
  have hx : xs[i]? = some (xs[i]'(by omega)) := List.getElem?_eq_getElem (by omega)
  rw [h2, hx] at h1
  obtain ⟨y, hy, _, hw⟩ := DataW.trod_int (hint i _ hfi) h1
  simp at hy
  exact ⟨y, hy, wf_bounds hw⟩
end

set_option maxRecDepth 100000 in
theorem open_flat {H : Type} {enc : TypeId × Value → H} {W : World} {base : Nat} {t e : TypeId} {fs : Array Field} {v : Value} {d : DataW H} {p : List MemPlace} (m : Nat) (hm0 : 0 < m)
    (ht : Try.prog.underlying t = some (.slice e)) (he : Try.prog.underlying e = some (.struct fs)) (hone : oneCellFields Try.prog fs = true) (hfs : fs.size = m) (hC : Try.prog.cellsOf e = m)
    (hint : ∀ (i : Nat) (f : Field), fs[i]? = some f → Try.prog.underlying f.type = some (.int .i64))
    (hv : Value.okWide Try.prog W .any base t v) (h : DataW.Trod enc Try.prog W 0 (fun _ => true) true t v d p) : ∃ (n : Nat) (zs : List Int), Sl W m v n (ints zs) ∧ WfInts zs := by
  obtain ⟨a0, len0, cap0, rfl⟩ := okWide_slice ht hv
  obtain ⟨fuel, hf⟩ := h
  rcases open_slice ht hf with ⟨hcs, _⟩ | ⟨x, l, c, mm, n, D, Pl, hcs, _, hl, hm, hmm, _, hx⟩
  · simp [Value.cells] at hcs
    obtain ⟨rfl, rfl, rfl⟩ := hcs
    exact ⟨0, [], ⟨by simp [ints], none, 0, rfl, Nat.le_refl _, by simp [maxLen], fun _ => ⟨rfl, rfl⟩, fun h => by simp at h⟩, fun x hx => by cases hx⟩
  · simp [Value.cells] at hcs
    obtain ⟨rfl, rfl, rfl⟩ := hcs
    have hmc : mm = cap0 := by simpa using hmm
    subst hmc
    rw [hC] at hx
    have key : ∀ j, j < len0 * m → ∃ y : Int, W.cell? (x.add j) = some (.int .i64 y) ∧ -9223372036854775808 ≤ y ∧ y ≤ 9223372036854775807 := by
      intro j hj
      have hi : j / m < mm := by
        have := Nat.div_lt_of_lt_mul (show j < m * len0 from by rw [Nat.mul_comm]; exact hj)
        omega
      obtain ⟨cs', hc, htr⟩ := hx (j / m) hi
      obtain ⟨_, hcl, hat⟩ := World.cells?_some hc
      obtain ⟨hl2, hall⟩ := trod_intStruct he hone (by rw [hC, hfs]) hint htr
      have hr : j % m < cs'.length := by rw [hcl]; exact Nat.mod_lt _ hm0
      obtain ⟨y, hy, hw⟩ := hall (j % m) _ (List.getElem?_eq_getElem hr)
      refine ⟨y, ?_, hw⟩
      have := hat (j % m) (by omega)
      rw [Go.Deep.add_add, List.getElem?_eq_getElem hr, hy, Nat.mul_comm, Nat.div_add_mod] at this
      exact this
    refine ⟨len0, (List.range (len0 * m)).map (fun j => intOf ((W.cell? (x.add j)).getD undef)), ⟨by simp [ints], some x, mm, rfl, hl, hm, fun h => (by cases h), fun hn => ?_⟩, ?_⟩
    · obtain ⟨bb, off, spot⟩ := x
      have hsp : spot = none := by
        obtain ⟨y, hy, _⟩ := key 0 hn
        have h2 := World.cell?_spot hy
        simpa [Addr.add] using h2
      subst hsp
      refine ⟨bb, off, rfl, fun j u hu => ?_⟩
      have hj : j < len0 * m := by have := (List.getElem?_eq_some_iff.1 hu).1; simpa [ints] using this
      obtain ⟨y, hy, _⟩ := key j hj
      have h3 := hy
      rw [Addr.add_lit] at h3
      rw [h3]
      simp [ints, hj] at hu
      rw [← hu, hy]
      rfl
    · intro y hy
      simp at hy
      obtain ⟨j, hj, rfl⟩ := hy
      obtain ⟨z, hz, hw⟩ := key j hj
      rw [hz]
      exact hw
end Go.Proofs.Ytgcgkpmjahgmnaa
