/- How arguments are opened that are slices of spots or of edits. -/
import Derived.Test.YtgcgkpmjahgmnaaOpenF
import Derived.Test.YtgcgkpmjahgmnaaMkE
import Derived.Test.YtgcgkpmjahgmnaaRecSpot
set_option linter.unusedSimpArgs false
set_option linter.unusedVariables false
namespace Go.Proofs.Ytgcgkpmjahgmnaa
open Go.ChangeShapes Go.WideShapes Go.ChangeAt Go.RowKit Go.Deep

/-- Of the values of records nothing more is asked. -/
def WfRow {α : Type} (R : Rec α) (l : List α) : Prop := True
set_option maxRecDepth 100000 in
theorem open_flatG {H : Type} {enc : TypeId × Value → H} {W : World} {base : Nat} {t e : TypeId} {v : Value} {d : DataW H} {p : List MemPlace} (m : Nat) (hm0 : 0 < m)
    (ht : Try.prog.underlying t = some (.slice e)) (hC : Try.prog.cellsOf e = m)
    (hcells : ∀ (held : Nat → Bool) (b : Bool) (fuel : Nat) (cs : List Value) (x : DataW H × List MemPlace), DataW.trod enc Try.prog W 0 held b fuel e cs = some x → cs.length = m → ∀ (i : Nat) (u : Value), cs[i]? = some u → ∃ y : Int, u = .int .i64 y ∧ -9223372036854775808 ≤ y ∧ y ≤ 9223372036854775807)
    (hv : Value.okWide Try.prog W .any base t v) (h : DataW.Trod enc Try.prog W 0 (fun _ => true) true t v d p) : ∃ (n : Nat) (zs : List Int), Sl W m v n (ints zs) ∧ WfInts zs := by
  obtain ⟨a0, len0, cap0, rfl⟩ := okWide_slice ht hv
  obtain ⟨fuel, hf⟩ := h
  rcases open_slice ht hf with ⟨hcs, _⟩ | ⟨x, l, c, mm, n, D, Pl, hcs, _, hl, hm, hmm, _, hx⟩
  · simp [Value.cells] at hcs
    obtain ⟨rfl, rfl, rfl⟩ := hcs
    exact ⟨0, [], ⟨by simp [ints], none, 0, rfl, Nat.le_refl _, by simp [maxLen], fun _ => ⟨rfl, rfl⟩, fun h => by simp at h⟩, fun x hx => by cases hx⟩
  · simp [Value.cells] at hcs
    obtain ⟨rfl, rfl, rfl⟩ := hcs
    have hmc : mm = cap0 := by simpa using hmm
    subst hmc
    rw [hC] at hx
    have key : ∀ j, j < len0 * m → ∃ y : Int, W.cell? (x.add j) = some (.int .i64 y) ∧ -9223372036854775808 ≤ y ∧ y ≤ 9223372036854775807 := by
      intro j hj
      have hi : j / m < mm := by
        have := Nat.div_lt_of_lt_mul (show j < m * len0 from by rw [Nat.mul_comm]; exact hj)
        omega
      obtain ⟨cs', hc, htr⟩ := hx (j / m) hi
      obtain ⟨_, hcl, hat⟩ := World.cells?_some hc
      have hall := hcells _ _ _ _ _ htr (by rw [hcl])
      have hr : j % m < cs'.length := by rw [hcl]; exact Nat.mod_lt _ hm0
      obtain ⟨y, hy, hw⟩ := hall (j % m) _ (List.getElem?_eq_getElem hr)
      refine ⟨y, ?_, hw⟩
      have := hat (j % m) (by omega)
      rw [Go.Deep.add_add, List.getElem?_eq_getElem hr, hy, Nat.mul_comm, Nat.div_add_mod] at this
      exact this
    refine ⟨len0, (List.range (len0 * m)).map (fun j => intOf ((W.cell? (x.add j)).getD undef)), ⟨by simp [ints], some x, mm, rfl, hl, hm, fun h => (by cases h), fun hn => ?_⟩, ?_⟩
    · obtain ⟨bb, off, spot⟩ := x
      have hsp : spot = none := by
        obtain ⟨y, hy, _⟩ := key 0 hn
        have h2 := World.cell?_spot hy
        simpa [Addr.add] using h2
      subst hsp
      refine ⟨bb, off, rfl, fun j u hu => ?_⟩
      have hj : j < len0 * m := by have := (List.getElem?_eq_some_iff.1 hu).1; simpa [ints] using this
      obtain ⟨y, hy, _⟩ := key j hj
      have h3 := hy
      rw [Addr.add_lit] at h3
      rw [h3]
      simp [ints, hj] at hu
      rw [← hu, hy]
      rfl
    · intro y hy
      simp at hy
      obtain ⟨j, hj, rfl⟩ := hy
      obtain ⟨z, hz, hw⟩ := key j hj
      rw [hz]
      exact hw
theorem spts_of_flat (n : Nat) (zs : List Int) (h : zs.length = n * 2) : ∃ l : List Spt, l.length = n ∧ rcells sptRec l = ints zs := by
  induction n generalizing zs with
  | zero =>
    obtain rfl : zs = [] := List.eq_nil_of_length_eq_zero (by simpa using h)
    exact ⟨[], rfl, rfl⟩
  | succ n ih =>
    match zs, h with
    | a :: b :: r, h =>
      obtain ⟨l, h1, h2⟩ := ih r (by simp at h; omega)
      exact ⟨⟨a, b⟩ :: l, by simp [h1], by show [I a, I b] ++ rcells sptRec l = _; rw [h2]; rfl⟩
    | [], h => simp at h
    | [_], h => simp at h; omega
set_option maxRecDepth 100000 in
theorem open_SpotsAt {H : Type} {enc : TypeId × Value → H} {W : World} {base : Nat} {v : Value} {d : DataW H} {p : List MemPlace}
    (hv : Value.okWide Try.prog W .any base 22 v) (h : DataW.Trod enc Try.prog W 0 (fun _ => true) true 22 v d p) : ∃ l, RowAt sptRec W v l ∧ WfRow sptRec l := by
  obtain ⟨n, zs, hs, hw⟩ := open_flat 2 (by omega) Try.underlying22 Try.underlying83 (by kernel_rfl) (by rfl) (by kernel_rfl)
    (fun i f hf => by
      match i, hf with
      | 0, hf => simp at hf; subst hf; exact Try.underlying3
      | 1, hf => simp at hf; subst hf; exact Try.underlying3
      | i + 2, hf => simp at hf) hv h
  obtain ⟨l, h1, h2⟩ := spts_of_flat n zs (by have := hs.len; rwa [ints_len] at this)
  subst h1
  refine ⟨l, ?_, trivial⟩
  unfold RowAt
  rw [h2]
  exact hs
end Go.Proofs.Ytgcgkpmjahgmnaa
