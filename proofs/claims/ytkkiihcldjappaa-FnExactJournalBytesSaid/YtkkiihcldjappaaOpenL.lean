/- How an argument that is a slice of slices of integers is opened. -/
import Derived.Test.YtkkiihcldjappaaOpen
import Derived.Test.YtkkiihcldjappaaIntss
import Derived.Deep.Matrix
set_option linter.unusedSimpArgs false
set_option linter.unusedVariables false
namespace Go.Proofs.Ytkkiihcldjappaa
open Go.ChangeShapes Go.WideShapes Go.ChangeAt Go.RowKit

/-- A row of integers, told by its cells, whatever its address. -/
theorem IntsAt.of_cells {W : World} {A : Option Addr} {L C : Nat} {zs : List Int} (hlc : L ≤ C) (hcm : C ≤ maxLen) (hz : zs.length = C) (hn : A = none → C = 0)
    (hc : ∀ a, A = some a → ∀ i, i < C → W.cell? (a.add i) = some (.int .i64 (zs.getD i 0))) : IntsAt W (.slice A L C) (zs.take L) := by
  have htl : (zs.take L).length = L := by rw [List.length_take]; omega
  refine ⟨by rw [ints_len, Nat.mul_one], A, C, by rw [htl], by omega, hcm, fun h => ⟨by have := hn h; rw [htl]; omega, hn h⟩, fun hp => ?_⟩
  rw [htl] at hp
  cases A with
  | none => have := hn rfl; omega
  | some x =>
    obtain ⟨bb, off, spot⟩ := x
    have hsp : spot = none := by
      have := hc _ rfl 0 (by omega)
      have h2 := World.cell?_spot this
      simpa [Addr.add] using h2
    subst hsp
    refine ⟨bb, off, rfl, fun j u hu => ?_⟩
    have hj := (List.getElem?_eq_some_iff.1 hu).1
    rw [ints_len, htl] at hj
    have := hc _ rfl j (by omega)
    rw [Addr.add_lit] at this
    rw [this, ints_at hu]
    congr 2
    simp [gi, List.getD, List.getElem?_take, hj]

def WfIntss (ls : List (List Int)) : Prop := ∀ l ∈ ls, WfInts l

theorem open_IntssAt {H : Type} {enc : TypeId × Value → H} {W : World} {base : Nat} {v : Value} {d : DataW H} {p : List MemPlace}
    (hv : Value.okWide Try.prog W .any base 36 v) (h : DataW.Trod enc Try.prog W 0 (fun _ => true) true 36 v d p) : ∃ ls, IntssAt W v ls ∧ WfIntss ls := by
  obtain ⟨a0, len0, cap0, rfl⟩ := okWide_slice Try.underlying36 hv
  obtain ⟨fuel, hf⟩ := h
  rcases Go.Deep.open_int_rows Try.underlying36 Try.underlying22 Try.underlying3 (by kernel_rfl) (by kernel_rfl) hf with ⟨hcs, _⟩ | ⟨x, l, c, A, L, C, Z, hcs, _, hl, hm, _, hr⟩
  · simp [Value.cells] at hcs
    obtain ⟨rfl, rfl, rfl⟩ := hcs
    exact ⟨[], ⟨[], ⟨rfl, none, 0, rfl, Nat.le_refl _, by simp [maxLen], fun _ => ⟨rfl, rfl⟩, fun h => by simp at h⟩, fun i u l h => by simp at h⟩, fun x hx => by cases hx⟩
  · simp [Value.cells] at hcs
    obtain ⟨rfl, rfl, rfl⟩ := hcs
    refine ⟨(List.range len0).map fun r => (Z r).take (L r), ⟨(List.range len0).map fun r => Value.slice (A r) (L r) (C r), ⟨by simp, some x, cap0, by simp, by simpa using hl, hm, fun h => (by cases h), fun hn => ?_⟩, ?_⟩, ?_⟩
    · simp at hn
      obtain ⟨bb, off, spot⟩ := x
      have hsp : spot = none := by
        have := (hr 0 (by omega)).1
        have h2 := World.cell?_spot this
        simpa [Addr.add] using h2
      subst hsp
      refine ⟨bb, off, rfl, fun j u hu => ?_⟩
      have hj : j < len0 := by have := (List.getElem?_eq_some_iff.1 hu).1; simpa using this
      have := (hr j (by omega)).1
      rw [Addr.add_lit] at this
      rw [this]
      simpa [hj] using hu
    · intro i u l hu hll
      have hi : i < len0 := by have := (List.getElem?_eq_some_iff.1 hu).1; simpa using this
      simp [hi] at hu hll
      subst hu hll
      obtain ⟨_, r1, r2, r3, r4, r5, r6⟩ := hr i (by omega)
      exact IntsAt.of_cells r1 r2 r3 r5 (fun a ha => (r6 a ha).2)
    · intro l hl2
      simp at hl2
      obtain ⟨r, hrl, rfl⟩ := hl2
      obtain ⟨_, _, _, _, r4, _⟩ := hr r (by omega)
      exact fun y hy => wf_bounds (r4 y (List.mem_of_mem_take hy))
end Go.Proofs.Ytkkiihcldjappaa
