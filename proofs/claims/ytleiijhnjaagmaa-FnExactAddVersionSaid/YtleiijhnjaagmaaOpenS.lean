/- How arguments that are spots or frames are opened. -/
import Derived.Test.YtleiijhnjaagmaaOpenF
set_option linter.unusedSimpArgs false
set_option linter.unusedVariables false
namespace Go.Proofs.Ytleiijhnjaagmaa
open Go.ChangeShapes Go.WideShapes Go.ChangeAt Go.RowKit Go.Deep

theorem two_ints {cs : List Value} {m : Nat} (hl : cs.length = m) (h : ∀ (i : Nat) (u : Value), cs[i]? = some u → ∃ y : Int, u = .int .i64 y ∧ -9223372036854775808 ≤ y ∧ y ≤ 9223372036854775807) (i : Nat) (hi : i < m) :
    ∃ y : Int, cs[i]? = some (.int .i64 y) ∧ -9223372036854775808 ≤ y ∧ y ≤ 9223372036854775807 := by
  obtain ⟨y, hy, hw⟩ := h i _ (List.getElem?_eq_getElem (show i < cs.length by omega))
  exact ⟨y, by rw [List.getElem?_eq_getElem (show i < cs.length by omega), hy], hw⟩

set_option maxRecDepth 100000 in
theorem open_Version {H : Type} {enc : TypeId × Value → H} {W : World} {base : Nat} {v : Value} {d : DataW H} {p : List MemPlace}
    (hv : Value.okWide Try.prog W .any base 33 v) (h : DataW.Trod enc Try.prog W 0 (fun _ => true) true 33 v d p) :
    ∃ a b c : Int, v = .agg #[.int .i64 a, .int .i64 b, .int .i64 c] := by
  obtain ⟨cs, rfl, hsz⟩ := okWide_struct Try.underlying33 hv
  have hC : Try.prog.cellsOf 33 = 3 := by kernel_rfl
  obtain ⟨l⟩ := cs
  match l, hsz.trans hC with
  | [k0, k1, k2], _ =>
    obtain ⟨fuel, hf⟩ := h
    obtain ⟨hl2, hall⟩ := trod_intStruct Try.underlying33 (by kernel_rfl) hC (fun i f hf => by
        match i, hf with
        | 0, hf => simp at hf; subst hf; exact Try.underlying3
        | 1, hf => simp at hf; subst hf; exact Try.underlying3
        | 2, hf => simp at hf; subst hf; exact Try.underlying3
        | i + 3, hf => simp at hf) hf
    obtain ⟨a, rfl, _⟩ := hall 0 k0 rfl
    obtain ⟨b, rfl, _⟩ := hall 1 k1 rfl
    obtain ⟨c, rfl, _⟩ := hall 2 k2 rfl
    exact ⟨a, b, c, rfl⟩
end Go.Proofs.Ytleiijhnjaagmaa
