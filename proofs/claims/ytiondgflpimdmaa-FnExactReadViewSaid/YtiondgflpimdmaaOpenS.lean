/- How arguments that are spots or frames are opened. -/
import Derived.Test.YtiondgflpimdmaaOpenF
set_option linter.unusedSimpArgs false
set_option linter.unusedVariables false
namespace Go.Proofs.Ytiondgflpimdmaa
open Go.ChangeShapes Go.WideShapes Go.ChangeAt Go.RowKit Go.Deep

theorem two_ints {cs : List Value} {m : Nat} (hl : cs.length = m) (h : ∀ (i : Nat) (u : Value), cs[i]? = some u → ∃ y : Int, u = .int .i64 y ∧ -9223372036854775808 ≤ y ∧ y ≤ 9223372036854775807) (i : Nat) (hi : i < m) :
    ∃ y : Int, cs[i]? = some (.int .i64 y) ∧ -9223372036854775808 ≤ y ∧ y ≤ 9223372036854775807 := by
  obtain ⟨y, hy, hw⟩ := h i _ (List.getElem?_eq_getElem (show i < cs.length by omega))
  exact ⟨y, by rw [List.getElem?_eq_getElem (show i < cs.length by omega), hy], hw⟩

set_option maxRecDepth 100000 in
theorem open_Frame {H : Type} {enc : TypeId × Value → H} {W : World} {base : Nat} {v : Value} {d : DataW H} {p : List MemPlace}
    (hv : Value.okWide Try.prog W .any base 25 v) (h : DataW.Trod enc Try.prog W 0 (fun _ => true) true 25 v d p) :
    ∃ x y c r : Int, v = .agg #[.int .i64 x, .int .i64 y, .int .i64 c, .int .i64 r] := by
  obtain ⟨cs, rfl, hsz⟩ := okWide_struct Try.underlying25 hv
  have hC : Try.prog.cellsOf 25 = 4 := by kernel_rfl
  have hCs : Try.prog.cellsOf 23 = 2 := by kernel_rfl
  have hCi : Try.prog.cellsOf 3 = 1 := by kernel_rfl
  obtain ⟨l⟩ := cs
  match l, hsz.trans hC with
  | [c0, c1, c2, c3], _ =>
    obtain ⟨fuel, hf⟩ := h
    obtain ⟨xs, n, _, _, _, hxl, hg⟩ := DataW.trod_struct Try.underlying25 hf
    match xs, hxl with
    | [y0, y1, y2], _ =>
      have g0 := hg 0 _ rfl
      have g1 := hg 1 _ rfl
      have g2 := hg 2 _ rfl
      simp [Value.cells, hCs, hCi] at g0 g1 g2
      obtain ⟨hl2, hall⟩ := trod_intStruct Try.underlying23 (by kernel_rfl) hCs (fun i f hf => by
        match i, hf with
        | 0, hf => simp at hf; subst hf; exact Try.underlying3
        | 1, hf => simp at hf; subst hf; exact Try.underlying3
        | i + 2, hf => simp at hf) g0
      obtain ⟨x, rfl, _⟩ := hall 0 c0 rfl
      obtain ⟨y, rfl, _⟩ := hall 1 c1 rfl
      obtain ⟨c, hc, _⟩ := DataW.trod_int Try.underlying3 g1
      obtain ⟨r, hr, _⟩ := DataW.trod_int Try.underlying3 g2
      simp at hc hr
      subst hc hr
      exact ⟨x, y, c, r, rfl⟩

end Go.Proofs.Ytiondgflpimdmaa
