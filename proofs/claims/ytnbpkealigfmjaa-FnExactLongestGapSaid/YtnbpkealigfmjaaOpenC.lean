/- How arguments are opened that are slices of measures or of cues. -/
import Derived.Test.YtnbpkealigfmjaaOpenF
import Derived.Test.YtnbpkealigfmjaaRecMeasure
import Derived.Test.YtnbpkealigfmjaaRecCue
import Derived.Deep.Strs
set_option linter.unusedSimpArgs false
set_option linter.unusedVariables false
namespace Go.Proofs.Ytnbpkealigfmjaa
open Go.ChangeShapes Go.WideShapes Go.ChangeAt Go.RowKit Go.Deep

/-- Of the values of records nothing more is asked. -/
def WfRow {α : Type} (R : Rec α) (l : List α) : Prop := True
set_option maxRecDepth 100000 in
theorem open_flatP {H : Type} {enc : TypeId × Value → H} {W : World} {base : Nat} {t e : TypeId} {v : Value} {d : DataW H} {p : List MemPlace} (m : Nat) (hm0 : 0 < m) (K : Nat → Value → Prop)
    (ht : Try.prog.underlying t = some (.slice e)) (hC : Try.prog.cellsOf e = m)
    (hcells : ∀ (held : Nat → Bool) (b : Bool) (fuel : Nat) (cs : List Value) (x : DataW H × List MemPlace), DataW.trod enc Try.prog W 0 held b fuel e cs = some x → cs.length = m → ∀ (i : Nat) (u : Value), cs[i]? = some u → K i u)
    (hv : Value.okWide Try.prog W .any base t v) (h : DataW.Trod enc Try.prog W 0 (fun _ => true) true t v d p) : ∃ (n : Nat) (xs : List Value), Sl W m v n xs ∧ ∀ j u, xs[j]? = some u → K (j % m) u := by
  obtain ⟨a0, len0, cap0, rfl⟩ := okWide_slice ht hv
  obtain ⟨fuel, hf⟩ := h
  rcases open_slice ht hf with ⟨hcs, _⟩ | ⟨x, l, c, mm, n, D, Pl, hcs, _, hl, hm, hmm, _, hx⟩
  · simp [Value.cells] at hcs
    obtain ⟨rfl, rfl, rfl⟩ := hcs
    exact ⟨0, [], ⟨by simp, none, 0, rfl, Nat.le_refl _, by simp [maxLen], fun _ => ⟨rfl, rfl⟩, fun h => by simp at h⟩, fun j u hu => by simp at hu⟩
  · simp [Value.cells] at hcs
    obtain ⟨rfl, rfl, rfl⟩ := hcs
    have hmc : mm = cap0 := by simpa using hmm
    subst hmc
    rw [hC] at hx
    have key : ∀ j, j < len0 * m → ∃ u, W.cell? (x.add j) = some u ∧ K (j % m) u := by
      intro j hj
      have hi : j / m < mm := by
        have := Nat.div_lt_of_lt_mul (show j < m * len0 from by rw [Nat.mul_comm]; exact hj)
        omega
      obtain ⟨cs', hc, htr⟩ := hx (j / m) hi
      obtain ⟨_, hcl, hat⟩ := World.cells?_some hc
      have hall := hcells _ _ _ _ _ htr (by rw [hcl])
      have hr : j % m < cs'.length := by rw [hcl]; exact Nat.mod_lt _ hm0
      refine ⟨_, ?_, hall (j % m) _ (List.getElem?_eq_getElem hr)⟩
      have := hat (j % m) (by omega)
      rw [Go.Deep.add_add, List.getElem?_eq_getElem hr, Nat.mul_comm, Nat.div_add_mod] at this
      exact this
    refine ⟨len0, (List.range (len0 * m)).map (fun j => (W.cell? (x.add j)).getD undef), ⟨by simp, some x, mm, rfl, hl, hm, fun h => (by cases h), fun hn => ?_⟩, ?_⟩
    · obtain ⟨bb, off, spot⟩ := x
      have hsp : spot = none := by
        obtain ⟨y, hy, _⟩ := key 0 hn
        have h2 := World.cell?_spot hy
        simpa [Addr.add] using h2
      subst hsp
      refine ⟨bb, off, rfl, fun j u hu => ?_⟩
      have hj : j < len0 * m := by have := (List.getElem?_eq_some_iff.1 hu).1; simpa using this
      obtain ⟨y, hy, _⟩ := key j hj
      have h3 := hy
      rw [Addr.add_lit] at h3
      rw [h3]
      simp [hj] at hu
      rw [← hu, hy]
      rfl
    · intro j u hu
      have hj : j < len0 * m := by have := (List.getElem?_eq_some_iff.1 hu).1; simpa using this
      obtain ⟨z, hz, hw⟩ := key j hj
      simp [hj] at hu
      rw [hz] at hu
      subst hu
      exact hw
theorem cells2 {α : Type} (R : Rec α) (K : Nat → Value → Prop) (Q : α → Prop) (hR : ∀ a b, K 0 a → K 1 b → ∃ x, R.cells x = [a, b] ∧ Q x) :
    ∀ (n : Nat) (xs : List Value), xs.length = n * 2 → (∀ j u, xs[j]? = some u → K (j % 2) u) → ∃ l : List α, l.length = n ∧ rcells R l = xs ∧ ∀ x ∈ l, Q x := by
  intro n
  induction n with
  | zero =>
    intro xs h _
    obtain rfl : xs = [] := List.eq_nil_of_length_eq_zero (by simpa using h)
    exact ⟨[], rfl, rfl, fun x hx => by cases hx⟩
  | succ n ih =>
    intro xs h hK
    match xs, h with
    | a :: b :: r, h =>
      obtain ⟨l, h1, h2, h3⟩ := ih r (by simp at h; omega) (fun j u hu => by
        have := hK (j + 2) u (by simpa using hu)
        rwa [Nat.add_mod_right] at this)
      obtain ⟨x, hx, hq⟩ := hR a b (hK 0 a rfl) (hK 1 b rfl)
      refine ⟨x :: l, by simp [h1], ?_, fun y hy => ?_⟩
      · show R.cells x ++ rcells R l = _
        rw [hx, h2]; rfl
      · rcases List.mem_cons.1 hy with rfl | hy
        · exact hq
        · exact h3 y hy
    | [], h => simp at h
    | [_], h => simp at h; omega
set_option maxRecDepth 100000 in
theorem open_MsrsAt {H : Type} {enc : TypeId × Value → H} {W : World} {base : Nat} {v : Value} {d : DataW H} {p : List MemPlace}
    (hv : Value.okWide Try.prog W .any base 22 v) (h : DataW.Trod enc Try.prog W 0 (fun _ => true) true 22 v d p) : ∃ l, RowAt msrRec W v l ∧ WfRow msrRec l := by
  obtain ⟨n, zs, hs, hw⟩ := open_flat 2 (by omega) Try.underlying22 Try.underlying60 (by kernel_rfl) (by rfl) (by kernel_rfl)
    (fun i f hf => by
      match i, hf with
      | 0, hf => simp at hf; subst hf; exact Try.underlying3
      | 1, hf => simp at hf; subst hf; exact Try.underlying3
      | i + 2, hf => simp at hf) hv h
  obtain ⟨l, h1, h2, _⟩ := cells2 msrRec (fun _ u => ∃ y, u = I y) (fun _ => True) (fun a b ha hb => by
    obtain ⟨y, rfl⟩ := ha
    obtain ⟨z, rfl⟩ := hb
    exact ⟨⟨y, z⟩, rfl, trivial⟩) n (ints zs) (by have := hs.len; exact this) (fun j u hu => ⟨_, ints_at hu⟩)
  subst h1
  refine ⟨l, ?_, trivial⟩
  unfold RowAt
  rw [h2]
  exact hs
def cuCell (i : Nat) (u : Value) : Prop := (i = 0 → ∃ y, u = .int .i64 y) ∧ (i = 1 → ∃ s : ByteArray, u = .string s ∧ s.size ≤ 9223372036854775807)
set_option maxRecDepth 100000 in
theorem cue_cells {H : Type} {enc : TypeId × Value → H} {W : World} (held : Nat → Bool) (b : Bool) (fuel : Nat) (cs : List Value) (x : DataW H × List MemPlace) (h : DataW.trod enc Try.prog W 0 held b fuel 54 cs = some x) (hl : cs.length = 2) :
    ∀ (i : Nat) (u : Value), cs[i]? = some u → cuCell i u := by
  have hCi : Try.prog.cellsOf 3 = 1 := by kernel_rfl
  have hCs : Try.prog.cellsOf 9 = 1 := by kernel_rfl
  match cs, hl with
  | [c0, c1], _ =>
    obtain ⟨xs, n, _, _, _, hxl, hg⟩ := DataW.trod_struct Try.underlying54 h
    match xs, hxl with
    | [y0, y1], _ =>
      have g0 := hg 0 _ rfl
      have g1 := hg 1 _ rfl
      simp [hCi, hCs] at g0 g1
      obtain ⟨z0, hz0, _, w0⟩ := DataW.trod_int Try.underlying3 g0
      obtain ⟨z1, hz1, _, w1⟩ := DataW.trod_string Try.underlying9 g1
      unfold maxLen at w1
      simp at hz0 hz1
      intro i u hu
      match i, hu with
      | 0, hu => simp at hu; subst hu; exact ⟨fun _ => ⟨z0, hz0⟩, fun h => absurd h (by omega)⟩
      | 1, hu => simp at hu; subst hu; exact ⟨fun h => absurd h (by omega), fun _ => ⟨z1, hz1, by omega⟩⟩
      | i + 2, hu => simp at hu
set_option maxRecDepth 100000 in
theorem open_CuesAt {H : Type} {enc : TypeId × Value → H} {W : World} {base : Nat} {v : Value} {d : DataW H} {p : List MemPlace}
    (hv : Value.okWide Try.prog W .any base 23 v) (h : DataW.Trod enc Try.prog W 0 (fun _ => true) true 23 v d p) : ∃ l, RowAt cuRec W v l ∧ WfCues l := by
  obtain ⟨n, xs, hs, hw⟩ := open_flatP 2 (by omega) cuCell Try.underlying23 (by kernel_rfl) (fun _ _ _ _ _ hx hl => cue_cells _ _ _ _ _ hx hl) hv h
  obtain ⟨l, h1, h2, h3⟩ := cells2 cuRec cuCell (fun x => x.n.size ≤ 9223372036854775807) (fun a b ha hb => by
    obtain ⟨y, rfl⟩ := ha.1 rfl
    obtain ⟨s, rfl, hs⟩ := hb.2 rfl
    exact ⟨⟨y, s⟩, rfl, hs⟩) n xs hs.len hw
  subst h1
  refine ⟨l, ?_, fun i hi => h3 _ (gx_mem hi)⟩
  unfold RowAt
  rw [h2]
  exact hs
end Go.Proofs.Ytnbpkealigfmjaa
