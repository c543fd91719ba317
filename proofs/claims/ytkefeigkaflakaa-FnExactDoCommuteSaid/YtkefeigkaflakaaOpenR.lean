/- How arguments are opened that are slices of spots or of edits. -/
import Derived.Test.YtkefeigkaflakaaOpenF
import Derived.Test.YtkefeigkaflakaaRecSpot
import Derived.Test.YtkefeigkaflakaaRecEdit
set_option linter.unusedSimpArgs false
set_option linter.unusedVariables false
namespace Go.Proofs.Ytkefeigkaflakaa
open Go.ChangeShapes Go.WideShapes Go.ChangeAt Go.RowKit Go.Deep

/-- Of the values of records nothing more is asked. -/
def WfRow {α : Type} (R : Rec α) (l : List α) : Prop := True
set_option maxRecDepth 100000 in
theorem open_flatG {H : Type} {enc : TypeId × Value → H} {W : World} {base : Nat} {t e : TypeId} {v : Value} {d : DataW H} {p : List MemPlace} (m : Nat) (hm0 : 0 < m)
    (ht : Try.prog.underlying t = some (.slice e)) (hC : Try.prog.cellsOf e = m)
    (hcells : ∀ (held : Nat → Bool) (b : Bool) (fuel : Nat) (cs : List Value) (x : DataW H × List MemPlace), DataW.trod enc Try.prog W 0 held b fuel e cs = some x → cs.length = m → ∀ (i : Nat) (u : Value), cs[i]? = some u → ∃ y : Int, u = .int .i64 y ∧ -9223372036854775808 ≤ y ∧ y ≤ 9223372036854775807)
    (hv : Value.okWide Try.prog W .any base t v) (h : DataW.Trod enc Try.prog W 0 (fun _ => true) true t v d p) : ∃ (n : Nat) (zs : List Int), Sl W m v n (ints zs) ∧ WfInts zs := by
  obtain ⟨a0, len0, cap0, rfl⟩ := okWide_slice ht hv
  obtain ⟨fuel, hf⟩ := h
  rcases open_slice ht hf with ⟨hcs, _⟩ | ⟨x, l, c, mm, n, D, Pl, hcs, _, hl, hm, hmm, _, hx⟩
  · simp [Value.cells] at hcs
    obtain ⟨rfl, rfl, rfl⟩ := hcs
    exact ⟨0, [], ⟨by simp [ints], none, 0, rfl, Nat.le_refl _, by simp [maxLen], fun _ => ⟨rfl, rfl⟩, fun h => by simp at h⟩, fun x hx => by cases hx⟩
  · simp [Value.cells] at hcs
    obtain ⟨rfl, rfl, rfl⟩ := hcs
    have hmc : mm = cap0 := by simpa using hmm
    subst hmc
    rw [hC] at hx
    have key : ∀ j, j < len0 * m → ∃ y : Int, W.cell? (x.add j) = some (.int .i64 y) ∧ -9223372036854775808 ≤ y ∧ y ≤ 9223372036854775807 := by
      intro j hj
      have hi : j / m < mm := by
        have := Nat.div_lt_of_lt_mul (show j < m * len0 from by rw [Nat.mul_comm]; exact hj)
        omega
      obtain ⟨cs', hc, htr⟩ := hx (j / m) hi
      obtain ⟨_, hcl, hat⟩ := World.cells?_some hc
      have hall := hcells _ _ _ _ _ htr (by rw [hcl])
      have hr : j % m < cs'.length := by rw [hcl]; exact Nat.mod_lt _ hm0
      obtain ⟨y, hy, hw⟩ := hall (j % m) _ (List.getElem?_eq_getElem hr)
      refine ⟨y, ?_, hw⟩
      have := hat (j % m) (by omega)
      rw [Go.Deep.add_add, List.getElem?_eq_getElem hr, hy, Nat.mul_comm, Nat.div_add_mod] at this
      exact this
    refine ⟨len0, (List.range (len0 * m)).map (fun j => intOf ((W.cell? (x.add j)).getD undef)), ⟨by simp [ints], some x, mm, rfl, hl, hm, fun h => (by cases h), fun hn => ?_⟩, ?_⟩
    · obtain ⟨bb, off, spot⟩ := x
      have hsp : spot = none := by
        obtain ⟨y, hy, _⟩ := key 0 hn
        have h2 := World.cell?_spot hy
        simpa [Addr.add] using h2
      subst hsp
      refine ⟨bb, off, rfl, fun j u hu => ?_⟩
      have hj : j < len0 * m := by have := (List.getElem?_eq_some_iff.1 hu).1; simpa [ints] using this
      obtain ⟨y, hy, _⟩ := key j hj
      have h3 := hy
      rw [Addr.add_lit] at h3
      rw [h3]
      simp [ints, hj] at hu
      rw [← hu, hy]
      rfl
    · intro y hy
      simp at hy
      obtain ⟨j, hj, rfl⟩ := hy
      obtain ⟨z, hz, hw⟩ := key j hj
      rw [hz]
      exact hw
theorem spts_of_flat (n : Nat) (zs : List Int) (h : zs.length = n * 2) : ∃ l : List Spt, l.length = n ∧ rcells sptRec l = ints zs := by
  induction n generalizing zs with
  | zero =>
    obtain rfl : zs = [] := List.eq_nil_of_length_eq_zero (by simpa using h)
    exact ⟨[], rfl, rfl⟩
  | succ n ih =>
    match zs, h with
    | a :: b :: r, h =>
      obtain ⟨l, h1, h2⟩ := ih r (by simp at h; omega)
      exact ⟨⟨a, b⟩ :: l, by simp [h1], by show [I a, I b] ++ rcells sptRec l = _; rw [h2]; rfl⟩
    | [], h => simp at h
    | [_], h => simp at h; omega
theorem open_SpotsAt {H : Type} {enc : TypeId × Value → H} {W : World} {base : Nat} {v : Value} {d : DataW H} {p : List MemPlace}
    (hv : Value.okWide Try.prog W .any base 22 v) (h : DataW.Trod enc Try.prog W 0 (fun _ => true) true 22 v d p) : ∃ l, RowAt sptRec W v l ∧ WfRow sptRec l := by
  obtain ⟨n, zs, hs, hw⟩ := open_flat 2 (by omega) Try.underlying22 Try.underlying24 (by kernel_rfl) (by rfl) (by kernel_rfl)
    (fun i f hf => by
      match i, hf with
      | 0, hf => simp at hf; subst hf; exact Try.underlying3
      | 1, hf => simp at hf; subst hf; exact Try.underlying3
      | i + 2, hf => simp at hf) hv h
  obtain ⟨l, h1, h2⟩ := spts_of_flat n zs (by have := hs.len; rwa [ints_len] at this)
  subst h1
  refine ⟨l, ?_, trivial⟩
  unfold RowAt
  rw [h2]
  exact hs
theorem edts_of_flat (n : Nat) (zs : List Int) (h : zs.length = n * 6) : ∃ l : List Edt, l.length = n ∧ rcells edtRec l = ints zs := by
  induction n generalizing zs with
  | zero =>
    obtain rfl : zs = [] := List.eq_nil_of_length_eq_zero (by simpa using h)
    exact ⟨[], rfl, rfl⟩
  | succ n ih =>
    match zs, h with
    | a :: b :: c :: d :: e :: f :: r, h =>
      obtain ⟨l, h1, h2⟩ := ih r (by simp at h; omega)
      exact ⟨⟨a, b, c, d, e, f⟩ :: l, by simp [h1], by show [I a, I b, I c, I d, I e, I f] ++ rcells edtRec l = _; rw [h2]; rfl⟩
    | [], h => simp at h
    | [_], h => simp at h; omega
    | [_, _], h => simp at h; omega
    | [_, _, _], h => simp at h; omega
    | [_, _, _, _], h => simp at h; omega
    | [_, _, _, _, _], h => simp at h; omega
set_option maxRecDepth 100000 in
theorem edit_cells {H : Type} {enc : TypeId × Value → H} {W : World} (held : Nat → Bool) (b : Bool) (fuel : Nat) (cs : List Value) (x : DataW H × List MemPlace) (h : DataW.trod enc Try.prog W 0 held b fuel 26 cs = some x) (hl : cs.length = 6) :
    ∀ (i : Nat) (u : Value), cs[i]? = some u → ∃ y : Int, u = .int .i64 y ∧ -9223372036854775808 ≤ y ∧ y ≤ 9223372036854775807 := by
  have hCs : Try.prog.cellsOf 24 = 2 := by kernel_rfl
  have hCi : Try.prog.cellsOf 3 = 1 := by kernel_rfl
  match cs, hl with
  | [c0, c1, c2, c3, c4, c5], _ =>
    obtain ⟨xs, n, _, _, _, hxl, hg⟩ := DataW.trod_struct Try.underlying26 h
    match xs, hxl with
    | [y0, y1, y2, y3], _ =>
      have g0 := hg 0 _ rfl
      have g1 := hg 1 _ rfl
      have g2 := hg 2 _ rfl
      have g3 := hg 3 _ rfl
      simp [hCs, hCi] at g0 g1 g2 g3
      have spot := fun (cs2 : List Value) (x2 : DataW H × List MemPlace) (f2 : Nat) (hh : DataW.trod enc Try.prog W 0 held b f2 24 cs2 = some x2) => trod_intStruct Try.underlying24 (by kernel_rfl) hCs (fun i f hf => by
        match i, hf with
        | 0, hf => simp at hf; subst hf; exact Try.underlying3
        | 1, hf => simp at hf; subst hf; exact Try.underlying3
        | i + 2, hf => simp at hf) hh
      obtain ⟨z0, hz0, _, w0⟩ := DataW.trod_int Try.underlying3 g0
      obtain ⟨z1, hz1, _, w1⟩ := DataW.trod_int Try.underlying3 g1
      have s2 := (spot _ _ _ g2).2
      have s3 := (spot _ _ _ g3).2
      simp at hz0 hz1
      subst hz0 hz1
      intro i u hu
      match i, hu with
      | 0, hu => simp at hu; subst hu; exact ⟨z0, rfl, wf_bounds w0⟩
      | 1, hu => simp at hu; subst hu; exact ⟨z1, rfl, wf_bounds w1⟩
      | 2, hu => exact s2 0 u hu
      | 3, hu => exact s2 1 u hu
      | 4, hu => exact s3 0 u hu
      | 5, hu => exact s3 1 u hu
      | i + 6, hu => simp at hu
theorem open_EditsAt {H : Type} {enc : TypeId × Value → H} {W : World} {base : Nat} {v : Value} {d : DataW H} {p : List MemPlace}
    (hv : Value.okWide Try.prog W .any base 38 v) (h : DataW.Trod enc Try.prog W 0 (fun _ => true) true 38 v d p) : ∃ l, RowAt edtRec W v l ∧ WfRow edtRec l := by
  obtain ⟨n, zs, hs, hw⟩ := open_flatG 6 (by omega) Try.underlying38 (by kernel_rfl) (fun held b fuel cs x hx hl => edit_cells held b fuel cs x hx hl) hv h
  obtain ⟨l, h1, h2⟩ := edts_of_flat n zs (by have := hs.len; rwa [ints_len] at this)
  subst h1
  refine ⟨l, ?_, trivial⟩
  unfold RowAt
  rw [h2]
  exact hs
def MarkPostSpot (w : World) (lo hi : Nat) (v : Value) (k0 : Int) (l : List Spt) (e : Ending) (w' : World) : Prop :=
  e = .returned (.int .i64 (k0 + ((l.length * 2 : Nat) : Int))) ∧ MarkedRow sptRec sptMk w' lo hi v k0 l ∧ w.grownBy w' v.ownBlock ∧ Apart lo hi w w'
theorem markSpotN (v : Value) (l : List Spt) (k0 : Int) (lo hi : Nat) (w : World) (h : OwnRowIn sptRec w lo hi v l) (hk0 : 0 ≤ k0) (hk1 : k0 ≤ 1152921504606846976) (hl : l.length ≤ 115292150460684) :
    Calls Try.prog 33 #[v, .int .i64 k0] w (MarkPostSpot w lo hi v k0 l) :=
  (markSpotR v l k0 lo hi w h hk0 hk1 hl).mono fun e w' ⟨h1, h2, h3, h4⟩ => ⟨h1, h2, h3, h4⟩
theorem heldSpotN (v : Value) (l : List Spt) (k0 : Int) (lo hi : Nat) (w : World) (h : MarkedRow sptRec sptMk w lo hi v k0 l) (hk0 : 0 ≤ k0) (hk1 : k0 ≤ 1152921504606846976) (hl : l.length ≤ 115292150460684) :
    Calls Try.prog 34 #[v, .int .i64 k0] w fun e w' => e = .returned (.int .i64 (k0 + ((l.length * 2 : Nat) : Int))) ∧ w = w' :=
  (heldSpotR v l k0 lo hi w h hk0 hk1 hl).mono fun e w' ⟨h1, h2⟩ => ⟨h1, h2⟩
def MarkPostEdit (w : World) (lo hi : Nat) (v : Value) (k0 : Int) (l : List Edt) (e : Ending) (w' : World) : Prop :=
  e = .returned (.int .i64 (k0 + ((l.length * 6 : Nat) : Int))) ∧ MarkedRow edtRec edtMk w' lo hi v k0 l ∧ w.grownBy w' v.ownBlock ∧ Apart lo hi w w'
theorem markEditN (v : Value) (l : List Edt) (k0 : Int) (lo hi : Nat) (w : World) (h : OwnRowIn edtRec w lo hi v l) (hk0 : 0 ≤ k0) (hk1 : k0 ≤ 1152921504606846976) (hl : l.length ≤ 115292150460684) :
    Calls Try.prog 24 #[v, .int .i64 k0] w (MarkPostEdit w lo hi v k0 l) :=
  (markEditR v l k0 lo hi w h hk0 hk1 hl).mono fun e w' ⟨h1, h2, h3, h4⟩ => ⟨h1, h2, h3, h4⟩
theorem heldEditN (v : Value) (l : List Edt) (k0 : Int) (lo hi : Nat) (w : World) (h : MarkedRow edtRec edtMk w lo hi v k0 l) (hk0 : 0 ≤ k0) (hk1 : k0 ≤ 1152921504606846976) (hl : l.length ≤ 115292150460684) :
    Calls Try.prog 43 #[v, .int .i64 k0] w fun e w' => e = .returned (.int .i64 (k0 + ((l.length * 6 : Nat) : Int))) ∧ w = w' :=
  (heldEditR v l k0 lo hi w h hk0 hk1 hl).mono fun e w' ⟨h1, h2⟩ => ⟨h1, h2⟩
end Go.Proofs.Ytkefeigkaflakaa
