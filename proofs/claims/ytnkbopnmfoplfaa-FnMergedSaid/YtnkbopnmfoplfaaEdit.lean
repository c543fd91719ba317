/- Contracts: edits: validity, of one and of a list; in the program and in the reference. -/
import Derived.Test.YtnkbopnmfoplfaaRecEdit
import Derived.Test.YtnkbopnmfoplfaaChart
import Derived.Test.YtnkbopnmfoplfaaMark
set_option linter.unusedSimpArgs false
set_option linter.unusedVariables false
namespace Go.Proofs.Ytnkbopnmfoplfaa
open Go.RowKit

def Edt.b (e : Edt) : Spt := ⟨e.bx, e.bY⟩
def Edt.a (e : Edt) : Spt := ⟨e.ax, e.aY⟩
def isEdt (e : Edt) : Bool := inR e.e 1 9 && inR e.p 0 11 && isSpot e.bx e.bY && isSpot e.ax e.aY && !((e.bx == e.ax) && (e.bY == e.aY))
theorem isEdt_t {e : Edt} (h : isEdt e = true) : 1 ≤ e.e ∧ e.e ≤ 9 ∧ 0 ≤ e.p ∧ e.p ≤ 11 ∧ isSpot e.bx e.bY = true ∧ isSpot e.ax e.aY = true := by
  unfold isEdt at h
  simp only [Bool.and_eq_true] at h
  obtain ⟨⟨⟨⟨h1, h2⟩, h3⟩, h4⟩, _⟩ := h
  have := inR_t.1 h1
  have := inR_t.1 h2
  exact ⟨by omega, by omega, by omega, by omega, h3, h4⟩
theorem isEditor_any (n : Int) (w : World) : Calls Try.prog 60 #[.int .i64 n] w fun e w' => e = .returned (.bool (inR n 1 9)) ∧ w = w' := by
  go_enter Try.func60, Try.ntmps60
  go_wp2_with (go_at_call 39; refine (within_any _ _ _ _).mono ?_; rintro e w' ⟨rfl, rfl⟩)
  go_ret
  exact ⟨rfl, rfl⟩
theorem stTwo_any (a b c d : Int) (w : World) : Calls Try.prog 62 #[.agg #[.int .i64 a, .int .i64 b], .agg #[.int .i64 c, .int .i64 d]] w fun e w' => e = .returned (.bool (isSpot a b && isSpot c d)) ∧ Below w.heap.size w w' := by
  have hb0 := fun o o' => ((Below.refl w.heap.size w).alloc (Nat.le_refl _) o).alloc (by simp) o'
  have Hb0 := Lib.hid hb0
  clear hb0
  cases h1 : isSpot a b
  · go_enter Try.func62, Try.ntmps62
    go_wp2_with fail
    refine (stGood_any _ _ _).mono ?_; rintro e w1 ⟨rfl, b1⟩
    have hbb := (Hb0.out _ _).trans (b1.mono (by simp <;> omega))
    go_wp2_with fail
    go_ret
    exact ⟨rfl, hbb⟩
  · cases h2 : isSpot c d
    all_goals
      go_enter Try.func62, Try.ntmps62
      go_wp2_with fail
      refine (stGood_any _ _ _).mono ?_; rintro e w1 ⟨rfl, b1⟩
      have hcc := cell_of b1
      have hzz := b1.size
      simp at hzz
      have z1 : w.heap.size + 1 < w1.heap.size := by omega
      go_wp2_with fail
      refine (stGood_any _ _ _).mono ?_; rintro e w2 ⟨rfl, b2⟩
      have hbb := (Hb0.out _ _).trans ((b1.next (Nat.le_refl _) b2).mono (by simp <;> omega))
      go_wp2_with fail
      go_ret
      exact ⟨rfl, hbb⟩

set_option maxHeartbeats 6400000 in
theorem implIsEdit (x : Edt) (w : World) : Calls Try.prog 47 #[.agg #[.int .i64 x.e, .int .i64 x.p, .int .i64 x.bx, .int .i64 x.bY, .int .i64 x.ax, .int .i64 x.aY]] w fun e w' => e = .returned (.bool (isEdt x)) ∧ Below w.heap.size w w' := by
  have hb0 := fun o => (Below.refl w.heap.size w).alloc (Nat.le_refl _) o
  have Hb0 := Lib.hid hb0
  clear hb0
  cases h1 : inR x.e 1 9
  case false =>
    have hx : Hid (isEdt x = false) := by show _ = _; unfold isEdt; rw [h1]; rfl
    go_enter Try.func47, Try.ntmps47
    go_wp2_with (first | (go_at_call 60; refine (isEditor_any _ _).mono ?_; rintro e w' ⟨rfl, rfl⟩) | (go_at_call 39; refine (within_any _ _ _ _).mono ?_; rintro e w' ⟨rfl, rfl⟩))
    go_ret
    exact ⟨ret_bool hx.out.symm, Hb0.out _⟩
  case true =>
    cases h2 : inR x.p 0 11
    case false =>
      have hx : Hid (isEdt x = false) := by show _ = _; unfold isEdt; rw [h1, h2]; rfl
      go_enter Try.func47, Try.ntmps47
      go_wp2_with (first | (go_at_call 60; refine (isEditor_any _ _).mono ?_; rintro e w' ⟨rfl, rfl⟩) | (go_at_call 39; refine (within_any _ _ _ _).mono ?_; rintro e w' ⟨rfl, rfl⟩))
      go_ret
      exact ⟨ret_bool hx.out.symm, Hb0.out _⟩
    case true =>
      cases h3 : isSpot x.bx x.bY
      case false =>
        have hx : Hid (isEdt x = false) := by show _ = _; unfold isEdt; rw [h1, h2, h3]; rfl
        go_enter Try.func47, Try.ntmps47
        go_wp2_with (first | (go_at_call 60; refine (isEditor_any _ _).mono ?_; rintro e w' ⟨rfl, rfl⟩) | (go_at_call 39; refine (within_any _ _ _ _).mono ?_; rintro e w' ⟨rfl, rfl⟩))
        refine (implIsSpot _ _ _).mono ?_; rintro e w1 ⟨rfl, b1⟩
        have hc1 := cell_of b1
        have hz1 := b1.size
        simp at hz1
        have z1 : w.heap.size < w1.heap.size := by omega
        have B1 : Below w.heap.size w w1 := (Hb0.out _).trans (b1.mono (by simp))
        go_wp2_with fail
        go_ret
        exact ⟨ret_bool hx.out.symm, B1⟩
      case true =>
        cases h4 : isSpot x.ax x.aY
        case false =>
          have hx : Hid (isEdt x = false) := by show _ = _; unfold isEdt; rw [h1, h2, h3, h4]; rfl
          go_enter Try.func47, Try.ntmps47
          go_wp2_with (first | (go_at_call 60; refine (isEditor_any _ _).mono ?_; rintro e w' ⟨rfl, rfl⟩) | (go_at_call 39; refine (within_any _ _ _ _).mono ?_; rintro e w' ⟨rfl, rfl⟩))
          refine (implIsSpot _ _ _).mono ?_; rintro e w1 ⟨rfl, b1⟩
          have hc1 := cell_of b1
          have hz1 := b1.size
          simp at hz1
          have z1 : w.heap.size < w1.heap.size := by omega
          have B1 : Below w.heap.size w w1 := (Hb0.out _).trans (b1.mono (by simp))
          go_wp2_with fail
          refine (implIsSpot _ _ _).mono ?_; rintro e w2 ⟨rfl, b2⟩
          have hc2 := cell_of b2
          have hz2 := b2.size
          have z2 : w.heap.size < w2.heap.size := by omega
          have B2 := B1.next (Nat.le_refl _) b2
          go_wp2_with fail
          go_ret
          exact ⟨ret_bool hx.out.symm, B2⟩
        case true =>
          cases h5 : (x.bx == x.ax) <;> cases h6 : (x.bY == x.aY)
          case false.false =>
            have hx : Hid (isEdt x = true) := by show _ = _; unfold isEdt; rw [h1, h2, h3, h4, h5, h6]; rfl
            go_enter Try.func47, Try.ntmps47
            go_wp2_with (first | (go_at_call 60; refine (isEditor_any _ _).mono ?_; rintro e w' ⟨rfl, rfl⟩) | (go_at_call 39; refine (within_any _ _ _ _).mono ?_; rintro e w' ⟨rfl, rfl⟩))
            refine (implIsSpot _ _ _).mono ?_; rintro e w1 ⟨rfl, b1⟩
            have hc1 := cell_of b1
            have hz1 := b1.size
            simp at hz1
            have z1 : w.heap.size < w1.heap.size := by omega
            have B1 : Below w.heap.size w w1 := (Hb0.out _).trans (b1.mono (by simp))
            go_wp2_with fail
            refine (implIsSpot _ _ _).mono ?_; rintro e w2 ⟨rfl, b2⟩
            have hc2 := cell_of b2
            have hz2 := b2.size
            have z2 : w.heap.size < w2.heap.size := by omega
            have B2 := B1.next (Nat.le_refl _) b2
            go_wp2_with fail
            go_ret
            exact ⟨ret_bool hx.out.symm, B2⟩
          case false.true =>
            have hx : Hid (isEdt x = true) := by show _ = _; unfold isEdt; rw [h1, h2, h3, h4, h5, h6]; rfl
            go_enter Try.func47, Try.ntmps47
            go_wp2_with (first | (go_at_call 60; refine (isEditor_any _ _).mono ?_; rintro e w' ⟨rfl, rfl⟩) | (go_at_call 39; refine (within_any _ _ _ _).mono ?_; rintro e w' ⟨rfl, rfl⟩))
            refine (implIsSpot _ _ _).mono ?_; rintro e w1 ⟨rfl, b1⟩
            have hc1 := cell_of b1
            have hz1 := b1.size
            simp at hz1
            have z1 : w.heap.size < w1.heap.size := by omega
            have B1 : Below w.heap.size w w1 := (Hb0.out _).trans (b1.mono (by simp))
            go_wp2_with fail
            refine (implIsSpot _ _ _).mono ?_; rintro e w2 ⟨rfl, b2⟩
            have hc2 := cell_of b2
            have hz2 := b2.size
            have z2 : w.heap.size < w2.heap.size := by omega
            have B2 := B1.next (Nat.le_refl _) b2
            go_wp2_with fail
            go_ret
            exact ⟨ret_bool hx.out.symm, B2⟩
          case true.false =>
            have hx : Hid (isEdt x = true) := by show _ = _; unfold isEdt; rw [h1, h2, h3, h4, h5, h6]; rfl
            go_enter Try.func47, Try.ntmps47
            go_wp2_with (first | (go_at_call 60; refine (isEditor_any _ _).mono ?_; rintro e w' ⟨rfl, rfl⟩) | (go_at_call 39; refine (within_any _ _ _ _).mono ?_; rintro e w' ⟨rfl, rfl⟩))
            refine (implIsSpot _ _ _).mono ?_; rintro e w1 ⟨rfl, b1⟩
            have hc1 := cell_of b1
            have hz1 := b1.size
            simp at hz1
            have z1 : w.heap.size < w1.heap.size := by omega
            have B1 : Below w.heap.size w w1 := (Hb0.out _).trans (b1.mono (by simp))
            go_wp2_with fail
            refine (implIsSpot _ _ _).mono ?_; rintro e w2 ⟨rfl, b2⟩
            have hc2 := cell_of b2
            have hz2 := b2.size
            have z2 : w.heap.size < w2.heap.size := by omega
            have B2 := B1.next (Nat.le_refl _) b2
            go_wp2_with fail
            go_ret
            exact ⟨ret_bool hx.out.symm, B2⟩
          case true.true =>
            have hx : Hid (isEdt x = false) := by show _ = _; unfold isEdt; rw [h1, h2, h3, h4, h5, h6]; rfl
            go_enter Try.func47, Try.ntmps47
            go_wp2_with (first | (go_at_call 60; refine (isEditor_any _ _).mono ?_; rintro e w' ⟨rfl, rfl⟩) | (go_at_call 39; refine (within_any _ _ _ _).mono ?_; rintro e w' ⟨rfl, rfl⟩))
            refine (implIsSpot _ _ _).mono ?_; rintro e w1 ⟨rfl, b1⟩
            have hc1 := cell_of b1
            have hz1 := b1.size
            simp at hz1
            have z1 : w.heap.size < w1.heap.size := by omega
            have B1 : Below w.heap.size w w1 := (Hb0.out _).trans (b1.mono (by simp))
            go_wp2_with fail
            refine (implIsSpot _ _ _).mono ?_; rintro e w2 ⟨rfl, b2⟩
            have hc2 := cell_of b2
            have hz2 := b2.size
            have z2 : w.heap.size < w2.heap.size := by omega
            have B2 := B1.next (Nat.le_refl _) b2
            go_wp2_with fail
            go_ret
            exact ⟨ret_bool hx.out.symm, B2⟩
set_option maxHeartbeats 6400000 in
theorem edGood_any (x : Edt) (w : World) : Calls Try.prog 52 #[.agg #[.int .i64 x.e, .int .i64 x.p, .int .i64 x.bx, .int .i64 x.bY, .int .i64 x.ax, .int .i64 x.aY]] w fun e w' => e = .returned (.bool (isEdt x)) ∧ Below w.heap.size w w' := by
  have hb0 := fun o => (Below.refl w.heap.size w).alloc (Nat.le_refl _) o
  have Hb0 := Lib.hid hb0
  clear hb0
  cases h1 : inR x.e 1 9
  case false =>
    have hx : Hid (isEdt x = false) := by show _ = _; unfold isEdt; rw [h1]; rfl
    go_enter Try.func52, Try.ntmps52
    go_wp2_with (go_at_call 46; refine (l1In_any _ _ _ _).mono ?_; rintro e w' ⟨rfl, rfl⟩)
    go_ret
    exact ⟨ret_bool hx.out.symm, Hb0.out _⟩
  case true =>
    cases h2 : inR x.p 0 11
    case false =>
      have hx : Hid (isEdt x = false) := by show _ = _; unfold isEdt; rw [h1, h2]; rfl
      go_enter Try.func52, Try.ntmps52
      go_wp2_with (go_at_call 46; refine (l1In_any _ _ _ _).mono ?_; rintro e w' ⟨rfl, rfl⟩)
      go_ret
      exact ⟨ret_bool hx.out.symm, Hb0.out _⟩
    case true =>
      cases h3 : isSpot x.bx x.bY <;> cases h4 : isSpot x.ax x.aY
      case false.false =>
        have hx : Hid (isEdt x = false) := by show _ = _; unfold isEdt; rw [h1, h2, h3, h4]; rfl
        go_enter Try.func52, Try.ntmps52
        go_wp2_with (go_at_call 46; refine (l1In_any _ _ _ _).mono ?_; rintro e w' ⟨rfl, rfl⟩)
        refine (stTwo_any _ _ _ _ _).mono ?_; rintro e w1 ⟨rfl, b1⟩
        have hc1 := cell_of b1
        have hz1 := b1.size
        simp at hz1
        have z1 : w.heap.size < w1.heap.size := by omega
        have B1 : Below w.heap.size w w1 := (Hb0.out _).trans (b1.mono (by simp))
        go_wp2_with fail
        go_ret
        exact ⟨ret_bool hx.out.symm, B1⟩
      case false.true =>
        have hx : Hid (isEdt x = false) := by show _ = _; unfold isEdt; rw [h1, h2, h3, h4]; rfl
        go_enter Try.func52, Try.ntmps52
        go_wp2_with (go_at_call 46; refine (l1In_any _ _ _ _).mono ?_; rintro e w' ⟨rfl, rfl⟩)
        refine (stTwo_any _ _ _ _ _).mono ?_; rintro e w1 ⟨rfl, b1⟩
        have hc1 := cell_of b1
        have hz1 := b1.size
        simp at hz1
        have z1 : w.heap.size < w1.heap.size := by omega
        have B1 : Below w.heap.size w w1 := (Hb0.out _).trans (b1.mono (by simp))
        go_wp2_with fail
        go_ret
        exact ⟨ret_bool hx.out.symm, B1⟩
      case true.false =>
        have hx : Hid (isEdt x = false) := by show _ = _; unfold isEdt; rw [h1, h2, h3, h4]; rfl
        go_enter Try.func52, Try.ntmps52
        go_wp2_with (go_at_call 46; refine (l1In_any _ _ _ _).mono ?_; rintro e w' ⟨rfl, rfl⟩)
        refine (stTwo_any _ _ _ _ _).mono ?_; rintro e w1 ⟨rfl, b1⟩
        have hc1 := cell_of b1
        have hz1 := b1.size
        simp at hz1
        have z1 : w.heap.size < w1.heap.size := by omega
        have B1 : Below w.heap.size w w1 := (Hb0.out _).trans (b1.mono (by simp))
        go_wp2_with fail
        go_ret
        exact ⟨ret_bool hx.out.symm, B1⟩
      case true.true =>
        cases h5 : (x.bx == x.ax) <;> cases h6 : (x.bY == x.aY)
        case false.false =>
          have hx : Hid (isEdt x = true) := by show _ = _; unfold isEdt; rw [h1, h2, h3, h4, h5, h6]; rfl
          go_enter Try.func52, Try.ntmps52
          go_wp2_with (go_at_call 46; refine (l1In_any _ _ _ _).mono ?_; rintro e w' ⟨rfl, rfl⟩)
          refine (stTwo_any _ _ _ _ _).mono ?_; rintro e w1 ⟨rfl, b1⟩
          have hc1 := cell_of b1
          have hz1 := b1.size
          simp at hz1
          have z1 : w.heap.size < w1.heap.size := by omega
          have B1 : Below w.heap.size w w1 := (Hb0.out _).trans (b1.mono (by simp))
          go_wp2_with fail
          go_ret
          exact ⟨ret_bool hx.out.symm, B1⟩
        case false.true =>
          have hx : Hid (isEdt x = true) := by show _ = _; unfold isEdt; rw [h1, h2, h3, h4, h5, h6]; rfl
          go_enter Try.func52, Try.ntmps52
          go_wp2_with (go_at_call 46; refine (l1In_any _ _ _ _).mono ?_; rintro e w' ⟨rfl, rfl⟩)
          refine (stTwo_any _ _ _ _ _).mono ?_; rintro e w1 ⟨rfl, b1⟩
          have hc1 := cell_of b1
          have hz1 := b1.size
          simp at hz1
          have z1 : w.heap.size < w1.heap.size := by omega
          have B1 : Below w.heap.size w w1 := (Hb0.out _).trans (b1.mono (by simp))
          go_wp2_with fail
          go_ret
          exact ⟨ret_bool hx.out.symm, B1⟩
        case true.false =>
          have hx : Hid (isEdt x = true) := by show _ = _; unfold isEdt; rw [h1, h2, h3, h4, h5, h6]; rfl
          go_enter Try.func52, Try.ntmps52
          go_wp2_with (go_at_call 46; refine (l1In_any _ _ _ _).mono ?_; rintro e w' ⟨rfl, rfl⟩)
          refine (stTwo_any _ _ _ _ _).mono ?_; rintro e w1 ⟨rfl, b1⟩
          have hc1 := cell_of b1
          have hz1 := b1.size
          simp at hz1
          have z1 : w.heap.size < w1.heap.size := by omega
          have B1 : Below w.heap.size w w1 := (Hb0.out _).trans (b1.mono (by simp))
          go_wp2_with fail
          go_ret
          exact ⟨ret_bool hx.out.symm, B1⟩
        case true.true =>
          have hx : Hid (isEdt x = false) := by show _ = _; unfold isEdt; rw [h1, h2, h3, h4, h5, h6]; rfl
          go_enter Try.func52, Try.ntmps52
          go_wp2_with (go_at_call 46; refine (l1In_any _ _ _ _).mono ?_; rintro e w' ⟨rfl, rfl⟩)
          refine (stTwo_any _ _ _ _ _).mono ?_; rintro e w1 ⟨rfl, b1⟩
          have hc1 := cell_of b1
          have hz1 := b1.size
          simp at hz1
          have z1 : w.heap.size < w1.heap.size := by omega
          have B1 : Below w.heap.size w w1 := (Hb0.out _).trans (b1.mono (by simp))
          go_wp2_with fail
          go_ret
          exact ⟨ret_bool hx.out.symm, B1⟩

/-- All edits are good, and they are not too many. -/
def edTo (l : List Edt) (k : Nat) : Prop := ∀ i, i < k → isEdt (gx edtRec l i) = true
def areEdts (l : List Edt) : Bool := l.all isEdt && decide ((l.length : Int) ≤ 30)
theorem edTo_succ {l : List Edt} {k : Nat} (h : edTo l k) (hk : isEdt (gx edtRec l k) = true) : edTo l (k + 1) := by
  intro i hi
  by_cases e : i = k
  · subst e; exact hk
  · exact h i (by omega)
theorem areEdts_no {l : List Edt} {k : Nat} (hk : k < l.length) (h : isEdt (gx edtRec l k) = false) : areEdts l = false := by
  unfold areEdts
  have : l.all isEdt = false := by
    rw [List.all_eq_false]
    exact ⟨_, gx_mem (R := edtRec) hk, by rw [h]; decide⟩
  rw [this]; rfl
theorem areEdts_to {l : List Edt} (h : edTo l l.length) : areEdts l = decide ((l.length : Int) ≤ 30) := by
  unfold areEdts
  have : l.all isEdt = true := by
    rw [List.all_eq_true]
    intro x hx
    obtain ⟨i, hi, rfl⟩ := List.getElem_of_mem hx
    have := h i hi
    rwa [gx_eq hi] at this
  rw [this]; simp
theorem areEdts_t {l : List Edt} (h : areEdts l = true) : l.length ≤ 30 ∧ edTo l l.length := by
  unfold areEdts at h
  rw [Bool.and_eq_true, List.all_eq_true] at h
  have := of_decide_eq_true h.2
  exact ⟨by omega, fun i hi => h.1 _ (gx_mem hi)⟩
set_option maxHeartbeats 1600000 in
theorem areEdits_any (v : Value) (l : List Edt) (w : World) (h : RowAt edtRec w v l) :
    Calls Try.prog 28 #[v] w fun e w' => e = .returned (.bool (areEdts l)) ∧ Below w.heap.size w w' := by
  obtain ⟨A, c, rfl, hnc, hc63⟩ := h.shape
  go_enter Try.func28, Try.ntmps28
  go_wp2_with fail
  go_loopw [7] (fun i wr => ∃ k : Nat, k ≤ l.length ∧ i = .int .i64 k ∧ Hid (edTo l k) ∧ Below w.heap.size w wr) (fun i _ => l.length - (intOf i).toNat)
  case atStart => exact ⟨0, Nat.zero_le _, rfl, (fun i hi => absurd hi (by omega)), Below.refl _ _⟩
  case round =>
    obtain ⟨k, hk, rfl, hall, hb⟩ := hrel
    by_cases hlt : k < l.length
    · obtain ⟨b, o, rfl, hc0, hc1, hc2, hc3, hc4, hc5⟩ := edt_at (h.below hb (Nat.le_refl _)) k hlt
      have hbA := fun o => (Below.refl wr.heap.size wr).alloc (Nat.le_refl _) o
      have HbA := Lib.hid hbA
      clear hbA
      cases hx : isEdt (gx edtRec l k)
      · have hr := Lib.hid (areEdts_no hlt hx)
        go_wp2_with fail
        refine (implIsEdit (gx edtRec l k) _).mono ?_; rintro e w1 ⟨rfl, b1⟩
        go_wp2_with fail
        go_ret
        exact ⟨ret_bool hr.out.symm, (hb.trans ((HbA.out _).mono hb.size)).next (Nat.le_refl _) b1⟩
      · have hn : Hid (edTo l (k + 1)) := edTo_succ hall.out hx
        go_wp2_with fail
        refine (implIsEdit (gx edtRec l k) _).mono ?_; rintro e w1 ⟨rfl, b1⟩
        go_wp2_with fail
        go_roundw
        case rel => exact ⟨k + 1, by omega, by go_num, hn, (hb.trans ((HbA.out _).mono hb.size)).next (Nat.le_refl _) b1⟩
        case measure => simp [intOf]; omega
    · obtain rfl : k = l.length := by omega
      have hr := Lib.hid (areEdts_to hall.out)
      go_wp2_with fail
      go_ret
      exact ⟨ret_bool hr.out.symm, hb⟩
set_option maxHeartbeats 1600000 in
theorem edAll_any (v : Value) (l : List Edt) (w : World) (h : RowAt edtRec w v l) :
    Calls Try.prog 37 #[v] w fun e w' => e = .returned (.bool (areEdts l)) ∧ Below w.heap.size w w' := by
  obtain ⟨A, c, rfl, hnc, hc63⟩ := h.shape
  go_enter Try.func37, Try.ntmps37
  go_wp2_with fail
  go_loopw [7] (fun i wr => ∃ k : Nat, k ≤ l.length ∧ i = .int .i64 k ∧ Hid (edTo l k) ∧ Below w.heap.size w wr) (fun i _ => l.length - (intOf i).toNat)
  case atStart => exact ⟨0, Nat.zero_le _, rfl, (fun i hi => absurd hi (by omega)), Below.refl _ _⟩
  case round =>
    obtain ⟨k, hk, rfl, hall, hb⟩ := hrel
    by_cases hlt : k < l.length
    · obtain ⟨b, o, rfl, hc0, hc1, hc2, hc3, hc4, hc5⟩ := edt_at (h.below hb (Nat.le_refl _)) k hlt
      have hbA := fun o => (Below.refl wr.heap.size wr).alloc (Nat.le_refl _) o
      have HbA := Lib.hid hbA
      clear hbA
      cases hx : isEdt (gx edtRec l k)
      · have hr := Lib.hid (areEdts_no hlt hx)
        go_wp2_with fail
        refine (edGood_any (gx edtRec l k) _).mono ?_; rintro e w1 ⟨rfl, b1⟩
        go_wp2_with fail
        go_ret
        exact ⟨ret_bool hr.out.symm, (hb.trans ((HbA.out _).mono hb.size)).next (Nat.le_refl _) b1⟩
      · have hn : Hid (edTo l (k + 1)) := edTo_succ hall.out hx
        go_wp2_with fail
        refine (edGood_any (gx edtRec l k) _).mono ?_; rintro e w1 ⟨rfl, b1⟩
        go_wp2_with fail
        go_roundw
        case rel => exact ⟨k + 1, by omega, by go_num, hn, (hb.trans ((HbA.out _).mono hb.size)).next (Nat.le_refl _) b1⟩
        case measure => simp [intOf]; omega
    · obtain rfl : k = l.length := by omega
      have hr := Lib.hid (areEdts_to hall.out)
      go_wp2_with fail
      go_ret
      exact ⟨ret_bool hr.out.symm, hb⟩
end Go.Proofs.Ytnkbopnmfoplfaa
