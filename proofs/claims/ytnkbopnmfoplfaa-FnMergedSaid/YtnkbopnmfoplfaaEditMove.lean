/- Contracts: one edit carried out, in the reference. -/
import Derived.Test.YtnkbopnmfoplfaaEditRun
import Derived.Deep.RegionWith
import Derived.IntWalk
set_option linter.unusedSimpArgs false
set_option linter.unusedVariables false
namespace Go.Proofs.Ytnkbopnmfoplfaa
open Go.RowKit

theorem l1In_lit (n lo hi : Int) (b : Bool) (w : World) (hb : inR n lo hi = b) :
    Calls Try.prog 46 #[.int .i64 n, .int .i64 lo, .int .i64 hi] w fun e w' => e = .returned (.bool b) ∧ w' = w :=
  (l1In_any n lo hi w).mono fun e w' ⟨h1, h2⟩ => ⟨by rw [h1, hb], h2.symm⟩
theorem chFind_lit (v : Value) (l : List Spt) (a : Spt) (w : World) (h : RowAt sptRec w v l) (x y : Int) (hx : a.x = x) (hy : a.y = y) :
    Calls Try.prog 69 #[v, .agg #[.int .i64 x, .int .i64 y]] w fun e w' => e = .returned (.int .i64 (findS l a)) ∧ Below w.heap.size w w' := by
  subst hx hy; exact chFind_any v l a w h
def FreshRowB {α : Type} (R : Rec α) (w : World) (r : List α × Bool) (e : Ending) (w' : World) : Prop :=
  ∃ v, e = .returned (.tuple #[v, .bool r.2]) ∧ OwnRow R w' w.heap.size v r.1 ∧ Below w.heap.size w w'
theorem chOwn_any (v : Value) (l : List Spt) (w : World) (h : RowAt sptRec w v l) (hl : l.length ≤ 1000) :
    Calls Try.prog 53 #[v] w (FreshRow sptRec w l) := by
  have hE := OwnRow.empty sptRec w w.heap.size (Nat.le_refl _)
  have hEb : Below w.heap.size w (w.alloc (.cells #[] 42)) := (Below.refl _ _).alloc (Nat.le_refl _) _
  have hE2 := h.below hEb (Nat.le_refl _)
  have h63 : ([] : List Spt).length + l.length ≤ 1099511627776 := by simp; omega
  go_enter Try.func53, Try.ntmps53
  go_wp2_with (at_builtin; refine wp_app_spts _ rfl _ _ rfl w.heap.size _ [] rfl hE _ l rfl hE2 h63 hEb.size ?_; intro x w2 ox hgx)
  go_ret
  exact ⟨_, rfl, ox, hEb.trans hgx.below⟩
/-- What one edit leads to. -/
def rMove (l : List Spt) (n : Nat) (b a : Spt) : List Spt × Bool := if fitsB l n b a then (l.set n a, true) else ([], false)
theorem rMove_no {l : List Spt} {n : Nat} {b a : Spt} (h : fitsB l n b a = false) : rMove l n b a = ([], false) := by unfold rMove; rw [h]; rfl
theorem rMove_yes {l : List Spt} {n : Nat} {b a : Spt} (h : fitsB l n b a = true) : rMove l n b a = (l.set n a, true) := by unfold rMove; rw [h]; rfl

set_option maxHeartbeats 6400000 in
theorem edMove_any (v : Value) (l : List Spt) (n : Nat) (bx bY ax aY : Int) (w : World) (h : RowAt sptRec w v l) (hn : n ≤ 1000) (hl : l.length ≤ 1000) :
    Calls Try.prog 63 #[v, .int .i64 n, .agg #[.int .i64 bx, .int .i64 bY], .agg #[.int .i64 ax, .int .i64 aY]] w (FreshRowB sptRec w (rMove l n ⟨bx, bY⟩ ⟨ax, aY⟩)) := by
  obtain ⟨A, c, rfl, hnc, hc63⟩ := h.shape
  have hb0 := fun o o' => ((Below.refl w.heap.size w).alloc (Nat.le_refl _) o).alloc (by simp) o'
  have Hb0 := Lib.hid hb0
  clear hb0
  by_cases hlt : n < l.length
  · obtain ⟨b, o, rfl, hc0, hc1⟩ := spt_at h n hlt
    have hb9 : b < w.heap.size := World.block_lt_of_cell? w _ hc0
    have hi0 : (0 : Int) ≤ (n : Int) := by omega
    have hi1 : (n : Int) < (l.length : Int) := by omega
    have hin : inR (n : Int) 0 ((l.length : Int) - 1) = true := inR_t.2 (by omega)
    by_cases hq : gx sptRec l n = ⟨bx, bY⟩
    · have e0 : ((gx sptRec l n).x != bx) = false := by rw [hq]; simp
      have e1 : ((gx sptRec l n).y != bY) = false := by rw [hq]; simp
      have hr := fits_eq (a := ⟨ax, aY⟩) hlt hq
      have hX : Below w.heap.size w ((w.alloc (.cells #[.int .i64 bx, .int .i64 bY] 42)).alloc (.cells #[.int .i64 ax, .int .i64 aY] 42)) := Hb0.out _ _
      have hy0 : ((w.alloc (.cells #[.int .i64 bx, .int .i64 bY] 42)).alloc (.cells #[.int .i64 ax, .int .i64 aY] 42)).cell? ⟨w.heap.size + 1, 0, none⟩ = some (.int .i64 ax) := by go_simp
      have hy1 : ((w.alloc (.cells #[.int .i64 bx, .int .i64 bY] 42)).alloc (.cells #[.int .i64 ax, .int .i64 aY] 42)).cell? ⟨w.heap.size + 1, 1, none⟩ = some (.int .i64 aY) := by go_simp
      have hzX : ((w.alloc (.cells #[.int .i64 bx, .int .i64 bY] 42)).alloc (.cells #[.int .i64 ax, .int .i64 aY] 42)).heap.size = w.heap.size + 1 + 1 := by simp
      have HzX := Lib.hid hzX
      clear hzX
      rcases Int.lt_or_le (findS l ⟨ax, aY⟩) 0 with hf | hf
      · have hd9 : decide (0 ≤ findS l ⟨ax, aY⟩) = false := decide_eq_false (by omega)
        rw [hd9] at hr
        have hr1 : fitsB l n ⟨bx, bY⟩ ⟨ax, aY⟩ = true := by rw [hr]; rfl
        have hr2 := Lib.hid (rMove_yes hr1)
        clear hr hd9 hr1
        go_enter Try.func63, Try.ntmps63
        go_upto_region 1 with fail
        go_cut [30] (fun s wx => s = .bool false ∧ Below w.heap.size w wx ∧ wx.cell? ⟨w.heap.size + 1, 0, none⟩ = some (.int .i64 ax) ∧ wx.cell? ⟨w.heap.size + 1, 1, none⟩ = some (.int .i64 aY) ∧ w.heap.size + 1 < wx.heap.size)
        case first =>
          have hw9 : IntKind.i64.wrap ((l.length : Int) - 1) = (l.length : Int) - 1 := IntWalk.i64_in _ (by omega)
          go_region_with (first
            | (go_at_call 46; refine (l1In_lit _ _ _ true _ hin).mono ?_; rintro e w' ⟨rfl, rfl⟩)
            | (go_at_call 69; refine (chFind_any _ l ⟨ax, aY⟩ _ (h.below hX.drew (Nat.le_refl _))).mono ?_; rintro e w2 ⟨rfl, b2⟩))
          clear hw9
          all_goals
            go_wp2_with fail
            go_meet
            exact ⟨by rw [decide_eq_false (show ¬ (0 ≤ findS l ⟨ax, aY⟩) from by omega)], hX.drew.trans (b2.mono (by simp <;> omega)), Below.keepC b2 hy0 (Nat.le_refl _), Below.keepC b2 hy1 (Nat.le_refl _), by have := b2.size; simp at this; omega⟩
        case rest =>
          obtain ⟨rfl, bW, z0, z1, hsW⟩ := hcut
          obtain ⟨W, hWe⟩ : ∃ W : World, W = wc := ⟨_, rfl⟩
          subst hWe
          go_wp2_with fail
          refine (chOwn_any _ l _ (h.below bW (Nat.le_refl _)) hl).mono ?_; rintro e w3 ⟨x, rfl, ox, b3⟩
          obtain ⟨g, cg, rfl, hg0⟩ := ox.lit (by omega)
          obtain ⟨q0, q1⟩ := spt_own ox n hlt
          have fz0 : w3.frozen? ⟨g, n * 2, none⟩ = false := ox.free _
          have fz1 : w3.frozen? ⟨g, n * 2 + 1, none⟩ = false := ox.free _
          have k0 := Below.keepC b3 z0 (Nat.le_refl _)
          have k1 := Below.keepC b3 z1 (Nat.le_refl _)
          have hst := ox.set n ⟨ax, aY⟩ hlt
          have Hst := Lib.hid hst.1
          have bf := bW.next (Nat.le_refl _) b3
          have hgw : w.heap.size ≤ g := Nat.le_trans bW.size hg0
          have Hb := Lib.hid ((bf.setCell (p := ⟨g, n * 2, none⟩) (by exact hgw) (.int .i64 ax)).setCell (p := ⟨g, n * 2 + 1, none⟩) (by exact hgw) (.int .i64 aY))
          have hsz := bW.size
          clear hst ox z0 z1
          go_wp2_with fail
          go_ret2
          exact ⟨_, by rw [hr2.out]; rfl, by rw [hr2.out]; exact OwnRow.lo Hst.out hsz, Hb.out⟩
      · have hd9 : decide (0 ≤ findS l ⟨ax, aY⟩) = true := decide_eq_true hf
        rw [hd9] at hr
        have hr1 : fitsB l n ⟨bx, bY⟩ ⟨ax, aY⟩ = false := by rw [hr]; rfl
        have hr2 := Lib.hid (rMove_no hr1)
        clear hr hd9 hr1
        go_enter Try.func63, Try.ntmps63
        go_upto_region 1 with fail
        go_cut [30] (fun s wx => s = .bool true ∧ Below w.heap.size w wx)
        case first =>
          have hw9 : IntKind.i64.wrap ((l.length : Int) - 1) = (l.length : Int) - 1 := IntWalk.i64_in _ (by omega)
          go_region_with (first
            | (go_at_call 46; refine (l1In_lit _ _ _ true _ hin).mono ?_; rintro e w' ⟨rfl, rfl⟩)
            | (go_at_call 69; refine (chFind_any _ l ⟨ax, aY⟩ _ (h.below hX.drew (Nat.le_refl _))).mono ?_; rintro e w2 ⟨rfl, b2⟩))
          clear hw9
          all_goals
            go_wp2_with fail
            go_meet
            exact ⟨by first | rfl | rw [decide_eq_true hf], hX.drew.trans (b2.mono (by simp <;> omega))⟩
        case rest =>
          obtain ⟨rfl, bW⟩ := hcut
          go_wp2_with fail
          go_ret2
          exact ⟨_, by rw [hr2.out]; rfl, by rw [hr2.out]; exact OwnRow.nil_ sptRec _ _, bW⟩
    · have hr := Lib.hid (rMove_no (fits_no2 (a := ⟨ax, aY⟩) hq))
      have hw9 : IntKind.i64.wrap ((l.length : Int) - 1) = (l.length : Int) - 1 := IntWalk.i64_in _ (by omega)
      cases e0 : ((gx sptRec l n).x == bx) <;> cases e1 : ((gx sptRec l n).y == bY)
      case true.true => exact absurd (Spt.ext_ (by simpa using e0) (by simpa using e1)) hq
      all_goals
        have f0 : ((gx sptRec l n).x != bx) = !((gx sptRec l n).x == bx) := rfl
        have f1 : ((gx sptRec l n).y != bY) = !((gx sptRec l n).y == bY) := rfl
        rw [e0] at f0
        rw [e1] at f1
        simp only [Bool.not_true, Bool.not_false] at f0 f1
        go_enter Try.func63, Try.ntmps63
        go_wp2_with fail
        go_quiet ((go_at_call 46; exact Calls.quiet_of_same (l1In_lit _ _ _ true _ hin)))
        go_wp2_with fail
        go_ret2
        exact ⟨_, by rw [hr.out]; rfl, by rw [hr.out]; exact OwnRow.nil_ sptRec _ _, (Hb0.out _ _).drewN _⟩
  · have hr := Lib.hid (rMove_no (fits_no1 (b := ⟨bx, bY⟩) (a := ⟨ax, aY⟩) hlt))
    have hin : inR (n : Int) 0 ((l.length : Int) - 1) = false := inR_f.2 (by omega)
    have hw9 : IntKind.i64.wrap ((l.length : Int) - 1) = (l.length : Int) - 1 := IntWalk.i64_in _ (by omega)
    go_enter Try.func63, Try.ntmps63
    go_wp2_with fail
    go_quiet ((go_at_call 46; exact Calls.quiet_of_same (l1In_lit _ _ _ false _ hin)))
    go_wp2_with fail
    go_ret2
    exact ⟨_, by rw [hr.out]; rfl, by rw [hr.out]; exact OwnRow.nil_ sptRec _ _, (Hb0.out _ _).drewN _⟩
theorem edApply_any (v : Value) (l : List Spt) (ee : Int) (n : Nat) (bx bY ax aY : Int) (w : World) (h : RowAt sptRec w v l) (hn : n ≤ 1000) (hl : l.length ≤ 1000) :
    Calls Try.prog 54 #[v, .agg #[.int .i64 ee, .int .i64 n, .int .i64 bx, .int .i64 bY, .int .i64 ax, .int .i64 aY]] w (FreshRowB sptRec w (rMove l n ⟨bx, bY⟩ ⟨ax, aY⟩)) := by
  have hbA : Below w.heap.size w (w.alloc (.cells #[.int .i64 ee, .int .i64 n, .int .i64 bx, .int .i64 bY, .int .i64 ax, .int .i64 aY] 54)) := (Below.refl _ _).alloc (Nat.le_refl _) _
  have hA := h.below hbA (Nat.le_refl _)
  have hs0 := hbA.size
  go_enter Try.func54, Try.ntmps54
  go_wp2_with fail
  refine (edMove_any _ l n bx bY ax aY _ hA hn hl).mono ?_; rintro e w1 ⟨x, rfl, ox, b1⟩
  go_wp2_with fail
  go_ret2
  exact ⟨_, rfl, OwnRow.lo ox hs0, hbA.trans (b1.mono (by simp))⟩
end Go.Proofs.Ytnkbopnmfoplfaa
