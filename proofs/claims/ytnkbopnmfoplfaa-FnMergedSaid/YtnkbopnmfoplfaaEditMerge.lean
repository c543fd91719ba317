/- Contract of mgAll: the merged spots and the conflicts, in the reference. -/
import Derived.Test.YtnkbopnmfoplfaaEditConf
set_option linter.unusedSimpArgs false
set_option linter.unusedVariables false
namespace Go.Proofs.Ytnkbopnmfoplfaa
open Go.RowKit

theorem mg_A {s x y : Spt} (h : x = y ∨ y = s) : mgSpot s x y = x ∧ mgConf s x y = false := by
  refine ⟨by unfold mgSpot; rw [if_pos h], ?_⟩
  unfold mgConf
  rcases h with h | h <;> simp [h]
theorem mg_C {s x y : Spt} (h1 : ¬ (x = y ∨ y = s)) (h : x = s) : mgSpot s x y = y ∧ mgConf s x y = false :=
  ⟨by unfold mgSpot; rw [if_neg h1, if_pos h], by unfold mgConf; simp [h]⟩
theorem mg_D {s x y : Spt} (h1 : ¬ (x = y ∨ y = s)) (h : x ≠ s) : mgSpot s x y = s ∧ mgConf s x y = true :=
  ⟨by unfold mgSpot; rw [if_neg h1, if_neg h], by unfold mgConf; rw [decide_eq_true h, decide_eq_true (show y ≠ s from fun e => h1 (.inr e)), decide_eq_true (show x ≠ y from fun e => h1 (.inl e))]; rfl⟩
def FreshMg (w : World) (a : List Spt) (b : List Int) (e : Ending) (w' : World) : Prop :=
  ∃ v u, e = .returned (.tuple #[v, u]) ∧ OwnRow sptRec w' w.heap.size v a ∧ OwnInts w' w.heap.size u b ∧ Apt v u ∧ Below w.heap.size w w'

set_option maxRecDepth 100000 in
set_option maxHeartbeats 12800000 in
theorem mgAll_any (v vx vy : Value) (l x y : List Spt) (w : World) (h : RowAt sptRec w v l) (hx : RowAt sptRec w vx x) (hy : RowAt sptRec w vy y) (hlx : l.length = x.length) (hly : l.length = y.length) (h12 : l.length ≤ 12) :
    Calls Try.prog 24 #[v, vx, vy] w (FreshMg w (mgS l x y l.length) (mgC l x y l.length)) := by
  obtain ⟨A, c, rfl, hnc, hc63⟩ := h.shape
  obtain ⟨X, cx, rfl, hnx, hcx⟩ := hx.shape
  obtain ⟨Y, cy, rfl, hny, hcy⟩ := hy.shape
  rw [← hlx] at hnx hx ⊢
  rw [← hly] at hny hy ⊢
  have Hlx := Lib.hid hlx
  have Hly := Lib.hid hly
  clear hlx hly
  go_enter Try.func24, Try.ntmps24
  go_wp2_with fail
  go_loopg [8, 9, 14] l.length (fun g t u s wr => ∃ n : Nat, n ≤ l.length ∧ l.length ≤ n + g ∧ s = .int .i64 n ∧ OwnRow sptRec wr w.heap.size t (mgS l x y n) ∧ OwnInts wr w.heap.size u (mgC l x y n) ∧ Apt t u ∧ Below w.heap.size w wr)
  case atStart => exact ⟨0, Nat.zero_le _, by omega, rfl, OwnRow.nil_ sptRec w _, OwnInts.nil_ w _, (fun g h1 h2 => by cases h1), Below.refl _ _⟩
  case round =>
    obtain ⟨n, hn, hng, rfl, ho, hu, hap, hb⟩ := hrel
    by_cases hlt : n < l.length
    · obtain ⟨b, q, rfl, hc0, hc1⟩ := spt_at (h.below hb (Nat.le_refl _)) n hlt
      obtain ⟨bx, qx, rfl, hx0, hx1⟩ := spt_at (hx.below hb (Nat.le_refl _)) n (by have := Hlx.out; omega)
      obtain ⟨by_, qy, rfl, hy0, hy1⟩ := spt_at (hy.below hb (Nat.le_refl _)) n (by have := Hly.out; omega)
      have lx : bx < wr.heap.size := World.block_lt_of_cell? wr _ hx0
      have ly : by_ < wr.heap.size := World.block_lt_of_cell? wr _ hy0
      have hi0 : (0 : Int) ≤ (n : Int) := by omega
      have hi1 : (n : Int) < (l.length : Int) := by omega
      have hml := mgC_len l x y n
      have hms := mgS_len l x y n
      have h9 : (mgC l x y n).length + 1 ≤ 1099511627776 := by omega
      have h8 : (mgS l x y n).length + 1 ≤ 1099511627776 := by omega
      clear hml hms
      have hbA : Below wr.heap.size wr (wr.alloc (.cells #[.int .i64 (gx sptRec l n).x, .int .i64 (gx sptRec l n).y] 42)) := (Below.refl _ _).alloc (Nat.le_refl _) _
      go_upto_region 7 with fail
      go_cut [23] (fun s wx => s = .bool (decide (gx sptRec x n = gx sptRec y n ∨ gx sptRec y n = gx sptRec l n)) ∧ wx.cell? ⟨wr.heap.size, 0, none⟩ = some (.int .i64 (gx sptRec l n).x) ∧ wx.cell? ⟨wr.heap.size, 1, none⟩ = some (.int .i64 (gx sptRec l n).y) ∧ wx.frozen? ⟨wr.heap.size, 0, none⟩ = false ∧ wx.frozen? ⟨wr.heap.size, 1, none⟩ = false ∧ Below wr.heap.size wr wx ∧ wr.heap.size < wx.heap.size)
      case first =>
        rcases spt_cases (gx sptRec x n) (gx sptRec y n) with ⟨k1, a1, a2, a3, a4⟩ | ⟨k1, a1, a2, a3, a4⟩ | ⟨k1, a1, a2, a3, a4⟩ | ⟨k1, a1, a2, a3, a4⟩
        case inl =>
          have hf := Lib.hid (decide_eq_true (p := (gx sptRec x n = gx sptRec y n ∨ gx sptRec y n = gx sptRec l n)) (.inl k1))
          clear k1
          go_quiet (fail)
          go_wp2_with fail
          go_meet
          exact ⟨by rw [hf.out], by go_simp, by go_simp, by go_simp, by go_simp, hbA.drewN _, by simp⟩
        all_goals
          rcases spt_cases (gx sptRec y n) (gx sptRec l n) with ⟨k2, c1, c2, c3, c4⟩ | ⟨k2, c1, c2, c3, c4⟩ | ⟨k2, c1, c2, c3, c4⟩ | ⟨k2, c1, c2, c3, c4⟩
          · have hf := Lib.hid (decide_eq_true (p := (gx sptRec x n = gx sptRec y n ∨ gx sptRec y n = gx sptRec l n)) (.inr k2))
            clear k1 k2
            go_quiet (fail)
            go_wp2_with fail
            go_meet
            exact ⟨by rw [hf.out], by go_simp, by go_simp, by go_simp, by go_simp, hbA.drewN _, by simp⟩
          all_goals
            have hf := Lib.hid (decide_eq_false (p := (gx sptRec x n = gx sptRec y n ∨ gx sptRec y n = gx sptRec l n)) (by rintro (h7 | h7); exact k1 h7; exact k2 h7))
            clear k1 k2
            go_quiet (fail)
            go_wp2_with fail
            go_meet
            exact ⟨by rw [hf.out], by go_simp, by go_simp, by go_simp, by go_simp, hbA.drewN _, by simp⟩
      case rest =>
        obtain ⟨rfl, z0, z1, fz0, fz1, hD, hsD⟩ := hcut
        obtain ⟨W, hWe⟩ : ∃ W : World, W = wc := ⟨_, rfl⟩
        subst hWe
        have bx0 := Below.keepC hD hx0 (Nat.le_refl _)
        have bx1 := Below.keepC hD hx1 (Nat.le_refl _)
        have by0 := Below.keepC hD hy0 (Nat.le_refl _)
        have by1 := Below.keepC hD hy1 (Nat.le_refl _)
        clear hx0 hx1 hy0 hy1 hc0 hc1 hbA
        cases hc : decide (gx sptRec x n = gx sptRec y n ∨ gx sptRec y n = gx sptRec l n)
        case true =>
          have hA := mg_A (of_decide_eq_true hc)
          have e1 := Lib.hid (mgS_succ hA.1)
          have e2 := Lib.hid (mgC_no hA.2)
          have D1 := (hD.setCell (p := ⟨wr.heap.size, 0, none⟩) (Nat.le_refl _) (.int .i64 (gx sptRec x n).x)).setCell (p := ⟨wr.heap.size, 1, none⟩) (Nat.le_refl _) (.int .i64 (gx sptRec x n).y)
          have ho1 := OwnRow.below ho D1 (Nat.le_refl _)
          have hu1 := OwnInts.below hu D1 (Nat.le_refl _)
          have b1 := hb.trans (D1.mono hb.size)
          clear hA
          go_wp2_with (at_builtin; refine wp_app_spt _ rfl _ _ rfl w.heap.size _ (mgS l x y n) rfl ho1 (gx sptRec x n) _ rfl (by simp) h8 b1.size ?_; intro v4 w4 ho4 hg4)
          have hu4 := hap.keepI hu1 hg4
          have ap4 := hap.grew hu1 hg4
          go_roundg (gk - 1)
          case measure => omega
          case rel => exact ⟨n + 1, by omega, by omega, by go_num, e1.out ▸ ho4, e2.out ▸ hu4, ap4, b1.trans hg4.below⟩
        case false =>
          have hne := of_decide_eq_false hc
          have Hne := Lib.hid hne
          clear hne
          go_upto_region 9 with fail
          go_cut [45] (fun s wx => s = .bool (decide (gx sptRec x n = gx sptRec l n)) ∧ wx.cell? ⟨wr.heap.size, 0, none⟩ = some (.int .i64 (gx sptRec l n).x) ∧ wx.cell? ⟨wr.heap.size, 1, none⟩ = some (.int .i64 (gx sptRec l n).y) ∧ wx.frozen? ⟨wr.heap.size, 0, none⟩ = false ∧ wx.frozen? ⟨wr.heap.size, 1, none⟩ = false ∧ Below wr.heap.size wr wx ∧ wr.heap.size < wx.heap.size ∧ wx.cell? ⟨by_, qy + n * 2, none⟩ = some (.int .i64 (gx sptRec y n).x) ∧ wx.cell? ⟨by_, qy + n * 2 + 1, none⟩ = some (.int .i64 (gx sptRec y n).y))
          case first =>
            rcases spt_cases (gx sptRec x n) (gx sptRec l n) with ⟨k1, a1, a2, a3, a4⟩ | ⟨k1, a1, a2, a3, a4⟩ | ⟨k1, a1, a2, a3, a4⟩ | ⟨k1, a1, a2, a3, a4⟩
            case inl =>
              have hf := Lib.hid (decide_eq_true k1)
              clear k1
              go_quiet (fail)
              go_wp2_with fail
              go_meet
              exact ⟨by rw [hf.out], z0, z1, fz0, fz1, hD.drewN _, hsD, by0, by1⟩
            all_goals
              have hf := Lib.hid (decide_eq_false k1)
              clear k1
              go_quiet (fail)
              go_wp2_with fail
              go_meet
              exact ⟨by rw [hf.out], z0, z1, fz0, fz1, hD.drewN _, hsD, by0, by1⟩
          case rest =>
            obtain ⟨rfl, y0, y1, gz0, gz1, hD2, hsD2, cy0, cy1⟩ := hcut
            obtain ⟨W2, hWe2⟩ : ∃ W2 : World, W2 = wc := ⟨_, rfl⟩
            subst hWe2
            clear z0 z1 fz0 fz1 bx0 bx1 by0 by1 hc
            cases hc2 : decide (gx sptRec x n = gx sptRec l n)
            case true =>
              have hA := mg_C Hne.out (of_decide_eq_true hc2)
              have e1 := Lib.hid (mgS_succ hA.1)
              have e2 := Lib.hid (mgC_no hA.2)
              have D1 := (hD2.setCell (p := ⟨wr.heap.size, 0, none⟩) (Nat.le_refl _) (.int .i64 (gx sptRec y n).x)).setCell (p := ⟨wr.heap.size, 1, none⟩) (Nat.le_refl _) (.int .i64 (gx sptRec y n).y)
              have ho1 := OwnRow.below ho D1 (Nat.le_refl _)
              have hu1 := OwnInts.below hu D1 (Nat.le_refl _)
              have b1 := hb.trans (D1.mono hb.size)
              clear hA
              go_wp2_with (at_builtin; refine wp_app_spt _ rfl _ _ rfl w.heap.size _ (mgS l x y n) rfl ho1 (gx sptRec y n) _ rfl (by simp) h8 b1.size ?_; intro v4 w4 ho4 hg4)
              have hu4 := hap.keepI hu1 hg4
              have ap4 := hap.grew hu1 hg4
              go_roundg (gk - 1)
              case measure => omega
              case rel => exact ⟨n + 1, by omega, by omega, by go_num, e1.out ▸ ho4, e2.out ▸ hu4, ap4, b1.trans hg4.below⟩
            case false =>
              have hA := mg_D Hne.out (of_decide_eq_false hc2)
              have e1 := Lib.hid (mgS_succ hA.1)
              have e2 := Lib.hid (mgC_yes hA.2)
              have ho1 := OwnRow.below ho hD2 (Nat.le_refl _)
              have hu1 := OwnInts.below hu hD2 (Nat.le_refl _)
              have b1 := hb.trans (hD2.mono hb.size)
              clear hA
              go_upto_region 11 with (at_builtin; refine wp_app_int _ rfl _ _ rfl w.heap.size _ (mgC l x y n) rfl hu1 (n : Int) _ rfl rfl h9 b1.size ?_; intro v3 w3 hu3 hg3)
              have hfar : ∀ g, (Value.ownBlock u9) = some g → g < wr.heap.size := fun g hg => (World.ownsRow.lt hu g hg).2
              have hne9 : some wr.heap.size ≠ Value.ownBlock u9 := fun h7 => by have := hfar _ h7.symm; omega
              have k0 : w3.cell? ⟨wr.heap.size, 0, none⟩ = some (.int .i64 (gx sptRec l n).x) := (hg3.grown.cell_far ⟨wr.heap.size, 0, none⟩ hsD2 hne9).trans y0
              have k1 : w3.cell? ⟨wr.heap.size, 1, none⟩ = some (.int .i64 (gx sptRec l n).y) := (hg3.grown.cell_far ⟨wr.heap.size, 1, none⟩ hsD2 hne9).trans y1
              have ho3 := hap.symm.keepR ho1 hg3
              have ap3 := hap.symm.grew ho1 hg3
              have b3 := b1.trans hg3.below
              go_wp2_with (at_builtin; refine wp_app_spt _ rfl _ _ rfl w.heap.size _ (mgS l x y n) rfl ho3 (gx sptRec l n) _ rfl rfl h8 b3.size ?_; intro v4 w4 ho4 hg4)
              have hu4 := ap3.symm.keepI hu3 hg4
              have ap4 := ap3.symm.grew hu3 hg4
              go_roundg (gk - 1)
              case measure => omega
              case rel => exact ⟨n + 1, by omega, by omega, by go_num, e1.out ▸ ho4, e2.out ▸ hu4, ap4, b3.trans hg4.below⟩
    · obtain rfl : n = l.length := by omega
      go_wp2_with fail
      go_ret2
      exact ⟨_, _, rfl, ho, hu, hap, hb⟩
end Go.Proofs.Ytnkbopnmfoplfaa
