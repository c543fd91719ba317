/- Contracts of MergedChart, in the program and in the reference. -/
import Derived.Test.YtnkbopnmfoplfaaEditConfl
set_option linter.unusedSimpArgs false
set_option linter.unusedVariables false
namespace Go.Proofs.Ytnkbopnmfoplfaa
open Go.RowKit

def FreshMergedB (w : World) (r : List Spt × List Int × Bool) (e : Ending) (w' : World) : Prop :=
  ∃ v u, e = .returned (.tuple #[v, u, .bool r.2.2]) ∧ OwnRow sptRec w' w.heap.size v r.1 ∧ OwnInts w' w.heap.size u r.2.1 ∧ Apt v u ∧ Below w.heap.size w w'
def mgAllS (l : List Spt) (a b : List Edt) : List Spt := mgS l (runE l a 0).1 (runE l b 0).1 l.length
def mgAllC (l : List Spt) (a b : List Edt) : List Int := mgC l (runE l a 0).1 (runE l b 0).1 l.length
/-- What MergedChart returns. -/
def rMerged (l : List Spt) (a b : List Edt) : List Spt × List Int × Bool := if okBoth l a b && isChart (mgAllS l a b) then (mgAllS l a b, mgAllC l a b, true) else ([], [], false)
theorem rMerged_no1 {l : List Spt} {a b : List Edt} (h : okBoth l a b = false) : rMerged l a b = ([], [], false) := by unfold rMerged; rw [h]; rfl
theorem rMerged_no2 {l : List Spt} {a b : List Edt} (h : isChart (mgAllS l a b) = false) : rMerged l a b = ([], [], false) := by unfold rMerged; rw [h]; simp
theorem rMerged_yes {l : List Spt} {a b : List Edt} (h : okBoth l a b = true) (h2 : isChart (mgAllS l a b) = true) : rMerged l a b = (mgAllS l a b, mgAllC l a b, true) := by unfold rMerged; rw [h, h2]; rfl
theorem rMerged_len (l : List Spt) (a b : List Edt) : (rMerged l a b).1.length ≤ 12 ∧ (rMerged l a b).2.1.length ≤ 12 := by
  cases h : okBoth l a b
  · rw [rMerged_no1 h]; simp
  · cases h2 : isChart (mgAllS l a b)
    · rw [rMerged_no2 h2]; simp
    · rw [rMerged_yes h h2]
      have h1 := mgC_len l (runE l a 0).1 (runE l b 0).1 l.length
      have h3 := chart_pos (okBoth_t h).1
      refine ⟨(chart_pos h2).2, ?_⟩
      show (mgC l (runE l a 0).1 (runE l b 0).1 l.length).length ≤ 12
      omega
set_option maxHeartbeats 1600000 in
theorem specMerged (v va vb : Value) (l : List Spt) (a b : List Edt) (w : World) (h : RowAt sptRec w v l) (hA : RowAt edtRec w va a) (hB : RowAt edtRec w vb b) :
    Calls Try.prog 6 #[v, va, vb] w (FreshMergedB w (rMerged l a b)) := by
  cases hk : okBoth l a b
  · have hr := Lib.hid (rMerged_no1 hk)
    go_enter Try.func6, Try.ntmps6
    go_wp2_with fail
    refine (mgBoth_any _ _ _ l a b _ h hA hB).mono ?_; rintro e w1 ⟨x, y, rfl, hxy, b1⟩
    clear hxy
    go_wp2_with fail
    go_ret3
    exact ⟨_, _, by rw [hr.out]; rfl, by rw [hr.out]; exact OwnRow.nil_ sptRec _ _, by rw [hr.out]; exact OwnInts.nil_ _ _, (fun g h1 h2 => by cases h1), b1⟩
  · have hp := chart_pos (okBoth_t hk).1
    obtain ⟨hl0, hl12⟩ := hp
    cases hc : isChart (mgAllS l a b)
    · have hr := Lib.hid (rMerged_no2 hc)
      go_enter Try.func6, Try.ntmps6
      go_wp2_with fail
      refine (mgBoth_any _ _ _ l a b _ h hA hB).mono ?_; rintro e w1 ⟨x, y, rfl, hxy, b1⟩
      obtain ⟨ox, oy⟩ := hxy hk
      go_wp2_with fail
      refine (mgAll_any _ _ _ l _ _ _ (h.below b1 (Nat.le_refl _)) ox.reads oy.reads (run_len1 l a) (run_len1 l b) hl12).mono ?_; rintro e w2 ⟨z, u, rfl, oz, ou, ap, b2⟩
      go_wp2_with fail
      refine (chGood_any _ (mgAllS l a b) _ oz.reads).mono ?_; rintro e w3 ⟨rfl, b3⟩
      have b13 := (b1.next (Nat.le_refl _) b2).next (Nat.le_refl _) b3
      clear ox oy oz ou ap
      go_wp2_with fail
      go_ret3
      exact ⟨_, _, by rw [hr.out]; rfl, by rw [hr.out]; exact OwnRow.nil_ sptRec _ _, by rw [hr.out]; exact OwnInts.nil_ _ _, (fun g h1 h2 => by cases h1), b13⟩
    · have hr := Lib.hid (rMerged_yes hk hc)
      go_enter Try.func6, Try.ntmps6
      go_wp2_with fail
      refine (mgBoth_any _ _ _ l a b _ h hA hB).mono ?_; rintro e w1 ⟨x, y, rfl, hxy, b1⟩
      obtain ⟨ox, oy⟩ := hxy hk
      go_wp2_with fail
      refine (mgAll_any _ _ _ l _ _ _ (h.below b1 (Nat.le_refl _)) ox.reads oy.reads (run_len1 l a) (run_len1 l b) hl12).mono ?_; rintro e w2 ⟨z, u, rfl, oz, ou, ap, b2⟩
      go_wp2_with fail
      refine (chGood_any _ (mgAllS l a b) _ oz.reads).mono ?_; rintro e w3 ⟨rfl, b3⟩
      have b13 := (b1.next (Nat.le_refl _) b2).next (Nat.le_refl _) b3
      have oz3 : Hid (OwnRow sptRec w3 w.heap.size z (mgAllS l a b)) := OwnRow.lo (OwnRow.below oz b3 (Nat.le_refl _)) b1.size
      have ou3 : Hid (OwnInts w3 w.heap.size u (mgAllC l a b)) := ints_lo (OwnInts.below ou b3 (Nat.le_refl _)) b1.size
      clear ox oy oz ou
      go_wp2_with fail
      go_ret3
      exact ⟨_, _, by rw [hr.out]; rfl, by rw [hr.out]; exact oz3.out, by rw [hr.out]; exact ou3.out, ap, b13⟩
set_option maxRecDepth 100000 in
set_option maxHeartbeats 12800000 in
theorem implMerged (v va vb : Value) (l : List Spt) (a b : List Edt) (w : World) (h : RowAt sptRec w v l) (hA : RowAt edtRec w va a) (hB : RowAt edtRec w vb b) :
    Calls Try.prog 5 #[v, va, vb] w (FreshMergedB w (rMerged l a b)) := by
  obtain ⟨A, c, rfl, hnc, hc63⟩ := h.shape
  cases hk : okBoth l a b
  · have hr := Lib.hid (rMerged_no1 hk)
    go_enter Try.func5, Try.ntmps5
    go_wp2_with fail
    refine (bothResults_any _ _ _ l a b _ h hA hB).mono ?_; rintro e w1 ⟨x, y, rfl, hxy, b1⟩
    clear hxy
    go_wp2_with fail
    go_ret3
    exact ⟨_, _, by rw [hr.out]; rfl, by rw [hr.out]; exact OwnRow.nil_ sptRec _ _, by rw [hr.out]; exact OwnInts.nil_ _ _, (fun g h1 h2 => by cases h1), b1⟩
  · have hp := chart_pos (okBoth_t hk).1
    obtain ⟨hl0, hl12⟩ := hp
    have Hk := Lib.hid hk
    have hlx := run_len1 l a
    have hly := run_len1 l b
    have Hlx := Lib.hid hlx
    have Hly := Lib.hid hly
    clear hlx hly
    go_enter Try.func5, Try.ntmps5
    go_wp2_with fail
    refine (bothResults_any _ _ _ l a b _ h hA hB).mono ?_; rintro e w1 ⟨x, y, rfl, hxy, b1⟩
    obtain ⟨ox, oy⟩ := hxy hk
    have h1 := h.below b1 (Nat.le_refl _)
    have hx1 := ox.reads
    have hy1 := oy.reads
    obtain ⟨X, cx, rfl, hnx, hcx⟩ := hx1.shape
    obtain ⟨Y, cy, rfl, hny, hcy⟩ := hy1.shape
    rw [← Hlx.out] at hnx hx1
    rw [← Hly.out] at hny hy1
    rw [← Hlx.out, ← Hly.out]
    clear ox oy
    go_wp2_with fail
    clear hk
    go_loopg [12, 28] l.length (fun g t s wr => ∃ n : Nat, n ≤ l.length ∧ l.length ≤ n + g ∧ s = .int .i64 n ∧ OwnRow sptRec wr w1.heap.size t (mgS l (runE l a 0).1 (runE l b 0).1 n) ∧ Below w1.heap.size w1 wr)
    case atStart => exact ⟨0, Nat.zero_le _, by omega, rfl, OwnRow.empty sptRec w1 _ (Nat.le_refl _), (Below.refl _ _).alloc (Nat.le_refl _) _⟩
    case round =>
      obtain ⟨n, hn, hng, rfl, ho, hb⟩ := hrel
      by_cases hlt : n < l.length
      · obtain ⟨b', q, rfl, hc0, hc1⟩ := spt_at (h1.below hb (Nat.le_refl _)) n hlt
        obtain ⟨bx, qx, rfl, hx0, hxx⟩ := spt_at (hx1.below hb (Nat.le_refl _)) n (by have := Hlx.out; omega)
        obtain ⟨by_, qy, rfl, hy0, hyy⟩ := spt_at (hy1.below hb (Nat.le_refl _)) n (by have := Hly.out; omega)
        have lx : bx < wr.heap.size := World.block_lt_of_cell? wr _ hx0
        have ly : by_ < wr.heap.size := World.block_lt_of_cell? wr _ hy0
        have hi0 : (0 : Int) ≤ (n : Int) := by omega
        have hi1 : (n : Int) < (l.length : Int) := by omega
        have hms := mgS_len l (runE l a 0).1 (runE l b 0).1 n
        have h8 : (mgS l (runE l a 0).1 (runE l b 0).1 n).length + 1 ≤ 1099511627776 := by omega
        clear hms
        have hbA : Below wr.heap.size wr (wr.alloc (.cells #[.int .i64 (gx sptRec l n).x, .int .i64 (gx sptRec l n).y] 42)) := (Below.refl _ _).alloc (Nat.le_refl _) _
        go_upto_region 9 with fail
        go_cut [37] (fun s wx => s = .bool (decide (gx sptRec (runE l a 0).1 n = gx sptRec (runE l b 0).1 n ∨ gx sptRec (runE l b 0).1 n = gx sptRec l n)) ∧ wx.cell? ⟨wr.heap.size, 0, none⟩ = some (.int .i64 (gx sptRec l n).x) ∧ wx.cell? ⟨wr.heap.size, 1, none⟩ = some (.int .i64 (gx sptRec l n).y) ∧ Below wr.heap.size wr wx ∧ wr.heap.size < wx.heap.size)
        case first =>
          rcases spt_cases (gx sptRec (runE l b 0).1 n) (gx sptRec l n) with ⟨k1, a1, a2, a3, a4⟩ | ⟨k1, a1, a2, a3, a4⟩ | ⟨k1, a1, a2, a3, a4⟩ | ⟨k1, a1, a2, a3, a4⟩
          case inl =>
            have hf := Lib.hid (decide_eq_true (p := (gx sptRec (runE l a 0).1 n = gx sptRec (runE l b 0).1 n ∨ gx sptRec (runE l b 0).1 n = gx sptRec l n)) (.inr k1))
            clear k1
            go_quiet (fail)
            go_wp2_with fail
            go_meet
            exact ⟨by rw [hf.out], by go_simp, by go_simp, hbA.drewN _, by simp⟩
          all_goals
            rcases spt_cases (gx sptRec (runE l a 0).1 n) (gx sptRec (runE l b 0).1 n) with ⟨k2, c1, c2, c3, c4⟩ | ⟨k2, c1, c2, c3, c4⟩ | ⟨k2, c1, c2, c3, c4⟩ | ⟨k2, c1, c2, c3, c4⟩
            · have hf := Lib.hid (decide_eq_true (p := (gx sptRec (runE l a 0).1 n = gx sptRec (runE l b 0).1 n ∨ gx sptRec (runE l b 0).1 n = gx sptRec l n)) (.inl k2))
              clear k1 k2
              go_quiet (fail)
              go_wp2_with fail
              go_meet
              exact ⟨by rw [hf.out], by go_simp, by go_simp, hbA.drewN _, by simp⟩
            all_goals
              have hf := Lib.hid (decide_eq_false (p := (gx sptRec (runE l a 0).1 n = gx sptRec (runE l b 0).1 n ∨ gx sptRec (runE l b 0).1 n = gx sptRec l n)) (by rintro (h7 | h7); exact k2 h7; exact k1 h7))
              clear k1 k2
              go_quiet (fail)
              go_wp2_with fail
              go_meet
              exact ⟨by rw [hf.out], by go_simp, by go_simp, hbA.drewN _, by simp⟩
        case rest =>
          obtain ⟨rfl, z0, z1, hD, hsD⟩ := hcut
          obtain ⟨W, hWe⟩ : ∃ W : World, W = wc := ⟨_, rfl⟩
          subst hWe
          have bx0 := Below.keepC hD hx0 (Nat.le_refl _)
          have bx1 := Below.keepC hD hxx (Nat.le_refl _)
          have by0 := Below.keepC hD hy0 (Nat.le_refl _)
          have by1 := Below.keepC hD hyy (Nat.le_refl _)
          clear hx0 hxx hy0 hyy hc0 hc1 hbA
          have ho1 := OwnRow.below ho hD (Nat.le_refl _)
          have bD := hb.trans (hD.mono hb.size)
          cases hc : decide (gx sptRec (runE l a 0).1 n = gx sptRec (runE l b 0).1 n ∨ gx sptRec (runE l b 0).1 n = gx sptRec l n)
          case true =>
            have hA := mg_A (of_decide_eq_true hc)
            have e1 := Lib.hid (mgS_succ hA.1)
            clear hA
            go_wp2_with (at_builtin; refine wp_app_spt _ rfl _ _ rfl w1.heap.size _ (mgS l (runE l a 0).1 (runE l b 0).1 n) rfl ho1 (gx sptRec (runE l a 0).1 n) _ rfl rfl h8 bD.size ?_; intro v4 w4 ho4 hg4)
            go_roundg (gk - 1)
            case measure => omega
            case rel => exact ⟨n + 1, by omega, by omega, by go_num, e1.out ▸ ho4, bD.trans hg4.below⟩
          case false =>
            have hne := of_decide_eq_false hc
            have Hne := Lib.hid hne
            clear hne
            go_upto_region 11 with fail
            go_cut [62] (fun s wx => s = .bool (decide (gx sptRec (runE l a 0).1 n = gx sptRec l n)) ∧ wx.cell? ⟨wr.heap.size, 0, none⟩ = some (.int .i64 (gx sptRec l n).x) ∧ wx.cell? ⟨wr.heap.size, 1, none⟩ = some (.int .i64 (gx sptRec l n).y) ∧ Below wr.heap.size wr wx ∧ wr.heap.size < wx.heap.size ∧ wx.cell? ⟨by_, qy + n * 2, none⟩ = some (.int .i64 (gx sptRec (runE l b 0).1 n).x) ∧ wx.cell? ⟨by_, qy + n * 2 + 1, none⟩ = some (.int .i64 (gx sptRec (runE l b 0).1 n).y))
            case first =>
              rcases spt_cases (gx sptRec (runE l a 0).1 n) (gx sptRec l n) with ⟨k1, a1, a2, a3, a4⟩ | ⟨k1, a1, a2, a3, a4⟩ | ⟨k1, a1, a2, a3, a4⟩ | ⟨k1, a1, a2, a3, a4⟩
              case inl =>
                have hf := Lib.hid (decide_eq_true k1)
                clear k1
                go_quiet (fail)
                go_wp2_with fail
                go_meet
                exact ⟨by rw [hf.out], z0, z1, hD.drewN _, hsD, by0, by1⟩
              all_goals
                have hf := Lib.hid (decide_eq_false k1)
                clear k1
                go_quiet (fail)
                go_wp2_with fail
                go_meet
                exact ⟨by rw [hf.out], z0, z1, hD.drewN _, hsD, by0, by1⟩
            case rest =>
              obtain ⟨rfl, y0, y1, hD2, hsD2, cy0, cy1⟩ := hcut
              obtain ⟨W2, hWe2⟩ : ∃ W2 : World, W2 = wc := ⟨_, rfl⟩
              subst hWe2
              clear z0 z1 bx0 bx1 by0 by1 hc
              have ho2 := OwnRow.below ho hD2 (Nat.le_refl _)
              have bD2 := hb.trans (hD2.mono hb.size)
              cases hc2 : decide (gx sptRec (runE l a 0).1 n = gx sptRec l n)
              case true =>
                have hA := mg_C Hne.out (of_decide_eq_true hc2)
                have e1 := Lib.hid (mgS_succ hA.1)
                clear hA
                go_wp2_with (at_builtin; refine wp_app_spt _ rfl _ _ rfl w1.heap.size _ (mgS l (runE l a 0).1 (runE l b 0).1 n) rfl ho2 (gx sptRec (runE l b 0).1 n) _ rfl rfl h8 bD2.size ?_; intro v4 w4 ho4 hg4)
                go_roundg (gk - 1)
                case measure => omega
                case rel => exact ⟨n + 1, by omega, by omega, by go_num, e1.out ▸ ho4, bD2.trans hg4.below⟩
              case false =>
                have hA := mg_D Hne.out (of_decide_eq_false hc2)
                have e1 := Lib.hid (mgS_succ hA.1)
                clear hA
                go_wp2_with (at_builtin; refine wp_app_spt _ rfl _ _ rfl w1.heap.size _ (mgS l (runE l a 0).1 (runE l b 0).1 n) rfl ho2 (gx sptRec l n) _ rfl rfl h8 bD2.size ?_; intro v4 w4 ho4 hg4)
                go_roundg (gk - 1)
                case measure => omega
                case rel => exact ⟨n + 1, by omega, by omega, by go_num, e1.out ▸ ho4, bD2.trans hg4.below⟩
      · obtain rfl : n = l.length := by omega
        have hoF : OwnRow sptRec wr w1.heap.size u12 (mgAllS l a b) := ho
        have bF := b1.next (Nat.le_refl _) hb
        cases hcc : isChart (mgAllS l a b)
        · have hr := Lib.hid (rMerged_no2 hcc)
          go_wp2_with fail
          refine (implIsChart _ (mgAllS l a b) _ hoF.reads).mono ?_; rintro e w3 ⟨rfl, b3⟩
          have bF3 := bF.next (Nat.le_refl _) b3
          clear ho hoF
          go_wp2_with fail
          go_ret3
          exact ⟨_, _, by rw [hr.out]; rfl, by rw [hr.out]; exact OwnRow.nil_ sptRec _ _, by rw [hr.out]; exact OwnInts.nil_ _ _, (fun g h1 h2 => by cases h1), bF3⟩
        · have hr := Lib.hid (rMerged_yes Hk.out hcc)
          go_wp2_with fail
          refine (implIsChart _ (mgAllS l a b) _ hoF.reads).mono ?_; rintro e w3 ⟨rfl, b3⟩
          have hbX := hb.next (Nat.le_refl _) b3
          have bF3 := bF.next (Nat.le_refl _) b3
          go_wp2_with fail
          refine (editConflicts_any _ _ _ l (runE l a 0).1 (runE l b 0).1 _ (h1.below hbX (Nat.le_refl _)) (by rw [Hlx.out] at hx1 ⊢; exact hx1.below hbX (Nat.le_refl _)) (by rw [Hly.out] at hy1 ⊢; exact hy1.below hbX (Nat.le_refl _)) Hlx.out Hly.out hl12).mono ?_; rintro e w4 ⟨z, rfl, oz, b4⟩
          have ho4 : Hid (OwnRow sptRec w4 w.heap.size u12 (mgAllS l a b)) := OwnRow.lo (OwnRow.below (OwnRow.below hoF b3 (Nat.le_refl _)) b4 (Nat.le_refl _)) b1.size
          have oz4 : Hid (OwnInts w4 w.heap.size z (mgAllC l a b)) := ints_lo oz bF3.size
          have ap : Apt u12 z := fun g g1 g2 => by
            have q1 := (World.ownsRow.lt (OwnRow.below hoF b3 (Nat.le_refl _)) g g1).2
            have q2 := (World.ownsRow.lt oz g g2).1
            omega
          clear ho hoF oz
          go_wp2_with fail
          go_ret3
          exact ⟨_, _, by rw [hr.out]; rfl, by rw [hr.out]; exact ho4.out, by rw [hr.out]; exact oz4.out, ap, bF3.next (Nat.le_refl _) b4⟩
end Go.Proofs.Ytnkbopnmfoplfaa
