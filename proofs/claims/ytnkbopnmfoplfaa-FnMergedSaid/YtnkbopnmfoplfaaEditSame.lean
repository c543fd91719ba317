/- Contracts of SameEffect, in the program and in the reference. -/
import Derived.Test.YtnkbopnmfoplfaaEditBoth
set_option linter.unusedSimpArgs false
set_option linter.unusedVariables false
namespace Go.Proofs.Ytnkbopnmfoplfaa
open Go.RowKit

theorem take_eq_succ' {l1 l2 : List Spt} {k : Nat} (h1 : k < l1.length) (h2 : k < l2.length) (ht : l1.take k = l2.take k) (he : gx sptRec l1 k = gx sptRec l2 k) : l1.take (k + 1) = l2.take (k + 1) := by
  rw [take_succ_gx sptRec l1 k h1, take_succ_gx sptRec l2 k h2, ht, he]
theorem gx_ne {l1 l2 : List Spt} {k : Nat} (he : gx sptRec l1 k ≠ gx sptRec l2 k) : l1 ≠ l2 := by rintro rfl; exact he rfl
set_option maxHeartbeats 1600000 in
theorem equalS_any (v1 v2 : Value) (l1 l2 : List Spt) (w : World) (h1 : RowAt sptRec w v1 l1) (h2 : RowAt sptRec w v2 l2) (hne : l1.length = l2.length) :
    Calls Try.prog 26 #[v1, v2] w fun e w' => e = .returned (.bool (decide (l1 = l2))) ∧ Below w.heap.size w w' := by
  obtain ⟨A, c, rfl, hnc, hc63⟩ := h1.shape
  obtain ⟨B, d, rfl, hnd, hd63⟩ := h2.shape
  rw [← hne] at h2 hnd ⊢
  have Hne := Lib.hid hne
  clear hne
  go_enter Try.func26, Try.ntmps26
  go_wp2_with fail
  go_loopw [13] (fun i wr => ∃ k : Nat, k ≤ l1.length ∧ i = .int .i64 k ∧ Hid (l1.take k = l2.take k) ∧ Below w.heap.size w wr) (fun i _ => l1.length - (intOf i).toNat)
  case atStart => exact ⟨0, Nat.zero_le _, rfl, rfl, Below.refl _ _⟩
  case round =>
    obtain ⟨k, hk, rfl, hall, hb⟩ := hrel
    by_cases hlt : k < l1.length
    · obtain ⟨b, o, rfl, hc0, hc1⟩ := spt_at (h1.below hb (Nat.le_refl _)) k hlt
      obtain ⟨b', o', rfl, hd0, hd1⟩ := spt_at (h2.below hb (Nat.le_refl _)) k (by have := Hne.out; omega)
      have hi0 : (0 : Int) ≤ (k : Int) := by omega
      have hi1 : (k : Int) < (l1.length : Int) := by omega
      cases e0 : ((gx sptRec l1 k).x == (gx sptRec l2 k).x) <;> cases e1 : ((gx sptRec l1 k).y == (gx sptRec l2 k).y)
      case true.true =>
        have f0 : ((gx sptRec l1 k).x != (gx sptRec l2 k).x) = false := by simpa using e0
        have f1 : ((gx sptRec l1 k).y != (gx sptRec l2 k).y) = false := by simpa using e1
        have hn : Hid (l1.take (k + 1) = l2.take (k + 1)) := take_eq_succ' hlt (by have := Hne.out; omega) hall.out (Spt.ext_ (by simpa using e0) (by simpa using e1))
        go_wp2_with fail
        go_quiet (fail)
        go_wp2_with fail
        go_roundw
        case rel => exact ⟨k + 1, by omega, by go_num, hn, hb.drewN _⟩
        case measure => simp [intOf]; omega
      all_goals
        have hx : Hid (l1 ≠ l2) := gx_ne (k := k) (by intro h9; rw [h9] at e0 e1; simp at e0 e1)
        have f0 : ((gx sptRec l1 k).x != (gx sptRec l2 k).x) = !((gx sptRec l1 k).x == (gx sptRec l2 k).x) := rfl
        have f1 : ((gx sptRec l1 k).y != (gx sptRec l2 k).y) = !((gx sptRec l1 k).y == (gx sptRec l2 k).y) := rfl
        rw [e0] at f0
        rw [e1] at f1
        simp only [Bool.not_true, Bool.not_false] at f0 f1
        go_wp2_with fail
        go_quiet (fail)
        go_wp2_with fail
        go_ret
        exact ⟨ret_bool (decide_eq_false hx.out).symm, hb.drewN _⟩
    · have hx : Hid (l1 = l2) := by
        have h1 : l1.take k = l1 := List.take_of_length_le (by omega)
        have h2 : l2.take k = l2 := List.take_of_length_le (by have := Hne.out; omega)
        have := hall.out
        rwa [h1, h2] at this
      go_wp2_with fail
      go_ret
      exact ⟨ret_bool (decide_eq_true hx.out).symm, hb⟩
set_option maxHeartbeats 1600000 in
theorem mgSame_any (v1 v2 : Value) (l1 l2 : List Spt) (w : World) (h1 : RowAt sptRec w v1 l1) (h2 : RowAt sptRec w v2 l2) (hne : l1.length = l2.length) :
    Calls Try.prog 27 #[v1, v2] w fun e w' => e = .returned (.bool (decide (l1 = l2))) ∧ Below w.heap.size w w' := by
  obtain ⟨A, c, rfl, hnc, hc63⟩ := h1.shape
  obtain ⟨B, d, rfl, hnd, hd63⟩ := h2.shape
  rw [← hne] at h2 hnd ⊢
  have Hne := Lib.hid hne
  clear hne
  go_enter Try.func27, Try.ntmps27
  go_wp2_with fail
  go_loopw [9] (fun i wr => ∃ k : Nat, k ≤ l1.length ∧ i = .int .i64 k ∧ Hid (l1.take k = l2.take k) ∧ Below w.heap.size w wr) (fun i _ => l1.length - (intOf i).toNat)
  case atStart => exact ⟨0, Nat.zero_le _, rfl, rfl, Below.refl _ _⟩
  case round =>
    obtain ⟨k, hk, rfl, hall, hb⟩ := hrel
    by_cases hlt : k < l1.length
    · obtain ⟨b, o, rfl, hc0, hc1⟩ := spt_at (h1.below hb (Nat.le_refl _)) k hlt
      obtain ⟨b', o', rfl, hd0, hd1⟩ := spt_at (h2.below hb (Nat.le_refl _)) k (by have := Hne.out; omega)
      have hbk : b' < wr.heap.size := World.block_lt_of_cell? wr _ hd0
      have hi0 : (0 : Int) ≤ (k : Int) := by omega
      have hi1 : (k : Int) < (l1.length : Int) := by omega
      have hbA : Below w.heap.size w (wr.alloc (.cells #[.int .i64 (gx sptRec l1 k).x, .int .i64 (gx sptRec l1 k).y] 42)) := hb.alloc hb.size _
      cases e0 : ((gx sptRec l1 k).x == (gx sptRec l2 k).x) <;> cases e1 : ((gx sptRec l1 k).y == (gx sptRec l2 k).y)
      case true.true =>
        have f0 : ((gx sptRec l1 k).x != (gx sptRec l2 k).x) = false := by simpa using e0
        have f1 : ((gx sptRec l1 k).y != (gx sptRec l2 k).y) = false := by simpa using e1
        have hn : Hid (l1.take (k + 1) = l2.take (k + 1)) := take_eq_succ' hlt (by have := Hne.out; omega) hall.out (Spt.ext_ (by simpa using e0) (by simpa using e1))
        have E0 : (gx sptRec l1 k).x = (gx sptRec l2 k).x := by simpa using e0
        have E1 : (gx sptRec l1 k).y = (gx sptRec l2 k).y := by simpa using e1
        rw [← E0] at hd0
        rw [← E1] at hd1
        clear E0 E1 e0 e1 f0 f1
        go_wp2_with fail
        go_quiet (fail)
        go_wp2_with fail
        go_roundw
        case rel => exact ⟨k + 1, by omega, by go_num, hn, hbA.drewN _⟩
        case measure => simp [intOf]; omega
      all_goals
        have hx : Hid (l1 ≠ l2) := gx_ne (k := k) (by intro h9; rw [h9] at e0 e1; simp at e0 e1)
        have f0 : ((gx sptRec l1 k).x != (gx sptRec l2 k).x) = !((gx sptRec l1 k).x == (gx sptRec l2 k).x) := rfl
        have f1 : ((gx sptRec l1 k).y != (gx sptRec l2 k).y) = !((gx sptRec l1 k).y == (gx sptRec l2 k).y) := rfl
        rw [e0] at f0
        rw [e1] at f1
        simp only [Bool.not_true, Bool.not_false] at f0 f1
        go_wp2_with fail
        go_quiet (fail)
        go_wp2_with fail
        go_ret
        exact ⟨ret_bool (decide_eq_false hx.out).symm, hbA.drewN _⟩
    · have hx : Hid (l1 = l2) := by
        have h1 : l1.take k = l1 := List.take_of_length_le (by omega)
        have h2 : l2.take k = l2 := List.take_of_length_le (by have := Hne.out; omega)
        have := hall.out
        rwa [h1, h2] at this
      go_wp2_with fail
      go_ret
      exact ⟨ret_bool (decide_eq_true hx.out).symm, hb⟩
/-- What SameEffect returns. -/
def rSame (l : List Spt) (a b : List Edt) : Bool × Bool := if okBoth l a b then (decide ((runE l a 0).1 = (runE l b 0).1), true) else (false, false)
theorem rSame_no {l : List Spt} {a b : List Edt} (h : okBoth l a b = false) : rSame l a b = (false, false) := by unfold rSame; rw [h]; rfl
theorem rSame_yes {l : List Spt} {a b : List Edt} (h : okBoth l a b = true) : rSame l a b = (decide ((runE l a 0).1 = (runE l b 0).1), true) := by unfold rSame; rw [h]; rfl
theorem run_lens (l : List Spt) (a b : List Edt) : (runE l a 0).1.length = (runE l b 0).1.length := by rw [(runE_len a l 0).1, (runE_len b l 0).1]
theorem implSame (v va vb : Value) (l : List Spt) (a b : List Edt) (w : World) (h : RowAt sptRec w v l) (hA : RowAt edtRec w va a) (hB : RowAt edtRec w vb b) :
    Calls Try.prog 9 #[v, va, vb] w fun e w' => e = .returned (.tuple #[.bool (rSame l a b).1, .bool (rSame l a b).2]) ∧ Below w.heap.size w w' := by
  cases hk : okBoth l a b
  · have hr := Lib.hid (rSame_no hk)
    go_enter Try.func9, Try.ntmps9
    go_wp2_with fail
    refine (bothResults_any _ _ _ l a b _ h hA hB).mono ?_; rintro e w1 ⟨x, y, rfl, hxy, b1⟩
    clear hxy
    go_wp2_with fail
    go_ret2
    exact ⟨by rw [hr.out]; rfl, b1⟩
  · have hr := Lib.hid (rSame_yes hk)
    go_enter Try.func9, Try.ntmps9
    go_wp2_with fail
    refine (bothResults_any _ _ _ l a b _ h hA hB).mono ?_; rintro e w1 ⟨x, y, rfl, hxy, b1⟩
    obtain ⟨ox, oy⟩ := hxy hk
    go_wp2_with fail
    refine (equalS_any _ _ _ _ _ ox.reads oy.reads (run_lens l a b)).mono ?_; rintro e w2 ⟨rfl, b2⟩
    go_wp2_with fail
    go_ret2
    exact ⟨by rw [hr.out]; rfl, b1.next (Nat.le_refl _) b2⟩
theorem specSame (v va vb : Value) (l : List Spt) (a b : List Edt) (w : World) (h : RowAt sptRec w v l) (hA : RowAt edtRec w va a) (hB : RowAt edtRec w vb b) :
    Calls Try.prog 10 #[v, va, vb] w fun e w' => e = .returned (.tuple #[.bool (rSame l a b).1, .bool (rSame l a b).2]) ∧ Below w.heap.size w w' := by
  cases hk : okBoth l a b
  · have hr := Lib.hid (rSame_no hk)
    go_enter Try.func10, Try.ntmps10
    go_wp2_with fail
    refine (mgBoth_any _ _ _ l a b _ h hA hB).mono ?_; rintro e w1 ⟨x, y, rfl, hxy, b1⟩
    clear hxy
    go_wp2_with fail
    go_ret2
    exact ⟨by rw [hr.out]; rfl, b1⟩
  · have hr := Lib.hid (rSame_yes hk)
    go_enter Try.func10, Try.ntmps10
    go_wp2_with fail
    refine (mgBoth_any _ _ _ l a b _ h hA hB).mono ?_; rintro e w1 ⟨x, y, rfl, hxy, b1⟩
    obtain ⟨ox, oy⟩ := hxy hk
    go_wp2_with fail
    refine (mgSame_any _ _ _ _ _ ox.reads oy.reads (run_lens l a b)).mono ?_; rintro e w2 ⟨rfl, b2⟩
    go_wp2_with fail
    go_ret2
    exact ⟨by rw [hr.out]; rfl, b1.next (Nat.le_refl _) b2⟩
end Go.Proofs.Ytnkbopnmfoplfaa
