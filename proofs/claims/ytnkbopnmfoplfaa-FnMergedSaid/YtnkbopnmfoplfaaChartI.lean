/- Contract of IsChart in the program; pairs of charts; copies of charts. -/
import Derived.Test.YtnkbopnmfoplfaaChart
import Derived.Test.YtnkbopnmfoplfaaMark
import Derived.Deep.RegionWith
set_option linter.unusedSimpArgs false
set_option linter.unusedVariables false
namespace Go.Proofs.Ytnkbopnmfoplfaa
open Go.RowKit

set_option maxHeartbeats 6400000 in
theorem implIsChart (v : Value) (l : List Spt) (w : World) (h : RowAt sptRec w v l) :
    Calls Try.prog 19 #[v] w fun e w' => e = .returned (.bool (isChart l)) ∧ Below w.heap.size w w' := by
  obtain ⟨A, c, rfl, hnc, hc63⟩ := h.shape
  cases hn : inR l.length 1 12
  · have hr := Lib.hid (isChart_len hn)
    go_enter Try.func19, Try.ntmps19
    go_wp2_with (go_at_call 39; refine (within_any _ _ _ _).mono ?_; rintro e w' ⟨rfl, rfl⟩)
    go_ret
    exact ⟨ret_bool hr.out.symm, Below.refl _ _⟩
  · have Hn := Lib.hid hn
    go_enter Try.func19, Try.ntmps19
    go_wp2_with (go_at_call 39; refine (within_any _ _ _ _).mono ?_; rintro e w' ⟨rfl, rfl⟩)
    clear hn
    go_loopg [11] l.length (fun g i wr => ∃ k : Nat, k ≤ l.length ∧ l.length ≤ k + g ∧ i = .int .i64 k ∧ Hid (chTo l k) ∧ Below w.heap.size w wr)
    case atStart => exact ⟨0, by omega, by omega, rfl, (fun i hi => absurd hi (by omega)), Below.refl _ _⟩
    case round =>
      obtain ⟨k, hk, hkg, rfl, hall, hb⟩ := hrel
      by_cases hlt : k < l.length
      · obtain ⟨b, o, rfl, hc0, hc1⟩ := spt_at (h.below hb (Nat.le_refl _)) k hlt
        have hbA : Below wr.heap.size wr (wr.alloc (.cells #[.int .i64 (gx sptRec l k).x, .int .i64 (gx sptRec l k).y] 42)) := (Below.refl _ _).alloc (Nat.le_refl _) _
        have hy0 : (wr.alloc (.cells #[.int .i64 (gx sptRec l k).x, .int .i64 (gx sptRec l k).y] 42)).cell? ⟨wr.heap.size, 0, none⟩ = some (.int .i64 (gx sptRec l k).x) := by go_simp
        have hy1 : (wr.alloc (.cells #[.int .i64 (gx sptRec l k).x, .int .i64 (gx sptRec l k).y] 42)).cell? ⟨wr.heap.size, 1, none⟩ = some (.int .i64 (gx sptRec l k).y) := by go_simp
        have hbX : Below w.heap.size w (wr.alloc (.cells #[.int .i64 (gx sptRec l k).x, .int .i64 (gx sptRec l k).y] 42)) := hb.trans (hbA.mono hb.size)
        have D0 := (Below.refl (wr.alloc (.cells #[.int .i64 (gx sptRec l k).x, .int .i64 (gx sptRec l k).y] 42)).heap.size (wr.alloc (.cells #[.int .i64 (gx sptRec l k).x, .int .i64 (gx sptRec l k).y] 42))).drew
        have hcut1 := h.take k hk
        have hi0 : (0 : Int) ≤ (k : Int) := by omega
        have hi1 : (k : Int) ≤ (l.length : Int) := by omega
        have hi2 : (k : Int) ≤ (c : Int) := by omega
        have hi3 : k ≤ c := by omega
        have hsz : wr.heap.size < (wr.alloc (.cells #[.int .i64 (gx sptRec l k).x, .int .i64 (gx sptRec l k).y] 42)).heap.size := by simp
        go_upto_region 6 with fail
        go_cut [25] (fun s wx => s = .bool (!chOk l k) ∧ Below w.heap.size w wx)
        case first =>
          cases hs : isSpot (gx sptRec l k).x (gx sptRec l k).y
          case false =>
            have hr := Lib.hid (chOk_bad hs)
            (first | (go_region_with (go_at_call 40; refine (implIsSpot _ _ _).mono ?_; rintro e w1 ⟨he1, b1⟩; rw [hs] at he1; subst he1)) | fail)
            all_goals
              go_wp2_with fail
              go_meet
              exact ⟨by rw [hr.out]; rfl, hbX.drew.next (Nat.le_refl _) b1⟩
          case true =>
            cases hf : decide (0 ≤ findS (l.take k) (gx sptRec l k))
            all_goals
              have hr : Hid (chOk l k = !decide (0 ≤ findS (l.take k) (gx sptRec l k))) := by
                show _ = _
                unfold chOk
                rw [hs]
                rcases findS_bd (l.take k) (gx sptRec l k) with h9 | h9
                · rw [h9]; rfl
                · have e1 : decide (findS (l.take k) (gx sptRec l k) < 0) = false := decide_eq_false (by omega)
                  have e2 : decide (0 ≤ findS (l.take k) (gx sptRec l k)) = true := decide_eq_true (by omega)
                  rw [e1, e2]; rfl
              rw [hf] at hr
              (first | (go_region_held3 (fun w' => w'.cell? ⟨wr.heap.size, 0, none⟩ = some (.int .i64 (gx sptRec l k).x) ∧ w'.cell? ⟨wr.heap.size, 1, none⟩ = some (.int .i64 (gx sptRec l k).y))
                (first | go_keep | exact ⟨Below.keepCell (D0.next (Nat.le_refl _) b1) hy0 (Nat.le_refl _), Below.keepCell (D0.next (Nat.le_refl _) b1) hy1 (Nat.le_refl _)⟩ | exact ⟨Below.keepCell ((D0.next (Nat.le_refl _) b1).next (Nat.le_refl _) b2) hy0 (Nat.le_refl _), Below.keepCell ((D0.next (Nat.le_refl _) b1).next (Nat.le_refl _) b2) hy1 (Nat.le_refl _)⟩)
                (first
                  | (go_at_call 40; refine (implIsSpot _ _ _).mono ?_; rintro e w1 ⟨he1, b1⟩; rw [hs] at he1; subst he1)
                  | (go_at_call 41; refine (containsS_any _ (l.take k) (gx sptRec l k) _ (hcut1.below (hbX.drew.next (Nat.le_refl _) b1) (Nat.le_refl _))).mono ?_; rintro e w2 ⟨he2, b2⟩; rw [hf] at he2; subst he2))) | fail)
              all_goals
                go_wp2_with fail
                go_meet
                exact ⟨by rw [hr.out]; rfl, (hbX.drew.next (Nat.le_refl _) b1).next (Nat.le_refl _) b2⟩
        case rest =>
          obtain ⟨rfl, hbc⟩ := hcut
          cases hok : chOk l k
          · have hr := Lib.hid (isChart_no hlt hok)
            go_wp2_with fail
            go_ret
            exact ⟨ret_bool hr.out.symm, hbc⟩
          · have hn : Hid (chTo l (k + 1)) := chTo_succ hall.out hok
            go_wp2_with fail
            go_roundg (gk - 1)
            case measure => omega
            case rel => exact ⟨k + 1, by omega, by omega, by go_num, hn, hbc⟩
      · obtain rfl : k = l.length := by omega
        have hr : Hid (isChart l = true) := (isChart_to hall.out).trans Hn.out
        go_wp2_with fail
        go_ret
        exact ⟨ret_bool hr.out.symm, hb⟩
end Go.Proofs.Ytnkbopnmfoplfaa
