/- Contracts of the drawn laws' helpers on edits: comparisons, whether a list has a number, ApplyEdits where it applies. -/
import Derived.Test.YtnkbopnmfoplfaaMgP
import Derived.Test.YtnkbopnmfoplfaaDrawML
import Derived.Test.YtnkbopnmfoplfaaQuietB
set_option linter.unusedSimpArgs false
set_option linter.unusedVariables false
namespace Go.Proofs.Ytnkbopnmfoplfaa
open Go.RowKit Go.Sort

theorem hasN_take_succ (l : List Int) (n : Int) (k : Nat) (h : k < l.length) : hasN (l.take (k + 1)) n = (hasN (l.take k) n || gi l k == n) := by
  unfold hasN
  rw [take_succ_gi l k h, List.any_append]; simp
theorem hasN_yes {l : List Int} {n : Int} {k : Nat} (h : k < l.length) (hx : (gi l k == n) = true) : hasN l n = true := by
  unfold hasN
  rw [List.any_eq_true]
  exact ⟨_, gi_mem h, hx⟩

theorem IntsAt.cell {w : World} {b o n c : Nat} {l : List Int} (h : IntsAt w (.slice (some ⟨b, o, none⟩) n c) l) (k : Nat) (hk : k < l.length) : w.cell? ⟨b, o + k, none⟩ = some (.int .i64 (gi l k)) := by
  obtain ⟨b', o', he, hc⟩ := h.at_ k hk
  injection he with he
  injection he with e1 e2
  subst e1 e2
  exact hc
set_option maxHeartbeats 400000 in
theorem qInts_yes (v1 v2 : Value) (l : List Int) (w : World) (h1 : IntsAt w v1 l) (h2 : IntsAt w v2 l) :
    Calls Try.prog 15 #[v1, v2] w fun e w' => e = .returned (.bool true) ∧ Below w.heap.size w w' := by
  obtain ⟨A, c, rfl, hnc, hc63⟩ := h1.shape
  obtain ⟨B, d, rfl, hnd, hd63⟩ := h2.shape
  go_enter Try.func15, Try.ntmps15
  go_wp2_with fail
  go_loopw [13] (fun i wr => ∃ k : Nat, k ≤ l.length ∧ i = .int .i64 k ∧ Below w.heap.size w wr) (fun i _ => l.length - (intOf i).toNat)
  case atStart => exact ⟨0, Nat.zero_le _, rfl, Below.refl _ _⟩
  case round =>
    obtain ⟨k, hk, rfl, hb⟩ := hrel
    by_cases hlt : k < l.length
    · obtain ⟨b, o, rfl, hc⟩ := IntsAt.at_ (h1.below hb (Nat.le_refl _)) k hlt
      obtain ⟨b', o', rfl, hc'⟩ := IntsAt.at_ (h2.below hb (Nat.le_refl _)) k hlt
      go_wp2
      go_quiet (fail)
      go_wp2
      go_roundw
      case rel => exact ⟨k + 1, by omega, by go_num, hb.drewN _⟩
      case measure => simp [intOf]; omega
    · go_wp2
      go_ret
      exact ⟨rfl, hb⟩
set_option maxHeartbeats 400000 in
theorem qHas_any (v : Value) (l : List Int) (n : Int) (w : World) (h : IntsAt w v l) :
    Calls Try.prog 18 #[v, .int .i64 n] w fun e w' => e = .returned (.bool (hasN l n)) ∧ w = w' := by
  obtain ⟨A, c, rfl, hnc, hc63⟩ := h.shape
  go_enter Try.func18, Try.ntmps18
  go_wp2_with fail
  go_loop [9] (fun i => ∃ k : Nat, k ≤ l.length ∧ i = .int .i64 k ∧ Hid (hasN (l.take k) n = false)) (fun i => l.length - (intOf i).toNat)
  case atStart => exact ⟨0, Nat.zero_le _, rfl, by show hasN (l.take 0) n = false; simp [hasN]⟩
  case round =>
    obtain ⟨k, hk, rfl, hall⟩ := hrel
    by_cases hlt : k < l.length
    · obtain ⟨b, o, rfl, hc⟩ := h.at_ k hlt
      go_wp2
      · have hx : (gi l k == n) = true := by assumption
        go_ret
        exact ⟨ret_bool (hasN_yes hlt hx).symm, rfl⟩
      · have hx : (gi l k == n) = false := by assumption
        go_round
        case rel => exact ⟨k + 1, by omega, by go_num, by show hasN (l.take (k + 1)) n = false; rw [hasN_take_succ l n k hlt, hall.out, hx]; rfl⟩
        case measure => simp [intOf]; omega
    · have hx : Hid (hasN l n = false) := by
        have h1 : l.take k = l := List.take_of_length_le (by omega)
        have := hall.out
        rw [h1] at this
        exact this
      go_wp2
      go_ret
      exact ⟨ret_bool hx.out.symm, rfl⟩
set_option maxHeartbeats 1600000 in
theorem qSpots_any (v1 v2 : Value) (l1 l2 : List Spt) (w : World) (h1 : RowAt sptRec w v1 l1) (h2 : RowAt sptRec w v2 l2) :
    Calls Try.prog 14 #[v1, v2] w fun e w' => e = .returned (.bool (decide (l1 = l2))) ∧ Below w.heap.size w w' := by
  obtain ⟨A, c, rfl, hnc, hc63⟩ := h1.shape
  obtain ⟨B, d, rfl, hnd, hd63⟩ := h2.shape
  by_cases hne : l1.length = l2.length
  case neg =>
    have hx : Hid (l1 ≠ l2) := fun h => hne (by rw [h])
    have hz : ((l1.length : Int) != (l2.length : Int)) = true := by simp only [bne_iff_ne, ne_eq]; omega
    clear h1 h2
    go_enter Try.func14, Try.ntmps14
    go_wp2_with fail
    go_ret
    exact ⟨ret_bool (decide_eq_false hx.out).symm, Below.refl _ _⟩
  rw [← hne] at h2 hnd ⊢
  have Hne := Lib.hid hne
  clear hne
  go_enter Try.func14, Try.ntmps14
  go_wp2_with fail
  go_loopw [13] (fun i wr => ∃ k : Nat, k ≤ l1.length ∧ i = .int .i64 k ∧ Hid (l1.take k = l2.take k) ∧ Below w.heap.size w wr) (fun i _ => l1.length - (intOf i).toNat)
  case atStart => exact ⟨0, Nat.zero_le _, rfl, rfl, Below.refl _ _⟩
  case round =>
    obtain ⟨k, hk, rfl, hall, hb⟩ := hrel
    by_cases hlt : k < l1.length
    · obtain ⟨b, o, rfl, hc0, hc1⟩ := spt_at (h1.below hb (Nat.le_refl _)) k hlt
      obtain ⟨b', o', rfl, hd0, hd1⟩ := spt_at (h2.below hb (Nat.le_refl _)) k (by have := Hne.out; omega)
      have hi0 : (0 : Int) ≤ (k : Int) := by omega
      have hi1 : (k : Int) < (l1.length : Int) := by omega
      cases e0 : ((gx sptRec l1 k).x == (gx sptRec l2 k).x) <;> cases e1 : ((gx sptRec l1 k).y == (gx sptRec l2 k).y)
      case true.true =>
        have f0 : ((gx sptRec l1 k).x != (gx sptRec l2 k).x) = false := by simpa using e0
        have f1 : ((gx sptRec l1 k).y != (gx sptRec l2 k).y) = false := by simpa using e1
        have hn : Hid (l1.take (k + 1) = l2.take (k + 1)) := take_eq_succ' hlt (by have := Hne.out; omega) hall.out (Spt.ext_ (by simpa using e0) (by simpa using e1))
        go_wp2_with fail
        go_quiet (fail)
        go_wp2_with fail
        go_roundw
        case rel => exact ⟨k + 1, by omega, by go_num, hn, hb.drewN _⟩
        case measure => simp [intOf]; omega
      all_goals
        have hx : Hid (l1 ≠ l2) := gx_ne (k := k) (by intro h9; rw [h9] at e0 e1; simp at e0 e1)
        have f0 : ((gx sptRec l1 k).x != (gx sptRec l2 k).x) = !((gx sptRec l1 k).x == (gx sptRec l2 k).x) := rfl
        have f1 : ((gx sptRec l1 k).y != (gx sptRec l2 k).y) = !((gx sptRec l1 k).y == (gx sptRec l2 k).y) := rfl
        rw [e0] at f0
        rw [e1] at f1
        simp only [Bool.not_true, Bool.not_false] at f0 f1
        go_wp2_with fail
        go_quiet (fail)
        go_wp2_with fail
        go_ret
        exact ⟨ret_bool (decide_eq_false hx.out).symm, hb.drewN _⟩
    · have hx : Hid (l1 = l2) := by
        have h1 : l1.take k = l1 := List.take_of_length_le (by omega)
        have h2 : l2.take k = l2 := List.take_of_length_le (by have := Hne.out; omega)
        have := hall.out
        rwa [h1, h2] at this
      go_wp2_with fail
      go_ret
      exact ⟨ret_bool (decide_eq_true hx.out).symm, hb⟩
theorem qSpots_yes (v1 v2 : Value) (l : List Spt) (w : World) (h1 : RowAt sptRec w v1 l) (h2 : RowAt sptRec w v2 l) :
    Calls Try.prog 14 #[v1, v2] w fun e w' => e = .returned (.bool true) ∧ Below w.heap.size w w' :=
  (qSpots_any v1 v2 l l w h1 h2).mono fun e w' ⟨a, b⟩ => ⟨by rw [a, decide_eq_true rfl], b⟩
theorem BoxS.drwN {w : World} {b : Nat} {x y : Int} (h : BoxS w b x y) (n : Nat) : BoxS (w.drewN n) b x y := h
def FreshAp (w : World) (r : List Spt × Nat) (e : Ending) (w' : World) : Prop :=
  ∃ x, e = .returned (.tuple #[x, .int .i64 r.2, .bool true]) ∧ OwnRow sptRec w' w.heap.size x r.1 ∧ Below w.heap.size w w'
set_option maxHeartbeats 1600000 in
theorem implApply (v ve : Value) (l : List Spt) (es : List Edt) (w : World) (h : RowAt sptRec w v l) (hE : RowAt edtRec w ve es) (h1 : isChart l = true) (h2 : areEdts es = true) (x : List Spt) (hx : runE l es 0 = (x, es.length)) :
    Calls Try.prog 16 #[v, ve] w (FreshAp w (x, es.length)) := by
  have hp := chart_pos h1
  obtain ⟨hl0, hl12⟩ := hp
  have hg0 := areEdts_t h2
  obtain ⟨h30, hg1⟩ := hg0
  have hg := Lib.hid hg1
  have HX := Lib.hid hx
  clear hg1 hx
  have C1 := Lib.hid (implIsChart v l w h)
  rw [h1] at C1
  go_enter Try.func16, Try.ntmps16
  go_wp2_with fail
  refine C1.out.mono ?_; rintro e w1 ⟨rfl, b1⟩
  have hE1 := hE.below b1 (Nat.le_refl _)
  have C2 := Lib.hid (areEdits_any ve es w1 hE1)
  rw [h2] at C2
  go_wp2_with fail
  refine C2.out.mono ?_; rintro e w2 ⟨rfl, b2⟩
  have b12 := b1.next (Nat.le_refl _) b2
  have C3 := Lib.hid (applyEdits_any v ve l es w2 (h.below b12 (Nat.le_refl _)) (hE.below b12 (Nat.le_refl _)) hl12 hl0 (by omega) hg)
  rw [HX.out] at C3
  go_wp2_with fail
  refine C3.out.mono ?_; rintro e w3 ⟨u, rfl, ox, b3⟩
  have ox2 := OwnRow.lo ox b12.size
  go_wp2_with fail
  go_ret3
  exact ⟨_, rfl, ox2, b12.next (Nat.le_refl _) b3⟩
set_option maxHeartbeats 1600000 in
theorem specApply (v ve : Value) (l : List Spt) (es : List Edt) (w : World) (h : RowAt sptRec w v l) (hE : RowAt edtRec w ve es) (h1 : isChart l = true) (h2 : areEdts es = true) (x : List Spt) (hx : runE l es 0 = (x, es.length)) :
    Calls Try.prog 17 #[v, ve] w (FreshAp w (x, es.length)) := by
  have hp := chart_pos h1
  obtain ⟨hl0, hl12⟩ := hp
  have hg0 := areEdts_t h2
  obtain ⟨h30, hg1⟩ := hg0
  have hg := Lib.hid hg1
  have HX := Lib.hid hx
  clear hg1 hx
  have C1 := Lib.hid (chGood_any v l w h)
  rw [h1] at C1
  go_enter Try.func17, Try.ntmps17
  go_wp2_with fail
  refine C1.out.mono ?_; rintro e w1 ⟨rfl, b1⟩
  have hE1 := hE.below b1 (Nat.le_refl _)
  have C2 := Lib.hid (edAll_any ve es w1 hE1)
  rw [h2] at C2
  go_wp2_with fail
  refine C2.out.mono ?_; rintro e w2 ⟨rfl, b2⟩
  have b12 := b1.next (Nat.le_refl _) b2
  have C3 := Lib.hid (edRun_any v ve l es w2 (h.below b12 (Nat.le_refl _)) (hE.below b12 (Nat.le_refl _)) hl12 hl0 (by omega) hg)
  rw [HX.out] at C3
  go_wp2_with fail
  refine C3.out.mono ?_; rintro e w3 ⟨u, rfl, ox, b3⟩
  have ox2 := OwnRow.lo ox b12.size
  go_wp2_with fail
  go_ret3
  exact ⟨_, rfl, ox2, b12.next (Nat.le_refl _) b3⟩
end Go.Proofs.Ytnkbopnmfoplfaa
