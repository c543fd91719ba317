/- Contracts of the drawn laws' helpers: the size of the bytes, the comparison of lists. -/
import Derived.Test.YtjbffahnbkpcnaaDraw0
import Derived.Test.YtjbffahnbkpcnaaIntss
import Derived.Test.YtjbffahnbkpcnaaHelpL
import Derived.Test.YtjbffahnbkpcnaaQuietB
set_option linter.unusedSimpArgs false
set_option linter.unusedVariables false
namespace Go.Proofs.Ytjbffahnbkpcnaa
open Go.RowKit Go.Sort

def bigB (a b : List Nat) : Bool := decide (1048576 < a.length + b.length)
theorem big_any (v1 v2 : Value) (a b : List Nat) (w : World) (h1 : BytesAt w v1 a) (h2 : BytesAt w v2 b) :
    Calls Try.prog 5 #[v1, v2] w fun e w' => e = .returned (.bool (bigB a b)) ∧ w = w' := by
  obtain ⟨A, c, rfl, hnc, hc63⟩ := h1.shape
  obtain ⟨B, d, rfl, hnd, hd63⟩ := h2.shape
  unfold bigB
  by_cases ha : 1048576 < a.length
  · have hx : Hid (decide (1048576 < a.length + b.length) = true) := decide_eq_true (by omega)
    go_enter Try.func5, Try.ntmps5
    go_wp2_with fail
    go_ret
    exact ⟨ret_bool hx.out.symm, rfl⟩
  · by_cases hb : 1048576 < a.length + b.length
    · have hx : Hid (decide (1048576 < a.length + b.length) = true) := decide_eq_true hb
      have h9 : decide ((1048576 : Int) - (a.length : Int) < (b.length : Int)) = true := decide_eq_true (by omega)
      go_enter Try.func5, Try.ntmps5
      go_wp2_with fail
      go_ret
      exact ⟨ret_bool (by rw [hx.out] <;> simp <;> omega), rfl⟩
    · have hx : Hid (decide (1048576 < a.length + b.length) = false) := decide_eq_false hb
      go_enter Try.func5, Try.ntmps5
      go_wp2_with fail
      go_ret
      exact ⟨ret_bool (by rw [hx.out] <;> simp <;> omega), rfl⟩
set_option maxHeartbeats 400000 in
theorem sameInts_any (v1 v2 : Value) (l1 l2 : List Int) (w : World) (h1 : IntsAt w v1 l1) (h2 : IntsAt w v2 l2) :
    Calls Try.prog 16 #[v1, v2] w fun e w' => e = .returned (.bool (l1 == l2)) ∧ Below w.heap.size w w' := by
  obtain ⟨A, c, rfl, hnc, hc63⟩ := h1.shape
  obtain ⟨B, d, rfl, hnd, hd63⟩ := h2.shape
  by_cases hne : l1.length = l2.length
  · rw [← hne] at h2 hnd ⊢
    have Hne := Lib.hid hne
    clear hne
    go_enter Try.func16, Try.ntmps16
    go_wp2_with fail
    go_loopw [13] (fun i wr => ∃ k : Nat, k ≤ l1.length ∧ i = .int .i64 k ∧ Hid (l1.take k = l2.take k) ∧ Below w.heap.size w wr) (fun i _ => l1.length - (intOf i).toNat)
    case atStart => exact ⟨0, Nat.zero_le _, rfl, rfl, Below.refl _ _⟩
    case round =>
      obtain ⟨k, hk, rfl, hall, hb⟩ := hrel
      by_cases hlt : k < l1.length
      · obtain ⟨b, o, rfl, hc⟩ := IntsAt.at_ (h1.below hb (Nat.le_refl _)) k hlt
        obtain ⟨b', o', rfl, hc'⟩ := IntsAt.at_ (h2.below hb (Nat.le_refl _)) k (by have := Hne.out; omega)
        go_wp2
        go_quiet (fail)
        go_wp2
        · have hx : (gi l1 k != gi l2 k) = true := by assumption
          go_ret
          exact ⟨ret_bool (gi_ne_f Hne.out hlt hx).symm, hb.drewN _⟩
        · have hx : (gi l1 k != gi l2 k) = false := by assumption
          go_roundw
          case rel => exact ⟨k + 1, by omega, by go_num, take_eq_succ Hne.out hlt hall.out hx, hb.drewN _⟩
          case measure => simp [intOf]; omega
      · have hx : Hid ((l1 == l2) = true) := by
          have h1 : l1.take k = l1 := List.take_of_length_le (by omega)
          have h2 : l2.take k = l2 := List.take_of_length_le (by have := Hne.out; omega)
          have := hall.out
          rw [h1, h2] at this
          rw [this]; simp [Hid]
        go_wp2
        go_ret
        exact ⟨ret_bool hx.out.symm, hb⟩
  · have hn : ((l1.length : Int) != l2.length) = true := by simp; omega
    have hx : Hid ((l1 == l2) = false) := by
      show (l1 == l2) = false
      rw [beq_eq_false_iff_ne]; rintro rfl; exact hne rfl
    go_enter Try.func16, Try.ntmps16
    go_wp2_with fail
    go_ret
    exact ⟨ret_bool hx.out.symm, Below.refl _ _⟩
set_option maxHeartbeats 800000 in
theorem sameLists_any (v1 v2 : Value) (l1 l2 : List (List Int)) (w : World) (h1 : IntssAt w v1 l1) (h2 : IntssAt w v2 l2) :
    Calls Try.prog 17 #[v1, v2] w fun e w' => e = .returned (.bool (l1 == l2)) ∧ Below w.heap.size w w' := by
  obtain ⟨A, c, rfl, hnc, hc63⟩ := h1.shape
  obtain ⟨B, d, rfl, hnd, hd63⟩ := h2.shape
  by_cases hne : l1.length = l2.length
  · rw [← hne] at h2 hnd ⊢
    have Hne := Lib.hid hne
    clear hne
    go_enter Try.func17, Try.ntmps17
    go_wp2_with fail
    go_loopw [13] (fun i wr => ∃ k : Nat, k ≤ l1.length ∧ i = .int .i64 k ∧ Hid (l1.take k = l2.take k) ∧ Below w.heap.size w wr) (fun i _ => l1.length - (intOf i).toNat)
    case atStart => exact ⟨0, Nat.zero_le _, rfl, rfl, Below.refl _ _⟩
    case round =>
      obtain ⟨k, hk, rfl, hall, hb⟩ := hrel
      by_cases hlt : k < l1.length
      · obtain ⟨b, o, A1, c1, rfl, hc, hr⟩ := IntssAt.at_ (h1.below hb (Nat.le_refl _)) k hlt
        obtain ⟨b', o', A2, c2, rfl, hc', hr'⟩ := IntssAt.at_ (h2.below hb (Nat.le_refl _)) k (by have := Hne.out; omega)
        have k0 := cell_regrown hc
        have k1 := cell_regrown hc'
        have hi0 : (0 : Int) ≤ (k : Int) := by omega
        have hi1 : (k : Int) < (l1.length : Int) := by omega
        have cS : ∀ d os, Calls Try.prog 16 #[.slice A1 (gl l1 k).length c1, .slice A2 (gl l2 k).length c2] (grow (redrawn wr d) os) (fun e w'' => e = .returned (.bool (gl l1 k == gl l2 k)) ∧ ∃ p : Regrown, w'' = grow (redrawn wr p.d) p.os) := fun d os => Calls.regrown_of (sameInts_any _ _ _ _ _ (hr.below (below_regrown wr d os) (Nat.le_refl _)) (hr'.below (below_regrown wr d os) (Nat.le_refl _)))
        go_wp2_with fail
        (refine wp_region_quiet_below (by kernel_rfl) (by kernel_rfl) ?_; (repeat (go_big_quiet_step (exact cS _ _))); refine wpQuiet_nil ?_; intro _ hw'; obtain ⟨⟨dq, osq⟩, hw''⟩ := hw'; subst hw'')
        have hb2 := RG.below hb hb.size dq osq
        go_wp2_with fail
        · have hx : (!(gl l1 k == gl l2 k)) = true := by assumption
          go_ret
          exact ⟨ret_bool (gl_ne_f hlt Hne.out hx).symm, hb2⟩
        · have hx : (!(gl l1 k == gl l2 k)) = false := by assumption
          go_roundw
          case rel => exact ⟨k + 1, by omega, by go_num, takeL_eq_succ Hne.out hlt hall.out hx, hb2⟩
          case measure => simp [intOf]; omega
      · have hx : Hid ((l1 == l2) = true) := by
          have h1 : l1.take k = l1 := List.take_of_length_le (by omega)
          have h2 : l2.take k = l2 := List.take_of_length_le (by have := Hne.out; omega)
          have := hall.out
          rw [h1, h2] at this
          rw [this]; simp [Hid]
        go_wp2_with fail
        go_ret
        exact ⟨ret_bool hx.out.symm, hb⟩
  · have hn : ((l1.length : Int) != l2.length) = true := by simp; omega
    have hx : Hid ((l1 == l2) = false) := by
      show (l1 == l2) = false
      rw [beq_eq_false_iff_ne]; rintro rfl; exact hne rfl
    go_enter Try.func17, Try.ntmps17
    go_wp2_with fail
    go_ret
    exact ⟨ret_bool hx.out.symm, Below.refl _ _⟩
end Go.Proofs.Ytjbffahnbkpcnaa
