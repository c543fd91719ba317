/- Contracts of copies and of a range test over a list. -/
import Derived.Test.YtgcgkpmjahgmnaaHelp
set_option linter.unusedSimpArgs false
set_option linter.unusedVariables false
namespace Go.Proofs.Ytgcgkpmjahgmnaa
open Go.RowKit

set_option maxHeartbeats 400000 in
theorem l1All_any (A : Option Addr) (n c : Nat) (l : List Int) (lo hi : Int) (w : World) (h : IntsAt w (.slice A n c) l) :
    Calls Try.prog 60 #[.slice A n c, .int .i64 lo, .int .i64 hi] w fun e w' => e = .returned (.bool (allIn l lo hi)) ∧ w = w' := by
  obtain ⟨_, _, he, hnc, hc63⟩ := h.shape
  injection he with e1 e2 e3
  subst e1 e2 e3
  go_enter Try.func60, Try.ntmps60
  go_wp2
  go_loop [11] (fun i => ∃ k : Nat, k ≤ l.length ∧ i = .int .i64 k ∧ Hid (allIn (l.take k) lo hi = true)) (fun i => l.length - (intOf i).toNat)
  case atStart => exact ⟨0, Nat.zero_le _, rfl, rfl⟩
  case round =>
    obtain ⟨k, hk, rfl, hall⟩ := hrel
    by_cases hlt : k < l.length
    · obtain ⟨b, o, rfl, hc⟩ := IntsAt.at_ h k hlt
      go_wp2_with (go_at_call 46; refine (l1In_any _ _ _ _).mono ?_; rintro e w' ⟨rfl, rfl⟩)
      · have hx : (!inR (gi l k) lo hi) = true := by assumption
        go_ret
        exact ⟨ret_bool (allIn_no hlt (not_t hx)).symm, rfl⟩
      · have hx : (!inR (gi l k) lo hi) = false := by assumption
        go_round
        case rel => exact ⟨k + 1, by omega, by go_num, allIn_take_gi hlt hall.out (not_f hx)⟩
        case measure => simp [intOf]; omega
    · have hx : Hid (l.take k = l) := List.take_of_length_le (by omega)
      go_wp2
      go_ret
      exact ⟨ret_bool (by rw [← hall.out, hx.out]), rfl⟩

set_option maxHeartbeats 400000 in
theorem copyInts_any (v : Value) (l : List Int) (w : World) (h : IntsAt w v l) (hl : l.length ≤ 1099511627776) :
    Calls Try.prog 72 #[v] w (FreshInts w l) := by
  go_enter Try.func72, Try.ntmps72
  go_wp2_with (at_builtin; refine wp_app_ints _ rfl _ _ rfl w.heap.size _ [] rfl (OwnInts.empty w _ (Nat.le_refl _)) _ l rfl (h.below ((Below.refl w.heap.size _).alloc (Nat.le_refl _) _) (Nat.le_refl _)) (by simpa using hl) (by simp) ?_; intro v1 w1 ho hg)
  go_ret
  exact ⟨_, rfl, ho, ((Below.refl w.heap.size _).alloc (Nat.le_refl _) _).trans hg.below⟩

set_option maxHeartbeats 400000 in
theorem l1Own_any (v : Value) (l : List Int) (w : World) (h : IntsAt w v l) (hl : l.length ≤ 1099511627776) :
    Calls Try.prog 68 #[v] w (FreshInts w l) := by
  go_enter Try.func68, Try.ntmps68
  go_wp2_with (at_builtin; refine wp_app_ints _ rfl _ _ rfl w.heap.size _ [] rfl (OwnInts.empty w _ (Nat.le_refl _)) _ l rfl (h.below ((Below.refl w.heap.size _).alloc (Nat.le_refl _) _) (Nat.le_refl _)) (by simpa using hl) (by simp) ?_; intro v1 w1 ho hg)
  go_ret
  exact ⟨_, rfl, ho, ((Below.refl w.heap.size _).alloc (Nat.le_refl _) _).trans hg.below⟩
end Go.Proofs.Ytgcgkpmjahgmnaa
