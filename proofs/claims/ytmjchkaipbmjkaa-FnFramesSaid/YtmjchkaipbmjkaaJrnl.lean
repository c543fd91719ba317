/- Contracts of the journal's functions that make no memory: what a frame, bytes and a check are. -/
import Derived.Test.YtmjchkaipbmjkaaHelpC
set_option linter.unusedSimpArgs false
set_option linter.unusedVariables false
namespace Go.Proofs.Ytmjchkaipbmjkaa
open Go.RowKit

theorem isFrame_eq (l : List Int) : isFrame l = (inR l.length 1 12 && allIn l 0 255) := rfl
theorem ints_and (l : List Int) (m : Nat) : (allIn l 0 255 && decide ((l.length : Int) ≤ (m : Int))) = (allIn l 0 255 && decide (l.length ≤ m)) := by
  congr 1
  simp

set_option maxHeartbeats 400000 in
theorem areBytes_any (v : Value) (l : List Int) (m : Int) (w : World) (h : IntsAt w v l) :
    Calls Try.prog 40 #[v, .int .i64 m] w fun e w' => e = .returned (.bool (allIn l 0 255 && decide ((l.length : Int) ≤ m))) ∧ w = w' := by
  obtain ⟨A, c, rfl, hnc, hc63⟩ := h.shape
  go_enter Try.func40, Try.ntmps40
  go_wp2
  go_loop [9] (fun i => ∃ k : Nat, k ≤ l.length ∧ i = .int .i64 k ∧ Hid (allIn (l.take k) 0 255 = true)) (fun i => l.length - (intOf i).toNat)
  case atStart => exact ⟨0, Nat.zero_le _, rfl, rfl⟩
  case round =>
    obtain ⟨k, hk, rfl, hall⟩ := hrel
    by_cases hlt : k < l.length
    · obtain ⟨b, o, rfl, hc⟩ := IntsAt.at_ h k hlt
      go_wp2_with (go_at_call 42; refine (within_any _ _ _ _).mono ?_; rintro e w' ⟨rfl, rfl⟩)
      · have hx : (!inR (gi l k) 0 255) = true := by assumption
        go_ret
        exact ⟨ret_bool (by rw [allIn_no hlt (not_t hx)]; rfl), rfl⟩
      · have hx : (!inR (gi l k) 0 255) = false := by assumption
        go_round
        case rel => exact ⟨k + 1, by omega, by go_num, allIn_take_gi hlt hall.out (not_f hx)⟩
        case measure => simp [intOf]; omega
    · have hx : Hid (l.take k = l) := List.take_of_length_le (by omega)
      go_wp2
      go_ret
      exact ⟨ret_bool (by have := hall.out; rw [hx.out] at this; rw [this]; rfl), rfl⟩

theorem implIsFrame_any (v : Value) (l : List Int) (w : World) (h : IntsAt w v l) :
    Calls Try.prog 25 #[v] w fun e w' => e = .returned (.bool (isFrame l)) ∧ w = w' := by
  obtain ⟨A, c, rfl, hnc, hc63⟩ := h.shape
  rw [isFrame_eq]
  by_cases hp : 0 < l.length
  · have hd : decide ((0 : Int) < (l.length : Int)) = true := decide_eq_true (by omega)
    go_enter Try.func25, Try.ntmps25
    go_wp2_with (go_at_call 40; refine (areBytes_any _ _ _ _ h).mono ?_; rintro e w' ⟨rfl, rfl⟩)
    go_ret
    refine ⟨ret_bool ?_, rfl⟩
    unfold inR
    rw [Bool.and_comm]
    congr 1
    have : decide ((1 : Int) ≤ (l.length : Int)) = true := decide_eq_true (by omega)
    rw [this]; simp
  · have hd : decide ((0 : Int) < (l.length : Int)) = false := decide_eq_false (by omega)
    go_enter Try.func25, Try.ntmps25
    go_wp2_with (go_at_call 40; refine (areBytes_any _ _ _ _ h).mono ?_; rintro e w' ⟨rfl, rfl⟩)
    go_ret
    refine ⟨ret_bool ?_, rfl⟩
    have : inR (l.length : Int) 1 12 = false := by rw [inR_f]; omega
    rw [this]; rfl

theorem jrFrame_any (v : Value) (l : List Int) (w : World) (h : IntsAt w v l) :
    Calls Try.prog 43 #[v] w fun e w' => e = .returned (.bool (isFrame l)) ∧ w = w' := by
  obtain ⟨A, c, rfl, hnc, hc63⟩ := h.shape
  rw [isFrame_eq]
  cases hp : inR l.length 1 12
  all_goals
    go_enter Try.func43, Try.ntmps43
    go_wp2_with (first | (go_at_call 58; refine (l1In_any _ _ _ _).mono ?_; rintro e w' ⟨rfl, rfl⟩) | (go_at_call 62; refine (l1All_any _ _ _ _ _ _ _ h).mono ?_; rintro e w' ⟨rfl, rfl⟩))
    go_ret
    exact ⟨ret_bool (by simp), rfl⟩

theorem specIsFrame_any (v : Value) (l : List Int) (w : World) (h : IntsAt w v l) :
    Calls Try.prog 36 #[v] w fun e w' => e = .returned (.bool (isFrame l)) ∧ w = w' := by
  go_enter Try.func36, Try.ntmps36
  go_wp2_with (go_at_call 43; refine (jrFrame_any _ _ _ h).mono ?_; rintro e w' ⟨rfl, rfl⟩)
  go_ret
  exact ⟨rfl, rfl⟩

set_option maxHeartbeats 400000 in
theorem frameCheck_any (v : Value) (l : List Int) (n : Int) (w : World) (h : IntsAt w v l) (hin : allIn l 0 255 = true) (hn : 0 ≤ n ∧ n ≤ 1048576) :
    Calls Try.prog 56 #[v, .int .i64 n] w fun e w' => e = .returned (.int .i64 (chk l n)) ∧ w = w' := by
  obtain ⟨A, c, rfl, hnc, hc63⟩ := h.shape
  have Hin := Lib.hid hin
  clear hin
  obtain ⟨hn0, hn1⟩ := hn
  go_enter Try.func56, Try.ntmps56
  go_wp2
  go_loop [5, 13] (fun a i => ∃ k : Nat, k ≤ l.length ∧ i = .int .i64 k ∧ a = .int .i64 (chkFrom (l.take k) (17 + 3 * n))) (fun _ i => l.length - (intOf i).toNat)
  case atStart => exact ⟨0, Nat.zero_le _, rfl, by simp [chkFrom]⟩
  case round =>
    obtain ⟨k, hk, rfl, rfl⟩ := hrel
    have hbd := chkFrom_bd (l.take k) (17 + 3 * n) (by omega)
    by_cases hlt : k < l.length
    · obtain ⟨b, o, rfl, hc⟩ := IntsAt.at_ h k hlt
      have hg := allIn_gi Hin.out hlt
      go_wp2
      go_round
      case rel => exact ⟨k + 1, by omega, by go_num, by rw [chk_step l _ k hlt]⟩
      case measure => simp [intOf]; omega
    · have hx : Hid (l.take k = l) := List.take_of_length_le (by omega)
      go_wp2
      go_ret
      exact ⟨ret_int (by unfold chk; rw [hx.out]), rfl⟩

set_option maxHeartbeats 400000 in
theorem jrCheck_any (v : Value) (l : List Int) (n : Int) (w : World) (h : IntsAt w v l) (hin : allIn l 0 255 = true) (hn : 0 ≤ n ∧ n ≤ 1048576) :
    Calls Try.prog 57 #[v, .int .i64 n] w fun e w' => e = .returned (.int .i64 (chk l n)) ∧ w = w' := by
  obtain ⟨A, c, rfl, hnc, hc63⟩ := h.shape
  have Hin := Lib.hid hin
  clear hin
  obtain ⟨hn0, hn1⟩ := hn
  go_enter Try.func57, Try.ntmps57
  go_wp2
  go_loop [5, 13] (fun a i => ∃ k : Nat, k ≤ l.length ∧ i = .int .i64 k ∧ a = .int .i64 (chkFrom (l.take k) (17 + 3 * n))) (fun _ i => l.length - (intOf i).toNat)
  case atStart => exact ⟨0, Nat.zero_le _, rfl, by simp [chkFrom]⟩
  case round =>
    obtain ⟨k, hk, rfl, rfl⟩ := hrel
    have hbd := chkFrom_bd (l.take k) (17 + 3 * n) (by omega)
    by_cases hlt : k < l.length
    · obtain ⟨b, o, rfl, hc⟩ := IntsAt.at_ h k hlt
      have hg := allIn_gi Hin.out hlt
      go_wp2
      go_round
      case rel => exact ⟨k + 1, by omega, by go_num, by rw [chk_step l _ k hlt]⟩
      case measure => simp [intOf]; omega
    · have hx : Hid (l.take k = l) := List.take_of_length_le (by omega)
      go_wp2
      go_ret
      exact ⟨ret_int (by unfold chk; rw [hx.out]), rfl⟩

theorem jrNumber_any (n : Int) (w : World) :
    Calls Try.prog 44 #[.int .i64 n] w fun e w' => e = .returned (.bool (inR n 0 19)) ∧ w = w' := by
  go_enter Try.func44, Try.ntmps44
  go_wp2_with (go_at_call 58; refine (l1In_any _ _ _ _).mono ?_; rintro e w' ⟨rfl, rfl⟩)
  go_ret
  exact ⟨rfl, rfl⟩
theorem jrCount_any (n : Int) (w : World) :
    Calls Try.prog 54 #[.int .i64 n] w fun e w' => e = .returned (.bool (inR n 0 240)) ∧ w = w' := by
  go_enter Try.func54, Try.ntmps54
  go_wp2_with (go_at_call 58; refine (l1In_any _ _ _ _).mono ?_; rintro e w' ⟨rfl, rfl⟩)
  go_ret
  exact ⟨rfl, rfl⟩
theorem jrBytes_any (v : Value) (l : List Int) (w : World) (h : IntsAt w v l) :
    Calls Try.prog 49 #[v] w fun e w' => e = .returned (.bool (isBytes l)) ∧ w = w' := by
  obtain ⟨A, c, rfl, hnc, hc63⟩ := h.shape
  rw [← isBytes_eq]
  cases hd : decide ((l.length : Int) ≤ 240)
  all_goals
    go_enter Try.func49, Try.ntmps49
    go_wp2_with (go_at_call 62; refine (l1All_any _ _ _ _ _ _ _ h).mono ?_; rintro e w' ⟨rfl, rfl⟩)
    go_ret
    exact ⟨ret_bool (by simp), rfl⟩

theorem implFrameCheck (v : Value) (l : List Int) (n : Int) (w : World) (h : IntsAt w v l) :
    Calls Try.prog 23 #[v, .int .i64 n] w fun e w' => e = .returned (.tuple #[.int .i64 (rCheck l n).1, .bool (rCheck l n).2]) ∧ w = w' := by
  unfold rCheck
  cases hf : isFrame l <;> cases hn : inR n 0 19
  all_goals
    have Hf := Lib.hid hf
    have Hn := Lib.hid hn
    go_enter Try.func23, Try.ntmps23
    go_wp2_with (first | (go_at_call 25; refine (implIsFrame_any _ _ _ h).mono ?_; rintro e w' ⟨rfl, rfl⟩) | (go_at_call 42; refine (within_any _ _ _ _).mono ?_; rintro e w' ⟨rfl, rfl⟩) | (go_at_call 56; refine (frameCheck_any _ _ _ _ h (isFrame_in Hf.out) (by have := inR_t.1 Hn.out; omega)).mono ?_; rintro e w' ⟨rfl, rfl⟩))
    go_ret2
    exact ⟨rfl, rfl⟩

theorem specFrameCheck (v : Value) (l : List Int) (n : Int) (w : World) (h : IntsAt w v l) :
    Calls Try.prog 24 #[v, .int .i64 n] w fun e w' => e = .returned (.tuple #[.int .i64 (rCheck l n).1, .bool (rCheck l n).2]) ∧ w = w' := by
  unfold rCheck
  cases hf : isFrame l <;> cases hn : inR n 0 19
  all_goals
    have Hf := Lib.hid hf
    have Hn := Lib.hid hn
    go_enter Try.func24, Try.ntmps24
    go_wp2_with (first | (go_at_call 43; refine (jrFrame_any _ _ _ h).mono ?_; rintro e w' ⟨rfl, rfl⟩) | (go_at_call 44; refine (jrNumber_any _ _).mono ?_; rintro e w' ⟨rfl, rfl⟩) | (go_at_call 57; refine (jrCheck_any _ _ _ _ h (isFrame_in Hf.out) (by have := inR_t.1 Hn.out; omega)).mono ?_; rintro e w' ⟨rfl, rfl⟩))
    go_ret2
    exact ⟨rfl, rfl⟩
end Go.Proofs.Ytmjchkaipbmjkaa
