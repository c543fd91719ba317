/- Contracts of the journal's functions that make integers: copies, cuts, a flipped bit, a frame's bytes. -/
import Derived.Test.YtmjchkaipbmjkaaJrnl
set_option linter.unusedSimpArgs false
set_option linter.unusedVariables false
namespace Go.Proofs.Ytmjchkaipbmjkaa
open Go.RowKit

def FreshIntsB (w : World) (r : List Int × Bool) (e : Ending) (w' : World) : Prop :=
  ∃ v, e = .returned (.tuple #[v, .bool r.2]) ∧ OwnInts w' w.heap.size v r.1 ∧ Below w.heap.size w w'

theorem l1Least_le (a b : Int) (w : World) (h : a ≤ b) :
    Calls Try.prog 55 #[.int .i64 a, .int .i64 b] w fun e w' => e = .returned (.int .i64 a) ∧ w = w' := by
  go_enter Try.func55, Try.ntmps55
  go_wp2
  all_goals
    go_ret
    exact ⟨ret_int (by omega), rfl⟩
theorem l1Least_ge (a b : Int) (w : World) (h : b ≤ a) :
    Calls Try.prog 55 #[.int .i64 a, .int .i64 b] w fun e w' => e = .returned (.int .i64 b) ∧ w = w' := by
  go_enter Try.func55, Try.ntmps55
  go_wp2
  all_goals
    go_ret
    exact ⟨ret_int (by omega), rfl⟩

set_option maxHeartbeats 400000 in
theorem frameBytes_any (v : Value) (l : List Int) (n : Int) (w : World) (h : IntsAt w v l) (hin : allIn l 0 255 = true) (hl : l.length ≤ 1048576) (hn : 0 ≤ n ∧ n ≤ 1048576) :
    Calls Try.prog 38 #[v, .int .i64 n] w (FreshInts w (frameB l n)) := by
  obtain ⟨A, c, rfl, hnc, hc63⟩ := h.shape
  have Hin := Lib.hid hin
  clear hin
  have ho := OwnInts.lit1 w w.heap.size (l.length : Int) (Nat.le_refl _)
  have hb0 : Below w.heap.size w (w.alloc (.cells #[.int .i64 (l.length : Int)] 3)) := (Below.refl w.heap.size _).alloc (Nat.le_refl _) _
  have h1 := h.below hb0 (Nat.le_refl _)
  go_enter Try.func38, Try.ntmps38
  go_wp2_with (at_builtin; refine wp_app_ints _ rfl _ _ rfl w.heap.size _ [(l.length : Int)] rfl ho _ l rfl h1 (by simp; omega) (by simp) ?_; intro v1 w1 ho1 hg1)
  have b1 := hb0.trans hg1.below
  have h2 := h.below b1 (Nat.le_refl _)
  refine (frameCheck_any _ l n _ h2 Hin.out hn).mono ?_; rintro e _ ⟨rfl, rfl⟩
  go_wp2_with (at_builtin; refine wp_app_int _ rfl _ _ rfl w.heap.size _ ([(l.length : Int)] ++ l) rfl ho1 _ _ rfl rfl (by simp; omega) b1.size ?_; intro v2 w2 ho2 hg2)
  go_ret
  exact ⟨_, rfl, ho2, b1.trans hg2.below⟩

set_option maxHeartbeats 400000 in
theorem jrOf_any (v : Value) (l : List Int) (n : Int) (w : World) (h : IntsAt w v l) (hin : allIn l 0 255 = true) (hl : l.length ≤ 1048576) (hn : 0 ≤ n ∧ n ≤ 1048576) :
    Calls Try.prog 45 #[v, .int .i64 n] w (FreshInts w (frameB l n)) := by
  obtain ⟨A, c, rfl, hnc, hc63⟩ := h.shape
  have Hin := Lib.hid hin
  clear hin
  have ho := OwnInts.lit1 w w.heap.size (l.length : Int) (Nat.le_refl _)
  have hb0 : Below w.heap.size w (w.alloc (.cells #[.int .i64 (l.length : Int)] 3)) := (Below.refl w.heap.size _).alloc (Nat.le_refl _) _
  have h1 := h.below hb0 (Nat.le_refl _)
  go_enter Try.func45, Try.ntmps45
  go_wp2_with (at_builtin; refine wp_app_ints _ rfl _ _ rfl w.heap.size _ [(l.length : Int)] rfl ho _ l rfl h1 (by simp; omega) (by simp) ?_; intro v1 w1 ho1 hg1)
  have b1 := hb0.trans hg1.below
  have h2 := h.below b1 (Nat.le_refl _)
  refine (jrCheck_any _ l n _ h2 Hin.out hn).mono ?_; rintro e _ ⟨rfl, rfl⟩
  go_wp2_with (at_builtin; refine wp_app_int _ rfl _ _ rfl w.heap.size _ ([(l.length : Int)] ++ l) rfl ho1 _ _ rfl rfl (by simp; omega) b1.size ?_; intro v2 w2 ho2 hg2)
  go_ret
  exact ⟨_, rfl, ho2, b1.trans hg2.below⟩

theorem areBytes240 (v : Value) (l : List Int) (w : World) (h : IntsAt w v l) :
    Calls Try.prog 40 #[v, .int .i64 240] w fun e w' => e = .returned (.bool (isBytes l)) ∧ w = w' := by
  rw [← isBytes_eq]
  exact areBytes_any v l 240 w h
theorem implCut (v : Value) (l : List Int) (n : Int) (w : World) (h : IntsAt w v l) :
    Calls Try.prog 20 #[v, .int .i64 n] w (FreshIntsB w (rCut l n)) := by
  obtain ⟨A, c, rfl, hnc, hc63⟩ := h.shape
  unfold rCut
  cases hf : isBytes l <;> cases hn : inR n 0 240
  case true.true =>
    obtain ⟨hx0, hx1⟩ := inR_t.1 hn
    have hlen := isBytes_len hf
    by_cases hle : n ≤ l.length
    · obtain ⟨m, rfl⟩ := Int.eq_ofNat_of_zero_le hx0
      have hm : m ≤ l.length := by omega
      have ht := h.take m hm
      have hmin : (m : Int) ≤ (l.length : Int) := by omega
      go_enter Try.func20, Try.ntmps20
      go_wp2_with (first | (go_at_call 40; refine (areBytes240 _ _ _ h).mono ?_; rintro e w' ⟨rfl, rfl⟩) | (go_at_call 42; refine (within_any _ _ _ _).mono ?_; rintro e w' ⟨rfl, rfl⟩))
      refine (copyInts_any _ _ _ ht (by simp; omega)).mono ?_; rintro e w1 ⟨v1, rfl, o1, b1⟩
      go_wp2_with fail
      go_ret2
      exact ⟨_, rfl, o1, b1⟩
    · have ht := h.take l.length (Nat.le_refl _)
      have hx : Hid (List.take n.toNat l = List.take l.length l) := by
        show List.take n.toNat l = List.take l.length l
        rw [List.take_of_length_le (Nat.le_refl _), List.take_of_length_le (by omega)]
      go_enter Try.func20, Try.ntmps20
      go_wp2_with (first | (go_at_call 40; refine (areBytes240 _ _ _ h).mono ?_; rintro e w' ⟨rfl, rfl⟩) | (go_at_call 42; refine (within_any _ _ _ _).mono ?_; rintro e w' ⟨rfl, rfl⟩))
      refine (copyInts_any _ _ _ ht (by simp; omega)).mono ?_; rintro e w1 ⟨v1, rfl, o1, b1⟩
      go_wp2_with fail
      go_ret2
      exact ⟨_, rfl, hx.out ▸ o1, b1⟩
  all_goals
    go_enter Try.func20, Try.ntmps20
    go_wp2_with (first | (go_at_call 40; refine (areBytes240 _ _ _ h).mono ?_; rintro e w' ⟨rfl, rfl⟩) | (go_at_call 42; refine (within_any _ _ _ _).mono ?_; rintro e w' ⟨rfl, rfl⟩))
    go_ret2
    exact ⟨_, rfl, OwnInts.nil_ _ _, Below.refl _ _⟩
theorem specCut (v : Value) (l : List Int) (n : Int) (w : World) (h : IntsAt w v l) :
    Calls Try.prog 21 #[v, .int .i64 n] w (FreshIntsB w (rCut l n)) := by
  obtain ⟨A, c, rfl, hnc, hc63⟩ := h.shape
  unfold rCut
  cases hf : isBytes l <;> cases hn : inR n 0 240
  case true.true =>
    obtain ⟨hx0, hx1⟩ := inR_t.1 hn
    have hlen := isBytes_len hf
    by_cases hle : n ≤ l.length
    · obtain ⟨m, rfl⟩ := Int.eq_ofNat_of_zero_le hx0
      have hm : m ≤ l.length := by omega
      have ht := h.take m hm
      have hmin : (m : Int) ≤ (l.length : Int) := by omega
      go_enter Try.func21, Try.ntmps21
      go_wp2_with (first | (go_at_call 49; refine (jrBytes_any _ _ _ h).mono ?_; rintro e w' ⟨rfl, rfl⟩) | (go_at_call 54; refine (jrCount_any _ _).mono ?_; rintro e w' ⟨rfl, rfl⟩) | (go_at_call 55; refine (l1Least_le _ _ _ (by omega)).mono ?_; rintro e w' ⟨rfl, rfl⟩))
      refine (l1Own_any _ _ _ ht (by simp; omega)).mono ?_; rintro e w1 ⟨v1, rfl, o1, b1⟩
      go_wp2_with fail
      go_ret2
      exact ⟨_, rfl, o1, b1⟩
    · have ht := h.take l.length (Nat.le_refl _)
      have hx : Hid (List.take n.toNat l = List.take l.length l) := by
        show List.take n.toNat l = List.take l.length l
        rw [List.take_of_length_le (Nat.le_refl _), List.take_of_length_le (by omega)]
      go_enter Try.func21, Try.ntmps21
      go_wp2_with (first | (go_at_call 49; refine (jrBytes_any _ _ _ h).mono ?_; rintro e w' ⟨rfl, rfl⟩) | (go_at_call 54; refine (jrCount_any _ _).mono ?_; rintro e w' ⟨rfl, rfl⟩) | (go_at_call 55; refine (l1Least_ge _ _ _ (by omega)).mono ?_; rintro e w' ⟨rfl, rfl⟩))
      refine (l1Own_any _ _ _ ht (by simp; omega)).mono ?_; rintro e w1 ⟨v1, rfl, o1, b1⟩
      go_wp2_with fail
      go_ret2
      exact ⟨_, rfl, hx.out ▸ o1, b1⟩
  all_goals
    go_enter Try.func21, Try.ntmps21
    go_wp2_with (first | (go_at_call 49; refine (jrBytes_any _ _ _ h).mono ?_; rintro e w' ⟨rfl, rfl⟩) | (go_at_call 54; refine (jrCount_any _ _).mono ?_; rintro e w' ⟨rfl, rfl⟩) | (go_at_call 55; refine (l1Least_le _ _ _ (by omega)).mono ?_; rintro e w' ⟨rfl, rfl⟩))
    go_ret2
    exact ⟨_, rfl, OwnInts.nil_ _ _, Below.refl _ _⟩

theorem implFrameBytes (v : Value) (l : List Int) (n : Int) (w : World) (h : IntsAt w v l) :
    Calls Try.prog 12 #[v, .int .i64 n] w (FreshIntsB w (rFrameB l n)) := by
  unfold rFrameB
  cases hf : isFrame l <;> cases hn : inR n 0 19
  case true.true =>
    have Hf := Lib.hid hf
    have Hn := Lib.hid hn
    go_enter Try.func12, Try.ntmps12
    go_wp2_with (first | (go_at_call 25; refine (implIsFrame_any _ _ _ h).mono ?_; rintro e w' ⟨rfl, rfl⟩) | (go_at_call 42; refine (within_any _ _ _ _).mono ?_; rintro e w' ⟨rfl, rfl⟩))
    refine (frameBytes_any _ l n _ h (isFrame_in Hf.out) (by have := isFrame_len Hf.out; omega) (by have := inR_t.1 Hn.out; omega)).mono ?_; rintro e w1 ⟨v1, rfl, o1, b1⟩
    go_wp2_with fail
    go_ret2
    exact ⟨_, rfl, o1, b1⟩
  all_goals
    go_enter Try.func12, Try.ntmps12
    go_wp2_with (first | (go_at_call 25; refine (implIsFrame_any _ _ _ h).mono ?_; rintro e w' ⟨rfl, rfl⟩) | (go_at_call 42; refine (within_any _ _ _ _).mono ?_; rintro e w' ⟨rfl, rfl⟩))
    go_ret2
    exact ⟨_, rfl, OwnInts.nil_ _ _, Below.refl _ _⟩

theorem specFrameBytes (v : Value) (l : List Int) (n : Int) (w : World) (h : IntsAt w v l) :
    Calls Try.prog 13 #[v, .int .i64 n] w (FreshIntsB w (rFrameB l n)) := by
  unfold rFrameB
  cases hf : isFrame l <;> cases hn : inR n 0 19
  case true.true =>
    have Hf := Lib.hid hf
    have Hn := Lib.hid hn
    go_enter Try.func13, Try.ntmps13
    go_wp2_with (first | (go_at_call 43; refine (jrFrame_any _ _ _ h).mono ?_; rintro e w' ⟨rfl, rfl⟩) | (go_at_call 44; refine (jrNumber_any _ _).mono ?_; rintro e w' ⟨rfl, rfl⟩))
    refine (jrOf_any _ l n _ h (isFrame_in Hf.out) (by have := isFrame_len Hf.out; omega) (by have := inR_t.1 Hn.out; omega)).mono ?_; rintro e w1 ⟨v1, rfl, o1, b1⟩
    go_wp2_with fail
    go_ret2
    exact ⟨_, rfl, o1, b1⟩
  all_goals
    go_enter Try.func13, Try.ntmps13
    go_wp2_with (first | (go_at_call 43; refine (jrFrame_any _ _ _ h).mono ?_; rintro e w' ⟨rfl, rfl⟩) | (go_at_call 44; refine (jrNumber_any _ _).mono ?_; rintro e w' ⟨rfl, rfl⟩))
    go_ret2
    exact ⟨_, rfl, OwnInts.nil_ _ _, Below.refl _ _⟩
end Go.Proofs.Ytmjchkaipbmjkaa
