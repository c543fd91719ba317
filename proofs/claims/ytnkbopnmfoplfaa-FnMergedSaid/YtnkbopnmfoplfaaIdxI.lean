/- Contracts: slices.Index and slices.Contains at integers. -/
import Derived.Test.YtnkbopnmfoplfaaHelp
import Derived.Deep.QuietTactic
import Derived.BigQuiet
set_option linter.unusedSimpArgs false
set_option linter.unusedVariables false
namespace Go.Proofs.Ytnkbopnmfoplfaa
open Go.RowKit

/-- The first index of an integer, or -1. -/
def fndI (a : Int) : List Int → Nat → Int
  | [], _ => -1
  | x :: l, k => if x = a then (k : Int) else fndI a l (k + 1)
theorem fndI_cases (a : Int) (l : List Int) (k : Nat) : (fndI a l k = -1 ∧ a ∉ l) ∨ (0 ≤ fndI a l k ∧ a ∈ l) := by
  induction l generalizing k with
  | nil => left; exact ⟨rfl, by simp⟩
  | cons x l ih =>
    unfold fndI
    by_cases h : x = a
    · right; rw [if_pos h]; exact ⟨by omega, by simp [h]⟩
    · rw [if_neg h]
      rcases ih (k + 1) with ⟨h1, h2⟩ | ⟨h1, h2⟩
      · left; exact ⟨h1, by simp; exact ⟨fun e => h e.symm, h2⟩⟩
      · right; exact ⟨h1, by simp [h2]⟩
theorem drop_gi (l : List Int) (k : Nat) (h : k < l.length) : l.drop k = gi l k :: l.drop (k + 1) := by
  rw [gi_eq h]; exact List.drop_eq_getElem_cons h
theorem fndI_hit {a : Int} {l : List Int} {k : Nat} (h : k < l.length) (e : gi l k = a) : fndI a (l.drop k) k = (k : Int) := by
  rw [drop_gi l k h]; unfold fndI; rw [if_pos e]
theorem fndI_miss {a : Int} {l : List Int} {k : Nat} (h : k < l.length) (e : gi l k ≠ a) : fndI a (l.drop k) k = fndI a (l.drop (k + 1)) (k + 1) := by
  rw [drop_gi l k h]
  conv => lhs; unfold fndI
  rw [if_neg e]

set_option maxHeartbeats 1600000 in
theorem indexI_any (v : Value) (l : List Int) (a : Int) (w : World) (h : IntsAt w v l) :
    Calls Try.prog 50 #[v, .int .i64 a] w fun e w' => e = .returned (.int .i64 (fndI a l 0)) ∧ Below w.heap.size w w' := by
  obtain ⟨A, c, rfl, hnc, hc63⟩ := h.shape
  go_enter Try.func50, Try.ntmps50
  go_wp2_with fail
  go_loopw [8] (fun i wr => ∃ k : Nat, k ≤ l.length ∧ i = .int .i64 k ∧ Hid (fndI a l 0 = fndI a (l.drop k) k) ∧ Below w.heap.size w wr) (fun i _ => l.length - (intOf i).toNat)
  case atStart => exact ⟨0, Nat.zero_le _, rfl, rfl, Below.refl _ _⟩
  case round =>
    obtain ⟨k, hk, rfl, hf, hb⟩ := hrel
    by_cases hlt : k < l.length
    · obtain ⟨b, o, rfl, hc0⟩ := IntsAt.at_ (h.below hb (Nat.le_refl _)) k hlt
      have hlt0 : (k : Int) < (l.length : Int) := by omega
      have hge0 : (0 : Int) ≤ (k : Int) := by omega
      cases e0 : (a == gi l k)
      case true =>
        have hn : Hid (fndI a l 0 = (k : Int)) := by
          show _ = _
          rw [hf.out, fndI_hit hlt (by simpa using e0 : a = gi l k).symm]
        go_wp2_with fail
        go_ret
        exact ⟨ret_int hn.out.symm, hb⟩
      all_goals
        have hn : Hid (fndI a l 0 = fndI a (l.drop (k + 1)) (k + 1)) := by
          show _ = _
          rw [hf.out, fndI_miss hlt (by intro h9; rw [← h9] at e0; simp at e0)]
        go_wp2_with fail
        go_roundw
        case rel => exact ⟨k + 1, by omega, by go_num, hn, hb⟩
        case measure => simp [intOf]; omega
    · obtain rfl : k = l.length := by omega
      have hn : Hid (fndI a l 0 = -1) := by
        show _ = _
        rw [hf.out, List.drop_length]; rfl
      go_wp2_with fail
      go_ret
      exact ⟨ret_int hn.out.symm, hb⟩
theorem containsI_any (v : Value) (l : List Int) (a : Int) (w : World) (h : IntsAt w v l) :
    Calls Try.prog 32 #[v, .int .i64 a] w fun e w' => e = .returned (.bool (decide (a ∈ l))) ∧ Below w.heap.size w w' := by
  obtain ⟨A, c, rfl, hnc, hc63⟩ := h.shape
  go_enter Try.func32, Try.ntmps32
  go_wp2_with fail
  refine (indexI_any _ l a _ h).mono ?_; rintro e w1 ⟨rfl, b1⟩
  go_wp2_with fail
  go_ret
  refine ⟨ret_bool ?_, b1⟩
  rcases fndI_cases a l 0 with ⟨h1, h2⟩ | ⟨h1, h2⟩
  · rw [h1, decide_eq_false h2]; rfl
  · rw [decide_eq_true h2]; exact decide_eq_true h1
end Go.Proofs.Ytnkbopnmfoplfaa
