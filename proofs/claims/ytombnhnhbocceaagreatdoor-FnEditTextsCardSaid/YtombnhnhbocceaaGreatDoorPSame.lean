/- Contracts of the laws' helpers: the same texts, the same spots, a number in a list. -/
import Derived.Test.YtombnhnhbocceaaGreatDoorRecSpot
import Derived.Test.YtombnhnhbocceaaGreatDoorStr
import Derived.Deep.QuietTactic
set_option linter.unusedSimpArgs false
set_option linter.unusedVariables false
namespace Go.Proofs.YtombnhnhbocceaaGreatDoor
open Go.RowKit

def pinB (l : List Int) (n : Int) : Bool := l.any fun x => x == n
theorem pinB_take {l : List Int} {n : Int} {k : Nat} (h : k < l.length) : pinB (l.take (k + 1)) n = (pinB (l.take k) n || gi l k == n) := by
  unfold pinB; rw [take_succ_gi l k h, List.any_append]; simp
theorem pinB_yes {l : List Int} {n : Int} {k : Nat} (h : k < l.length) (hx : (gi l k == n) = true) : pinB l n = true := by
  unfold pinB; rw [List.any_eq_true]; exact ⟨gi l k, by rw [gi_eq h]; exact List.getElem_mem h, hx⟩
theorem pIn_any (v : Value) (l : List Int) (n : Int) (w : World) (h : IntsAt w v l) :
    Calls Tryz.prog 15 #[v, .int .i64 n] w fun e w' => e = .returned (.bool (pinB l n)) ∧ w = w' := by
  obtain ⟨A, c, rfl, hnc, hc63⟩ := h.shape
  go_enter Tryz.func15, Tryz.ntmps15
  go_wp2_with fail
  go_loop [9] (fun i => ∃ k : Nat, k ≤ l.length ∧ i = .int .i64 k ∧ Hid (pinB (l.take k) n = false)) (fun i => l.length - (intOf i).toNat)
  case atStart => exact ⟨0, Nat.zero_le _, rfl, by show pinB (l.take 0) n = false; simp [pinB]⟩
  case round =>
    obtain ⟨k, hk, rfl, hall⟩ := hrel
    by_cases hlt : k < l.length
    · obtain ⟨b, o, rfl, hc⟩ := h.at_ k hlt
      go_wp2
      · have hx : (gi l k == n) = true := by assumption
        go_ret
        exact ⟨ret_bool (pinB_yes hlt hx).symm, rfl⟩
      · have hx : (gi l k == n) = false := by assumption
        go_round
        case rel => exact ⟨k + 1, by omega, by go_num, by show pinB (l.take (k + 1)) n = false; rw [pinB_take hlt, hall.out, hx]; rfl⟩
        case measure => simp [intOf]; omega
    · have hx : Hid (pinB l n = false) := by
        have h1 : l.take k = l := List.take_of_length_le (by omega)
        have := hall.out
        rw [h1] at this
        exact this
      go_wp2
      go_ret
      exact ⟨ret_bool hx.out.symm, rfl⟩
end Go.Proofs.YtombnhnhbocceaaGreatDoor
