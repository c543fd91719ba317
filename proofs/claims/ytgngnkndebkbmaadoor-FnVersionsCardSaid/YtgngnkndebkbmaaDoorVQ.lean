/- Contracts of the drawn laws' helpers on versions: comparisons that hold, and whether a list has a number. -/
import Derived.Test.YtgngnkndebkbmaaDoorStP
import Derived.Test.YtgngnkndebkbmaaDoorDrawVL
import Derived.Test.YtgngnkndebkbmaaDoorQuietB
set_option linter.unusedSimpArgs false
set_option linter.unusedVariables false
namespace Go.Proofs.YtgngnkndebkbmaaDoor
open Go.RowKit Go.Sort

theorem hasI_take_succ (l : List Int) (n : Int) (k : Nat) (h : k < l.length) : hasI (l.take (k + 1)) n = (hasI (l.take k) n || gi l k == n) := by
  unfold hasI
  rw [take_succ_gi l k h, List.any_append]; simp
theorem hasI_yes {l : List Int} {n : Int} {k : Nat} (h : k < l.length) (hx : (gi l k == n) = true) : hasI l n = true := by
  unfold hasI
  rw [List.any_eq_true]
  exact ⟨_, gi_mem h, hx⟩

theorem IntsAt.cell {w : World} {b o n c : Nat} {l : List Int} (h : IntsAt w (.slice (some ⟨b, o, none⟩) n c) l) (k : Nat) (hk : k < l.length) : w.cell? ⟨b, o + k, none⟩ = some (.int .i64 (gi l k)) := by
  obtain ⟨b', o', he, hc⟩ := h.at_ k hk
  injection he with he
  injection he with e1 e2
  subst e1 e2
  exact hc
set_option maxHeartbeats 400000 in
theorem qInts_yes (v1 v2 : Value) (l : List Int) (w : World) (h1 : IntsAt w v1 l) (h2 : IntsAt w v2 l) :
    Calls Tryd.prog 21 #[v1, v2] w fun e w' => e = .returned (.bool true) ∧ Below w.heap.size w w' := by
  obtain ⟨A, c, rfl, hnc, hc63⟩ := h1.shape
  obtain ⟨B, d, rfl, hnd, hd63⟩ := h2.shape
  go_enter Tryd.func21, Tryd.ntmps21
  go_wp2_with fail
  go_loopw [13] (fun i wr => ∃ k : Nat, k ≤ l.length ∧ i = .int .i64 k ∧ Below w.heap.size w wr) (fun i _ => l.length - (intOf i).toNat)
  case atStart => exact ⟨0, Nat.zero_le _, rfl, Below.refl _ _⟩
  case round =>
    obtain ⟨k, hk, rfl, hb⟩ := hrel
    by_cases hlt : k < l.length
    · obtain ⟨b, o, rfl, hc⟩ := IntsAt.at_ (h1.below hb (Nat.le_refl _)) k hlt
      obtain ⟨b', o', rfl, hc'⟩ := IntsAt.at_ (h2.below hb (Nat.le_refl _)) k hlt
      go_wp2
      go_quiet (fail)
      go_wp2
      go_roundw
      case rel => exact ⟨k + 1, by omega, by go_num, hb.drewN _⟩
      case measure => simp [intOf]; omega
    · go_wp2
      go_ret
      exact ⟨rfl, hb⟩
set_option maxHeartbeats 400000 in
theorem qHas_any (v : Value) (l : List Int) (n : Int) (w : World) (h : IntsAt w v l) :
    Calls Tryd.prog 24 #[v, .int .i64 n] w fun e w' => e = .returned (.bool (hasI l n)) ∧ w = w' := by
  obtain ⟨A, c, rfl, hnc, hc63⟩ := h.shape
  go_enter Tryd.func24, Tryd.ntmps24
  go_wp2_with fail
  go_loop [9] (fun i => ∃ k : Nat, k ≤ l.length ∧ i = .int .i64 k ∧ Hid (hasI (l.take k) n = false)) (fun i => l.length - (intOf i).toNat)
  case atStart => exact ⟨0, Nat.zero_le _, rfl, by show hasI (l.take 0) n = false; simp [hasI]⟩
  case round =>
    obtain ⟨k, hk, rfl, hall⟩ := hrel
    by_cases hlt : k < l.length
    · obtain ⟨b, o, rfl, hc⟩ := h.at_ k hlt
      go_wp2
      · have hx : (gi l k == n) = true := by assumption
        go_ret
        exact ⟨ret_bool (hasI_yes hlt hx).symm, rfl⟩
      · have hx : (gi l k == n) = false := by assumption
        go_round
        case rel => exact ⟨k + 1, by omega, by go_num, by show hasI (l.take (k + 1)) n = false; rw [hasI_take_succ l n k hlt, hall.out, hx]; rfl⟩
        case measure => simp [intOf]; omega
    · have hx : Hid (hasI l n = false) := by
        have h1 : l.take k = l := List.take_of_length_le (by omega)
        have := hall.out
        rw [h1] at this
        exact this
      go_wp2
      go_ret
      exact ⟨ret_bool hx.out.symm, rfl⟩
set_option maxHeartbeats 400000 in
theorem qVersions_yes (v1 v2 : Value) (l : List Ver) (w : World) (h1 : VersAt w v1 l) (h2 : VersAt w v2 l) :
    Calls Tryd.prog 22 #[v1, v2] w fun e w' => e = .returned (.bool true) ∧ Below w.heap.size w w' := by
  obtain ⟨A, c, rfl, hnc, hc63⟩ := h1.shape
  obtain ⟨B, d, rfl, hnd, hd63⟩ := h2.shape
  go_enter Tryd.func22, Tryd.ntmps22
  go_wp2_with fail
  go_loopw [13] (fun i wr => ∃ k : Nat, k ≤ l.length ∧ i = .int .i64 k ∧ Below w.heap.size w wr) (fun i _ => l.length - (intOf i).toNat)
  case atStart => exact ⟨0, Nat.zero_le _, rfl, Below.refl _ _⟩
  case round =>
    obtain ⟨k, hk, rfl, hb⟩ := hrel
    by_cases hlt : k < l.length
    · obtain ⟨b, o, rfl, hc0, hc1, hc2⟩ := VersAt.at_ (h1.below hb (Nat.le_refl _)) k hlt
      obtain ⟨b', o', rfl, hd0, hd1, hd2⟩ := VersAt.at_ (h2.below hb (Nat.le_refl _)) k hlt
      go_wp2
      go_quiet (fail)
      go_wp2
      go_roundw
      case rel => exact ⟨k + 1, by omega, by go_num, hb.drewN _⟩
      case measure => simp [intOf]; omega
    · go_wp2
      go_ret
      exact ⟨rfl, hb⟩
end Go.Proofs.YtgngnkndebkbmaaDoor
