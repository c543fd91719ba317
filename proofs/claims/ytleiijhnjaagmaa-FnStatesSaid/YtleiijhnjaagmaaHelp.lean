/- Contracts of the small helpers: ranges, copies of lists of integers, their comparison, their marks. -/
import Derived.Test.YtleiijhnjaagmaaBase
import Derived.Test.YtleiijhnjaagmaaPlain
import Derived.Deep.QuietTactic
import Derived.BigQuiet
import Derived.Outline
set_option linter.unusedSimpArgs false
set_option linter.unusedVariables false
namespace Go.Proofs.Ytleiijhnjaagmaa
open Go.RowKit

theorem within_any (n lo hi : Int) (w : World) :
    Calls Try.prog 48 #[.int .i64 n, .int .i64 lo, .int .i64 hi] w fun e w' => e = .returned (.bool (inR n lo hi)) ∧ w = w' := by
  go_enter Try.func48, Try.ntmps48
  go_wp2
  all_goals
    go_ret
    exact ⟨by simp [inR, *] <;> omega, rfl⟩

theorem l1In_any (n lo hi : Int) (w : World) :
    Calls Try.prog 64 #[.int .i64 n, .int .i64 lo, .int .i64 hi] w fun e w' => e = .returned (.bool (inR n lo hi)) ∧ w = w' := by
  go_enter Try.func64, Try.ntmps64
  go_wp2
  all_goals
    go_ret
    exact ⟨by simp [inR, *] <;> omega, rfl⟩

theorem gi_ne_f {a b : List Int} {k : Nat} (h : a.length = b.length) (hk : k < a.length) (hx : (gi a k != gi b k) = true) : (a == b) = false := by
  rw [beq_eq_false_iff_ne]
  rintro rfl
  simp at hx
theorem take_eq_succ {a b : List Int} {k : Nat} (h : a.length = b.length) (hk : k < a.length) (ht : a.take k = b.take k) (hx : (gi a k != gi b k) = false) : a.take (k + 1) = b.take (k + 1) := by
  rw [take_succ_gi a k hk, take_succ_gi b k (by omega), ht]
  simp at hx
  rw [hx]

set_option maxHeartbeats 400000 in
theorem eqIntS_any (v1 v2 : Value) (l1 l2 : List Int) (w : World) (h1 : IntsAt w v1 l1) (h2 : IntsAt w v2 l2) :
    Calls Try.prog 27 #[v1, v2] w fun e w' => e = .returned (.bool (l1 == l2)) ∧ Below w.heap.size w w' := by
  obtain ⟨A, c, rfl, hnc, hc63⟩ := h1.shape
  obtain ⟨B, d, rfl, hnd, hd63⟩ := h2.shape
  by_cases hne : l1.length = l2.length
  · rw [← hne] at h2 hnd ⊢
    have Hne := Lib.hid hne
    clear hne
    go_enter Try.func27, Try.ntmps27
    go_wp2
    go_loopw [5] (fun i wr => ∃ k : Nat, k ≤ l1.length ∧ i = .int .i64 k ∧ Hid (l1.take k = l2.take k) ∧ Below w.heap.size w wr) (fun i _ => l1.length - (intOf i).toNat)
    case atStart => exact ⟨0, Nat.zero_le _, rfl, rfl, Below.refl _ _⟩
    case round =>
      obtain ⟨k, hk, rfl, hall, hb⟩ := hrel
      by_cases hlt : k < l1.length
      · obtain ⟨b, o, rfl, hc⟩ := IntsAt.at_ (h1.below hb (Nat.le_refl _)) k hlt
        obtain ⟨b', o', rfl, hc'⟩ := IntsAt.at_ (h2.below hb (Nat.le_refl _)) k (by have := Hne.out; omega)
        go_wp2
        go_quiet (fail)
        go_wp2
        · have hx : (gi l1 k != gi l2 k) = true := by assumption
          go_ret
          exact ⟨ret_bool (gi_ne_f Hne.out hlt hx).symm, hb.drewN _⟩
        · have hx : (gi l1 k != gi l2 k) = false := by assumption
          go_roundw
          case rel => exact ⟨k + 1, by omega, by go_num, take_eq_succ Hne.out hlt hall.out hx, hb.drewN _⟩
          case measure => simp [intOf]; omega
      · have hx : Hid ((l1 == l2) = true) := by
          have h1 : l1.take k = l1 := List.take_of_length_le (by omega)
          have h2 : l2.take k = l2 := List.take_of_length_le (by have := Hne.out; omega)
          have := hall.out
          rw [h1, h2] at this
          rw [this]; simp [Hid]
        go_wp2
        go_ret
        exact ⟨ret_bool hx.out.symm, hb⟩
  · have hn : ((l1.length : Int) != l2.length) = true := by simp; omega
    have hx : Hid ((l1 == l2) = false) := by
      show (l1 == l2) = false
      rw [beq_eq_false_iff_ne]; rintro rfl; exact hne rfl
    go_enter Try.func27, Try.ntmps27
    go_wp2
    go_ret
    exact ⟨ret_bool hx.out.symm, Below.refl _ _⟩

def FreshInts (w : World) (l : List Int) (e : Ending) (w' : World) : Prop := ∃ v, e = .returned v ∧ OwnInts w' w.heap.size v l ∧ Below w.heap.size w w'


def MarkPost (w : World) (base : Nat) (v : Value) (k0 : Int) (n : Nat) (e : Ending) (w' : World) : Prop :=
  e = .returned (.int .i64 (k0 + n)) ∧ OwnInts w' base v (marks k0 n) ∧ w.grownBy w' v.ownBlock

set_option maxHeartbeats 400000 in
theorem markIntS_any (v : Value) (l : List Int) (k0 : Int) (base : Nat) (w : World) (h : OwnInts w base v l) (hk0 : 0 ≤ k0) (hk1 : k0 ≤ 4611686018427387904) (hl : l.length ≤ 4611686018427387) :
    Calls Try.prog 28 #[v, .int .i64 k0] w (MarkPost w base v k0 l.length) := by
  obtain ⟨A, c, rfl, hnc, hc63⟩ := h.reads.shape
  go_enter Try.func28, Try.ntmps28
  go_wp2
  go_loopw [1, 5] (fun q i wr => ∃ j : Nat, j ≤ l.length ∧ i = .int .i64 j ∧ q = .int .i64 (k0 + j) ∧ wr.ownsRow base 3 1 (.slice A l.length c) l.length (ints (marked k0 l j)) ∧ w.grownBy wr (Value.slice A l.length c).ownBlock) (fun _ i _ => l.length - (intOf i).toNat)
  case atStart => exact ⟨0, Nat.zero_le _, rfl, by simp, by rw [marked_zero]; exact h, World.grownBy.refl _ _⟩
  case round =>
    obtain ⟨j, hj, rfl, rfl, hown, hg⟩ := hrel
    by_cases hlt : j < l.length
    · obtain ⟨g, cap, hv, _⟩ := hown.form (by omega)
      injection hv with e1 e2 e3
      subst e1 e3
      have hlen : (ints (marked k0 l j)).length = l.length := by rw [ints_len, marked_len k0 l j hj]
      obtain ⟨u, hu⟩ : ∃ u, (ints (marked k0 l j))[j]? = some u := ⟨_, List.getElem?_eq_getElem (by omega)⟩
      have hcell : wr.cell? ⟨g, j, none⟩ = some u := (hown.cellAt j (by omega)).trans hu
      have hfr : wr.frozen? ⟨g, j, none⟩ = false := hown.frozenAt j
      have hst := hown.stored j (.int .i64 (k0 + j))
      rw [marked_set k0 l j hlt] at hst
      have Hst := Lib.hid hst
      clear hst hu hlen
      go_wp2
      go_roundw
      case rel => exact ⟨j + 1, by omega, by go_num, by go_num, Hst.out.1, hg.trans Hst.out.2⟩
      case measure => simp [intOf]; omega
    · have hx : j = l.length := by omega
      subst hx
      rw [marked_all] at hown
      go_wp2
      go_ret
      exact ⟨rfl, by unfold OwnInts; rw [marks_len]; exact hown, hg⟩

set_option maxHeartbeats 400000 in
theorem heldIntS_any (v : Value) (k0 : Int) (n : Nat) (w : World) (h : IntsAt w v (marks k0 n)) (hk0 : 0 ≤ k0) (hk1 : k0 ≤ 4611686018427387904) (hl : n ≤ 4611686018427387) :
    Calls Try.prog 29 #[v, .int .i64 k0] w fun e w' => e = .returned (.int .i64 (k0 + n)) ∧ w = w' := by
  obtain ⟨A, c, rfl, hnc, hc63⟩ := h.shape
  rw [marks_len] at h hnc ⊢
  go_enter Try.func29, Try.ntmps29
  go_wp2
  go_loop [1, 5] (fun q i => ∃ j : Nat, j ≤ n ∧ i = .int .i64 j ∧ q = .int .i64 (k0 + j)) (fun _ i => n - (intOf i).toNat)
  case atStart => exact ⟨0, Nat.zero_le _, rfl, by simp⟩
  case round =>
    obtain ⟨j, hj, rfl, rfl⟩ := hrel
    by_cases hlt : j < n
    · obtain ⟨b, o, rfl, hc⟩ := IntsAt.at_ h j (by rw [marks_len]; exact hlt)
      rw [gi_marks k0 n j hlt] at hc
      go_wp2
      go_round
      case rel => exact ⟨j + 1, by omega, by go_num, by go_num⟩
      case measure => simp [intOf]; omega
    · have hx : j = n := by omega
      subst hx
      go_wp2
      go_ret
      exact ⟨rfl, rfl⟩

/-! ### The four helpers of a law, for integers -/
def IntsMarked (w : World) (lo hi : Nat) (v : Value) (k0 : Int) (l : List Int) : Prop := OwnIn w lo hi v (marks k0 l.length)
def IntsMarkPost (w : World) (lo hi : Nat) (v : Value) (k0 : Int) (l : List Int) (e : Ending) (w' : World) : Prop :=
  e = .returned (.int .i64 (k0 + l.length)) ∧ IntsMarked w' lo hi v k0 l ∧ Apart lo hi w w'
theorem IntsMarked.keep {w w' : World} {lo hi : Nat} {v : Value} {k0 : Int} {l : List Int} (h : IntsMarked w lo hi v k0 l) (hk : KeepIn lo hi w w') : IntsMarked w' lo hi v k0 l := OwnIn.keep h hk
theorem markInts (v : Value) (l : List Int) (k0 : Int) (lo hi : Nat) (w : World) (h : OwnIn w lo hi v l) (hk0 : 0 ≤ k0) (hk1 : k0 ≤ 4611686018427387904) (hl : l.length ≤ 4611686018427387) :
    Calls Try.prog 28 #[v, .int .i64 k0] w (IntsMarkPost w lo hi v k0 l) :=
  (markIntS_any v l k0 lo w h.1 hk0 hk1 hl).mono fun e w' ⟨he, ho, hg⟩ => ⟨he, ⟨ho, h.2⟩, h.apart hg⟩

theorem heldInts (v : Value) (l : List Int) (k0 : Int) (lo hi : Nat) (w : World) (h : IntsMarked w lo hi v k0 l) (hk0 : 0 ≤ k0) (hk1 : k0 ≤ 4611686018427387904) (hl : l.length ≤ 4611686018427387) :
    Calls Try.prog 29 #[v, .int .i64 k0] w fun e w' => e = .returned (.int .i64 (k0 + l.length)) ∧ w = w' :=
  heldIntS_any v k0 l.length w (OwnIn.reads h) hk0 hk1 hl
end Go.Proofs.Ytleiijhnjaagmaa
