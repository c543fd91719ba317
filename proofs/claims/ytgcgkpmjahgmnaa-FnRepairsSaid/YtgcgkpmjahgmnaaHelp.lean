/- Contracts of the small helpers: ranges, copies of lists of integers, their comparison, their marks. -/
import Derived.Test.YtgcgkpmjahgmnaaBase
import Derived.Test.YtgcgkpmjahgmnaaPlain
import Derived.Deep.QuietTactic
import Derived.BigQuiet
import Derived.Outline
set_option linter.unusedSimpArgs false
set_option linter.unusedVariables false
namespace Go.Proofs.Ytgcgkpmjahgmnaa
open Go.RowKit

theorem within_any (n lo hi : Int) (w : World) :
    Calls Try.prog 52 #[.int .i64 n, .int .i64 lo, .int .i64 hi] w fun e w' => e = .returned (.bool (inR n lo hi)) ∧ w = w' := by
  go_enter Try.func52, Try.ntmps52
  go_wp2
  all_goals
    go_ret
    exact ⟨by simp [inR, *] <;> omega, rfl⟩

theorem l1In_any (n lo hi : Int) (w : World) :
    Calls Try.prog 46 #[.int .i64 n, .int .i64 lo, .int .i64 hi] w fun e w' => e = .returned (.bool (inR n lo hi)) ∧ w = w' := by
  go_enter Try.func46, Try.ntmps46
  go_wp2
  all_goals
    go_ret
    exact ⟨by simp [inR, *] <;> omega, rfl⟩

theorem gi_ne_f {a b : List Int} {k : Nat} (h : a.length = b.length) (hk : k < a.length) (hx : (gi a k != gi b k) = true) : (a == b) = false := by
  rw [beq_eq_false_iff_ne]
  rintro rfl
  simp at hx
theorem take_eq_succ {a b : List Int} {k : Nat} (h : a.length = b.length) (hk : k < a.length) (ht : a.take k = b.take k) (hx : (gi a k != gi b k) = false) : a.take (k + 1) = b.take (k + 1) := by
  rw [take_succ_gi a k hk, take_succ_gi b k (by omega), ht]
  simp at hx
  rw [hx]

set_option maxHeartbeats 400000 in
theorem eqIntS_any (v1 v2 : Value) (l1 l2 : List Int) (w : World) (h1 : IntsAt w v1 l1) (h2 : IntsAt w v2 l2) :
    Calls Try.prog 36 #[v1, v2] w fun e w' => e = .returned (.bool (l1 == l2)) ∧ Below w.heap.size w w' := by
  obtain ⟨A, c, rfl, hnc, hc63⟩ := h1.shape
  obtain ⟨B, d, rfl, hnd, hd63⟩ := h2.shape
  by_cases hne : l1.length = l2.length
  · rw [← hne] at h2 hnd ⊢
    have Hne := Lib.hid hne
    clear hne
    go_enter Try.func36, Try.ntmps36
    go_wp2
    go_loopw [5] (fun i wr => ∃ k : Nat, k ≤ l1.length ∧ i = .int .i64 k ∧ Hid (l1.take k = l2.take k) ∧ Below w.heap.size w wr) (fun i _ => l1.length - (intOf i).toNat)
    case atStart => exact ⟨0, Nat.zero_le _, rfl, rfl, Below.refl _ _⟩
    case round =>
      obtain ⟨k, hk, rfl, hall, hb⟩ := hrel
      by_cases hlt : k < l1.length
      · obtain ⟨b, o, rfl, hc⟩ := IntsAt.at_ (h1.below hb (Nat.le_refl _)) k hlt
        obtain ⟨b', o', rfl, hc'⟩ := IntsAt.at_ (h2.below hb (Nat.le_refl _)) k (by have := Hne.out; omega)
        go_wp2
        go_quiet (fail)
        go_wp2
        · have hx : (gi l1 k != gi l2 k) = true := by assumption
          go_ret
          exact ⟨ret_bool (gi_ne_f Hne.out hlt hx).symm, hb.drewN _⟩
        · have hx : (gi l1 k != gi l2 k) = false := by assumption
          go_roundw
          case rel => exact ⟨k + 1, by omega, by go_num, take_eq_succ Hne.out hlt hall.out hx, hb.drewN _⟩
          case measure => simp [intOf]; omega
      · have hx : Hid ((l1 == l2) = true) := by
          have h1 : l1.take k = l1 := List.take_of_length_le (by omega)
          have h2 : l2.take k = l2 := List.take_of_length_le (by have := Hne.out; omega)
          have := hall.out
          rw [h1, h2] at this
          rw [this]; simp [Hid]
        go_wp2
        go_ret
        exact ⟨ret_bool hx.out.symm, hb⟩
  · have hn : ((l1.length : Int) != l2.length) = true := by simp; omega
    have hx : Hid ((l1 == l2) = false) := by
      show (l1 == l2) = false
      rw [beq_eq_false_iff_ne]; rintro rfl; exact hne rfl
    go_enter Try.func36, Try.ntmps36
    go_wp2
    go_ret
    exact ⟨ret_bool hx.out.symm, Below.refl _ _⟩

def FreshInts (w : World) (l : List Int) (e : Ending) (w' : World) : Prop := ∃ v, e = .returned v ∧ OwnInts w' w.heap.size v l ∧ Below w.heap.size w w'

set_option maxHeartbeats 400000 in
theorem toIntS_any (v : Value) (l : List Int) (w : World) (h : IntsAt w v l) (hl : l.length ≤ 1048576) :
    Calls Try.prog 29 #[v] w (FreshInts w l) := by
  obtain ⟨A, c, rfl, hnc, hc63⟩ := h.shape
  have hmk := fun W => run_make_row' (P := Try.prog) 23 3 _ 8 Try.underlying23 info_int rfl .i64 .i64 l.length (by omega) (by omega) W
  go_enter Try.func29, Try.ntmps29
  go_wp2
  go_loopw [4] (fun i wr => ∃ k : Nat, k ≤ l.length ∧ i = .int .i64 k ∧ wr.ownsRow w.heap.size 3 1 (.slice (some ⟨w.heap.size, 0, none⟩) l.length l.length) l.length (copied l k) ∧ Below w.heap.size w wr) (fun i _ => l.length - (intOf i).toNat)
  case atStart =>
    refine ⟨0, Nat.zero_le _, rfl, ?_, (Below.refl _ _).alloc (Nat.le_refl _) _⟩
    have := World.ownsRow_lit (base := w.heap.size) (e := 3) (size := 1) w (madeCells #[.int .i64 0] l.length) l.length (Nat.le_refl _) (by simp [maxLen]; omega) (by simp [size_madeCells])
    rw [toList_madeCells_one, ← copied_zero] at this
    exact this
  case round =>
    obtain ⟨k, hk, rfl, hown, hb⟩ := hrel
    by_cases hlt : k < l.length
    · obtain ⟨b, o, rfl, hc⟩ := IntsAt.at_ (h.below hb (Nat.le_refl _)) k hlt
      have hcell : wr.cell? ⟨w.heap.size, k, none⟩ = some (.int .i64 0) := (hown.cellAt k (by omega)).trans (copied_at l k hlt)
      have hfr : wr.frozen? ⟨w.heap.size, k, none⟩ = false := hown.frozenAt k
      have hst := (hown.stored k (.int .i64 (gi l k))).1
      rw [copied_set l k hlt] at hst
      have Hst := Lib.hid hst
      clear hst
      go_wp2
      go_roundw
      case rel => exact ⟨k + 1, by omega, by go_num, Hst.out, hb.setCell (by exact Nat.le_refl _) _⟩
      case measure => simp [intOf]; omega
    · have hx : k = l.length := by omega
      subst hx
      rw [copied_all] at hown
      go_wp2
      go_ret
      exact ⟨_, rfl, hown, hb⟩

def MarkPost (w : World) (base : Nat) (v : Value) (k0 : Int) (n : Nat) (e : Ending) (w' : World) : Prop :=
  e = .returned (.int .i64 (k0 + n)) ∧ OwnInts w' base v (marks k0 n) ∧ w.grownBy w' v.ownBlock



/-! ### The four helpers of a law, for integers -/
def IntsMarked (w : World) (lo hi : Nat) (v : Value) (k0 : Int) (l : List Int) : Prop := OwnIn w lo hi v (marks k0 l.length)
def IntsMarkPost (w : World) (lo hi : Nat) (v : Value) (k0 : Int) (l : List Int) (e : Ending) (w' : World) : Prop :=
  e = .returned (.int .i64 (k0 + l.length)) ∧ IntsMarked w' lo hi v k0 l ∧ Apart lo hi w w'
theorem IntsMarked.keep {w w' : World} {lo hi : Nat} {v : Value} {k0 : Int} {l : List Int} (h : IntsMarked w lo hi v k0 l) (hk : KeepIn lo hi w w') : IntsMarked w' lo hi v k0 l := OwnIn.keep h hk

end Go.Proofs.Ytgcgkpmjahgmnaa
