/- Contracts of the exported functions on versions: WayTo, StateAt, CommonVersion, ChangedKeys; in the program and in the reference. -/
import Derived.Test.YtgngnkndebkbmaaDoorVState
set_option linter.unusedSimpArgs false
set_option linter.unusedVariables false
namespace Go.Proofs.YtgngnkndebkbmaaDoor
open Go.RowKit

def FreshIntsB (w : World) (r : List Int × Bool) (e : Ending) (w' : World) : Prop :=
  ∃ v, e = .returned (.tuple #[v, .bool r.2]) ∧ OwnInts w' w.heap.size v r.1 ∧ Below w.heap.size w w'
theorem IntsAt.two (w : World) (x y : Int) : IntsAt (w.alloc (.cells #[.int .i64 x, .int .i64 y] 3)) (.slice (some ⟨w.heap.size, 0, none⟩) 2 2) [x, y] :=
  Sl.of_own (base := 0) (e := 3) (World.ownsRow_lit w #[.int .i64 x, .int .i64 y] 2 (Nat.zero_le _) (by simp [maxLen]) rfl)

set_option maxHeartbeats 800000 in
theorem implWayTo (v : Value) (l : List Ver) (i : Int) (w : World) (h : VersAt w v l) :
    Calls Tryd.prog 13 #[v, .int .i64 i] w (FreshIntsB w (rWay l i)) := by
  unfold rWay
  cases hh : hasV l [i]
  case false =>
    go_enter Tryd.func13, Tryd.ntmps13
    go_wp2_with fail
    refine (hasVersions_any _ _ l [i] _ (h.below ((Below.refl w.heap.size w).alloc (Nat.le_refl _) _) (Nat.le_refl _)) (IntsAt.one w i)).mono ?_; rintro e w1 ⟨rfl, d1⟩
    have b1 := ((Below.refl w.heap.size w).alloc (Nat.le_refl _) (.cells #[.int .i64 i] 3)).trans (d1.mono (by simp))
    go_wp2_with fail
    go_ret2
    exact ⟨_, rfl, OwnInts.nil_ _ _, b1⟩
  case true =>
    have hp := hasV1_t hh
    obtain ⟨hv0, i0, i1⟩ := hp
    have hv := Lib.hid hv0
    clear hv0
    go_enter Tryd.func13, Tryd.ntmps13
    go_wp2_with fail
    refine (hasVersions_any _ _ l [i] _ (h.below ((Below.refl w.heap.size w).alloc (Nat.le_refl _) _) (Nat.le_refl _)) (IntsAt.one w i)).mono ?_; rintro e w1 ⟨rfl, d1⟩
    have b1 := ((Below.refl w.heap.size w).alloc (Nat.le_refl _) (.cells #[.int .i64 i] 3)).trans (d1.mono (by simp))
    have h1 := h.below b1 (Nat.le_refl _)
    go_wp2_with fail
    refine (wayTo_any _ l i _ h1 hv i0 i1).mono ?_; rintro e w2 ⟨v2, rfl, o2, b2⟩
    have b12 := b1.next (Nat.le_refl _) b2
    go_wp2_with fail
    go_ret2
    exact ⟨_, rfl, o2.base b1.size, b12⟩

set_option maxHeartbeats 800000 in
theorem implStateAt (v : Value) (l : List Ver) (i : Int) (w : World) (h : VersAt w v l) :
    Calls Tryd.prog 25 #[v, .int .i64 i] w (FreshIntsB w (rState l i)) := by
  unfold rState
  cases hh : hasV l [i]
  case false =>
    go_enter Tryd.func25, Tryd.ntmps25
    go_wp2_with fail
    refine (hasVersions_any _ _ l [i] _ (h.below ((Below.refl w.heap.size w).alloc (Nat.le_refl _) _) (Nat.le_refl _)) (IntsAt.one w i)).mono ?_; rintro e w1 ⟨rfl, d1⟩
    have b1 := ((Below.refl w.heap.size w).alloc (Nat.le_refl _) (.cells #[.int .i64 i] 3)).trans (d1.mono (by simp))
    go_wp2_with fail
    go_ret2
    exact ⟨_, rfl, OwnInts.nil_ _ _, b1⟩
  case true =>
    have hp := hasV1_t hh
    obtain ⟨hv0, i0, i1⟩ := hp
    have hv := Lib.hid hv0
    clear hv0
    go_enter Tryd.func25, Tryd.ntmps25
    go_wp2_with fail
    refine (hasVersions_any _ _ l [i] _ (h.below ((Below.refl w.heap.size w).alloc (Nat.le_refl _) _) (Nat.le_refl _)) (IntsAt.one w i)).mono ?_; rintro e w1 ⟨rfl, d1⟩
    have b1 := ((Below.refl w.heap.size w).alloc (Nat.le_refl _) (.cells #[.int .i64 i] 3)).trans (d1.mono (by simp))
    have h1 := h.below b1 (Nat.le_refl _)
    go_wp2_with fail
    refine (stateAt_any _ l i _ h1 hv i0 i1).mono ?_; rintro e w2 ⟨v2, rfl, o2, b2⟩
    have b12 := b1.next (Nat.le_refl _) b2
    go_wp2_with fail
    go_ret2
    exact ⟨_, rfl, o2.base b1.size, b12⟩

set_option maxHeartbeats 800000 in
theorem implCommonV (v : Value) (l : List Ver) (i k : Int) (w : World) (h : VersAt w v l) :
    Calls Tryd.prog 10 #[v, .int .i64 i, .int .i64 k] w fun e w' => e = .returned (.tuple #[.int .i64 (rCommonV l i k).1, .bool (rCommonV l i k).2]) ∧ Below w.heap.size w w' := by
  unfold rCommonV
  cases hh : hasV l [i, k]
  case false =>
    go_enter Tryd.func10, Tryd.ntmps10
    go_wp2_with fail
    refine (hasVersions_any _ _ l [i, k] _ (h.below ((Below.refl w.heap.size w).alloc (Nat.le_refl _) _) (Nat.le_refl _)) (IntsAt.two w i k)).mono ?_; rintro e w1 ⟨rfl, d1⟩
    have b1 := ((Below.refl w.heap.size w).alloc (Nat.le_refl _) (.cells #[.int .i64 i, .int .i64 k] 3)).trans (d1.mono (by simp))
    go_wp2_with fail
    go_ret2
    exact ⟨rfl, b1⟩
  case true =>
    have hp := hasV2_t hh
    obtain ⟨hv0, i0, i1, k0, k1⟩ := hp
    have hv := Lib.hid hv0
    clear hv0
    go_enter Tryd.func10, Tryd.ntmps10
    go_wp2_with fail
    refine (hasVersions_any _ _ l [i, k] _ (h.below ((Below.refl w.heap.size w).alloc (Nat.le_refl _) _) (Nat.le_refl _)) (IntsAt.two w i k)).mono ?_; rintro e w1 ⟨rfl, d1⟩
    have b1 := ((Below.refl w.heap.size w).alloc (Nat.le_refl _) (.cells #[.int .i64 i, .int .i64 k] 3)).trans (d1.mono (by simp))
    have h1 := h.below b1 (Nat.le_refl _)
    go_wp2_with fail
    refine (commonVersion_any _ l i k _ h1 hv i0 i1 k0 k1).mono ?_; rintro e w2 ⟨rfl, rfl⟩
    go_wp2_with fail
    go_ret2
    exact ⟨rfl, b1⟩

set_option maxHeartbeats 800000 in
theorem specWayTo (v : Value) (l : List Ver) (i : Int) (w : World) (h : VersAt w v l) :
    Calls Tryd.prog 14 #[v, .int .i64 i] w (FreshIntsB w (rWay l i)) := by
  unfold rWay
  cases hh : hasV l [i]
  case false =>
    go_enter Tryd.func14, Tryd.ntmps14
    go_wp2_with fail
    refine (vrHas_any _ l _ _ h).mono ?_; rintro e w1 ⟨rfl, b1⟩
    go_wp2_with fail
    go_ret2
    exact ⟨_, rfl, OwnInts.nil_ _ _, b1⟩
  case true =>
    have hp := hasV1_t hh
    obtain ⟨hv0, i0, i1⟩ := hp
    have hv := Lib.hid hv0
    clear hv0
    go_enter Tryd.func14, Tryd.ntmps14
    go_wp2_with fail
    refine (vrHas_any _ l _ _ h).mono ?_; rintro e w1 ⟨rfl, b1⟩
    have h1 := h.below b1 (Nat.le_refl _)
    go_wp2_with fail
    refine (vrWay_in _ l i _ h1 hv i0 i1).mono ?_; rintro e w2 ⟨v2, rfl, o2, b2⟩
    have b12 := b1.next (Nat.le_refl _) b2
    go_wp2_with fail
    go_ret2
    exact ⟨_, rfl, o2.base b1.size, b12⟩

set_option maxHeartbeats 800000 in
theorem specStateAt (v : Value) (l : List Ver) (i : Int) (w : World) (h : VersAt w v l) :
    Calls Tryd.prog 26 #[v, .int .i64 i] w (FreshIntsB w (rState l i)) := by
  unfold rState
  cases hh : hasV l [i]
  case false =>
    go_enter Tryd.func26, Tryd.ntmps26
    go_wp2_with fail
    refine (vrHas_any _ l _ _ h).mono ?_; rintro e w1 ⟨rfl, b1⟩
    go_wp2_with fail
    go_ret2
    exact ⟨_, rfl, OwnInts.nil_ _ _, b1⟩
  case true =>
    have hp := hasV1_t hh
    obtain ⟨hv0, i0, i1⟩ := hp
    have hv := Lib.hid hv0
    clear hv0
    go_enter Tryd.func26, Tryd.ntmps26
    go_wp2_with fail
    refine (vrHas_any _ l _ _ h).mono ?_; rintro e w1 ⟨rfl, b1⟩
    have h1 := h.below b1 (Nat.le_refl _)
    go_wp2_with fail
    refine (vrState_any _ l i _ h1 hv i0 i1).mono ?_; rintro e w2 ⟨v2, rfl, o2, b2⟩
    have b12 := b1.next (Nat.le_refl _) b2
    go_wp2_with fail
    go_ret2
    exact ⟨_, rfl, o2.base b1.size, b12⟩

set_option maxHeartbeats 800000 in
theorem specCommonV (v : Value) (l : List Ver) (i k : Int) (w : World) (h : VersAt w v l) :
    Calls Tryd.prog 11 #[v, .int .i64 i, .int .i64 k] w fun e w' => e = .returned (.tuple #[.int .i64 (rCommonV l i k).1, .bool (rCommonV l i k).2]) ∧ Below w.heap.size w w' := by
  unfold rCommonV
  cases hh : hasV l [i, k]
  case false =>
    go_enter Tryd.func11, Tryd.ntmps11
    go_wp2_with fail
    refine (vrPair_any _ l _ _ _ h).mono ?_; rintro e w1 ⟨rfl, b1⟩
    go_wp2_with fail
    go_ret2
    exact ⟨rfl, b1⟩
  case true =>
    have hp := hasV2_t hh
    obtain ⟨hv0, i0, i1, k0, k1⟩ := hp
    have hv := Lib.hid hv0
    clear hv0
    go_enter Tryd.func11, Tryd.ntmps11
    go_wp2_with fail
    refine (vrPair_any _ l _ _ _ h).mono ?_; rintro e w1 ⟨rfl, b1⟩
    have h1 := h.below b1 (Nat.le_refl _)
    go_wp2_with fail
    refine (vrCommon_any _ l i k _ h1 hv i0 i1 k0 k1).mono ?_; rintro e w2 ⟨rfl, rfl⟩
    go_wp2_with fail
    go_ret2
    exact ⟨rfl, b1⟩

end Go.Proofs.YtgngnkndebkbmaaDoor
