/- Contracts of the exported functions on versions: WayTo, StateAt, CommonVersion, ChangedKeys; in the program and in the reference. -/
import Derived.Test.YtleiijhnjaagmaaVState
set_option linter.unusedSimpArgs false
set_option linter.unusedVariables false
namespace Go.Proofs.Ytleiijhnjaagmaa
open Go.RowKit

def FreshIntsB (w : World) (r : List Int × Bool) (e : Ending) (w' : World) : Prop :=
  ∃ v, e = .returned (.tuple #[v, .bool r.2]) ∧ OwnInts w' w.heap.size v r.1 ∧ Below w.heap.size w w'
theorem IntsAt.two (w : World) (x y : Int) : IntsAt (w.alloc (.cells #[.int .i64 x, .int .i64 y] 3)) (.slice (some ⟨w.heap.size, 0, none⟩) 2 2) [x, y] :=
  Sl.of_own (base := 0) (e := 3) (World.ownsRow_lit w #[.int .i64 x, .int .i64 y] 2 (Nat.zero_le _) (by simp [maxLen]) rfl)

set_option maxHeartbeats 800000 in
theorem implWayTo (v : Value) (l : List Ver) (i : Int) (w : World) (h : VersAt w v l) :
    Calls Try.prog 31 #[v, .int .i64 i] w (FreshIntsB w (rWay l i)) := by
  unfold rWay
  cases hh : hasV l [i]
  case false =>
    go_enter Try.func31, Try.ntmps31
    go_wp2_with fail
    refine (hasVersions_any _ _ l [i] _ (h.below ((Below.refl w.heap.size w).alloc (Nat.le_refl _) _) (Nat.le_refl _)) (IntsAt.one w i)).mono ?_; rintro e w1 ⟨rfl, d1⟩
    have b1 := ((Below.refl w.heap.size w).alloc (Nat.le_refl _) (.cells #[.int .i64 i] 3)).trans (d1.mono (by simp))
    go_wp2_with fail
    go_ret2
    exact ⟨_, rfl, OwnInts.nil_ _ _, b1⟩
  case true =>
    have hp := hasV1_t hh
    obtain ⟨hv0, i0, i1⟩ := hp
    have hv := Lib.hid hv0
    clear hv0
    go_enter Try.func31, Try.ntmps31
    go_wp2_with fail
    refine (hasVersions_any _ _ l [i] _ (h.below ((Below.refl w.heap.size w).alloc (Nat.le_refl _) _) (Nat.le_refl _)) (IntsAt.one w i)).mono ?_; rintro e w1 ⟨rfl, d1⟩
    have b1 := ((Below.refl w.heap.size w).alloc (Nat.le_refl _) (.cells #[.int .i64 i] 3)).trans (d1.mono (by simp))
    have h1 := h.below b1 (Nat.le_refl _)
    go_wp2_with fail
    refine (wayTo_any _ l i _ h1 hv i0 i1).mono ?_; rintro e w2 ⟨v2, rfl, o2, b2⟩
    have b12 := b1.next (Nat.le_refl _) b2
    go_wp2_with fail
    go_ret2
    exact ⟨_, rfl, o2.base b1.size, b12⟩

set_option maxHeartbeats 800000 in
theorem implStateAt (v : Value) (l : List Ver) (i : Int) (w : World) (h : VersAt w v l) :
    Calls Try.prog 33 #[v, .int .i64 i] w (FreshIntsB w (rState l i)) := by
  unfold rState
  cases hh : hasV l [i]
  case false =>
    go_enter Try.func33, Try.ntmps33
    go_wp2_with fail
    refine (hasVersions_any _ _ l [i] _ (h.below ((Below.refl w.heap.size w).alloc (Nat.le_refl _) _) (Nat.le_refl _)) (IntsAt.one w i)).mono ?_; rintro e w1 ⟨rfl, d1⟩
    have b1 := ((Below.refl w.heap.size w).alloc (Nat.le_refl _) (.cells #[.int .i64 i] 3)).trans (d1.mono (by simp))
    go_wp2_with fail
    go_ret2
    exact ⟨_, rfl, OwnInts.nil_ _ _, b1⟩
  case true =>
    have hp := hasV1_t hh
    obtain ⟨hv0, i0, i1⟩ := hp
    have hv := Lib.hid hv0
    clear hv0
    go_enter Try.func33, Try.ntmps33
    go_wp2_with fail
    refine (hasVersions_any _ _ l [i] _ (h.below ((Below.refl w.heap.size w).alloc (Nat.le_refl _) _) (Nat.le_refl _)) (IntsAt.one w i)).mono ?_; rintro e w1 ⟨rfl, d1⟩
    have b1 := ((Below.refl w.heap.size w).alloc (Nat.le_refl _) (.cells #[.int .i64 i] 3)).trans (d1.mono (by simp))
    have h1 := h.below b1 (Nat.le_refl _)
    go_wp2_with fail
    refine (stateAt_any _ l i _ h1 hv i0 i1).mono ?_; rintro e w2 ⟨v2, rfl, o2, b2⟩
    have b12 := b1.next (Nat.le_refl _) b2
    go_wp2_with fail
    go_ret2
    exact ⟨_, rfl, o2.base b1.size, b12⟩

set_option maxHeartbeats 800000 in
theorem implCommonV (v : Value) (l : List Ver) (i k : Int) (w : World) (h : VersAt w v l) :
    Calls Try.prog 19 #[v, .int .i64 i, .int .i64 k] w fun e w' => e = .returned (.tuple #[.int .i64 (rCommonV l i k).1, .bool (rCommonV l i k).2]) ∧ Below w.heap.size w w' := by
  unfold rCommonV
  cases hh : hasV l [i, k]
  case false =>
    go_enter Try.func19, Try.ntmps19
    go_wp2_with fail
    refine (hasVersions_any _ _ l [i, k] _ (h.below ((Below.refl w.heap.size w).alloc (Nat.le_refl _) _) (Nat.le_refl _)) (IntsAt.two w i k)).mono ?_; rintro e w1 ⟨rfl, d1⟩
    have b1 := ((Below.refl w.heap.size w).alloc (Nat.le_refl _) (.cells #[.int .i64 i, .int .i64 k] 3)).trans (d1.mono (by simp))
    go_wp2_with fail
    go_ret2
    exact ⟨rfl, b1⟩
  case true =>
    have hp := hasV2_t hh
    obtain ⟨hv0, i0, i1, k0, k1⟩ := hp
    have hv := Lib.hid hv0
    clear hv0
    go_enter Try.func19, Try.ntmps19
    go_wp2_with fail
    refine (hasVersions_any _ _ l [i, k] _ (h.below ((Below.refl w.heap.size w).alloc (Nat.le_refl _) _) (Nat.le_refl _)) (IntsAt.two w i k)).mono ?_; rintro e w1 ⟨rfl, d1⟩
    have b1 := ((Below.refl w.heap.size w).alloc (Nat.le_refl _) (.cells #[.int .i64 i, .int .i64 k] 3)).trans (d1.mono (by simp))
    have h1 := h.below b1 (Nat.le_refl _)
    go_wp2_with fail
    refine (commonVersion_any _ l i k _ h1 hv i0 i1 k0 k1).mono ?_; rintro e w2 ⟨rfl, rfl⟩
    go_wp2_with fail
    go_ret2
    exact ⟨rfl, b1⟩

set_option maxHeartbeats 1600000 in
theorem implChangedKeys (v : Value) (l : List Ver) (i k : Int) (w : World) (h : VersAt w v l) :
    Calls Try.prog 35 #[v, .int .i64 i, .int .i64 k] w (FreshIntsB w (rChanged l i k)) := by
  unfold rChanged
  cases hh : hasV l [i, k]
  case false =>
    go_enter Try.func35, Try.ntmps35
    go_wp2_with fail
    refine (hasVersions_any _ _ l [i, k] _ (h.below ((Below.refl w.heap.size w).alloc (Nat.le_refl _) _) (Nat.le_refl _)) (IntsAt.two w i k)).mono ?_; rintro e w1 ⟨rfl, d1⟩
    have b1 := ((Below.refl w.heap.size w).alloc (Nat.le_refl _) (.cells #[.int .i64 i, .int .i64 k] 3)).trans (d1.mono (by simp))
    go_wp2_with fail
    go_ret2
    exact ⟨_, rfl, OwnInts.nil_ _ _, b1⟩
  case true =>
    have hp := hasV2_t hh
    obtain ⟨hv0, i0, i1, k0, k1⟩ := hp
    have hv := Lib.hid hv0
    clear hv0
    go_enter Try.func35, Try.ntmps35
    go_wp2_with fail
    refine (hasVersions_any _ _ l [i, k] _ (h.below ((Below.refl w.heap.size w).alloc (Nat.le_refl _) _) (Nat.le_refl _)) (IntsAt.two w i k)).mono ?_; rintro e w1 ⟨rfl, d1⟩
    have b1 := ((Below.refl w.heap.size w).alloc (Nat.le_refl _) (.cells #[.int .i64 i, .int .i64 k] 3)).trans (d1.mono (by simp))
    have h1 := h.below b1 (Nat.le_refl _)
    go_wp2_with fail
    refine (stateAt_any _ l i _ h1 hv i0 i1).mono ?_; rintro e w2 ⟨x, rfl, ox, b2⟩
    have b12 := b1.next (Nat.le_refl _) b2
    have h2 := h1.below b2 (Nat.le_refl _)
    go_wp2_with fail
    refine (stateAt_any _ l k _ h2 hv k0 k1).mono ?_; rintro e w3 ⟨y, rfl, oy, b3⟩
    have b13 := b12.next (Nat.le_refl _) b3
    have ax := (ox.below b3 (Nat.le_refl _)).reads
    have ay := oy.reads
    have hlx := stateAt_len l i
    have hly := stateAt_len l k
    obtain ⟨X, cx, hxe, hnx, hcx⟩ := ax.shape
    rw [hlx] at hxe hnx
    subst hxe
    obtain ⟨Y, cy, hye, hny, hcy⟩ := ay.shape
    rw [hly] at hye hny
    subst hye
    have Hlx := Lib.hid hlx
    have Hly := Lib.hid hly
    clear hlx hly ox oy h1 h2
    go_wp2_with fail
    go_loopw [10, 25] (fun t s wr => ∃ n : Nat, n ≤ 8 ∧ s = .int .i64 n ∧ OwnInts wr w3.heap.size t (changed (stateAt l i) (stateAt l k) n) ∧ Below w3.heap.size w3 wr) (fun _ s _ => 8 - (intOf s).toNat)
    case atStart => exact ⟨0, by omega, rfl, OwnInts.empty w3 _ (Nat.le_refl _), (Below.refl _ _).alloc (Nat.le_refl _) _⟩
    case round =>
      obtain ⟨n, hn, rfl, ho, hb⟩ := hrel
      by_cases hlt : n < 8
      · obtain ⟨bx, qx, rfl, hcX⟩ := IntsAt.at_ (ax.below hb (Nat.le_refl _)) n (by have := Hlx.out; omega)
        obtain ⟨by_, qy, rfl, hcY⟩ := IntsAt.at_ (ay.below hb (Nat.le_refl _)) n (by have := Hly.out; omega)
        have hcl := changed_len (stateAt l i) (stateAt l k) n
        cases hx : (gi (stateAt l i) n != gi (stateAt l k) n)
        case false =>
          have he : Hid (changed (stateAt l i) (stateAt l k) (n + 1) = changed (stateAt l i) (stateAt l k) n) := by
            show _ = _
            have hx2 : gi (stateAt l i) n = gi (stateAt l k) n := by simpa using hx
            conv => lhs; unfold changed
            rw [if_pos hx2, List.append_nil]
          go_wp2_with fail
          go_quiet (fail)
          go_wp2_with fail
          go_roundw
          case rel => exact ⟨n + 1, by omega, by go_num, he.out ▸ ho.drewN _, hb.drewN _⟩
          case measure => simp [intOf]; omega
        case true =>
          have he : Hid (changed (stateAt l i) (stateAt l k) (n + 1) = changed (stateAt l i) (stateAt l k) n ++ [(n : Int)]) := by
            show _ = _
            have hx2 : gi (stateAt l i) n ≠ gi (stateAt l k) n := by simpa using hx
            conv => lhs; unfold changed
            rw [if_neg hx2]
          go_wp2_with fail
          go_quiet (fail)
          go_wp2_with (at_builtin; refine wp_app_int _ rfl _ _ rfl w3.heap.size _ (changed (stateAt l i) (stateAt l k) n) rfl (OwnInts.drewN ho _) (n : Int) _ rfl rfl (by omega) (by exact hb.size) ?_; intro v1 w4 ho1 hg1)
          go_roundw
          case rel => exact ⟨n + 1, by omega, by go_num, he.out ▸ ho1, (hb.drewN _).trans hg1.below⟩
          case measure => simp [intOf]; omega
      · obtain rfl : n = 8 := by omega
        go_wp2_with fail
        go_ret2
        exact ⟨_, rfl, ho.base b13.size, b13.next (Nat.le_refl _) hb⟩

set_option maxHeartbeats 800000 in
theorem specWayTo (v : Value) (l : List Ver) (i : Int) (w : World) (h : VersAt w v l) :
    Calls Try.prog 30 #[v, .int .i64 i] w (FreshIntsB w (rWay l i)) := by
  unfold rWay
  cases hh : hasV l [i]
  case false =>
    go_enter Try.func30, Try.ntmps30
    go_wp2_with fail
    refine (vrHas_any _ l _ _ h).mono ?_; rintro e w1 ⟨rfl, b1⟩
    go_wp2_with fail
    go_ret2
    exact ⟨_, rfl, OwnInts.nil_ _ _, b1⟩
  case true =>
    have hp := hasV1_t hh
    obtain ⟨hv0, i0, i1⟩ := hp
    have hv := Lib.hid hv0
    clear hv0
    go_enter Try.func30, Try.ntmps30
    go_wp2_with fail
    refine (vrHas_any _ l _ _ h).mono ?_; rintro e w1 ⟨rfl, b1⟩
    have h1 := h.below b1 (Nat.le_refl _)
    go_wp2_with fail
    refine (vrWay_in _ l i _ h1 hv i0 i1).mono ?_; rintro e w2 ⟨v2, rfl, o2, b2⟩
    have b12 := b1.next (Nat.le_refl _) b2
    go_wp2_with fail
    go_ret2
    exact ⟨_, rfl, o2.base b1.size, b12⟩

set_option maxHeartbeats 800000 in
theorem specStateAt (v : Value) (l : List Ver) (i : Int) (w : World) (h : VersAt w v l) :
    Calls Try.prog 32 #[v, .int .i64 i] w (FreshIntsB w (rState l i)) := by
  unfold rState
  cases hh : hasV l [i]
  case false =>
    go_enter Try.func32, Try.ntmps32
    go_wp2_with fail
    refine (vrHas_any _ l _ _ h).mono ?_; rintro e w1 ⟨rfl, b1⟩
    go_wp2_with fail
    go_ret2
    exact ⟨_, rfl, OwnInts.nil_ _ _, b1⟩
  case true =>
    have hp := hasV1_t hh
    obtain ⟨hv0, i0, i1⟩ := hp
    have hv := Lib.hid hv0
    clear hv0
    go_enter Try.func32, Try.ntmps32
    go_wp2_with fail
    refine (vrHas_any _ l _ _ h).mono ?_; rintro e w1 ⟨rfl, b1⟩
    have h1 := h.below b1 (Nat.le_refl _)
    go_wp2_with fail
    refine (vrState_any _ l i _ h1 hv i0 i1).mono ?_; rintro e w2 ⟨v2, rfl, o2, b2⟩
    have b12 := b1.next (Nat.le_refl _) b2
    go_wp2_with fail
    go_ret2
    exact ⟨_, rfl, o2.base b1.size, b12⟩

set_option maxHeartbeats 800000 in
theorem specCommonV (v : Value) (l : List Ver) (i k : Int) (w : World) (h : VersAt w v l) :
    Calls Try.prog 18 #[v, .int .i64 i, .int .i64 k] w fun e w' => e = .returned (.tuple #[.int .i64 (rCommonV l i k).1, .bool (rCommonV l i k).2]) ∧ Below w.heap.size w w' := by
  unfold rCommonV
  cases hh : hasV l [i, k]
  case false =>
    go_enter Try.func18, Try.ntmps18
    go_wp2_with fail
    refine (vrPair_any _ l _ _ _ h).mono ?_; rintro e w1 ⟨rfl, b1⟩
    go_wp2_with fail
    go_ret2
    exact ⟨rfl, b1⟩
  case true =>
    have hp := hasV2_t hh
    obtain ⟨hv0, i0, i1, k0, k1⟩ := hp
    have hv := Lib.hid hv0
    clear hv0
    go_enter Try.func18, Try.ntmps18
    go_wp2_with fail
    refine (vrPair_any _ l _ _ _ h).mono ?_; rintro e w1 ⟨rfl, b1⟩
    have h1 := h.below b1 (Nat.le_refl _)
    go_wp2_with fail
    refine (vrCommon_any _ l i k _ h1 hv i0 i1 k0 k1).mono ?_; rintro e w2 ⟨rfl, rfl⟩
    go_wp2_with fail
    go_ret2
    exact ⟨rfl, b1⟩

set_option maxHeartbeats 1600000 in
theorem specChangedKeys (v : Value) (l : List Ver) (i k : Int) (w : World) (h : VersAt w v l) :
    Calls Try.prog 34 #[v, .int .i64 i, .int .i64 k] w (FreshIntsB w (rChanged l i k)) := by
  unfold rChanged
  cases hh : hasV l [i, k]
  case false =>
    go_enter Try.func34, Try.ntmps34
    go_wp2_with fail
    refine (vrPair_any _ l _ _ _ h).mono ?_; rintro e w1 ⟨rfl, b1⟩
    go_wp2_with fail
    go_ret2
    exact ⟨_, rfl, OwnInts.nil_ _ _, b1⟩
  case true =>
    have hp := hasV2_t hh
    obtain ⟨hv0, i0, i1, k0, k1⟩ := hp
    have hv := Lib.hid hv0
    clear hv0
    go_enter Try.func34, Try.ntmps34
    go_wp2_with fail
    refine (vrPair_any _ l _ _ _ h).mono ?_; rintro e w1 ⟨rfl, b1⟩
    have h1 := h.below b1 (Nat.le_refl _)
    go_wp2_with fail
    refine (vrState_any _ l i _ h1 hv i0 i1).mono ?_; rintro e w2 ⟨x, rfl, ox, b2⟩
    have b12 := b1.next (Nat.le_refl _) b2
    have h2 := h1.below b2 (Nat.le_refl _)
    go_wp2_with fail
    refine (vrState_any _ l k _ h2 hv k0 k1).mono ?_; rintro e w3 ⟨y, rfl, oy, b3⟩
    have b13 := b12.next (Nat.le_refl _) b3
    have ax := (ox.below b3 (Nat.le_refl _)).reads
    have ay := oy.reads
    have hlx := stateAt_len l i
    have hly := stateAt_len l k
    obtain ⟨X, cx, hxe, hnx, hcx⟩ := ax.shape
    rw [hlx] at hxe hnx
    subst hxe
    obtain ⟨Y, cy, hye, hny, hcy⟩ := ay.shape
    rw [hly] at hye hny
    subst hye
    have Hlx := Lib.hid hlx
    have Hly := Lib.hid hly
    clear hlx hly ox oy h1 h2
    go_wp2_with fail
    go_loopw [10, 26] (fun t s wr => ∃ n : Nat, n ≤ 8 ∧ s = .int .i64 n ∧ OwnInts wr w3.heap.size t (changed (stateAt l i) (stateAt l k) n) ∧ Below w3.heap.size w3 wr) (fun _ s _ => 8 - (intOf s).toNat)
    case atStart => exact ⟨0, by omega, rfl, OwnInts.nil_ w3 _, Below.refl _ _⟩
    case round =>
      obtain ⟨n, hn, rfl, ho, hb⟩ := hrel
      by_cases hlt : n < 8
      · obtain ⟨bx, qx, rfl, hcX⟩ := IntsAt.at_ (ax.below hb (Nat.le_refl _)) n (by have := Hlx.out; omega)
        obtain ⟨by_, qy, rfl, hcY⟩ := IntsAt.at_ (ay.below hb (Nat.le_refl _)) n (by have := Hly.out; omega)
        have hcl := changed_len (stateAt l i) (stateAt l k) n
        cases hx : (gi (stateAt l i) n != gi (stateAt l k) n)
        case false =>
          have he : Hid (changed (stateAt l i) (stateAt l k) (n + 1) = changed (stateAt l i) (stateAt l k) n) := by
            show _ = _
            have hx2 : gi (stateAt l i) n = gi (stateAt l k) n := by simpa using hx
            conv => lhs; unfold changed
            rw [if_pos hx2, List.append_nil]
          go_wp2_with fail
          go_roundw
          case rel => exact ⟨n + 1, by omega, by go_num, he.out ▸ ho, hb⟩
          case measure => simp [intOf]; omega
        case true =>
          have he : Hid (changed (stateAt l i) (stateAt l k) (n + 1) = changed (stateAt l i) (stateAt l k) n ++ [(n : Int)]) := by
            show _ = _
            have hx2 : gi (stateAt l i) n ≠ gi (stateAt l k) n := by simpa using hx
            conv => lhs; unfold changed
            rw [if_neg hx2]
          go_wp2_with (at_builtin; refine wp_app_int _ rfl _ _ rfl w3.heap.size _ (changed (stateAt l i) (stateAt l k) n) rfl ho (n : Int) _ rfl rfl (by omega) (by exact hb.size) ?_; intro v1 w4 ho1 hg1)
          go_roundw
          case rel => exact ⟨n + 1, by omega, by go_num, he.out ▸ ho1, hb.trans hg1.below⟩
          case measure => simp [intOf]; omega
      · obtain rfl : n = 8 := by omega
        go_wp2_with fail
        go_ret2
        exact ⟨_, rfl, ho.base b13.size, b13.next (Nat.le_refl _) hb⟩

end Go.Proofs.Ytleiijhnjaagmaa
