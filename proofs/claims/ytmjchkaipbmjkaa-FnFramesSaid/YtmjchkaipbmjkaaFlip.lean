/- Contracts: FlipBit. -/
import Derived.Test.YtmjchkaipbmjkaaAppend
set_option linter.unusedSimpArgs false
set_option linter.unusedVariables false
namespace Go.Proofs.Ytmjchkaipbmjkaa
open Go.RowKit

/-- What FlipBit returns. -/
def rFlip (b : List Int) (p q : Int) : List Int × Bool :=
  if isBytes b && inR p 0 ((b.length : Int) - 1) && inR q 0 7 then (b.set p.toNat (bits .xor .i64 (gi b p.toNat) (wrap64 (2 ^ q.toNat))), true) else ([], false)
theorem set_ints (l : List Int) (k : Nat) (y : Int) : (ints l).set k (.int .i64 y) = ints (l.set k y) := by unfold ints; rw [List.map_set]
theorem rFlip_len (b : List Int) (p q : Int) : (rFlip b p q).1.length ≤ 240 := by
  unfold rFlip
  split
  · rename_i h
    rw [Bool.and_eq_true, Bool.and_eq_true] at h
    have := isBytes_len h.1.1
    simp only [List.length_set]; omega
  · simp

set_option maxHeartbeats 1600000 in
theorem implFlip (v : Value) (l : List Int) (p q : Int) (w : World) (h : IntsAt w v l) :
    Calls Try.prog 26 #[v, .int .i64 p, .int .i64 q] w (FreshIntsB w (rFlip l p q)) := by
  obtain ⟨A, c, rfl, hnc, hc63⟩ := h.shape
  cases hb : isBytes l
  case true =>
    have hlen := isBytes_len hb
    cases hp : inR p 0 ((l.length : Int) - 1)
    case true =>
      obtain ⟨hp0, hp1⟩ := inR_t.1 hp
      cases hq : inR q 0 7
      case true =>
        obtain ⟨hq0, hq1⟩ := inR_t.1 hq
        obtain ⟨k, rfl⟩ := Int.eq_ofNat_of_zero_le hp0
        obtain ⟨t, rfl⟩ := Int.eq_ofNat_of_zero_le hq0
        have Hr : Hid (rFlip l k t = (l.set k (bits .xor .i64 (gi l k) (wrap64 (2 ^ t))), true)) := by
          show rFlip l k t = _
          unfold rFlip; rw [hb, hp, hq]; rfl
        go_enter Try.func26, Try.ntmps26
        go_wp2_with (first | (go_at_call 40; refine (areBytes240 _ _ _ h).mono ?_; rintro e w' ⟨rfl, rfl⟩) | (go_at_call 42; refine (within_any _ _ _ _).mono ?_; rintro e w' ⟨rfl, rfl⟩))
        refine (copyInts_any _ l _ h (by omega)).mono ?_; rintro e w1 ⟨v1, rfl, o1, b1⟩
        obtain ⟨A1, c1, rfl, _, _⟩ := o1.reads.shape
        obtain ⟨g, cap, hv, hbg, _⟩ := World.ownsRow.form o1 (by omega)
        injection hv with e1 e2 e3
        subst e1 e3
        have hk : k < l.length := by omega
        have hcell : w1.cell? ⟨g, k, none⟩ = some (.int .i64 (gi l k)) := by
          have := IntsAt.lit o1.reads k hk
          simpa using this
        have hfr : w1.frozen? ⟨g, k, none⟩ = false := World.ownsRow.frozenAt o1 k
        have hst : Hid (OwnInts (w1.setCell ⟨g, k, none⟩ (.int .i64 (bits .xor .i64 (gi l k) (wrap64 (2 ^ t))))) w.heap.size (.slice (some ⟨g, 0, none⟩) l.length c1) (l.set k (bits .xor .i64 (gi l k) (wrap64 (2 ^ t))))) := by
          have := (World.ownsRow.stored o1 k (.int .i64 (bits .xor .i64 (gi l k) (wrap64 (2 ^ t))))).1
          unfold OwnInts
          rw [List.length_set, ← set_ints]
          exact this
        have hbb : Hid (Below w.heap.size w (w1.setCell ⟨g, k, none⟩ (.int .i64 (bits .xor .i64 (gi l k) (wrap64 (2 ^ t)))))) := b1.setCell (by exact hbg) _
        go_wp2_with fail
        go_region
        go_wp2_with fail
        go_ret2
        exact FreshIntsB.mk Hr.out (OwnInts.below hst.out (Below.refl _ _).drew (Nat.le_refl _)) hbb.out.drew
      case false =>
        have Hr : Hid (rFlip l p q = ([], false)) := by show rFlip l p q = _; unfold rFlip; rw [hb, hp, hq]; rfl
        go_enter Try.func26, Try.ntmps26
        go_wp2_with (first | (go_at_call 40; refine (areBytes240 _ _ _ h).mono ?_; rintro e w' ⟨rfl, rfl⟩) | (go_at_call 42; refine (within_any _ _ _ _).mono ?_; rintro e w' ⟨rfl, rfl⟩))
        go_ret2
        exact FreshIntsB.mk Hr.out (OwnInts.nil_ _ _) (Below.refl _ _)
    case false =>
      have Hr : Hid (rFlip l p q = ([], false)) := by show rFlip l p q = _; unfold rFlip; rw [hb, hp]; rfl
      go_enter Try.func26, Try.ntmps26
      go_wp2_with (first | (go_at_call 40; refine (areBytes240 _ _ _ h).mono ?_; rintro e w' ⟨rfl, rfl⟩) | (go_at_call 42; refine (within_any _ _ _ _).mono ?_; rintro e w' ⟨rfl, rfl⟩))
      go_ret2
      exact FreshIntsB.mk Hr.out (OwnInts.nil_ _ _) (Below.refl _ _)
  case false =>
    have Hr : Hid (rFlip l p q = ([], false)) := by show rFlip l p q = _; unfold rFlip; rw [hb]; rfl
    go_enter Try.func26, Try.ntmps26
    go_wp2_with (first | (go_at_call 40; refine (areBytes240 _ _ _ h).mono ?_; rintro e w' ⟨rfl, rfl⟩) | (go_at_call 42; refine (within_any _ _ _ _).mono ?_; rintro e w' ⟨rfl, rfl⟩))
    go_ret2
    exact FreshIntsB.mk Hr.out (OwnInts.nil_ _ _) (Below.refl _ _)

set_option maxHeartbeats 1600000 in
theorem specFlip (v : Value) (l : List Int) (p q : Int) (w : World) (h : IntsAt w v l) :
    Calls Try.prog 27 #[v, .int .i64 p, .int .i64 q] w (FreshIntsB w (rFlip l p q)) := by
  obtain ⟨A, c, rfl, hnc, hc63⟩ := h.shape
  cases hb : isBytes l
  case true =>
    have hlen := isBytes_len hb
    cases hp : inR p 0 ((l.length : Int) - 1)
    case true =>
      obtain ⟨hp0, hp1⟩ := inR_t.1 hp
      cases hq : inR q 0 7
      case true =>
        obtain ⟨hq0, hq1⟩ := inR_t.1 hq
        obtain ⟨k, rfl⟩ := Int.eq_ofNat_of_zero_le hp0
        obtain ⟨t, rfl⟩ := Int.eq_ofNat_of_zero_le hq0
        have Hr : Hid (rFlip l k t = (l.set k (bits .xor .i64 (gi l k) (wrap64 (2 ^ t))), true)) := by
          show rFlip l k t = _
          unfold rFlip; rw [hb, hp, hq]; rfl
        go_enter Try.func27, Try.ntmps27
        go_wp2_with (first | (go_at_call 49; refine (jrBytes_any _ _ _ h).mono ?_; rintro e w' ⟨rfl, rfl⟩) | (go_at_call 58; refine (l1In_any _ _ _ _).mono ?_; rintro e w' ⟨rfl, rfl⟩))
        refine (l1Own_any _ l _ h (by omega)).mono ?_; rintro e w1 ⟨v1, rfl, o1, b1⟩
        obtain ⟨A1, c1, rfl, _, _⟩ := o1.reads.shape
        obtain ⟨g, cap, hv, hbg, _⟩ := World.ownsRow.form o1 (by omega)
        injection hv with e1 e2 e3
        subst e1 e3
        have hk : k < l.length := by omega
        have hcell : w1.cell? ⟨g, k, none⟩ = some (.int .i64 (gi l k)) := by
          have := IntsAt.lit o1.reads k hk
          simpa using this
        have hfr : w1.frozen? ⟨g, k, none⟩ = false := World.ownsRow.frozenAt o1 k
        have hst : Hid (OwnInts (w1.setCell ⟨g, k, none⟩ (.int .i64 (bits .xor .i64 (gi l k) (wrap64 (2 ^ t))))) w.heap.size (.slice (some ⟨g, 0, none⟩) l.length c1) (l.set k (bits .xor .i64 (gi l k) (wrap64 (2 ^ t))))) := by
          have := (World.ownsRow.stored o1 k (.int .i64 (bits .xor .i64 (gi l k) (wrap64 (2 ^ t))))).1
          unfold OwnInts
          rw [List.length_set, ← set_ints]
          exact this
        have hbb : Hid (Below w.heap.size w (w1.setCell ⟨g, k, none⟩ (.int .i64 (bits .xor .i64 (gi l k) (wrap64 (2 ^ t)))))) := b1.setCell (by exact hbg) _
        go_wp2_with fail
        go_ret2
        exact FreshIntsB.mk Hr.out hst.out hbb.out
      case false =>
        have Hr : Hid (rFlip l p q = ([], false)) := by show rFlip l p q = _; unfold rFlip; rw [hb, hp, hq]; rfl
        go_enter Try.func27, Try.ntmps27
        go_wp2_with (first | (go_at_call 49; refine (jrBytes_any _ _ _ h).mono ?_; rintro e w' ⟨rfl, rfl⟩) | (go_at_call 58; refine (l1In_any _ _ _ _).mono ?_; rintro e w' ⟨rfl, rfl⟩))
        go_ret2
        exact FreshIntsB.mk Hr.out (OwnInts.nil_ _ _) (Below.refl _ _)
    case false =>
      have Hr : Hid (rFlip l p q = ([], false)) := by show rFlip l p q = _; unfold rFlip; rw [hb, hp]; rfl
      go_enter Try.func27, Try.ntmps27
      go_wp2_with (first | (go_at_call 49; refine (jrBytes_any _ _ _ h).mono ?_; rintro e w' ⟨rfl, rfl⟩) | (go_at_call 58; refine (l1In_any _ _ _ _).mono ?_; rintro e w' ⟨rfl, rfl⟩))
      go_ret2
      exact FreshIntsB.mk Hr.out (OwnInts.nil_ _ _) (Below.refl _ _)
  case false =>
    have Hr : Hid (rFlip l p q = ([], false)) := by show rFlip l p q = _; unfold rFlip; rw [hb]; rfl
    go_enter Try.func27, Try.ntmps27
    go_wp2_with (first | (go_at_call 49; refine (jrBytes_any _ _ _ h).mono ?_; rintro e w' ⟨rfl, rfl⟩) | (go_at_call 58; refine (l1In_any _ _ _ _).mono ?_; rintro e w' ⟨rfl, rfl⟩))
    go_ret2
    exact FreshIntsB.mk Hr.out (OwnInts.nil_ _ _) (Below.refl _ _)
end Go.Proofs.Ytmjchkaipbmjkaa
