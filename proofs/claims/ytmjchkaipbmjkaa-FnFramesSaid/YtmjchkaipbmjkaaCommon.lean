/- Contracts: common frames of two journals; comparisons that only read. -/
import Derived.Test.YtmjchkaipbmjkaaRecov
set_option linter.unusedSimpArgs false
set_option linter.unusedVariables false
namespace Go.Proofs.Ytmjchkaipbmjkaa
open Go.RowKit

/-- The worlds part in draws alone. -/
def Drawn (w w' : World) : Prop := ∃ m, w' = w.drewN m
theorem Drawn.below {w w' : World} {B : Nat} (h : Drawn w w') : Below B w w' := by obtain ⟨m, rfl⟩ := h; exact (Below.refl _ _).drewN m
theorem Drawn.more {w w' : World} (h : Drawn w w') (n : Nat) : Drawn w (w'.drewN n) := by
  obtain ⟨m, rfl⟩ := h
  exact ⟨m + n, by rw [World.drewN_drewN]⟩
theorem drop_gl (ls : List (List Int)) (k : Nat) (h : k < ls.length) : ls.drop k = gl ls k :: ls.drop (k + 1) := by
  rw [List.drop_eq_getElem_cons h]; simp [gl, List.getD, h]
theorem drop_all (ls : List (List Int)) (k : Nat) (h : ls.length ≤ k) : ls.drop k = [] := List.drop_eq_nil_of_le h
theorem ret_ib {n : Nat} {m : Nat} {b : Bool} (h : n = m) : Ending.returned (.tuple #[.int .i64 (m : Int), .bool b]) = .returned (.tuple #[.int .i64 (n : Int), .bool b]) := by rw [h]

set_option maxHeartbeats 400000 in
theorem slicesEqual_any (v1 v2 : Value) (l1 l2 : List Int) (w : World) (h1 : IntsAt w v1 l1) (h2 : IntsAt w v2 l2) :
    Calls Try.prog 60 #[v1, v2] w fun e w' => e = .returned (.bool (l1 == l2)) ∧ ∃ m, w' = w.drewN m := by
  obtain ⟨A, c, rfl, hnc, hc63⟩ := h1.shape
  obtain ⟨B, d, rfl, hnd, hd63⟩ := h2.shape
  by_cases hne : l1.length = l2.length
  · rw [← hne] at h2 hnd ⊢
    have Hne := Lib.hid hne
    clear hne
    go_enter Try.func60, Try.ntmps60
    go_wp2_with fail
    go_loopw [13] (fun i wr => ∃ k : Nat, k ≤ l1.length ∧ i = .int .i64 k ∧ Hid (l1.take k = l2.take k) ∧ Drawn w wr) (fun i _ => l1.length - (intOf i).toNat)
    case atStart => exact ⟨0, Nat.zero_le _, rfl, rfl, ⟨0, rfl⟩⟩
    case round =>
      obtain ⟨k, hk, rfl, hall, hb⟩ := hrel
      have hbb := hb.below (B := w.heap.size)
      by_cases hlt : k < l1.length
      · obtain ⟨b, o, rfl, hc⟩ := IntsAt.at_ (h1.below hbb (Nat.le_refl _)) k hlt
        obtain ⟨b', o', rfl, hc'⟩ := IntsAt.at_ (h2.below hbb (Nat.le_refl _)) k (by have := Hne.out; omega)
        go_wp2_with fail
        go_quiet (fail)
        go_wp2_with fail
        · have hx : (gi l1 k != gi l2 k) = true := by assumption
          go_ret
          exact ⟨ret_bool (gi_ne_f Hne.out hlt hx).symm, hb.more _⟩
        · have hx : (gi l1 k != gi l2 k) = false := by assumption
          go_roundw
          case rel => exact ⟨k + 1, by omega, by go_num, take_eq_succ Hne.out hlt hall.out hx, hb.more _⟩
          case measure => simp [intOf]; omega
      · have hx : Hid ((l1 == l2) = true) := by
          have h1 : l1.take k = l1 := List.take_of_length_le (by omega)
          have h2 : l2.take k = l2 := List.take_of_length_le (by have := Hne.out; omega)
          have := hall.out
          rw [h1, h2] at this
          rw [this]; simp [Hid]
        go_wp2_with fail
        go_ret
        exact ⟨ret_bool hx.out.symm, hb⟩
  · have hn : ((l1.length : Int) != l2.length) = true := by simp; omega
    have hx : Hid ((l1 == l2) = false) := by
      show (l1 == l2) = false
      rw [beq_eq_false_iff_ne]; rintro rfl; exact hne rfl
    go_enter Try.func60, Try.ntmps60
    go_wp2_with fail
    go_ret
    exact ⟨ret_bool hx.out.symm, ⟨0, rfl⟩⟩

set_option maxHeartbeats 400000 in
theorem l1Same_any (v1 v2 : Value) (l1 l2 : List Int) (w : World) (h1 : IntsAt w v1 l1) (h2 : IntsAt w v2 l2) :
    Calls Try.prog 61 #[v1, v2] w fun e w' => e = .returned (.bool (l1 == l2)) ∧ ∃ m, w' = w.drewN m := by
  obtain ⟨A, c, rfl, hnc, hc63⟩ := h1.shape
  obtain ⟨B, d, rfl, hnd, hd63⟩ := h2.shape
  by_cases hne : l1.length = l2.length
  · rw [← hne] at h2 hnd ⊢
    have Hne := Lib.hid hne
    clear hne
    go_enter Try.func61, Try.ntmps61
    go_wp2_with fail
    go_loopw [13] (fun i wr => ∃ k : Nat, k ≤ l1.length ∧ i = .int .i64 k ∧ Hid (l1.take k = l2.take k) ∧ Drawn w wr) (fun i _ => l1.length - (intOf i).toNat)
    case atStart => exact ⟨0, Nat.zero_le _, rfl, rfl, ⟨0, rfl⟩⟩
    case round =>
      obtain ⟨k, hk, rfl, hall, hb⟩ := hrel
      have hbb := hb.below (B := w.heap.size)
      by_cases hlt : k < l1.length
      · obtain ⟨b, o, rfl, hc⟩ := IntsAt.at_ (h1.below hbb (Nat.le_refl _)) k hlt
        obtain ⟨b', o', rfl, hc'⟩ := IntsAt.at_ (h2.below hbb (Nat.le_refl _)) k (by have := Hne.out; omega)
        go_wp2_with fail
        go_quiet (fail)
        go_wp2_with fail
        · have hx : (gi l1 k != gi l2 k) = true := by assumption
          go_ret
          exact ⟨ret_bool (gi_ne_f Hne.out hlt hx).symm, hb.more _⟩
        · have hx : (gi l1 k != gi l2 k) = false := by assumption
          go_roundw
          case rel => exact ⟨k + 1, by omega, by go_num, take_eq_succ Hne.out hlt hall.out hx, hb.more _⟩
          case measure => simp [intOf]; omega
      · have hx : Hid ((l1 == l2) = true) := by
          have h1 : l1.take k = l1 := List.take_of_length_le (by omega)
          have h2 : l2.take k = l2 := List.take_of_length_le (by have := Hne.out; omega)
          have := hall.out
          rw [h1, h2] at this
          rw [this]; simp [Hid]
        go_wp2_with fail
        go_ret
        exact ⟨ret_bool hx.out.symm, hb⟩
  · have hn : ((l1.length : Int) != l2.length) = true := by simp; omega
    have hx : Hid ((l1 == l2) = false) := by
      show (l1 == l2) = false
      rw [beq_eq_false_iff_ne]; rintro rfl; exact hne rfl
    go_enter Try.func61, Try.ntmps61
    go_wp2_with fail
    go_ret
    exact ⟨ret_bool hx.out.symm, ⟨0, rfl⟩⟩

set_option maxHeartbeats 1600000 in
theorem implCommon (v1 v2 : Value) (a b : List Int) (w : World) (h1 : IntsAt w v1 a) (h2 : IntsAt w v2 b) :
    Calls Try.prog 30 #[v1, v2] w fun e w' => e = .returned (.tuple #[.int .i64 (rCommon a b).1, .bool (rCommon a b).2]) ∧ Below w.heap.size w w' := by
  unfold rCommon
  cases ha : isBytes a <;> cases hb : isBytes b
  case true.true =>
    have Ha := Lib.hid ha
    have Hb := Lib.hid hb
    obtain ⟨A, c, rfl, hnc, hc63⟩ := h1.shape
    obtain ⟨B, d, rfl, hnd, hd63⟩ := h2.shape
    obtain ⟨hr1, _, _⟩ := recov_bd a
    obtain ⟨hr2, _, _⟩ := recov_bd b
    go_enter Try.func30, Try.ntmps30
    go_wp2_with fail
    refine (areBytes240 _ a _ h1).mono ?_; rintro e _ ⟨rfl, rfl⟩
    go_wp2_with fail
    refine (areBytes240 _ b _ h2).mono ?_; rintro e _ ⟨rfl, rfl⟩
    go_wp2_with fail
    refine (recoverFrames_any _ a _ h1 Ha.out).mono ?_; rintro e w1 ⟨x1, rfl, o1, b1⟩
    obtain ⟨A1, c1, rfl, hx1, hx2⟩ := o1.shape
    go_wp2_with fail
    refine (recoverFrames_any _ b _ (h2.below b1 (Nat.le_refl _)) Hb.out).mono ?_; rintro e w2 ⟨x2, rfl, o2, b2⟩
    obtain ⟨A2, c2, rfl, hy1, hy2⟩ := o2.shape
    have r1 := (o1.below b2 (Nat.le_refl _)).reads
    have r2 := o2.reads
    have bb := b1.next (Nat.le_refl _) b2
    have hb2s := bb.size
    go_wp2_with fail
    go_loopw [10] (fun i wr => ∃ k : Nat, k ≤ (recov a).1.length ∧ k ≤ (recov b).1.length ∧ i = .int .i64 k ∧ Hid (comm (recov a).1 (recov b).1 = k + comm ((recov a).1.drop k) ((recov b).1.drop k)) ∧ Drawn w2 wr) (fun i _ => (recov a).1.length - (intOf i).toNat)
    case atStart => exact ⟨0, Nat.zero_le _, Nat.zero_le _, rfl, by simp [Hid], ⟨0, rfl⟩⟩
    case round =>
      obtain ⟨k, hk1, hk2, rfl, hcm, hdr⟩ := hrel
      have hend : Below w.heap.size w wr := bb.trans hdr.below
      by_cases hl1 : k < (recov a).1.length
      · by_cases hl2 : k < (recov b).1.length
        · obtain ⟨p1, q1, S1, t1, rfl, hc1, hi1⟩ := IntssAt.at_ (r1.below (hdr.below (B := w2.heap.size)) (Nat.le_refl _)) k hl1
          obtain ⟨p2, q2, S2, t2, rfl, hc2, hi2⟩ := IntssAt.at_ (r2.below (hdr.below (B := w2.heap.size)) (Nat.le_refl _)) k hl2
          have d1 := drop_gl (recov a).1 k hl1
          have d2 := drop_gl (recov b).1 k hl2
          have hst : Hid ((gl (recov a).1 k == gl (recov b).1 k) = true → comm (recov a).1 (recov b).1 = (k + 1 : Nat) + comm ((recov a).1.drop (k + 1)) ((recov b).1.drop (k + 1))) := fun h => by
            have := comm_step _ _ d1 d2 h
            rw [hcm.out, this]; omega
          have hsp : Hid ((gl (recov a).1 k == gl (recov b).1 k) = false → comm (recov a).1 (recov b).1 = k) := fun h => by
            have := comm_stop _ _ d1 d2 h
            rw [hcm.out, this]; rfl
          clear d1 d2
          go_wp2_with fail
          go_quiet ((go_at_call 60; exact Calls.quiet_of (slicesEqual_any _ _ _ _ _ (hi1.drewN _) (hi2.drewN _))))
          go_wp2_with fail
          · have hx : (gl (recov a).1 k == gl (recov b).1 k) = true := by assumption
            have Hx := hst.out hx
            go_roundw
            case rel => exact ⟨k + 1, by omega, by omega, by go_num, Hx, hdr.more _⟩
            case measure => simp [intOf]; omega
          · have hx : (gl (recov a).1 k == gl (recov b).1 k) = false := by assumption
            have Hx := Lib.hid (hsp.out hx)
            go_ret2
            exact ⟨ret_ib Hx.out, hend.drewN _⟩
        · have hd2 : decide ((k : Int) < ((recov b).1.length : Int)) = false := decide_eq_false (by omega)
          have hfin : Hid (comm (recov a).1 (recov b).1 = k) := by
            show comm (recov a).1 (recov b).1 = k
            rw [hcm.out, drop_all (recov b).1 k (by omega), comm_nil _ _ (.inr rfl)]; rfl
          go_wp2_with fail
          go_quiet (fail)
          go_wp2_with fail
          go_ret2
          exact ⟨ret_ib hfin.out, hend.drewN _⟩
      · have hd1 : decide ((k : Int) < ((recov a).1.length : Int)) = false := decide_eq_false (by omega)
        have hfin : Hid (comm (recov a).1 (recov b).1 = k) := by
          show comm (recov a).1 (recov b).1 = k
          rw [hcm.out, drop_all (recov a).1 k (by omega), comm_nil _ _ (.inl rfl)]; rfl
        go_wp2_with fail
        go_quiet (fail)
        go_wp2_with fail
        go_ret2
        exact ⟨ret_ib hfin.out, hend.drewN _⟩
  all_goals
    go_enter Try.func30, Try.ntmps30
    go_wp2_with fail
    refine (areBytes240 _ a _ h1).mono ?_; rintro e _ ⟨rfl, rfl⟩
    go_wp2_with fail
    try (refine (areBytes240 _ b _ h2).mono ?_; rintro e _ ⟨rfl, rfl⟩; go_wp2_with fail)
    go_ret2
    exact ⟨rfl, Below.refl _ _⟩

set_option maxHeartbeats 1600000 in
theorem specCommon (v1 v2 : Value) (a b : List Int) (w : World) (h1 : IntsAt w v1 a) (h2 : IntsAt w v2 b) :
    Calls Try.prog 31 #[v1, v2] w fun e w' => e = .returned (.tuple #[.int .i64 (rCommon a b).1, .bool (rCommon a b).2]) ∧ Below w.heap.size w w' := by
  unfold rCommon
  cases ha : isBytes a <;> cases hb : isBytes b
  case true.true =>
    have Ha := Lib.hid ha
    have Hb := Lib.hid hb
    obtain ⟨A, c, rfl, hnc, hc63⟩ := h1.shape
    obtain ⟨B, d, rfl, hnd, hd63⟩ := h2.shape
    obtain ⟨hr1, _, _⟩ := recov_bd a
    obtain ⟨hr2, _, _⟩ := recov_bd b
    go_enter Try.func31, Try.ntmps31
    go_wp2_with fail
    refine (jrBytes_any _ a _ h1).mono ?_; rintro e _ ⟨rfl, rfl⟩
    go_wp2_with fail
    refine (jrBytes_any _ b _ h2).mono ?_; rintro e _ ⟨rfl, rfl⟩
    go_wp2_with fail
    refine (jrRecover_any _ a _ h1 Ha.out).mono ?_; rintro e w1 ⟨x1, rfl, o1, b1⟩
    obtain ⟨A1, c1, rfl, hx1, hx2⟩ := o1.shape
    go_wp2_with fail
    refine (jrRecover_any _ b _ (h2.below b1 (Nat.le_refl _)) Hb.out).mono ?_; rintro e w2 ⟨x2, rfl, o2, b2⟩
    obtain ⟨A2, c2, rfl, hy1, hy2⟩ := o2.shape
    have r1 := (o1.below b2 (Nat.le_refl _)).reads
    have r2 := o2.reads
    have bb := b1.next (Nat.le_refl _) b2
    have hb2s := bb.size
    go_wp2_with fail
    go_loopw [10] (fun i wr => ∃ k : Nat, k ≤ (recov a).1.length ∧ k ≤ (recov b).1.length ∧ i = .int .i64 k ∧ Hid (comm (recov a).1 (recov b).1 = k + comm ((recov a).1.drop k) ((recov b).1.drop k)) ∧ Drawn w2 wr) (fun i _ => (recov a).1.length - (intOf i).toNat)
    case atStart => exact ⟨0, Nat.zero_le _, Nat.zero_le _, rfl, by simp [Hid], ⟨0, rfl⟩⟩
    case round =>
      obtain ⟨k, hk1, hk2, rfl, hcm, hdr⟩ := hrel
      have hend : Below w.heap.size w wr := bb.trans hdr.below
      by_cases hl1 : k < (recov a).1.length
      · by_cases hl2 : k < (recov b).1.length
        · obtain ⟨p1, q1, S1, t1, rfl, hc1, hi1⟩ := IntssAt.at_ (r1.below (hdr.below (B := w2.heap.size)) (Nat.le_refl _)) k hl1
          obtain ⟨p2, q2, S2, t2, rfl, hc2, hi2⟩ := IntssAt.at_ (r2.below (hdr.below (B := w2.heap.size)) (Nat.le_refl _)) k hl2
          have d1 := drop_gl (recov a).1 k hl1
          have d2 := drop_gl (recov b).1 k hl2
          have hst : Hid ((gl (recov a).1 k == gl (recov b).1 k) = true → comm (recov a).1 (recov b).1 = (k + 1 : Nat) + comm ((recov a).1.drop (k + 1)) ((recov b).1.drop (k + 1))) := fun h => by
            have := comm_step _ _ d1 d2 h
            rw [hcm.out, this]; omega
          have hsp : Hid ((gl (recov a).1 k == gl (recov b).1 k) = false → comm (recov a).1 (recov b).1 = k) := fun h => by
            have := comm_stop _ _ d1 d2 h
            rw [hcm.out, this]; rfl
          clear d1 d2
          go_wp2_with fail
          go_quiet ((go_at_call 61; exact Calls.quiet_of (l1Same_any _ _ _ _ _ (hi1.drewN _) (hi2.drewN _))))
          go_wp2_with fail
          · have hx : (gl (recov a).1 k == gl (recov b).1 k) = true := by assumption
            have Hx := hst.out hx
            go_roundw
            case rel => exact ⟨k + 1, by omega, by omega, by go_num, Hx, hdr.more _⟩
            case measure => simp [intOf]; omega
          · have hx : (gl (recov a).1 k == gl (recov b).1 k) = false := by assumption
            have Hx := Lib.hid (hsp.out hx)
            go_ret2
            exact ⟨ret_ib Hx.out, hend.drewN _⟩
        · have hd2 : decide ((k : Int) < ((recov b).1.length : Int)) = false := decide_eq_false (by omega)
          have hfin : Hid (comm (recov a).1 (recov b).1 = k) := by
            show comm (recov a).1 (recov b).1 = k
            rw [hcm.out, drop_all (recov b).1 k (by omega), comm_nil _ _ (.inr rfl)]; rfl
          go_wp2_with fail
          go_quiet (fail)
          go_wp2_with fail
          go_ret2
          exact ⟨ret_ib hfin.out, hend.drewN _⟩
      · have hd1 : decide ((k : Int) < ((recov a).1.length : Int)) = false := decide_eq_false (by omega)
        have hfin : Hid (comm (recov a).1 (recov b).1 = k) := by
          show comm (recov a).1 (recov b).1 = k
          rw [hcm.out, drop_all (recov a).1 k (by omega), comm_nil _ _ (.inl rfl)]; rfl
        go_wp2_with fail
        go_quiet (fail)
        go_wp2_with fail
        go_ret2
        exact ⟨ret_ib hfin.out, hend.drewN _⟩
  all_goals
    go_enter Try.func31, Try.ntmps31
    go_wp2_with fail
    refine (jrBytes_any _ a _ h1).mono ?_; rintro e _ ⟨rfl, rfl⟩
    go_wp2_with fail
    try (refine (jrBytes_any _ b _ h2).mono ?_; rintro e _ ⟨rfl, rfl⟩; go_wp2_with fail)
    go_ret2
    exact ⟨rfl, Below.refl _ _⟩
end Go.Proofs.Ytmjchkaipbmjkaa
