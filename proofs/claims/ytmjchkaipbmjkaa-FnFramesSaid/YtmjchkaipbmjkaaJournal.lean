/- Contracts: JournalBytes, SurvivingFrames. -/
import Derived.Test.YtmjchkaipbmjkaaAppend
set_option linter.unusedSimpArgs false
set_option linter.unusedVariables false
namespace Go.Proofs.Ytmjchkaipbmjkaa
open Go.RowKit

theorem ret_pair {r : Int × Bool} {x : Int} {b : Bool} (h : r = (x, b)) : Ending.returned (.tuple #[.int .i64 x, .bool b]) = .returned (.tuple #[.int .i64 r.1, .bool r.2]) := by subst h; rfl
theorem flatB_len (ls : List (List Int)) (n : Nat) (h : ls.all isFrame = true) : (flatB n ls).length ≤ ls.length * 14 := by
  induction ls generalizing n with
  | nil => simp [flatB]
  | cons l ls ih =>
    simp only [List.all_cons, Bool.and_eq_true] at h
    have h1 := isFrame_len h.1
    have h2 := ih (n + 1) h.2
    simp only [flatB, List.length_append, frameB_len, List.length_cons]
    rw [Nat.succ_mul]
    omega
theorem flatB_take_len (ls : List (List Int)) (k : Nat) (hk : k < ls.length) (h : (ls.take k).all isFrame = true) : (flatB 0 (ls.take k)).length ≤ k * 14 := by
  have := flatB_len _ 0 h
  rwa [List.length_take, Nat.min_eq_left (by omega)] at this

set_option maxRecDepth 100000 in
set_option maxHeartbeats 1600000 in
theorem implJournal (v : Value) (ls : List (List Int)) (w : World) (h : IntssAt w v ls) (hl : ls.length ≤ 1048576) :
    Calls Try.prog 7 #[v] w (FreshIntsB w (rJournal ls)) := by
    obtain ⟨A, c, rfl, hnc, hc63⟩ := h.shape
    by_cases hbig : 20 < ls.length
    · have Hr : Hid (rJournal ls = ([], false)) := by
        show rJournal ls = _
        unfold rJournal
        by_cases hall : ls.all isFrame = true
        · rw [if_pos hall, if_pos (Or.inl hbig)]
        · rw [if_neg hall]
      go_enter Try.func7, Try.ntmps7
      go_wp2_with fail
      go_ret2
      exact FreshIntsB.mk Hr.out (OwnInts.nil_ _ _) (Below.refl _ _)
    have hsm : ls.length ≤ 20 := by omega
    clear hbig
    go_enter Try.func7, Try.ntmps7
    go_wp2_with fail
    go_loopw [4, 13] (fun q i wr => ∃ k : Nat, k ≤ ls.length ∧ i = .int .i64 k ∧ OwnInts wr w.heap.size q (flatB 0 (ls.take k)) ∧ Below w.heap.size w wr ∧ Hid ((ls.take k).all isFrame = true)) (fun _ i _ => ls.length - (intOf i).toNat)
    case atStart => exact ⟨0, Nat.zero_le _, rfl, OwnInts.empty w _ (Nat.le_refl _), (Below.refl _ _).alloc (Nat.le_refl _) _, rfl⟩
    case round =>
      obtain ⟨k, hk, rfl, hown, hb, hall⟩ := hrel
      by_cases hlt : k < ls.length
      · obtain ⟨b, o, A', c', rfl, hc, hr⟩ := IntssAt.at_ (h.below hb (Nat.le_refl _)) k hlt
        cases hf : isFrame (gl ls k)
        · have Hr : Hid (rJournal ls = ([], false)) := by
            show rJournal ls = _
            unfold rJournal
            rw [if_neg]
            intro hh
            rw [List.all_eq_true] at hh
            have := hh _ (gl_mem hlt)
            rw [hf] at this; cases this
          go_wp2_with fail
          refine (implIsFrame_any _ (gl ls k) _ hr).mono ?_; rintro e _ ⟨rfl, rfl⟩
          go_wp2_with fail
          go_ret2
          exact FreshIntsB.mk Hr.out (OwnInts.nil_ _ _) hb
        · have Hf := Lib.hid hf
          have hfl := isFrame_len hf
          obtain ⟨hfl1, hfl2⟩ := hfl
          have hft := flatB_take_len ls k hlt (hall.out)
          have hst : Hid (flatB 0 (ls.take (k + 1)) = flatB 0 (ls.take k) ++ frameB (gl ls k) k) := by
            show _ = _
            rw [take_succ_gl ls k hlt, flatB_snoc, List.length_take, Nat.min_eq_left hk, Nat.zero_add]
          have hall2 : Hid ((ls.take (k + 1)).all isFrame = true) := by
            show _ = _
            rw [take_succ_gl ls k hlt, List.all_append, hall.out]; simp [hf]
          have hfbl : (frameB (gl ls k) k).length ≤ 14 := by rw [frameB_len]; omega
          go_wp2_with fail
          refine (implIsFrame_any _ (gl ls k) _ hr).mono ?_; rintro e _ ⟨rfl, rfl⟩
          go_wp2_with fail
          refine (frameBytes_any _ (gl ls k) _ _ hr (isFrame_in Hf.out) (by omega) (by omega)).mono ?_; rintro e w1 ⟨v1, rfl, o1, b1⟩
          have hown1 := OwnInts.below hown b1 (Nat.le_refl _)
          have bb := hb.next (Nat.le_refl _) b1
          go_wp2_with (at_builtin; refine wp_app_ints _ rfl _ _ (by rfl) w.heap.size _ (flatB 0 (ls.take k)) (by rfl) hown1 _ (frameB (gl ls k) k) (by rfl) o1.reads (by omega) bb.size ?_; intro v2 w2 ho2 hg2)
          go_roundw
          case rel => exact ⟨k + 1, by omega, by go_num, by rw [hst.out]; exact ho2, bb.trans hg2.below, hall2⟩
          case measure => simp [intOf]; omega
      · have hx : k = ls.length := by omega
        subst hx
        have hfl : Hid (flatB 0 (ls.take ls.length) = flatB 0 ls) := by show flatB 0 (ls.take ls.length) = flatB 0 ls; rw [List.take_length]
        have hal : Hid (ls.all isFrame = true) := by have := hall.out; rwa [List.take_length] at this
        rw [hfl.out] at hown
        obtain ⟨S, t, rfl, hs1, hs2⟩ := hown.reads.shape
        by_cases hz : 240 < (flatB 0 ls).length
        · have Hr : Hid (rJournal ls = ([], false)) := by
            show rJournal ls = _
            unfold rJournal
            rw [if_pos hal.out, if_pos (Or.inr hz)]
          go_wp2_with fail
          go_ret2
          exact FreshIntsB.mk Hr.out (OwnInts.nil_ _ _) hb
        · have Hr : Hid (rJournal ls = (flatB 0 ls, true)) := by
            show rJournal ls = _
            unfold rJournal
            rw [if_pos hal.out, if_neg (by omega)]
          have hz2 : (flatB 0 ls).length ≤ 240 := by omega
          go_wp2_with fail
          go_ret2
          exact FreshIntsB.mk Hr.out hown hb

set_option maxRecDepth 100000 in
set_option maxHeartbeats 1600000 in
theorem jrAll_any (v : Value) (ls : List (List Int)) (w : World) (h : IntssAt w v ls) (hl : ls.length ≤ 1048576) :
    Calls Try.prog 39 #[v] w (FreshIntsB w (rJournal ls)) := by
    obtain ⟨A, c, rfl, hnc, hc63⟩ := h.shape
    go_enter Try.func39, Try.ntmps39
    go_wp2_with fail
    go_loopw [4, 9] (fun q i wr => ∃ k : Nat, k ≤ ls.length ∧ i = .int .i64 k ∧ OwnInts wr w.heap.size q (flatB 0 (ls.take k)) ∧ Below w.heap.size w wr ∧ Hid ((ls.take k).all isFrame = true)) (fun _ i _ => ls.length - (intOf i).toNat)
    case atStart => exact ⟨0, Nat.zero_le _, rfl, OwnInts.nil_ w _, Below.refl _ _, rfl⟩
    case round =>
      obtain ⟨k, hk, rfl, hown, hb, hall⟩ := hrel
      by_cases hlt : k < ls.length
      · obtain ⟨b, o, A', c', rfl, hc, hr⟩ := IntssAt.at_ (h.below hb (Nat.le_refl _)) k hlt
        cases hf : isFrame (gl ls k)
        · have Hr : Hid (rJournal ls = ([], false)) := by
            show rJournal ls = _
            unfold rJournal
            rw [if_neg]
            intro hh
            rw [List.all_eq_true] at hh
            have := hh _ (gl_mem hlt)
            rw [hf] at this; cases this
          go_wp2_with fail
          refine (jrFrame_any _ (gl ls k) _ hr).mono ?_; rintro e _ ⟨rfl, rfl⟩
          go_wp2_with fail
          go_ret2
          exact FreshIntsB.mk Hr.out (OwnInts.nil_ _ _) hb
        · have Hf := Lib.hid hf
          have hfl := isFrame_len hf
          obtain ⟨hfl1, hfl2⟩ := hfl
          have hft := flatB_take_len ls k hlt (hall.out)
          have hst : Hid (flatB 0 (ls.take (k + 1)) = flatB 0 (ls.take k) ++ frameB (gl ls k) k) := by
            show _ = _
            rw [take_succ_gl ls k hlt, flatB_snoc, List.length_take, Nat.min_eq_left hk, Nat.zero_add]
          have hall2 : Hid ((ls.take (k + 1)).all isFrame = true) := by
            show _ = _
            rw [take_succ_gl ls k hlt, List.all_append, hall.out]; simp [hf]
          have hfbl : (frameB (gl ls k) k).length ≤ 14 := by rw [frameB_len]; omega
          go_wp2_with fail
          refine (jrFrame_any _ (gl ls k) _ hr).mono ?_; rintro e _ ⟨rfl, rfl⟩
          go_wp2_with fail
          refine (jrOf_any _ (gl ls k) _ _ hr (isFrame_in Hf.out) (by omega) (by omega)).mono ?_; rintro e w1 ⟨v1, rfl, o1, b1⟩
          have hown1 := OwnInts.below hown b1 (Nat.le_refl _)
          have bb := hb.next (Nat.le_refl _) b1
          go_wp2_with (at_builtin; refine wp_app_ints _ rfl _ _ (by rfl) w.heap.size _ (flatB 0 (ls.take k)) (by rfl) hown1 _ (frameB (gl ls k) k) (by rfl) o1.reads (by omega) bb.size ?_; intro v2 w2 ho2 hg2)
          go_roundw
          case rel => exact ⟨k + 1, by omega, by go_num, by rw [hst.out]; exact ho2, bb.trans hg2.below, hall2⟩
          case measure => simp [intOf]; omega
      · have hx : k = ls.length := by omega
        subst hx
        have hfl : Hid (flatB 0 (ls.take ls.length) = flatB 0 ls) := by show flatB 0 (ls.take ls.length) = flatB 0 ls; rw [List.take_length]
        have hal : Hid (ls.all isFrame = true) := by have := hall.out; rwa [List.take_length] at this
        rw [hfl.out] at hown
        obtain ⟨S, t, rfl, hs1, hs2⟩ := hown.reads.shape
        by_cases hbig : 20 < ls.length
        · have Hr : Hid (rJournal ls = ([], false)) := by
            show rJournal ls = _
            unfold rJournal
            rw [if_pos hal.out, if_pos (Or.inl hbig)]
          have hd : decide ((20 : Int) < (ls.length : Int)) = true := decide_eq_true (by omega)
          go_wp2_with fail
          go_ret2
          exact FreshIntsB.mk Hr.out (OwnInts.nil_ _ _) hb
        · have hd : decide ((20 : Int) < (ls.length : Int)) = false := decide_eq_false (by omega)
          have hsm : ls.length ≤ 20 := by omega
          clear hbig
          by_cases hz : 240 < (flatB 0 ls).length
          · have Hr : Hid (rJournal ls = ([], false)) := by
              show rJournal ls = _
              unfold rJournal
              rw [if_pos hal.out, if_pos (Or.inr hz)]
            go_wp2_with fail
            go_ret2
            exact FreshIntsB.mk Hr.out (OwnInts.nil_ _ _) hb
          · have Hr : Hid (rJournal ls = (flatB 0 ls, true)) := by
              show rJournal ls = _
              unfold rJournal
              rw [if_pos hal.out, if_neg (by omega)]
            have hz2 : (flatB 0 ls).length ≤ 240 := by omega
            clear hz
            go_wp2_with fail
            go_ret2
            exact FreshIntsB.mk Hr.out hown hb

theorem specJournal (v : Value) (ls : List (List Int)) (w : World) (h : IntssAt w v ls) (hl : ls.length ≤ 1048576) :
    Calls Try.prog 8 #[v] w (FreshIntsB w (rJournal ls)) := by
  go_enter Try.func8, Try.ntmps8
  go_wp2_with fail
  refine (jrAll_any _ ls _ h hl).mono ?_; rintro e w1 ⟨v1, rfl, o1, b1⟩
  go_wp2_with fail
  go_ret2
  exact ⟨_, rfl, o1, b1⟩

set_option maxRecDepth 100000 in
set_option maxHeartbeats 1600000 in
theorem implSurvive (v : Value) (ls : List (List Int)) (n : Int) (w : World) (h : IntssAt w v ls) (hl : ls.length ≤ 1048576) :
    Calls Try.prog 14 #[v, .int .i64 n] w fun e w' => e = .returned (.tuple #[.int .i64 (rSurvive ls n).1, .bool (rSurvive ls n).2]) ∧ Below w.heap.size w w' := by
  have hbj := Lib.hid (rJournal_bytes ls)
  have hlj := rJournal_len ls
  cases hok : (rJournal ls).2
  case false =>
    have Hr : Hid (rSurvive ls n = (0, false)) := by show rSurvive ls n = _; unfold rSurvive; rw [hok]; rfl
    go_enter Try.func14, Try.ntmps14
    go_wp2_with fail
    refine (implJournal _ ls _ h hl).mono ?_; rintro e w1 ⟨v1, rfl, o1, b1⟩
    go_wp2_with fail
    go_ret2
    exact ⟨ret_pair Hr.out, b1⟩
  case true =>
    cases hn : inR n 0 240
    case false =>
      have Hr : Hid (rSurvive ls n = (0, false)) := by show rSurvive ls n = _; unfold rSurvive; rw [hok, hn]; rfl
      go_enter Try.func14, Try.ntmps14
      go_wp2_with fail
      refine (implJournal _ ls _ h hl).mono ?_; rintro e w1 ⟨v1, rfl, o1, b1⟩
      go_wp2_with (go_at_call 42; refine (within_any _ _ _ _).mono ?_; rintro e w' ⟨rfl, rfl⟩)
      go_ret2
      exact ⟨ret_pair Hr.out, b1⟩
    case true =>
      obtain ⟨hn0, hn1⟩ := inR_t.1 hn
      obtain ⟨m, rfl⟩ := Int.eq_ofNat_of_zero_le hn0
      have Hr : Hid (rSurvive ls m = (((recov ((rJournal ls).1.take m)).1.length : Int), true)) := by show rSurvive ls m = _; unfold rSurvive; rw [hok, hn]; rfl
      by_cases hle : m ≤ (rJournal ls).1.length
      · go_enter Try.func14, Try.ntmps14
        go_wp2_with fail
        refine (implJournal _ ls _ h hl).mono ?_; rintro e w1 ⟨v1, rfl, o1, b1⟩
        obtain ⟨S, t, rfl, hs1, hs2⟩ := o1.reads.shape
        have ht := IntsAt.take o1.reads m hle
        go_wp2_with (go_at_call 42; refine (within_any _ _ _ _).mono ?_; rintro e w' ⟨rfl, rfl⟩)
        refine (recoverFrames_any _ ((rJournal ls).1.take m) _ ht (isBytes_take hbj.out m)).mono ?_; rintro e w2 ⟨v2, rfl, o2, b2⟩
        obtain ⟨S2, t2, rfl, _, _⟩ := o2.shape
        go_wp2_with fail
        go_ret2
        exact ⟨ret_pair Hr.out, b1.next (Nat.le_refl _) b2⟩
      · have hgt : (rJournal ls).1.length < m := by omega
        have htk : Hid ((rJournal ls).1.take m = (rJournal ls).1) := List.take_of_length_le (by omega)
        rw [htk.out] at Hr
        clear hle
        go_enter Try.func14, Try.ntmps14
        go_wp2_with fail
        refine (implJournal _ ls _ h hl).mono ?_; rintro e w1 ⟨v1, rfl, o1, b1⟩
        obtain ⟨S, t, rfl, hs1, hs2⟩ := o1.reads.shape
        go_wp2_with (go_at_call 42; refine (within_any _ _ _ _).mono ?_; rintro e w' ⟨rfl, rfl⟩)
        refine (recoverFrames_any _ (rJournal ls).1 _ o1.reads hbj.out).mono ?_; rintro e w2 ⟨v2, rfl, o2, b2⟩
        obtain ⟨S2, t2, rfl, _, _⟩ := o2.shape
        go_wp2_with fail
        go_ret2
        exact ⟨ret_pair Hr.out, b1.next (Nat.le_refl _) b2⟩

set_option maxRecDepth 100000 in
set_option maxHeartbeats 1600000 in
theorem specSurvive (v : Value) (ls : List (List Int)) (n : Int) (w : World) (h : IntssAt w v ls) (hl : ls.length ≤ 1048576) :
    Calls Try.prog 33 #[v, .int .i64 n] w fun e w' => e = .returned (.tuple #[.int .i64 (rSurvive ls n).1, .bool (rSurvive ls n).2]) ∧ Below w.heap.size w w' := by
  have hbj := Lib.hid (rJournal_bytes ls)
  have hlj := rJournal_len ls
  cases hok : (rJournal ls).2
  case false =>
    have Hr : Hid (rSurvive ls n = (0, false)) := by show rSurvive ls n = _; unfold rSurvive; rw [hok]; rfl
    go_enter Try.func33, Try.ntmps33
    go_wp2_with fail
    refine (jrAll_any _ ls _ h hl).mono ?_; rintro e w1 ⟨v1, rfl, o1, b1⟩
    go_wp2_with fail
    go_ret2
    exact ⟨ret_pair Hr.out, b1⟩
  case true =>
    cases hn : inR n 0 240
    case false =>
      have Hr : Hid (rSurvive ls n = (0, false)) := by show rSurvive ls n = _; unfold rSurvive; rw [hok, hn]; rfl
      go_enter Try.func33, Try.ntmps33
      go_wp2_with fail
      refine (jrAll_any _ ls _ h hl).mono ?_; rintro e w1 ⟨v1, rfl, o1, b1⟩
      go_wp2_with (go_at_call 54; refine (jrCount_any _ _).mono ?_; rintro e w' ⟨rfl, rfl⟩)
      go_ret2
      exact ⟨ret_pair Hr.out, b1⟩
    case true =>
      obtain ⟨hn0, hn1⟩ := inR_t.1 hn
      obtain ⟨m, rfl⟩ := Int.eq_ofNat_of_zero_le hn0
      have Hr : Hid (rSurvive ls m = (((recov ((rJournal ls).1.take m)).1.length : Int), true)) := by show rSurvive ls m = _; unfold rSurvive; rw [hok, hn]; rfl
      by_cases hle : m ≤ (rJournal ls).1.length
      · go_enter Try.func33, Try.ntmps33
        go_wp2_with fail
        refine (jrAll_any _ ls _ h hl).mono ?_; rintro e w1 ⟨v1, rfl, o1, b1⟩
        obtain ⟨S, t, rfl, hs1, hs2⟩ := o1.reads.shape
        have ht := IntsAt.take o1.reads m hle
        go_wp2_with (go_at_call 54; refine (jrCount_any _ _).mono ?_; rintro e w' ⟨rfl, rfl⟩)
        refine (l1Least_le _ _ _ (by omega)).mono ?_; rintro e _ ⟨rfl, rfl⟩
        go_wp2_with fail
        refine (jrRecover_any _ ((rJournal ls).1.take m) _ ht (isBytes_take hbj.out m)).mono ?_; rintro e w2 ⟨v2, rfl, o2, b2⟩
        obtain ⟨S2, t2, rfl, _, _⟩ := o2.shape
        go_wp2_with fail
        go_ret2
        exact ⟨ret_pair Hr.out, b1.next (Nat.le_refl _) b2⟩
      · have hgt : (rJournal ls).1.length < m := by omega
        have htk : Hid ((rJournal ls).1.take m = (rJournal ls).1) := List.take_of_length_le (by omega)
        rw [htk.out] at Hr
        clear hle
        go_enter Try.func33, Try.ntmps33
        go_wp2_with fail
        refine (jrAll_any _ ls _ h hl).mono ?_; rintro e w1 ⟨v1, rfl, o1, b1⟩
        obtain ⟨S, t, rfl, hs1, hs2⟩ := o1.reads.shape
        go_wp2_with (go_at_call 54; refine (jrCount_any _ _).mono ?_; rintro e w' ⟨rfl, rfl⟩)
        refine (l1Least_ge _ _ _ (by omega)).mono ?_; rintro e _ ⟨rfl, rfl⟩
        go_wp2_with fail
        refine (jrRecover_any _ (rJournal ls).1 _ o1.reads hbj.out).mono ?_; rintro e w2 ⟨v2, rfl, o2, b2⟩
        obtain ⟨S2, t2, rfl, _, _⟩ := o2.shape
        go_wp2_with fail
        go_ret2
        exact ⟨ret_pair Hr.out, b1.next (Nat.le_refl _) b2⟩
end Go.Proofs.Ytmjchkaipbmjkaa
