/- Contracts: RecoverFrames, AppendFrame. -/
import Derived.Test.YtmjchkaipbmjkaaCommon
set_option linter.unusedSimpArgs false
set_option linter.unusedVariables false
namespace Go.Proofs.Ytmjchkaipbmjkaa
open Go.RowKit

def FreshIntssIB (w : World) (r : List (List Int) × Int × Bool) (e : Ending) (w' : World) : Prop :=
  ∃ v, e = .returned (.tuple #[v, .int .i64 r.2.1, .bool r.2.2]) ∧ OwnIntss w' w.heap.size v r.1 ∧ Below w.heap.size w w'
theorem FreshIntsB.mk {w wr : World} {r : List Int × Bool} {v : Value} {l : List Int} {b : Bool} (h : r = (l, b)) (ho : OwnInts wr w.heap.size v l) (hb : Below w.heap.size w wr) :
    FreshIntsB w r (.returned (.tuple #[v, .bool b])) wr := by
  subst h
  exact ⟨v, rfl, ho, hb⟩
theorem OwnInts.lower {w : World} {lo lo' : Nat} {v : Value} {l : List Int} (h : OwnInts w lo v l) (hl : lo' ≤ lo) : OwnInts w lo' v l := by
  refine ⟨h.1, ?_⟩
  rcases h.2 with hn | ⟨g, cap, cur, e, hbg, rest⟩
  · exact .inl hn
  · exact .inr ⟨g, cap, cur, e, by omega, rest⟩

theorem implRecover (v : Value) (b : List Int) (w : World) (h : IntsAt w v b) :
    Calls Try.prog 10 #[v] w (FreshIntssIB w (rRecover b)) := by
  unfold rRecover
  cases hb : isBytes b
  case true =>
    have Hb := Lib.hid hb
    go_enter Try.func10, Try.ntmps10
    go_wp2_with fail
    refine (areBytes240 _ b _ h).mono ?_; rintro e _ ⟨rfl, rfl⟩
    go_wp2_with fail
    refine (recoverFrames_any _ b _ h Hb.out).mono ?_; rintro e w1 ⟨v1, rfl, o1, b1⟩
    go_wp2_with fail
    go_ret3
    exact ⟨_, rfl, o1, b1⟩
  case false =>
    go_enter Try.func10, Try.ntmps10
    go_wp2_with fail
    refine (areBytes240 _ b _ h).mono ?_; rintro e _ ⟨rfl, rfl⟩
    go_wp2_with fail
    go_ret3
    exact ⟨_, rfl, OwnIntss.nil_ _ _, Below.refl _ _⟩

theorem specRecover (v : Value) (b : List Int) (w : World) (h : IntsAt w v b) :
    Calls Try.prog 18 #[v] w (FreshIntssIB w (rRecover b)) := by
  unfold rRecover
  cases hb : isBytes b
  case true =>
    have Hb := Lib.hid hb
    go_enter Try.func18, Try.ntmps18
    go_wp2_with fail
    refine (jrBytes_any _ b _ h).mono ?_; rintro e _ ⟨rfl, rfl⟩
    go_wp2_with fail
    refine (jrRecover_any _ b _ h Hb.out).mono ?_; rintro e w1 ⟨v1, rfl, o1, b1⟩
    go_wp2_with fail
    go_ret3
    exact ⟨_, rfl, o1, b1⟩
  case false =>
    go_enter Try.func18, Try.ntmps18
    go_wp2_with fail
    refine (jrBytes_any _ b _ h).mono ?_; rintro e _ ⟨rfl, rfl⟩
    go_wp2_with fail
    go_ret3
    exact ⟨_, rfl, OwnIntss.nil_ _ _, Below.refl _ _⟩

set_option maxRecDepth 100000 in
set_option maxHeartbeats 1600000 in
theorem implAppend (v1 v2 : Value) (b l : List Int) (w : World) (h1 : IntsAt w v1 b) (h2 : IntsAt w v2 l) :
    Calls Try.prog 16 #[v1, v2] w (FreshIntsB w (rAppend b l)) := by
  cases hb : isBytes b <;> cases hl : isFrame l
  case true.true =>
    have Hb := Lib.hid hb
    have Hl := Lib.hid hl
    obtain ⟨A, c, rfl, hnc, hc63⟩ := h1.shape
    obtain ⟨B, d, rfl, hnd, hd63⟩ := h2.shape
    obtain ⟨hr1, hr2, _⟩ := recov_bd b
    have hbl := isBytes_len hb
    have hll := isFrame_len hl
    obtain ⟨hll1, hll2⟩ := hll
    have start : ∀ (Q : Ending → World → Prop), True := fun _ => trivial
    clear start
    by_cases h20 : (recov b).1.length = 20
    · have Hif : Hid (rAppend b l = ([], false)) := by show rAppend b l = _; unfold rAppend; rw [hb, hl]; exact (if_pos rfl).trans (if_pos (Or.inl h20))
      have h20a : 20 ≤ (recov b).1.length := by omega
      clear h20
      go_enter Try.func16, Try.ntmps16
      go_wp2_with fail
      refine (areBytes240 _ b _ h1).mono ?_; rintro e _ ⟨rfl, rfl⟩
      go_wp2_with fail
      refine (implIsFrame_any _ l _ h2).mono ?_; rintro e _ ⟨rfl, rfl⟩
      go_wp2_with fail
      refine (recoverFrames_any _ b _ h1 Hb.out).mono ?_; rintro e w1 ⟨v1, rfl, o1, b1⟩
      obtain ⟨A1, c1, rfl, _, _⟩ := o1.shape
      go_wp2_with fail
      go_ret2
      exact FreshIntsB.mk Hif.out (OwnInts.nil_ _ _) b1
    · have h20b : (recov b).1.length < 20 := by omega
      by_cases hsz : 240 < (recov b).2 + l.length + 2
      · have Hif : Hid (rAppend b l = ([], false)) := by show rAppend b l = _; unfold rAppend; rw [hb, hl]; exact (if_pos rfl).trans (if_pos (Or.inr hsz))
        clear h20
        go_enter Try.func16, Try.ntmps16
        go_wp2_with fail
        refine (areBytes240 _ b _ h1).mono ?_; rintro e _ ⟨rfl, rfl⟩
        go_wp2_with fail
        refine (implIsFrame_any _ l _ h2).mono ?_; rintro e _ ⟨rfl, rfl⟩
        go_wp2_with fail
        refine (recoverFrames_any _ b _ h1 Hb.out).mono ?_; rintro e w1 ⟨v1, rfl, o1, b1⟩
        obtain ⟨A1, c1, rfl, _, _⟩ := o1.shape
        go_wp2_with fail
        go_ret2
        exact FreshIntsB.mk Hif.out (OwnInts.nil_ _ _) b1
      · have Hif : Hid (rAppend b l = (b.take (recov b).2 ++ frameB l (recov b).1.length, true)) := by show rAppend b l = _; unfold rAppend; rw [hb, hl]; exact (if_pos rfl).trans (if_neg (by omega))
        clear h20
        have hsz2 : (recov b).2 + l.length + 2 ≤ 240 := by omega
        have hsz3 : ¬ (240 : Int) < ((recov b).2 : Int) + (l.length : Int) + 2 := by omega
        clear hsz
        have ht : (((recov b).1.length : Int) == 20) = false := beq_eq_false_iff_ne.2 (by omega)
        have h2l := IntsAt.take h1 (recov b).2 hr2
        have hfl : (frameB l (recov b).1.length).length ≤ 14 := by rw [frameB_len]; omega
        have htl : (b.take (recov b).2).length ≤ 240 := by rw [List.length_take]; omega
        go_enter Try.func16, Try.ntmps16
        go_wp2_with fail
        refine (areBytes240 _ b _ h1).mono ?_; rintro e _ ⟨rfl, rfl⟩
        go_wp2_with fail
        refine (implIsFrame_any _ l _ h2).mono ?_; rintro e _ ⟨rfl, rfl⟩
        go_wp2_with fail
        refine (recoverFrames_any _ b _ h1 Hb.out).mono ?_; rintro e w1 ⟨v1, rfl, o1, b1⟩
        obtain ⟨A1, c1, rfl, _, _⟩ := o1.shape
        go_wp2_with fail
        refine (copyInts_any _ (b.take (recov b).2) _ (h2l.below b1 (Nat.le_refl _)) (by omega)).mono ?_; rintro e w2 ⟨v2, rfl, o2, b2⟩
        have b12 := b1.next (Nat.le_refl _) b2
        go_wp2_with fail
        refine (frameBytes_any _ l _ _ (h2.below b12 (Nat.le_refl _)) (isFrame_in Hl.out) (by omega) (by omega)).mono ?_; rintro e w3 ⟨v3, rfl, o3, b3⟩
        have b13 := b12.next (Nat.le_refl _) b3
        have o2' : OwnInts w3 w.heap.size v2 (b.take (recov b).2) := (o2.lower b1.size).below b3 (Nat.le_refl _)
        go_wp2_with (at_builtin; refine wp_app_ints _ rfl _ _ (by rfl) w.heap.size _ (b.take (recov b).2) (by rfl) o2' _ (frameB l (recov b).1.length) (by rfl) o3.reads (by omega) b13.size ?_; intro v4 w4 ho4 hg4)
        go_ret2
        exact FreshIntsB.mk Hif.out ho4 (b13.trans hg4.below)
  all_goals
    have Hif : Hid (rAppend b l = ([], false)) := by show rAppend b l = _; unfold rAppend; rw [hb, hl]; rfl
    go_enter Try.func16, Try.ntmps16
    go_wp2_with fail
    refine (areBytes240 _ b _ h1).mono ?_; rintro e _ ⟨rfl, rfl⟩
    go_wp2_with fail
    try (refine (implIsFrame_any _ l _ h2).mono ?_; rintro e _ ⟨rfl, rfl⟩; go_wp2_with fail)
    go_ret2
    exact FreshIntsB.mk Hif.out (OwnInts.nil_ _ _) (Below.refl _ _)

set_option maxRecDepth 100000 in
set_option maxHeartbeats 1600000 in
theorem specAppend (v1 v2 : Value) (b l : List Int) (w : World) (h1 : IntsAt w v1 b) (h2 : IntsAt w v2 l) :
    Calls Try.prog 17 #[v1, v2] w (FreshIntsB w (rAppend b l)) := by
  cases hb : isBytes b <;> cases hl : isFrame l
  case true.true =>
    have Hb := Lib.hid hb
    have Hl := Lib.hid hl
    obtain ⟨A, c, rfl, hnc, hc63⟩ := h1.shape
    obtain ⟨B, d, rfl, hnd, hd63⟩ := h2.shape
    obtain ⟨hr1, hr2, _⟩ := recov_bd b
    have hbl := isBytes_len hb
    have hll := isFrame_len hl
    obtain ⟨hll1, hll2⟩ := hll
    have start : ∀ (Q : Ending → World → Prop), True := fun _ => trivial
    clear start
    by_cases h20 : (recov b).1.length = 20
    · have Hif : Hid (rAppend b l = ([], false)) := by show rAppend b l = _; unfold rAppend; rw [hb, hl]; exact (if_pos rfl).trans (if_pos (Or.inl h20))
      have h20a : 20 ≤ (recov b).1.length := by omega
      clear h20
      go_enter Try.func17, Try.ntmps17
      go_wp2_with fail
      refine (jrBytes_any _ b _ h1).mono ?_; rintro e _ ⟨rfl, rfl⟩
      go_wp2_with fail
      refine (jrFrame_any _ l _ h2).mono ?_; rintro e _ ⟨rfl, rfl⟩
      go_wp2_with fail
      refine (jrRecover_any _ b _ h1 Hb.out).mono ?_; rintro e w1 ⟨v1, rfl, o1, b1⟩
      obtain ⟨A1, c1, rfl, _, _⟩ := o1.shape
      go_wp2_with fail
      go_ret2
      exact FreshIntsB.mk Hif.out (OwnInts.nil_ _ _) b1
    · have h20b : (recov b).1.length < 20 := by omega
      by_cases hsz : 240 < (recov b).2 + l.length + 2
      · have Hif : Hid (rAppend b l = ([], false)) := by show rAppend b l = _; unfold rAppend; rw [hb, hl]; exact (if_pos rfl).trans (if_pos (Or.inr hsz))
        clear h20
        go_enter Try.func17, Try.ntmps17
        go_wp2_with fail
        refine (jrBytes_any _ b _ h1).mono ?_; rintro e _ ⟨rfl, rfl⟩
        go_wp2_with fail
        refine (jrFrame_any _ l _ h2).mono ?_; rintro e _ ⟨rfl, rfl⟩
        go_wp2_with fail
        refine (jrRecover_any _ b _ h1 Hb.out).mono ?_; rintro e w1 ⟨v1, rfl, o1, b1⟩
        obtain ⟨A1, c1, rfl, _, _⟩ := o1.shape
        go_wp2_with fail
        go_ret2
        exact FreshIntsB.mk Hif.out (OwnInts.nil_ _ _) b1
      · have Hif : Hid (rAppend b l = (b.take (recov b).2 ++ frameB l (recov b).1.length, true)) := by show rAppend b l = _; unfold rAppend; rw [hb, hl]; exact (if_pos rfl).trans (if_neg (by omega))
        clear h20
        have hsz2 : (recov b).2 + l.length + 2 ≤ 240 := by omega
        have hsz3 : ¬ (240 : Int) < ((recov b).2 : Int) + (l.length : Int) + 2 := by omega
        clear hsz
        have ht : (((recov b).1.length : Int) == 20) = false := beq_eq_false_iff_ne.2 (by omega)
        have h2l := IntsAt.take h1 (recov b).2 hr2
        have hfl : (frameB l (recov b).1.length).length ≤ 14 := by rw [frameB_len]; omega
        have htl : (b.take (recov b).2).length ≤ 240 := by rw [List.length_take]; omega
        go_enter Try.func17, Try.ntmps17
        go_wp2_with fail
        refine (jrBytes_any _ b _ h1).mono ?_; rintro e _ ⟨rfl, rfl⟩
        go_wp2_with fail
        refine (jrFrame_any _ l _ h2).mono ?_; rintro e _ ⟨rfl, rfl⟩
        go_wp2_with fail
        refine (jrRecover_any _ b _ h1 Hb.out).mono ?_; rintro e w1 ⟨v1, rfl, o1, b1⟩
        obtain ⟨A1, c1, rfl, _, _⟩ := o1.shape
        go_wp2_with fail
        refine (l1Own_any _ (b.take (recov b).2) _ (h2l.below b1 (Nat.le_refl _)) (by omega)).mono ?_; rintro e w2 ⟨v2, rfl, o2, b2⟩
        have b12 := b1.next (Nat.le_refl _) b2
        go_wp2_with fail
        refine (jrOf_any _ l _ _ (h2.below b12 (Nat.le_refl _)) (isFrame_in Hl.out) (by omega) (by omega)).mono ?_; rintro e w3 ⟨v3, rfl, o3, b3⟩
        have b13 := b12.next (Nat.le_refl _) b3
        have o2' : OwnInts w3 w.heap.size v2 (b.take (recov b).2) := (o2.lower b1.size).below b3 (Nat.le_refl _)
        go_wp2_with (at_builtin; refine wp_app_ints _ rfl _ _ (by rfl) w.heap.size _ (b.take (recov b).2) (by rfl) o2' _ (frameB l (recov b).1.length) (by rfl) o3.reads (by omega) b13.size ?_; intro v4 w4 ho4 hg4)
        go_ret2
        exact FreshIntsB.mk Hif.out ho4 (b13.trans hg4.below)
  all_goals
    have Hif : Hid (rAppend b l = ([], false)) := by show rAppend b l = _; unfold rAppend; rw [hb, hl]; rfl
    go_enter Try.func17, Try.ntmps17
    go_wp2_with fail
    refine (jrBytes_any _ b _ h1).mono ?_; rintro e _ ⟨rfl, rfl⟩
    go_wp2_with fail
    try (refine (jrFrame_any _ l _ h2).mono ?_; rintro e _ ⟨rfl, rfl⟩; go_wp2_with fail)
    go_ret2
    exact FreshIntsB.mk Hif.out (OwnInts.nil_ _ _) (Below.refl _ _)

theorem tot_bd (ls : List (List Int)) (m : Nat) (h : ∀ l ∈ ls, l.length ≤ m) : tot ls ≤ ls.length * m := by
  induction ls with
  | nil => simp [tot]
  | cons l ls ih =>
    have h1 := ih fun x hx => h x (List.mem_cons_of_mem _ hx)
    have h2 := h l (List.mem_cons_self ..)
    simp only [tot, List.map_cons, List.sum_cons, List.length_cons] at h1 ⊢
    rw [Nat.succ_mul]
    omega
theorem rRecover_len (b : List Int) : (rRecover b).1.length + tot (rRecover b).1 ≤ 260 := by
  unfold rRecover
  split
  · obtain ⟨h1, _, h3⟩ := recov_bd b
    have h4 := tot_bd _ 12 h3
    show (recov b).1.length + tot (recov b).1 ≤ 260
    have : (recov b).1.length * 12 ≤ 20 * 12 := Nat.mul_le_mul_right _ h1
    omega
  · simp [tot]
end Go.Proofs.Ytmjchkaipbmjkaa
