/- Contracts of the functions on versions: indices, common versions, ways. -/
import Derived.Test.YtgngnkndebkbmaaDoorVersF
import Derived.Test.YtgngnkndebkbmaaDoorVPlain
import Derived.Test.YtgngnkndebkbmaaDoorRec
set_option linter.unusedSimpArgs false
set_option linter.unusedVariables false
namespace Go.Proofs.YtgngnkndebkbmaaDoor
open Go.RowKit

def verRec : Rec Ver := ⟨3, 38, Ver.cells, fun _ => rfl, by omega, fun _ u hu => by simp [Ver.cells] at hu; rcases hu with rfl | rfl | rfl <;> rfl, ⟨0, 0, 0⟩⟩
theorem Below.keepCell {B : Nat} {w w' : World} (hb : Below B w w') {b o : Nat} {u : Value} (h : w.cell? ⟨b, o, none⟩ = some u) (hB : w.heap.size ≤ B) : w'.cell? ⟨b, o, none⟩ = some u := by
  have : b < w.heap.size := World.block_lt_of_cell? w _ h
  exact (hb.cell (p := ⟨b, o, none⟩) (show b < B by omega)).trans h
theorem hasV1 (l : List Ver) (i : Int) : hasV l [i] = (areVers l && inR i 0 ((l.length : Int) - 1)) := by
  unfold hasV
  rw [Bool.and_comm]
  simp
theorem hasV2 (l : List Ver) (i k : Int) : hasV l [i, k] = (hasV l [i] && hasV l [k]) := by
  rw [hasV1, hasV1]
  unfold hasV
  simp only [List.all_cons, List.all_nil, Bool.and_true]
  cases areVers l <;> simp
theorem hasV_no {l : List Ver} {is : List Int} {k : Nat} (hk : k < is.length) (h : inR (gi is k) 0 ((l.length : Int) - 1) = false) : hasV l is = false := by
  unfold hasV
  have : (is.all fun i => inR i 0 ((l.length : Int) - 1)) = false := by
    rw [List.all_eq_false]
    exact ⟨_, gi_mem hk, by rw [h]; decide⟩
  rw [this]; rfl
theorem hasV_yes {l : List Ver} {is : List Int} (h : allIn is 0 ((l.length : Int) - 1) = true) : hasV l is = areVers l := by
  unfold hasV
  unfold allIn at h
  rw [h]; rfl

set_option maxHeartbeats 400000 in
theorem hasVersions_any (v u : Value) (l : List Ver) (is : List Int) (w : World) (h : VersAt w v l) (hi : IntsAt w u is) :
    Calls Tryd.prog 37 #[v, u] w fun e w' => e = .returned (.bool (hasV l is)) ∧ Below w.heap.size w w' := by
  obtain ⟨A, c, rfl, hnc, hc63⟩ := h.shape
  obtain ⟨B, d, rfl, hnd, hd63⟩ := hi.shape
  go_enter Tryd.func37, Tryd.ntmps37
  go_wp2_with fail
  go_loop [9] (fun i => ∃ k : Nat, k ≤ is.length ∧ i = .int .i64 k ∧ Hid (allIn (is.take k) 0 ((l.length : Int) - 1) = true)) (fun i => is.length - (intOf i).toNat)
  case atStart => exact ⟨0, Nat.zero_le _, rfl, rfl⟩
  case round =>
    obtain ⟨k, hk, rfl, hall⟩ := hrel
    by_cases hlt : k < is.length
    · obtain ⟨b, o, rfl, hc⟩ := IntsAt.at_ hi k hlt
      cases hA : inR (gi is k) 0 ((l.length : Int) - 1)
      · have hr : Hid (hasV l is = false) := hasV_no hlt hA
        go_wp2_with (go_at_call 54; refine (within_any _ _ _ _).mono ?_; rintro e w' ⟨rfl, rfl⟩)
        go_ret
        exact ⟨ret_bool hr.out.symm, Below.refl _ _⟩
      · have hn : Hid (allIn (is.take (k + 1)) 0 ((l.length : Int) - 1) = true) := allIn_take_gi hlt hall.out hA
        go_wp2_with (go_at_call 54; refine (within_any _ _ _ _).mono ?_; rintro e w' ⟨rfl, rfl⟩)
        go_round
        case rel => exact ⟨k + 1, by omega, by go_num, hn⟩
        case measure => simp [intOf]; omega
    · have hx : k = is.length := by omega
      subst hx
      rw [List.take_length] at hall
      have hr : Hid (hasV l is = areVers l) := hasV_yes hall.out
      go_wp2_with fail
      refine (areVersions_any _ l _ h).mono ?_; rintro e w1 ⟨rfl, b1⟩
      go_wp2_with fail
      go_ret
      exact ⟨ret_bool hr.out.symm, b1⟩

theorem vrHas_any (v : Value) (l : List Ver) (i : Int) (w : World) (h : VersAt w v l) :
    Calls Tryd.prog 42 #[v, .int .i64 i] w fun e w' => e = .returned (.bool (hasV l [i])) ∧ Below w.heap.size w w' := by
  obtain ⟨A, c, rfl, hnc, hc63⟩ := h.shape
  rw [hasV1]
  cases hv : areVers l <;> cases hA : inR i 0 ((l.length : Int) - 1)
  all_goals
    go_enter Tryd.func42, Tryd.ntmps42
    go_wp2_with fail
    refine (vrGood_any _ l _ h).mono ?_; rintro e w1 ⟨rfl, b1⟩
    go_wp2_with (go_at_call 59; refine (l1In_any _ _ _ _).mono ?_; rintro e w' ⟨rfl, rfl⟩)
    go_ret
    exact ⟨rfl, b1⟩
theorem vrPair_any (v : Value) (l : List Ver) (i k : Int) (w : World) (h : VersAt w v l) :
    Calls Tryd.prog 39 #[v, .int .i64 i, .int .i64 k] w fun e w' => e = .returned (.bool (hasV l [i, k])) ∧ Below w.heap.size w w' := by
  rw [hasV2]
  cases h1 : hasV l [i] <;> cases h2 : hasV l [k]
  case true.true =>
    go_enter Tryd.func39, Tryd.ntmps39
    go_wp2_with fail
    refine (vrHas_any _ l _ _ h).mono ?_; rintro e w1 ⟨rfl, b1⟩
    go_wp2_with fail
    refine (vrHas_any _ l _ _ (h.below b1 (Nat.le_refl _))).mono ?_; rintro e w2 ⟨rfl, b2⟩
    go_wp2_with fail
    go_ret
    exact ⟨rfl, b1.next (Nat.le_refl _) b2⟩
  case true.false =>
    go_enter Tryd.func39, Tryd.ntmps39
    go_wp2_with fail
    refine (vrHas_any _ l _ _ h).mono ?_; rintro e w1 ⟨rfl, b1⟩
    go_wp2_with fail
    refine (vrHas_any _ l _ _ (h.below b1 (Nat.le_refl _))).mono ?_; rintro e w2 ⟨rfl, b2⟩
    go_wp2_with fail
    go_ret
    exact ⟨rfl, b1.next (Nat.le_refl _) b2⟩
  all_goals
    go_enter Tryd.func39, Tryd.ntmps39
    go_wp2_with fail
    refine (vrHas_any _ l _ _ h).mono ?_; rintro e w1 ⟨rfl, b1⟩
    go_wp2_with fail
    go_ret
    exact ⟨rfl, b1⟩
set_option maxHeartbeats 400000 in
theorem commonVersion_any (v : Value) (l : List Ver) (i k : Int) (w : World) (h : VersAt w v l) (hv : Hid (areVers l = true)) (i0 : 0 ≤ i) (i1 : i < l.length) (k0 : 0 ≤ k) (k1 : k < l.length) :
    Calls Tryd.prog 38 #[v, .int .i64 i, .int .i64 k] w fun e w' => e = .returned (.int .i64 (common l i k)) ∧ w = w' := by
  obtain ⟨A, c, rfl, hnc, hc63⟩ := h.shape
  go_enter Tryd.func38, Tryd.ntmps38
  go_wp2_with fail
  go_loop [1, 2] (fun s t => ∃ a b : Int, 0 ≤ a ∧ a < l.length ∧ 0 ≤ b ∧ b < l.length ∧ s = .int .i64 a ∧ t = .int .i64 b ∧ Hid (common l i k = common l a b)) (fun s t => (intOf s).toNat + (intOf t).toNat)
  case atStart => exact ⟨i, k, i0, i1, k0, k1, rfl, rfl, rfl⟩
  case round =>
    obtain ⟨a, b, a0, a1, b0, b1, rfl, rfl, hr⟩ := hrel
    rcases Int.lt_trichotomy a b with hab | hab | hab
    · obtain ⟨n, rfl⟩ := Int.eq_ofNat_of_zero_le b0
      obtain ⟨bb, o, rfl, hc, _, _⟩ := VersAt.at_ h n (by omega)
      have hp : 0 ≤ (gv l n).p ∧ (gv l n).p < (n : Int) := by have := ver_at hv.out n (by omega); omega
      obtain ⟨p0, p1⟩ := hp
      have hn : Hid (common l i k = common l a (gv l n).p) := hr.out.trans (common_lt hv.out a n ⟨a0, a1⟩ b1 hab)
      go_wp2_with fail
      go_round
      case rel => exact ⟨a, (gv l n).p, a0, a1, p0, by omega, rfl, rfl, hn⟩
      case measure => simp [intOf]; omega
    · subst hab
      have hn : Hid (common l i k = a) := hr.out.trans (common_eq l a)
      go_wp2_with fail
      go_ret
      exact ⟨ret_int hn.out.symm, rfl⟩
    · obtain ⟨n, rfl⟩ := Int.eq_ofNat_of_zero_le a0
      obtain ⟨bb, o, rfl, hc, _, _⟩ := VersAt.at_ h n (by omega)
      have hp : 0 ≤ (gv l n).p ∧ (gv l n).p < (n : Int) := by have := ver_at hv.out n (by omega); omega
      obtain ⟨p0, p1⟩ := hp
      have hn : Hid (common l i k = common l (gv l n).p b) := hr.out.trans (common_gt hv.out n b a1 ⟨b0, b1⟩ hab)
      go_wp2_with fail
      go_round
      case rel => exact ⟨(gv l n).p, b, p0, by omega, b0, b1, rfl, rfl, hn⟩
      case measure => simp [intOf]; omega
set_option maxHeartbeats 400000 in
theorem vrCommon_any (v : Value) (l : List Ver) (i k : Int) (w : World) (h : VersAt w v l) (hv : Hid (areVers l = true)) (i0 : 0 ≤ i) (i1 : i < l.length) (k0 : 0 ≤ k) (k1 : k < l.length) :
    Calls Tryd.prog 40 #[v, .int .i64 i, .int .i64 k] w fun e w' => e = .returned (.int .i64 (common l i k)) ∧ w = w' := by
  obtain ⟨A, c, rfl, hnc, hc63⟩ := h.shape
  go_enter Tryd.func40, Tryd.ntmps40
  go_wp2_with fail
  go_loop [1, 2] (fun s t => ∃ a b : Int, 0 ≤ a ∧ a < l.length ∧ 0 ≤ b ∧ b < l.length ∧ s = .int .i64 a ∧ t = .int .i64 b ∧ Hid (common l i k = common l a b)) (fun s t => (intOf s).toNat + (intOf t).toNat)
  case atStart => exact ⟨i, k, i0, i1, k0, k1, rfl, rfl, rfl⟩
  case round =>
    obtain ⟨a, b, a0, a1, b0, b1, rfl, rfl, hr⟩ := hrel
    rcases Int.lt_trichotomy a b with hab | hab | hab
    · obtain ⟨n, rfl⟩ := Int.eq_ofNat_of_zero_le b0
      obtain ⟨bb, o, rfl, hc, _, _⟩ := VersAt.at_ h n (by omega)
      have hp : 0 ≤ (gv l n).p ∧ (gv l n).p < (n : Int) := by have := ver_at hv.out n (by omega); omega
      obtain ⟨p0, p1⟩ := hp
      have hn : Hid (common l i k = common l a (gv l n).p) := hr.out.trans (common_lt hv.out a n ⟨a0, a1⟩ b1 hab)
      go_wp2_with fail
      go_round
      case rel => exact ⟨a, (gv l n).p, a0, a1, p0, by omega, rfl, rfl, hn⟩
      case measure => simp [intOf]; omega
    · subst hab
      have hn : Hid (common l i k = a) := hr.out.trans (common_eq l a)
      go_wp2_with fail
      go_ret
      exact ⟨ret_int hn.out.symm, rfl⟩
    · obtain ⟨n, rfl⟩ := Int.eq_ofNat_of_zero_le a0
      obtain ⟨bb, o, rfl, hc, _, _⟩ := VersAt.at_ h n (by omega)
      have hp : 0 ≤ (gv l n).p ∧ (gv l n).p < (n : Int) := by have := ver_at hv.out n (by omega); omega
      obtain ⟨p0, p1⟩ := hp
      have hn : Hid (common l i k = common l (gv l n).p b) := hr.out.trans (common_gt hv.out n b a1 ⟨b0, b1⟩ hab)
      go_wp2_with fail
      go_round
      case rel => exact ⟨(gv l n).p, b, p0, by omega, b0, b1, rfl, rfl, hn⟩
      case measure => simp [intOf]; omega

set_option maxHeartbeats 800000 in
theorem vrWay_any (v : Value) (l : List Ver) (i : Int) (w : World) (h : VersAt w v l) (hv : Hid (areVers l = true)) (i0 : -1 ≤ i) (i1 : i < l.length) :
    Calls Tryd.prog 43 #[v, .int .i64 i] w (FreshInts w (wayTo l i)) := by
  obtain ⟨A, c, rfl, hnc, hc63⟩ := h.shape
  have hub := up_bd hv.out i1
  have h60 := (areVers_parts hv.out).2.1
  go_enter Tryd.func43, Tryd.ntmps43
  go_wp2_with fail
  go_loopw [1, 5] (fun s t wr => ∃ (a : Int) (u : List Int), -1 ≤ a ∧ a < l.length ∧ s = .int .i64 a ∧ OwnInts wr w.heap.size t u ∧ Hid (wayTo l i = wayTo l a ++ u) ∧ Hid (u.length ≤ 60) ∧ Below w.heap.size w wr) (fun s _ _ => (intOf s + 1).toNat)
  case atStart => exact ⟨i, [], i0, i1, rfl, OwnInts.nil_ _ _, (by show _ = _; simp), Nat.zero_le _, Below.refl _ _⟩
  case round =>
    obtain ⟨a, u, a0, a1, rfl, ho, hr, hul, hb⟩ := hrel
    by_cases h0 : 0 ≤ a
    · obtain ⟨n, rfl⟩ := Int.eq_ofNat_of_zero_le h0
      obtain ⟨bb, o, rfl, hc, _, _⟩ := VersAt.at_ h n (by omega)
      have hp : -1 ≤ (gv l n).p ∧ (gv l n).p < (n : Int) := by have := ver_at hv.out n (by omega); omega
      obtain ⟨p0, p1⟩ := hp
      have hr2 : Hid (wayTo l i = wayTo l (gv l n).p ++ ([(n : Int)] ++ u)) := by
        have e := up_step hv.out (n : Int) (by omega) a1
        have e2 : wayTo l (n : Int) = wayTo l (gv l n).p ++ [(n : Int)] := by
          unfold wayTo; rw [e, List.reverse_cons]; rfl
        show _ = _
        rw [hr.out, e2, List.append_assoc]
      have hul2 : Hid (([(n : Int)] ++ u).length ≤ 60) := by
        show _ ≤ _
        have := congrArg List.length hr2.out
        rw [List.length_append] at this
        unfold wayTo at this
        rw [List.length_reverse] at this
        omega
      have hul1 := hul.out
      go_wp2_with (at_builtin; refine wp_app_ints _ rfl _ _ rfl w.heap.size _ [(n : Int)] rfl (OwnInts.lit1 wr w.heap.size (n : Int) hb.size) _ u rfl (IntsAt.below (ho.reads) ((Below.refl wr.heap.size wr).alloc (Nat.le_refl _) _) (Nat.le_refl _)) (by simp; omega) (by simp; have := hb.size; omega) ?_; intro v1 w1 ho1 hg1; have hb1 := (hb.alloc hb.size _).trans hg1.below; have hc1 := Below.keepCell hb1 hc (Nat.le_refl _))
      go_roundw
      case rel => exact ⟨(gv l n).p, [(n : Int)] ++ u, p0, by omega, rfl, ho1, hr2, hul2, hb1⟩
      case measure => simp [intOf]; omega
    · have hx : a = -1 := by omega
      subst hx
      have hf : Hid (wayTo l i = u) := by
        show _ = _
        rw [hr.out]; unfold wayTo; rw [up_neg l _ (by omega)]; rfl
      go_wp2_with fail
      go_ret
      exact ⟨_, rfl, hf.out ▸ ho, hb⟩
end Go.Proofs.YtgngnkndebkbmaaDoor
