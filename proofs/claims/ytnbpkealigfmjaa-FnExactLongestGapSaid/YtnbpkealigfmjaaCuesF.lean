/- Contracts: times of counts and cues; AreCues, NextCue, LongestGap, in the program and in the reference. -/
import Derived.Test.YtnbpkealigfmjaaCuesI
set_option linter.unusedSimpArgs false
set_option linter.unusedVariables false
namespace Go.Proofs.Ytnbpkealigfmjaa
open Go.RowKit

def goodC (m : List Msr) (l : List Cu) : Bool := isMus m && areC (counts m) l
theorem goodC_1 {m : List Msr} {l : List Cu} (h : isMus m = false) : goodC m l = false := by unfold goodC; rw [h]; rfl
theorem goodC_2 {m : List Msr} {l : List Cu} (h : isMus m = true) : goodC m l = areC (counts m) l := by unfold goodC; rw [h]; rfl
theorem goodC_t {m : List Msr} {l : List Cu} (h : goodC m l = true) : isMus m = true ∧ areC (counts m) l = true := by unfold goodC at h; simpa using h
def rAre (m : List Msr) (l : List Cu) : Bool × Bool := if isMus m then (areC (counts m) l, true) else (false, false)
theorem rAre_no {m : List Msr} {l : List Cu} (h : isMus m = false) : rAre m l = (false, false) := by unfold rAre; rw [h]; rfl
theorem rAre_yes {m : List Msr} {l : List Cu} (h : isMus m = true) : rAre m l = (areC (counts m) l, true) := by unfold rAre; rw [h]; rfl
/-- The first cue at a count or behind it. -/
def nxtC (n : Int) : List Cu → Nat → Int × Bool
  | [], _ => (0, false)
  | x :: l, k => if n ≤ x.c then ((k : Int), true) else nxtC n l (k + 1)
theorem nxtC_hit {n : Int} {l : List Cu} {k : Nat} (h : k < l.length) (e : n ≤ (gx cuRec l k).c) : nxtC n (l.drop k) k = ((k : Int), true) := by
  rw [drop_gx cuRec l k h]; unfold nxtC; rw [if_pos e]
theorem nxtC_miss {n : Int} {l : List Cu} {k : Nat} (h : k < l.length) (e : ¬ n ≤ (gx cuRec l k).c) : nxtC n (l.drop k) k = nxtC n (l.drop (k + 1)) (k + 1) := by
  rw [drop_gx cuRec l k h]
  conv => lhs; unfold nxtC
  rw [if_neg e]
def rNext (m : List Msr) (l : List Cu) (n : Int) : Int × Bool := if goodC m l && inR n 0 (counts m - 1) then nxtC n l 0 else (0, false)
theorem rNext_1 {m : List Msr} {l : List Cu} {n : Int} (h : goodC m l = false) : rNext m l n = (0, false) := by unfold rNext; rw [h]; rfl
theorem rNext_2 {m : List Msr} {l : List Cu} {n : Int} (h : inR n 0 (counts m - 1) = false) : rNext m l n = (0, false) := by unfold rNext; rw [h]; simp
theorem rNext_3 {m : List Msr} {l : List Cu} {n : Int} (h : goodC m l = true) (h2 : inR n 0 (counts m - 1) = true) : rNext m l n = nxtC n l 0 := by unfold rNext; rw [h, h2]; rfl
theorem tm_div {n t : Int} (h1 : 0 ≤ n) (h2 : n ≤ 480) (h3 : 40 ≤ t) : 0 ≤ Int.tdiv (60000 * n) t ∧ Int.tdiv (60000 * n) t ≤ 720000 := by
  rw [Int.tdiv_eq_ediv_of_nonneg (by omega)]
  refine ⟨Int.ediv_nonneg (by omega) (by omega), ?_⟩
  have h5 : 0 ≤ 60000 * n / t := Int.ediv_nonneg (by omega) (by omega)
  have h6 := Int.ediv_mul_le (60000 * n) (show t ≠ 0 by omega)
  have h7 : 60000 * n / t * 40 ≤ 60000 * n / t * t := Int.mul_le_mul_of_nonneg_left h3 h5
  omega
set_option maxHeartbeats 1600000 in
theorem haveCues_any (v1 v : Value) (m : List Msr) (l : List Cu) (w : World) (hM : RowAt msrRec w v1 m) (h : RowAt cuRec w v l) (hw : WfCues l) :
    Calls Try.prog 35 #[v1, v] w fun e w' => e = .returned (.bool (goodC m l)) ∧ Below w.heap.size w w' := by
  cases hm : isMus m
  · have hr := Lib.hid (goodC_1 (l := l) hm)
    go_enter Try.func35, Try.ntmps35
    go_wp2_with fail
    refine (implIsMusic _ m _ hM).mono ?_; rintro e w1 ⟨rfl, b1⟩
    go_wp2_with fail
    go_ret
    exact ⟨ret_bool hr.out.symm, b1⟩
  · have hr := Lib.hid (goodC_2 (l := l) hm)
    go_enter Try.func35, Try.ntmps35
    go_wp2_with fail
    refine (implIsMusic _ m _ hM).mono ?_; rintro e w1 ⟨rfl, b1⟩
    go_wp2_with fail
    refine (areCues_any _ _ m l _ (hM.below b1 (Nat.le_refl _)) (h.below b1 (Nat.le_refl _)) hw hm).mono ?_; rintro e w2 ⟨rfl, b2⟩
    go_wp2_with fail
    go_ret
    exact ⟨ret_bool hr.out.symm, b1.next (Nat.le_refl _) b2⟩
set_option maxHeartbeats 1600000 in
theorem implAre (v1 v : Value) (m : List Msr) (l : List Cu) (w : World) (hM : RowAt msrRec w v1 m) (h : RowAt cuRec w v l) (hw : WfCues l) :
    Calls Try.prog 12 #[v1, v] w fun e w' => e = .returned (.tuple #[.bool (rAre m l).1, .bool (rAre m l).2]) ∧ Below w.heap.size w w' := by
  cases hm : isMus m
  · have hr := Lib.hid (rAre_no (l := l) hm)
    go_enter Try.func12, Try.ntmps12
    go_wp2_with fail
    refine (implIsMusic _ m _ hM).mono ?_; rintro e w1 ⟨rfl, b1⟩
    go_wp2_with fail
    go_ret2
    exact ⟨by rw [hr.out]; rfl, b1⟩
  · have hr := Lib.hid (rAre_yes (l := l) hm)
    go_enter Try.func12, Try.ntmps12
    go_wp2_with fail
    refine (implIsMusic _ m _ hM).mono ?_; rintro e w1 ⟨rfl, b1⟩
    go_wp2_with fail
    refine (areCues_any _ _ m l _ (hM.below b1 (Nat.le_refl _)) (h.below b1 (Nat.le_refl _)) hw hm).mono ?_; rintro e w2 ⟨rfl, b2⟩
    go_wp2_with fail
    go_ret2
    exact ⟨by rw [hr.out]; rfl, b1.next (Nat.le_refl _) b2⟩
set_option maxHeartbeats 3200000 in
theorem implNext (v1 v : Value) (m : List Msr) (l : List Cu) (n : Int) (w : World) (hM : RowAt msrRec w v1 m) (h : RowAt cuRec w v l) (hw1 : WfCues l) :
    Calls Try.prog 16 #[v1, v, .int .i64 n] w fun e w' => e = .returned (.tuple #[.int .i64 (rNext m l n).1, .bool (rNext m l n).2]) ∧ Below w.heap.size w w' := by
  obtain ⟨A, c, rfl, hnc, hc63⟩ := h.shape
  have Hw := Lib.hid hw1
  clear hw1
  cases hg : goodC m l
  · have hr := Lib.hid (rNext_1 (n := n) hg)
    go_enter Try.func16, Try.ntmps16
    go_wp2_with fail
    refine (haveCues_any _ _ m l _ hM h Hw.out).mono ?_; rintro e w1 ⟨rfl, b1⟩
    go_wp2_with fail
    go_ret2
    exact ⟨by rw [hr.out]; rfl, b1⟩
  have hgt := goodC_t hg
  obtain ⟨hm, _⟩ := hgt
  obtain ⟨N, hN⟩ : ∃ N, N = counts m := ⟨_, rfl⟩
  have hNb : 1 ≤ N ∧ N ≤ 480 := by rw [hN]; exact counts_bd hm
  obtain ⟨n1, n2⟩ := hNb
  have hMC : ∀ w', RowAt msrRec w' v1 m → Calls Try.prog 37 #[v1] w' (fun e w'' => e = .returned (.int .i64 N) ∧ Below w'.heap.size w' w'') := fun w' h' => by rw [hN]; exact countsOf_any _ m w' h' hm
  have HMC := Lib.hid hMC
  clear hMC hm
  have hw8 : IntKind.i64.wrap (N - 1) = N - 1 := IntWalk.i64_in _ (by omega)
  cases hs : inR n 0 (N - 1)
  · have hr := Lib.hid (rNext_2 (m := m) (l := l) (n := n) (by rw [← hN]; exact hs))
    clear hN
    go_enter Try.func16, Try.ntmps16
    go_wp2_with fail
    refine (haveCues_any _ _ m l _ hM h Hw.out).mono ?_; rintro e w1 ⟨rfl, b1⟩
    go_wp2_with fail
    refine (HMC.out _ (hM.below b1 (Nat.le_refl _))).mono ?_; rintro e w2 ⟨rfl, b2⟩
    go_wp2_with (go_at_call 36; refine (within_any _ _ _ _).mono ?_; rintro e w3 ⟨rfl, rfl⟩)
    go_ret2
    exact ⟨by rw [hr.out]; rfl, (b1.next (Nat.le_refl _) b2)⟩
  · have hr := Lib.hid (rNext_3 (n := n) hg (by rw [← hN]; exact hs))
    clear hN
    go_enter Try.func16, Try.ntmps16
    go_wp2_with fail
    refine (haveCues_any _ _ m l _ hM h Hw.out).mono ?_; rintro e w1 ⟨rfl, b1⟩
    go_wp2_with fail
    refine (HMC.out _ (hM.below b1 (Nat.le_refl _))).mono ?_; rintro e w2 ⟨rfl, b2⟩
    go_wp2_with (go_at_call 36; refine (within_any _ _ _ _).mono ?_; rintro e w3 ⟨rfl, rfl⟩)
    have hb9 := (b1.next (Nat.le_refl _) b2)
    go_loopw [24] (fun s wr => ∃ k : Nat, k ≤ l.length ∧ s = .int .i64 k ∧ Hid (nxtC n l 0 = nxtC n (l.drop k) k) ∧ Below w.heap.size w wr) (fun s _ => l.length - (intOf s).toNat)
    case atStart => exact ⟨0, Nat.zero_le _, rfl, rfl, hb9⟩
    case round =>
      obtain ⟨k, hk, rfl, hfn, hb⟩ := hrel
      by_cases hlt : k < l.length
      · obtain ⟨b, o, rfl, hc0, hc1⟩ := cu_at (h.below hb (Nat.le_refl _)) k hlt
        have hy : ∀ o, Below w.heap.size w (wr.alloc o) := fun o => hb.alloc hb.size o
        have Hy := Lib.hid hy
        clear hy
        by_cases hx : n ≤ (gx cuRec l k).c
        · have hn := Lib.hid (hr.out.trans (hfn.out.trans (nxtC_hit hlt hx)))
          go_wp2_with fail
          go_ret2
          exact ⟨by rw [hn.out]; rfl, Hy.out _⟩
        · have hn := Lib.hid (hfn.out.trans (nxtC_miss hlt hx))
          go_wp2_with fail
          go_roundw
          case rel => exact ⟨k + 1, by omega, by go_num, hn, Hy.out _⟩
          case measure => simp [intOf]; omega
      · obtain rfl : k = l.length := by omega
        have hn : Hid (rNext m l n = (0, false)) := by
          show _ = _
          rw [hr.out, hfn.out, List.drop_length]; rfl
        go_wp2_with fail
        go_ret2
        exact ⟨by rw [hn.out]; rfl, hb⟩
set_option maxHeartbeats 1600000 in
theorem tiGood_any (v1 v : Value) (m : List Msr) (l : List Cu) (w : World) (hM : RowAt msrRec w v1 m) (h : RowAt cuRec w v l) (hw : WfCues l) :
    Calls Try.prog 33 #[v1, v] w fun e w' => e = .returned (.bool (goodC m l)) ∧ Below w.heap.size w w' := by
  cases hm : isMus m
  · have hr := Lib.hid (goodC_1 (l := l) hm)
    go_enter Try.func33, Try.ntmps33
    go_wp2_with fail
    refine (muGood_any _ m _ hM).mono ?_; rintro e w1 ⟨rfl, b1⟩
    go_wp2_with fail
    go_ret
    exact ⟨ret_bool hr.out.symm, b1⟩
  · have hr := Lib.hid (goodC_2 (l := l) hm)
    go_enter Try.func33, Try.ntmps33
    go_wp2_with fail
    refine (muGood_any _ m _ hM).mono ?_; rintro e w1 ⟨rfl, b1⟩
    go_wp2_with fail
    refine (tiCues_any _ _ m l _ (hM.below b1 (Nat.le_refl _)) (h.below b1 (Nat.le_refl _)) hw hm).mono ?_; rintro e w2 ⟨rfl, b2⟩
    go_wp2_with fail
    go_ret
    exact ⟨ret_bool hr.out.symm, b1.next (Nat.le_refl _) b2⟩
set_option maxHeartbeats 1600000 in
theorem specAre (v1 v : Value) (m : List Msr) (l : List Cu) (w : World) (hM : RowAt msrRec w v1 m) (h : RowAt cuRec w v l) (hw : WfCues l) :
    Calls Try.prog 9 #[v1, v] w fun e w' => e = .returned (.tuple #[.bool (rAre m l).1, .bool (rAre m l).2]) ∧ Below w.heap.size w w' := by
  cases hm : isMus m
  · have hr := Lib.hid (rAre_no (l := l) hm)
    go_enter Try.func9, Try.ntmps9
    go_wp2_with fail
    refine (muGood_any _ m _ hM).mono ?_; rintro e w1 ⟨rfl, b1⟩
    go_wp2_with fail
    go_ret2
    exact ⟨by rw [hr.out]; rfl, b1⟩
  · have hr := Lib.hid (rAre_yes (l := l) hm)
    go_enter Try.func9, Try.ntmps9
    go_wp2_with fail
    refine (muGood_any _ m _ hM).mono ?_; rintro e w1 ⟨rfl, b1⟩
    go_wp2_with fail
    refine (tiCues_any _ _ m l _ (hM.below b1 (Nat.le_refl _)) (h.below b1 (Nat.le_refl _)) hw hm).mono ?_; rintro e w2 ⟨rfl, b2⟩
    go_wp2_with fail
    go_ret2
    exact ⟨by rw [hr.out]; rfl, b1.next (Nat.le_refl _) b2⟩
set_option maxHeartbeats 1600000 in
theorem muHas_any (v : Value) (m : List Msr) (n : Int) (w : World) (hM : RowAt msrRec w v m) (hm : isMus m = true) :
    Calls Try.prog 34 #[v, .int .i64 n] w fun e w' => e = .returned (.bool (inR n 0 (counts m - 1))) ∧ Below w.heap.size w w' := by
  obtain ⟨N, hN⟩ : ∃ N, N = counts m := ⟨_, rfl⟩
  have hNb : 1 ≤ N ∧ N ≤ 480 := by rw [hN]; exact counts_bd hm
  obtain ⟨n1, n2⟩ := hNb
  have hMC : ∀ w', RowAt msrRec w' v m → Calls Try.prog 40 #[v] w' (fun e w'' => e = .returned (.int .i64 N) ∧ Below w'.heap.size w' w'') := fun w' h' => by rw [hN]; exact muCounts_any _ m w' h' hm
  have HMC := Lib.hid hMC
  rw [← hN]
  clear hMC hN
  have hw8 : IntKind.i64.wrap (N - 1) = N - 1 := IntWalk.i64_in _ (by omega)
  go_enter Try.func34, Try.ntmps34
  go_wp2_with fail
  refine (muGood_any _ m _ hM).mono ?_; rintro e w1 ⟨rfl, b1⟩
  go_wp2_with fail
  refine (HMC.out _ (hM.below b1 (Nat.le_refl _))).mono ?_; rintro e w2 ⟨rfl, b2⟩
  go_wp2_with (go_at_call 60; refine (l1In_any _ _ _ _).mono ?_; rintro e w3 ⟨rfl, rfl⟩)
  go_ret
  exact ⟨rfl, b1.next (Nat.le_refl _) b2⟩
set_option maxHeartbeats 3200000 in
theorem specNext (v1 v : Value) (m : List Msr) (l : List Cu) (n : Int) (w : World) (hM : RowAt msrRec w v1 m) (h : RowAt cuRec w v l) (hw1 : WfCues l) :
    Calls Try.prog 15 #[v1, v, .int .i64 n] w fun e w' => e = .returned (.tuple #[.int .i64 (rNext m l n).1, .bool (rNext m l n).2]) ∧ Below w.heap.size w w' := by
  obtain ⟨A, c, rfl, hnc, hc63⟩ := h.shape
  have Hw := Lib.hid hw1
  clear hw1
  cases hg : goodC m l
  · have hr := Lib.hid (rNext_1 (n := n) hg)
    go_enter Try.func15, Try.ntmps15
    go_wp2_with fail
    refine (tiGood_any _ _ m l _ hM h Hw.out).mono ?_; rintro e w1 ⟨rfl, b1⟩
    go_wp2_with fail
    go_ret2
    exact ⟨by rw [hr.out]; rfl, b1⟩
  have hgt := goodC_t hg
  obtain ⟨hm, _⟩ := hgt
  obtain ⟨N, hN⟩ : ∃ N, N = counts m := ⟨_, rfl⟩
  have hNb : 1 ≤ N ∧ N ≤ 480 := by rw [hN]; exact counts_bd hm
  obtain ⟨n1, n2⟩ := hNb
  have hHas : ∀ w', RowAt msrRec w' v1 m → Calls Try.prog 34 #[v1, .int .i64 n] w' (fun e w'' => e = .returned (.bool (inR n 0 (N - 1))) ∧ Below w'.heap.size w' w'') := fun w' h' => by rw [hN]; exact muHas_any _ m n w' h' hm
  have HHas := Lib.hid hHas
  clear hHas hm
  cases hs : inR n 0 (N - 1)
  · have hr := Lib.hid (rNext_2 (m := m) (l := l) (n := n) (by rw [← hN]; exact hs))
    clear hN
    go_enter Try.func15, Try.ntmps15
    go_wp2_with fail
    refine (tiGood_any _ _ m l _ hM h Hw.out).mono ?_; rintro e w1 ⟨rfl, b1⟩
    go_wp2_with fail
    refine (HHas.out _ (hM.below b1 (Nat.le_refl _))).mono ?_; rintro e w2 ⟨rfl, b2⟩
    go_wp2_with fail
    go_ret2
    exact ⟨by rw [hr.out]; rfl, (b1.next (Nat.le_refl _) b2)⟩
  · have hr := Lib.hid (rNext_3 (n := n) hg (by rw [← hN]; exact hs))
    clear hN
    go_enter Try.func15, Try.ntmps15
    go_wp2_with fail
    refine (tiGood_any _ _ m l _ hM h Hw.out).mono ?_; rintro e w1 ⟨rfl, b1⟩
    go_wp2_with fail
    refine (HHas.out _ (hM.below b1 (Nat.le_refl _))).mono ?_; rintro e w2 ⟨rfl, b2⟩
    go_wp2_with fail
    have hb9 := (b1.next (Nat.le_refl _) b2)
    go_loopw [22] (fun s wr => ∃ k : Nat, k ≤ l.length ∧ s = .int .i64 k ∧ Hid (nxtC n l 0 = nxtC n (l.drop k) k) ∧ Below w.heap.size w wr) (fun s _ => l.length - (intOf s).toNat)
    case atStart => exact ⟨0, Nat.zero_le _, rfl, rfl, hb9⟩
    case round =>
      obtain ⟨k, hk, rfl, hfn, hb⟩ := hrel
      by_cases hlt : k < l.length
      · obtain ⟨b, o, rfl, hc0, hc1⟩ := cu_at (h.below hb (Nat.le_refl _)) k hlt
        have hy : ∀ o, Below w.heap.size w (wr.alloc o) := fun o => hb.alloc hb.size o
        have Hy := Lib.hid hy
        clear hy
        by_cases hx : n ≤ (gx cuRec l k).c
        · have hn := Lib.hid (hr.out.trans (hfn.out.trans (nxtC_hit hlt hx)))
          go_wp2_with fail
          go_ret2
          exact ⟨by rw [hn.out]; rfl, Hy.out _⟩
        · have hn := Lib.hid (hfn.out.trans (nxtC_miss hlt hx))
          go_wp2_with fail
          go_roundw
          case rel => exact ⟨k + 1, by omega, by go_num, hn, Hy.out _⟩
          case measure => simp [intOf]; omega
      · obtain rfl : k = l.length := by omega
        have hn : Hid (rNext m l n = (0, false)) := by
          show _ = _
          rw [hr.out, hfn.out, List.drop_length]; rfl
        go_wp2_with fail
        go_ret2
        exact ⟨by rw [hn.out]; rfl, hb⟩
end Go.Proofs.Ytnbpkealigfmjaa
