/- Contracts: music (lists of measures): validity, counts, times. -/
import Derived.Test.YtnbpkealigfmjaaRecMeasure
import Derived.Deep.QuietTactic
import Derived.BigQuiet
import Derived.Deep.RegionHeld3
import Derived.Deep.DeepCutAuto
set_option linter.unusedSimpArgs false
set_option linter.unusedVariables false
namespace Go.Proofs.Ytnbpkealigfmjaa
open Go.RowKit

def muOk (x : Msr) : Bool := inR x.c 1 12 && inR x.t 40 220
def isMus (l : List Msr) : Bool := inR l.length 1 40 && (List.range l.length).all (fun i => muOk (gx msrRec l i))
def muTo (l : List Msr) (k : Nat) : Prop := ∀ i, i < k → muOk (gx msrRec l i) = true
theorem muTo_succ {l : List Msr} {k : Nat} (h : muTo l k) (hk : muOk (gx msrRec l k) = true) : muTo l (k + 1) := by
  intro i hi
  by_cases e : i = k
  · subst e; exact hk
  · exact h i (by omega)
theorem isMus_no {l : List Msr} {k : Nat} (hk : k < l.length) (h : muOk (gx msrRec l k) = false) : isMus l = false := by
  unfold isMus
  have : (List.range l.length).all (fun i => muOk (gx msrRec l i)) = false := by
    rw [List.all_eq_false]
    exact ⟨k, by simpa using hk, by rw [h]; decide⟩
  rw [this]; simp
theorem isMus_to {l : List Msr} (h : muTo l l.length) : isMus l = inR l.length 1 40 := by
  unfold isMus
  have : (List.range l.length).all (fun i => muOk (gx msrRec l i)) = true := by
    rw [List.all_eq_true]
    intro i hi
    exact h i (by simpa using hi)
  rw [this]; simp
theorem isMus_t {l : List Msr} (h : isMus l = true) : 1 ≤ l.length ∧ l.length ≤ 40 ∧ muTo l l.length := by
  unfold isMus at h
  rw [Bool.and_eq_true, List.all_eq_true] at h
  have := inR_t.1 h.1
  exact ⟨by omega, by omega, fun i hi => h.2 i (by simpa using hi)⟩
theorem muOk_t {x : Msr} (h : muOk x = true) : 1 ≤ x.c ∧ x.c ≤ 12 ∧ 40 ≤ x.t ∧ x.t ≤ 220 := by
  unfold muOk at h
  rw [Bool.and_eq_true] at h
  have h1 := inR_t.1 h.1
  have h2 := inR_t.1 h.2
  omega
/-- The counts of the first measures. -/
def cntTo (l : List Msr) : Nat → Int
  | 0 => 0
  | k + 1 => cntTo l k + (gx msrRec l k).c
theorem cntTo_succ (l : List Msr) (k : Nat) : cntTo l (k + 1) = cntTo l k + (gx msrRec l k).c := rfl
theorem cntTo_bd {l : List Msr} {k : Nat} (h : muTo l k) : (k : Int) ≤ cntTo l k ∧ cntTo l k ≤ 12 * k := by
  induction k with
  | zero => simp [cntTo]
  | succ k ih =>
    have := ih (fun i hi => h i (by omega))
    have := muOk_t (h k (by omega))
    rw [cntTo_succ]; omega
def counts (l : List Msr) : Int := cntTo l l.length
theorem counts_bd {l : List Msr} (h : isMus l = true) : 1 ≤ counts l ∧ counts l ≤ 480 := by
  have := isMus_t h
  have := cntTo_bd this.2.2
  unfold counts; omega
/-- The time of a count: what is left of the measures, of the count, and the time so far. -/
def tmFrom : List Msr → Int → Int → Int
  | [], _, s => s
  | x :: r, n, s => if n < x.c then s + Int.tdiv (60000 * n) x.t else tmFrom r (n - x.c) (s + Int.tdiv (60000 * x.c) x.t)
def tmOf (l : List Msr) (n : Int) : Int := tmFrom l n 0
theorem tmFrom_in {l : List Msr} {k : Nat} {n s : Int} (h : k < l.length) (hn : n < (gx msrRec l k).c) : tmFrom (l.drop k) n s = s + Int.tdiv (60000 * n) (gx msrRec l k).t := by
  rw [drop_gx msrRec l k h]; unfold tmFrom; rw [if_pos hn]
theorem tmFrom_on {l : List Msr} {k : Nat} {n s : Int} (h : k < l.length) (hn : ¬ n < (gx msrRec l k).c) : tmFrom (l.drop k) n s = tmFrom (l.drop (k + 1)) (n - (gx msrRec l k).c) (s + Int.tdiv (60000 * (gx msrRec l k).c) (gx msrRec l k).t) := by
  rw [drop_gx msrRec l k h]
  conv => lhs; unfold tmFrom
  rw [if_neg hn]
theorem tdiv_bd {a b : Int} (h1 : 0 ≤ a) (h2 : a ≤ 720000) (h3 : 40 ≤ b) : 0 ≤ Int.tdiv a b ∧ Int.tdiv a b ≤ 18000 := by
  rw [Int.tdiv_eq_ediv_of_nonneg h1]
  refine ⟨Int.ediv_nonneg h1 (by omega), ?_⟩
  have : a / b ≤ a / 40 := by
    apply Int.le_ediv_of_mul_le (by omega)
    have h5 : 0 ≤ a / b := Int.ediv_nonneg h1 (by omega)
    have h6 := Int.ediv_mul_le a (show b ≠ 0 by omega)
    have h7 : a / b * 40 ≤ a / b * b := Int.mul_le_mul_of_nonneg_left h3 h5
    omega
  omega
theorem tmFrom_bd {l : List Msr} {n s : Int} (h : ∀ x ∈ l, muOk x = true) (hn : 0 ≤ n) (hs : 0 ≤ s) : 0 ≤ tmFrom l n s ∧ tmFrom l n s ≤ s + 18000 * l.length := by
  induction l generalizing n s with
  | nil => simp [tmFrom]; exact hs
  | cons x r ih =>
    have hx := muOk_t (h x (by simp))
    unfold tmFrom
    split
    · have := tdiv_bd (a := 60000 * n) (b := x.t) (by omega) (by omega) (by omega)
      simp; omega
    · have := tdiv_bd (a := 60000 * x.c) (b := x.t) (by omega) (by omega) (by omega)
      have := ih (n := n - x.c) (s := s + Int.tdiv (60000 * x.c) x.t) (fun y hy => h y (by simp [hy])) (by omega) (by omega)
      simp; omega
theorem tmOf_bd {l : List Msr} (h : isMus l = true) {n : Int} (hn : 0 ≤ n) : 0 ≤ tmOf l n ∧ tmOf l n ≤ 720000 := by
  have ht := isMus_t h
  have := tmFrom_bd (l := l) (n := n) (s := 0) (fun x hx => by
    obtain ⟨i, hi, rfl⟩ := List.mem_iff_getElem.1 hx
    have := ht.2.2 i hi
    rwa [gx_eq hi] at this) hn (by omega)
  unfold tmOf; omega
set_option maxHeartbeats 1600000 in
theorem implIsMusic (v : Value) (l : List Msr) (w : World) (h : RowAt msrRec w v l) :
    Calls Try.prog 29 #[v] w fun e w' => e = .returned (.bool (isMus l)) ∧ Below w.heap.size w w' := by
  obtain ⟨A, c, rfl, hnc, hc63⟩ := h.shape
  go_enter Try.func29, Try.ntmps29
  go_wp2_with fail
  go_loopw [7] (fun s wr => ∃ k : Nat, k ≤ l.length ∧ s = .int .i64 k ∧ Hid (muTo l k) ∧ Below w.heap.size w wr) (fun s _ => l.length - (intOf s).toNat)
  case atStart => exact ⟨0, Nat.zero_le _, rfl, (fun i hi => absurd hi (by omega)), Below.refl _ _⟩
  case round =>
    obtain ⟨k, hk, rfl, hall, hb⟩ := hrel
    by_cases hlt : k < l.length
    · obtain ⟨b, o, rfl, hc0, hc1⟩ := msr_at (h.below hb (Nat.le_refl _)) k hlt
      have hy : ∀ o, Below w.heap.size w (wr.alloc o) := fun o => hb.alloc hb.size o
      have Hy := Lib.hid hy
      clear hy
      cases e0 : inR (gx msrRec l k).c 1 12
      case false =>
        have hr := Lib.hid (isMus_no hlt (by unfold muOk; rw [e0]; rfl))
        go_wp2_with (go_at_call 36; refine (within_any _ _ _ _).mono ?_; rintro e w' ⟨rfl, rfl⟩)
        go_ret
        exact ⟨ret_bool hr.out.symm, Hy.out _⟩
      case true =>
      cases e1 : inR (gx msrRec l k).t 40 220
      case false =>
        have hr := Lib.hid (isMus_no hlt (by unfold muOk; rw [e1]; simp))
        go_wp2_with (go_at_call 36; refine (within_any _ _ _ _).mono ?_; rintro e w' ⟨rfl, rfl⟩)
        go_ret
        exact ⟨ret_bool hr.out.symm, Hy.out _⟩
      case true =>
        have hn := Lib.hid (muTo_succ hall.out (by unfold muOk; rw [e0, e1]; rfl))
        go_wp2_with (go_at_call 36; refine (within_any _ _ _ _).mono ?_; rintro e w' ⟨rfl, rfl⟩)
        go_roundw
        case rel => exact ⟨k + 1, by omega, by go_num, hn, Hy.out _⟩
        case measure => simp [intOf]; omega
    · obtain rfl : k = l.length := by omega
      have hr := Lib.hid (isMus_to hall.out)
      go_wp2_with (go_at_call 36; refine (within_any _ _ _ _).mono ?_; rintro e w' ⟨rfl, rfl⟩)
      go_ret
      exact ⟨ret_bool hr.out.symm, hb⟩
theorem muMeasure_any (x : Msr) (w : World) :
    Calls Try.prog 59 #[.agg #[.int .i64 x.c, .int .i64 x.t]] w fun e w' => e = .returned (.bool (muOk x)) ∧ Below w.heap.size w w' := by
  have Hb := Lib.hid (fun o => (Below.refl w.heap.size w).alloc (Nat.le_refl _) o)
  unfold muOk
  cases e0 : inR x.c 1 12 <;> cases e1 : inR x.t 40 220
  all_goals
    go_enter Try.func59, Try.ntmps59
    go_wp2_with (go_at_call 60; refine (l1In_any _ _ _ _).mono ?_; rintro e w' ⟨rfl, rfl⟩)
    go_ret
    exact ⟨rfl, Hb.out _⟩
set_option maxHeartbeats 1600000 in
theorem muGood_any (v : Value) (l : List Msr) (w : World) (h : RowAt msrRec w v l) :
    Calls Try.prog 25 #[v] w fun e w' => e = .returned (.bool (isMus l)) ∧ Below w.heap.size w w' := by
  obtain ⟨A, c, rfl, hnc, hc63⟩ := h.shape
  go_enter Try.func25, Try.ntmps25
  go_wp2_with fail
  go_loopw [7] (fun s wr => ∃ k : Nat, k ≤ l.length ∧ s = .int .i64 k ∧ Hid (muTo l k) ∧ Below w.heap.size w wr) (fun s _ => l.length - (intOf s).toNat)
  case atStart => exact ⟨0, Nat.zero_le _, rfl, (fun i hi => absurd hi (by omega)), Below.refl _ _⟩
  case round =>
    obtain ⟨k, hk, rfl, hall, hb⟩ := hrel
    by_cases hlt : k < l.length
    · obtain ⟨b, o, rfl, hc0, hc1⟩ := msr_at (h.below hb (Nat.le_refl _)) k hlt
      have hy : ∀ o, Below w.heap.size w (wr.alloc o) := fun o => hb.alloc hb.size o
      have Hy := Lib.hid hy
      clear hy
      cases e0 : muOk (gx msrRec l k)
      case false =>
        have hr := Lib.hid (isMus_no hlt e0)
        go_wp2_with fail
        refine (muMeasure_any (gx msrRec l k) _).mono ?_; rintro e w1 ⟨rfl, b1⟩
        go_wp2_with fail
        go_ret
        exact ⟨ret_bool hr.out.symm, (Hy.out _).next (Nat.le_refl _) b1⟩
      case true =>
        have hn := Lib.hid (muTo_succ hall.out e0)
        go_wp2_with fail
        refine (muMeasure_any (gx msrRec l k) _).mono ?_; rintro e w1 ⟨rfl, b1⟩
        go_wp2_with fail
        go_roundw
        case rel => exact ⟨k + 1, by omega, by go_num, hn, (Hy.out _).next (Nat.le_refl _) b1⟩
        case measure => simp [intOf]; omega
    · obtain rfl : k = l.length := by omega
      have hr := Lib.hid (isMus_to hall.out)
      go_wp2_with (go_at_call 60; refine (l1In_any _ _ _ _).mono ?_; rintro e w' ⟨rfl, rfl⟩)
      go_ret
      exact ⟨ret_bool hr.out.symm, hb⟩
set_option maxHeartbeats 1600000 in
theorem countsOf_any (v : Value) (l : List Msr) (w : World) (h : RowAt msrRec w v l) (hm : isMus l = true) :
    Calls Try.prog 37 #[v] w fun e w' => e = .returned (.int .i64 (counts l)) ∧ Below w.heap.size w w' := by
  obtain ⟨A, c, rfl, hnc, hc63⟩ := h.shape
  have hmt := isMus_t hm
  obtain ⟨_, hl40, ht⟩ := hmt
  have Ht := Lib.hid ht
  clear ht hm
  go_enter Try.func37, Try.ntmps37
  go_wp2_with fail
  go_loopw [3, 8] (fun q s wr => ∃ k : Nat, k ≤ l.length ∧ s = .int .i64 k ∧ q = .int .i64 (cntTo l k) ∧ Below w.heap.size w wr) (fun _ s _ => l.length - (intOf s).toNat)
  case atStart => exact ⟨0, Nat.zero_le _, rfl, rfl, Below.refl _ _⟩
  case round =>
    obtain ⟨k, hk, rfl, rfl, hb⟩ := hrel
    have hbd := cntTo_bd (fun i (hi : i < k) => Ht.out i (by omega))
    obtain ⟨n1, n2⟩ := hbd
    by_cases hlt : k < l.length
    · obtain ⟨b, o, rfl, hc0, hc1⟩ := msr_at (h.below hb (Nat.le_refl _)) k hlt
      have hy : ∀ o, Below w.heap.size w (wr.alloc o) := fun o => hb.alloc hb.size o
      have Hy := Lib.hid hy
      clear hy
      have hx := muOk_t (Ht.out k hlt)
      obtain ⟨x1, x2, x3, x4⟩ := hx
      have hn := Lib.hid (cntTo_succ l k)
      go_wp2_with fail
      go_roundw
      case rel => exact ⟨k + 1, by omega, by go_num, by rw [hn.out], Hy.out _⟩
      case measure => simp [intOf]; omega
    · obtain rfl : k = l.length := by omega
      go_wp2_with fail
      go_ret
      exact ⟨rfl, hb⟩
set_option maxHeartbeats 1600000 in
theorem muCounts_any (v : Value) (l : List Msr) (w : World) (h : RowAt msrRec w v l) (hm : isMus l = true) :
    Calls Try.prog 40 #[v] w fun e w' => e = .returned (.int .i64 (counts l)) ∧ Below w.heap.size w w' := by
  obtain ⟨A, c, rfl, hnc, hc63⟩ := h.shape
  have hmt := isMus_t hm
  obtain ⟨_, hl40, ht⟩ := hmt
  have Ht := Lib.hid ht
  clear ht hm
  go_enter Try.func40, Try.ntmps40
  go_wp2_with fail
  go_loopw [3, 8] (fun q s wr => ∃ k : Nat, k ≤ l.length ∧ s = .int .i64 k ∧ q = .int .i64 (cntTo l k) ∧ Below w.heap.size w wr) (fun _ s _ => l.length - (intOf s).toNat)
  case atStart => exact ⟨0, Nat.zero_le _, rfl, rfl, Below.refl _ _⟩
  case round =>
    obtain ⟨k, hk, rfl, rfl, hb⟩ := hrel
    have hbd := cntTo_bd (fun i (hi : i < k) => Ht.out i (by omega))
    obtain ⟨n1, n2⟩ := hbd
    by_cases hlt : k < l.length
    · obtain ⟨b, o, rfl, hc0, hc1⟩ := msr_at (h.below hb (Nat.le_refl _)) k hlt
      have hy : ∀ o, Below w.heap.size w (wr.alloc o) := fun o => hb.alloc hb.size o
      have Hy := Lib.hid hy
      clear hy
      have hx := muOk_t (Ht.out k hlt)
      obtain ⟨x1, x2, x3, x4⟩ := hx
      have hn := Lib.hid (cntTo_succ l k)
      go_wp2_with fail
      go_roundw
      case rel => exact ⟨k + 1, by omega, by go_num, by rw [hn.out], Hy.out _⟩
      case measure => simp [intOf]; omega
    · obtain rfl : k = l.length := by omega
      go_wp2_with fail
      go_ret
      exact ⟨rfl, hb⟩
end Go.Proofs.Ytnbpkealigfmjaa
