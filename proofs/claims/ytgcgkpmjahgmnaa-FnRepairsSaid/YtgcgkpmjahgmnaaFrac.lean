/- Fractions: comparison, lowest terms, in the program and in the reference. -/
import Derived.Test.YtgcgkpmjahgmnaaHelp
import Derived.Test.YtgcgkpmjahgmnaaShelf
import Derived.IntWalk
set_option linter.unusedSimpArgs false
set_option linter.unusedVariables false
namespace Go.Proofs.Ytgcgkpmjahgmnaa
open Go.RowKit

theorem ret_two {a b c d : Int} (h1 : a = c) (h2 : b = d) : Ending.returned (.tuple #[.int .i64 a, .int .i64 b]) = .returned (.tuple #[.int .i64 c, .int .i64 d]) := by rw [h1, h2]
/-! ### a / b < c / d -/
theorem less_hl (x y : Nat) : (decide (x / 18446744073709551616 < y / 18446744073709551616) || (decide (x / 18446744073709551616 = y / 18446744073709551616) && decide (x % 18446744073709551616 < y % 18446744073709551616))) = decide (x < y) := by
  rw [Bool.eq_iff_iff]
  simp only [Bool.or_eq_true, Bool.and_eq_true, decide_eq_true_eq]
  omega
theorem less_qr {a b c d : Nat} (hb : 0 < b) (hd : 0 < d) : (if a / b ≠ c / d then decide (a / b < c / d) else decide (a % b * d < c % d * b)) = decide (a * d < c * b) := by
  have ea : a * d = b * d * (a / b) + a % b * d := by
    conv => lhs; rw [← Nat.div_add_mod a b]
    rw [Nat.add_mul, Nat.mul_assoc, Nat.mul_comm (a / b) d, ← Nat.mul_assoc]
  have ec : c * b = b * d * (c / d) + c % d * b := by
    conv => lhs; rw [← Nat.div_add_mod c d]
    rw [Nat.add_mul, Nat.mul_assoc, Nat.mul_comm (c / d) b, ← Nat.mul_assoc, Nat.mul_comm d b]
  have r1 : a % b * d < b * d := Nat.mul_lt_mul_of_pos_right (Nat.mod_lt _ hb) hd
  have r2 : c % d * b < b * d := by rw [Nat.mul_comm b d]; exact Nat.mul_lt_mul_of_pos_right (Nat.mod_lt _ hd) hb
  rw [ea, ec]
  generalize a % b * d = x at *
  generalize c % d * b = y at *
  generalize a / b = p at *
  generalize c / d = q at *
  generalize b * d = m at *
  by_cases h : p = q
  · subst h
    rw [if_neg (by simp)]
    exact decide_eq_decide.2 (by omega)
  · rw [if_pos h]
    refine decide_eq_decide.2 ?_
    rcases Nat.lt_or_gt_of_ne h with h9 | h9
    · have : m * (p + 1) ≤ m * q := Nat.mul_le_mul_left _ h9
      rw [Nat.mul_add, Nat.mul_one] at this
      constructor
      · intro _; omega
      · intro _; exact h9
    · have : m * (q + 1) ≤ m * p := Nat.mul_le_mul_left _ h9
      rw [Nat.mul_add, Nat.mul_one] at this
      constructor
      · intro _; omega
      · intro _; omega
set_option maxHeartbeats 1600000 in
theorem lessFraction_any (a b c d : Nat) (w : World) (ha : a ≤ 9223372036854775807) (hb : b ≤ 9223372036854775807) (hc : c ≤ 9223372036854775807) (hd : d ≤ 9223372036854775807) :
    Calls Try.prog 91 #[.int .i64 a, .int .i64 b, .int .i64 c, .int .i64 d] w fun e w' => e = .returned (.bool (decide (a * d < c * b))) ∧ w = w' := by
  have u1 : IntKind.u64.wrap (a : Int) = (a : Int) := by rw [IntKind.wrap_u64]; omega
  have u2 : IntKind.u64.wrap (b : Int) = (b : Int) := by rw [IntKind.wrap_u64]; omega
  have u3 : IntKind.u64.wrap (c : Int) = (c : Int) := by rw [IntKind.wrap_u64]; omega
  have u4 : IntKind.u64.wrap (d : Int) = (d : Int) := by rw [IntKind.wrap_u64]; omega
  have C1 := Lib.hid (fun W => Try.bits_Mul64 a d (by omega) (by omega) W)
  have C2 := Lib.hid (fun W => Try.bits_Mul64 c b (by omega) (by omega) W)
  have H := Lib.hid (less_hl (a * d) (c * b))
  obtain ⟨x, hx⟩ : ∃ x, x = a * d := ⟨_, rfl⟩
  obtain ⟨y, hy⟩ : ∃ y, y = c * b := ⟨_, rfl⟩
  rw [← hx] at C1 H
  rw [← hy] at C2 H
  rw [← hx, ← hy]
  clear hx hy
  obtain ⟨p, hp⟩ : ∃ p, p = x / 18446744073709551616 := ⟨_, rfl⟩
  obtain ⟨q, hq⟩ : ∃ q, q = x % 18446744073709551616 := ⟨_, rfl⟩
  obtain ⟨r, hr⟩ : ∃ r, r = y / 18446744073709551616 := ⟨_, rfl⟩
  obtain ⟨s, hs⟩ : ∃ s, s = y % 18446744073709551616 := ⟨_, rfl⟩
  rw [← hp, ← hq] at C1
  rw [← hr, ← hs] at C2
  rw [← hp, ← hq, ← hr, ← hs] at H
  clear hp hq hr hs
  rcases Nat.lt_trichotomy p r with h9 | h9 | h9
  · have hf := H.out
    rw [decide_eq_true h9, Bool.true_or] at hf
    have Hf := Lib.hid hf
    clear hf
    go_enter Try.func91, Try.ntmps91
    go_wp2_with fail
    refine (C1.out _).mono ?_; rintro e _ ⟨rfl, rfl⟩
    go_wp2_with fail
    refine (C2.out _).mono ?_; rintro e _ ⟨rfl, rfl⟩
    go_wp2_with fail
    go_ret
    exact ⟨ret_bool Hf.out, rfl⟩
  · subst h9
    have hf := H.out
    rw [decide_eq_false (by omega : ¬ p < p), decide_eq_true rfl, Bool.false_or, Bool.true_and] at hf
    have Hf := Lib.hid hf
    clear hf
    by_cases h8 : q < s
    · go_enter Try.func91, Try.ntmps91
      go_wp2_with fail
      refine (C1.out _).mono ?_; rintro e _ ⟨rfl, rfl⟩
      go_wp2_with fail
      refine (C2.out _).mono ?_; rintro e _ ⟨rfl, rfl⟩
      go_wp2_with fail
      go_ret
      exact ⟨ret_bool (by rw [← Hf.out, decide_eq_true h8] <;> rfl), rfl⟩
    · go_enter Try.func91, Try.ntmps91
      go_wp2_with fail
      refine (C1.out _).mono ?_; rintro e _ ⟨rfl, rfl⟩
      go_wp2_with fail
      refine (C2.out _).mono ?_; rintro e _ ⟨rfl, rfl⟩
      go_wp2_with fail
      go_ret
      exact ⟨ret_bool (by rw [← Hf.out, decide_eq_false h8] <;> rfl), rfl⟩
  · have hf := H.out
    rw [decide_eq_false (by omega : ¬ p < r), decide_eq_false (by omega : ¬ p = r), Bool.false_or, Bool.false_and] at hf
    have Hf := Lib.hid hf
    have hne : ((p : Int) == (r : Int)) = false := by rw [beq_eq_false_iff_ne]; omega
    clear hf
    go_enter Try.func91, Try.ntmps91
    go_wp2_with fail
    refine (C1.out _).mono ?_; rintro e _ ⟨rfl, rfl⟩
    go_wp2_with fail
    refine (C2.out _).mono ?_; rintro e _ ⟨rfl, rfl⟩
    go_wp2_with fail
    go_ret
    exact ⟨ret_bool (by rw [← Hf.out]; exact decide_eq_false (by omega)), rfl⟩
theorem tdivN (a b : Nat) : (a : Int).tdiv (b : Int) = ((a / b : Nat) : Int) := by rw [Int.tdiv_eq_ediv_of_nonneg (by omega)]; rfl
theorem tmodN (a b : Nat) : (a : Int).tmod (b : Int) = ((a % b : Nat) : Int) := by rw [Int.tmod_eq_emod_of_nonneg (by omega)]; rfl
set_option maxHeartbeats 1600000 in
theorem apLess_any (a b c d : Nat) (w : World) (ha : a ≤ 4000000000000000000) (hc : c ≤ 4000000000000000000) (hb : 0 < b) (hb2 : b ≤ 2147483648) (hd : 0 < d) (hd2 : d ≤ 2147483648) :
    Calls Try.prog 85 #[.int .i64 a, .int .i64 b, .int .i64 c, .int .i64 d] w fun e w' => e = .returned (.bool (decide (a * d < c * b))) ∧ Below w.heap.size w w' := by
  have H := Lib.hid (less_qr (a := a) (c := c) hb hd)
  have q1 := tdivN a b
  have q2 := tdivN c d
  have q3 := tmodN a b
  have q4 := tmodN c d
  have r1 : a % b * d ≤ 2147483648 * 2147483648 := Nat.mul_le_mul (by have := Nat.mod_lt a hb; omega) hd2
  have r2 : c % d * b ≤ 2147483648 * 2147483648 := Nat.mul_le_mul (by have := Nat.mod_lt c hd; omega) hb2
  have l1 : a / b ≤ a := Nat.div_le_self _ _
  have l2 : c / d ≤ c := Nat.div_le_self _ _
  have m1 : ((a % b : Nat) : Int) * (d : Int) = ((a % b * d : Nat) : Int) := (Int.natCast_mul _ _).symm
  have m2 : ((c % d : Nat) : Int) * (b : Int) = ((c % d * b : Nat) : Int) := (Int.natCast_mul _ _).symm
  obtain ⟨p, hp⟩ : ∃ p, p = a / b := ⟨_, rfl⟩
  obtain ⟨q, hq⟩ : ∃ q, q = c / d := ⟨_, rfl⟩
  obtain ⟨x, hx⟩ : ∃ x, x = a % b * d := ⟨_, rfl⟩
  obtain ⟨y, hy⟩ : ∃ y, y = c % d * b := ⟨_, rfl⟩
  rw [← hp] at q1 l1
  rw [← hq] at q2 l2
  rw [← hx] at r1 m1
  rw [← hy] at r2 m2
  rw [← hp, ← hq, ← hx, ← hy] at H
  clear hp hq hx hy
  obtain ⟨u, hu⟩ : ∃ u, u = a % b := ⟨_, rfl⟩
  obtain ⟨v, hv⟩ : ∃ v, v = c % d := ⟨_, rfl⟩
  have hub : u ≤ b := by rw [hu]; exact Nat.le_of_lt (Nat.mod_lt _ hb)
  have hvd : v ≤ d := by rw [hv]; exact Nat.le_of_lt (Nat.mod_lt _ hd)
  rw [← hu] at q3 m1
  rw [← hv] at q4 m2
  clear hu hv
  have b0 : ¬ (b : Int) = 0 := by omega
  have d0 : ¬ (d : Int) = 0 := by omega
  have b1 : ¬ (b : Int) = -1 := by omega
  have d1 : ¬ (d : Int) = -1 := by omega
  have z1 : IntKind.i64.wrap (p : Int) = (p : Int) := IntWalk.i64_in _ (by omega)
  have z2 : IntKind.i64.wrap (q : Int) = (q : Int) := IntWalk.i64_in _ (by omega)
  have z3 : IntKind.i64.wrap (u : Int) = (u : Int) := IntWalk.i64_in _ (by omega)
  have z4 : IntKind.i64.wrap (v : Int) = (v : Int) := IntWalk.i64_in _ (by omega)
  have z5 : IntKind.i64.wrap (x : Int) = (x : Int) := IntWalk.i64_in _ (by omega)
  have z6 : IntKind.i64.wrap (y : Int) = (y : Int) := IntWalk.i64_in _ (by omega)
  have hb0 := Below.refl w.heap.size w
  by_cases h9 : p = q
  · have hf := H.out
    rw [if_neg (by simp [h9])] at hf
    have Hf := Lib.hid hf
    have hne : ((p : Int) != (q : Int)) = false := by rw [h9]; simp
    clear hf h9 H
    go_enter Try.func85, Try.ntmps85
    go_wp2_with fail
    go_quiet (fail)
    go_wp2_with fail
    go_quiet (fail)
    go_wp2_with fail
    go_ret
    exact ⟨ret_bool (by rw [← Hf.out]), (hb0.drewN _).drewN _⟩
  · have hf := H.out
    rw [if_pos h9] at hf
    have Hf := Lib.hid hf
    have hne : ((p : Int) != (q : Int)) = true := by simp; omega
    clear hf h9 H
    go_enter Try.func85, Try.ntmps85
    go_wp2_with fail
    go_quiet (fail)
    go_wp2_with fail
    go_quiet (fail)
    go_wp2_with fail
    go_ret
    exact ⟨ret_bool (by rw [← Hf.out]), (hb0.drewN _).drewN _⟩
/-! ### Lowest terms -/
set_option maxHeartbeats 1600000 in
theorem gcdOf_any (a b : Nat) (w : World) (ha : a ≤ 4611686018427387904) (hb : b ≤ 4611686018427387904) :
    Calls Try.prog 102 #[.int .i64 a, .int .i64 b] w fun e w' => e = .returned (.int .i64 (Nat.gcd a b : Nat)) ∧ Below w.heap.size w w' := by
  have m1 : max (a : Int) (-(a : Int)) = (a : Int) := by omega
  have m2 : max (b : Int) (-(b : Int)) = (b : Int) := by omega
  have n1 : IntKind.i64.wrap (-(a : Int)) = -(a : Int) := IntWalk.i64_in _ (by omega)
  have n2 : IntKind.i64.wrap (-(b : Int)) = -(b : Int) := IntWalk.i64_in _ (by omega)
  go_enter Try.func102, Try.ntmps102
  go_wp2_with fail
  clear m1 m2 n1 n2
  go_loopw [0, 1] (fun s t wr => ∃ m n : Nat, s = .int .i64 m ∧ t = .int .i64 n ∧ Hid (Nat.gcd m n = Nat.gcd a b) ∧ m ≤ 4611686018427387904 ∧ n ≤ 4611686018427387904 ∧ Below w.heap.size w wr) (fun _ t _ => (intOf t).toNat)
  case atStart => exact ⟨a, b, by go_num, by go_num, rfl, ha, hb, Below.refl _ _⟩
  case round =>
    obtain ⟨m, n, rfl, rfl, hg, hm, hn, hbw⟩ := hrel
    rcases Nat.eq_zero_or_pos n with h0 | h0
    · subst h0
      have h2 := hg.out
      rw [Nat.gcd_zero_right] at h2
      have H2 := Lib.hid h2
      clear h2
      go_wp2_with fail
      go_ret
      exact ⟨ret_int (by rw [← H2.out]), hbw⟩
    · have q3 := tmodN m n
      have hlt := Nat.mod_lt m h0
      have hg2 : Hid (Nat.gcd n (m % n) = Nat.gcd a b) := by show _ = _; rw [← hg.out, Nat.gcd_comm m n, Nat.gcd_rec n m, Nat.gcd_comm]
      obtain ⟨r, hr⟩ : ∃ r, r = m % n := ⟨_, rfl⟩
      rw [← hr] at q3 hlt hg2
      clear hr
      have n0 : ¬ (n : Int) = 0 := by omega
      have n1 : ¬ (n : Int) = -1 := by omega
      have n2 : ((n : Int) != 0) = true := by simp; omega
      have z3 : IntKind.i64.wrap (r : Int) = (r : Int) := IntWalk.i64_in _ (by omega)
      go_wp2_with fail
      go_quiet (fail)
      clear z3 q3
      go_wp2_with fail
      go_roundw
      case rel => exact ⟨n, r, rfl, rfl, hg2, hn, by omega, hbw.drewN _⟩
      case measure => simp [intOf]; omega
/-- A fraction in lowest terms. -/
def lowN (a b : Nat) : Nat × Nat := (a / Nat.gcd a b, b / Nat.gcd a b)
theorem lowN_mul {a b : Nat} (hb : 0 < b) : ∃ g, 0 < g ∧ a = (lowN a b).1 * g ∧ b = (lowN a b).2 * g ∧ 0 < (lowN a b).2 := by
  have hg : 0 < Nat.gcd a b := Nat.gcd_pos_of_pos_right a hb
  have e1 := (Nat.div_mul_cancel (Nat.gcd_dvd_left a b)).symm
  have e2 := (Nat.div_mul_cancel (Nat.gcd_dvd_right a b)).symm
  refine ⟨Nat.gcd a b, hg, e1, e2, ?_⟩
  exact Nat.div_pos (Nat.le_of_dvd hb (Nat.gcd_dvd_right a b)) hg
theorem lowN_le (a b : Nat) : (lowN a b).1 ≤ a ∧ (lowN a b).2 ≤ b := ⟨Nat.div_le_self _ _, Nat.div_le_self _ _⟩
set_option maxHeartbeats 1600000 in
theorem lowestTerms_any (a b : Nat) (w : World) (ha : a ≤ 4611686018427387904) (hb : b ≤ 4611686018427387904) (h0 : 0 < b) :
    Calls Try.prog 92 #[.int .i64 a, .int .i64 b] w fun e w' => e = .returned (.tuple #[.int .i64 (lowN a b).1, .int .i64 (lowN a b).2]) ∧ Below w.heap.size w w' := by
  have C := Lib.hid (gcdOf_any a b w ha hb)
  have hg : 0 < Nat.gcd a b := Nat.gcd_pos_of_pos_right a h0
  have hgb : Nat.gcd a b ≤ b := Nat.le_of_dvd h0 (Nat.gcd_dvd_right a b)
  have hl := lowN_le a b
  have q1 : (a : Int).tdiv (Nat.gcd a b : Nat) = ((lowN a b).1 : Int) := tdivN a (Nat.gcd a b)
  have q2 : (b : Int).tdiv (Nat.gcd a b : Nat) = ((lowN a b).2 : Int) := tdivN b (Nat.gcd a b)
  obtain ⟨g, hg9⟩ : ∃ g, g = Nat.gcd a b := ⟨_, rfl⟩
  rw [← hg9] at C hg hgb q1 q2
  clear hg9
  obtain ⟨p, hp⟩ : ∃ p, p = (lowN a b).1 := ⟨_, rfl⟩
  obtain ⟨q, hq⟩ : ∃ q, q = (lowN a b).2 := ⟨_, rfl⟩
  rw [← hp] at q1 hl
  rw [← hq] at q2 hl
  rw [← hp, ← hq]
  clear hp hq
  have g0 : ¬ (g : Int) = 0 := by omega
  have g1 : ¬ (g : Int) = -1 := by omega
  have z1 : IntKind.i64.wrap (p : Int) = (p : Int) := IntWalk.i64_in _ (by omega)
  have z2 : IntKind.i64.wrap (q : Int) = (q : Int) := IntWalk.i64_in _ (by omega)
  go_enter Try.func92, Try.ntmps92
  go_wp2_with fail
  refine C.out.mono ?_; rintro e w1 ⟨rfl, b1⟩
  go_wp2_with fail
  go_quiet (fail)
  go_wp2_with fail
  go_ret2
  exact ⟨rfl, b1.drewN _⟩
theorem l1Abs_nat (a : Nat) (w : World) (ha : a ≤ 4611686018427387904) : Calls Try.prog 99 #[.int .i64 a] w fun e w' => e = .returned (.int .i64 a) ∧ w = w' := by
  have n1 : IntKind.i64.wrap (-(a : Int)) = -(a : Int) := IntWalk.i64_in _ (by omega)
  have C : Hid (Calls Try.prog 82 #[.int .i64 a, .int .i64 (-(a : Int))] w fun e w' => e = .returned (.int .i64 a) ∧ w = w') := by
    show Calls _ _ _ _ _
    by_cases h0 : -(a : Int) < (a : Int)
    · go_enter Try.func82, Try.ntmps82
      go_wp2_with fail
      go_ret
      exact ⟨rfl, rfl⟩
    · have h1 : -(a : Int) = (a : Int) := by omega
      go_enter Try.func82, Try.ntmps82
      go_wp2_with fail
      go_ret
      exact ⟨rfl, rfl⟩
  go_enter Try.func99, Try.ntmps99
  go_wp2_with fail
  refine C.out.mono ?_; rintro e _ ⟨rfl, rfl⟩
  go_wp2_with fail
  go_ret
  exact ⟨rfl, rfl⟩
set_option maxHeartbeats 1600000 in
theorem mvPart_any (a b : Nat) (w : World) (ha : a ≤ 4611686018427387904) (hb : b ≤ 4611686018427387904) (h0 : 0 < b) :
    Calls Try.prog 86 #[.int .i64 a, .int .i64 b] w fun e w' => e = .returned (.tuple #[.int .i64 (lowN a b).1, .int .i64 (lowN a b).2]) ∧ Below w.heap.size w w' := by
  have C := Lib.hid (l1Abs_nat a w ha)
  have hg : 0 < Nat.gcd a b := Nat.gcd_pos_of_pos_right a h0
  have hgb : Nat.gcd a b ≤ b := Nat.le_of_dvd h0 (Nat.gcd_dvd_right a b)
  have hl := lowN_le a b
  have q1 : (a : Int).tdiv (Nat.gcd a b : Nat) = ((lowN a b).1 : Int) := tdivN a (Nat.gcd a b)
  have q2 : (b : Int).tdiv (Nat.gcd a b : Nat) = ((lowN a b).2 : Int) := tdivN b (Nat.gcd a b)
  obtain ⟨p, hp⟩ : ∃ p, p = (lowN a b).1 := ⟨_, rfl⟩
  obtain ⟨q, hq⟩ : ∃ q, q = (lowN a b).2 := ⟨_, rfl⟩
  rw [← hp] at q1 hl
  rw [← hq] at q2 hl
  rw [← hp, ← hq]
  clear hp hq
  have z1 : IntKind.i64.wrap (p : Int) = (p : Int) := IntWalk.i64_in _ (by omega)
  have z2 : IntKind.i64.wrap (q : Int) = (q : Int) := IntWalk.i64_in _ (by omega)
  have Z1 := Lib.hid z1
  have Z2 := Lib.hid z2
  have Q1 := Lib.hid q1
  have Q2 := Lib.hid q2
  clear z1 z2 q1 q2
  go_enter Try.func86, Try.ntmps86
  go_wp2_with fail
  refine C.out.mono ?_; rintro e _ ⟨rfl, rfl⟩
  go_wp2_with fail
  go_loopw [6, 7] (fun s t wr => ∃ m n : Nat, s = .int .i64 m ∧ t = .int .i64 n ∧ Hid (Nat.gcd m n = Nat.gcd a b) ∧ m ≤ 4611686018427387904 ∧ n ≤ 4611686018427387904 ∧ Below w.heap.size w wr) (fun _ t _ => (intOf t).toNat)
  case atStart => exact ⟨a, b, rfl, rfl, rfl, ha, hb, Below.refl _ _⟩
  case round =>
    obtain ⟨m, n, rfl, rfl, hgg, hm, hn, hbw⟩ := hrel
    rcases Nat.eq_zero_or_pos n with h9 | h9
    · subst h9
      have h2 := hgg.out
      rw [Nat.gcd_zero_right] at h2
      subst h2
      have q1 := Q1.out
      have q2 := Q2.out
      have z1 := Z1.out
      have z2 := Z2.out
      have g0 : ¬ ((Nat.gcd a b : Nat) : Int) = 0 := by omega
      have g1 : ¬ ((Nat.gcd a b : Nat) : Int) = -1 := by omega
      go_wp2_with fail
      go_quiet (fail)
      go_wp2_with fail
      go_ret2
      exact ⟨rfl, hbw.drewN _⟩
    · have q3 := tmodN m n
      have hlt := Nat.mod_lt m h9
      have hg2 : Hid (Nat.gcd n (m % n) = Nat.gcd a b) := by show _ = _; rw [← hgg.out, Nat.gcd_comm m n, Nat.gcd_rec n m, Nat.gcd_comm]
      obtain ⟨r, hr⟩ : ∃ r, r = m % n := ⟨_, rfl⟩
      rw [← hr] at q3 hlt hg2
      clear hr
      have n0 : ¬ (n : Int) = 0 := by omega
      have n1 : ¬ (n : Int) = -1 := by omega
      have n2 : (0 : Int) < (n : Int) := by omega
      have z3 : IntKind.i64.wrap (r : Int) = (r : Int) := IntWalk.i64_in _ (by omega)
      go_wp2_with fail
      go_roundw
      case rel => exact ⟨n, r, rfl, rfl, hg2, hn, by omega, hbw⟩
      case measure => simp [intOf]; omega
end Go.Proofs.Ytgcgkpmjahgmnaa
